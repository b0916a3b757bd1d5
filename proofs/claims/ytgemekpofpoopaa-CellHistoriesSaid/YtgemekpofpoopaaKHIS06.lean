/-
  A book's change.
  A book's births at the first map.
  A book's births at a later map.
  What Add refuses.
  Add, at the first map.
  Add, at a later map.
  A book's answers.
  What is no book.
  DERIVED: THE SHELF's CONTRACTS AT THIS DUMP, IN PLAIN WORDS (tools/lay-plain.mjs out of 'TryShelfC.lean', which tools/lay-shelf.mjs wrote): THE SAME DECLARATIONS UNDER THE SAME NAMES: 'import', 'namespace', 'open', 'def', 'theorem' AND NOTHING ELSE: no command of the shelf's: FOR A HAND-IN. Each laying: the table of numbers ('.._ren') and one theorem, a field a fact of the dump's own or the kernel's comparison; each contract: ONE APPLICATION.
  maps.Keys and slices.Sorted at the types of this seat.
  The statements' small functions: rows, lists.
  The examples of the chapter, in plain Lean.
-/
import Derived.Test.YtgemekpofpoopaaKHIS05
import Derived.Shelf.SlIterI.Nil
import Derived.Test.YtgemekpofpoopaaProg

set_option linter.unusedSimpArgs false
namespace Go.Proofs.Ytgemekpofpoopaa
open Go.SL Go.Proofs Go.Cast Go.Cell
set_option linter.unusedVariables false

theorem F119_7 : FieldAt Try.prog 119 7 11 := ⟨_,_, Try.underlying119, rfl, rfl, 7, by kernel_rfl⟩
theorem B169 : Builds Try.prog 169 [(0,1), (1,1)] [.int .i64 0, .int .i64 0] := Builds.mk fun _ => by kernel_rfl
theorem F109_2 : FieldAt Try.prog 109 2 2 := ⟨_,_, Try.underlying109, rfl, rfl, 0, by kernel_rfl⟩
theorem F109_3 : FieldAt Try.prog 109 3 3 := ⟨_,_, Try.underlying109, rfl, rfl, 0, by kernel_rfl⟩


theorem map_set_mod {α δ : Type} {g : α → δ} {f : δ → δ} {l : List α} {k : Nat} {t t' : α} (h : l[k]? = some t) (he : g t' = f (g t)) : (l.set k t').map g = (l.map g).modify k f := by
  refine List.ext_getElem? fun i => ?_
  rw [List.getElem?_map, List.getElem?_modify, List.getElem?_map, List.getElem?_set]
  by_cases q : k = i
  · subst q
    obtain ⟨hl,_⟩ := List.getElem?_eq_some_iff.1 h
    rw [if_pos rfl, if_pos hl, h]
    simp [he]
  · rw [if_neg q]; cases l[i]? <;> simp [q]
theorem map_set_same {α δ : Type} {g : α → δ} {l : List α} {k : Nat} {t t' : α} (h : l[k]? = some t) (he : g t' = g t) : (l.set k t').map g = l.map g := by
  refine List.ext_getElem? fun i => ?_
  rw [List.getElem?_map, List.getElem?_map, List.getElem?_set]
  by_cases q : k = i
  · subst q
    obtain ⟨hl,_⟩ := List.getElem?_eq_some_iff.1 h
    rw [if_pos rfl, if_pos hl, h]
    exact congrArg some he
  · rw [if_neg q]
theorem tk_setA {l : List TkR} {k c b : Nat} {p : Option Addr} {t : TkR} : (l.map TkR.cells).set k ((TkR.cells t).take 2 ++ [.slice p (t.ar ++ [b]).length c] ++ (TkR.cells t).drop (2 + [Value.slice p (t.ar ++ [b]).length c].length)) = (l.set k { t with ap := p, ac := c, ar := t.ar ++ [b] }).map TkR.cells := by rw [List.map_set]; rfl
theorem tk_setE {l : List TkR} {k : Nat} {v : Int} {t : TkR} : (l.map TkR.cells).set k ((TkR.cells t).take 3 ++ [.int .i64 v] ++ (TkR.cells t).drop (3 + [Value.int .i64 v].length)) = (l.set k { t with en := v }).map TkR.cells := by rw [List.map_set]; rfl
theorem tk_setC {l : List TkR} {k c b : Nat} {p : Option Addr} {t : TkR} : (l.map TkR.cells).set k ((TkR.cells t).take 5 ++ [.slice p (t.ch ++ [b]).length c] ++ (TkR.cells t).drop (5 + [Value.slice p (t.ch ++ [b]).length c].length)) = (l.set k { t with cp := p, cc := c, ch := t.ch ++ [b] }).map TkR.cells := by rw [List.map_set]; rfl
theorem chg_kept {N a k0 : Nat} {tk0 : List TkM} {of0 : Nat × Nat → Option Nat} {es : List EvM} {e : EvM} (h : TK0 (N + 1) tk0 of0) (hf : e.f = [a]) (hk : of0 (N, a) = some k0) (hes : ∀ x, x ∈ es → a ∉ x.f) : (tk0.map (chgB (N + 1) es)).modify k0 (chE e) = tk0.map (chgB (N + 1) (es ++ [e])) := by
  have h1 := chg_step (es := es) (e := e) (j := 0) h hk (by rw [hf]; rfl) (by rw [hf]; simp) hes
  rw [cut_zero h.en] at h1
  rw [h1]
  have : cut e (0 + 1) = e := by have z := cut_all (e := e); rw [hf] at z; exact z
  rw [this]
/-- What changes lead to, of the lists that lie in memory. -/
structure ChP (N : Nat) (es : List EvM) (tk0 : List TkM) (tk tk' : List TkR) : Prop where
  m : tk'.map TkR.m = tk0.map (chgB (N + 1) es)
  p : tk'.map TkR.pR = tk.map TkR.pR
  c : tk'.map TkR.cR = tk.map TkR.cR
theorem ch_len {N : Nat} {es : List EvM} {tk0 : List TkM} {tk : List TkR} (h : tk.map TkR.m = tk0.map (chgB (N + 1) es)) : tk.length = tk0.length := by
  have := congrArg List.length h; rwa [List.length_map, List.length_map] at this
theorem ch_ar {N : Nat} {es : List EvM} {tk0 : List TkM} {tk : List TkR} {of0 : Nat × Nat → Option Nat} (h0 : TK0 (N + 1) tk0 of0) (h : tk.map TkR.m = tk0.map (chgB (N + 1) es)) {t : TkR} (ht : t ∈ tk) : t.ar.length ≤ N + 2 := by
  have h1 : t.m ∈ tk0.map (chgB (N + 1) es) := by rw [← h]; exact List.mem_map_of_mem ht
  obtain ⟨x, hx, e⟩ := List.mem_map.1 h1
  have hp := (h0.pos x hx).2
  unfold TkM.up at hp
  have e2 : t.ar = (chgB (N + 1) es x).ar := congrArg TkM.ar e.symm
  rw [e2]
  rcases chg_cases (N + 1) es x with ⟨_, z⟩ | ⟨_,_, z⟩ | ⟨_,_, z⟩ <;> rw [z]
  · omega
  · show (x.ar ++ _).length ≤ _; rw [List.length_append, List.length_singleton]; omega
  · show x.ar.length ≤ _; omega
structure ChE (N : Nat) (es : List EvM) (tk0 : List TkM) (of0 : Nat × Nat → Option Nat) (er : EvR) (tk : List TkR) (kd : Nat → Int) : Prop where
  base : TK0 (N + 1) tk0 of0
  tk : tk.map TkR.m = tk0.map (chgB (N + 1) es)
  kind : er.kd = kindM er.f.length er.t.length
  nod : er.f.Nodup
  ap : ∀ x, x ∈ es → (∀ a, a ∈ er.f → a ∉ x.f) ∧ ∀ b, b ∈ er.t → b ∉ x.t
  tot : ∀ a, a ∈ er.f → ∃ k, of0 (N, a) = some k
  len : er.f.length ≤ 1000000
  kb : ∀ j, 0 ≤ kd j ∧ kd j ≤ 1000000000000
  n : N ≤ 1000
theorem ki_bd {a b : Nat} {k : Int} (h : k = kindM a b) : k = (k.toNat : Int) ∧ k.toNat < 8 := by have := kind_rng a b; omega

set_option maxRecDepth 20000 in
set_option maxHeartbeats 8000000 in
theorem change_c (b : Nat) (h : BkH) (la : Int) (q : BkQ) (pt : Option Addr) (ct : Nat) (kd : Nat → Int) (tk : List TkR) (N : Nat) (es : List EvM) (tk0 : List TkM) (of0 : Nat × Nat → Option Nat) (er : EvR) (w : World) (hh : Has w (bkR b h la q pt ct kd tk (ofC N es of0))) (hc : ChE N es tk0 of0 er tk kd) (hcap : ∀ {L : List Res} {v : World}, St ⟨w, fpL (bkR b h la q pt ct kd tk (ofC N es of0))⟩ L v → RO 1 nC v er.fp er.f ∧ RO 1 nC v er.tp er.t) (hef : SlSome er.fp er.f.length) (het : SlSome er.tp er.t.length) :
  Calls Try.prog 92 #[.pointer (some ⟨b, 0, none⟩), .int .i64 ((N + 1 : Nat) : Int), .agg #[.int .i64 er.kd, .slice er.fp er.f.length er.fc, .slice er.tp er.t.length er.tc]] w fun e w' => ∃ tk' : List TkR, ChP N (es ++ [er.m]) tk0 tk tk' ∧ e = .returned (.tuple #[]) ∧ St ⟨w, fpL (bkR b h la q pt ct kd tk (ofC N es of0))⟩ (bkR b h la q pt ct (kdU kd er.kd.toNat) tk' (ofC N (es ++ [er.m]) of0)) w' := by
  obtain ⟨hk1, hk2⟩ := ki_bd hc.kind
  have hkb := hc.kb er.kd.toNat
  have hn := hc.n
  have hel := hc.len
  have hlt := ch_len hc.tk
  refine enterO (vs := [_,_,_]) (env := [(0,_), (1,_), (2,_)]) hh.enter Try.func92 rfl rfl rfl rfl ?_
  refine VC.seq ?_
  refine VC.reg (VO.h rfl<|HO.box (C := #[_,_,_]) rfl rfl fun b5 => VO.nil ?_)
  refine VE.seqN ?_
  refine VC.seq ?_
  refine VC.drawH [[0,1,2,3,4], [0,2,3,4]] [some 0, some 0, some 0, some 0, some 0, some 0, some 0, some 0, some 0, some 0, some 0, none] mixed (by kernel_rfl) rfl (LX.l (fun _ hJ => LO.mv (.r rfl)) rfl<|LX.l (fun _ hJ => LO.fa (r := 0) F81_0 (.r rfl) rfl) rfl<|LX.l (fun _ hJ => LO.ld O3 (.r rfl) (fun _ hw => cells_at (hJ _ hw) 0 rfl ⟨_, rfl⟩)) rfl<|LX.l (fun _ hJ => LO.nc (.r rfl)) rfl<|LX.l (fun _ hJ => LO.fa (r := 11) F119_7 (.r rfl) rfl) rfl<|LX.l (fun _ hJ => LO.ixa (j := er.kd.toNat) (r := 11 + er.kd.toNat) Try.underlying117 N3 (.r rfl) (.r rfl) hk1 hk2 (by omega)) rfl<|LX.l (fun _ hJ => LO.ld O3 (.r rfl) (fun _ hw => cells_at (hJ _ hw) 1 rfl (kd_get hk2))) rfl<|LX.l (fun _ hJ => LO.add (.r rfl) (.r rfl) (wi (by omega) (by omega))) rfl<|LX.l (fun _ hJ => LO.nc (.r rfl)) rfl<|LX.l (fun _ hJ => LO.fa (r := 11) F119_7 (.r rfl) rfl) rfl<|LX.l (fun _ hJ => LO.ixa (j := er.kd.toNat) (r := 11 + er.kd.toNat) Try.underlying117 N3 (.r rfl) (.r rfl) hk1 hk2 (by omega)) rfl<|LX.s<|LX.nil) (HX.s<|HX.s<|HX.s<|HX.s<|HX.s<|HX.s<|HX.s<|HX.s<|HX.s<|HX.s<|HX.s<|HX.h0<|HO.st 1 (vs := [_]) (C' := bkC h la q pt tk.length ct (kdU kd er.kd.toNat)) (L' := [_,_,_,_,_]) N3 rfl rfl rfl rfl (Nat.ble_eq_true_of_le (show 11 + er.kd.toNat + 1 ≤ 19 by omega)) rfl (kd_set hk2) rfl<|⟨fun _ hw => hw.sel [0,2,3,4] rfl, HX.nil ?_⟩)
  refine VE.seqN ?_
  refine VC.seq ?_
  refine VC.seq ?_
  refine VC.reg (VO.l (LO.fa (r := 0) F81_0 (.r rfl) rfl) rfl<|VO.l (LO.ld O3 (.r rfl) (fun _ hw => cells_at hw 0 rfl ⟨_, rfl⟩)) rfl<|VO.l (LO.eq (.r rfl) (.r rfl)) rfl<|VO.nil ?_)
  refine VE.seqN ?_
  refine VC.cond rfl (fun h22 => ?_) (fun h22 => ?_)
  ·
    have hkk := hc.kind
    rw [h22] at hkk
    obtain ⟨hk3, hk4⟩ := kind_one hkk.symm
    obtain ⟨a, hf⟩ : ∃ a, er.f = [a] := ⟨_, one_list hk3⟩
    obtain ⟨bb, ht⟩ : ∃ b, er.t = [b] := ⟨_, one_list hk4⟩
    have hf0 : er.f[0]? = some a := by rw [hf]; rfl
    have ht0 : er.t[0]? = some bb := by rw [ht]; rfl
    obtain ⟨k0, hk0⟩ := hc.tot a (by rw [hf]; simp)
    have hkl := (hc.base.lt hk0).2
    have hk0f : of0 (N, er.m.f.headD 0) = some k0 := by show of0 (N, er.f.headD 0) = _; rw [hf]; exact hk0
    obtain ⟨tr, htr⟩ := get_ex (l := tk) (n := k0) (by omega)
    refine VC.seq ?_
    refine VC.draw mixed (LL.l (LO.mv (.r rfl)) rfl<|LL.l (LO.nc (.r rfl)) rfl<|LL.l (LO.fa (r := 10) F119_6 (.r rfl) rfl) rfl<|LL.l (LO.ld O116 (.r rfl) (fun _ hw => cells_at hw 1 rfl ⟨_, rfl⟩)) rfl<|LL.l (LO.mv (.r rfl)) rfl<|LL.l (LO.eqv (LO.sub (.r rfl) (.r rfl) (wi (by omega) (by omega))) (congrArg (Value.int .i64) (show ((N + 1 : Nat) : Int) - 1 = (N : Int) by omega))) rfl<|LL.l (LO.fa (r := 1) F81_1 (.r rfl) rfl) rfl<|LL.l (LO.ld O40 (.r rfl) (fun _ hw => cells_at hw 0 rfl ⟨_, rfl⟩)) rfl<|LL.l (LO.ixs S40 N3 hef (.r rfl) (.r rfl) (j := 0) rfl (by omega)) rfl<|LL.l (LO.ld O3 (.r rfl) (fun w hw => cells_part (off := 0) ((fun w3 h3 => RO.cel (hcap h3).1 hf0) w hw) ⟨_, rfl⟩)) rfl<|LL.l (LO.bd (ps := [(_,_), (_,_)]) (vs := [(_,_), (_,_)]) (C := [_,_]) B169  ⟨(.r rfl), (.r rfl), trivial⟩ rfl ⟨_, [_], [_,_], rfl, rfl, rfl, rfl, ⟨_, [_], [_,_], rfl, rfl, rfl, rfl, rfl⟩⟩) rfl<|LL.l (LO.eqv (v' := .int .i64 (k0 : Int)) (LO.lkG1 (n := ((N : Int), (a : Int))) M116 (.r rfl) (.r rfl) (fun _ hw => St.inv hw 4 _ rfl)) (by rw [ofI_nat, ofC_old, hk0]; rfl)) rfl<|LL.l (LO.as (.r rfl)) rfl<|LL.nil) (by kernel_rfl) ?_
    refine VE.seqN ?_
    refine VC.seq ?_
    refine VC.res (L' := TkR.aR tr :: bagD ((tk.eraseIdx k0).map TkR.aR) :: [_,_,_,_]) (fun w hw => St.focusAt (f := TkR.aR) (selK [3,0,1,2,4] rfl rfl w hw) htr) ?_
    show VC _ _ _ _ _ _ (own 3 1 tr.ap tr.ac (tr.ar.map nC) :: _) _ _
    refine VC.drawH [[0,1,2,3,4,5], [0,1,2,3,4,5], [1,2,3,4,5], [1,2,3,5]] [some 2, some 2, some 2, some 2, some 2, some 1, some 1, some 1, some 1, some 1, some 1, some 1, some 1, some 0, some 0, some 0, some 0, none, none, some 2, some 2, none] mixed (by kernel_rfl) rfl (LX.l (fun _ hJ => LO.mv (.r rfl)) rfl<|LX.l (fun _ hJ => LO.nc (.r rfl)) rfl<|LX.l (fun _ hJ => LO.fa (r := 9) F119_5 (.r rfl) rfl) rfl<|LX.l (fun _ hJ => LO.ld O102 (.r rfl) (fun _ hw => cells_at (hJ _ hw) 2 rfl ⟨_, rfl⟩)) rfl<|LX.l (fun _ hJ => LO.mv (.r rfl)) rfl<|LX.l (fun _ hJ => LO.mv (.r rfl)) rfl<|LX.l (fun _ hJ => LO.nc (.r rfl)) rfl<|LX.l (fun _ hJ => LO.fa (r := 9) F119_5 (.r rfl) rfl) rfl<|LX.l (fun _ hJ => LO.ld O102 (.r rfl) (fun _ hw => cells_at (hJ _ hw) 3 rfl ⟨_, rfl⟩)) rfl<|LX.l (fun _ hJ => LO.mv (.r rfl)) rfl<|LX.l (fun _ hJ => LO.ixo S102 N109 (fun _ hw => (own_rows (hJ _ hw) 4 rfl).some (by rw [List.length_map]; try omega)) (.r rfl) (.r rfl) rfl (by omega)) rfl<|LX.l (fun _ hJ => LO.fa F109_2 (.r rfl) rfl) rfl<|LX.l (fun _ hJ => LO.ld O40 (.r rfl) (fun w hw => cells_part (off := 2) (own_cell (hJ _ hw) 4 rfl htr) ⟨_, rfl⟩)) rfl<|LX.l (fun _ hJ => LO.fa (r := 2) F81_2 (.r rfl) rfl) rfl<|LX.l (fun _ hJ => LO.ld O40 (.r rfl) (fun _ hw => cells_at (hJ _ hw) 2 rfl ⟨_, rfl⟩)) rfl<|LX.l (fun _ hJ => LO.ixs S40 N3 het (.r rfl) (.r rfl) (j := 0) rfl (by omega)) rfl<|LX.l (fun _ hJ => LO.ld O3 (.r rfl) (fun w hw => cells_part (off := 0) ((fun w3 h3 => RO.cel (hcap h3).2 ht0) w (hJ _ hw)) ⟨_, rfl⟩)) rfl<|LX.s<|LX.s<|LX.l (fun _ hJ => LO.ixo S102 N109 (fun _ hw => (own_rows (hJ _ hw) 3 rfl).some (by rw [List.length_map]; try omega)) (.r rfl) (.r rfl) rfl (by omega)) rfl<|LX.l (fun _ hJ => LO.fa F109_2 (.r rfl) rfl) rfl<|LX.s<|LX.nil) (HX.s<|HX.s<|HX.s<|HX.s<|HX.s<|HX.s<|HX.s<|HX.s<|HX.s<|HX.s<|HX.s<|HX.s<|HX.s<|HX.s<|HX.s<|HX.s<|HX.s<|HX.h rfl<|HO.bs (ps := [(_,_)]) (vs := [(_,_)]) (Z := [_]) (C := [_]) S40 Z3 N3 ⟨(.r rfl), trivial⟩ rfl rfl rfl rfl ⟨_, [_], [_], rfl, rfl, rfl, rfl, rfl⟩ fun b8 => ⟨fun _ hw => hw.sel [1,2,3,4,5,6] rfl, HX.h rfl<|HO.appT (bb) 1 0 (fun R => [_, R,_,_,_,_,_]) S40 S40 I3 (.r rfl) (.r rfl) rfl rfl rfl rfl rfl rfl rfl (fun _ => rfl) rfl (by have := ch_ar hc.base hc.tk (List.mem_of_getElem? htr); omega) fun p18 c18 => ⟨fun _ hw => hw.sel [2,3,4,5,6] rfl, HX.s<|HX.s<|HX.h0<|HO.sto 5 (fun R => [_,_,_,_,_, R,_]) (o := 2) (vs := [_]) N40 (.r rfl) (.r rfl) rfl (map_get htr) rfl rfl (Nat.le_of_ble_eq_true rfl) rfl (fun _ => rfl)<|⟨fun _ hw => hw.sel [2,3,4,6] rfl, HX.nil ?_⟩⟩⟩)
    rw [tk_setA]
    refine VE.seqN ?_
    refine VC.seq ?_
    refine VC.res (L' := bagD ((tk.set k0 { tr with ap := p18, ac := c18, ar := tr.ar ++ [bb] }).map TkR.aR) :: [_,_,_,_,_]) (fun w hw => St.unfocusAt (f := TkR.aR) (a := { tr with ap := p18, ac := c18, ar := tr.ar ++ [bb] }) (i := k0) (selK (L1 := TkR.aR { tr with ap := p18, ac := c18, ar := tr.ar ++ [bb] } :: [_,_,_,_,_,_]) [1,2,0,3,4,5,6] rfl rfl w hw) (by omega)) ?_
    refine VC.drawH [[0,1,2,3,4,5], [0,1,2,3,4]] [some 0, some 0, some 0, some 0, some 0, some 0, some 0, some 0, some 0, some 0, some 0, none] mixed (by kernel_rfl) rfl (LX.l (fun _ hJ => LO.mv (.r rfl)) rfl<|LX.l (fun _ hJ => LO.nc (.r rfl)) rfl<|LX.l (fun _ hJ => LO.fa (r := 10) F119_6 (.r rfl) rfl) rfl<|LX.l (fun _ hJ => LO.ld O116 (.r rfl) (fun _ hw => cells_at (hJ _ hw) 3 rfl ⟨_, rfl⟩)) rfl<|LX.l (fun _ hJ => LO.mv (.r rfl)) rfl<|LX.l (fun _ hJ => LO.fa (r := 2) F81_2 (.r rfl) rfl) rfl<|LX.l (fun _ hJ => LO.ld O40 (.r rfl) (fun _ hw => cells_at (hJ _ hw) 2 rfl ⟨_, rfl⟩)) rfl<|LX.l (fun _ hJ => LO.ixs S40 N3 het (.r rfl) (.r rfl) (j := 0) rfl (by omega)) rfl<|LX.l (fun _ hJ => LO.ld O3 (.r rfl) (fun w hw => cells_part (off := 0) ((fun w3 h3 => RO.cel (hcap h3).2 ht0) w (hJ _ hw)) ⟨_, rfl⟩)) rfl<|LX.l (fun _ hJ => LO.bd (ps := [(_,_), (_,_)]) (vs := [(_,_), (_,_)]) (C := [_,_]) B169  ⟨(.r rfl), (.r rfl), trivial⟩ rfl ⟨_, [_], [_,_], rfl, rfl, rfl, rfl, ⟨_, [_], [_,_], rfl, rfl, rfl, rfl, rfl⟩⟩) rfl<|LX.l (fun _ hJ => LO.mv (.r rfl)) rfl<|LX.s<|LX.nil) (HX.s<|HX.s<|HX.s<|HX.s<|HX.s<|HX.s<|HX.s<|HX.s<|HX.s<|HX.s<|HX.s<|HX.h0<|HO.mupG 5 (fun R => [_,_,_,_,_, R]) (((N + 1 : Nat) : Int), (bb : Int)) k0 M116 (.r rfl) (.r rfl) (.r rfl) rfl (fun _ => rfl)<|⟨fun _ hw => hw.sel [0,1,2,3,4] rfl, HX.nil ?_⟩)
    refine VE.seqN ?_
    refine VC.ret (VE.thenR (VE.res (vs := []) rfl trivial (fun w hw => ?_)))
    rw [ofI_upd, ofC_take (e := er.m) h22 ht hk0f (fun x hx => (hc.ap x hx).2 bb (by rw [ht]; simp))] at hw
    refine ⟨tk.set k0 { tr with ap := p18, ac := c18, ar := tr.ar ++ [bb] }, ⟨?_, map_set_same htr rfl, map_set_same htr rfl⟩, rfl, ?_⟩
    · rw [map_set_mod (f := chE er.m) htr (by unfold chE; rw [if_pos (show er.m.kd = 4 from h22)]; show _ = ({ tr.m with ar := tr.ar ++ [er.t.headD 0] } : TkM); rw [ht]; rfl), hc.tk]
      exact chg_kept hc.base hf hk0 (fun x hx => (hc.ap x hx).1 a (by rw [hf]; simp))
    · have hs := selK [3,4,0,5] rfl rfl _ hw
      have hlen : tk.length = (tk.set k0 { tr with ap := p18, ac := c18, ar := tr.ar ++ [bb] }).length := by rw [List.length_set]
      rw [hlen] at hs
      exact hs
  ·
    refine VC.skip (VE.seqN ?_)
    refine VC.seq ?_
    refine VC.reg (VO.l (LO.fa (r := 1) F81_1 (.r rfl) rfl) rfl<|VO.l (LO.ld O40 (.r rfl) (fun _ hw => cells_at hw 0 rfl ⟨_, rfl⟩)) rfl<|VO.l (LO.len S40 (.r rfl) rfl) rfl<|VO.l (LO.mv (.r rfl)) rfl<|VO.nil ?_)
    refine VE.seqN ?_
    refine VC.block ?_
    refine VC.perm [2,0,1,3,4] rfl ?_
    refine VC.loopK (α := Nat × (List TkR)) 1 (fun gx => [(70, .int .i64 (gx.1 : Nat))]) [(0,_), (1,_), (5,_), (68,_), (69,_)] (fun gx => [own 109 6 pt ct (gx.2.map TkR.cells)]) (fun gx => gx.1 ≤ er.f.length ∧ gx.2.length = tk.length ∧ gx.2.map TkR.aR = tk.map TkR.aR ∧ ChP N (es ++ [cut er.m gx.1]) tk0 tk gx.2) (fun gx => er.f.length - gx.1) (0, tk) (by exact ⟨Nat.zero_le _, rfl, rfl, by rw [cut_zero hc.base.en]; exact hc.tk, rfl, rfl⟩) (.cons rfl (.cons rfl (.cons rfl (.cons rfl (.cons rfl (.cons rfl .nil)))))) (fun _ h => h) ?_
    rintro ⟨j, tkj⟩ ⟨hj, hln, haR, ⟨hm, hpR, hcR⟩⟩
    show VC _ _ _ _ _ ([(70, .int .i64 (j : Nat))] ++ _) ([own 109 6 pt ct (tkj.map TkR.cells)] ++ _) _ _
    dsimp only at hj hln haR hm hpR hcR
    refine VC.seq ?_
    refine VC.reg (VO.l (LO.lt (.r rfl) (.r rfl)) rfl<|VO.nil ?_)
    refine VE.seqN ?_
    refine VC.seq ?_
    refine VC.cond rfl (fun h71 => ?_) (fun h71 => ?_)
    ·
      obtain ⟨ai, hf0⟩ := get_ex (l := er.f) (n := j) (by omega)
      obtain ⟨k0, hk0⟩ := hc.tot ai (List.mem_of_getElem? hf0)
      have hkl := (hc.base.lt hk0).2
      obtain ⟨tr, htr⟩ := get_ex (l := tkj) (n := k0) (by omega)
      refine VC.skip (VE.seqN ?_)
      refine VC.seq ?_
      refine VC.block ?_
      refine VC.seq ?_
      refine VC.reg (VO.l (LO.ixs S40 N3 hef (.r rfl) (.r rfl) rfl (by omega)) rfl<|VO.l (LO.ld O3 (.r rfl) (fun w hw => cells_part (off := 0) ((fun w3 h3 => RO.cel (hcap h3).1 hf0) w hw) ⟨_, rfl⟩)) rfl<|VO.l (LO.as (.r rfl)) rfl<|VO.nil ?_)
      refine VE.seqN ?_
      refine VC.drawH [[0,1,2,3,4], [1,2,3,4]] [some 0, some 0, some 0, some 0, some 0, some 0, some 0, some 0, some 0, some 0, some 0, some 0, some 0, some 0, some 0, some 0, some 0, none] mixed (by kernel_rfl) rfl (LX.l (fun _ hJ => LO.mv (.r rfl)) rfl<|LX.l (fun _ hJ => LO.nc (.r rfl)) rfl<|LX.l (fun _ hJ => LO.fa (r := 9) F119_5 (.r rfl) rfl) rfl<|LX.l (fun _ hJ => LO.ld O102 (.r rfl) (fun _ hw => cells_at (hJ _ hw) 2 rfl ⟨_, rfl⟩)) rfl<|LX.l (fun _ hJ => LO.mv (.r rfl)) rfl<|LX.l (fun _ hJ => LO.nc (.r rfl)) rfl<|LX.l (fun _ hJ => LO.fa (r := 10) F119_6 (.r rfl) rfl) rfl<|LX.l (fun _ hJ => LO.ld O116 (.r rfl) (fun _ hw => cells_at (hJ _ hw) 2 rfl ⟨_, rfl⟩)) rfl<|LX.l (fun _ hJ => LO.mv (.r rfl)) rfl<|LX.l (fun _ hJ => LO.eqv (LO.sub (.r rfl) (.r rfl) (wi (by omega) (by omega))) (congrArg (Value.int .i64) (show ((N + 1 : Nat) : Int) - 1 = (N : Int) by omega))) rfl<|LX.l (fun _ hJ => LO.mv (.r rfl)) rfl<|LX.l (fun _ hJ => LO.bd (ps := [(_,_), (_,_)]) (vs := [(_,_), (_,_)]) (C := [_,_]) B169  ⟨(.r rfl), (.r rfl), trivial⟩ rfl ⟨_, [_], [_,_], rfl, rfl, rfl, rfl, ⟨_, [_], [_,_], rfl, rfl, rfl, rfl, rfl⟩⟩) rfl<|LX.l (fun _ hJ => LO.eqv (v' := .int .i64 (k0 : Int)) (LO.lkG1 (n := ((N : Int), (ai : Int))) M116 (.r rfl) (.r rfl) (fun _ hw => St.inv (hJ _ hw) 4 _ rfl)) (by rw [ofI_nat, ofC_old, hk0]; rfl)) rfl<|LX.l (fun _ hJ => LO.fa (r := 0) F81_0 (.r rfl) rfl) rfl<|LX.l (fun _ hJ => LO.ld O3 (.r rfl) (fun _ hw => cells_at (hJ _ hw) 1 rfl ⟨_, rfl⟩)) rfl<|LX.l (fun _ hJ => LO.ixo S102 N109 (fun _ hw => (own_rows (hJ _ hw) 0 rfl).some (by rw [List.length_map]; try omega)) (.r rfl) (.r rfl) rfl (by omega)) rfl<|LX.l (fun _ hJ => LO.fa F109_3 (.r rfl) rfl) rfl<|LX.s<|LX.nil) (HX.s<|HX.s<|HX.s<|HX.s<|HX.s<|HX.s<|HX.s<|HX.s<|HX.s<|HX.s<|HX.s<|HX.s<|HX.s<|HX.s<|HX.s<|HX.s<|HX.s<|HX.h0<|HO.sto 0 (fun R => [R,_,_,_,_]) (o := 3) (vs := [_]) N3 (.r rfl) (.r rfl) rfl (map_get htr) rfl rfl (Nat.le_of_ble_eq_true rfl) rfl (fun _ => rfl)<|⟨fun _ hw => hw.sel [1,2,3,4] rfl, HX.nil ?_⟩)
      rw [tk_setE]
      refine VE.inN (VE.seqN ?_)
      refine VC.reg (VO.l (LO.add (.r rfl) (.r rfl) (wi (by omega) (by omega))) rfl<|VO.l (LO.mv (.r rfl)) rfl<|VO.nil ?_)
      refine VE.thenN fun a w ha hw => ⟨(j + 1, tkj.set k0 { tr with en := er.kd }), ⟨by dsimp only; omega, by dsimp only; rw [List.length_set]; exact hln, (map_set_same (t' := { tr with en := er.kd }) htr rfl).trans haR, by dsimp only; rw [map_set_mod (f := chE er.m) htr (by unfold chE; rw [if_neg (show ¬ er.m.kd = 4 from h22)]; rfl), hm]; exact chg_step hc.base hk0 hf0 hc.nod (fun x hx => (hc.ap x hx).1 ai (List.mem_of_getElem? hf0)), (map_set_same (t' := { tr with en := er.kd }) htr rfl).trans hpR, (map_set_same (t' := { tr with en := er.kd }) htr rfl).trans hcR⟩, (by dsimp only; omega), ha.sub (.cons rfl (.cons rfl (.cons rfl (.cons rfl (.cons rfl (.cons rfl .nil)))))), hw⟩
    ·
      refine VC.exit (VE.thenX (VE.thenX (VE.inX (VE.resN (vs := []) rfl trivial (fun w hw => ?_)))))
      have hje : j = er.f.length := by omega
      subst hje
      rw [show cut er.m er.f.length = er.m from cut_all] at hm
      refine ⟨tkj, ⟨hm, hpR, hcR⟩, rfl, ?_⟩
      rw [ofC_skip (e := er.m) (show er.m.kd ≠ 4 from h22)]
      have hs := selK [2,0,3,4] rfl rfl _ hw
      rw [← haR, ← hln] at hs
      exact hs

end Go.Proofs.Ytgemekpofpoopaa

namespace Go.Proofs.Ytgemekpofpoopaa
open Go.SL Go.Proofs Go.Cast Go.Cell
set_option linter.unusedVariables false

theorem F119_4 : FieldAt Try.prog 119 4 8 := ⟨_,_, Try.underlying119, rfl, rfl, 0, by kernel_rfl⟩
theorem O115 : IsOne Try.prog 115 := ⟨⟨_, Try.underlying115, rfl⟩, by kernel_rfl⟩
theorem S115 : IsSlice Try.prog 115 154 := Try.underlying115
theorem C119 : IsFn Try.prog 119 := ⟨_, Try.func119, by decide, rfl⟩


abbrev spC (g : Grid) (y : ArY) : List Value := [.int .i64 g.x, .int .i64 g.y, .int .i64 g.size, .int .i64 g.wide, .int .i64 g.high, .slice y.p y.l.length y.c, .slice y.po (gW g * gH g) y.co]
abbrev bkF (b : Nat) (h : BkH) (la : Int) (pm : Option Addr) (cm : Nat) (ys : List ArY) (pt : Option Addr) (ct : Nat) (kd : Nat → Int) (tk : List TkR) (of : Nat × Nat → Option Nat) : List Res :=
  [blk b (.cells (bkC h la ⟨pm, ys.length, cm⟩ pt tk.length ct kd).toArray 119), own 109 6 pt ct (tk.map TkR.cells), bagD (tk.map TkR.aR), mapR plV niV h.bm (ofI of), own 154 7 pm cm (ys.map (spC h.g)), bagD (tk.map TkR.pR), bagD (tk.map TkR.cR)]
abbrev evV (e : EvR) : Value := .agg #[.int .i64 e.kd, .slice e.fp e.f.length e.fc, .slice e.tp e.t.length e.tc]
theorem M202 : IsMapG Try.prog (202) intV evV EvR.z := ⟨3,81, Try.underlying202, key_int Try.underlying3, Z81⟩
def hasT (l : List Nat) (x : Int) : Bool := l.any fun j => decide ((j : Int) = x)
theorem hasT_iff {l : List Nat} {x : Int} : hasT l x = true ↔ ∃ j : Nat, j ∈ l ∧ (j : Int) = x := by
  unfold hasT; rw [List.any_eq_true]
  exact ⟨fun ⟨j, h1, h2⟩ => ⟨j, h1, of_decide_eq_true h2⟩, fun ⟨j, h1, h2⟩ => ⟨j, h1, decide_eq_true h2⟩⟩
theorem hasT_nat {l : List Nat} {j : Nat} : hasT l (j : Int) = decide (j ∈ l) := by
  refine Bool.eq_iff_iff.2 ⟨fun h => ?_, fun h => hasT_iff.2 ⟨j, of_decide_eq_true h, rfl⟩⟩
  obtain ⟨i, h1, h2⟩ := hasT_iff.1 h
  have : i = j := by omega
  subst this; exact decide_eq_true h1
theorem hasT_app {l m : List Nat} {x : Int} : hasT (l ++ m) x = (hasT l x || hasT m x) := by unfold hasT; rw [List.any_append]
theorem hasT_one {j : Nat} {x : Int} : hasT [j] x = decide ((j : Int) = x) := by unfold hasT; simp
def byF (l : List EvR) (x : Int) : Option EvR := l.find? fun e => hasT e.t x
def byI (l : List EvR) (k : Nat) (e : EvR) (i : Nat) (x : Int) : Option EvR := if hasT (e.t.take i) x = true then some e else byF (l.take k) x
theorem byI_zero {l : List EvR} {k : Nat} {e : EvR} : byI l k e 0 = byF (l.take k) := by funext x; unfold byI; rw [if_neg (by rw [List.take_zero]; exact Bool.false_ne_true)]
theorem byI_step {l : List EvR} {k i j : Nat} {e : EvR} (h : e.t[i]? = some j) : updG (byI l k e i) (j : Int) e = byI l k e (i + 1) := by
  funext x
  obtain ⟨hi, rfl⟩ := List.getElem?_eq_some_iff.1 h
  unfold updG byI
  rw [List.take_succ_eq_append_getElem hi, hasT_app, hasT_one]
  by_cases q : x = (e.t[i] : Int)
  · subst q; rw [if_pos rfl, decide_eq_true rfl, Bool.or_true, if_pos rfl]
  · rw [if_neg q, decide_eq_false (fun z => q z.symm), Bool.or_false]
theorem byI_done {l : List EvR} {k : Nat} {e : EvR} (h : l[k]? = some e) (hap : (l.map EvR.m).Pairwise fun a b => (∀ i, i ∈ a.f → i ∉ b.f) ∧ ∀ j, j ∈ a.t → j ∉ b.t) : byI l k e e.t.length = byF (l.take (k + 1)) := by
  funext x
  obtain ⟨hk, rfl⟩ := List.getElem?_eq_some_iff.1 h
  unfold byI byF
  rw [List.take_length, List.take_succ_eq_append_getElem hk, List.find?_append]
  cases z : hasT l[k].t x with
  | true =>
    rw [if_pos rfl]
    obtain ⟨j, z1, z2⟩ := hasT_iff.1 z
    have e0 : (l.take k).find? (fun e => hasT e.t x) = none := List.find?_eq_none.2 fun a ha => by
      obtain ⟨i, hi, rfl⟩ := List.mem_iff_getElem.1 ha
      rw [List.length_take] at hi
      have hp := List.pairwise_iff_getElem.1 (List.pairwise_map.1 hap) i k (by omega) hk (by omega)
      rw [List.getElem_take]
      intro y
      obtain ⟨j', y1, y2⟩ := hasT_iff.1 y
      have : j' = j := by omega
      subst this
      exact hp.2 j' y1 z1
    rw [e0]
    simp only [List.find?_cons, Option.none_or, z]
  | false =>
    rw [if_neg (by decide)]
    simp only [List.find?_cons, List.find?_nil, z, Option.or_none]
theorem by_bef {l : List EvR} {j : Nat} : ((byF l (j : Int)).getD EvR.z).m = bef (l.map EvR.m) j := by
  unfold byF bef
  rw [List.find?_map]
  have e : (fun e : EvR => hasT e.t (j : Int)) = ((fun e : EvM => decide (j ∈ e.t)) ∘ EvR.m) := by
    funext e; exact hasT_nat
  rw [e]
  cases l.find? ((fun e : EvM => decide (j ∈ e.t)) ∘ EvR.m) <;> rfl
theorem by_mem {l : List EvR} {j : Nat} (h : ∃ e, e ∈ l ∧ j ∈ e.t) : (byF l (j : Int)).getD EvR.z ∈ l := by
  obtain ⟨e, h1, h2⟩ := h
  cases z : byF l (j : Int) with
  | none =>
    unfold byF at z
    exact absurd (hasT_nat.trans (decide_eq_true h2)) (by simpa using List.find?_eq_none.1 z e h1)
  | some a => unfold byF at z; exact List.mem_of_find?_eq_some z
theorem addCh_nil {l : List TkM} {n : Nat} : addCh l [] n = l := by
  refine List.ext_getElem? fun k => ?_
  rw [addCh_get]
  cases l[k]? with
  | none => rfl
  | some t => show some (adj [] n k t) = _; unfold adj; rw [if_neg (by simp)]
theorem addCh_step {l : List TkM} {ps : List Nat} {n r p : Nat} (h : ps[r]? = some p) (hn : ps.Nodup) : (addCh l (ps.take r) n).modify p (fun t => { t with ch := t.ch ++ [n] }) = addCh l (ps.take (r + 1)) n := by
  refine List.ext_getElem? fun k => ?_
  rw [List.getElem?_modify, addCh_get, addCh_get]
  obtain ⟨hr, rfl⟩ := List.getElem?_eq_some_iff.1 h
  cases l[k]? with
  | none => rfl
  | some t =>
    show some _ = some (adj (ps.take (r + 1)) n k t)
    unfold adj
    rw [List.take_succ_eq_append_getElem hr]
    by_cases q : ps[r] = k
    · subst q
      have h1 : ps[r] ∉ ps.take r := fun hm => by
        obtain ⟨i, hi, hi2⟩ := List.mem_iff_getElem.1 hm
        rw [List.getElem_take] at hi2
        rw [List.length_take] at hi
        exact List.pairwise_iff_getElem.1 hn i r (by omega) hr (by omega) hi2
      rw [if_neg h1, if_pos (List.mem_append.2 (.inr (List.mem_singleton.2 rfl)))]
      simp
    · have h1 : k ∈ ps.take r ++ [ps[r]] ↔ k ∈ ps.take r := by rw [List.mem_append, List.mem_singleton]; exact ⟨fun z => z.elim id (fun y => absurd y.symm q), .inl⟩
      simp only [h1, q, if_false]
structure BiY where
  tk : List TkR
  pt : Option Addr
  ct : Nat
  of : Nat × Nat → Option Nat
theorem birth_new {N j : Nat} {evs : List EvM} {tk tk' : List TkM} {of : Nat × Nat → Option Nat} {s0 : List TkM × (Nat × Nat → Option Nat)} (hB : (tk, of) = birthsM N evs s0 j) (hn : newB N evs j = true) {ps : List Nat} (hp : parOf tk N evs j = ps) (hm : tk' = addCh (tk ++ [trB N evs ps j]) ps tk.length) : (tk', updG of (N, j) tk.length) = birthsM N evs s0 (j + 1) := by
  show _ = birthM N evs (birthsM N evs s0 j) j
  rw [← hB]; unfold birthM; rw [if_pos hn, hp, hm]
theorem birth_old {N j : Nat} {evs : List EvM} {tk : List TkM} {of : Nat × Nat → Option Nat} {s0 : List TkM × (Nat × Nat → Option Nat)} (hB : (tk, of) = birthsM N evs s0 j) (hn : ¬ newB N evs j = true) : (tk, of) = birthsM N evs s0 (j + 1) := by
  show _ = birthM N evs (birthsM N evs s0 j) j
  rw [← hB]; unfold birthM; rw [if_neg hn]
theorem parB_nodup {tk : List TkM} {N : Nat} {f : List Nat} : (parB tk N f).Pairwise (· < ·) := sorted_filter
set_option maxRecDepth 20000 in
set_option maxHeartbeats 8000000 in
theorem births0_c (b : Nat) (h : BkH) (la : Int) (pm : Option Addr) (cm : Nat) (ys : List ArY) (pt : Option Addr) (ct : Nat) (kd : Nat → Int) (tk : List TkR) (of : Nat × Nat → Option Nat) (m_ : Nat) (y0 : ArY) (hyN : ys[0]? = some y0) (hm_ : y0.l.length = m_) (w : World) (hh : Has w (bkF b h la pm cm ys pt ct kd tk of)) (hl : tk.length + m_ ≤ 900000) :
  Calls Try.prog 93 #[.pointer (some ⟨b, 0, none⟩), .int .i64 0, .slice none 0 0] w fun e w' => ∃ y : BiY, ((y.tk.map TkR.m, y.of) = birthsM 0 [] (tk.map TkR.m, of) m_ ∧ y.tk.length ≤ tk.length + m_) ∧ e = .returned (.tuple #[]) ∧ St ⟨w, fpL (bkF b h la pm cm ys pt ct kd tk of)⟩ (bkF b h la pm cm ys y.pt y.ct kd y.tk y.of) w' := by
  have hyl : 0 < ys.length := (List.getElem?_eq_some_iff.1 hyN).1
  refine enterO (vs := [_,_,_]) (env := [(0,_), (1,_), (2,_)]) hh.enter Try.func93 rfl rfl rfl rfl ?_
  refine VC.seq ?_
  refine VC.reg (VO.h rfl<|HO.mkmapG intV evV fun b8 => VO.h rfl<|HO.lo (LO.as (.r rfl))<|VO.nil ?_)
  refine VE.seqN ?_
  refine VC.seq ?_
  refine VC.seq ?_
  refine VC.reg (VO.l (LO.mv (.r rfl)) rfl<|VO.l (LO.len S46 (.r rfl) rfl) rfl<|VO.l (LO.mv (.r rfl)) rfl<|VO.nil ?_)
  refine VE.seqN ?_
  refine VC.block ?_
  refine VC.loopK (α := Nat) 0 (fun gx => [(22, .int .i64 (gx : Nat))]) [(0,_), (1,_), (6,_), (20,_), (21,_)] (fun gx => []) (fun gx => True) (fun gx => 1 - gx) 0 (by exact trivial) (.cons rfl (.cons rfl (.cons rfl (.cons rfl (.cons rfl (.cons rfl .nil)))))) (fun _ h => h) ?_
  rintro k _
  refine VC.seq ?_
  refine VC.reg (VO.l (LO.lt (.r rfl) (.r rfl)) rfl<|VO.nil ?_)
  refine VE.seqN ?_
  refine VC.seq ?_
  refine VC.cond rfl (fun h23 => ?_) (fun h23 => ?_)
  ·
    (exfalso; simp at h23; try omega)
  ·
    refine VC.exit (VE.thenX (VE.thenX (VE.inX (VE.seqN ?_))))
    refine VC.seq ?_
    refine VC.reg (VO.l (LO.mv (.r rfl)) rfl<|VO.l (LO.nc (.r rfl)) rfl<|VO.l (LO.fa (r := 8) F119_4 (.r rfl) rfl) rfl<|VO.l (LO.ld O115 (.r rfl) (fun _ hw => cells_at hw 1 rfl ⟨_, rfl⟩)) rfl<|VO.l (LO.mv (.r rfl)) rfl<|VO.l (LO.ixo S115 N154 (fun _ hw => (own_rows hw 5 rfl).some (by rw [List.length_map])) (.r rfl) (.r rfl) (j := 0) rfl (by omega)) rfl<|VO.l (LO.fa F154_1 (.r rfl) rfl) rfl<|VO.l (LO.ld O29 (.r rfl) (fun w hw => cells_part (off := 5) (own_cell hw 5 rfl hyN) ⟨_, rfl⟩)) rfl<|VO.l (LO.len S29 (.r rfl) rfl) rfl<|VO.l (LO.mv (.r rfl)) rfl<|VO.nil ?_)
    refine VE.seqN ?_
    refine VC.block ?_
    refine VC.perm [1,2,3,4,6,7,0,5] rfl ?_
    refine VC.loopK (α := Nat × (List TkR) × (Option Addr) × Nat × (Nat × Nat → Option Nat)) 6 (fun gx => [(47, .int .i64 (gx.1 : Nat))]) [(0,_), (1,_), (6,_), (46,_)] (fun gx => [blk b (.cells (bkC h la ⟨pm, ys.length, cm⟩ gx.2.2.1 gx.2.1.length gx.2.2.2.1 kd).toArray 119), own 109 6 gx.2.2.1 gx.2.2.2.1 (gx.2.1.map TkR.cells), bagD (gx.2.1.map TkR.aR), mapR plV niV h.bm (ofI gx.2.2.2.2), bagD (gx.2.1.map TkR.pR), bagD (gx.2.1.map TkR.cR)]) (fun gx => gx.1 ≤ m_ ∧ (gx.2.1.map TkR.m, gx.2.2.2.2) = birthsM 0 [] (tk.map TkR.m, of) gx.1 ∧ gx.2.1.length ≤ tk.length + gx.1) (fun gx => m_ - gx.1) (0, tk, pt, ct, of) (by exact ⟨Nat.zero_le _, rfl, Nat.le_refl _⟩) (.cons rfl (.cons rfl (.cons rfl (.cons rfl (.cons rfl .nil))))) (fun _ h => h) ?_
    rintro ⟨j, tkj, ptj, ctj, ofj⟩ ⟨hj, hB, hlj⟩
    show VC _ _ _ _ _ ([(47, .int .i64 (j : Nat))] ++ _) ([blk b (.cells (bkC h la ⟨pm, ys.length, cm⟩ ptj tkj.length ctj kd).toArray 119), own 109 6 ptj ctj (tkj.map TkR.cells), bagD (tkj.map TkR.aR), mapR plV niV h.bm (ofI ofj), bagD (tkj.map TkR.pR), bagD (tkj.map TkR.cR)] ++ _) _ _
    dsimp only at hj hB hlj
    refine VC.seq ?_
    refine VC.reg (VO.l (LO.lt (.r rfl) (.r rfl)) rfl<|VO.nil ?_)
    refine VE.seqN ?_
    refine VC.seq ?_
    refine VC.cond rfl (fun h48 => ?_) (fun h48 => ?_)
    ·
      refine VC.skip (VE.seqN ?_)
      refine VC.seq ?_
      refine VC.block ?_
      refine VC.seq ?_
      refine VC.reg (VO.l (LO.mv (.r rfl)) rfl<|VO.l (LO.as (.r rfl)) rfl<|VO.nil ?_)
      refine VE.seqN ?_
      refine VC.seq ?_
      refine VC.reg (VO.l (LO.mv (.r rfl)) rfl<|VO.l (LO.mv (.r rfl)) rfl<|VO.l (LO.lkG1 (n := (j : Int)) M202 (.r rfl) (.r rfl) (fun _ hw => St.inv hw 6 _ rfl)) rfl<|VO.h rfl<|HO.alloc (C := #[_,_,_]) Z81 rfl fun b9 => VO.h0<|HO.st 0 (vs := [_,_,_]) (C' := [_,_,_]) (L' := [_,_,_,_,_,_,_,_,_]) N81 rfl rfl rfl rfl rfl rfl rfl rfl<|VO.nil ?_)
      refine VE.seqN ?_
      refine VC.block ?_
      refine VC.seq ?_
      refine VC.reg (VO.l (LO.mv (.r rfl)) rfl<|VO.l (LO.eq (.r rfl) (.r rfl)) rfl<|VO.l (LO.as (.r rfl)) rfl<|VO.nil ?_)
      refine VE.seqN ?_
      refine VC.cond rfl (fun h53 => ?_) (fun h53 => ?_)
      ·
        refine VC.reg (VO.l (LO.mv (.r rfl)) rfl<|VO.l (LO.mv (.r rfl)) rfl<|VO.l (LO.bd (ps := [(_,_), (_,_)]) (vs := [(_,_), (_,_)]) (C := [_,_]) B169  ⟨(.r rfl), (.r rfl), trivial⟩ rfl ⟨_, [_], [_,_], rfl, rfl, rfl, rfl, ⟨_, [_], [_,_], rfl, rfl, rfl, rfl, rfl⟩⟩) rfl<|VO.h rfl<|HO.callP (first := []) (cap := []) (xs := [_,_,_,_]) (vs := [_,_,_,_]) [_,_,_,_] [_,_,_,_,_] (selK (L1 := [_,_,_,_] ++ [_,_,_,_,_]) [1,2,3,4,0,5,6,7,8] rfl rfl) (.r rfl) C119 ⟨(.r rfl), (.r rfl), (.r rfl), (.r rfl), trivial⟩ (fun w hw hh => begin_c b h la ⟨pm, ys.length, cm⟩ ptj ctj kd tkj ofj 1 0 j none 0 [] w hh (by omega)) fun y _ => VO.nil ?_)
        refine VE.inN (VE.inN (VE.seqN ?_))
        refine VC.reg (VO.l (LO.add (.r rfl) (.r rfl) (wi (by omega) (by omega))) rfl<|VO.l (LO.mv (.r rfl)) rfl<|VO.nil ?_)
        refine VE.thenN fun a w ha hw => ⟨(j + 1, tkj ++ [(newT 1 0 j y.ap y.ac none 0 [])], y.pt, y.ct, updG ofj (0, j) tkj.length), ⟨by dsimp only; omega, by have z := birth_new (tk' := (tkj ++ [newT 1 0 j y.ap y.ac none 0 []]).map TkR.m) hB (decide_eq_true (.inl rfl)) (ps := []) rfl (by rw [addCh_nil, List.map_append]; rfl); rw [List.length_map] at z; exact z, by dsimp only; rw [List.length_append, List.length_singleton]; omega⟩, (by dsimp only; omega), ha.sub (.cons rfl (.cons rfl (.cons rfl (.cons rfl (.cons rfl .nil))))), (by dsimp only; rw [List.map_append (f := TkR.pR), List.map_append (f := TkR.cR)]; exact selK (L1 := [_,_,_,_,_,_,_,_]) [2,3,4,5,0,1,6,7] rfl rfl _ (St.bagAdd (r := TkR.pR (newT 1 0 j y.ap y.ac none 0 [])) (L := bagD (tkj.map TkR.cR ++ [TkR.cR (newT 1 0 j y.ap y.ac none 0 [])]) :: [_,_,_,_,_,_]) (selK (L1 := TkR.pR (newT 1 0 j y.ap y.ac none 0 []) :: bagD (tkj.map TkR.pR) :: bagD (tkj.map TkR.cR ++ [TkR.cR (newT 1 0 j y.ap y.ac none 0 [])]) :: [_,_,_,_,_,_]) [0,2,1,3,4,5,6,7,8] rfl rfl _ ((St.bagAdd (r := TkR.cR (newT 1 0 j y.ap y.ac none 0 [])) (L := bagD (tkj.map TkR.pR) :: [_,_,_,_,_,_]) (selK (L1 := TkR.cR (newT 1 0 j y.ap y.ac none 0 []) :: bagD (tkj.map TkR.cR) :: bagD (tkj.map TkR.pR) :: [_,_,_,_,_,_]) [0,7,6,1,2,3,4,8,9] rfl rfl _ (hw.ownNil 3 1))).ownNil 3 1))))⟩
      ·
        (exfalso; exact h53 rfl)
    ·
      refine VC.exit (VE.thenX (VE.thenX (VE.inX (VE.resN (vs := []) rfl trivial (fun w hw => ?_)))))
      have hje : j = m_ := by omega
      subst hje
      exact ⟨⟨tkj, ptj, ctj, ofj⟩, ⟨hB, hlj⟩, rfl, selK [0,1,2,3,7,4,5] rfl rfl _ hw⟩

end Go.Proofs.Ytgemekpofpoopaa

namespace Go.Proofs.Ytgemekpofpoopaa
open Go.SL Go.Proofs Go.Cast Go.Cell
set_option linter.unusedVariables false

theorem F109_5 : FieldAt Try.prog 109 5 5 := ⟨_,_, Try.underlying109, rfl, rfl, 0, by kernel_rfl⟩


structure BiE (E : List (List EvM)) (Ms : List Nat) (n m_ : Nat) (l : List EvR) (tk : List TkR) (of : Nat × Nat → Option Nat) : Prop where
  len : Ms.length = n + 2
  at_ : Ms.getD (n + 1) 0 = m_
  ev : E.getD (n + 1) [] = l.map EvR.m
  good : GoodEv (Ms.getD n 0) m_ (l.map EvR.m)
  inv : TInvQ E Ms 0 (tk.map TkR.m) of
  m : m_ ≤ 4096
  n : n ≤ 1000
theorem BiE.at {E : List (List EvM)} {Ms : List Nat} {n m_ j : Nat} {l : List EvR} {tk tkj : List TkR} {of ofj : Nat × Nat → Option Nat} (h : BiE E Ms n m_ l tk of) (hj : j ≤ m_) (hB : (tkj.map TkR.m, ofj) = birthsM (n + 1) (l.map EvR.m) (tk.map TkR.m, of) j) : TInvQ E Ms j (tkj.map TkR.m) ofj := by
  have z := TInvQ.births h.inv h.len (fun _ => by rw [h.ev, h.at_]; exact h.good) j (by rw [h.at_]; exact hj)
  rw [h.ev, ← hB] at z
  exact z
theorem GoodEv.lenF {n m : Nat} {es : List EvM} (h : GoodEv n m es) {e : EvM} (he : e ∈ es) : e.f.length ≤ n ∧ e.t.length ≤ m := by
  have h1 := length_le_of_subset (m := List.range n) ((h.fs e he).1.imp fun z => Nat.ne_of_lt z) (fun x hx => List.mem_range.2 ((h.fs e he).2 x hx))
  have h2 := length_le_of_subset (m := List.range m) ((h.ts e he).1.imp fun z => Nat.ne_of_lt z) (fun x hx => List.mem_range.2 ((h.ts e he).2 x hx))
  simpa using And.intro h1 h2
theorem GoodEv.lenE {n m : Nat} {es : List EvM} (h : GoodEv n m es) : es.length ≤ n + m := by
  have key : ∀ (es : List EvM) (n m : Nat), (∀ e, e ∈ es → 0 < e.f.length + e.t.length) → (es.map fun e => e.f.length + e.t.length).sum ≤ n + m → es.length ≤ n + m := fun es n m h1 h2 => by
    have : es.length ≤ (es.map fun e => e.f.length + e.t.length).sum := by
      clear h2
      induction es with
      | nil => simp
      | cons e es ih => have := ih fun a ha => h1 a (by simp [ha]); have := h1 e (by simp); simp only [List.length_cons, List.map_cons, List.sum_cons]; omega
    omega
  refine key es n m (fun e he => (h.kd e he).2) ?_
  have hF : (es.map EvM.f).flatten.length ≤ n := by
    have hn : (es.map EvM.f).flatten.Nodup := by
      refine List.pairwise_flatten.2 ⟨fun l hl => ?_, List.pairwise_map.2 (h.apart.imp fun {a b} hab => ?_)⟩
      · obtain ⟨e, he, rfl⟩ := List.mem_map.1 hl; exact (h.fs e he).1.imp fun z => Nat.ne_of_lt z
      · exact fun i hi i2 hi2 e => hab.1 i hi (e ▸ hi2)
    have := length_le_of_subset (m := List.range n) hn (fun x hx => by
      obtain ⟨l, hl, hx⟩ := List.mem_flatten.1 hx
      obtain ⟨e, he, rfl⟩ := List.mem_map.1 hl
      exact List.mem_range.2 ((h.fs e he).2 x hx))
    simpa using this
  have hT : (es.map EvM.t).flatten.length ≤ m := by
    have hn : (es.map EvM.t).flatten.Nodup := by
      refine List.pairwise_flatten.2 ⟨fun l hl => ?_, List.pairwise_map.2 (h.apart.imp fun {a b} hab => ?_)⟩
      · obtain ⟨e, he, rfl⟩ := List.mem_map.1 hl; exact (h.ts e he).1.imp fun z => Nat.ne_of_lt z
      · exact fun i hi i2 hi2 e => hab.2 i hi (e ▸ hi2)
    have := length_le_of_subset (m := List.range m) hn (fun x hx => by
      obtain ⟨l, hl, hx⟩ := List.mem_flatten.1 hx
      obtain ⟨e, he, rfl⟩ := List.mem_map.1 hl
      exact List.mem_range.2 ((h.ts e he).2 x hx))
    simpa using this
  rw [List.length_flatten] at hF hT
  have e : ∀ es : List EvM, (es.map fun e => e.f.length + e.t.length).sum = ((es.map EvM.f).map List.length).sum + ((es.map EvM.t).map List.length).sum := fun es => by
    induction es with
    | nil => rfl
    | cons a es ih => simp only [List.map_cons, List.sum_cons, ih]; omega
  rw [e]; omega
theorem ch_bd {E : List (List EvM)} {Ms : List Nat} {j p n : Nat} {tkj tkr : List TkR} {of : Nat × Nat → Option Nat} {x : TkM} {ps : List Nat} {tr : TkR} (h : TInvQ E Ms j (tkj.map TkR.m) of) (hm : tkr.map TkR.m = addCh (tkj.map TkR.m ++ [x]) ps n) (ht : tkr[p]? = some tr) (hp : p < tkj.length) : tr.ch.length ≤ tkj.length + 1 := by
  have h1 : (tkr.map TkR.m)[p]? = some tr.m := by rw [List.getElem?_map, ht]; rfl
  rw [hm, addCh_get, List.getElem?_append_left (by rw [List.length_map]; exact hp)] at h1
  obtain ⟨y, e⟩ := get_ex (l := tkj.map TkR.m) (n := p) (by rw [List.length_map]; exact hp)
  rw [e] at h1
  have h2 := h.ch p _ e
  have h3 : y.ch.length ≤ tkj.length := by
    rw [h2]; refine Nat.le_trans (List.length_filter_le _ _) ?_; simp
  have h4 : tr.ch = (adj ps n p y).ch := (congrArg TkM.ch (Option.some.inj h1)).symm
  rw [h4]; unfold adj; split
  · show (_ ++ [n]).length ≤ _; rw [List.length_append, List.length_singleton]; omega
  · omega

set_option maxRecDepth 20000 in
set_option maxHeartbeats 16000000 in
theorem births1_c (b : Nat) (h : BkH) (la : Int) (pm : Option Addr) (cm : Nat) (ys : List ArY) (pt : Option Addr) (ct : Nat) (kd : Nat → Int) (tk : List TkR) (of : Nat × Nat → Option Nat) (E : List (List EvM)) (Ms : List Nat) (n m_ : Nat) (l : List EvR) (pe : Option Addr) (ce : Nat) (yN : ArY) (hyN : ys[n + 1]? = some yN) (hm_ : yN.l.length = m_) (w : World) (hh : Has w (bkF b h la pm cm ys pt ct kd tk of)) (hl : tk.length + m_ ≤ 900000) (hna : Ms.getD n 0 ≤ 1000000) (hE : BiE E Ms n m_ l tk of) (hcap : ∀ {L : List Res} {v : World}, St ⟨w, fpL (bkF b h la pm cm ys pt ct kd tk of)⟩ L v → RO 3 EvR.cells v pe l ∧ ∀ e, e ∈ l → RO 1 nC v e.fp e.f ∧ RO 1 nC v e.tp e.t) :
  Calls Try.prog 93 #[.pointer (some ⟨b, 0, none⟩), .int .i64 ((n + 1 : Nat) : Int), .slice pe l.length ce] w fun e w' => ∃ y : BiY, ((y.tk.map TkR.m, y.of) = birthsM (n + 1) (l.map EvR.m) (tk.map TkR.m, of) m_ ∧ y.tk.length ≤ tk.length + m_) ∧ e = .returned (.tuple #[]) ∧ St ⟨w, fpL (bkF b h la pm cm ys pt ct kd tk of)⟩ (bkF b h la pm cm ys y.pt y.ct kd y.tk y.of) w' := by
  have hyl : n + 1 < ys.length := (List.getElem?_eq_some_iff.1 hyN).1
  have hgd := hE.good
  have hsl : SlSome pe l.length := (hcap hh.enter).1.sm
  have hmm := hE.m
  have hnn := hE.n
  have hll := hgd.lenE
  rw [List.length_map] at hll
  have hnl : Ms.getD n 0 ≤ 1000000 := hna
  refine enterO (vs := [_,_,_]) (env := [(0,_), (1,_), (2,_)]) hh.enter Try.func93 rfl rfl rfl rfl ?_
  refine VC.seq ?_
  refine VC.reg (VO.h rfl<|HO.mkmapG intV evV fun b8 => VO.h rfl<|HO.lo (LO.as (.r rfl))<|VO.nil ?_)
  refine VE.seqN ?_
  refine VC.seq ?_
  refine VC.seq ?_
  refine VC.reg (VO.l (LO.mv (.r rfl)) rfl<|VO.l (LO.len S46 (.r rfl) rfl) rfl<|VO.l (LO.mv (.r rfl)) rfl<|VO.nil ?_)
  refine VE.seqN ?_
  refine VC.block ?_
  refine VC.loopK (α := Nat) 1 (fun gx => [(22, .int .i64 (gx : Nat))]) [(0,_), (1,_), (6,_), (20,_), (21,_)] (fun gx => [mapR intV evV b8 (byF (l.take gx))]) (fun gx => gx ≤ l.length) (fun gx => l.length - gx) 0 (by exact Nat.zero_le _) (.cons rfl (.cons rfl (.cons rfl (.cons rfl (.cons rfl (.cons rfl .nil)))))) (fun _ h => h) ?_
  rintro k hk
  refine VC.seq ?_
  refine VC.reg (VO.l (LO.lt (.r rfl) (.r rfl)) rfl<|VO.nil ?_)
  refine VE.seqN ?_
  refine VC.seq ?_
  refine VC.cond rfl (fun h23 => ?_) (fun h23 => ?_)
  ·
    obtain ⟨e, hek⟩ := get_ex (l := l) (n := k) (by omega)
    have hlft := hgd.lenF (List.mem_map_of_mem (List.mem_of_getElem? hek))
    have hett : e.t.length ≤ m_ := hlft.2
    rw [← byI_zero (e := e)]
    refine VC.skip (VE.seqN ?_)
    refine VC.seq ?_
    refine VC.block ?_
    refine VC.seq ?_
    refine VC.reg (VO.l (LO.ixs S46 N81 hsl (.r rfl) (.r rfl) rfl (by omega)) rfl<|VO.l (LO.lda (vs := [_,_,_]) A81 (.r rfl) (fun w hw => cells_part (off := 0) ((fun w3 h3 => RO.cel (hcap h3).1 hek) w hw) ⟨_, rfl⟩) rfl) rfl<|VO.h rfl<|HO.alloc (C := #[_,_,_]) Z81 rfl fun b9 => VO.h0<|HO.st 0 (vs := [_,_,_]) (C' := [_,_,_]) (L' := [_,_,_,_,_,_,_,_,_]) N81 rfl rfl rfl rfl rfl rfl rfl rfl<|VO.nil ?_)
    refine VE.seqN ?_
    refine VC.seq ?_
    refine VC.reg (VO.l (LO.fa (r := 2) F81_2 (.r rfl) rfl) rfl<|VO.l (LO.ld O40 (.r rfl) (fun _ hw => cells_at hw 0 rfl ⟨_, rfl⟩)) rfl<|VO.l (LO.len S40 (.r rfl) rfl) rfl<|VO.l (LO.mv (.r rfl)) rfl<|VO.nil ?_)
    refine VE.seqN ?_
    refine VC.block ?_
    refine VC.perm [1,0,2,3,4,5,6,7,8] rfl ?_
    refine VC.loopK (α := Nat) 1 (fun gx => [(29, .int .i64 (gx : Nat))]) [(0,_), (1,_), (6,_), (8,_), (20,_), (21,_), (22,_), (27,_), (28,_)] (fun gx => [mapR intV evV b8 (byI l k e gx)]) (fun gx => gx ≤ e.t.length) (fun gx => e.t.length - gx) 0 (by exact Nat.zero_le _) (.cons rfl (.cons rfl (.cons rfl (.cons rfl (.cons rfl (.cons rfl (.cons rfl (.cons rfl (.cons rfl (.cons rfl .nil)))))))))) (fun _ h => h) ?_
    rintro i hi
    refine VC.seq ?_
    refine VC.reg (VO.l (LO.lt (.r rfl) (.r rfl)) rfl<|VO.nil ?_)
    refine VE.seqN ?_
    refine VC.seq ?_
    refine VC.cond rfl (fun h30 => ?_) (fun h30 => ?_)
    ·
      obtain ⟨jt, hti⟩ := get_ex (l := e.t) (n := i) (by omega)
      refine VC.skip (VE.seqN ?_)
      refine VC.seq ?_
      refine VC.block ?_
      refine VC.seq ?_
      refine VC.reg (VO.l (LO.ixs S40 N3 ((hcap hh.enter).2 e (List.mem_of_getElem? hek)).2.sm (.r rfl) (.r rfl) rfl (by omega)) rfl<|VO.l (LO.ld O3 (.r rfl) (fun w hw => cells_part (off := 0) ((fun w3 h3 => RO.cel ((hcap h3).2 e (List.mem_of_getElem? hek)).2 hti) w hw) ⟨_, rfl⟩)) rfl<|VO.l (LO.as (.r rfl)) rfl<|VO.nil ?_)
      refine VE.seqN ?_
      refine VC.reg (VO.l (LO.mv (.r rfl)) rfl<|VO.l (LO.mv (.r rfl)) rfl<|VO.l (LO.lda (vs := [_,_,_]) A81 (.r rfl) (fun _ hw => cells_at hw 1 rfl ⟨_, rfl⟩) rfl) rfl<|VO.h0<|HO.mupG 0 (fun R => [R,_,_,_,_,_,_,_,_]) (jt : Int) e M202 (.r rfl) (.r rfl) (.r rfl) rfl (fun _ => rfl)<|VO.nil ?_)
      rw [byI_step hti]
      refine VE.inN (VE.seqN ?_)
      refine VC.reg (VO.l (LO.add (.r rfl) (.r rfl) (wi (by omega) (by omega))) rfl<|VO.l (LO.mv (.r rfl)) rfl<|VO.nil ?_)
      refine VE.thenN fun a w ha hw => ⟨i + 1, (by omega), (by omega), ha.sub (.cons rfl (.cons rfl (.cons rfl (.cons rfl (.cons rfl (.cons rfl (.cons rfl (.cons rfl (.cons rfl (.cons rfl .nil)))))))))), hw⟩
    ·
      refine VC.exit (VE.thenX (VE.thenX (VE.inX (VE.inN (VE.seqN ?_)))))
      refine VC.reg (VO.l (LO.add (.r rfl) (.r rfl) (wi (by omega) (by omega))) rfl<|VO.l (LO.mv (.r rfl)) rfl<|VO.nil ?_)
      have hie : i = e.t.length := by omega
      subst hie
      rw [byI_done hek hgd.apart]
      refine VE.thenN fun a w ha hw => ⟨k + 1, (by omega), (by omega), ha.sub (.cons rfl (.cons rfl (.cons rfl (.cons rfl (.cons rfl (.cons rfl .nil)))))), hw.sel [0,2,3,4,5,6,7,8] rfl⟩
  ·
    have hke : k = l.length := by omega
    subst hke
    rw [List.take_length]
    refine VC.exit (VE.thenX (VE.thenX (VE.inX (VE.seqN ?_))))
    refine VC.seq ?_
    refine VC.reg (VO.l (LO.mv (.r rfl)) rfl<|VO.l (LO.nc (.r rfl)) rfl<|VO.l (LO.fa (r := 8) F119_4 (.r rfl) rfl) rfl<|VO.l (LO.ld O115 (.r rfl) (fun _ hw => cells_at hw 1 rfl ⟨_, rfl⟩)) rfl<|VO.l (LO.mv (.r rfl)) rfl<|VO.l (LO.ixo S115 N154 (fun _ hw => (own_rows hw 5 rfl).some (by rw [List.length_map])) (.r rfl) (.r rfl) rfl (by omega)) rfl<|VO.l (LO.fa F154_1 (.r rfl) rfl) rfl<|VO.l (LO.ld O29 (.r rfl) (fun w hw => cells_part (off := 5) (own_cell hw 5 rfl hyN) ⟨_, rfl⟩)) rfl<|VO.l (LO.len S29 (.r rfl) rfl) rfl<|VO.l (LO.mv (.r rfl)) rfl<|VO.nil ?_)
    refine VE.seqN ?_
    refine VC.block ?_
    refine VC.perm [1,2,3,4,6,7,0,5] rfl ?_
    refine VC.loopK (α := Nat × (List TkR) × (Option Addr) × Nat × (Nat × Nat → Option Nat)) 6 (fun gx => [(47, .int .i64 (gx.1 : Nat))]) [(0,_), (1,_), (6,_), (46,_)] (fun gx => [blk b (.cells (bkC h la ⟨pm, ys.length, cm⟩ gx.2.2.1 gx.2.1.length gx.2.2.2.1 kd).toArray 119), own 109 6 gx.2.2.1 gx.2.2.2.1 (gx.2.1.map TkR.cells), bagD (gx.2.1.map TkR.aR), mapR plV niV h.bm (ofI gx.2.2.2.2), bagD (gx.2.1.map TkR.pR), bagD (gx.2.1.map TkR.cR)]) (fun gx => gx.1 ≤ m_ ∧ (gx.2.1.map TkR.m, gx.2.2.2.2) = birthsM (n + 1) (l.map EvR.m) (tk.map TkR.m, of) gx.1 ∧ gx.2.1.length ≤ tk.length + gx.1) (fun gx => m_ - gx.1) (0, tk, pt, ct, of) (by exact ⟨Nat.zero_le _, rfl, Nat.le_refl _⟩) (.cons rfl (.cons rfl (.cons rfl (.cons rfl (.cons rfl .nil))))) (fun _ h => h) ?_
    rintro ⟨j, tkj, ptj, ctj, ofj⟩ ⟨hj, hB, hlj⟩
    show VC _ _ _ _ _ ([(47, .int .i64 (j : Nat))] ++ _) ([blk b (.cells (bkC h la ⟨pm, ys.length, cm⟩ ptj tkj.length ctj kd).toArray 119), own 109 6 ptj ctj (tkj.map TkR.cells), bagD (tkj.map TkR.aR), mapR plV niV h.bm (ofI ofj), bagD (tkj.map TkR.pR), bagD (tkj.map TkR.cR)] ++ _) _ _
    dsimp only at hj hB hlj
    refine VC.seq ?_
    refine VC.reg (VO.l (LO.lt (.r rfl) (.r rfl)) rfl<|VO.nil ?_)
    refine VE.seqN ?_
    refine VC.seq ?_
    refine VC.cond rfl (fun h48 => ?_) (fun h48 => ?_)
    ·
      refine VC.skip (VE.seqN ?_)
      refine VC.seq ?_
      refine VC.block ?_
      refine VC.seq ?_
      refine VC.reg (VO.l (LO.mv (.r rfl)) rfl<|VO.l (LO.as (.r rfl)) rfl<|VO.nil ?_)
      refine VE.seqN ?_
      refine VC.seq ?_
      refine VC.reg (VO.l (LO.mv (.r rfl)) rfl<|VO.l (LO.mv (.r rfl)) rfl<|VO.l (LO.lkG1 (n := (j : Int)) M202 (.r rfl) (.r rfl) (fun _ hw => St.inv hw 6 _ rfl)) rfl<|VO.h rfl<|HO.alloc (C := #[_,_,_]) Z81 rfl fun b11 => VO.h0<|HO.st 0 (vs := [_,_,_]) (C' := [_,_,_]) (L' := [_,_,_,_,_,_,_,_,_]) N81 rfl rfl rfl rfl rfl rfl rfl rfl<|VO.nil ?_)
      obtain ⟨eJ, heJ_⟩ : ∃ x, x = (byF l (j : Int)).getD EvR.z := ⟨_, rfl⟩
      rw [← heJ_]
      have heJ : eJ ∈ l := by rw [heJ_]; obtain ⟨e, h1, h2⟩ := hgd.allT j (by omega); obtain ⟨e2, h3, rfl⟩ := List.mem_map.1 h1; exact by_mem ⟨e2, h3, h2⟩
      have hbJ : bef (l.map EvR.m) j = eJ.m := by rw [heJ_]; exact by_bef.symm
      have hQ := hE.at (by omega) hB
      have hlf := hgd.lenF (List.mem_map_of_mem heJ)
      have hef2 : eJ.f.length ≤ Ms.getD n 0 := hlf.1
      refine VE.seqN ?_
      refine VC.block ?_
      refine VC.seq ?_
      refine VC.reg (VO.l (LO.mv (.r rfl)) rfl<|VO.l (LO.eq (.r rfl) (.r rfl)) rfl<|VO.l (LO.as (.r rfl)) rfl<|VO.nil ?_)
      refine VE.seqN ?_
      refine VC.cond rfl (fun h53 => ?_) (fun h53 => ?_)
      ·
        (exfalso; omega)
      ·
        refine VC.seq ?_
        refine VC.reg (VO.l (LO.fa (r := 0) F81_0 (.r rfl) rfl) rfl<|VO.l (LO.ld O3 (.r rfl) (fun _ hw => cells_at hw 0 rfl ⟨_, rfl⟩)) rfl<|VO.l (LO.ne (.r rfl) (.r rfl)) rfl<|VO.l (LO.as (.r rfl)) rfl<|VO.nil ?_)
        refine VE.seqN ?_
        refine VC.cond rfl (fun h60 => ?_) (fun h60 => ?_)
        ·
          have hnew : newB (n + 1) (l.map EvR.m) j = true := decide_eq_true (.inr (by rw [hbJ]; exact h60))
          obtain ⟨htot, hpn, hpm⟩ := hQ.parents (e := eJ.m) hE.len (by rw [hE.ev, hE.at_]; exact hgd) (by rw [hE.ev]; exact List.mem_map_of_mem heJ) h60
          refine VC.seq ?_
          refine VC.reg (VO.l (LO.as (.r rfl)) rfl<|VO.nil ?_)
          refine VE.seqN ?_
          refine VC.seq ?_
          refine VC.seq ?_
          refine VC.reg (VO.l (LO.fa (r := 1) F81_1 (.r rfl) rfl) rfl<|VO.l (LO.ld O40 (.r rfl) (fun _ hw => cells_at hw 0 rfl ⟨_, rfl⟩)) rfl<|VO.l (LO.len S40 (.r rfl) rfl) rfl<|VO.l (LO.mv (.r rfl)) rfl<|VO.nil ?_)
          refine VE.seqN ?_
          refine VC.block ?_
          refine VC.loopK (α := Nat × (List Nat) × (Option Addr) × Nat) 0 (fun gx => [(13, .slice gx.2.2.1 gx.2.1.length gx.2.2.2), (67, .int .i64 (gx.1 : Nat))]) [(0,_), (1,_), (6,_), (11,_), (12,_), (46,_), (47,_), (65,_), (66,_)] (fun gx => [own 3 1 gx.2.2.1 gx.2.2.2 (gx.2.1.map nC)]) (fun gx => gx.1 ≤ eJ.f.length ∧ gx.2.1 = (eJ.f.take gx.1).map fun x_ => (ofj (n, x_)).getD 0) (fun gx => eJ.f.length - gx.1) (0, [], none, 0) (by exact ⟨Nat.zero_le _, rfl⟩) (.cons rfl (.cons rfl (.cons rfl (.cons rfl (.cons rfl (.cons rfl (.cons rfl (.cons rfl (.cons rfl (.cons rfl (.cons rfl .nil))))))))))) (fun _ h => (h.ownNil 3 1)) ?_
          rintro ⟨i, pl, pp, pc⟩ ⟨hi, hpl⟩
          show VC _ _ _ _ _ ([(13, .slice pp pl.length pc), (67, .int .i64 (i : Nat))] ++ _) ([own 3 1 pp pc (pl.map nC)] ++ _) _ _
          dsimp only at hi hpl
          have hpll : pl.length ≤ i := by rw [hpl, List.length_map, List.length_take]; omega
          refine VC.seq ?_
          refine VC.reg (VO.l (LO.lt (.r rfl) (.r rfl)) rfl<|VO.nil ?_)
          refine VE.seqN ?_
          refine VC.seq ?_
          refine VC.cond rfl (fun h68 => ?_) (fun h68 => ?_)
          ·
            obtain ⟨ai, hai⟩ := get_ex (l := eJ.f) (n := i) (by omega)
            obtain ⟨k0, hk0, hk0l⟩ := htot ai (List.mem_of_getElem? hai)
            refine VC.skip (VE.seqN ?_)
            refine VC.seq ?_
            refine VC.block ?_
            refine VC.seq ?_
            refine VC.reg (VO.l (LO.ixs S40 N3 ((hcap hh.enter).2 eJ heJ).1.sm (.r rfl) (.r rfl) rfl (by omega)) rfl<|VO.l (LO.ld O3 (.r rfl) (fun w hw => cells_part (off := 0) ((fun w3 h3 => RO.cel ((hcap h3).2 eJ heJ).1 hai) w hw) ⟨_, rfl⟩)) rfl<|VO.l (LO.as (.r rfl)) rfl<|VO.nil ?_)
            refine VE.seqN ?_
            refine VC.reg (VO.l (LO.mv (.r rfl)) rfl<|VO.l (LO.mv (.r rfl)) rfl<|VO.l (LO.nc (.r rfl)) rfl<|VO.l (LO.fa (r := 10) F119_6 (.r rfl) rfl) rfl<|VO.l (LO.ld O116 (.r rfl) (fun _ hw => cells_at hw 2 rfl ⟨_, rfl⟩)) rfl<|VO.l (LO.mv (.r rfl)) rfl<|VO.l (LO.eqv (LO.sub (.r rfl) (.r rfl) (wi (by omega) (by omega))) (congrArg (Value.int .i64) (show ((n + 1 : Nat) : Int) - 1 = (n : Int) by omega))) rfl<|VO.l (LO.mv (.r rfl)) rfl<|VO.l (LO.bd (ps := [(_,_), (_,_)]) (vs := [(_,_), (_,_)]) (C := [_,_]) B169  ⟨(.r rfl), (.r rfl), trivial⟩ rfl ⟨_, [_], [_,_], rfl, rfl, rfl, rfl, ⟨_, [_], [_,_], rfl, rfl, rfl, rfl, rfl⟩⟩) rfl<|VO.l (LO.eqv (v' := .int .i64 (k0 : Int)) (LO.lkG1 (n := ((n : Int), (ai : Int))) M116 (.r rfl) (.r rfl) (fun _ hw => St.inv hw 5 _ rfl)) (by rw [ofI_nat, hk0]; rfl)) rfl<|VO.h rfl<|HO.bs (ps := [(_,_)]) (vs := [(_,_)]) (Z := [_]) (C := [_]) S40 Z3 N3 ⟨(.r rfl), trivial⟩ rfl rfl rfl rfl ⟨_, [_], [_], rfl, rfl, rfl, rfl, rfl⟩ fun b14 => VO.h rfl<|HO.appT (k0) 1 0 (fun R => [_, R,_,_,_,_,_,_,_,_,_]) S40 S40 I3 (.r rfl) (.r rfl) rfl rfl rfl rfl rfl rfl rfl (fun _ => rfl) rfl (by omega) fun p11 c11 => VO.h rfl<|HO.lo (LO.as (.r rfl))<|VO.nil ?_)
            refine VE.inN (VE.seqN ?_)
            refine VC.reg (VO.l (LO.add (.r rfl) (.r rfl) (wi (by omega) (by omega))) rfl<|VO.l (LO.mv (.r rfl)) rfl<|VO.nil ?_)
            refine VE.thenN fun a w ha hw => ⟨(i + 1, pl ++ [k0], p11, c11), ⟨by dsimp only; omega, by dsimp only; rw [List.take_add_one, hai, List.map_append, ← hpl]; show _ = pl ++ [(ofj (n, ai)).getD 0]; rw [hk0]; rfl⟩, (by dsimp only; omega), ha.sub (.cons rfl (.cons rfl (.cons rfl (.cons rfl (.cons rfl (.cons rfl (.cons rfl (.cons rfl (.cons rfl (.cons rfl (.cons rfl .nil))))))))))), hw.sel [1,2,3,4,5,6,7,8,9,10] rfl⟩
          ·
            have hie : i = eJ.f.length := by omega
            subst hie
            rw [List.take_length] at hpl
            obtain ⟨ps, hps⟩ : ∃ x, x = parB (tkj.map TkR.m) (n + 1) eJ.f := ⟨_, rfl⟩
            have hsort : sortN pl = ps := by rw [hps, hpl]; exact sortN_eq parB_nodup hpn hpm
            have hlen : pl.length = ps.length := by rw [← hsort, sortN_len]
            have hpsn : ps.Nodup := by rw [hps]; exact parB_nodup.imp fun z => Nat.ne_of_lt z
            refine VC.exit (VE.thenX (VE.thenX (VE.inX (VE.seqN ?_))))
            refine VC.seq ?_
            refine VC.reg (VO.l (LO.mv (.r rfl)) rfl<|VO.h rfl<|HO.callh (first := []) (cap := []) (xs := [_]) (vs := [_]) 0 (fun R => [R,_,_,_,_,_,_,_,_,_]) rfl (.r rfl) C104 ⟨(.r rfl), trivial⟩ (fun _ => rfl) (fun w hw => SortN_h 0 hw rfl (by omega)) fun _u _ => VO.nil ?_)
            rw [hsort, hlen]
            refine VE.seqN ?_
            refine VC.seq ?_
            refine VC.reg (VO.l (LO.mv (.r rfl)) rfl<|VO.l (LO.fa (r := 0) F81_0 (.r rfl) rfl) rfl<|VO.l (LO.ld O3 (.r rfl) (fun _ hw => cells_at hw 1 rfl ⟨_, rfl⟩)) rfl<|VO.l (LO.mv (.r rfl)) rfl<|VO.l (LO.mv (.r rfl)) rfl<|VO.l (LO.bd (ps := [(_,_), (_,_)]) (vs := [(_,_), (_,_)]) (C := [_,_]) B169  ⟨(.r rfl), (.r rfl), trivial⟩ rfl ⟨_, [_], [_,_], rfl, rfl, rfl, rfl, ⟨_, [_], [_,_], rfl, rfl, rfl, rfl, rfl⟩⟩) rfl<|VO.l (LO.mv (.r rfl)) rfl<|VO.h rfl<|HO.callP (first := []) (cap := []) (xs := [_,_,_,_]) (vs := [_,_,_,_]) [_,_,_,_] [_,_,_,_,_,_] (selK (L1 := [_,_,_,_] ++ [_,_,_,_,_,_]) [2,3,4,5,0,1,6,7,8,9] rfl rfl) (.r rfl) C119 ⟨(.r rfl), (.r rfl), (.r rfl), (.r rfl), trivial⟩ (fun w hw hh => begin_c b h la ⟨pm, ys.length, cm⟩ ptj ctj kd tkj ofj eJ.kd (n + 1) j pp pc ps w hh (by omega)) fun yb _ => VO.h rfl<|HO.lo (LO.as (.r rfl))<|VO.nil ?_)
            refine VE.seqN ?_
            refine VC.seq ?_
            refine VC.res (L' := bagD (tkj.map TkR.cR ++ [TkR.cR (newT eJ.kd (n + 1) j yb.ap yb.ac pp pc ps)]) :: [_,_,_,_,_,_,_,_,_]) (fun w hw => St.bagAdd (r := TkR.cR (newT eJ.kd (n + 1) j yb.ap yb.ac pp pc ps)) (selK (L1 := TkR.cR (newT eJ.kd (n + 1) j yb.ap yb.ac pp pc ps) :: bagD (tkj.map TkR.cR) :: [_,_,_,_,_,_,_,_,_]) [0,8,1,2,3,4,5,6,7,9,10] rfl rfl _ (hw.ownNil 3 1))) ?_
            rw [show tkj.map TkR.cR ++ [TkR.cR (newT eJ.kd (n + 1) j yb.ap yb.ac pp pc ps)] = (tkj ++ [(newT eJ.kd (n + 1) j yb.ap yb.ac pp pc ps)]).map TkR.cR by rw [List.map_append]; rfl]
            refine VC.reg (VO.l (LO.mv (.r rfl)) rfl<|VO.l (LO.len S40 (.r rfl) rfl) rfl<|VO.l (LO.mv (.r rfl)) rfl<|VO.nil ?_)
            refine VE.seqN ?_
            refine VC.block ?_
            refine VC.perm [2,0,1,3,4,5,6,7,8,9] rfl ?_
            refine VC.loopK (α := Nat × (List TkR)) 2 (fun gx => [(96, .int .i64 (gx.1 : Nat))]) [(0,_), (1,_), (6,_), (16,_), (46,_), (47,_), (94,_), (95,_)] (fun gx => [own 109 6 yb.pt yb.ct (gx.2.map TkR.cells), bagD (gx.2.map TkR.cR)]) (fun gx => gx.1 ≤ ps.length ∧ gx.2.length = (tkj ++ [(newT eJ.kd (n + 1) j yb.ap yb.ac pp pc ps)]).length ∧ gx.2.map TkR.aR = (tkj ++ [(newT eJ.kd (n + 1) j yb.ap yb.ac pp pc ps)]).map TkR.aR ∧ gx.2.map TkR.pR = (tkj ++ [(newT eJ.kd (n + 1) j yb.ap yb.ac pp pc ps)]).map TkR.pR ∧ gx.2.map TkR.m = addCh (tkj.map TkR.m ++ [TkR.m (newT eJ.kd (n + 1) j yb.ap yb.ac pp pc ps)]) (ps.take gx.1) tkj.length) (fun gx => ps.length - gx.1) (0, (tkj ++ [(newT eJ.kd (n + 1) j yb.ap yb.ac pp pc ps)])) (by exact ⟨Nat.zero_le _, rfl, rfl, rfl, by rw [List.take_zero, addCh_nil, List.map_append]; rfl⟩) (.cons rfl (.cons rfl (.cons rfl (.cons rfl (.cons rfl (.cons rfl (.cons rfl (.cons rfl (.cons rfl .nil))))))))) (fun _ h => h) ?_
            rintro ⟨r, tkr⟩ ⟨hr, hlr, haR, hpR, hmr⟩
            show VC _ _ _ _ _ ([(96, .int .i64 (r : Nat))] ++ _) ([own 109 6 yb.pt yb.ct (tkr.map TkR.cells), bagD (tkr.map TkR.cR)] ++ _) _ _
            dsimp only at hr hlr haR hpR hmr
            have hlr2 := hlr
            rw [List.length_append, List.length_singleton] at hlr2
            refine VC.seq ?_
            refine VC.reg (VO.l (LO.lt (.r rfl) (.r rfl)) rfl<|VO.nil ?_)
            refine VE.seqN ?_
            refine VC.seq ?_
            refine VC.cond rfl (fun h97 => ?_) (fun h97 => ?_)
            ·
              obtain ⟨p, hpr⟩ := get_ex (l := ps) (n := r) (by omega)
              have hptj : p < tkj.length := by have z := List.mem_of_getElem? hpr; rw [hps] at z; have y := List.mem_range.1 (List.mem_filter.1 z).1; rwa [List.length_map] at y
              have hptr : p < tkr.length := by omega
              obtain ⟨tr, htr⟩ := get_ex (l := tkr) (n := p) hptr
              have hchl : tr.ch.length ≤ tkj.length + 1 := ch_bd hQ hmr htr hptj
              refine VC.skip (VE.seqN ?_)
              refine VC.seq ?_
              refine VC.block ?_
              refine VC.seq ?_
              refine VC.reg (VO.l (LO.ixo S40 N3 (fun _ hw => (own_rows hw 5 rfl).some (by rw [List.length_map])) (.r rfl) (.r rfl) rfl (by omega)) rfl<|VO.l (LO.ld O3 (.r rfl) (fun w hw => cells_part (off := 0) (own_cell hw 5 rfl hpr) ⟨_, rfl⟩)) rfl<|VO.l (LO.as (.r rfl)) rfl<|VO.nil ?_)
              refine VE.seqN ?_
              refine VC.res (L' := TkR.cR tr :: bagD ((tkr.eraseIdx p).map TkR.cR) :: [_,_,_,_,_,_,_,_,_]) (fun w hw => St.focusAt (f := TkR.cR) (selK [1,0,2,3,4,5,6,7,8,9] rfl rfl w hw) htr) ?_
              show VC _ _ _ _ _ _ (own 3 1 tr.cp tr.cc (tr.ch.map nC) :: _) _ _
              refine VC.drawH [[0,1,2,3,4,5,6,7,8,9,10], [0,1,2,3,4,5,6,7,8,9,10], [1,2,3,4,5,6,7,8,9,10], [1,3,4,5,6,7,8,9,10]] [some 2, some 2, some 2, some 2, some 2, some 1, some 1, some 1, some 1, some 1, some 1, some 1, some 1, some 0, none, none, some 2, some 2, none] mixed (by kernel_rfl) rfl (LX.l (fun _ hJ => LO.mv (.r rfl)) rfl<|LX.l (fun _ hJ => LO.nc (.r rfl)) rfl<|LX.l (fun _ hJ => LO.fa (r := 9) F119_5 (.r rfl) rfl) rfl<|LX.l (fun _ hJ => LO.ld O102 (.r rfl) (fun _ hw => cells_at (hJ _ hw) 2 rfl ⟨_, rfl⟩)) rfl<|LX.l (fun _ hJ => LO.mv (.r rfl)) rfl<|LX.l (fun _ hJ => LO.mv (.r rfl)) rfl<|LX.l (fun _ hJ => LO.nc (.r rfl)) rfl<|LX.l (fun _ hJ => LO.fa (r := 9) F119_5 (.r rfl) rfl) rfl<|LX.l (fun _ hJ => LO.ld O102 (.r rfl) (fun _ hw => cells_at (hJ _ hw) 3 rfl ⟨_, rfl⟩)) rfl<|LX.l (fun _ hJ => LO.mv (.r rfl)) rfl<|LX.l (fun _ hJ => LO.ixo S102 N109 (fun _ hw => (own_rows (hJ _ hw) 2 rfl).some (by rw [List.length_map]; omega)) (.r rfl) (.r rfl) rfl (by omega)) rfl<|LX.l (fun _ hJ => LO.fa F109_5 (.r rfl) rfl) rfl<|LX.l (fun _ hJ => LO.ld O40 (.r rfl) (fun w hw => cells_part (off := 5) (own_cell (hJ _ hw) 2 rfl htr) ⟨_, rfl⟩)) rfl<|LX.l (fun _ hJ => LO.mv (.r rfl)) rfl<|LX.s<|LX.s<|LX.l (fun _ hJ => LO.ixo S102 N109 (fun _ hw => (own_rows (hJ _ hw) 1 rfl).some (by rw [List.length_map]; omega)) (.r rfl) (.r rfl) rfl (by omega)) rfl<|LX.l (fun _ hJ => LO.fa F109_5 (.r rfl) rfl) rfl<|LX.s<|LX.nil) (HX.s<|HX.s<|HX.s<|HX.s<|HX.s<|HX.s<|HX.s<|HX.s<|HX.s<|HX.s<|HX.s<|HX.s<|HX.s<|HX.s<|HX.h rfl<|HO.bs (ps := [(_,_)]) (vs := [(_,_)]) (Z := [_]) (C := [_]) S40 Z3 N3 ⟨(.r rfl), trivial⟩ rfl rfl rfl rfl ⟨_, [_], [_], rfl, rfl, rfl, rfl, rfl⟩ fun b22 => ⟨selJ (L1 := [_,_,_,_,_,_,_,_,_,_,_]) [1,2,3,4,5,6,7,8,9,10,11] rfl rfl rfl, HX.h rfl<|HO.appT (tkj.length) 1 0 (fun R => [_, R,_,_,_,_,_,_,_,_,_,_]) S40 S40 I3 (.r rfl) (.r rfl) rfl rfl rfl rfl rfl rfl rfl (fun _ => rfl) rfl (by omega) fun p15 c15 => ⟨selJ (L1 := [_,_,_,_,_,_,_,_,_,_]) [2,3,4,5,6,7,8,9,10,11] rfl rfl rfl, HX.s<|HX.s<|HX.h0<|HO.sto 3 (fun R => [_,_,_, R,_,_,_,_,_,_,_,_]) (o := 5) (vs := [_]) N40 (.r rfl) (.r rfl) rfl (map_get htr) rfl rfl (Nat.le_of_ble_eq_true rfl) rfl (fun _ => rfl)<|⟨selJ (L1 := [_,_,_,_,_,_,_,_,_]) [2,4,5,6,7,8,9,10,11] rfl rfl rfl, HX.nil ?_⟩⟩⟩)
              rw [tk_setC]
              refine VE.inN (VE.seqN ?_)
              refine VC.reg (VO.l (LO.add (.r rfl) (.r rfl) (wi (by omega) (by omega))) rfl<|VO.l (LO.mv (.r rfl)) rfl<|VO.nil ?_)
              refine VE.thenN fun a w ha hw => ⟨(r + 1, tkr.set p { tr with cp := p15, cc := c15, ch := tr.ch ++ [tkj.length] }), ⟨by dsimp only; omega, by dsimp only; rw [List.length_set]; exact hlr, (map_set_same (t' := { tr with cp := p15, cc := c15, ch := tr.ch ++ [tkj.length] }) htr rfl).trans haR, (map_set_same (t' := { tr with cp := p15, cc := c15, ch := tr.ch ++ [tkj.length] }) htr rfl).trans hpR, (map_set_mod (g := TkR.m) (t' := { tr with cp := p15, cc := c15, ch := tr.ch ++ [tkj.length] }) (f := fun t => { t with ch := t.ch ++ [tkj.length] }) htr rfl).trans (by rw [hmr]; exact addCh_step hpr hpsn)⟩, (by dsimp only; omega), ha.sub (.cons rfl (.cons rfl (.cons rfl (.cons rfl (.cons rfl (.cons rfl (.cons rfl (.cons rfl (.cons rfl .nil))))))))), (by exact selK (L1 := [_,_,_,_,_,_,_,_,_,_]) [1,0,2,3,4,5,6,7,8,9] rfl rfl _ (St.unfocusAt (f := TkR.cR) (a := { tr with cp := p15, cc := c15, ch := tr.ch ++ [tkj.length] }) (i := p) (selK (L1 := TkR.cR ({ tr with cp := p15, cc := c15, ch := tr.ch ++ [tkj.length] }) :: [_,_,_,_,_,_,_,_,_,_]) [1,2,3,4,5,6,7,8,9,10,11] rfl rfl _ hw) hptr))⟩
            ·
              have hre : r = ps.length := by omega
              subst hre
              rw [List.take_length] at hmr
              have hB2 := birth_new (tk' := tkr.map TkR.m) hB hnew (ps := ps) (by unfold parOf; rw [if_neg (by omega), hbJ, hps]; rfl) (by rw [hmr, List.length_map]; congr 2; unfold trB; rw [if_neg (by omega), hbJ]; rfl)
              rw [List.length_map] at hB2
              refine VC.exit (VE.thenX (VE.thenX (VE.inX (VE.inN (VE.inN (VE.seqN ?_))))))
              refine VC.reg (VO.l (LO.add (.r rfl) (.r rfl) (wi (by omega) (by omega))) rfl<|VO.l (LO.mv (.r rfl)) rfl<|VO.nil ?_)
              refine VE.thenN fun a w ha hw => ⟨(j + 1, tkr, yb.pt, yb.ct, updG ofj (n + 1, j) tkj.length), ⟨by dsimp only; omega, hB2, by dsimp only; omega⟩, (by dsimp only; omega), ha.sub (.cons rfl (.cons rfl (.cons rfl (.cons rfl (.cons rfl .nil))))), (by dsimp only; rw [hlr, haR, hpR, List.map_append (f := TkR.pR)]; exact selK (L1 := [_,_,_,_,_,_,_,_]) [1,2,3,4,0,5,6,7] rfl rfl _ (St.bagAdd (r := TkR.pR (newT eJ.kd (n + 1) j yb.ap yb.ac pp pc ps)) (selK (L1 := TkR.pR (newT eJ.kd (n + 1) j yb.ap yb.ac pp pc ps) :: bagD (tkj.map TkR.pR) :: [_,_,_,_,_,_,_]) [5,7,2,0,3,4,1,8,9] rfl rfl _ hw)))⟩
        ·
          have hold : ¬ newB (n + 1) (l.map EvR.m) j = true := by have z : eJ.m.kd = 4 := Classical.not_not.1 h60; unfold newB; rw [hbJ]; simp [z]
          refine VC.skip (VE.inN (VE.inN (VE.seqN ?_)))
          refine VC.reg (VO.l (LO.add (.r rfl) (.r rfl) (wi (by omega) (by omega))) rfl<|VO.l (LO.mv (.r rfl)) rfl<|VO.nil ?_)
          refine VE.thenN fun a w ha hw => ⟨(j + 1, tkj, ptj, ctj, ofj), ⟨by dsimp only; omega, birth_old hB hold, by dsimp only; omega⟩, (by dsimp only; omega), ha.sub (.cons rfl (.cons rfl (.cons rfl (.cons rfl (.cons rfl .nil))))), (by exact selK (L1 := [_,_,_,_,_,_,_,_]) [1,2,3,4,5,6,7,8] rfl rfl _ hw)⟩
    ·
      refine VC.exit (VE.thenX (VE.thenX (VE.inX (VE.resN (vs := []) rfl trivial (fun w hw => ?_)))))
      have hje : j = m_ := by omega
      subst hje
      exact ⟨⟨tkj, ptj, ctj, ofj⟩, ⟨hB, hlj⟩, rfl, selK [0,1,2,3,7,4,5] rfl rfl _ hw⟩

end Go.Proofs.Ytgemekpofpoopaa

namespace Go.Proofs.Ytgemekpofpoopaa
open Go.SL Go.Proofs Go.Cast Go.Cell
set_option linter.unusedVariables false

theorem C91 : IsFn Try.prog 91 := ⟨_, Try.func91, by decide, rfl⟩
theorem F119_0 : FieldAt Try.prog 119 0 0 := ⟨_,_, Try.underlying119, rfl, rfl, 4, by kernel_rfl⟩
theorem F119_3 : FieldAt Try.prog 119 3 7 := ⟨_,_, Try.underlying119, rfl, rfl, 0, by kernel_rfl⟩


def addE (h : BkH) (la : Int) (nm : Nat) (time : Int) (g : Grid) (vs : List Span) : Int :=
  if fieldE 1073741824 ⟨g, vs⟩ ≠ 0 then fieldE 1073741824 ⟨g, vs⟩ else if ¬ gridL g = gridL h.g then 11 else if time < 0 ∨ 4294967296 < time then 3 else if time ≤ la then 17 else if nm = 48 then 13 else 0
section
variable {h : BkH} {la time : Int} {nm : Nat} {g : Grid} {vs : List Span}
theorem ad1 (k : fieldE 1073741824 ⟨g, vs⟩ ≠ 0) : fieldE 1073741824 ⟨g, vs⟩ = addE h la nm time g vs := (if_pos k).symm
theorem ad2 (k : ¬ fieldE 1073741824 ⟨g, vs⟩ ≠ 0) (j : ¬ [g.x, g.y, g.size, g.wide, g.high] = [h.g.x, h.g.y, h.g.size, h.g.wide, h.g.high]) : 11 = addE h la nm time g vs := by unfold addE gridL; rw [if_neg k, if_pos j]
theorem ad3 (k : ¬ fieldE 1073741824 ⟨g, vs⟩ ≠ 0) (j : ¬ ¬ [g.x, g.y, g.size, g.wide, g.high] = [h.g.x, h.g.y, h.g.size, h.g.wide, h.g.high]) (i : time < 0 ∨ 4294967296 < time) : 3 = addE h la nm time g vs := by unfold addE gridL; rw [if_neg k, if_neg j, if_pos i]
theorem ad4 (k : ¬ fieldE 1073741824 ⟨g, vs⟩ ≠ 0) (j : ¬ ¬ [g.x, g.y, g.size, g.wide, g.high] = [h.g.x, h.g.y, h.g.size, h.g.wide, h.g.high]) (i : ¬ (time < 0 ∨ 4294967296 < time)) (l : time ≤ la) : 17 = addE h la nm time g vs := by unfold addE gridL; rw [if_neg k, if_neg j, if_neg i, if_pos l]
theorem ad5 (k : ¬ fieldE 1073741824 ⟨g, vs⟩ ≠ 0) (j : ¬ ¬ [g.x, g.y, g.size, g.wide, g.high] = [h.g.x, h.g.y, h.g.size, h.g.wide, h.g.high]) (i : ¬ (time < 0 ∨ 4294967296 < time)) (l : ¬ time ≤ la) (m : nm = 48) : 13 = addE h la nm time g vs := by unfold addE gridL; rw [if_neg k, if_neg j, if_neg i, if_neg l, if_pos m]
theorem ad6 (k : ¬ fieldE 1073741824 ⟨g, vs⟩ ≠ 0) (j : ¬ ¬ [g.x, g.y, g.size, g.wide, g.high] = [h.g.x, h.g.y, h.g.size, h.g.wide, h.g.high]) (i : ¬ (time < 0 ∨ 4294967296 < time)) (l : ¬ time ≤ la) (m : ¬ nm = 48) : addE h la nm time g vs = 0 := by unfold addE gridL; rw [if_neg k, if_neg j, if_neg i, if_neg l, if_neg m]
theorem addOk (k : addE h la nm time g vs = 0) : fieldE 1073741824 ⟨g, vs⟩ = 0 ∧ g = h.g ∧ 0 ≤ time ∧ time ≤ 4294967296 ∧ la < time ∧ nm ≠ 48 := by
  unfold addE at k
  split at k
  · rename_i q; exact absurd k q
  · rename_i q
    split at k
    · omega
    · rename_i s
      split at k
      · omega
      · split at k
        · omega
        · split at k
          · omega
          · refine ⟨Classical.not_not.1 q, ?_, by omega, by omega, by omega, by omega⟩
            have e := Classical.not_not.1 s
            obtain ⟨hg,_,_,_⟩ := h
            cases g; cases hg
            simp only [gridL, List.cons.injEq] at e
            obtain ⟨rfl, rfl, rfl, rfl, rfl,_⟩ := e
            rfl
end

set_option maxRecDepth 20000 in
set_option maxHeartbeats 8000000 in
theorem Add_e (b : Nat) (h : BkH) (la : Int) (q : BkQ) (pt : Option Addr) (nt ct : Nat) (kd : Nat → Int) (time : Int) (g : Grid) (vs : List Span) (pv : Option Addr) (cv : Nat) (w : World) (hb : Cells w ⟨b, 0, none⟩ (bkC h la q pt nt ct kd)) (hv : Spans w pv vs) (hne : addE h la q.nm time g vs ≠ 0) :
  Calls Try.prog 48 #[.pointer (some ⟨b, 0, none⟩), .int .i64 time, fieldV g pv vs.length cv] w fun e w' => e = .returned (.tuple #[.slice none 0 0, .int .i64 (addE h la q.nm time g vs)]) ∧ St (bs w) [] w' := by
  refine enter (vs := [_,_,_]) (env := [(0,_), (1,_), (2,_)]) Try.func48 rfl rfl rfl rfl ?_
  refine VC.seq ?_
  refine VC.reg (VO.h rfl<|HO.box (C := #[_,_,_,_,_,_]) rfl rfl fun b1 => VO.l (LO.as (.r rfl)) rfl<|VO.l (LO.as (.r rfl)) rfl<|VO.nil ?_)
  refine VE.seqN ?_
  refine VC.seq ?_
  refine VC.seq ?_
  refine VC.reg (VO.l (LO.mv (.r rfl)) rfl<|VO.l (LO.call (xs := [_]) (vs := [_]) C91 ⟨(.r rfl), trivial⟩ (fun w2 hw => valid_y b h la q pt nt ct kd w2 (cells_keep hb w2 hw))) rfl<|VO.l (LO.not (.r rfl)) rfl<|VO.nil ?_)
  refine VE.seqN ?_
  refine VC.cond rfl (fun h15 => ?_) (fun h15 => ?_)
  ·
    (exfalso; exact h15 rfl)
  ·
    refine VC.skip (VE.seqN ?_)
    refine VC.seq ?_
    refine VC.seq ?_
    refine VC.reg (VO.l (LO.lda (vs := [_,_,_,_,_,_]) A26 (.r rfl) (fun _ hw => cells_at hw 0 rfl ⟨_, rfl⟩) rfl) rfl<|VO.l (LO.call (xs := [_]) (vs := [_]) C73 ⟨(.r rfl), trivial⟩ (fun w hw => bCheckField_c ⟨g, vs⟩ pv cv w (hv.keep w hw))) rfl<|VO.l (LO.as (.r rfl)) rfl<|VO.nil ?_)
    refine VE.seqN ?_
    refine VC.seq ?_
    refine VC.reg (VO.l (LO.mv (.r rfl)) rfl<|VO.l (LO.ne (.r rfl) (.r rfl)) rfl<|VO.nil ?_)
    refine VE.seqN ?_
    refine VC.cond rfl (fun h19 => ?_) (fun h19 => ?_)
    ·
      refine VC.seq ?_
      refine VC.reg (VO.l (LO.mv (.r rfl)) rfl<|VO.l (LO.as (.r rfl)) rfl<|VO.l (LO.as (.r rfl)) rfl<|VO.nil ?_)
      refine VE.seqN ?_
      refine VC.ret (VE.thenR (VE.res (vs := [_,_]) rfl ⟨rfl, rfl, trivial⟩ (fun w hw => ?_)))
      refine ⟨?_, hw.nil⟩
      refine congrArg (fun z => Ending.returned (.tuple #[.slice none 0 0, .int .i64 z])) ?_
      first | exact ad1 h19 | exact ad2 h19 h26 | exact ad3 h19 h26 h34 | exact ad4 h19 h26 h34 h41 | exact ad5 h19 h26 h34 h41 (by omega)
    ·
      refine VC.skip (VE.seqN ?_)
      refine VC.seq ?_
      refine VC.reg (VO.l (LO.mv (.r rfl)) rfl<|VO.l (LO.nc (.r rfl)) rfl<|VO.l (LO.fa (r := 8) F119_4 (.r rfl) rfl) rfl<|VO.l (LO.ld O115 (.r rfl) (cells_keep (sub_cells (off := 8) hb ⟨_, rfl⟩))) rfl<|VO.l (LO.len S115 (.r rfl) rfl) rfl<|VO.l (LO.as (.r rfl)) rfl<|VO.nil ?_)
      refine VE.seqN ?_
      refine VC.seq ?_
      refine VC.block ?_
      refine VC.seq ?_
      refine VC.draw mixed (LL.l (LO.fa (r := 0) F26_0 (.r rfl) rfl) rfl<|LL.l (LO.lda (vs := [_,_,_,_,_]) A23 (.r rfl) (fun _ hw => cells_at hw 0 rfl ⟨_, rfl⟩) rfl) rfl<|LL.l (LO.mv (.r rfl)) rfl<|LL.l (LO.nc (.r rfl)) rfl<|LL.l (LO.fa (r := 0) F119_0 (.r rfl) rfl) rfl<|LL.l (LO.lda (vs := [_,_,_,_,_]) A23 (.r rfl) (cells_keep (sub_cells (off := 0) hb ⟨_, rfl⟩)) rfl) rfl<|LL.l (LO.neA («as» := [_,_,_,_,_]) (bs := [_,_,_,_,_]) EA23 (.r rfl) (.r rfl) rfl rfl) rfl<|LL.l (LO.as (.r rfl)) rfl<|LL.nil) (by kernel_rfl) ?_
      refine VE.seqN ?_
      refine VC.cond rfl (fun h26 => ?_) (fun h26 => ?_)
      ·
        refine VC.seq ?_
        refine VC.reg (VO.l (LO.as (.r rfl)) rfl<|VO.l (LO.as (.r rfl)) rfl<|VO.nil ?_)
        refine VE.seqN ?_
        refine VC.ret (VE.inR (VE.thenR (VE.res (vs := [_,_]) rfl ⟨rfl, rfl, trivial⟩ (fun w hw => ?_))))
        refine ⟨?_, hw.nil⟩
        refine congrArg (fun z => Ending.returned (.tuple #[.slice none 0 0, .int .i64 z])) ?_
        first | exact ad1 h19 | exact ad2 h19 h26 | exact ad3 h19 h26 h34 | exact ad4 h19 h26 h34 h41 | exact ad5 h19 h26 h34 h41 (by omega)
      ·
        refine VC.seq ?_
        refine VC.reg (VO.l (LO.mv (.r rfl)) rfl<|VO.l (LO.lt (.r rfl) (.r rfl)) rfl<|VO.l (LO.mv (.r rfl)) rfl<|VO.lg rfl rfl (GD.f _) (fun hg => LO.mv (.r rfl)) rfl<|VO.lg rfl rfl (GD.f _) (fun hg => LO.gt (.g hg rfl) (.r rfl)) rfl<|VO.l (LO.pkO (.r rfl) (.r rfl) rfl rfl) rfl<|VO.l (LO.as (.r rfl)) rfl<|VO.nil ?_)
        refine VE.seqN ?_
        refine VC.cond rfl (fun h34 => ?_) (fun h34 => ?_)
        ·
          refine VC.seq ?_
          refine VC.reg (VO.l (LO.as (.r rfl)) rfl<|VO.l (LO.as (.r rfl)) rfl<|VO.nil ?_)
          refine VE.seqN ?_
          refine VC.ret (VE.inR (VE.thenR (VE.res (vs := [_,_]) rfl ⟨rfl, rfl, trivial⟩ (fun w hw => ?_))))
          refine ⟨?_, hw.nil⟩
          refine congrArg (fun z => Ending.returned (.tuple #[.slice none 0 0, .int .i64 z])) ?_
          first | exact ad1 h19 | exact ad2 h19 h26 | exact ad3 h19 h26 h34 | exact ad4 h19 h26 h34 h41 | exact ad5 h19 h26 h34 h41 (by omega)
        ·
          refine VC.seq ?_
          refine VC.reg (VO.l (LO.mv (.r rfl)) rfl<|VO.l (LO.mv (.r rfl)) rfl<|VO.l (LO.nc (.r rfl)) rfl<|VO.l (LO.fa (r := 7) F119_3 (.r rfl) rfl) rfl<|VO.l (LO.ld O3 (.r rfl) (cells_keep (sub_cells (off := 7) hb ⟨_, rfl⟩))) rfl<|VO.l (LO.le (.r rfl) (.r rfl)) rfl<|VO.l (LO.as (.r rfl)) rfl<|VO.nil ?_)
          refine VE.seqN ?_
          refine VC.cond rfl (fun h41 => ?_) (fun h41 => ?_)
          ·
            refine VC.seq ?_
            refine VC.reg (VO.l (LO.as (.r rfl)) rfl<|VO.l (LO.as (.r rfl)) rfl<|VO.nil ?_)
            refine VE.seqN ?_
            refine VC.ret (VE.inR (VE.thenR (VE.res (vs := [_,_]) rfl ⟨rfl, rfl, trivial⟩ (fun w hw => ?_))))
            refine ⟨?_, hw.nil⟩
            refine congrArg (fun z => Ending.returned (.tuple #[.slice none 0 0, .int .i64 z])) ?_
            first | exact ad1 h19 | exact ad2 h19 h26 | exact ad3 h19 h26 h34 | exact ad4 h19 h26 h34 h41 | exact ad5 h19 h26 h34 h41 (by omega)
          ·
            refine VC.seq ?_
            refine VC.reg (VO.l (LO.mv (.r rfl)) rfl<|VO.l (LO.eq (.r rfl) (.r rfl)) rfl<|VO.l (LO.as (.r rfl)) rfl<|VO.nil ?_)
            refine VE.seqN ?_
            refine VC.cond rfl (fun h48 => ?_) (fun h48 => ?_)
            ·
              refine VC.seq ?_
              refine VC.reg (VO.l (LO.as (.r rfl)) rfl<|VO.l (LO.as (.r rfl)) rfl<|VO.nil ?_)
              refine VE.seqN ?_
              refine VC.ret (VE.inR (VE.thenR (VE.res (vs := [_,_]) rfl ⟨rfl, rfl, trivial⟩ (fun w hw => ?_))))
              refine ⟨?_, hw.nil⟩
              refine congrArg (fun z => Ending.returned (.tuple #[.slice none 0 0, .int .i64 z])) ?_
              first | exact ad1 h19 | exact ad2 h19 h26 | exact ad3 h19 h26 h34 | exact ad4 h19 h26 h34 h41 | exact ad5 h19 h26 h34 h41 (by omega)
            ·
              (exfalso; exact hne (ad6 h19 h26 h34 h41 (fun z => h48 (by omega))))

end Go.Proofs.Ytgemekpofpoopaa

namespace Go.Proofs.Ytgemekpofpoopaa
open Go.SL Go.Proofs Go.Cast Go.Cell
set_option linter.unusedVariables false

theorem F119_1 : FieldAt Try.prog 119 1 5 := ⟨_,_, Try.underlying119, rfl, rfl, 0, by kernel_rfl⟩
theorem I154 : EInfo Try.prog 154 7 88 (.agg #[.int .i64 0, .int .i64 0, .int .i64 0, .int .i64 0, .int .i64 0, .slice none 0 0, .slice none 0 0]) := ⟨by kernel_rfl, by kernel_rfl, by unfold ZeroOf; kernel_rfl, rfl, by decide⟩
theorem N115 : (Try.prog.info? 115).map (·.size) = some 1 := by kernel_rfl
theorem C93 : IsFn Try.prog 93 := ⟨_, Try.func93, by decide, rfl⟩


theorem RO.of_bag {α : Type} {z E : Nat} {f : α → List Value} {γ : Type} {P : γ → Option Addr} {C : γ → Nat} {X : γ → List α} {l : List γ} {w : World} {β : Bs} {L : List Res} (hw : St β L w) (i : Nat) (hi : L[i]? = some (bagD (l.map fun x => own E z (P x) (C x) ((X x).map f)))) {x : γ} (hx : x ∈ l) : RO z f w (P x) (X x) :=
  own_inv_rows ((hw.inv i _ hi).1 _ (List.mem_map_of_mem (f := fun x => own E z (P x) (C x) ((X x).map f)) hx))
/-- What a further map leaves. -/
structure AdY where
  yN : ArY
  ev : EvY
  pm : Option Addr
  cm : Nat
  pt : Option Addr
  ct : Nat
  kd : Nat → Int
  tk : List TkR
  of : Nat × Nat → Option Nat
def kdF (kd : Nat → Int) (es : List EvM) : Nat → Int := es.foldl (fun kd e => kdU kd e.kd.toNat) kd
theorem kdF_app {kd : Nat → Int} {es : List EvM} {e : EvM} : kdF kd (es ++ [e]) = kdU (kdF kd es) e.kd.toNat := by unfold kdF; rw [List.foldl_append]; rfl
theorem kdF_bd : ∀ {es : List EvM} {kd : Nat → Int} {B : Int}, (∀ j, 0 ≤ kd j ∧ kd j ≤ B) → ∀ j, 0 ≤ kdF kd es j ∧ kdF kd es j ≤ B + es.length
  | [], kd, B, h, j => ⟨(h j).1, by have := (h j).2; show kd j ≤ B + ((0 : Nat) : Int); omega⟩
  | e :: es, kd, B, h, j => by
    have := kdF_bd (es := es) (kd := kdU kd e.kd.toNat) (B := B + 1) (fun j => by have := h j; unfold kdU; split <;> omega) j
    show 0 ≤ kdF (kdU kd e.kd.toNat) es j ∧ kdF (kdU kd e.kd.toNat) es j ≤ _
    rw [List.length_cons]
    push_cast
    omega
set_option maxRecDepth 20000 in
set_option maxHeartbeats 8000000 in
theorem Add_0 (b : Nat) (h : BkH) (la : Int) (pm : Option Addr) (cm : Nat) (pt : Option Addr) (ct : Nat) (kd : Nat → Int) (tk : List TkR) (of : Nat × Nat → Option Nat) (time : Int) (vs : List Span) (pv : Option Addr) (cv : Nat) (w : World) (hh : Has w (bkF b h la pm cm [] pt ct kd tk of)) (hvv : ∀ {L : List Res} {v : World}, St ⟨w, fpL (bkF b h la pm cm [] pt ct kd tk of)⟩ L v → Spans v pv vs) (hok : addE h la 0 time h.g vs = 0) (hlv : 1 ≤ h.lv ∧ h.lv ≤ 1073741824) (hl : tk.length ≤ 800000) :
  Calls Try.prog 48 #[.pointer (some ⟨b, 0, none⟩), .int .i64 time, .agg #[.int .i64 h.g.x, .int .i64 h.g.y, .int .i64 h.g.size, .int .i64 h.g.wide, .int .i64 h.g.high, .slice pv vs.length cv]] w fun e w' => ∃ y : AdY, (ArP (gW h.g) (gH h.g) vs h.lv y.yN ∧ (y.tk.map TkR.m, y.of) = birthsM 0 [] (tk.map TkR.m, of) y.yN.l.length ∧ y.tk.length ≤ tk.length + y.yN.l.length) ∧ e = .returned (.tuple #[.slice none 0 0, .int .i64 0]) ∧ St ⟨w, fpL (bkF b h la pm cm [] pt ct kd tk of)⟩ (bkF b h time y.pm y.cm [y.yN] y.pt y.ct kd y.tk y.of ++ y.yN.R (ofL (gW h.g) (gH h.g) (mayB vs h.lv))) w' := by
  obtain ⟨hfd,_, ht0, ht1, hla, hn48⟩ := addOk hok
  obtain ⟨hg, hlen, hsk,_,_⟩ := openOk (field_open (lv := h.lv) hfd hlv.1 hlv.2)
  have har := area_le hg
  have hv := hvv hh.enter
  refine enterO (vs := [_,_,_]) (env := [(0,_), (1,_), (2,_)]) hh.enter Try.func48 rfl rfl rfl rfl ?_
  refine VC.seq ?_
  refine VC.reg (VO.h rfl<|HO.box (C := #[_,_,_,_,_,_]) rfl rfl fun b8 => VO.l (LO.as (.r rfl)) rfl<|VO.l (LO.as (.r rfl)) rfl<|VO.nil ?_)
  refine VE.seqN ?_
  refine VC.seq ?_
  refine VC.seq ?_
  refine VC.reg (VO.l (LO.mv (.r rfl)) rfl<|VO.l (LO.call (xs := [_]) (vs := [_]) C91 ⟨(.r rfl), trivial⟩ (fun w2 hw => valid_y b h la ⟨pm, 0, cm⟩ pt tk.length ct kd w2 (cells_inv (hw.inv 1 _ rfl)))) rfl<|VO.l (LO.not (.r rfl)) rfl<|VO.nil ?_)
  refine VE.seqN ?_
  refine VC.cond rfl (fun h15 => ?_) (fun h15 => ?_)
  ·
    (exfalso; exact h15 rfl)
  ·
    refine VC.skip (VE.seqN ?_)
    refine VC.seq ?_
    refine VC.seq ?_
    refine VC.reg (VO.l (LO.lda (vs := [_,_,_,_,_,_]) A26 (.r rfl) (fun _ hw => cells_at hw 0 rfl ⟨_, rfl⟩) rfl) rfl<|VO.l (LO.call (xs := [_]) (vs := [_]) C73 ⟨(.r rfl), trivial⟩ (fun w2 hw => bCheckField_c ⟨h.g, vs⟩ pv cv w2 (hvv hw))) rfl<|VO.l (LO.as (.r rfl)) rfl<|VO.nil ?_)
    refine VE.seqN ?_
    refine VC.seq ?_
    refine VC.reg (VO.l (LO.mv (.r rfl)) rfl<|VO.l (LO.ne (.r rfl) (.r rfl)) rfl<|VO.nil ?_)
    refine VE.seqN ?_
    refine VC.cond rfl (fun h19 => ?_) (fun h19 => ?_)
    ·
      (exfalso; exact h19 hfd)
    ·
      refine VC.skip (VE.seqN ?_)
      refine VC.seq ?_
      refine VC.reg (VO.l (LO.mv (.r rfl)) rfl<|VO.l (LO.nc (.r rfl)) rfl<|VO.l (LO.fa (r := 8) F119_4 (.r rfl) rfl) rfl<|VO.l (LO.ld O115 (.r rfl) (fun _ hw => cells_at hw 1 rfl ⟨_, rfl⟩)) rfl<|VO.l (LO.len S115 (.r rfl) rfl) rfl<|VO.l (LO.as (.r rfl)) rfl<|VO.nil ?_)
      refine VE.seqN ?_
      refine VC.seq ?_
      refine VC.block ?_
      refine VC.seq ?_
      refine VC.draw mixed (LL.l (LO.fa (r := 0) F26_0 (.r rfl) rfl) rfl<|LL.l (LO.lda (vs := [_,_,_,_,_]) A23 (.r rfl) (fun _ hw => cells_at hw 0 rfl ⟨_, rfl⟩) rfl) rfl<|LL.l (LO.mv (.r rfl)) rfl<|LL.l (LO.nc (.r rfl)) rfl<|LL.l (LO.fa (r := 0) F119_0 (.r rfl) rfl) rfl<|LL.l (LO.lda (vs := [_,_,_,_,_]) A23 (.r rfl) (fun _ hw => cells_at hw 1 rfl ⟨_, rfl⟩) rfl) rfl<|LL.l (LO.neA («as» := [_,_,_,_,_]) (bs := [_,_,_,_,_]) EA23 (.r rfl) (.r rfl) rfl rfl) rfl<|LL.l (LO.as (.r rfl)) rfl<|LL.nil) (by kernel_rfl) ?_
      refine VE.seqN ?_
      refine VC.cond rfl (fun h26 => ?_) (fun h26 => ?_)
      ·
        (exfalso; exact h26 rfl)
      ·
        refine VC.seq ?_
        refine VC.reg (VO.l (LO.mv (.r rfl)) rfl<|VO.l (LO.lt (.r rfl) (.r rfl)) rfl<|VO.l (LO.mv (.r rfl)) rfl<|VO.lg rfl rfl (GD.f _) (fun hg => LO.mv (.r rfl)) rfl<|VO.lg rfl rfl (GD.f _) (fun hg => LO.gt (.g hg rfl) (.r rfl)) rfl<|VO.l (LO.pkO (.r rfl) (.r rfl) rfl rfl) rfl<|VO.l (LO.as (.r rfl)) rfl<|VO.nil ?_)
        refine VE.seqN ?_
        refine VC.cond rfl (fun h34 => ?_) (fun h34 => ?_)
        ·
          (exfalso; omega)
        ·
          refine VC.seq ?_
          refine VC.reg (VO.l (LO.mv (.r rfl)) rfl<|VO.l (LO.mv (.r rfl)) rfl<|VO.l (LO.nc (.r rfl)) rfl<|VO.l (LO.fa (r := 7) F119_3 (.r rfl) rfl) rfl<|VO.l (LO.ld O3 (.r rfl) (fun _ hw => cells_at hw 1 rfl ⟨_, rfl⟩)) rfl<|VO.l (LO.le (.r rfl) (.r rfl)) rfl<|VO.l (LO.as (.r rfl)) rfl<|VO.nil ?_)
          refine VE.seqN ?_
          refine VC.cond rfl (fun h41 => ?_) (fun h41 => ?_)
          ·
            (exfalso; omega)
          ·
            refine VC.seq ?_
            refine VC.reg (VO.l (LO.mv (.r rfl)) rfl<|VO.l (LO.eq (.r rfl) (.r rfl)) rfl<|VO.l (LO.as (.r rfl)) rfl<|VO.nil ?_)
            refine VE.seqN ?_
            refine VC.cond rfl (fun h48 => ?_) (fun h48 => ?_)
            ·
              (exfalso; exact absurd h48 (show ¬ ((0 : Nat) : Int) = 48 by decide))
            ·
              refine VC.skip (VE.inN (VE.seqN ?_))
              refine VC.seq ?_
              refine VC.drawH [[0,1,2,3,4,5,6,7], [0,1,2,3,4,5,6,7], [0,1,2,3,4,5,6,7], [0,1,2,3,4,6,7], [0,2,3,4,6,7], [0,2,3,4,6,7]] [some 3, some 4, some 2, some 2, some 2, some 2, some 0, some 0, some 0, some 0, some 0, none, none, none, some 4, some 3, some 3, none, some 4, some 4, none] mixed (by kernel_rfl) rfl (LX.l (fun _ hJ => LO.mv (.r rfl)) rfl<|LX.l (fun _ hJ => LO.mv (.r rfl)) rfl<|LX.l (fun _ hJ => LO.mv (.r rfl)) rfl<|LX.l (fun _ hJ => LO.nc (.r rfl)) rfl<|LX.l (fun _ hJ => LO.fa (r := 8) F119_4 (.r rfl) rfl) rfl<|LX.l (fun _ hJ => LO.ld O115 (.r rfl) (fun _ hw => cells_at (hJ _ hw) 1 rfl ⟨_, rfl⟩)) rfl<|LX.l (fun _ hJ => LO.lda (vs := [_,_,_,_,_,_]) A26 (.r rfl) (fun _ hw => cells_at (hJ _ hw) 0 rfl ⟨_, rfl⟩) rfl) rfl<|LX.l (fun _ hJ => LO.mv (.r rfl)) rfl<|LX.l (fun _ hJ => LO.nc (.r rfl)) rfl<|LX.l (fun _ hJ => LO.fa (r := 5) F119_1 (.r rfl) rfl) rfl<|LX.l (fun _ hJ => LO.ld O3 (.r rfl) (fun _ hw => cells_at (hJ _ hw) 1 rfl ⟨_, rfl⟩)) rfl<|LX.s<|LX.s<|LX.s<|LX.l (fun _ hJ => LO.mv (.r rfl)) rfl<|LX.l (fun _ hJ => LO.nc (.r rfl)) rfl<|LX.l (fun _ hJ => LO.fa (r := 8) F119_4 (.r rfl) rfl) rfl<|LX.s<|LX.l (fun _ hJ => LO.nc (.r rfl)) rfl<|LX.l (fun _ hJ => LO.fa (r := 7) F119_3 (.r rfl) rfl) rfl<|LX.s<|LX.nil) (HX.s<|HX.s<|HX.s<|HX.s<|HX.s<|HX.s<|HX.s<|HX.s<|HX.s<|HX.s<|HX.s<|HX.h rfl<|HO.callx (xs := [_,_]) (vs := [_,_]) C78 ⟨(.r rfl), (.r rfl), trivial⟩ (fun w2 hw => spreadOf_c h.g vs pv cv h.lv w2 hg hlen hsk (hvv hw)) fun yN hyA => ⟨selJ (L1 := [_,_,_,_,_,_,_,_]) [8,9,10,11,12,13,14,15] rfl rfl rfl, HX.h rfl<|HO.bs (ps := [(_,_)]) (vs := [(_,_)]) (Z := [_,_,_,_,_,_,_]) (C := [_,_,_,_,_,_,_]) S115 Z154 N154 ⟨(.r rfl), trivial⟩ rfl rfl rfl rfl ⟨_, [_,_,_,_,_,_,_], [_,_,_,_,_,_,_], rfl, rfl, rfl, rfl, rfl⟩ fun b28 => ⟨selJ (L1 := [_,_,_,_,_,_,_,_]) [9,10,11,12,13,14,15,16] rfl rfl rfl, HX.h rfl<|HO.appT (yN) 14 0 (fun R => [_,_,_,_,_,_,_,_,_,_,_,_,_,_, R,_,_]) S115 S115 I154 (.r rfl) (.r rfl) rfl rfl rfl rfl rfl rfl rfl (fun _ => rfl) rfl (by show (2 * (0 + 1) + 768) * _ ≤ _; omega) fun p13 c13 => ⟨selJ (L1 := [_,_,_,_,_,_,_]) [9,10,11,12,13,15,16] rfl rfl rfl, HX.s<|HX.s<|HX.s<|HX.h0<|HO.st 10 (vs := [_]) (C' := [_,_,_,_,_,_,_,_,_,_,_,_,_,_,_,_,_,_,_]) (L' := [_,_,_,_,_,_,_,_,_,_,_,_,_,_,_,_,_]) N115 rfl rfl rfl rfl rfl rfl rfl rfl<|⟨selJ (L1 := [_,_,_,_,_,_]) [9,11,12,13,15,16] rfl rfl rfl, HX.s<|HX.s<|HX.h0<|HO.st 10 (vs := [_]) (C' := [_,_,_,_,_,_,_,_,_,_,_,_,_,_,_,_,_,_,_]) (L' := [_,_,_,_,_,_,_,_,_,_,_,_,_,_,_,_,_]) N3 rfl rfl rfl rfl rfl rfl rfl rfl<|⟨selJ (L1 := [_,_,_,_,_,_]) [9,11,12,13,15,16] rfl rfl rfl, HX.nil ?_⟩⟩⟩⟩⟩)
              have hnp := ar_len hyA
              have hnl := ar_le hyA
              refine VE.seqN ?_
              refine VC.seq ?_
              refine VC.reg (VO.l (LO.as (.r rfl)) rfl<|VO.nil ?_)
              refine VE.seqN ?_
              refine VC.seq ?_
              refine VC.seq ?_
              refine VC.reg (VO.l (LO.mv (.r rfl)) rfl<|VO.l (LO.gt (.r rfl) (.r rfl)) rfl<|VO.nil ?_)
              refine VE.seqN ?_
              refine VC.cond rfl (fun h71 => ?_) (fun h71 => ?_)
              ·
                (exfalso; exact absurd h71 (show ¬ (0 : Int) < ((0 : Nat) : Int) by decide))
              ·
                refine VC.skip (VE.seqN ?_)
                refine VC.seq ?_
                refine VC.seq ?_
                refine VC.reg (VO.l (LO.mv (.r rfl)) rfl<|VO.l (LO.len S46 (.r rfl) rfl) rfl<|VO.l (LO.mv (.r rfl)) rfl<|VO.nil ?_)
                refine VE.seqN ?_
                refine VC.block ?_
                refine VC.loopK (α := Nat) 0 (fun gx => [(94, .int .i64 (gx : Nat))]) [(0,_), (9,_), (10,_), (92,_), (93,_)] (fun gx => []) (fun gx => True) (fun gx => 1 - gx) 0 (by exact trivial) (.cons rfl (.cons rfl (.cons rfl (.cons rfl (.cons rfl (.cons rfl .nil)))))) (fun _ h => h) ?_
                rintro k _
                refine VC.seq ?_
                refine VC.reg (VO.l (LO.lt (.r rfl) (.r rfl)) rfl<|VO.nil ?_)
                refine VE.seqN ?_
                refine VC.seq ?_
                refine VC.cond rfl (fun h95 => ?_) (fun h95 => ?_)
                ·
                  (exfalso; simp at h95; try omega)
                ·
                  refine VC.exit (VE.thenX (VE.thenX (VE.inX (VE.seqN ?_))))
                  refine VC.seq ?_
                  refine VC.reg (VO.l (LO.mv (.r rfl)) rfl<|VO.l (LO.mv (.r rfl)) rfl<|VO.l (LO.mv (.r rfl)) rfl<|VO.h rfl<|HO.callP (first := []) (cap := []) (xs := [_,_,_]) (vs := [_,_,_]) [_,_,_,_,_,_,_] [_,_,_,_,_,_,_,_,_,_] (selK (L1 := [_,_,_,_,_,_,_] ++ [_,_,_,_,_,_,_,_,_,_]) [10,11,12,13,14,15,16,0,1,2,3,4,5,6,7,8,9] rfl rfl) (.r rfl) C93 ⟨(.r rfl), (.r rfl), (.r rfl), trivial⟩ (fun w hw hh => births0_c b h time p13 c13 [yN] pt ct kd tk of yN.l.length yN rfl rfl w hh (by omega)) fun y hy => VO.nil ?_)
                  refine VE.seqN ?_
                  refine VC.seq ?_
                  refine VC.reg (VO.l (LO.mv (.r rfl)) rfl<|VO.l (LO.as (.r rfl)) rfl<|VO.l (LO.as (.r rfl)) rfl<|VO.nil ?_)
                  refine VE.seqN ?_
                  refine VC.ret (VE.res (vs := [_,_]) rfl ⟨rfl, rfl, trivial⟩ (fun w hw => ?_))
                  exact ⟨⟨yN, ⟨[], none, 0⟩, p13, c13, y.pt, y.ct, kd, y.tk, y.of⟩, ⟨hyA, hy.1, hy.2⟩, rfl, selK [0,1,2,3,4,5,6,8,9,10,11,12,13,14,15] rfl rfl _ hw⟩

end Go.Proofs.Ytgemekpofpoopaa

namespace Go.Proofs.Ytgemekpofpoopaa
open Go.SL Go.Proofs Go.Cast Go.Cell
set_option linter.unusedVariables false

theorem F119_2 : FieldAt Try.prog 119 2 6 := ⟨_,_, Try.underlying119, rfl, rfl, 0, by kernel_rfl⟩
theorem C92 : IsFn Try.prog 92 := ⟨_, Try.func92, by decide, rfl⟩


structure AdP (h : BkH) (vs vP : List Span) (yP : ArY) (r n : Nat) (kd : Nat → Int) (tk : List TkR) (of : Nat × Nat → Option Nat) (y : AdY) : Prop where
  ar : ArP (gW h.g) (gH h.g) vs h.lv y.yN
  ev : EvP (gW h.g) (gH h.g) r (ofL (gW h.g) (gH h.g) (mayB vP h.lv)) (ofL (gW h.g) (gH h.g) (mayB vs h.lv)) yP.l.length y.yN.l.length (y.ev.l.map EvR.m)
  trk : (y.tk.map TkR.m, y.of) = birthsM (n + 1) (y.ev.l.map EvR.m) ((tk.map TkR.m).map (chgB (n + 1) (y.ev.l.map EvR.m)), ofC n (y.ev.l.map EvR.m) of) y.yN.l.length
  len : y.tk.length ≤ tk.length + y.yN.l.length
  kd : y.kd = kdF kd (y.ev.l.map EvR.m)
theorem take_ap {es : List EvM} (h : es.Pairwise fun a b => (∀ i, i ∈ a.f → i ∉ b.f) ∧ ∀ j, j ∈ a.t → j ∉ b.t) {k : Nat} {e : EvM} (he : es[k]? = some e) : ∀ x, x ∈ es.take k → (∀ a, a ∈ e.f → a ∉ x.f) ∧ ∀ b, b ∈ e.t → b ∉ x.t := fun x hx => by
  obtain ⟨hk, rfl⟩ := List.getElem?_eq_some_iff.1 he
  obtain ⟨i, hi, rfl⟩ := List.mem_iff_getElem.1 hx
  rw [List.length_take] at hi
  rw [List.getElem_take]
  have := List.pairwise_iff_getElem.1 h i k (by omega) hk (by omega)
  exact ⟨fun a h1 h2 => this.1 a h2 h1, fun b h1 h2 => this.2 b h2 h1⟩
theorem take_m {l : List EvR} {k : Nat} {e : EvR} (h : l[k]? = some e) : (l.map EvR.m).take (k + 1) = (l.map EvR.m).take k ++ [e.m] := by
  have h2 : (l.map EvR.m)[k]? = some e.m := by rw [List.getElem?_map, h]; rfl
  obtain ⟨hk, e2⟩ := List.getElem?_eq_some_iff.1 h2
  rw [List.take_succ_eq_append_getElem hk, e2]
theorem take_all {l : List EvR} : (l.map EvR.m).take l.length = l.map EvR.m := by have h : (l.map EvR.m).take (l.map EvR.m).length = l.map EvR.m := List.take_length; rwa [List.length_map] at h

set_option maxRecDepth 20000 in
set_option maxHeartbeats 16000000 in
theorem Add_1 (b : Nat) (h : BkH) (la : Int) (pm : Option Addr) (cm : Nat) (ys : List ArY) (pt : Option Addr) (ct : Nat) (kd : Nat → Int) (tk : List TkR) (of : Nat × Nat → Option Nat) (time : Int) (vs : List Span) (pv : Option Addr) (cv : Nat) (w : World) (hh : Has w (bkF b h la pm cm ys pt ct kd tk of)) (hvv : ∀ {L : List Res} {v : World}, St ⟨w, fpL (bkF b h la pm cm ys pt ct kd tk of)⟩ L v → Spans v pv vs) (hok : addE h la ys.length time h.g vs = 0) (hlv : 1 ≤ h.lv ∧ h.lv ≤ 1073741824) (hl : tk.length ≤ 800000) (n r : Nat) (hys : ys.length = n + 1) (hyl : ys.length ≤ 48) (yP : ArY) (hyP : ys[n]? = some yP) (vP : List Span) (hyPa : ArP (gW h.g) (gH h.g) vP h.lv yP) (hsp : ∀ {L : List Res} {v : World}, St ⟨w, fpL (bkF b h la pm cm ys pt ct kd tk of)⟩ L v → SpI v yP (ofL (gW h.g) (gH h.g) (mayB vP h.lv))) (E : List (List EvM)) (Ms : List Nat) (hI : TInv E Ms (tk.map TkR.m) of) (hMs : Ms.length = n + 1) (hMl : Ms.getD n 0 = yP.l.length) (hrc : h.rc = (r : Int)) (hr : r ≤ 8) (hkb : ∀ j, 0 ≤ kd j ∧ kd j ≤ 1000000000) :
  Calls Try.prog 48 #[.pointer (some ⟨b, 0, none⟩), .int .i64 time, .agg #[.int .i64 h.g.x, .int .i64 h.g.y, .int .i64 h.g.size, .int .i64 h.g.wide, .int .i64 h.g.high, .slice pv vs.length cv]] w fun e w' => ∃ y : AdY, AdP h vs vP yP r n kd tk of y ∧ e = .returned (.tuple #[.slice y.ev.p y.ev.l.length y.ev.c, .int .i64 0]) ∧ St ⟨w, fpL (bkF b h la pm cm ys pt ct kd tk of)⟩ (bkF b h time y.pm y.cm (ys ++ [y.yN]) y.pt y.ct y.kd y.tk y.of ++ (y.yN.R (ofL (gW h.g) (gH h.g) (mayB vs h.lv)) ++ y.ev.R)) w' := by
  obtain ⟨hfd,_, ht0, ht1, hla, hn48⟩ := addOk hok
  obtain ⟨hg, hlen, hsk,_,_⟩ := openOk (field_open (lv := h.lv) hfd hlv.1 hlv.2)
  have har := area_le hg
  have hv := hvv hh.enter
  have hpl := ar_le hyPa
  have hb0 : TK0 (n + 1) (tk.map TkR.m) of := by have z := hI.q.base; rw [hMs] at z; exact z
  refine enterO (vs := [_,_,_]) (env := [(0,_), (1,_), (2,_)]) hh.enter Try.func48 rfl rfl rfl rfl ?_
  refine VC.seq ?_
  refine VC.reg (VO.h rfl<|HO.box (C := #[_,_,_,_,_,_]) rfl rfl fun b8 => VO.l (LO.as (.r rfl)) rfl<|VO.l (LO.as (.r rfl)) rfl<|VO.nil ?_)
  refine VE.seqN ?_
  refine VC.seq ?_
  refine VC.seq ?_
  refine VC.reg (VO.l (LO.mv (.r rfl)) rfl<|VO.l (LO.call (xs := [_]) (vs := [_]) C91 ⟨(.r rfl), trivial⟩ (fun w2 hw => valid_y b h la ⟨pm, ys.length, cm⟩ pt tk.length ct kd w2 (cells_inv (hw.inv 1 _ rfl)))) rfl<|VO.l (LO.not (.r rfl)) rfl<|VO.nil ?_)
  refine VE.seqN ?_
  refine VC.cond rfl (fun h15 => ?_) (fun h15 => ?_)
  ·
    (exfalso; exact h15 rfl)
  ·
    refine VC.skip (VE.seqN ?_)
    refine VC.seq ?_
    refine VC.seq ?_
    refine VC.reg (VO.l (LO.lda (vs := [_,_,_,_,_,_]) A26 (.r rfl) (fun _ hw => cells_at hw 0 rfl ⟨_, rfl⟩) rfl) rfl<|VO.l (LO.call (xs := [_]) (vs := [_]) C73 ⟨(.r rfl), trivial⟩ (fun w2 hw => bCheckField_c ⟨h.g, vs⟩ pv cv w2 (hvv hw))) rfl<|VO.l (LO.as (.r rfl)) rfl<|VO.nil ?_)
    refine VE.seqN ?_
    refine VC.seq ?_
    refine VC.reg (VO.l (LO.mv (.r rfl)) rfl<|VO.l (LO.ne (.r rfl) (.r rfl)) rfl<|VO.nil ?_)
    refine VE.seqN ?_
    refine VC.cond rfl (fun h19 => ?_) (fun h19 => ?_)
    ·
      (exfalso; exact h19 hfd)
    ·
      refine VC.skip (VE.seqN ?_)
      refine VC.seq ?_
      refine VC.reg (VO.l (LO.mv (.r rfl)) rfl<|VO.l (LO.nc (.r rfl)) rfl<|VO.l (LO.fa (r := 8) F119_4 (.r rfl) rfl) rfl<|VO.l (LO.ld O115 (.r rfl) (fun _ hw => cells_at hw 1 rfl ⟨_, rfl⟩)) rfl<|VO.l (LO.eqv (LO.len S115 (.r rfl) rfl) (congrArg (Value.int .i64) (show ((ys.length : Nat) : Int) = ((n + 1 : Nat) : Int) by rw [hys]))) rfl<|VO.l (LO.as (.r rfl)) rfl<|VO.nil ?_)
      refine VE.seqN ?_
      refine VC.seq ?_
      refine VC.block ?_
      refine VC.seq ?_
      refine VC.draw mixed (LL.l (LO.fa (r := 0) F26_0 (.r rfl) rfl) rfl<|LL.l (LO.lda (vs := [_,_,_,_,_]) A23 (.r rfl) (fun _ hw => cells_at hw 0 rfl ⟨_, rfl⟩) rfl) rfl<|LL.l (LO.mv (.r rfl)) rfl<|LL.l (LO.nc (.r rfl)) rfl<|LL.l (LO.fa (r := 0) F119_0 (.r rfl) rfl) rfl<|LL.l (LO.lda (vs := [_,_,_,_,_]) A23 (.r rfl) (fun _ hw => cells_at hw 1 rfl ⟨_, rfl⟩) rfl) rfl<|LL.l (LO.neA («as» := [_,_,_,_,_]) (bs := [_,_,_,_,_]) EA23 (.r rfl) (.r rfl) rfl rfl) rfl<|LL.l (LO.as (.r rfl)) rfl<|LL.nil) (by kernel_rfl) ?_
      refine VE.seqN ?_
      refine VC.cond rfl (fun h26 => ?_) (fun h26 => ?_)
      ·
        (exfalso; exact h26 rfl)
      ·
        refine VC.seq ?_
        refine VC.reg (VO.l (LO.mv (.r rfl)) rfl<|VO.l (LO.lt (.r rfl) (.r rfl)) rfl<|VO.l (LO.mv (.r rfl)) rfl<|VO.lg rfl rfl (GD.f _) (fun hg => LO.mv (.r rfl)) rfl<|VO.lg rfl rfl (GD.f _) (fun hg => LO.gt (.g hg rfl) (.r rfl)) rfl<|VO.l (LO.pkO (.r rfl) (.r rfl) rfl rfl) rfl<|VO.l (LO.as (.r rfl)) rfl<|VO.nil ?_)
        refine VE.seqN ?_
        refine VC.cond rfl (fun h34 => ?_) (fun h34 => ?_)
        ·
          (exfalso; omega)
        ·
          refine VC.seq ?_
          refine VC.reg (VO.l (LO.mv (.r rfl)) rfl<|VO.l (LO.mv (.r rfl)) rfl<|VO.l (LO.nc (.r rfl)) rfl<|VO.l (LO.fa (r := 7) F119_3 (.r rfl) rfl) rfl<|VO.l (LO.ld O3 (.r rfl) (fun _ hw => cells_at hw 1 rfl ⟨_, rfl⟩)) rfl<|VO.l (LO.le (.r rfl) (.r rfl)) rfl<|VO.l (LO.as (.r rfl)) rfl<|VO.nil ?_)
          refine VE.seqN ?_
          refine VC.cond rfl (fun h41 => ?_) (fun h41 => ?_)
          ·
            (exfalso; omega)
          ·
            refine VC.seq ?_
            refine VC.reg (VO.l (LO.mv (.r rfl)) rfl<|VO.l (LO.eq (.r rfl) (.r rfl)) rfl<|VO.l (LO.as (.r rfl)) rfl<|VO.nil ?_)
            refine VE.seqN ?_
            refine VC.cond rfl (fun h48 => ?_) (fun h48 => ?_)
            ·
              (exfalso; omega)
            ·
              refine VC.skip (VE.inN (VE.seqN ?_))
              refine VC.seq ?_
              refine VC.drawH [[0,1,2,3,4,5,6,7], [0,1,2,3,4,5,6,7], [0,1,2,3,4,5,6,7], [0,1,2,3,4,6,7], [0,2,3,4,6,7], [0,2,3,4,6,7]] [some 3, some 4, some 2, some 2, some 2, some 2, some 0, some 0, some 0, some 0, some 0, none, none, none, some 4, some 3, some 3, none, some 4, some 4, none] mixed (by kernel_rfl) rfl (LX.l (fun _ hJ => LO.mv (.r rfl)) rfl<|LX.l (fun _ hJ => LO.mv (.r rfl)) rfl<|LX.l (fun _ hJ => LO.mv (.r rfl)) rfl<|LX.l (fun _ hJ => LO.nc (.r rfl)) rfl<|LX.l (fun _ hJ => LO.fa (r := 8) F119_4 (.r rfl) rfl) rfl<|LX.l (fun _ hJ => LO.ld O115 (.r rfl) (fun _ hw => cells_at (hJ _ hw) 1 rfl ⟨_, rfl⟩)) rfl<|LX.l (fun _ hJ => LO.lda (vs := [_,_,_,_,_,_]) A26 (.r rfl) (fun _ hw => cells_at (hJ _ hw) 0 rfl ⟨_, rfl⟩) rfl) rfl<|LX.l (fun _ hJ => LO.mv (.r rfl)) rfl<|LX.l (fun _ hJ => LO.nc (.r rfl)) rfl<|LX.l (fun _ hJ => LO.fa (r := 5) F119_1 (.r rfl) rfl) rfl<|LX.l (fun _ hJ => LO.ld O3 (.r rfl) (fun _ hw => cells_at (hJ _ hw) 1 rfl ⟨_, rfl⟩)) rfl<|LX.s<|LX.s<|LX.s<|LX.l (fun _ hJ => LO.mv (.r rfl)) rfl<|LX.l (fun _ hJ => LO.nc (.r rfl)) rfl<|LX.l (fun _ hJ => LO.fa (r := 8) F119_4 (.r rfl) rfl) rfl<|LX.s<|LX.l (fun _ hJ => LO.nc (.r rfl)) rfl<|LX.l (fun _ hJ => LO.fa (r := 7) F119_3 (.r rfl) rfl) rfl<|LX.s<|LX.nil) (HX.s<|HX.s<|HX.s<|HX.s<|HX.s<|HX.s<|HX.s<|HX.s<|HX.s<|HX.s<|HX.s<|HX.h rfl<|HO.callx (xs := [_,_]) (vs := [_,_]) C78 ⟨(.r rfl), (.r rfl), trivial⟩ (fun w2 hw => spreadOf_c h.g vs pv cv h.lv w2 hg hlen hsk (hvv hw)) fun yN hyA => ⟨selJ (L1 := [_,_,_,_,_,_,_,_]) [8,9,10,11,12,13,14,15] rfl rfl rfl, HX.h rfl<|HO.bs (ps := [(_,_)]) (vs := [(_,_)]) (Z := [_,_,_,_,_,_,_]) (C := [_,_,_,_,_,_,_]) S115 Z154 N154 ⟨(.r rfl), trivial⟩ rfl rfl rfl rfl ⟨_, [_,_,_,_,_,_,_], [_,_,_,_,_,_,_], rfl, rfl, rfl, rfl, rfl⟩ fun b28 => ⟨selJ (L1 := [_,_,_,_,_,_,_,_]) [9,10,11,12,13,14,15,16] rfl rfl rfl, HX.h rfl<|HO.appT (yN) 14 0 (fun R => [_,_,_,_,_,_,_,_,_,_,_,_,_,_, R,_,_]) S115 S115 I154 (.r rfl) (.r rfl) rfl rfl rfl rfl rfl rfl rfl (fun _ => rfl) rfl (by omega) fun p13 c13 => ⟨selJ (L1 := [_,_,_,_,_,_,_]) [9,10,11,12,13,15,16] rfl rfl rfl, HX.s<|HX.s<|HX.s<|HX.h0<|HO.st 10 (vs := [_]) (C' := [_,_,_,_,_,_,_,_,_,_,_,_,_,_,_,_,_,_,_]) (L' := [_,_,_,_,_,_,_,_,_,_,_,_,_,_,_,_,_]) N115 rfl rfl rfl rfl rfl rfl rfl rfl<|⟨selJ (L1 := [_,_,_,_,_,_]) [9,11,12,13,15,16] rfl rfl rfl, HX.s<|HX.s<|HX.h0<|HO.st 10 (vs := [_]) (C' := [_,_,_,_,_,_,_,_,_,_,_,_,_,_,_,_,_,_,_]) (L' := [_,_,_,_,_,_,_,_,_,_,_,_,_,_,_,_,_]) N3 rfl rfl rfl rfl rfl rfl rfl rfl<|⟨selJ (L1 := [_,_,_,_,_,_]) [9,11,12,13,15,16] rfl rfl rfl, HX.nil ?_⟩⟩⟩⟩⟩)
              have hnp := ar_len hyA
              have hnl := ar_le hyA
              have hyn : (ys ++ [yN]).length = ys.length + 1 := by rw [List.length_append]; rfl
              have hyx1 : (ys ++ [yN])[n]? = some yP := by rw [List.getElem?_append_left (by omega)]; exact hyP
              have hyN2 : (ys ++ [yN])[n + 1]? = some yN := by rw [← hys, List.getElem?_append_right (Nat.le_refl _), Nat.sub_self]; rfl
              have hyx2 := hyN2
              refine VE.seqN ?_
              refine VC.seq ?_
              refine VC.reg (VO.l (LO.as (.r rfl)) rfl<|VO.nil ?_)
              refine VE.seqN ?_
              refine VC.seq ?_
              refine VC.seq ?_
              refine VC.reg (VO.l (LO.mv (.r rfl)) rfl<|VO.l (LO.gt (.r rfl) (.r rfl)) rfl<|VO.nil ?_)
              refine VE.seqN ?_
              refine VC.cond rfl (fun h71 => ?_) (fun h71 => ?_)
              ·
                refine VC.drawH [[0,1,2,3,4,5,6,7,8,9,10,11,12,13,14,15,16], [0,1,2,3,4,5,6,7,8,9,10,11,12,13,14,15,16], [0,1,2,3,4,5,6,7,8,9,10,11,12,13,14,15,16]] [some 0, some 0, some 0, some 0, some 0, some 0, some 0, some 0, some 0, some 0, some 0, some 0, some 0, some 0, some 0, some 0, some 0, some 0, some 0, none, none] mixed (by kernel_rfl) rfl (LX.l (fun _ hJ => LO.mv (.r rfl)) rfl<|LX.l (fun _ hJ => LO.nc (.r rfl)) rfl<|LX.l (fun _ hJ => LO.fa (r := 8) F119_4 (.r rfl) rfl) rfl<|LX.l (fun _ hJ => LO.ld O115 (.r rfl) (fun _ hw => cells_at (hJ _ hw) 10 rfl ⟨_, rfl⟩)) rfl<|LX.l (fun _ hJ => LO.mv (.r rfl)) rfl<|LX.l (fun _ hJ => LO.eqv (LO.sub (.r rfl) (.r rfl) (wi (by omega) (by omega))) (congrArg (Value.int .i64) (show ((n + 1 : Nat) : Int) - 1 = (n : Int) by omega))) rfl<|LX.l (fun _ hJ => LO.ixo S115 N154 (fun _ hw => (own_rows (hJ _ hw) 14 rfl).some (by rw [List.length_map])) (.r rfl) (.r rfl) rfl (by rw [hyn]; omega)) rfl<|LX.l (fun _ hJ => LO.lda (vs := [_,_,_,_,_,_,_]) A154 (.r rfl) (fun w hw => cells_part (off := 0) (own_cell (hJ _ hw) 14 rfl hyx1) ⟨_, rfl⟩) rfl) rfl<|LX.l (fun _ hJ => LO.mv (.r rfl)) rfl<|LX.l (fun _ hJ => LO.nc (.r rfl)) rfl<|LX.l (fun _ hJ => LO.fa (r := 8) F119_4 (.r rfl) rfl) rfl<|LX.l (fun _ hJ => LO.ld O115 (.r rfl) (fun _ hw => cells_at (hJ _ hw) 10 rfl ⟨_, rfl⟩)) rfl<|LX.l (fun _ hJ => LO.mv (.r rfl)) rfl<|LX.l (fun _ hJ => LO.ixo S115 N154 (fun _ hw => (own_rows (hJ _ hw) 14 rfl).some (by rw [List.length_map])) (.r rfl) (.r rfl) rfl (by rw [hyn]; omega)) rfl<|LX.l (fun _ hJ => LO.lda (vs := [_,_,_,_,_,_,_]) A154 (.r rfl) (fun w hw => cells_part (off := 0) (own_cell (hJ _ hw) 14 rfl hyx2) ⟨_, rfl⟩) rfl) rfl<|LX.l (fun _ hJ => LO.mv (.r rfl)) rfl<|LX.l (fun _ hJ => LO.nc (.r rfl)) rfl<|LX.l (fun _ hJ => LO.fa (r := 6) F119_2 (.r rfl) rfl) rfl<|LX.l (fun _ hJ => LO.eqv (LO.ld O3 (.r rfl) (fun _ hw => cells_at (hJ _ hw) 10 rfl ⟨_, rfl⟩)) (congrArg (Value.int .i64) hrc)) rfl<|LX.s<|LX.s<|LX.nil) (HX.s<|HX.s<|HX.s<|HX.s<|HX.s<|HX.s<|HX.s<|HX.s<|HX.s<|HX.s<|HX.s<|HX.s<|HX.s<|HX.s<|HX.s<|HX.s<|HX.s<|HX.s<|HX.s<|HX.h rfl<|HO.callx (xs := [_,_,_]) (vs := [_,_,_]) C77 ⟨(.r rfl), (.r rfl), (.r rfl), trivial⟩ (fun w hw => events_c h.g yP yN _ _ r w hg (hsp hw) (SpI.of_res hw hyA 1 2 4 8 rfl rfl rfl rfl) ofL_len ofL_len (ar_le hyPa) (ar_le hyA) (by omega)) fun ev hev => ⟨selJ (L1 := [_,_,_,_,_,_,_,_,_,_,_,_,_,_,_,_,_]) [3,4,5,6,7,8,9,10,11,12,13,14,15,16,17,18,19] rfl rfl rfl, HX.h rfl<|HO.lo (LO.as (.r rfl))<|⟨selJ (L1 := [_,_,_,_,_,_,_,_,_,_,_,_,_,_,_,_,_]) [3,4,5,6,7,8,9,10,11,12,13,14,15,16,17,18,19] rfl rfl rfl, HX.nil ?_⟩⟩)
                have hgd := hev.good
                have hell := hgd.lenE
                rw [List.length_map] at hell
                have htot0 : ∀ a, a < yP.l.length → ∃ k, of (n, a) = some k := fun a ha => hI.q.tot n a (by omega) (by rw [hMl]; exact ha) (.inr (.inl (by rw [hMs, Nat.add_sub_cancel, hMl]; exact ha)))
                refine VE.seqN ?_
                refine VC.seq ?_
                refine VC.seq ?_
                refine VC.reg (VO.l (LO.mv (.r rfl)) rfl<|VO.l (LO.len S46 (.r rfl) rfl) rfl<|VO.l (LO.mv (.r rfl)) rfl<|VO.nil ?_)
                refine VE.seqN ?_
                refine VC.block ?_
                refine VC.perm [13,14,15,16,0,1,2,3,4,5,6,7,8,9,10,11,12,17,18,19] rfl ?_
                refine VC.loopK (α := Nat × (List TkR) × (Nat × Nat → Option Nat) × (Nat → Int)) 4 (fun gx => [(94, .int .i64 (gx.1 : Nat))]) [(0,_), (9,_), (10,_), (92,_), (93,_)] (fun gx => [blk b (.cells (bkC h time ⟨p13, (ys ++ [yN]).length, c13⟩ pt gx.2.1.length ct gx.2.2.2).toArray 119), own 109 6 pt ct (gx.2.1.map TkR.cells), bagD (gx.2.1.map TkR.aR), mapR plV niV h.bm (ofI gx.2.2.1)]) (fun gx => gx.1 ≤ ev.l.length ∧ ChP n ((ev.l.map EvR.m).take gx.1) (tk.map TkR.m) tk gx.2.1 ∧ gx.2.2.1 = ofC n ((ev.l.map EvR.m).take gx.1) of ∧ gx.2.2.2 = kdF kd ((ev.l.map EvR.m).take gx.1)) (fun gx => ev.l.length - gx.1) (0, tk, of, kd) (by exact ⟨Nat.zero_le _, ⟨(chg_nil hb0.en).symm, rfl, rfl⟩, (ofC_nil hb0).symm, rfl⟩) (.cons rfl (.cons rfl (.cons rfl (.cons rfl (.cons rfl (.cons rfl .nil)))))) (fun _ h => h) ?_
                rintro ⟨k, tkk, ofk, kdk⟩ ⟨hk, ⟨hm, hpR, hcR⟩, hofk, hkdk⟩
                show VC _ _ _ _ _ ([(94, .int .i64 (k : Nat))] ++ _) ([blk b (.cells (bkC h time ⟨p13, (ys ++ [yN]).length, c13⟩ pt tkk.length ct kdk).toArray 119), own 109 6 pt ct (tkk.map TkR.cells), bagD (tkk.map TkR.aR), mapR plV niV h.bm (ofI ofk)] ++ _) _ _
                dsimp only at hk hm hpR hcR hofk hkdk
                subst hofk
                subst hkdk
                have htl := ch_len hm
                rw [List.length_map] at htl
                refine VC.seq ?_
                refine VC.reg (VO.l (LO.lt (.r rfl) (.r rfl)) rfl<|VO.nil ?_)
                refine VE.seqN ?_
                refine VC.seq ?_
                refine VC.cond rfl (fun h95 => ?_) (fun h95 => ?_)
                ·
                  obtain ⟨e, hek⟩ := get_ex (l := ev.l) (n := k) (by omega)
                  have hem := List.mem_of_getElem? hek
                  have hemm : e.m ∈ ev.l.map EvR.m := List.mem_map_of_mem hem
                  have hekm : (ev.l.map EvR.m)[k]? = some e.m := by rw [List.getElem?_map, hek]; rfl
                  have hfsn : e.f.Nodup := (hgd.fs _ hemm).1.imp fun z => Nat.ne_of_lt z
                  have htot : ∀ a, a ∈ e.f → ∃ k, of (n, a) = some k := fun a ha => htot0 a ((hgd.fs _ hemm).2 a ha)
                  have hlf : e.f.length ≤ yP.l.length := (hgd.lenF hemm).1
                  refine VC.skip (VE.seqN ?_)
                  refine VC.seq ?_
                  refine VC.block ?_
                  refine VC.seq ?_
                  refine VC.reg (VO.l (LO.ixo S46 N81 (fun _ hw => (own_rows hw 4 rfl).some (by rw [List.length_map])) (.r rfl) (.r rfl) rfl (by omega)) rfl<|VO.l (LO.lda (vs := [_,_,_]) A81 (.r rfl) (fun w hw => cells_part (off := 0) (own_cell hw 4 rfl hek) ⟨_, rfl⟩) rfl) rfl<|VO.h rfl<|HO.alloc (C := #[_,_,_]) Z81 rfl fun b37 => VO.h0<|HO.st 0 (vs := [_,_,_]) (C' := [_,_,_]) (L' := [_,_,_,_,_,_,_,_,_,_,_,_,_,_,_,_,_,_,_,_,_]) N81 rfl rfl rfl rfl rfl rfl rfl rfl<|VO.nil ?_)
                  refine VE.seqN ?_
                  refine VC.reg (VO.l (LO.mv (.r rfl)) rfl<|VO.l (LO.mv (.r rfl)) rfl<|VO.l (LO.lda (vs := [_,_,_]) A81 (.r rfl) (fun _ hw => cells_at hw 0 rfl ⟨_, rfl⟩) rfl) rfl<|VO.h rfl<|HO.callP (first := []) (cap := []) (xs := [_,_,_]) (vs := [_,_,_]) [_,_,_,_] [_,_,_,_,_,_,_,_,_,_,_,_,_,_,_,_,_] (selK (L1 := [_,_,_,_] ++ [_,_,_,_,_,_,_,_,_,_,_,_,_,_,_,_,_]) [1,2,3,4,0,5,6,7,8,9,10,11,12,13,14,15,16,17,18,19,20] rfl rfl) (.r rfl) C92 ⟨(.r rfl), (.r rfl), (.r rfl), trivial⟩ (fun w hw hh => change_c b h time ⟨p13, (ys ++ [yN]).length, c13⟩ pt ct (kdF kd ((ev.l.map EvR.m).take k)) tkk n ((ev.l.map EvR.m).take k) (tk.map TkR.m) of e w hh ⟨hb0, hm, (hgd.kd _ hemm).1, hfsn, take_ap hgd.apart hekm, htot, by omega, fun j => by have z := kdF_bd (es := (ev.l.map EvR.m).take k) hkb j; have y : ((ev.l.map EvR.m).take k).length ≤ k := (by rw [List.length_take]; omega); omega, by omega⟩ (fun hs => ⟨RO.of_bag (E := 3) (z := 1) (P := EvR.fp) (C := EvR.fc) (X := EvR.f) (f := nC) (St.rightOf (St.fz (R := bkR b h time ⟨p13, (ys ++ [yN]).length, c13⟩ pt ct (kdF kd ((ev.l.map EvR.m).take k)) tkk (ofC n ((ev.l.map EvR.m).take k) of)) (rest := [_,_,_,_,_,_,_,_,_,_,_,_,_,_,_,_,_]) (selK (L1 := [_,_,_,_,_,_,_,_,_,_,_,_,_,_,_,_,_,_,_,_,_]) [1,2,3,4,0,5,6,7,8,9,10,11,12,13,14,15,16,17,18,19,20] rfl rfl _ hw) hs)) 2 rfl hem, RO.of_bag (E := 3) (z := 1) (P := EvR.tp) (C := EvR.tc) (X := EvR.t) (f := nC) (St.rightOf (St.fz (R := bkR b h time ⟨p13, (ys ++ [yN]).length, c13⟩ pt ct (kdF kd ((ev.l.map EvR.m).take k)) tkk (ofC n ((ev.l.map EvR.m).take k) of)) (rest := [_,_,_,_,_,_,_,_,_,_,_,_,_,_,_,_,_]) (selK (L1 := [_,_,_,_,_,_,_,_,_,_,_,_,_,_,_,_,_,_,_,_,_]) [1,2,3,4,0,5,6,7,8,9,10,11,12,13,14,15,16,17,18,19,20] rfl rfl _ hw) hs)) 3 rfl hem⟩) (RO.sm (RO.of_bag (E := 3) (z := 1) (P := EvR.fp) (C := EvR.fc) (X := EvR.f) (f := nC) (hw) 6 rfl hem)) (RO.sm (RO.of_bag (E := 3) (z := 1) (P := EvR.tp) (C := EvR.tc) (X := EvR.t) (f := nC) (hw) 7 rfl hem))) fun tk2 hc2 => VO.nil ?_)
                  refine VE.inN (VE.seqN ?_)
                  refine VC.reg (VO.l (LO.add (.r rfl) (.r rfl) (wi (by omega) (by omega))) rfl<|VO.l (LO.mv (.r rfl)) rfl<|VO.nil ?_)
                  refine VE.thenN fun a w ha hw => ⟨(k + 1, tk2, ofC n ((ev.l.map EvR.m).take k ++ [e.m]) of, kdU (kdF kd ((ev.l.map EvR.m).take k)) e.kd.toNat), ⟨by dsimp only; omega, by dsimp only; rw [take_m hek]; exact ⟨hc2.m, hc2.p.trans hpR, hc2.c.trans hcR⟩, congrArg (fun z => ofC n z of) (take_m hek).symm, ((congrArg (kdF kd) (take_m hek)).trans kdF_app).symm⟩, (by dsimp only; omega), ha.sub (.cons rfl (.cons rfl (.cons rfl (.cons rfl (.cons rfl (.cons rfl .nil)))))), hw.sel [0,1,2,3,5,6,7,8,9,10,11,12,13,14,15,16,17,18,19,20] rfl⟩
                ·
                  have hke : k = ev.l.length := by omega
                  subst hke
                  rw [take_all] at hm ⊢
                  have hch := TInvQ.change (m := yN.l.length) hI hMs (by rw [hMl]; exact hgd)
                  rw [← hm] at hch
                  have hBE : BiE (E ++ [ev.l.map EvR.m]) (Ms ++ [yN.l.length]) n yN.l.length ev.l tkk (ofC n (ev.l.map EvR.m) of) := ⟨by rw [List.length_append, hMs]; rfl, by rw [← hMs]; exact getD_app2, by have z := hI.q.len; rw [hMs] at z; rw [← z]; exact getD_app2, by rw [getD_app1 (by omega), hMl]; exact hgd, hch, by omega, by omega⟩
                  refine VC.exit (VE.thenX (VE.thenX (VE.inX (VE.seqN ?_))))
                  refine VC.seq ?_
                  refine VC.res (L' := [_,_,_,_,_,_,_,_,_,_,_,_,_,_,_,_,_,_, bagD (tkk.map TkR.pR), bagD (tkk.map TkR.cR)]) (fun w hw => by rw [hpR, hcR]; exact hw) ?_
                  refine VC.reg (VO.l (LO.mv (.r rfl)) rfl<|VO.l (LO.mv (.r rfl)) rfl<|VO.l (LO.mv (.r rfl)) rfl<|VO.h rfl<|HO.callP (first := []) (cap := []) (xs := [_,_,_]) (vs := [_,_,_]) [_,_,_,_,_,_,_] [_,_,_,_,_,_,_,_,_,_,_,_,_] (selK (L1 := [_,_,_,_,_,_,_] ++ [_,_,_,_,_,_,_,_,_,_,_,_,_]) [0,1,2,3,17,18,19,4,5,6,7,8,9,10,11,12,13,14,15,16] rfl rfl) (.r rfl) C93 ⟨(.r rfl), (.r rfl), (.r rfl), trivial⟩ (fun w hw hh => births1_c b h time p13 c13 (ys ++ [yN]) pt ct (kdF kd (ev.l.map EvR.m)) tkk (ofC n (ev.l.map EvR.m) of) (E ++ [ev.l.map EvR.m]) (Ms ++ [yN.l.length]) n yN.l.length ev.l ev.p ev.c yN hyN2 rfl w hh (by omega) (by rw [getD_app1 (by omega), hMl]; omega) hBE (fun hs => ⟨RO.of_own (St.rightOf (St.fz (R := bkF b h time p13 c13 (ys ++ [yN]) pt ct (kdF kd (ev.l.map EvR.m)) tkk (ofC n (ev.l.map EvR.m) of)) (rest := [_,_,_,_,_,_,_,_,_,_,_,_,_]) (selK (L1 := [_,_,_,_,_,_,_,_,_,_,_,_,_,_,_,_,_,_,_,_]) [0,1,2,3,17,18,19,4,5,6,7,8,9,10,11,12,13,14,15,16] rfl rfl _ hw) hs)) 0 rfl, fun e he => ⟨RO.of_bag (E := 3) (z := 1) (P := EvR.fp) (C := EvR.fc) (X := EvR.f) (f := nC) (St.rightOf (St.fz (R := bkF b h time p13 c13 (ys ++ [yN]) pt ct (kdF kd (ev.l.map EvR.m)) tkk (ofC n (ev.l.map EvR.m) of)) (rest := [_,_,_,_,_,_,_,_,_,_,_,_,_]) (selK (L1 := [_,_,_,_,_,_,_,_,_,_,_,_,_,_,_,_,_,_,_,_]) [0,1,2,3,17,18,19,4,5,6,7,8,9,10,11,12,13,14,15,16] rfl rfl _ hw) hs)) 1 rfl he, RO.of_bag (E := 3) (z := 1) (P := EvR.tp) (C := EvR.tc) (X := EvR.t) (f := nC) (St.rightOf (St.fz (R := bkF b h time p13 c13 (ys ++ [yN]) pt ct (kdF kd (ev.l.map EvR.m)) tkk (ofC n (ev.l.map EvR.m) of)) (rest := [_,_,_,_,_,_,_,_,_,_,_,_,_]) (selK (L1 := [_,_,_,_,_,_,_,_,_,_,_,_,_,_,_,_,_,_,_,_]) [0,1,2,3,17,18,19,4,5,6,7,8,9,10,11,12,13,14,15,16] rfl rfl _ hw) hs)) 2 rfl he⟩⟩)) fun y hy => VO.nil ?_)
                  refine VE.seqN ?_
                  refine VC.seq ?_
                  refine VC.reg (VO.l (LO.mv (.r rfl)) rfl<|VO.l (LO.as (.r rfl)) rfl<|VO.l (LO.as (.r rfl)) rfl<|VO.nil ?_)
                  refine VE.seqN ?_
                  refine VC.ret (VE.res (vs := [_,_]) rfl ⟨rfl, rfl, trivial⟩ (fun w hw => ?_))
                  exact ⟨⟨yN, ev, p13, c13, y.pt, y.ct, kdF kd (ev.l.map EvR.m), y.tk, y.of⟩, ⟨hyA, hev, by rw [← hm]; exact hy.1, by have z := hy.2; rw [htl] at z; exact z, rfl⟩, rfl, selK [0,1,2,3,4,5,6,11,12,13,14,15,16,17,18,7,8,9] rfl rfl _ hw⟩
              ·
                (exfalso; omega)

end Go.Proofs.Ytgemekpofpoopaa

namespace Go.Proofs.Ytgemekpofpoopaa
open Go.SL Go.Proofs Go.Cast Go.Cell
set_option linter.unusedVariables false

theorem C120 : IsFn Try.prog 120 := ⟨_, Try.func120, by decide, rfl⟩
theorem F109_4 : FieldAt Try.prog 109 4 4 := ⟨_,_, Try.underlying109, rfl, rfl, 0, by kernel_rfl⟩
theorem A109 : IsAgg Try.prog 109 6 := ⟨⟨_, Try.underlying109, rfl⟩, by kernel_rfl⟩
theorem C94 : IsFn Try.prog 94 := ⟨_, Try.func94, by decide, rfl⟩
theorem Z105 : ZeroOf Try.prog 105 (.agg #[.int .i64 0, .int .i64 0, .int .i64 0, .int .i64 0, .int .i64 0, .int .i64 0, .int .i64 0, .int .i64 0, .int .i64 0]) := by unfold ZeroOf; kernel_rfl
theorem B105 : Builds Try.prog 105 [(0,1), (1,1), (2,1), (3,1), (4,1), (5,1), (6,1), (7,1), (8,1)] [.int .i64 0, .int .i64 0, .int .i64 0, .int .i64 0, .int .i64 0, .int .i64 0, .int .i64 0, .int .i64 0, .int .i64 0] := Builds.mk fun _ => by kernel_rfl
theorem N105 : (Try.prog.info? 105).map (·.size) = some 9 := by kernel_rfl
theorem A105 : IsAgg Try.prog 105 9 := ⟨⟨_, Try.underlying105, rfl⟩, by kernel_rfl⟩


structure ClY where
  ap : Option Addr
  ac : Nat
  pp : Option Addr
  pc : Nat
  cp : Option Addr
  cc : Nat
def TkR.put (t : TkR) (y : ClY) : TkR := { t with ap := y.ap, ac := y.ac, pp := y.pp, pc := y.pc, cp := y.cp, cc := y.cc }
structure TkI (w : World) (t : TkR) : Prop where
  a : RO 1 nC w t.ap t.ar
  p : RO 1 nC w t.pp t.pa
  c : RO 1 nC w t.cp t.ch
theorem TkI.keep {w0 : World} {t : TkR} {L : List Res} (h : TkI w0 t) : ∀ w, St (bs w0) L w → TkI w t := fun w hw => ⟨h.a.keep w hw, h.p.keep w hw, h.c.keep w hw⟩
structure TkB (t : TkR) : Prop where
  a : t.ar.length ≤ 1000000000
  p : t.pa.length ≤ 1000000000
  c : t.ch.length ≤ 1000000000
abbrev tkV (t : TkR) : Value := .agg #[.int .i64 t.bg, .int .i64 (t.fr : Int), .slice t.ap t.ar.length t.ac, .int .i64 t.en, .slice t.pp t.pa.length t.pc, .slice t.cp t.ch.length t.cc]
structure TrkY where
  tk : List TkR
  p : Option Addr
  c : Nat
def TrkY.R (y : TrkY) : List Res := [own 109 6 y.p y.c (y.tk.map TkR.cells), bagD (y.tk.map TkR.aR), bagD (y.tk.map TkR.pR), bagD (y.tk.map TkR.cR)]
theorem take_m2 {l : List TkR} {k : Nat} {t : TkR} (h : l[k]? = some t) : (l.map TkR.m).take (k + 1) = (l.map TkR.m).take k ++ [t.m] := by
  have h2 : (l.map TkR.m)[k]? = some t.m := by rw [List.getElem?_map, h]; rfl
  obtain ⟨hk, e2⟩ := List.getElem?_eq_some_iff.1 h2
  rw [List.take_succ_eq_append_getElem hk, e2]
theorem take_all2 {l : List TkR} : (l.map TkR.m).take l.length = l.map TkR.m := by have h : (l.map TkR.m).take (l.map TkR.m).length = l.map TkR.m := List.take_length; rwa [List.length_map] at h
theorem nil_of {α : Type} {z : Nat} {f : α → List Value} {w : World} {p : Option Addr} {l : List α} (h : RO z f w p l) (hp : p = none) : l = [] := by
  have h1 := h.sm
  subst hp
  cases l with
  | nil => rfl
  | cons a l => have := h1 (by simp); cases this

set_option maxRecDepth 20000 in
theorem Clone_c (l : List Nat) (p : Option Addr) (c : Nat) (w : World) (hl : RO 1 nC w p l) (hln : l.length ≤ 1000000000) :
  Calls Try.prog 120 #[.slice p l.length c] w fun e w' => ∃ y : SlY, True ∧ e = .returned (.slice y.p l.length y.c) ∧ St (bs w) [own 3 1 y.p y.c (l.map nC)] w' := by
  refine enter (vs := [_]) (env := [(0,_)]) Try.func120 rfl rfl rfl rfl ?_
  refine VC.seq ?_
  refine VC.reg (VO.l (LO.as (.r rfl)) rfl<|VO.nil ?_)
  refine VE.seqN ?_
  refine VC.seq ?_
  refine VC.seq ?_
  refine VC.reg (VO.l (LO.mv (.r rfl)) rfl<|VO.l (LO.eqSl S40 (.r rfl) (.r rfl)) rfl<|VO.nil ?_)
  refine VE.seqN ?_
  refine VC.cond rfl (fun h4 => ?_) (fun h4 => ?_)
  ·
    have hp : p = none := by simpa using h4
    have hl0 : l = [] := nil_of hl hp
    subst hl0
    refine VC.seq ?_
    refine VC.reg (VO.l (LO.as (.r rfl)) rfl<|VO.nil ?_)
    refine VE.seqN ?_
    refine VC.ret (VE.thenR (VE.res (vs := [_]) rfl ⟨rfl, trivial⟩ (fun w hw => ?_)))
    exact ⟨⟨none, 0⟩, trivial, rfl, hw.ownNil 3 1⟩
  ·
    refine VC.skip (VE.seqN ?_)
    refine VC.seq ?_
    refine VC.reg (VO.h rfl<|HO.bs0 S40 N3 fun b1 => VO.l (LO.mv (.r rfl)) rfl<|VO.h rfl<|HO.appN0 (f := nC) (m := l) 0 (fun R => [R]) S40 S40 I3 (.r rfl) (.r rfl) rfl (fun w hw => hl.keep w hw) (fun _ => rfl) (fun _ => rfl) rfl rfl (fun _ => rfl) rfl (by omega) fun p2 c2 _ => VO.h rfl<|HO.lo (LO.as (.r rfl))<|VO.nil ?_)
    refine VE.seqN ?_
    refine VC.ret (VE.res (vs := [_]) rfl ⟨rfl, trivial⟩ (fun w hw => ?_))
    exact ⟨⟨p2, c2⟩, trivial, rfl, selK [0] rfl rfl _ hw⟩

set_option maxRecDepth 20000 in
theorem cloned_c (t : TkR) (w : World) (ht : TkI w t) (hb : TkB t) :
  Calls Try.prog 94 #[tkV t] w fun e w' => ∃ y : ClY, True ∧ e = .returned (tkV (t.put y)) ∧ St (bs w) [TkR.aR (t.put y), TkR.pR (t.put y), TkR.cR (t.put y)] w' := by
  refine enter (vs := [_]) (env := [(0,_)]) Try.func94 rfl rfl rfl rfl ?_
  refine VC.seq ?_
  refine VC.reg (VO.h rfl<|HO.box (C := #[_,_,_,_,_,_]) rfl rfl fun b1 => VO.h rfl<|HO.alloc (C := #[_,_,_,_,_,_]) Z109 rfl fun b2 => VO.nil ?_)
  refine VE.seqN ?_
  refine VC.seq ?_
  refine VC.drawH [[0,1], [0,1], [0,1], [0,1], [0], [0], [0]] [some 0, some 0, none, some 1, some 1, none, some 2, some 2, none, some 3, none, some 4, none, some 5, none] mixed (by kernel_rfl) rfl (LX.l (fun _ hJ => LO.fa (r := 2) F109_2 (.r rfl) rfl) rfl<|LX.l (fun _ hJ => LO.ld O40 (.r rfl) (fun _ hw => cells_at (hJ _ hw) 1 rfl ⟨_, rfl⟩)) rfl<|LX.s<|LX.l (fun _ hJ => LO.fa (r := 4) F109_4 (.r rfl) rfl) rfl<|LX.l (fun _ hJ => LO.ld O40 (.r rfl) (fun _ hw => cells_at (hJ _ hw) 1 rfl ⟨_, rfl⟩)) rfl<|LX.s<|LX.l (fun _ hJ => LO.fa (r := 5) F109_5 (.r rfl) rfl) rfl<|LX.l (fun _ hJ => LO.ld O40 (.r rfl) (fun _ hw => cells_at (hJ _ hw) 1 rfl ⟨_, rfl⟩)) rfl<|LX.s<|LX.l (fun _ hJ => LO.fa (r := 2) F109_2 (.r rfl) rfl) rfl<|LX.s<|LX.l (fun _ hJ => LO.fa (r := 4) F109_4 (.r rfl) rfl) rfl<|LX.s<|LX.l (fun _ hJ => LO.fa (r := 5) F109_5 (.r rfl) rfl) rfl<|LX.s<|LX.nil) (HX.s<|HX.s<|HX.h rfl<|HO.callx (xs := [_]) (vs := [_]) C120 ⟨(.r rfl), trivial⟩ (fun w2 hw => Clone_c t.ar t.ap t.ac w2 (ht.keep w2 hw).a hb.a) fun ya _ => ⟨fun _ hw => hw.sel [1,2] rfl, HX.s<|HX.s<|HX.h rfl<|HO.callx (xs := [_]) (vs := [_]) C120 ⟨(.r rfl), trivial⟩ (fun w2 hw => Clone_c t.pa t.pp t.pc w2 (ht.keep w2 hw).p hb.p) fun yp _ => ⟨fun _ hw => hw.sel [2,3] rfl, HX.s<|HX.s<|HX.h rfl<|HO.callx (xs := [_]) (vs := [_]) C120 ⟨(.r rfl), trivial⟩ (fun w2 hw => Clone_c t.ch t.cp t.cc w2 (ht.keep w2 hw).c hb.c) fun yc _ => ⟨fun _ hw => hw.sel [3,4] rfl, HX.s<|HX.h0<|HO.st 4 (vs := [_]) (C' := [_,_,_,_,_,_]) (L' := [_,_,_,_,_]) N40 rfl rfl rfl rfl rfl rfl rfl rfl<|⟨fun _ hw => hw.sel [3] rfl, HX.s<|HX.h0<|HO.st 4 (vs := [_]) (C' := [_,_,_,_,_,_]) (L' := [_,_,_,_,_]) N40 rfl rfl rfl rfl rfl rfl rfl rfl<|⟨fun _ hw => hw.sel [3] rfl, HX.s<|HX.h0<|HO.st 4 (vs := [_]) (C' := [_,_,_,_,_,_]) (L' := [_,_,_,_,_]) N40 rfl rfl rfl rfl rfl rfl rfl rfl<|⟨fun _ hw => hw.sel [3] rfl, HX.nil ?_⟩⟩⟩⟩⟩⟩)
  refine VE.seqN ?_
  refine VC.seq ?_
  refine VC.reg (VO.l (LO.lda (vs := [_,_,_,_,_,_]) A109 (.r rfl) (fun _ hw => cells_at hw 4 rfl ⟨_, rfl⟩) rfl) rfl<|VO.h0<|HO.st 3 (vs := [_,_,_,_,_,_]) (C' := [_,_,_,_,_,_]) (L' := [_,_,_,_,_]) N109 rfl rfl rfl rfl rfl rfl rfl rfl<|VO.nil ?_)
  refine VE.seqN ?_
  refine VC.ret (VE.res (vs := [_]) rfl ⟨RV.agg (vs := [_,_,_,_,_,_]) A109 rfl (cells_blk 3 rfl ⟨_, rfl⟩) rfl, trivial⟩ (fun w hw => ?_))
  exact ⟨⟨ya.p, ya.c, yp.p, yp.c, yc.p, yc.c⟩, trivial, rfl, selK [2,1,0] rfl rfl _ hw⟩

set_option maxRecDepth 20000 in
set_option maxHeartbeats 8000000 in
theorem Tracks_ok (b : Nat) (h : BkH) (la : Int) (q : BkQ) (pt : Option Addr) (ct : Nat) (kd : Nat → Int) (tk : List TkR) (w : World) (hb : Cells w ⟨b, 0, none⟩ (bkC h la q pt tk.length ct kd)) (htk : RO 6 TkR.cells w pt tk) (hti : ∀ t, t ∈ tk → TkI w t) (htb : ∀ t, t ∈ tk → TkB t) (hl : tk.length ≤ 1000000) :
  Calls Try.prog 49 #[.pointer (some ⟨b, 0, none⟩)] w fun e w' => ∃ y : TrkY, y.tk.map TkR.m = tk.map TkR.m ∧ e = .returned (.slice y.p y.tk.length y.c) ∧ St (bs w) y.R w' := by
  refine enter (vs := [_]) (env := [(0,_)]) Try.func49 rfl rfl rfl rfl ?_
  refine VC.seq ?_
  refine VC.reg (VO.l (LO.as (.r rfl)) rfl<|VO.nil ?_)
  refine VE.seqN ?_
  refine VC.seq ?_
  refine VC.seq ?_
  refine VC.reg (VO.l (LO.mv (.r rfl)) rfl<|VO.l (LO.call (xs := [_]) (vs := [_]) C91 ⟨(.r rfl), trivial⟩ (fun w2 hw => valid_y b h la q pt tk.length ct kd w2 (cells_keep hb w2 hw))) rfl<|VO.l (LO.not (.r rfl)) rfl<|VO.nil ?_)
  refine VE.seqN ?_
  refine VC.cond rfl (fun h8 => ?_) (fun h8 => ?_)
  ·
    (exfalso; exact h8 rfl)
  ·
    refine VC.skip (VE.seqN ?_)
    refine VC.seq ?_
    refine VC.reg (VO.l (LO.as (.r rfl)) rfl<|VO.nil ?_)
    refine VE.seqN ?_
    refine VC.seq ?_
    refine VC.seq ?_
    refine VC.reg (VO.l (LO.mv (.r rfl)) rfl<|VO.l (LO.nc (.r rfl)) rfl<|VO.l (LO.fa (r := 9) F119_5 (.r rfl) rfl) rfl<|VO.l (LO.ld O102 (.r rfl) (cells_keep (sub_cells (off := 9) hb ⟨_, rfl⟩))) rfl<|VO.l (LO.len S102 (.r rfl) rfl) rfl<|VO.l (LO.mv (.r rfl)) rfl<|VO.nil ?_)
    refine VE.seqN ?_
    refine VC.block ?_
    refine VC.loopK (α := Nat × (List TkR) × (Option Addr) × Nat) 0 (fun gx => [(3, .slice gx.2.2.1 gx.2.1.length gx.2.2.2), (14, .int .i64 (gx.1 : Nat))]) [(12,_), (13,_)] (fun gx => [own 109 6 gx.2.2.1 gx.2.2.2 (gx.2.1.map TkR.cells), bagD (gx.2.1.map TkR.aR), bagD (gx.2.1.map TkR.pR), bagD (gx.2.1.map TkR.cR)]) (fun gx => gx.1 ≤ tk.length ∧ gx.2.1.map TkR.m = (tk.map TkR.m).take gx.1) (fun gx => tk.length - gx.1) (0, [], none, 0) (by exact ⟨Nat.zero_le _, rfl⟩) (.cons rfl (.cons rfl (.cons rfl (.cons rfl .nil)))) (fun _ h => ((St.bagD (Rs := []) (St.bagD (Rs := []) (St.bagD (Rs := []) h))).ownNil 109 6)) ?_
    rintro ⟨k, tr, po, co⟩ ⟨hk, hm⟩
    show VC _ _ _ _ _ ([(3, .slice po tr.length co), (14, .int .i64 (k : Nat))] ++ _) ([own 109 6 po co (tr.map TkR.cells), bagD (tr.map TkR.aR), bagD (tr.map TkR.pR), bagD (tr.map TkR.cR)] ++ _) _ _
    dsimp only at hk hm
    have htl : tr.length ≤ k := by have z := congrArg List.length hm; rw [List.length_map, List.length_take] at z; omega
    refine VC.seq ?_
    refine VC.reg (VO.l (LO.lt (.r rfl) (.r rfl)) rfl<|VO.nil ?_)
    refine VE.seqN ?_
    refine VC.seq ?_
    refine VC.cond rfl (fun h15 => ?_) (fun h15 => ?_)
    ·
      obtain ⟨t, hkt⟩ := get_ex (l := tk) (n := k) (by omega)
      refine VC.skip (VE.seqN ?_)
      refine VC.seq ?_
      refine VC.block ?_
      refine VC.seq ?_
      refine VC.reg (VO.l (LO.ixs S102 N109 htk.sm (.r rfl) (.r rfl) rfl (by omega)) rfl<|VO.l (LO.lda (vs := [_,_,_,_,_,_]) A109 (.r rfl) (fun w hw => cells_part (off := 0) ((fun w3 h3 => RO.cel (htk.keep w3 h3) hkt) w hw) ⟨_, rfl⟩) rfl) rfl<|VO.h rfl<|HO.alloc (C := #[_,_,_,_,_,_]) Z109 rfl fun b5 => VO.h0<|HO.st 0 (vs := [_,_,_,_,_,_]) (C' := [_,_,_,_,_,_]) (L' := [_,_,_,_,_]) N109 rfl rfl rfl rfl rfl rfl rfl rfl<|VO.nil ?_)
      refine VE.seqN ?_
      refine VC.reg (VO.l (LO.mv (.r rfl)) rfl<|VO.l (LO.lda (vs := [_,_,_,_,_,_]) A109 (.r rfl) (fun _ hw => cells_at hw 0 rfl ⟨_, rfl⟩) rfl) rfl<|VO.h rfl<|HO.callx (xs := [_]) (vs := [_]) C94 ⟨(.r rfl), trivial⟩ (fun w hw => cloned_c t w ((hti t (List.mem_of_getElem? hkt)).keep w hw) (htb t (List.mem_of_getElem? hkt))) fun y _ => VO.h rfl<|HO.bs (ps := [(_,_)]) (vs := [(_,_)]) (Z := [_,_,_,_,_,_]) (C := [_,_,_,_,_,_]) S102 Z109 N109 ⟨(.r rfl), trivial⟩ rfl rfl rfl rfl ⟨_, [_,_,_,_,_,_], [_,_,_,_,_,_], rfl, rfl, rfl, rfl, rfl⟩ fun b10 => VO.h rfl<|HO.appT ((t.put y)) 5 0 (fun R => [_,_,_,_,_, R,_,_,_]) S102 S102 I109 (.r rfl) (.r rfl) rfl rfl rfl rfl rfl rfl rfl (fun _ => rfl) rfl (by omega) fun p4 c4 => VO.h rfl<|HO.lo (LO.as (.r rfl))<|VO.nil ?_)
      refine VE.inN (VE.seqN ?_)
      refine VC.reg (VO.l (LO.add (.r rfl) (.r rfl) (wi (by omega) (by omega))) rfl<|VO.l (LO.mv (.r rfl)) rfl<|VO.nil ?_)
      refine VE.thenN fun a w ha hw => ⟨(k + 1, tr ++ [t.put y], p4, c4), ⟨by dsimp only; omega, by dsimp only; rw [List.map_append, hm, take_m2 hkt]; rfl⟩, (by dsimp only; omega), ha.sub (.cons rfl (.cons rfl (.cons rfl (.cons rfl .nil)))), (by dsimp only; rw [List.map_append (f := TkR.aR), List.map_append (f := TkR.pR), List.map_append (f := TkR.cR)]; exact selK (L1 := [_,_,_,_]) [5,2,1,0] rfl rfl _ (St.bagAdd (r := TkR.cR (t.put y)) (Rs := tr.map TkR.cR) (selK (L1 := TkR.cR (t.put y) :: bagD (tr.map TkR.cR) :: [_,_,_,_,_]) [3,6,0,1,2,4,5] rfl rfl _ (St.bagAdd (r := TkR.pR (t.put y)) (Rs := tr.map TkR.pR) (selK (L1 := TkR.pR (t.put y) :: bagD (tr.map TkR.pR) :: [_,_,_,_,_,_]) [2,6,0,1,3,4,5,7] rfl rfl _ (St.bagAdd (r := TkR.aR (t.put y)) (Rs := tr.map TkR.aR) (selK (L1 := TkR.aR (t.put y) :: bagD (tr.map TkR.aR) :: [_,_,_,_,_,_,_]) [1,6,0,2,3,4,5,7,8] rfl rfl _ (hw))))))))⟩
    ·
      refine VC.exit (VE.thenX (VE.thenX (VE.inX (VE.seqN ?_))))
      refine VC.seq ?_
      refine VC.reg (VO.l (LO.mv (.r rfl)) rfl<|VO.l (LO.as (.r rfl)) rfl<|VO.nil ?_)
      refine VE.seqN ?_
      refine VC.ret (VE.res (vs := [_]) rfl ⟨rfl, trivial⟩ (fun w hw => ?_))
      have hke : k = tk.length := by omega
      subst hke
      rw [take_all2] at hm
      exact ⟨⟨tr, po, co⟩, hm, rfl, selK [0,1,2,3] rfl rfl _ hw⟩

set_option maxRecDepth 20000 in
theorem Tally_ok (b : Nat) (h : BkH) (la : Int) (q : BkQ) (pt : Option Addr) (ct : Nat) (kd : Nat → Int) (tk : List TkR) (w : World) (hb : Cells w ⟨b, 0, none⟩ (bkC h la q pt tk.length ct kd)) (of : Nat × Nat → Option Nat) (ho : (mapR plV niV h.bm (ofI of)).inv w) (ks : List (Int × Int)) (hks : ks.Nodup) (hkm : ∀ a, a ∈ ks ↔ (ofI of a).isSome = true) :
  Calls Try.prog 50 #[.pointer (some ⟨b, 0, none⟩)] w fun e w' => e = .returned (.agg #[.int .i64 (q.nm : Int), .int .i64 (ks.length : Int), .int .i64 (tk.length : Int), .int .i64 (kd 2), .int .i64 (kd 3), .int .i64 (kd 4), .int .i64 (kd 5), .int .i64 (kd 6), .int .i64 (kd 7)]) ∧ St (bs w) [] w' := by
  refine enter (vs := [_]) (env := [(0,_)]) Try.func50 rfl rfl rfl rfl ?_
  refine VC.seq ?_
  refine VC.reg (VO.h rfl<|HO.alloc (C := #[_,_,_,_,_,_,_,_,_]) Z105 rfl fun b1 => VO.nil ?_)
  refine VE.seqN ?_
  refine VC.seq ?_
  refine VC.seq ?_
  refine VC.reg (VO.l (LO.mv (.r rfl)) rfl<|VO.l (LO.call (xs := [_]) (vs := [_]) C91 ⟨(.r rfl), trivial⟩ (fun w2 hw => valid_y b h la q pt tk.length ct kd w2 (cells_keep hb w2 hw))) rfl<|VO.l (LO.not (.r rfl)) rfl<|VO.nil ?_)
  refine VE.seqN ?_
  refine VC.cond rfl (fun h5 => ?_) (fun h5 => ?_)
  ·
    (exfalso; exact h5 rfl)
  ·
    refine VC.skip (VE.seqN ?_)
    refine VC.seq ?_
    refine VC.drawH [[0], []] [some 0, some 0, some 0, some 0, some 0, some 0, some 0, some 0, some 0, some 0, some 0, some 0, some 0, some 0, some 0, some 0, some 0, some 0, some 0, some 0, some 0, some 0, some 0, some 0, some 0, some 0, some 0, some 0, some 0, some 0, some 0, some 0, some 0, some 0, some 0, some 0, some 0, some 0, some 0, some 0, some 0, some 0, some 0, some 0, some 0, some 0, none] mixed (by kernel_rfl) rfl (LX.l (fun _ hJ => LO.mv (.r rfl)) rfl<|LX.l (fun _ hJ => LO.nc (.r rfl)) rfl<|LX.l (fun _ hJ => LO.fa (r := 8) F119_4 (.r rfl) rfl) rfl<|LX.l (fun _ hJ => LO.ld O115 (.r rfl) (cells_keep (sub_cells (off := 8) hb ⟨_, rfl⟩))) rfl<|LX.l (fun _ hJ => LO.len S115 (.r rfl) rfl) rfl<|LX.l (fun _ hJ => LO.mv (.r rfl)) rfl<|LX.l (fun _ hJ => LO.nc (.r rfl)) rfl<|LX.l (fun _ hJ => LO.fa (r := 10) F119_6 (.r rfl) rfl) rfl<|LX.l (fun _ hJ => LO.ld O116 (.r rfl) (cells_keep (sub_cells (off := 10) hb ⟨_, rfl⟩))) rfl<|LX.l (fun _ hJ => LO.lenM (kE := plV) (vE := niV) (M := ofI of) ⟨_,_, Try.underlying116⟩ (.r rfl) rfl (fun _ hw => mapR_keep ho _ (hJ _ hw)) KP.inj hks hkm rfl) rfl<|LX.l (fun _ hJ => LO.mv (.r rfl)) rfl<|LX.l (fun _ hJ => LO.nc (.r rfl)) rfl<|LX.l (fun _ hJ => LO.fa (r := 9) F119_5 (.r rfl) rfl) rfl<|LX.l (fun _ hJ => LO.ld O102 (.r rfl) (cells_keep (sub_cells (off := 9) hb ⟨_, rfl⟩))) rfl<|LX.l (fun _ hJ => LO.len S102 (.r rfl) rfl) rfl<|LX.l (fun _ hJ => LO.mv (.r rfl)) rfl<|LX.l (fun _ hJ => LO.nc (.r rfl)) rfl<|LX.l (fun _ hJ => LO.fa (r := 11) F119_7 (.r rfl) rfl) rfl<|LX.l (fun _ hJ => LO.ixa (j := 2) (r := 13) Try.underlying117 N3 (.r rfl) (.r rfl) rfl (by decide) rfl) rfl<|LX.l (fun _ hJ => LO.ld O3 (.r rfl) (cells_keep (sub_cells (off := 13) hb ⟨_, rfl⟩))) rfl<|LX.l (fun _ hJ => LO.mv (.r rfl)) rfl<|LX.l (fun _ hJ => LO.nc (.r rfl)) rfl<|LX.l (fun _ hJ => LO.fa (r := 11) F119_7 (.r rfl) rfl) rfl<|LX.l (fun _ hJ => LO.ixa (j := 3) (r := 14) Try.underlying117 N3 (.r rfl) (.r rfl) rfl (by decide) rfl) rfl<|LX.l (fun _ hJ => LO.ld O3 (.r rfl) (cells_keep (sub_cells (off := 14) hb ⟨_, rfl⟩))) rfl<|LX.l (fun _ hJ => LO.mv (.r rfl)) rfl<|LX.l (fun _ hJ => LO.nc (.r rfl)) rfl<|LX.l (fun _ hJ => LO.fa (r := 11) F119_7 (.r rfl) rfl) rfl<|LX.l (fun _ hJ => LO.ixa (j := 4) (r := 15) Try.underlying117 N3 (.r rfl) (.r rfl) rfl (by decide) rfl) rfl<|LX.l (fun _ hJ => LO.ld O3 (.r rfl) (cells_keep (sub_cells (off := 15) hb ⟨_, rfl⟩))) rfl<|LX.l (fun _ hJ => LO.mv (.r rfl)) rfl<|LX.l (fun _ hJ => LO.nc (.r rfl)) rfl<|LX.l (fun _ hJ => LO.fa (r := 11) F119_7 (.r rfl) rfl) rfl<|LX.l (fun _ hJ => LO.ixa (j := 5) (r := 16) Try.underlying117 N3 (.r rfl) (.r rfl) rfl (by decide) rfl) rfl<|LX.l (fun _ hJ => LO.ld O3 (.r rfl) (cells_keep (sub_cells (off := 16) hb ⟨_, rfl⟩))) rfl<|LX.l (fun _ hJ => LO.mv (.r rfl)) rfl<|LX.l (fun _ hJ => LO.nc (.r rfl)) rfl<|LX.l (fun _ hJ => LO.fa (r := 11) F119_7 (.r rfl) rfl) rfl<|LX.l (fun _ hJ => LO.ixa (j := 6) (r := 17) Try.underlying117 N3 (.r rfl) (.r rfl) rfl (by decide) rfl) rfl<|LX.l (fun _ hJ => LO.ld O3 (.r rfl) (cells_keep (sub_cells (off := 17) hb ⟨_, rfl⟩))) rfl<|LX.l (fun _ hJ => LO.mv (.r rfl)) rfl<|LX.l (fun _ hJ => LO.nc (.r rfl)) rfl<|LX.l (fun _ hJ => LO.fa (r := 11) F119_7 (.r rfl) rfl) rfl<|LX.l (fun _ hJ => LO.ixa (j := 7) (r := 18) Try.underlying117 N3 (.r rfl) (.r rfl) rfl (by decide) rfl) rfl<|LX.l (fun _ hJ => LO.ld O3 (.r rfl) (cells_keep (sub_cells (off := 18) hb ⟨_, rfl⟩))) rfl<|LX.l (fun _ hJ => LO.bd (ps := [(_,_), (_,_), (_,_), (_,_), (_,_), (_,_), (_,_), (_,_), (_,_)]) (vs := [(_,_), (_,_), (_,_), (_,_), (_,_), (_,_), (_,_), (_,_), (_,_)]) (C := [_,_,_,_,_,_,_,_,_]) B105  ⟨(.r rfl), (.r rfl), (.r rfl), (.r rfl), (.r rfl), (.r rfl), (.r rfl), (.r rfl), (.r rfl), trivial⟩ rfl ⟨_, [_], [_,_,_,_,_,_,_,_,_], rfl, rfl, rfl, rfl, ⟨_, [_], [_,_,_,_,_,_,_,_,_], rfl, rfl, rfl, rfl, ⟨_, [_], [_,_,_,_,_,_,_,_,_], rfl, rfl, rfl, rfl, ⟨_, [_], [_,_,_,_,_,_,_,_,_], rfl, rfl, rfl, rfl, ⟨_, [_], [_,_,_,_,_,_,_,_,_], rfl, rfl, rfl, rfl, ⟨_, [_], [_,_,_,_,_,_,_,_,_], rfl, rfl, rfl, rfl, ⟨_, [_], [_,_,_,_,_,_,_,_,_], rfl, rfl, rfl, rfl, ⟨_, [_], [_,_,_,_,_,_,_,_,_], rfl, rfl, rfl, rfl, ⟨_, [_], [_,_,_,_,_,_,_,_,_], rfl, rfl, rfl, rfl, rfl⟩⟩⟩⟩⟩⟩⟩⟩⟩) rfl<|LX.s<|LX.nil) (HX.s<|HX.s<|HX.s<|HX.s<|HX.s<|HX.s<|HX.s<|HX.s<|HX.s<|HX.s<|HX.s<|HX.s<|HX.s<|HX.s<|HX.s<|HX.s<|HX.s<|HX.s<|HX.s<|HX.s<|HX.s<|HX.s<|HX.s<|HX.s<|HX.s<|HX.s<|HX.s<|HX.s<|HX.s<|HX.s<|HX.s<|HX.s<|HX.s<|HX.s<|HX.s<|HX.s<|HX.s<|HX.s<|HX.s<|HX.s<|HX.s<|HX.s<|HX.s<|HX.s<|HX.s<|HX.s<|HX.h0<|HO.st 0 (vs := [_,_,_,_,_,_,_,_,_]) (C' := [_,_,_,_,_,_,_,_,_]) (L' := [_]) N105 rfl rfl rfl rfl rfl rfl rfl rfl<|⟨fun _ hw => hw.sel [] rfl, HX.nil ?_⟩)
    refine VE.seqN ?_
    refine VC.ret (VE.res (vs := [_]) rfl ⟨RV.agg (vs := [_,_,_,_,_,_,_,_,_]) A105 rfl (cells_blk 0 rfl ⟨_, rfl⟩) rfl, trivial⟩ (fun w hw => ?_))
    exact ⟨rfl, hw.nil⟩

set_option maxRecDepth 20000 in
theorem Of_ok (b : Nat) (h : BkH) (la : Int) (q : BkQ) (pt : Option Addr) (ct : Nat) (kd : Nat → Int) (tk : List TkR) (w : World) (hb : Cells w ⟨b, 0, none⟩ (bkC h la q pt tk.length ct kd)) (of : Nat × Nat → Option Nat) (ho : (mapR plV niV h.bm (ofI of)).inv w) (n m : Int) :
  Calls Try.prog 51 #[.pointer (some ⟨b, 0, none⟩), .int .i64 n, .int .i64 m] w fun e w' => e = .returned (.tuple #[.int .i64 (((ofI of (n, m)).getD 0 : Nat) : Int), .int .i64 (if (ofI of (n, m)).isSome = true then 0 else 4)]) ∧ St (bs w) [] w' := by
  refine enter (vs := [_,_,_]) (env := [(0,_), (1,_), (2,_)]) Try.func51 rfl rfl rfl rfl ?_
  refine VC.seq ?_
  refine VC.reg (VO.l (LO.as (.r rfl)) rfl<|VO.l (LO.as (.r rfl)) rfl<|VO.nil ?_)
  refine VE.seqN ?_
  refine VC.seq ?_
  refine VC.seq ?_
  refine VC.reg (VO.l (LO.mv (.r rfl)) rfl<|VO.l (LO.call (xs := [_]) (vs := [_]) C91 ⟨(.r rfl), trivial⟩ (fun w2 hw => valid_y b h la q pt tk.length ct kd w2 (cells_keep hb w2 hw))) rfl<|VO.l (LO.not (.r rfl)) rfl<|VO.nil ?_)
  refine VE.seqN ?_
  refine VC.cond rfl (fun h12 => ?_) (fun h12 => ?_)
  ·
    (exfalso; exact h12 rfl)
  ·
    refine VC.skip (VE.seqN ?_)
    refine VC.seq ?_
    refine VC.reg (VO.l (LO.mv (.r rfl)) rfl<|VO.l (LO.nc (.r rfl)) rfl<|VO.l (LO.fa (r := 10) F119_6 (.r rfl) rfl) rfl<|VO.l (LO.ld O116 (.r rfl) (cells_keep (sub_cells (off := 10) hb ⟨_, rfl⟩))) rfl<|VO.l (LO.mv (.r rfl)) rfl<|VO.l (LO.mv (.r rfl)) rfl<|VO.l (LO.bd (ps := [(_,_), (_,_)]) (vs := [(_,_), (_,_)]) (C := [_,_]) B169  ⟨(.r rfl), (.r rfl), trivial⟩ rfl ⟨_, [_], [_,_], rfl, rfl, rfl, rfl, ⟨_, [_], [_,_], rfl, rfl, rfl, rfl, rfl⟩⟩) rfl<|VO.l (LO.lkG (n := (n, m)) M116 (.r rfl) (.r rfl) (mapR_keep ho)) rfl<|VO.l (LO.mv (.r rfl)) rfl<|VO.l (LO.ex (.r rfl) rfl) rfl<|VO.l (LO.ex (.r rfl) rfl) rfl<|VO.l (LO.as (.r rfl)) rfl<|VO.l (LO.as (.r rfl)) rfl<|VO.nil ?_)
    refine VE.seqN ?_
    refine VC.seq ?_
    refine VC.seq ?_
    refine VC.reg (VO.l (LO.mv (.r rfl)) rfl<|VO.l (LO.not (.r rfl)) rfl<|VO.nil ?_)
    refine VE.seqN ?_
    refine VC.cond rfl (fun h25 => ?_) (fun h25 => ?_)
    ·
      refine VC.seq ?_
      refine VC.reg (VO.l (LO.as (.r rfl)) rfl<|VO.l (LO.as (.r rfl)) rfl<|VO.nil ?_)
      refine VE.seqN ?_
      refine VC.ret (VE.thenR (VE.res (vs := [_,_]) rfl ⟨rfl, rfl, trivial⟩ (fun w hw => ?_)))
      refine ⟨?_, hw.nil⟩
      first | (have hz : ofI of (n, m) = none := by simpa using h25); rw [hz]; rfl | (have hz : (ofI of (n, m)).isSome = true := Option.isSome_iff_ne_none.2 (by simpa using h25)); rw [if_pos hz]; rfl
    ·
      refine VC.skip (VE.seqN ?_)
      refine VC.seq ?_
      refine VC.reg (VO.l (LO.mv (.r rfl)) rfl<|VO.l (LO.as (.r rfl)) rfl<|VO.l (LO.as (.r rfl)) rfl<|VO.nil ?_)
      refine VE.seqN ?_
      refine VC.ret (VE.res (vs := [_,_]) rfl ⟨rfl, rfl, trivial⟩ (fun w hw => ?_))
      refine ⟨?_, hw.nil⟩
      first | (have hz : ofI of (n, m) = none := by simpa using h25); rw [hz]; rfl | (have hz : (ofI of (n, m)).isSome = true := Option.isSome_iff_ne_none.2 (by simpa using h25)); rw [if_pos hz]; rfl

end Go.Proofs.Ytgemekpofpoopaa

namespace Go.Proofs.Ytgemekpofpoopaa
open Go.SL Go.Proofs Go.Cast Go.Cell
set_option linter.unusedVariables false

theorem C98 : IsFn Try.prog 98 := ⟨_, Try.func98, by decide, rfl⟩
theorem C95 : IsFn Try.prog 95 := ⟨_, Try.func95, by decide, rfl⟩


end Go.Proofs.Ytgemekpofpoopaa

namespace Go.Proofs
open Go.Shelf
def Try.keysA_ren : Go.Shelf.Ren := ⟨fun | 7 => 122 | 10 => 133 | n => n, fun | 23 => 205 | 26 => 3 | 3 => 4 | 28 => 147 | 0 => 0 | 27 => 146 | 33 => 139 | 4 => 4 | n => n, fun | n => n⟩
theorem Try.keysA : Go.Proofs.SlLaysZI.n7 Try.prog Try.keysA_ren := {
  mixed := by kernel_rfl
  f7 := ⟨Try.f122.name, by decide, Try.func122.trans (congrArg some (by kernel_rfl))⟩
  f10 := ⟨Try.f133.name, by decide, Try.func133.trans (congrArg some (by kernel_rfl))⟩
  t0 := Try.underlying0
  a0 := Try.isAgg0
  z0 := Try.sizeOf0
  v0 := Try.zeroValue0
  t4 := Try.underlying4
  a4 := Try.isAgg4
  z4 := Try.sizeOf4
  v4 := Try.zeroValue4
  t23 := Try.underlying205
  a23 := Try.isAgg205
  z23 := Try.sizeOf205
  v23 := Try.zeroValue205
  t26 := Try.underlying3
  a26 := Try.isAgg3
  z26 := Try.sizeOf3
  v26 := Try.zeroValue3
  t27 := Try.underlying146
  a27 := Try.isAgg146
  z27 := Try.sizeOf146
  v27 := Try.zeroValue146
  t28 := Try.underlying147
  a28 := Try.isAgg147
  z28 := Try.sizeOf147
  v28 := Try.zeroValue147
  t33 := Try.underlying139
  a33 := Try.isAgg139
  z33 := Try.sizeOf139
  v33 := Try.zeroValue139 }
def Try.sortedA_ren : Go.Shelf.Ren := ⟨fun | 6 => 121 | 8 => 132 | 9 => 104 | 11 => 146 | 13 => 126 | 12 => 125 | 23 => 143 | 24 => 144 | 14 => 134 | 15 => 135 | 16 => 136 | 17 => 137 | 18 => 138 | 19 => 139 | 20 => 140 | 21 => 141 | 22 => 142 | 25 => 147 | 26 => 148 | 27 => 149 | 28 => 150 | 29 => 151 | 30 => 152 | 31 => 153 | n => n, fun | 26 => 3 | 28 => 147 | 24 => 40 | 0 => 0 | 3 => 3 | 37 => 182 | 48 => 212 | 50 => 215 | 4 => 4 | 40 => 224 | 39 => 223 | 45 => 167 | 5 => 5 | 9 => 9 | 51 => 233 | 55 => 237 | 57 => 239 | 58 => 240 | 33 => 139 | n => n, fun | n => n⟩
theorem Try.sortedA : Go.Proofs.SlLaysZI.n6 Try.prog Try.sortedA_ren := {
  mixed := by kernel_rfl
  f6 := ⟨Try.f121.name, by decide, Try.func121.trans (congrArg some (by kernel_rfl))⟩
  f8 := ⟨Try.f132.name, by decide, Try.func132.trans (congrArg some (by kernel_rfl))⟩
  f11 := ⟨Try.f146.name, by decide, Try.func146.trans (congrArg some (by kernel_rfl))⟩
  t0 := Try.underlying0
  a0 := Try.isAgg0
  z0 := Try.sizeOf0
  v0 := Try.zeroValue0
  t24 := Try.underlying40
  a24 := Try.isAgg40
  z24 := Try.sizeOf40
  v24 := Try.zeroValue40
  t26 := Try.underlying3
  a26 := Try.isAgg3
  z26 := Try.sizeOf3
  v26 := Try.zeroValue3
  t28 := Try.underlying147
  a28 := Try.isAgg147
  z28 := Try.sizeOf147
  v28 := Try.zeroValue147
  i26 := by kernel_rfl }
end Go.Proofs

set_option linter.unusedVariables false
set_option linter.unusedSimpArgs false
namespace Go.Proofs
open Go.RowKit Go.Maps Go.Sort Go.Shelf
theorem Try.sortsA (m : Nat) : AnyZI.SortsIn Try.prog Try.sortedA_ren Fence.wide m :=
  ⟨fun blk off cap ss W hH hblk hsz => callsIn_wide.2 (Try.slices_Sort_int blk off cap ss W hH hblk hsz),
   fun p cap W => callsIn_wide.2 (Try.slices_Sort_int_none p cap W)⟩
theorem Try.keysCalls (mb : Option Nat) (W : World) : Calls Try.prog 122 #[.map mb] W fun e w' => e = .returned (.func (.func 133) #[] #[.pointer (some ⟨W.heap.size, 0, none⟩)]) ∧ w' = W.alloc (.cells #[.map mb] 205) :=
  (callsIn_wide (n := 5)).1 (AnyZI.keys_in Try.keysA Fence.wide 5 trivial rfl mb W)
theorem Try.sortedCalls {H : Type} (k b nn : Nat) (D0 : DataW H) (R : Value → Option (DataW H × List MemPlace)) (w : World) (hk : w.heap[k]? = some (.cells #[.map (some b)] 205 (0,0))) (hown : w.ownsMap Try.prog 3 R b nn D0) (hmax : Maps.size D0 ≤ maxLen) (hbytes : Maps.size D0 * 8 ≤ 140737488355328) :
    Calls Try.prog 121 #[.func (.func 133) #[] #[.pointer (some ⟨k, 0, none⟩)]] w fun e w' => ∃ (v : Value) (ss : List Int), e = .returned v ∧ ss.Perm (intKeys D0) ∧
      w'.ownsRow w.heap.size 3 1 v ss.length ((ss.mergeSort (fun x y => decide (x ≤ y))).map encZ) ∧ (v = .slice none 0 0 ↔ ss = []) ∧ Below w.heap.size w w' := by
  refine (callsIn_wide (n := 6)).1 ?_
  have hkl : k < w.heap.size := (Array.getElem?_eq_some_iff.1 hk).1
  have hseq : SeqGives Fence.wide 3 Try.prog 133 #[.pointer (some ⟨k, 0, none⟩)] encZ (fun ss => ss.Perm (intKeys D0)) (Maps.size D0) w :=
    AnyZI.keys_gives (ρ := Try.keysA_ren) { Try.keysA with } Fence.wide _ trivial rfl (by omega) k b nn D0 _ hkl (by simp [World.cell?, hk]) hown
  have cS := AnyZI.sorted_in Try.sortedA Fence.wide 6 trivial trivial trivial trivial rfl (by omega) (Try.sortsA _) (enters_of Try.func104 (by kernel_rfl) rfl) 133 #[.pointer (some ⟨k, 0, none⟩)] trivial (enters_of Try.func133 (by kernel_rfl) rfl) _ _ hmax hbytes _ hseq
  exact cS
end Go.Proofs
namespace Go.Proofs.Ytgemekpofpoopaa
open Go.SL Go.Proofs Go.Cast Go.Sort Go.Maps
theorem own_of_row {w w' : World} {E z : Nat} {v : Value} {n : Nat} {l : List (List Value)} (hz : ∀ r ∈ l, r.length = z) (hl : l.length = n) (h : w'.ownsRow w.heap.size E z v n l.flatten) (hb : Go.RowKit.Below w.heap.size w w') :
    ∃ (p : Option Addr) (c : Nat), v = .slice p n c ∧ St (bs w) [own E z p c l] w' := by
  obtain ⟨h1, h2⟩ := h
  have hpre : ∀ k, k < w.heap.size → w'.heap[k]? = w.heap[k]? := hb.block
  rcases h2 with ⟨e, e0⟩ | ⟨g, cap, cur, e, hg, hc, hn, hm, hs, ht⟩
  · have el : l = [] := List.length_eq_zero_iff.1 (by omega)
    subst el; subst e0
    refine ⟨none, 0, e, hb.os, hb.tape, hb.output, hb.size, fun k hk _ => hpre k hk, ?_, ?_, ?_⟩
    · intro i r hr
      cases i with
      | zero => cases hr; exact ⟨by simp, by simp, fun _ => ⟨rfl, rfl⟩, fun a q => (by cases q)⟩
      | succ i => simp at hr
    · intro i r hr k hk
      cases i with
      | zero => cases hr; exact absurd rfl hk.1
      | succ i => simp at hr
    · intro i j r s hij hr hs
      cases i with
      | zero => cases j with | zero => exact absurd rfl hij | succ j => simp at hs
      | succ i => simp at hr
  · refine ⟨some ⟨g, 0, none⟩, cap, e, hb.os, hb.tape, hb.output, hb.size, fun k hk _ => hpre k hk, ?_, ?_, ?_⟩
    · intro i r hr
      cases i with
      | zero =>
        cases hr
        refine ⟨by omega, hz, fun q => (by cases q), fun a q => ?_⟩
        cases q
        refine ⟨rfl, rfl, cur, cur.toList.drop (n * z), hc, ?_, hs⟩
        rw [← ht, List.take_append_drop]
      | succ i => simp at hr
    · intro i r hr k hk
      cases i with
      | zero =>
        cases hr
        have e : k = g := hk.2
        subst e
        exact ⟨.inr hg, (Array.getElem?_eq_some_iff.1 hc).1⟩
      | succ i => simp at hr
    · intro i j r s hij hr hs
      cases i with
      | zero => cases j with | zero => exact absurd rfl hij | succ j => simp at hs
      | succ i => simp at hr

theorem row_ints (l : List Int) : (l.map intC).flatten = l.map encZ := flat_ints l
theorem intC_len (l : List Int) : ∀ r ∈ l.map intC, r.length = 1 := fun r hr => by obtain ⟨x,_, rfl⟩ := List.mem_map.1 hr; rfl
/-- maps.Keys. -/
theorem Keys_h (mb : Option Nat) (w : World) : Calls Try.prog 122 #[.map mb] w fun e w' => ∃ k : Nat, True ∧ e = .returned (.func (.func 133) #[] #[.pointer (some ⟨k, 0, none⟩)]) ∧ St (bs w) [blk k (.cells #[.map mb] 205)] w' :=
  (Try.keysCalls mb w).mono fun e w' ⟨h1, h2⟩ => ⟨w.heap.size, trivial, h1, by subst h2; exact (St.refl w).alloc _⟩
/-- Ascending, and what it holds. -/
def AscOf (S : Int → Bool) (l : List Int) : Prop := l.Pairwise (· < ·) ∧ ∀ n, n ∈ l ↔ S n = true
def keyI (e : MapEntry) : Int := match e.key with | .int _ n => n | _ => 0
theorem asc_sort {S : Int → Bool} {l : List Int} (hn : l.Nodup) (hm : ∀ n, n ∈ l ↔ S n = true) : AscOf S (l.mergeSort fun x y => decide (x ≤ y)) := by
  have tr : ∀ a b c : Int, decide (a ≤ b) = true → decide (b ≤ c) = true → decide (a ≤ c) = true := fun a b c h1 h2 => by simp only [decide_eq_true_eq] at *; omega
  have to : ∀ a b : Int, (decide (a ≤ b) || decide (b ≤ a)) = true := fun a b => by simp only [Bool.or_eq_true, decide_eq_true_eq]; omega
  have hp := List.mergeSort_perm l fun x y => decide (x ≤ y)
  have h1 := List.pairwise_mergeSort tr to l
  have h2 : (l.mergeSort fun x y => decide (x ≤ y)).Nodup := hp.nodup_iff.2 hn
  refine ⟨?_, fun n => by rw [hp.mem_iff]; exact hm n⟩
  refine (List.pairwise_and_iff.2 ⟨h1, h2⟩).imp fun {a b} h => ?_
  have h3 := h.1; have h4 := h.2
  simp only [decide_eq_true_eq] at h3
  omega
/-- slices.Sorted of the keys of a set. -/
theorem Sorted_h (k b : Nat) (m : List Int) (w : World) (hk : w.heap[k]? = some (.cells #[.map (some b)] 205 (0,0))) (hb : (setR b (memB m)).inv w) (hm : ∀ n, n ∈ m → -9223372036854775808 ≤ n ∧ n ≤ 9223372036854775807) (hl : m.length ≤ 1000000000000) :
    Calls Try.prog 121 #[.func (.func 133) #[] #[.pointer (some ⟨k, 0, none⟩)]] w fun e w' => ∃ x : Option Addr × Nat × List Int, (AscOf (memB m) x.2.2 ∧ x.2.2.length ≤ m.length) ∧ e = .returned (.slice x.1 x.2.2.length x.2.1) ∧ St (bs w) [own 3 1 x.1 x.2.1 (x.2.2.map intC)] w' := by
  obtain ⟨es, clock, h1, hS, hst⟩ := hb
  have hkey : ∀ e, e ∈ es.toList → ∃ n, e.key = .int .i64 n ∧ memB m n = true := fun e he => by obtain ⟨n, e1,_, e2⟩ := hS.ent e he; exact ⟨n, e1, e2⟩
  have hin : ∀ n, memB m n = true → n ∈ m := fun n h => by simpa [memB] using h
  have hu : Try.prog.underlying 3 = some (.int .i64) := Try.underlying3
  have hko : ∀ n, memB m n = true → keyOf Try.prog 3 (.int .i64 n) = some (.int .i64 n) := fun n h => by
    have := hm n (hin n h)
    have hwf : (Lit.int .i64 n).wf = true := by simp only [Lit.wf, Bool.and_eq_true, decide_eq_true_eq]; exact this
    simp [keyOf, hu, mapKey, hwf]
  let R : Value → Option (DataW Unit × List MemPlace) := fun _ => some (.nil, [])
  have hrd : ∀ e, e ∈ es.toList → Go.WideElems.rd Try.prog 3 R e = some (.int .i64 (keyI e), .nil) := fun e he => by
    obtain ⟨n, e1, e2⟩ := hkey e he
    simp [Go.WideElems.rd, e1, hko n e2, R, keyI]
  have hndk : (es.toList.map (·.key)).Nodup := List.pairwise_map.2 hS.nod
  have hki : ∀ e, e ∈ es.toList → e.key = .int .i64 (keyI e) := fun e he => by obtain ⟨n, e1,_⟩ := hkey e he; simp [keyI, e1]
  have hnd : (es.toList.map keyI).Nodup := List.pairwise_map.2 (hS.nod.imp_of_mem fun {a b} ha hb hne e => hne (by rw [hki a ha, hki b hb, e]))
  have hmem : ∀ n, n ∈ es.toList.map keyI ↔ memB m n = true := fun n => by
    rw [List.mem_map]
    constructor
    · rintro ⟨e, he, rfl⟩
      obtain ⟨q, e1, e2⟩ := hkey e he
      simpa [keyI, e1] using e2
    · intro h
      obtain ⟨e, he, e1⟩ := hS.mem n h
      refine ⟨e, he, ?_⟩
      have e2 := hki e he
      rw [e1] at e2
      exact (intV_inj (a := n) (b := keyI e) e2).symm
  have hlen : es.size ≤ m.length := by
    have h3 : ((es.toList.map keyI).length) ≤ m.length := List.Nodup.length_le_of_subset hnd (fun n h => hin n ((hmem n).1 h))
    simpa using h3
  have F : Go.WideElems.Fit Try.prog 3 R es clock := ⟨by simp only [maxLen]; omega, ⟨hst.2, hst.1, hndk⟩, fun e he => ⟨_, hrd e he⟩⟩
  have hown := World.ownsMap_of_fit (R := R) h1 F (fun _ _ _ h => h)
  have hsz : Maps.size (DataW.map ((es.toList.map (Go.WideElems.rg Try.prog 3 R)).foldr DataW.insert [])) = es.size := by simp [Maps.size, length_sorted]
  refine (Try.sortedCalls k b es.size _ R w hk hown (by rw [hsz]; simp only [maxLen]; omega) (by rw [hsz]; omega)).mono fun e w' ⟨v, ss, h2, h3, h4,_, h5⟩ => ?_
  have hp : ss.Perm (es.toList.map keyI) := by
    refine h3.trans ?_
    show (List.map (fun p : Lit × DataW Unit => Go.intOf p.1) ((es.toList.map (Go.WideElems.rg Try.prog 3 R)).foldr DataW.insert [])).Perm _
    refine ((Go.WideShapes.sorted_perm _).map _).trans ?_
    rw [List.map_map]
    refine List.Perm.of_eq (List.map_congr_left fun e he => ?_)
    simp [Go.WideElems.rg_of (hrd e he), Go.intOf]
  have hA := asc_sort (S := memB m) (hp.nodup_iff.2 hnd) (fun n => by rw [hp.mem_iff]; exact hmem n)
  have hL : (ss.mergeSort fun x y => decide (x ≤ y)).length = ss.length := List.length_mergeSort ..
  obtain ⟨p, c, e1, e2⟩ := own_of_row (l := (ss.mergeSort fun x y => decide (x ≤ y)).map intC) (intC_len _) (by rw [List.length_map, hL]) (by rw [row_ints]; exact h4) h5
  refine ⟨(p, c,_), ⟨hA, ?_⟩, by rw [hL, h2, e1], e2⟩
  show (ss.mergeSort fun x y => decide (x ≤ y)).length ≤ _
  rw [hL, hp.length_eq]; simpa using hlen
end Go.Proofs.Ytgemekpofpoopaa

namespace Go.Proofs.Ytgemekpofpoopaa
open Go.SL Go.Proofs Go.Cast Go.Cell
set_option linter.unusedVariables false

theorem B23 : Builds Try.prog 23 [(0,1), (1,1), (2,1), (3,1), (4,1)] [.int .i64 0, .int .i64 0, .int .i64 0, .int .i64 0, .int .i64 0] := Builds.mk fun _ => by kernel_rfl
theorem B26 : Builds Try.prog 26 [(0,5), (5,1)] [.int .i64 0, .int .i64 0, .int .i64 0, .int .i64 0, .int .i64 0, .slice none 0 0] := Builds.mk fun _ => by kernel_rfl
theorem I71 : EInfo Try.prog 71 2 16 (.agg #[.int .i64 0, .int .i64 0]) := ⟨by kernel_rfl, by kernel_rfl, by unfold ZeroOf; kernel_rfl, rfl, by decide⟩
theorem N24 : (Try.prog.info? 24).map (·.size) = some 1 := by kernel_rfl
theorem C40 : IsFn Try.prog 40 := ⟨_, Try.func40, by decide, rfl⟩


/-- Pairs of numbers. -/
def pairsTo (l : List Int) (k : Nat) : List Span := (List.range k).map fun i => ⟨l.getD (2 * i) 0, l.getD (2 * i + 1) 0⟩
def pairsL (l : List Int) : List Span := pairsTo l (l.length / 2)
theorem pairs_succ {l : List Int} {k : Nat} : pairsTo l (k + 1) = pairsTo l k ++ [⟨l.getD (2 * k) 0, l.getD (2 * k + 1) 0⟩] := by unfold pairsTo; rw [List.range_succ, List.map_append]; rfl
theorem pairs_len {l : List Int} {k : Nat} : (pairsTo l k).length = k := by unfold pairsTo; simp
abbrev rowG (n : Nat) : Grid := ⟨0,0,1000, ((n / 2 : Nat) : Int), 1⟩
theorem tdiv2 (n : Nat) : ((n : Int)).tdiv 2 = ((n / 2 : Nat) : Int) := rfl
theorem ints_nat {w : World} {p : Option Addr} {l : List Nat} (h : RO 1 nC w p l) : Ints w p (l.map fun n : Nat => (n : Int)) := by
  unfold Ints; rw [List.map_map]; exact h
theorem len_ne {α : Type} {a b : List α} (h : ¬ (a.length : Int) = b.length) : ¬ a = b := fun e => h (by rw [e])
theorem len_ne2 {a b : List (RowA Int)} (h : ¬ (a.length : Int) = b.length) : ¬ a.map RowA.l = b.map RowA.l := fun e => h (by have z := congrArg List.length e; rw [List.length_map, List.length_map] at z; rw [z])
theorem list_ne {l m : List Int} {i : Nat} (hi : i < l.length) (hm : i < m.length) (h : ¬ l.getD i 0 = m.getD i 0) : ¬ l = m := fun e => h (by rw [e])
theorem list_eq {l m : List Int} (hl : l.length = m.length) (h : ∀ i, i < l.length → l.getD i 0 = m.getD i 0) : l = m := by
  refine List.ext_getElem hl fun i h1 h2 => ?_
  have := h i h1
  rwa [List.getD_eq_getElem?_getD, List.getD_eq_getElem?_getD, List.getElem?_eq_getElem h1, List.getElem?_eq_getElem h2] at this
theorem step_all {P : Nat → Prop} {i : Nat} (h : ∀ k, k < i → P k) (hi : P i) : ∀ k, k < i + 1 → P k := fun k hk => by
  rcases Nat.lt_succ_iff_lt_or_eq.1 hk with q | rfl
  · exact h k q
  · exact hi
theorem rows_ne {ra rb : List (RowA Int)} {i : Nat} {x y : RowA Int} (hx : ra[i]? = some x) (hy : rb[i]? = some y) (h : ¬ x.l = y.l) : ¬ ra.map RowA.l = rb.map RowA.l := fun e => h (by
  have h1 : (ra.map RowA.l)[i]? = some x.l := by rw [List.getElem?_map, hx]; rfl
  rw [e, List.getElem?_map, hy] at h1
  exact (Option.some.inj h1).symm)
theorem rows_eq {ra rb : List (RowA Int)} (hl : ra.length = rb.length) (h : ∀ i x y, i < ra.length → ra[i]? = some x → rb[i]? = some y → x.l = y.l) : ra.map RowA.l = rb.map RowA.l := by
  refine List.ext_getElem? fun i => ?_
  rw [List.getElem?_map, List.getElem?_map]
  by_cases q : i < ra.length
  · rw [List.getElem?_eq_getElem q, List.getElem?_eq_getElem (by omega)]
    exact congrArg some (h i _ _ q (List.getElem?_eq_getElem q) (List.getElem?_eq_getElem (by omega)))
  · rw [List.getElem?_eq_none (by omega), List.getElem?_eq_none (by omega)]
theorem step_rows {ra rb : List (RowA Int)} {i : Nat} {x y : RowA Int} (h : ∀ k x y, k < i → ra[k]? = some x → rb[k]? = some y → x.l = y.l) (hx : ra[i]? = some x) (hy : rb[i]? = some y) (e : x.l = y.l) : ∀ k x y, k < i + 1 → ra[k]? = some x → rb[k]? = some y → x.l = y.l := fun k x' y' hk h1 h2 => by
  rcases Nat.lt_succ_iff_lt_or_eq.1 hk with q | rfl
  · exact h k x' y' q h1 h2
  · rw [hx] at h1; rw [hy] at h2; cases h1; cases h2; exact e

set_option maxRecDepth 20000 in
theorem row_c (l : List Int) (p : Option Addr) (c : Nat) (w : World) (hl : Ints w p l) (hn : l.length ≤ 1000) :
  Calls Try.prog 56 #[.slice p l.length c] w fun e w' => ∃ y : SlY, True ∧ e = .returned (fieldV (rowG l.length) y.p (pairsL l).length y.c) ∧ St (bs w) [own 71 2 y.p y.c ((pairsL l).map Span.cells)] w' := by
  refine enter (vs := [_]) (env := [(0,_)]) Try.func56 rfl rfl rfl rfl ?_
  refine VC.seq ?_
  refine VC.reg (VO.h rfl<|HO.alloc (C := #[_,_,_,_,_,_]) Z26 rfl fun b1 => VO.nil ?_)
  refine VE.seqN ?_
  refine VC.seq ?_
  refine VC.reg (VO.l (LO.mv (.r rfl)) rfl<|VO.l (LO.len S40 (.r rfl) rfl) rfl<|VO.l (LO.eqv (LO.quo (.r rfl) (.r rfl) (by omega) (wi (by rw [tdiv2]; omega) (by rw [tdiv2]; omega))) (congrArg (Value.int .i64) (tdiv2 l.length))) rfl<|VO.l (LO.bd (ps := [(_,_), (_,_), (_,_)]) (vs := [(_,_), (_,_), (_,_)]) (C := [_,_,_,_,_]) B23  ⟨(.r rfl), (.r rfl), (.r rfl), trivial⟩ rfl ⟨_, [_], [_,_,_,_,_], rfl, rfl, rfl, rfl, ⟨_, [_], [_,_,_,_,_], rfl, rfl, rfl, rfl, ⟨_, [_], [_,_,_,_,_], rfl, rfl, rfl, rfl, rfl⟩⟩⟩) rfl<|VO.l (LO.bd (ps := [(_,_)]) (vs := [(_,_)]) (C := [_,_,_,_,_,_]) B26  ⟨(.r rfl), trivial⟩ rfl ⟨_, [_,_,_,_,_], [_,_,_,_,_,_], rfl, rfl, rfl, rfl, rfl⟩) rfl<|VO.h rfl<|HO.alloc (C := #[_,_,_,_,_,_]) Z26 rfl fun b2 => VO.h0<|HO.st 0 (vs := [_,_,_,_,_,_]) (C' := [_,_,_,_,_,_]) (L' := [_,_]) N26 rfl rfl rfl rfl rfl rfl rfl rfl<|VO.nil ?_)
  refine VE.seqN ?_
  refine VC.seq ?_
  refine VC.seq ?_
  refine VC.reg (VO.l (LO.as (.r rfl)) rfl<|VO.nil ?_)
  refine VE.seqN ?_
  refine VC.block ?_
  refine VC.loopK (α := Nat × (Option Addr) × Nat) 1 (fun gx => [(4, .int .i64 ((2 * gx.1 : Nat) : Int))]) [(0,_), (2,_), (3,_)] (fun gx => [blk b2 (.cells #[.int .i64 0, .int .i64 0, .int .i64 1000, .int .i64 ((l.length / 2 : Nat) : Int), .int .i64 1, .slice gx.2.1 (pairsTo l gx.1).length gx.2.2] 26), own 71 2 gx.2.1 gx.2.2 ((pairsTo l gx.1).map Span.cells)]) (fun gx => gx.1 ≤ l.length / 2) (fun gx => l.length / 2 - gx.1) (0, none, 0) (by exact Nat.zero_le _) (.cons rfl (.cons rfl (.cons rfl (.cons rfl .nil)))) (fun _ h => ((h.ownNil 71 2)).sel [1,0,2] rfl) ?_
  rintro ⟨k, po, co⟩ hk
  show VC _ _ _ _ _ ([(4, .int .i64 ((2 * k : Nat) : Int))] ++ _) ([blk b2 (.cells #[.int .i64 0, .int .i64 0, .int .i64 1000, .int .i64 ((l.length / 2 : Nat) : Int), .int .i64 1, .slice po (pairsTo l k).length co] 26), own 71 2 po co ((pairsTo l k).map Span.cells)] ++ _) _ _
  dsimp only at hk
  refine VC.seq ?_
  refine VC.seq ?_
  refine VC.reg (VO.l (LO.mv (.r rfl)) rfl<|VO.l (LO.add (.r rfl) (.r rfl) (wi (by omega) (by omega))) rfl<|VO.l (LO.mv (.r rfl)) rfl<|VO.l (LO.len S40 (.r rfl) rfl) rfl<|VO.l (LO.lt (.r rfl) (.r rfl)) rfl<|VO.nil ?_)
  refine VE.seqN ?_
  refine VC.cond rfl (fun h14 => ?_) (fun h14 => ?_)
  ·
    refine VC.skip (VE.seqN ?_)
    refine VC.seq ?_
    refine VC.block ?_
    refine VC.drawH [[0,1,2], [0,1,2], [0,2], [2]] [some 1, some 1, some 0, some 0, some 0, some 0, some 0, some 0, some 0, some 0, some 0, some 0, none, none, some 2, none] mixed (by kernel_rfl) rfl (LX.l (fun _ hJ => LO.fa (r := 5) F26_1 (.r rfl) rfl) rfl<|LX.l (fun _ hJ => LO.ld O24 (.r rfl) (fun _ hw => cells_at (hJ _ hw) 0 rfl ⟨_, rfl⟩)) rfl<|LX.l (fun _ hJ => LO.mv (.r rfl)) rfl<|LX.l (fun _ hJ => LO.mv (.r rfl)) rfl<|LX.l (fun _ hJ => LO.ixs S40 N3 hl.some (.r rfl) (.r rfl) (by push_cast; rfl) (by omega)) rfl<|LX.l (fun _ hJ => LO.ld O3 (.r rfl) (fun w hw => cells_part (off := 0) ((hl.at (j := 2 * k) (by omega)) w (hJ _ hw)) ⟨_, rfl⟩)) rfl<|LX.l (fun _ hJ => LO.mv (.r rfl)) rfl<|LX.l (fun _ hJ => LO.mv (.r rfl)) rfl<|LX.l (fun _ hJ => LO.add (.r rfl) (.r rfl) (wi (by omega) (by omega))) rfl<|LX.l (fun _ hJ => LO.ixs S40 N3 hl.some (.r rfl) (.r rfl) (by push_cast; rfl) (by omega)) rfl<|LX.l (fun _ hJ => LO.ld O3 (.r rfl) (fun w hw => cells_part (off := 0) ((hl.at (j := (2 * k + 1)) (by omega)) w (hJ _ hw)) ⟨_, rfl⟩)) rfl<|LX.l (fun _ hJ => LO.bd (ps := [(_,_), (_,_)]) (vs := [(_,_), (_,_)]) (C := [_,_]) B71  ⟨(.r rfl), (.r rfl), trivial⟩ rfl ⟨_, [_], [_,_], rfl, rfl, rfl, rfl, ⟨_, [_], [_,_], rfl, rfl, rfl, rfl, rfl⟩⟩) rfl<|LX.s<|LX.s<|LX.l (fun _ hJ => LO.fa (r := 5) F26_1 (.r rfl) rfl) rfl<|LX.s<|LX.nil) (HX.s<|HX.s<|HX.s<|HX.s<|HX.s<|HX.s<|HX.s<|HX.s<|HX.s<|HX.s<|HX.s<|HX.s<|HX.h rfl<|HO.bs (ps := [(_,_)]) (vs := [(_,_)]) (Z := [_,_]) (C := [_,_]) S24 Z71 N71 ⟨(.r rfl), trivial⟩ rfl rfl rfl rfl ⟨_, [_,_], [_,_], rfl, rfl, rfl, rfl, rfl⟩ fun b8 => ⟨fun _ hw => hw.sel [1,2,3] rfl, HX.h rfl<|HO.appT ((⟨l.getD (2 * k) 0, l.getD (2 * k + 1) 0⟩ : Span)) (f := Span.cells) 2 0 (fun R => [_,_, R,_]) S24 S24 I71 (.r rfl) (.r rfl) rfl rfl rfl rfl rfl rfl rfl (fun _ => rfl) rfl (by have := @pairs_len l k; omega) fun p13 c13 => ⟨fun _ hw => hw.sel [1,3] rfl, HX.s<|HX.h0<|HO.st 1 (vs := [_]) (C' := [_,_,_,_,_,_]) (L' := [_,_,_,_]) N24 rfl rfl rfl rfl rfl rfl rfl rfl<|⟨fun _ hw => hw.sel [3] rfl, HX.nil ?_⟩⟩⟩)
    refine VE.inN (VE.seqN ?_)
    refine VC.reg (VO.l (LO.mv (.r rfl)) rfl<|VO.l (LO.add (.r rfl) (.r rfl) (wi (by omega) (by omega))) rfl<|VO.l (LO.as (.r rfl)) rfl<|VO.nil ?_)
    refine VE.thenN fun a w ha hw => ⟨(k + 1, p13, c13), (by dsimp only; omega), (by dsimp only; omega), ha.sub (.cons (congrArg (fun z => some (Value.int .i64 z)) (by push_cast; omega)) (.cons rfl (.cons rfl (.cons rfl .nil)))), (by dsimp only; rw [pairs_succ]; exact hw.sel [1,2,3] rfl)⟩
  ·
    have hke : k = l.length / 2 := by omega
    subst hke
    refine VC.exit (VE.thenX (VE.thenX (VE.inX (VE.seqN ?_))))
    refine VC.seq ?_
    refine VC.reg (VO.l (LO.lda (vs := [_,_,_,_,_,_]) A26 (.r rfl) (fun _ hw => cells_at hw 0 rfl ⟨_, rfl⟩) rfl) rfl<|VO.h0<|HO.st 2 (vs := [_,_,_,_,_,_]) (C' := [_,_,_,_,_,_]) (L' := [_,_,_]) N26 rfl rfl rfl rfl rfl rfl rfl rfl<|VO.nil ?_)
    refine VE.seqN ?_
    refine VC.ret (VE.res (vs := [_]) rfl ⟨RV.agg (vs := [_,_,_,_,_,_]) A26 rfl (cells_blk 2 rfl ⟨_, rfl⟩) rfl, trivial⟩ (fun w hw => ?_))
    exact ⟨⟨po, co⟩, trivial, rfl, selK [1] rfl rfl _ hw⟩

set_option maxRecDepth 20000 in
theorem numbers_c (a b : List Int) (pa : Option Addr) (ca : Nat) (pb_ : Option Addr) (cb : Nat) (w : World) (ha : Ints w pa a) (hb : Ints w pb_ b) (hn : a.length ≤ 1000000) :
  Calls Try.prog 40 #[.slice pa a.length ca, .slice pb_ b.length cb] w fun e w' => e = .returned (.bool (decide (a = b))) ∧ St (bs w) [] w' := by
  refine enter (vs := [_,_]) (env := [(0,_), (1,_)]) Try.func40 rfl rfl rfl rfl ?_
  refine VC.seq ?_
  refine VC.reg (VO.l (LO.as (.r rfl)) rfl<|VO.nil ?_)
  refine VE.seqN ?_
  refine VC.seq ?_
  refine VC.seq ?_
  refine VC.reg (VO.l (LO.mv (.r rfl)) rfl<|VO.l (LO.len S40 (.r rfl) rfl) rfl<|VO.l (LO.mv (.r rfl)) rfl<|VO.l (LO.len S40 (.r rfl) rfl) rfl<|VO.l (LO.ne (.r rfl) (.r rfl)) rfl<|VO.nil ?_)
  refine VE.seqN ?_
  refine VC.cond rfl (fun h10 => ?_) (fun h10 => ?_)
  ·
    refine VC.seq ?_
    refine VC.reg (VO.l (LO.as (.r rfl)) rfl<|VO.nil ?_)
    refine VE.seqN ?_
    refine VC.ret (VE.thenR (VE.res (vs := [_]) rfl ⟨rfl, trivial⟩ (fun w hw => ?_)))
    refine ⟨?_, hw.nil⟩
    refine congrArg (fun z => Ending.returned (.bool z)) ?_
    first | exact (decide_eq_false (len_ne h10)).symm | exact (decide_eq_false (list_ne (i := i) (by omega) (by omega) h25)).symm | exact (decide_eq_true (list_eq (by omega) (fun k hk => hz k (by omega)))).symm
  ·
    refine VC.skip (VE.seqN ?_)
    refine VC.seq ?_
    refine VC.seq ?_
    refine VC.reg (VO.l (LO.as (.r rfl)) rfl<|VO.nil ?_)
    refine VE.seqN ?_
    refine VC.block ?_
    refine VC.loopK (α := Nat) 0 (fun gx => [(5, .int .i64 (gx : Nat))]) [(0,_), (1,_)] (fun gx => []) (fun gx => gx ≤ a.length ∧ ∀ k, k < gx → a.getD k 0 = b.getD k 0) (fun gx => a.length - gx) 0 (by exact ⟨Nat.zero_le _, fun k h => absurd h (Nat.not_lt_zero _)⟩) (.cons rfl (.cons rfl (.cons rfl .nil))) (fun _ h => h) ?_
    rintro i ⟨hi, hz⟩
    refine VC.seq ?_
    refine VC.seq ?_
    refine VC.reg (VO.l (LO.mv (.r rfl)) rfl<|VO.l (LO.mv (.r rfl)) rfl<|VO.l (LO.len S40 (.r rfl) rfl) rfl<|VO.l (LO.lt (.r rfl) (.r rfl)) rfl<|VO.nil ?_)
    refine VE.seqN ?_
    refine VC.cond rfl (fun h14 => ?_) (fun h14 => ?_)
    ·
      refine VC.skip (VE.seqN ?_)
      refine VC.seq ?_
      refine VC.block ?_
      refine VC.seq ?_
      refine VC.draw mixed (LL.l (LO.mv (.r rfl)) rfl<|LL.l (LO.mv (.r rfl)) rfl<|LL.l (LO.ixs S40 N3 ha.some (.r rfl) (.r rfl) rfl (by omega)) rfl<|LL.l (LO.ld O3 (.r rfl) (fun w hw => cells_part (off := 0) ((ha.at (j := i) (by omega)) w hw) ⟨_, rfl⟩)) rfl<|LL.l (LO.mv (.r rfl)) rfl<|LL.l (LO.mv (.r rfl)) rfl<|LL.l (LO.ixs S40 N3 hb.some (.r rfl) (.r rfl) rfl (by omega)) rfl<|LL.l (LO.ld O3 (.r rfl) (fun w hw => cells_part (off := 0) ((hb.at (j := i) (by omega)) w hw) ⟨_, rfl⟩)) rfl<|LL.l (LO.ne (.r rfl) (.r rfl)) rfl<|LL.nil) (by kernel_rfl) ?_
      refine VE.seqN ?_
      refine VC.cond rfl (fun h25 => ?_) (fun h25 => ?_)
      ·
        refine VC.seq ?_
        refine VC.reg (VO.l (LO.as (.r rfl)) rfl<|VO.nil ?_)
        refine VE.seqN ?_
        refine VC.ret (VE.inR (VE.thenR (VE.thenR (VE.inR (VE.thenR (VE.res (vs := [_]) rfl ⟨rfl, trivial⟩ (fun w hw => ?_)))))))
        refine ⟨?_, hw.nil⟩
        refine congrArg (fun z => Ending.returned (.bool z)) ?_
        first | exact (decide_eq_false (len_ne h10)).symm | exact (decide_eq_false (list_ne (i := i) (by omega) (by omega) h25)).symm | exact (decide_eq_true (list_eq (by omega) (fun k hk => hz k (by omega)))).symm
      ·
        refine VC.skip (VE.inN (VE.seqN ?_))
        refine VC.reg (VO.l (LO.mv (.r rfl)) rfl<|VO.l (LO.add (.r rfl) (.r rfl) (wi (by omega) (by omega))) rfl<|VO.l (LO.as (.r rfl)) rfl<|VO.nil ?_)
        refine VE.thenN fun a w ha hw => ⟨i + 1, ⟨by omega, step_all hz (Classical.not_not.1 h25)⟩, (by omega), ha.sub (.cons rfl (.cons rfl (.cons rfl .nil))), hw⟩
    ·
      refine VC.exit (VE.thenX (VE.thenX (VE.inX (VE.seqN ?_))))
      refine VC.seq ?_
      refine VC.reg (VO.l (LO.as (.r rfl)) rfl<|VO.nil ?_)
      refine VE.seqN ?_
      refine VC.ret (VE.res (vs := [_]) rfl ⟨rfl, trivial⟩ (fun w hw => ?_))
      refine ⟨?_, hw.nil⟩
      refine congrArg (fun z => Ending.returned (.bool z)) ?_
      first | exact (decide_eq_false (len_ne h10)).symm | exact (decide_eq_false (list_ne (i := i) (by omega) (by omega) h25)).symm | exact (decide_eq_true (list_eq (by omega) (fun k hk => hz k (by omega)))).symm

set_option maxRecDepth 20000 in
theorem lists_c (ra rb : List (RowA Int)) (pa : Option Addr) (ca : Nat) (pb_ : Option Addr) (cb : Nat) (w : World) (ha : RR 1 iC w pa ra) (hb : RR 1 iC w pb_ rb) (hn : ra.length ≤ 1000000) (hl : ∀ x, x ∈ ra → x.l.length ≤ 1000000) :
  Calls Try.prog 26 #[.slice pa ra.length ca, .slice pb_ rb.length cb] w fun e w' => e = .returned (.bool (decide (ra.map RowA.l = rb.map RowA.l))) ∧ St (bs w) [] w' := by
  refine enter (vs := [_,_]) (env := [(0,_), (1,_)]) Try.func26 rfl rfl rfl rfl ?_
  refine VC.seq ?_
  refine VC.reg (VO.l (LO.as (.r rfl)) rfl<|VO.nil ?_)
  refine VE.seqN ?_
  refine VC.seq ?_
  refine VC.seq ?_
  refine VC.reg (VO.l (LO.mv (.r rfl)) rfl<|VO.l (LO.len S41 (.r rfl) rfl) rfl<|VO.l (LO.mv (.r rfl)) rfl<|VO.l (LO.len S41 (.r rfl) rfl) rfl<|VO.l (LO.ne (.r rfl) (.r rfl)) rfl<|VO.nil ?_)
  refine VE.seqN ?_
  refine VC.cond rfl (fun h10 => ?_) (fun h10 => ?_)
  ·
    refine VC.seq ?_
    refine VC.reg (VO.l (LO.as (.r rfl)) rfl<|VO.nil ?_)
    refine VE.seqN ?_
    refine VC.ret (VE.thenR (VE.res (vs := [_]) rfl ⟨rfl, trivial⟩ (fun w hw => ?_)))
    refine ⟨?_, hw.nil⟩
    refine congrArg (fun z => Ending.returned (.bool z)) ?_
    first | exact (decide_eq_false (len_ne2 h10)).symm | exact (decide_eq_false (rows_ne hx hy h26)).symm | exact (decide_eq_true (rows_eq (by omega) (fun k x y hk => hz k x y (by omega)))).symm
  ·
    refine VC.skip (VE.seqN ?_)
    refine VC.seq ?_
    refine VC.seq ?_
    refine VC.reg (VO.l (LO.as (.r rfl)) rfl<|VO.nil ?_)
    refine VE.seqN ?_
    refine VC.block ?_
    refine VC.loopK (α := Nat) 0 (fun gx => [(5, .int .i64 (gx : Nat))]) [(0,_), (1,_)] (fun gx => []) (fun gx => gx ≤ ra.length ∧ ∀ k x y, k < gx → ra[k]? = some x → rb[k]? = some y → x.l = y.l) (fun gx => ra.length - gx) 0 (by exact ⟨Nat.zero_le _, fun k x y h => absurd h (Nat.not_lt_zero _)⟩) (.cons rfl (.cons rfl (.cons rfl .nil))) (fun _ h => h) ?_
    rintro i ⟨hi, hz⟩
    refine VC.seq ?_
    refine VC.seq ?_
    refine VC.reg (VO.l (LO.mv (.r rfl)) rfl<|VO.l (LO.mv (.r rfl)) rfl<|VO.l (LO.len S41 (.r rfl) rfl) rfl<|VO.l (LO.lt (.r rfl) (.r rfl)) rfl<|VO.nil ?_)
    refine VE.seqN ?_
    refine VC.cond rfl (fun h14 => ?_) (fun h14 => ?_)
    ·
      obtain ⟨x, hx⟩ := get_ex (l := ra) (n := i) (by omega)
      obtain ⟨y, hy⟩ := get_ex (l := rb) (n := i) (by omega)
      refine VC.skip (VE.seqN ?_)
      refine VC.seq ?_
      refine VC.block ?_
      refine VC.seq ?_
      refine VC.draw mixed (LL.l (LO.mv (.r rfl)) rfl<|LL.l (LO.mv (.r rfl)) rfl<|LL.l (LO.ixs S41 N40 ha.1.sm (.r rfl) (.r rfl) rfl (by omega)) rfl<|LL.l (LO.ld O40 (.r rfl) (fun w hw => cells_part (off := 0) ((fun w3 h3 => RR.cell (ha.keep w3 h3) hx) w hw) ⟨_, rfl⟩)) rfl<|LL.l (LO.mv (.r rfl)) rfl<|LL.l (LO.mv (.r rfl)) rfl<|LL.l (LO.ixs S41 N40 hb.1.sm (.r rfl) (.r rfl) rfl (by omega)) rfl<|LL.l (LO.ld O40 (.r rfl) (fun w hw => cells_part (off := 0) ((fun w3 h3 => RR.cell (hb.keep w3 h3) hy) w hw) ⟨_, rfl⟩)) rfl<|LL.l (LO.call (xs := [_,_]) (vs := [_,_]) C40 ⟨(.r rfl), (.r rfl), trivial⟩ (fun w2 hw => numbers_c x.l y.l x.p x.c y.p y.c w2 (RR.row (ha.keep w2 hw) hx) (RR.row (hb.keep w2 hw) hy) (hl x (List.mem_of_getElem? hx)))) rfl<|LL.l (LO.not (.r rfl)) rfl<|LL.nil) (by kernel_rfl) ?_
      refine VE.seqN ?_
      refine VC.cond rfl (fun h26 => ?_) (fun h26 => ?_)
      ·
        refine VC.seq ?_
        refine VC.reg (VO.l (LO.as (.r rfl)) rfl<|VO.nil ?_)
        refine VE.seqN ?_
        refine VC.ret (VE.inR (VE.thenR (VE.thenR (VE.inR (VE.thenR (VE.res (vs := [_]) rfl ⟨rfl, trivial⟩ (fun w hw => ?_)))))))
        refine ⟨?_, hw.nil⟩
        refine congrArg (fun z => Ending.returned (.bool z)) ?_
        first | exact (decide_eq_false (len_ne2 h10)).symm | exact (decide_eq_false (rows_ne hx hy h26)).symm | exact (decide_eq_true (rows_eq (by omega) (fun k x y hk => hz k x y (by omega)))).symm
      ·
        refine VC.skip (VE.inN (VE.seqN ?_))
        refine VC.reg (VO.l (LO.mv (.r rfl)) rfl<|VO.l (LO.add (.r rfl) (.r rfl) (wi (by omega) (by omega))) rfl<|VO.l (LO.as (.r rfl)) rfl<|VO.nil ?_)
        refine VE.thenN fun a w ha hw => ⟨i + 1, ⟨by omega, step_rows hz hx hy (Classical.not_not.1 h26)⟩, (by omega), ha.sub (.cons rfl (.cons rfl (.cons rfl .nil))), hw⟩
    ·
      refine VC.exit (VE.thenX (VE.thenX (VE.inX (VE.seqN ?_))))
      refine VC.seq ?_
      refine VC.reg (VO.l (LO.as (.r rfl)) rfl<|VO.nil ?_)
      refine VE.seqN ?_
      refine VC.ret (VE.res (vs := [_]) rfl ⟨rfl, trivial⟩ (fun w hw => ?_))
      refine ⟨?_, hw.nil⟩
      refine congrArg (fun z => Ending.returned (.bool z)) ?_
      first | exact (decide_eq_false (len_ne2 h10)).symm | exact (decide_eq_false (rows_ne hx hy h26)).symm | exact (decide_eq_true (rows_eq (by omega) (fun k x y hk => hz k x y (by omega)))).symm

end Go.Proofs.Ytgemekpofpoopaa

namespace Go.Proofs.Ytgemekpofpoopaa
open Go.SL Go.Proofs Go.Cast Go.Cell
set_option linter.unusedVariables false
abbrev xG : Grid := rowG 8
def xF : List Span := [⟨5,5⟩, ⟨2,5⟩, ⟨5,5⟩, ⟨0,1⟩]
def xH : List Span := [⟨0,1⟩, ⟨5,5⟩, ⟨2,5⟩, ⟨5,5⟩]
theorem xF_open : openE xG xF 5 = 0 := by kernel_rfl
theorem xAreas : areasM (gW xG) (gH xG) xF 5 = [⟨[0,1,2], [[0], [2]], ⟨0,2,0,0,10,15⟩⟩] := by kernel_rfl
theorem xJ2 : joinV (gW xG) (gH xG) xF 5 0 2 = 3 := by kernel_rfl
theorem xJ3 : joinV (gW xG) (gH xG) xF 5 0 3 = 2 := by kernel_rfl
theorem xP2 : pixE xG xF 5 0 2 = 0 := by kernel_rfl
theorem xP3 : pixE xG xF 5 0 3 = 0 := by kernel_rfl
theorem xTreeE : treeE xG xF [1,5] = 0 := by kernel_rfl
theorem xTree : treeM (gW xG) (gH xG) xF [1,5] = [[-1], [0]] := by kernel_rfl
theorem xPair : pairE xG xF xG xH 5 ((1 : Nat) : Int) = 0 := by kernel_rfl
theorem xMoveE : moveE xG xF xG xH 5 ((1 : Nat) : Int) ((0 : Nat) : Int) ((0 : Nat) : Int) = 0 := by kernel_rfl
theorem xMoves : movesP xG xF xH 5 0 0 1 = [⟨-1, -1⟩, ⟨0, -1⟩, ⟨1, -1⟩, ⟨-1,0⟩, ⟨1,0⟩, ⟨-1,1⟩, ⟨0,1⟩, ⟨1,1⟩] := by kernel_rfl
theorem xNf : nP xG xF 5 = 1 := by kernel_rfl
theorem xNh : nP xG xH 5 = 1 := by kernel_rfl
theorem xOf : ofL (gW xG) (gH xG) (mayB xF 5) = [0,0,0, -1] := by kernel_rfl
theorem xOh : ofL (gW xG) (gH xG) (mayB xH 5) = [-1,0,0,0] := by kernel_rfl
theorem row_list2 {α : Type} {rs : List (RowA α)} {a b : List α} (h : rs.map RowA.l = [a, b]) : ∃ p c q d, rs = [⟨p, c, a⟩, ⟨q, d, b⟩] := by
  match rs, h with
  | [⟨p, c, l⟩, ⟨q, d, m⟩], h => simp at h; obtain ⟨rfl, rfl⟩ := h; exact ⟨p, c, q, d, rfl⟩
theorem exAr {W H : Nat} {vs : List Span} {lv : Int} {y : ArY} {px k1 k2 : List Nat} {s : ArS} (h : ArP W H vs lv y) (e : areasM W H vs lv = [⟨px, [k1, k2], s⟩]) : ∃ pp pc kp kc p1 c1 p2 c2, y.l = [⟨⟨pp, pc, px⟩, kp, kc, [⟨p1, c1, k1⟩, ⟨p2, c2, k2⟩], s⟩] := by
  have h1 := h.m
  rw [e] at h1
  rcases hq : y.l with _ | ⟨a,_ | ⟨b, r⟩⟩
  · rw [hq] at h1; cases h1
  · rw [hq] at h1
    have h2 := (List.cons.inj h1).1
    obtain ⟨⟨pp, pc, l⟩, kp, kc, kr, s'⟩ := a
    have e1 : l = px := congrArg AreaM.px h2
    have e2 : kr.map RowA.l = [k1, k2] := congrArg AreaM.ks h2
    have e3 : s' = s := congrArg AreaM.s h2
    subst e1; subst e3
    obtain ⟨p1, c1, p2, c2, rfl⟩ := row_list2 e2
    exact ⟨pp, pc, kp, kc, p1, c1, p2, c2, rfl⟩
  · rw [hq] at h1; cases (List.cons.inj h1).2
theorem gp_low {W H : Nat} {M : Nat → Bool} {C : Nat → Nat} {p : Nat} (φ : Nat → Nat) (hp : φ p ≤ C p) (h : ∀ q r, r ∈ nb W H q → M r = true → φ r ≤ φ q + C r) {c q : Nat} (hg : Gp W H M C p c q) : φ q ≤ c := by
  induction hg with
  | start _ => exact hp
  | step _ hn hm ih => have := h _ _ hn hm; omega
theorem xM : ∀ r, mayB xF 5 r = true → r < 3 := fun r h => by
  rcases Nat.lt_or_ge r 4 with q | q
  · match r, q with
    | 0,_ => decide
    | 1,_ => decide
    | 2,_ => decide
    | 3,_ => exact absurd h (by decide)
  · exfalso
    unfold mayB at h
    rw [List.getD_eq_getElem?_getD, List.getElem?_eq_none (by exact q)] at h
    exact absurd h (by decide)
theorem xGap2 {z : Int} (h : IsGap (gW xG) (gH xG) (mayB xF 5) (cst xF 5) 0 2 z) : z = 1 := by
  have g0 : Gp (gW xG) (gH xG) (mayB xF 5) (cst xF 5) 0 0 0 := Gp.start (C := cst xF 5) (by decide)
  have g1 : Gp (gW xG) (gH xG) (mayB xF 5) (cst xF 5) 0 1 1 := Gp.step (C := cst xF 5) (r := 1) g0 (by decide) (by decide)
  have hg : Gp (gW xG) (gH xG) (mayB xF 5) (cst xF 5) 0 1 2 := Gp.step (C := cst xF 5) (r := 2) g1 (by decide) (by decide)
  have hlow : ∀ m, Gp (gW xG) (gH xG) (mayB xF 5) (cst xF 5) 0 m 2 → 1 ≤ m := fun m hm => by
    refine gp_low (fun q => if q = 0 then 0 else 1) (by decide) (fun q r hn hr => ?_) hm
    have hr3 := xM r hr
    match r, hr3 with
    | 0,_ => exact Nat.zero_le _
    | 1,_ => show 1 ≤ _ + 1; omega
    | 2,_ =>
      have : q ≠ 0 := fun e => by subst e; exact absurd hn (by decide)
      rw [if_neg this]; decide
  rcases h with ⟨_, h⟩ | ⟨n, rfl, h1, h2⟩
  · exact absurd hg (h 1)
  · have := h2 1 hg
    have := hlow n h1
    omega
theorem xGap3 {z : Int} (h : IsGap (gW xG) (gH xG) (mayB xF 5) (cst xF 5) 0 3 z) : z = -1 := by
  rcases h with ⟨h,_⟩ | ⟨n,_, h1,_⟩
  · exact h
  · exact absurd (xM 3 h1.may) (by decide)
theorem xEv {l : List EvM} (h : EvP (gW xG) (gH xG) 1 (ofL (gW xG) (gH xG) (mayB xF 5)) (ofL (gW xG) (gH xG) (mayB xH 5)) 1 1 l) : l = [⟨4, [0], [0]⟩] := by
  obtain ⟨ld, h1, rfl⟩ := h.ex
  have hk : ld (ndx 1 0) = ld (ndx 1 1) := (h1 _ _).2 (.base ⟨0,0,1, ⟨by decide, by decide, by decide, by rw [xOf]; decide, by rw [xOh]; decide⟩⟩)
  have := evsM_congr (κ := fun t => ld (ndx 1 t)) (κ' := fun _ : Nat => (0 : Nat)) (n := 1) (m := 1) (fun i j hi hj => by
    have hi : i = 0 ∨ i = 1 := by omega
    have hj : j = 0 ∨ j = 1 := by omega
    rcases hi with rfl | rfl <;> rcases hj with rfl | rfl <;> simp [hk])
  rw [this]; rfl
theorem book0 {m : Nat} {tk : List TkM} {of : Nat × Nat → Option Nat} (h : (tk, of) = birthsM 0 [] ([], fun _ => none) m) : TInv [[]] [m] tk of := by
  have z := TInvQ.births (TInvQ.first (m := m) TInv.zero) (N := 0) rfl (fun z => absurd z (Nat.lt_irrefl _)) m (Nat.le_refl _)
  have z : TInvQ [[]] [m] m (birthsM 0 [] ([], fun _ => none) m).1 (birthsM 0 [] ([], fun _ => none) m).2 := z
  rw [← h] at z
  exact TInvQ.done (N := 0) z rfl
theorem exB0 {tk : List TkM} {of : Nat × Nat → Option Nat} (h : (tk, of) = birthsM 0 [] ([], fun _ => none) 1) : tk = [⟨1,0, [0], 0, [], []⟩] ∧ of = updG (fun _ => none) (0,0) 0 := by
  have e : birthsM 0 [] (([] : List TkM), fun _ => none) 1 = ([⟨1,0, [0], 0, [], []⟩], updG (fun _ => none) (0,0) 0) := rfl
  rw [e] at h
  exact ⟨congrArg Prod.fst h, congrArg Prod.snd h⟩
theorem exB1 {tk tk0 : List TkM} {of of0 : Nat × Nat → Option Nat} (h0 : (tk0, of0) = birthsM 0 [] ([], fun _ => none) 1) (h : (tk, of) = birthsM (0 + 1) [⟨4, [0], [0]⟩] (tk0.map (chgB (0 + 1) [⟨4, [0], [0]⟩]), ofC 0 [⟨4, [0], [0]⟩] of0) 1) :
    tk = [⟨1,0, [0,0], 0, [], []⟩] ∧ ∀ a, a ∈ [((0 : Int), (0 : Int)), (1,0)] ↔ (ofI of a).isSome = true := by
  obtain ⟨rfl, rfl⟩ := exB0 h0
  have e : birthsM (0 + 1) [⟨4, [0], [0]⟩] (([⟨1,0, [0], 0, [], []⟩] : List TkM).map (chgB (0 + 1) [⟨4, [0], [0]⟩]), ofC 0 [⟨4, [0], [0]⟩] (updG (fun _ => none) (0,0) 0)) 1 = ([⟨1,0, [0,0], 0, [], []⟩], ofC 0 [⟨4, [0], [0]⟩] (updG (fun _ => none) (0,0) 0)) := rfl
  rw [e] at h
  have h1 : tk = _ := congrArg Prod.fst h
  have h2 : of = _ := congrArg Prod.snd h
  refine ⟨h1, fun a => ?_⟩
  rw [h2]
  obtain ⟨a, b⟩ := a
  constructor
  · intro hm
    rcases List.mem_cons.1 hm with q | q
    · cases q; rfl
    · have q := List.mem_singleton.1 q; cases q; rfl
  · intro hs
    unfold ofI at hs
    split at hs
    · rename_i q
      have q : 0 ≤ a ∧ 0 ≤ b := q
      have hs : (ofC 0 [⟨4, [0], [0]⟩] (updG (fun _ => none) (0,0) 0) (a.toNat, b.toNat)).isSome = true := hs
      unfold ofC at hs
      split at hs
      · rename_i y
        have y : a.toNat = 1 := y
        by_cases z : b.toNat = 0
        · have e1 : a = 1 := by omega
          have e2 : b = 0 := by omega
          rw [e1, e2]; simp
        · simp [z] at hs
      · rename_i y
        unfold updG at hs
        split at hs
        · rename_i z
          have z1 : a.toNat = 0 := congrArg Prod.fst z
          have z2 : b.toNat = 0 := congrArg Prod.snd z
          have e1 : a = 0 := by omega
          have e2 : b = 0 := by omega
          rw [e1, e2]; simp
        · simp at hs
    · simp at hs
theorem tk_list {tk : List TkR} {m : TkM} (h : tk.map TkR.m = [m]) : ∃ t, tk = [t] ∧ t.m = m := by
  rcases tk with _ | ⟨a,_ | ⟨b, r⟩⟩
  · cases h
  · exact ⟨a, rfl, (List.cons.inj h).1⟩
  · cases (List.cons.inj h).2
theorem ints_lit {w : World} {b : Nat} (l : List Int) (h : Cells w ⟨b, 0, none⟩ (l.map fun n => Value.int .i64 n)) : Ints w (some ⟨b, 0, none⟩) l := by
  refine RO.ofC (f := iC) (z := 1) (fun _ => rfl) ?_
  have e : (l.map iC).flatten = l.map fun n => Value.int .i64 n := by
    clear h
    induction l with
    | nil => rfl
    | cons a l ih => rw [List.map_cons, List.flatten_cons, ih]; rfl
  rw [e]; exact h
end Go.Proofs.Ytgemekpofpoopaa
