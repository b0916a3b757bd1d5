/-
  CellHistories, walked.
  Readings of maps by numbers.
  Readings of lists of lists of numbers.
-/
import Derived.Test.YtgemekpofpoopaaKHIS07

set_option linter.unusedSimpArgs false
namespace Go.Proofs.Ytgemekpofpoopaa
open Go.SL Go.Proofs Go.Cast Go.Cell
set_option linter.unusedVariables false

theorem AR110 : Arr2 Try.prog 110 3 := ⟨Try.underlying110, O3, Option.isSome_iff_exists.1 (by kernel_rfl), by kernel_rfl, by kernel_rfl, Try.underlying3⟩
theorem M107 : IsMapG Try.prog 107 pairI Value.bool false := ⟨110,4, Try.underlying107, key_arr2 AR110, Z4⟩
theorem S97 : IsSlice Try.prog 97 61 := Try.underlying97
theorem N61 : (Try.prog.info? 61).map (·.size) = some 1 := by kernel_rfl
theorem F109_1 : FieldAt Try.prog 109 1 1 := ⟨_,_, Try.underlying109, rfl, rfl, 0, by kernel_rfl⟩
theorem B110 : BuildsA Try.prog 110 [(0,1), (1,1)] [.int .i64 0, .int .i64 0] := BuildsA.mk (z := 1) (n := 2) (fun _ => by kernel_rfl) rfl
theorem Z110 : ZeroOf Try.prog 110 (.agg #[.int .i64 0, .int .i64 0]) := by unfold ZeroOf; kernel_rfl
theorem N110 : (Try.prog.info? 110).map (·.size) = some 2 := by kernel_rfl
theorem A110 : IsAgg Try.prog 110 2 := ⟨⟨_, Try.underlying110, rfl⟩, by kernel_rfl⟩


theorem ro_n (w : World) : RO 1 uC w none [] := ⟨by simp, fun _ => rfl, fun h => absurd rfl h⟩
theorem grid0 {g : Grid} (h : gridOk g) : gridE g = 0 := if_pos h
theorem book_ok {G : Grid} {vs : List Span} {lv : Int} {r : Nat} (h : FldOk G vs) (h1 : 1 ≤ lv) (h2 : lv ≤ 1073741824) (hr : r ≤ 8) : bookE G lv (r : Int) = 0 := bE3 (fun z => z (grid0 h.grid)) (by omega)
theorem book_start {β : Bs} {L : List Res} {w : World} {b : Nat} {h : BkH} (hw : St β (blk b (.cells (bkC h (-1) ⟨none, 0,0⟩ none 0 0 (fun _ => 0)).toArray 119) :: mapR plV niV h.bm (ofI fun _ => none) :: L) w) : St β (bagD ((bk0 h).R b h) :: L) w := by
  have h1 := St.bagDNil (St.bagDNil ((St.bagDNil (hw.ownNil 109 6)).ownNil 154 7))
  refine St.bagD (Rs := (bk0 h).R b h) (L := L) ?_
  show St β ([blk b (.cells (bkC h (-1) ⟨none, 0,0⟩ none 0 0 (fun _ => 0)).toArray 119), own 109 6 none 0 [], bagD [], mapR plV niV h.bm (ofI fun _ => none), own 154 7 none 0 [], bagD [], bagD []] ++ L) w
  exact selKT (L := [_,_,_,_,_,_,_]) (L1 := [_,_,_,_,_,_,_]) (L2 := []) (X := L) [5,4,3,6,2,1,0] rfl rfl rfl _ h1
def fS (l : List EvR) (k : Nat) : Nat := ((l.take k).map fun e => e.f.length).sum
def tS (l : List EvR) (k : Nat) : Nat := ((l.take k).map fun e => e.t.length).sum
def bgS (l : List EvR) (k : Nat) : Nat := ((l.take k).map fun e => if e.kd = 4 then 0 else e.t.length).sum
theorem fS_succ {l : List EvR} {k : Nat} {e : EvR} (h : l[k]? = some e) : fS l (k + 1) = fS l k + e.f.length := by unfold fS; rw [take_app1 h, List.map_append, List.sum_append]; simp
theorem tS_succ {l : List EvR} {k : Nat} {e : EvR} (h : l[k]? = some e) : tS l (k + 1) = tS l k + e.t.length := by unfold tS; rw [take_app1 h, List.map_append, List.sum_append]; simp
theorem bgS_succ {l : List EvR} {k : Nat} {e : EvR} (h : l[k]? = some e) : bgS l (k + 1) = bgS l k + if e.kd = 4 then 0 else e.t.length := by unfold bgS; rw [take_app1 h, List.map_append, List.sum_append]; simp
theorem fS_all {l : List EvR} {n m : Nat} (h : GoodEv n m (l.map EvR.m)) : fS l l.length = n := by
  have := h.sumF
  unfold fS; rw [List.take_length]
  rw [List.map_map] at this
  exact this
theorem tS_all {l : List EvR} {n m : Nat} (h : GoodEv n m (l.map EvR.m)) : tS l l.length = m := by
  have := h.sumT
  unfold tS; rw [List.take_length]
  rw [List.map_map] at this
  exact this
theorem bgS_all {l : List EvR} : bgS l l.length = bgnE (l.map EvR.m) := by
  unfold bgS bgnE; rw [List.take_length, List.map_map]; rfl
theorem sum_mono {f : EvR → Nat} {l : List EvR} {k : Nat} : ((l.take k).map f).sum ≤ (l.map f).sum := by
  have e : l.map f = (l.take k).map f ++ (l.drop k).map f := by rw [← List.map_append, List.take_append_drop]
  rw [e, List.sum_append]; omega
theorem sums_le {l : List EvR} {n m k : Nat} {e : EvR} (h : GoodEv n m (l.map EvR.m)) (hk : l[k]? = some e) : fS l k + e.f.length ≤ n ∧ tS l k + e.t.length ≤ m ∧ bgS l k ≤ tS l k := by
  have h1 := fS_succ hk
  have h2 := tS_succ hk
  have h3 : fS l (k + 1) ≤ n := by rw [← fS_all h]; unfold fS; rw [List.take_length]; exact sum_mono
  have h4 : tS l (k + 1) ≤ m := by rw [← tS_all h]; unfold tS; rw [List.take_length]; exact sum_mono
  refine ⟨by omega, by omega, ?_⟩
  unfold bgS tS
  generalize l.take k = q
  induction q with
  | nil => simp
  | cons a q ih => rw [List.map_cons, List.map_cons, List.sum_cons, List.sum_cons]; split <;> omega
theorem ab_len {G : Grid} {vs : List Span} {lv : Int} {y : AbY} (h : AbP G vs lv y) (ho : openE G vs lv = 0) : y.l.length = nP G vs lv := by
  have := congrArg List.length h.m
  rw [if_pos ho, List.length_map] at this
  rw [this]; unfold areasM nP; rw [List.length_map]
structure TrI (w : World) (p : Option Addr) (l : List TkR) : Prop where
  tk : RO 6 TkR.cells w p l
  ti : ∀ t, t ∈ l → TkI w t
theorem TrI.keep {w0 : World} {p : Option Addr} {tk : List TkR} (k : TrI w0 p tk) {L : List Res} : ∀ w, St (bs w0) L w → TrI w p tk := fun w hw => ⟨k.tk.keep w hw, fun t ht => (k.ti t ht).keep w hw⟩
theorem tri_inv {w : World} {y : TrkY} (k : ∀ r, r ∈ y.R → r.inv w) : TrI w y.p y.tk where
  tk := own_inv_ro (k (own 109 6 y.p y.c (y.tk.map TkR.cells)) (by unfold TrkY.R; simp))
  ti := fun t ht => ⟨own_inv_ro ((k (bagD (y.tk.map TkR.aR)) (by unfold TrkY.R; simp)).1 _ (List.mem_map_of_mem (f := TkR.aR) ht)), own_inv_ro ((k (bagD (y.tk.map TkR.pR)) (by unfold TrkY.R; simp)).1 _ (List.mem_map_of_mem (f := TkR.pR) ht)), own_inv_ro ((k (bagD (y.tk.map TkR.cR)) (by unfold TrkY.R; simp)).1 _ (List.mem_map_of_mem (f := TkR.cR) ht))⟩
theorem tk_bd {E : List (List EvM)} {Ms : List Nat} {tk : List TkM} {of : Nat × Nat → Option Nat} (h : TInv E Ms tk of) {t : TkM} {k : Nat} (ht : tk[k]? = some t) : t.ar.length ≤ Ms.length ∧ t.pa.length ≤ tk.length ∧ t.ch.length ≤ tk.length := by
  have h1 := h.pos (List.mem_of_getElem? ht)
  refine ⟨by omega, ?_, ?_⟩
  · rw [h.q.pa k t ht]; refine Nat.le_trans (List.length_filter_le _ _) (by simp)
  · rw [h.q.ch k t ht]; refine Nat.le_trans (List.length_filter_le _ _) (by simp)
theorem tk_lens {E : List (List EvM)} {Ms : List Nat} {tk : List TkR} {of : Nat × Nat → Option Nat} (h : TInv E Ms (tk.map TkR.m) of) (hN : Ms.length ≤ 48) (hl : tk.length ≤ 30000) : ∀ t, t ∈ tk → TkB t := fun t ht => by
  obtain ⟨k, hk⟩ := List.mem_iff_getElem?.1 ht
  obtain ⟨h1, h2, h3⟩ := tk_bd h (t := t.m) (k := k) (by rw [List.getElem?_map, hk]; rfl)
  rw [List.length_map] at h2 h3
  have h1 : t.ar.length ≤ Ms.length := h1
  have h2 : t.pa.length ≤ tk.length := h2
  have h3 : t.ch.length ≤ tk.length := h3
  exact ⟨by omega, by omega, by omega⟩
theorem Tracks_b (b : Nat) (h : BkH) (s : BkG) (w : World) (hb : BkI w b h s) (hI : TInv s.E s.Ms (s.tk.map TkR.m) s.of) (hN : s.Ms.length ≤ 48) (hl : s.tk.length ≤ 30000) :
  Calls Try.prog 49 #[.pointer (some ⟨b, 0, none⟩)] w fun e w' => ∃ y : TrkY, y.tk.map TkR.m = s.tk.map TkR.m ∧ e = .returned (.slice y.p y.tk.length y.c) ∧ St (bs w) [bagD y.R] w' :=
  (Tracks_ok b h s.la ⟨s.pm, s.ys.length, s.cm⟩ s.pt s.ct s.kd s.tk w hb.c hb.tk hb.ti (tk_lens hI hN hl) (by omega)).mono fun e w' ⟨y, h1, h2, h3⟩ => ⟨y, h1, h2, st_bag h3⟩
theorem sumt_succ {l : List Nat} {i : Nat} (h : i < l.length) : (l.take (i + 1)).sum = (l.take i).sum + l.getD i 0 := by
  rw [take_app1 (getNn h), List.sum_append]; simp
theorem sumt_bd {l : List Nat} (h : ∀ n, n ∈ l → n ≤ 4096) : ∀ i, (l.take i).sum ≤ 4096 * i
  | 0 => by simp
  | i + 1 => by
    have ih := sumt_bd h i
    by_cases hi : i < l.length
    · rw [sumt_succ hi]
      have := h (l.getD i 0) (List.mem_of_getElem? (getNn hi))
      omega
    · rw [List.take_of_length_le (by omega)]
      rw [List.take_of_length_le (by omega)] at ih
      omega
theorem m_at {l m : List TkR} {n : Nat} {t : TkR} (e : l.map TkR.m = m.map TkR.m) (h : l[n]? = some t) : ∃ u, m[n]? = some u ∧ u.m = t.m ∧ (m.map TkR.m)[n]? = some t.m := by
  have e2 := congrArg (fun q => q[n]?) e
  simp only [List.getElem?_map, h] at e2
  cases hu : m[n]? with
  | none => rw [hu] at e2; simp at e2
  | some u =>
    rw [hu] at e2
    have e3 : t.m = u.m := by simpa using e2
    exact ⟨u, rfl, e3.symm, by rw [List.getElem?_map, hu, e3]; rfl⟩
theorem m_of {l m : List TkR} {n : Nat} {u : TkM} (e : l.map TkR.m = m.map TkR.m) (h : (m.map TkR.m)[n]? = some u) : ∃ t, l[n]? = some t ∧ t.m = u := by
  rw [← e, List.getElem?_map] at h
  cases ht : l[n]? with
  | none => rw [ht] at h; simp at h
  | some t => rw [ht] at h; exact ⟨t, rfl, by simpa using h⟩

theorem rl_len {nx : Nat → List Nat} {n B : Nat} {l : List Nat} (h : RlP nx n l) (hx : ∀ x, Rch nx n x → x < B) (hB : B ≤ 1000000) : l.length ≤ 1000000 := by
  have := length_le_of_subset (l := l) (m := List.range B) (nodup_of_lt h.asc) (fun x hm => List.mem_range.2 (hx x ((h.mem x).1 hm)))
  rw [List.length_range] at this; omega
theorem hist_prev {h : BkH} {i : Nat} {s : BkG} {cn : List Nat} {x : Nat} (hb : BkP h i s) (hcn : cn = s.Ms) (hi : i ≠ 0) : (cn ++ [x]).getD (i - 1) 0 = nP h.g s.vP h.lv := by
  obtain ⟨n, rfl⟩ : ∃ n, i = n + 1 := ⟨i - 1, by omega⟩
  obtain ⟨_, h2, h3,_⟩ := hb.last n rfl
  rw [show n + 1 - 1 = n from rfl, getD_app1' (by rw [hcn, hb.m]; omega), hcn, h3, nP_ar h2]

set_option maxRecDepth 20000 in
set_option maxHeartbeats 64000000 in
theorem CellHistories_c (wd hgt : Nat) (ls : List (RowA Nat)) (pl : Option Addr) (cl : Nat) (mo : List Nat) (pm : Option Addr) (cm : Nat) (at_ far : Nat) (w : World) (hwd : wd ≤ 255) (hhg : hgt ≤ 255) (hls : RR 1 uC w pl ls) (h8 : ∀ r, r ∈ ls → (∀ n, n ∈ r.l → n ≤ 255) ∧ r.l.length ≤ 9223372036854775807) (hmo : RO 1 uC w pm mo) (hm8 : ∀ n, n ∈ mo → n ≤ 255) (hml : mo.length ≤ 9223372036854775807) (hat : at_ ≤ 255) (hfar : far ≤ 255) :
  Calls Try.prog 13 #[.int .u8 (wd : Int), .int .u8 (hgt : Int), .slice pl ls.length cl, .slice pm mo.length cm, .int .u8 (at_ : Int), .int .u8 (far : Int)] w fun e w' => e = .returned (.bool true) ∧ St (bs w) [] w' := by
  obtain ⟨G, hG⟩ : ∃ G : Grid, G = mapG (⟨wd, hgt, none, 0, [], none, 0, []⟩ : MapA) := ⟨_, rfl⟩
  obtain ⟨lv, hlv⟩ : ∃ lv : Int, lv = ((1 + at_ % 50 : Nat) : Int) := ⟨_, rfl⟩
  have hlv1 : 1 ≤ lv := by omega
  have hlv2 : lv ≤ 1073741824 := by omega
  have hr8 : far % 4 ≤ 8 := by omega
  refine enter (vs := [_,_,_,_,_,_]) (env := [(0,_), (1,_), (2,_), (3,_), (4,_), (5,_)]) Try.func13 rfl rfl rfl rfl ?_
  refine VC.seq ?_
  refine VC.reg (VO.l (LO.as (.r rfl)) rfl<|VO.nil ?_)
  refine VE.seqN ?_
  refine VC.seq ?_
  refine VC.seq ?_
  refine VC.reg (VO.l (LO.mv (.r rfl)) rfl<|VO.l (LO.len S97 (.r rfl) rfl) rfl<|VO.l (LO.lt (.r rfl) (.r rfl)) rfl<|VO.l (LO.mv (.r rfl)) rfl<|VO.lg rfl rfl (GD.f _) (fun hg => LO.mv (.r rfl)) rfl<|VO.lg rfl rfl (GD.f _) (fun hg => LO.len S97 (.g hg rfl) rfl) rfl<|VO.lg rfl rfl (GD.f _) (fun hg => LO.gt (.g hg rfl) (.r rfl)) rfl<|VO.l (LO.pkO (.r rfl) (.r rfl) rfl rfl) rfl<|VO.nil ?_)
  refine VE.seqN ?_
  refine VC.cond rfl (fun h65 => ?_) (fun h65 => ?_)
  ·
    refine VC.seq ?_
    refine VC.reg (VO.l (LO.call (xs := []) (vs := []) C16 trivial (fun w2 _ => works_c w2)) rfl<|VO.l (LO.as (.r rfl)) rfl<|VO.nil ?_)
    refine VE.seqN ?_
    refine VC.ret (VE.thenR (VE.res (vs := [_]) rfl ⟨rfl, trivial⟩ (fun w hw => ?_)))
    exact ⟨rfl, hw.nil⟩
  ·
    refine VC.skip (VE.seqN ?_)
    refine VC.seq ?_
    refine VC.reg (VO.l (LO.mv (.r rfl)) rfl<|VO.l (LO.call (xs := [_]) (vs := [_]) C34 ⟨(.r rfl), trivial⟩ (fun w2 hw => level_k lv at_ w2 hat hlv)) rfl<|VO.l (LO.mv (.r rfl)) rfl<|VO.l (LO.cv ⟨_, Try.underlying5⟩ Try.underlying3 (.r rfl) (cv8 hfar)) rfl<|VO.l (LO.eqv (LO.rem (.r rfl) (.r rfl) (by omega)) (congrArg (Value.int .i64) (mod_i (m := 4)))) rfl<|VO.l (LO.as (.r rfl)) rfl<|VO.l (LO.as (.r rfl)) rfl<|VO.nil ?_)
    refine VE.seqN ?_
    refine VC.seq ?_
    refine VC.reg (VO.l (LO.mv (.r rfl)) rfl<|VO.l (LO.mv (.r rfl)) rfl<|VO.l (LO.bd (ps := [(_,_), (_,_)]) (vs := [(_,_), (_,_)]) (C := [_,_,_,_]) B63  ⟨(.r rfl), (.r rfl), trivial⟩ rfl ⟨_, [_], [_,_,_,_], rfl, rfl, rfl, rfl, ⟨_, [_], [_,_,_,_], rfl, rfl, rfl, rfl, rfl⟩⟩) rfl<|VO.h rfl<|HO.callx (xs := [_]) (vs := [_]) C33 ⟨(.r rfl), trivial⟩ (fun w2 hw => field_k G (⟨wd, hgt, none, 0, [], none, 0, []⟩ : MapA) w2 ⟨ro_n w2, ro_n w2⟩ ⟨hwd, hhg, by simp, by simp, by simp, by simp⟩ hG) fun y0 hy0 => VO.h rfl<|HO.lo (LO.fd (vs := [_,_,_,_,_]) Try.underlying26 rfl rfl A23 (.r rfl) rfl)<|VO.l (LO.mv (.r rfl)) rfl<|VO.l (LO.mv (.r rfl)) rfl<|VO.h rfl<|HO.callx (xs := [_,_,_]) (vs := [_,_,_]) C47 ⟨(.r rfl), (.r rfl), (.r rfl), trivial⟩ (fun w2 hw => NewBook_ok G lv ((far % 4 : Nat) : Int) w2 (book_ok hy0 hlv1 hlv2 hr8)) fun yb _ => VO.h rfl<|HO.lo (LO.mv (.r rfl))<|VO.h rfl<|HO.lo (LO.ex (.r rfl) rfl)<|VO.h rfl<|HO.lo (LO.ex (.r rfl) rfl)<|VO.h rfl<|HO.lo (LO.as (.r rfl))<|VO.h rfl<|HO.lo (LO.as (.r rfl))<|VO.nil ?_)
    refine VE.seqN ?_
    refine VC.seq ?_
    refine VC.seq ?_
    refine VC.reg (VO.l (LO.mv (.r rfl)) rfl<|VO.l (LO.ne (.r rfl) (.r rfl)) rfl<|VO.nil ?_)
    refine VE.seqN ?_
    refine VC.cond rfl (fun h84 => ?_) (fun h84 => ?_)
    ·
      (exfalso; exact h84 rfl)
    ·
      refine VC.skip (VE.seqN ?_)
      refine VC.seq ?_
      refine VC.reg (VO.l (LO.as (.r rfl)) rfl<|VO.nil ?_)
      refine VE.seqN ?_
      refine VC.seq ?_
      refine VC.reg (VO.l (LO.as (.r rfl)) rfl<|VO.l (LO.as (.r rfl)) rfl<|VO.l (LO.as (.r rfl)) rfl<|VO.nil ?_)
      refine VE.seqN ?_
      refine VC.seq ?_
      refine VC.reg (VO.h rfl<|HO.alloc (C := #[_,_,_,_,_,_]) Z26 rfl fun b4 => VO.nil ?_)
      refine VE.seqN ?_
      refine VC.seq ?_
      refine VC.seq ?_
      refine VC.reg (VO.l (LO.mv (.r rfl)) rfl<|VO.l (LO.len S97 (.r rfl) rfl) rfl<|VO.l (LO.mv (.r rfl)) rfl<|VO.nil ?_)
      refine VE.seqN ?_
      refine VC.block ?_
      refine VC.res (L' := bagD ((bk0 (⟨G, lv, ((far % 4 : Nat) : Int), yb.2⟩ : BkH)).R yb.1 (⟨G, lv, ((far % 4 : Nat) : Int), yb.2⟩ : BkH)) :: [_,_]) (fun w hw => book_start (selK (L1 := [_,_,_,_]) [1,2,0,3] rfl rfl w hw)) ?_
      refine VC.perm [1,0,2] rfl ?_
      refine VC.loopK (α := Nat × BkG × (List Nat) × (Option Addr) × Nat × Grid × (Option Addr) × Nat) 2 (fun gx => [(17, .slice gx.2.2.2.1 gx.2.2.1.length gx.2.2.2.2.1), (18, .int .i64 (gx.2.1.tk.length : Int)), (87, .int .i64 (gx.1 : Nat))]) [(0,_), (1,_), (2,_), (3,_), (13,_), (14,_), (15,_), (21,_), (85,_), (86,_)] (fun gx => [own 3 1 gx.2.2.2.1 gx.2.2.2.2.1 (gx.2.2.1.map nC), blk b4 (.cells #[.int .i64 gx.2.2.2.2.2.1.x, .int .i64 gx.2.2.2.2.2.1.y, .int .i64 gx.2.2.2.2.2.1.size, .int .i64 gx.2.2.2.2.2.1.wide, .int .i64 gx.2.2.2.2.2.1.high, .slice gx.2.2.2.2.2.2.1 gx.2.1.vP.length gx.2.2.2.2.2.2.2] 26), bagD (gx.2.1.R yb.1 (⟨G, lv, ((far % 4 : Nat) : Int), yb.2⟩ : BkH)), own 71 2 gx.2.2.2.2.2.2.1 gx.2.2.2.2.2.2.2 (gx.2.1.vP.map Span.cells)]) (fun gx => gx.1 ≤ ls.length ∧ BkP (⟨G, lv, ((far % 4 : Nat) : Int), yb.2⟩ : BkH) gx.1 gx.2.1 ∧ gx.2.2.1 = gx.2.1.Ms ∧ (0 < gx.1 → gx.2.2.2.2.2.1 = G ∧ FldOk G gx.2.1.vP)) (fun gx => ls.length - gx.1) (0, (bk0 (⟨G, lv, ((far % 4 : Nat) : Int), yb.2⟩ : BkH)), [], none, 0, ⟨0,0,0,0,0⟩, none, 0) (by exact ⟨Nat.zero_le _, BkP.zero, rfl, fun z => absurd z (Nat.lt_irrefl 0)⟩) (.cons rfl (.cons rfl (.cons rfl (.cons rfl (.cons rfl (.cons rfl (.cons rfl (.cons rfl (.cons rfl (.cons rfl (.cons rfl (.cons rfl (.cons rfl .nil))))))))))))) (fun _ h => (((h.ownNil 71 2).ownNil 3 1)).sel [0,2,3,1,4] rfl) ?_
      rintro ⟨i, s, cn, pc, cc, gB, pB, cB⟩ ⟨hi, hbk, hcn, hpos⟩
      show VC _ _ _ _ _ ([(17, .slice pc cn.length cc), (18, .int .i64 (s.tk.length : Int)), (87, .int .i64 (i : Nat))] ++ _) ([own 3 1 pc cc (cn.map nC), blk b4 (.cells #[.int .i64 gB.x, .int .i64 gB.y, .int .i64 gB.size, .int .i64 gB.wide, .int .i64 gB.high, .slice pB s.vP.length cB] 26), bagD (s.R yb.1 (⟨G, lv, ((far % 4 : Nat) : Int), yb.2⟩ : BkH)), own 71 2 pB cB (s.vP.map Span.cells)] ++ _) _ _
      dsimp only at hi hbk hcn hpos
      have hcnl : cn.length = i := by rw [hcn, hbk.m]
      have hstk := hbk.tk
      refine VC.seq ?_
      refine VC.reg (VO.l (LO.lt (.r rfl) (.r rfl)) rfl<|VO.nil ?_)
      refine VE.seqN ?_
      refine VC.seq ?_
      refine VC.cond rfl (fun h88 => ?_) (fun h88 => ?_)
      ·
        obtain ⟨r, hri⟩ := get_ex (l := ls) (n := i) (by omega)
        have hrm := List.mem_of_getElem? hri
        refine VC.skip (VE.seqN ?_)
        refine VC.seq ?_
        refine VC.block ?_
        refine VC.seq ?_
        refine VC.reg (VO.l (LO.mv (.r rfl)) rfl<|VO.l (LO.ixs S97 N61 hls.1.sm (.r rfl) (.r rfl) rfl (by omega)) rfl<|VO.l (LO.ld O61 (.r rfl) (fun w hw => cells_part (off := 0) ((fun w3 h3 => RR.cell (RR.keep hls w3 h3) hri) w hw) ⟨_, rfl⟩)) rfl<|VO.l (LO.as (.r rfl)) rfl<|VO.l (LO.as (.r rfl)) rfl<|VO.nil ?_)
        refine VE.seqN ?_
        refine VC.seq ?_
        refine VC.reg (VO.l (LO.mv (.r rfl)) rfl<|VO.l (LO.mv (.r rfl)) rfl<|VO.l (LO.mv (.r rfl)) rfl<|VO.l (LO.mv (.r rfl)) rfl<|VO.l (LO.bd (ps := [(_,_), (_,_), (_,_), (_,_)]) (vs := [(_,_), (_,_), (_,_), (_,_)]) (C := [_,_,_,_]) B63  ⟨(.r rfl), (.r rfl), (.r rfl), (.r rfl), trivial⟩ rfl ⟨_, [_], [_,_,_,_], rfl, rfl, rfl, rfl, ⟨_, [_], [_,_,_,_], rfl, rfl, rfl, rfl, ⟨_, [_], [_,_,_,_], rfl, rfl, rfl, rfl, ⟨_, [_], [_,_,_,_], rfl, rfl, rfl, rfl, rfl⟩⟩⟩⟩) rfl<|VO.h rfl<|HO.callx (xs := [_]) (vs := [_]) C33 ⟨(.r rfl), trivial⟩ (fun w2 hw => field_k G (⟨wd, hgt, r.p, r.c, r.l, pm, cm, mo⟩ : MapA) w2 ⟨(RR.row hls hri).keep w2 hw, hmo.keep w2 hw⟩ ⟨hwd, hhg, (h8 r hrm).1, hm8, (h8 r hrm).2, hml⟩ hG) fun y hyF => VO.h rfl<|HO.alloc (C := #[_,_,_,_,_,_]) Z26 rfl fun b9 => VO.h0<|HO.st 0 (vs := [_,_,_,_,_,_]) (C' := [_,_,_,_,_,_]) (L' := [_,_,_,_,_,_,_]) N26 rfl rfl rfl rfl rfl rfl rfl rfl<|VO.nil ?_)
        refine VE.seqN ?_
        refine VC.seq ?_
        refine VC.reg (VO.l (LO.mv (.r rfl)) rfl<|VO.l (LO.mv (.r rfl)) rfl<|VO.l (LO.mul (.r rfl) (.r rfl) (wi (by omega) (by omega))) rfl<|VO.l (LO.lda (vs := [_,_,_,_,_,_]) A26 (.r rfl) (fun _ hw => cells_at hw 0 rfl ⟨_, rfl⟩) rfl) rfl<|VO.h rfl<|HO.callP (first := []) (cap := []) (xs := [_,_,_]) (vs := [_,_,_]) [_] [_,_,_,_,_,_] (selK (L1 := [_] ++ [_,_,_,_,_,_]) [4,0,1,2,3,5,6] rfl rfl) (.r rfl) C48 ⟨(.r rfl), (.r rfl), (.r rfl), trivial⟩ (fun w2 hw hh => Add_g yb.1 (⟨G, lv, ((far % 4 : Nat) : Int), yb.2⟩ : BkH) s i (far % 4) y.v y.p y.c w2 hh (fun hs => RO.of_own (St.rightOf (St.fz (R := [bagD (s.R yb.1 (⟨G, lv, ((far % 4 : Nat) : Int), yb.2⟩ : BkH))]) (rest := [_,_,_,_,_,_]) (selK (L1 := [_,_,_,_,_,_,_]) [4,0,1,2,3,5,6] rfl rfl _ hw) hs)) 1 rfl) hbk hyF ⟨hlv1, hlv2⟩ rfl hr8 (by omega)) fun an han => VO.h rfl<|HO.lo (LO.mv (.r rfl))<|VO.h rfl<|HO.lo (LO.ex (.r rfl) rfl)<|VO.h rfl<|HO.lo (LO.ex (.r rfl) rfl)<|VO.h rfl<|HO.lo (LO.as (.r rfl))<|VO.h rfl<|HO.lo (LO.as (.r rfl))<|VO.nil ?_)
        refine VE.seqN ?_
        refine VC.seq ?_
        refine VC.reg (VO.l (LO.lda (vs := [_,_,_,_,_,_]) A26 (.r rfl) (fun _ hw => cells_at hw 2 rfl ⟨_, rfl⟩) rfl) rfl<|VO.l (LO.mv (.r rfl)) rfl<|VO.h rfl<|HO.callx (xs := [_,_]) (vs := [_,_]) C17 ⟨(.r rfl), (.r rfl), trivial⟩ (fun w2 hw => Areas_b G y.v y.p y.c lv w2 (RO.of_own hw 3 rfl)) fun ar har => VO.h rfl<|HO.lo (LO.mv (.r rfl))<|VO.h rfl<|HO.lo (LO.ex (.r rfl) rfl)<|VO.h rfl<|HO.lo (LO.ex (.r rfl) rfl)<|VO.h rfl<|HO.lo (LO.as (.r rfl))<|VO.h rfl<|HO.lo (LO.as (.r rfl))<|VO.nil ?_)
        refine VE.seqN ?_
        refine VC.seq ?_
        refine VC.seq ?_
        refine VC.reg (VO.l (LO.mv (.r rfl)) rfl<|VO.l (LO.ne (.r rfl) (.r rfl)) rfl<|VO.l (LO.mv (.r rfl)) rfl<|VO.lg rfl rfl (GD.f _) (fun hg => LO.mv (.r rfl)) rfl<|VO.lg rfl rfl (GD.f _) (fun hg => LO.ne (.g hg rfl) (.r rfl)) rfl<|VO.l (LO.pkO (.r rfl) (.r rfl) rfl rfl) rfl<|VO.nil ?_)
        refine VE.seqN ?_
        refine VC.cond rfl (fun h117 => ?_) (fun h117 => ?_)
        ·
          (exfalso; (rcases h117 with z | z; all_goals first | exact z rfl | exact z (open_zero hyF hlv1 hlv2)))
        ·
          have harl := ab_len har (open_zero hyF hlv1 hlv2)
          have hnPle : nP G y.v lv ≤ 4096 := nP_le (area_le hyF.grid)
          refine VC.skip (VE.seqN ?_)
          refine VC.seq ?_
          refine VC.reg (VO.l (LO.mv (.r rfl)) rfl<|VO.l (LO.mv (.r rfl)) rfl<|VO.l (LO.len S29 (.r rfl) rfl) rfl<|VO.h rfl<|HO.bs (ps := [(_,_)]) (vs := [(_,_)]) (Z := [_]) (C := [_]) S40 Z3 N3 ⟨(.r rfl), trivial⟩ rfl rfl rfl rfl ⟨_, [_], [_], rfl, rfl, rfl, rfl, rfl⟩ fun b14 => VO.h rfl<|HO.appT (ar.l.length) 6 0 (fun R => [_,_,_,_,_,_, R,_,_,_]) S40 S40 I3 (.r rfl) (.r rfl) rfl rfl rfl rfl rfl rfl rfl (fun _ => rfl) rfl (by omega) fun p4 c4 => VO.h rfl<|HO.lo (LO.as (.r rfl))<|VO.nil ?_)
          refine VE.seqN ?_
          refine VC.seq ?_
          refine VC.seq ?_
          refine VC.reg (VO.l (LO.mv (.r rfl)) rfl<|VO.l (LO.eq (.r rfl) (.r rfl)) rfl<|VO.nil ?_)
          refine VE.seqN ?_
          refine VC.cond rfl (fun h124 => ?_) (fun h124 => ?_)
          ·
            have hi0 : i = 0 := by omega
            refine VC.seq ?_
            refine VC.reg (VO.l (LO.mv (.r rfl)) rfl<|VO.l (LO.len S29 (.r rfl) rfl) rfl<|VO.l (LO.as (.r rfl)) rfl<|VO.nil ?_)
            refine VE.seqN ?_
            refine VC.seq ?_
            refine VC.reg (VO.l (LO.lda (vs := [_,_,_,_,_,_]) A26 (.r rfl) (fun _ hw => cells_at hw 4 rfl ⟨_, rfl⟩) rfl) rfl<|VO.h0<|HO.st 7 (vs := [_,_,_,_,_,_]) (C' := [_,_,_,_,_,_]) (L' := [_,_,_,_,_,_,_,_,_,_]) N26 rfl rfl rfl rfl rfl rfl rfl rfl<|VO.nil ?_)
            refine VE.seqN ?_
            refine VC.exit (VE.thenX (VE.inX (VE.seqN ?_)))
            refine VC.reg (VO.l (LO.add (.r rfl) (.r rfl) (wi (by omega) (by omega))) rfl<|VO.l (LO.mv (.r rfl)) rfl<|VO.nil ?_)
            refine VE.thenN fun a w ha hw => ⟨(i + 1, an.s, (cn ++ [ar.l.length]), p4, c4, G, y.p, y.c), ⟨by dsimp only; omega, han.bk, by dsimp only; rw [han.ms, hcn, harl], fun _ => ⟨rfl, by dsimp only; rw [han.v]; exact hyF⟩⟩, (by dsimp only; omega), ha.sub (.cons rfl (.cons (congrArg (fun n : Nat => some (Value.int .i64 (n : Int))) (by have z := han.tl; rw [if_pos hi0] at z; dsimp only at z ⊢; omega)) (.cons rfl (.cons rfl (.cons rfl (.cons rfl (.cons rfl (.cons rfl (.cons rfl (.cons rfl (.cons rfl (.cons rfl (.cons rfl .nil))))))))))))), (by dsimp only; rw [han.v]; exact selK (L1 := [_,_,_,_,_]) [6,7,2,5,9] rfl rfl _ hw)⟩
          ·
            have hi0 : i ≠ 0 := by omega
            obtain ⟨hgB, hfB⟩ := hpos (by omega)
            rw [hgB]
            have hevP : EvP (gW G) (gH G) (far % 4) (ofL (gW G) (gH G) (mayB s.vP lv)) (ofL (gW G) (gH G) (mayB y.v lv)) (nP G s.vP lv) (nP G y.v lv) (an.ev.map EvR.m) := han.ev (by omega)
            have hpz := pair_zero hfB hyF hlv1 hlv2 hr8
            have hgd := hevP.good
            have hevl := hgd.lenE
            rw [List.length_map] at hevl
            have hnvP : nP G s.vP lv ≤ 4096 := nP_le (area_le hyF.grid)
            refine VC.skip (VE.seqN ?_)
            refine VC.seq ?_
            refine VC.reg (VO.l (LO.lda (vs := [_,_,_,_,_,_]) A26 (.r rfl) (fun _ hw => cells_at hw 7 rfl ⟨_, rfl⟩) rfl) rfl<|VO.l (LO.lda (vs := [_,_,_,_,_,_]) A26 (.r rfl) (fun _ hw => cells_at hw 4 rfl ⟨_, rfl⟩) rfl) rfl<|VO.l (LO.mv (.r rfl)) rfl<|VO.l (LO.mv (.r rfl)) rfl<|VO.h rfl<|HO.callx (xs := [_,_,_,_]) (vs := [_,_,_,_]) C27 ⟨(.r rfl), (.r rfl), (.r rfl), (.r rfl), trivial⟩ (fun w2 hw => Match_b G s.vP pB cB G y.v y.p y.c lv ((far % 4 : Nat) : Int) w2 (RO.of_own hw 8 rfl) (RO.of_own hw 5 rfl)) fun mt hmt => VO.h rfl<|HO.lo (LO.mv (.r rfl))<|VO.h rfl<|HO.lo (LO.ex (.r rfl) rfl)<|VO.h rfl<|HO.lo (LO.ex (.r rfl) rfl)<|VO.h rfl<|HO.lo (LO.as (.r rfl))<|VO.h rfl<|HO.lo (LO.as (.r rfl))<|VO.nil ?_)
            refine VE.seqN ?_
            refine VC.seq ?_
            refine VC.seq ?_
            refine VC.reg (VO.l (LO.mv (.r rfl)) rfl<|VO.l (LO.ne (.r rfl) (.r rfl)) rfl<|VO.l (LO.mv (.r rfl)) rfl<|VO.lg rfl rfl (GD.f _) (fun hg => LO.mv (.r rfl)) rfl<|VO.lg rfl rfl (GD.f _) (fun hg => LO.len S46 (.g hg rfl) rfl) rfl<|VO.lg rfl rfl (GD.f _) (fun hg => LO.mv (.r rfl)) rfl<|VO.lg rfl rfl (GD.f _) (fun hg => LO.len S46 (.g hg rfl) rfl) rfl<|VO.lg rfl rfl (GD.f _) (fun hg => LO.ne (.g hg rfl) (.g hg rfl)) rfl<|VO.l (LO.pkO (.r rfl) (.r rfl) rfl rfl) rfl<|VO.nil ?_)
            refine VE.seqN ?_
            refine VC.cond rfl (fun h144 => ?_) (fun h144 => ?_)
            ·
              (exfalso; (have heq : an.ev.map EvR.m = mt.l.map EvR.m := evP_uniq hevP (hmt.ok hpz); have hel := ev_len2 heq; rcases h144 with z | z; all_goals first | exact z hpz | exact z (by rw [hel])))
            ·
              have heq : an.ev.map EvR.m = mt.l.map EvR.m := evP_uniq hevP (hmt.ok hpz)
              have hel := ev_len2 heq
              refine VC.skip (VE.seqN ?_)
              refine VC.seq ?_
              refine VC.reg (VO.l (LO.as (.r rfl)) rfl<|VO.l (LO.as (.r rfl)) rfl<|VO.nil ?_)
              refine VE.seqN ?_
              refine VC.seq ?_
              refine VC.seq ?_
              refine VC.pur (φ := SlSome an.p an.ev.length ∧ SlSome mt.p mt.l.length) (fun w hw => ⟨(han.rd w (hw.inv 4 _ rfl).1).ev.sm, (hmt.rd w (hw.inv 0 _ rfl).1).ev.sm⟩) fun hsS => ?_
              obtain ⟨hevS, hwtS⟩ := hsS
              refine VC.reg (VO.l (LO.mv (.r rfl)) rfl<|VO.l (LO.len S46 (.r rfl) rfl) rfl<|VO.l (LO.mv (.r rfl)) rfl<|VO.nil ?_)
              refine VE.seqN ?_
              refine VC.block ?_
              refine VC.loopK (α := Nat) 0 (fun gx => [(18, .int .i64 ((s.tk.length + bgS an.ev gx : Nat) : Int)), (19, .int .i64 ((fS an.ev gx : Nat) : Int)), (20, .int .i64 ((tS an.ev gx : Nat) : Int)), (147, .int .i64 (gx : Nat))]) [(0,_), (1,_), (2,_), (3,_), (13,_), (14,_), (15,_), (17,_), (21,_), (22,_), (24,_), (29,_), (85,_), (86,_), (87,_), (145,_), (146,_)] (fun gx => []) (fun gx => gx ≤ an.ev.length) (fun gx => an.ev.length - gx) 0 (by exact Nat.zero_le _) (.cons rfl (.cons rfl (.cons rfl (.cons rfl (.cons rfl (.cons rfl (.cons rfl (.cons rfl (.cons rfl (.cons rfl (.cons rfl (.cons rfl (.cons rfl (.cons rfl (.cons rfl (.cons rfl (.cons rfl (.cons rfl (.cons rfl (.cons rfl (.cons rfl .nil))))))))))))))))))))) (fun _ h => h) ?_
              rintro k hk
              refine VC.seq ?_
              refine VC.reg (VO.l (LO.lt (.r rfl) (.r rfl)) rfl<|VO.nil ?_)
              refine VE.seqN ?_
              refine VC.seq ?_
              refine VC.cond rfl (fun h148 => ?_) (fun h148 => ?_)
              ·
                obtain ⟨e, hek⟩ := get_ex (l := an.ev) (n := k) (by omega)
                obtain ⟨wk, hwk⟩ := get_ex (l := mt.l) (n := k) (by omega)
                obtain ⟨e1, e2, e3⟩ := ev_at heq hek hwk
                have hem := List.mem_of_getElem? hek
                have hwm := List.mem_of_getElem? hwk
                refine VC.skip (VE.seqN ?_)
                refine VC.seq ?_
                refine VC.block ?_
                refine VC.seq ?_
                have hsl := sums_le hgd hek
                refine VC.reg (VO.l (LO.mv (.r rfl)) rfl<|VO.l (LO.ixs S46 N81 hevS (.r rfl) (.r rfl) rfl (by omega)) rfl<|VO.l (LO.lda (vs := [_,_,_]) A81 (.r rfl) (fun w hw => cells_part (off := 0) ((fun w3 h3 => RO.cel (han.rd w3 (h3.inv 4 _ rfl).1).ev hek) w hw) ⟨_, rfl⟩) rfl) rfl<|VO.h rfl<|HO.alloc (C := #[_,_,_]) Z81 rfl fun b17 => VO.l (LO.as (.r rfl)) rfl<|VO.h0<|HO.st 0 (vs := [_,_,_]) (C' := [_,_,_]) (L' := [_,_,_,_,_,_,_,_,_,_,_,_]) N81 rfl rfl rfl rfl rfl rfl rfl rfl<|VO.nil ?_)
                refine VE.seqN ?_
                refine VC.seq ?_
                refine VC.seq ?_
                refine VC.draw mixed (LL.l (LO.fa (r := 0) F81_0 (.r rfl) rfl) rfl<|LL.l (LO.ld O3 (.r rfl) (fun _ hw => cells_at hw 0 rfl ⟨_, rfl⟩)) rfl<|LL.l (LO.mv (.r rfl)) rfl<|LL.l (LO.mv (.r rfl)) rfl<|LL.l (LO.ixs S46 N81 hwtS (.r rfl) (.r rfl) rfl (by omega)) rfl<|LL.l (LO.fa F81_0 (.r rfl) rfl) rfl<|LL.l (LO.ld O3 (.r rfl) (fun w hw => cells_part (off := 0) ((fun w3 h3 => RO.cel (hmt.rd w3 (h3.inv 1 _ rfl).1).ev hwk) w hw) ⟨_, rfl⟩)) rfl<|LL.l (LO.ne (.r rfl) (.r rfl)) rfl<|LL.l (LO.mv (.r rfl)) rfl<|LL.lg rfl rfl (GD.f _) (fun hg => LO.fa (r := 1) F81_1 (.r rfl) rfl) rfl<|LL.lg rfl rfl (GD.f _) (fun hg => LO.ld O40 (.g hg rfl) (fun _ hw => cells_at hw 0 rfl ⟨_, rfl⟩)) rfl<|LL.lg rfl rfl (GD.f _) (fun hg => LO.mv (.r rfl)) rfl<|LL.lg rfl rfl (GD.f _) (fun hg => LO.mv (.r rfl)) rfl<|LL.lg rfl rfl (GD.f _) (fun hg => LO.ixs S46 N81 hwtS (.g hg rfl) (.g hg rfl) rfl (by omega)) rfl<|LL.lg rfl rfl (GD.f _) (fun hg => LO.fa F81_1 (.g hg rfl) rfl) rfl<|LL.lg rfl rfl (GD.f _) (fun hg => LO.ld O40 (.g hg rfl) (fun w hw => cells_part (off := 1) ((fun w3 h3 => RO.cel (hmt.rd w3 (h3.inv 1 _ rfl).1).ev hwk) w hw) ⟨_, rfl⟩)) rfl<|LL.lg rfl rfl (GD.f _) (fun hg => LO.call (xs := [_,_]) (vs := [_,_]) C40 ⟨(.g hg rfl), (.g hg rfl), trivial⟩ (fun w2 hw => numbers_k e.f wk.f e.fp e.fc wk.fp wk.fc w2 ((han.rd w2 (hw.inv 5 _ rfl).1).f e hem) ((hmt.rd w2 (hw.inv 1 _ rfl).1).f wk hwm) (by omega))) rfl<|LL.lg rfl rfl (GD.f _) (fun hg => LO.not (.g hg rfl)) rfl<|LL.l (LO.pkO (.r rfl) (.r rfl) rfl rfl) rfl<|LL.l (LO.mv (.r rfl)) rfl<|LL.lg rfl rfl (GD.f _) (fun hg => LO.fa (r := 2) F81_2 (.r rfl) rfl) rfl<|LL.lg rfl rfl (GD.f _) (fun hg => LO.ld O40 (.g hg rfl) (fun _ hw => cells_at hw 0 rfl ⟨_, rfl⟩)) rfl<|LL.lg rfl rfl (GD.f _) (fun hg => LO.mv (.r rfl)) rfl<|LL.lg rfl rfl (GD.f _) (fun hg => LO.mv (.r rfl)) rfl<|LL.lg rfl rfl (GD.f _) (fun hg => LO.ixs S46 N81 hwtS (.g hg rfl) (.g hg rfl) rfl (by omega)) rfl<|LL.lg rfl rfl (GD.f _) (fun hg => LO.fa F81_2 (.g hg rfl) rfl) rfl<|LL.lg rfl rfl (GD.f _) (fun hg => LO.ld O40 (.g hg rfl) (fun w hw => cells_part (off := 2) ((fun w3 h3 => RO.cel (hmt.rd w3 (h3.inv 1 _ rfl).1).ev hwk) w hw) ⟨_, rfl⟩)) rfl<|LL.lg rfl rfl (GD.f _) (fun hg => LO.call (xs := [_,_]) (vs := [_,_]) C40 ⟨(.g hg rfl), (.g hg rfl), trivial⟩ (fun w2 hw => numbers_k e.t wk.t e.tp e.tc wk.tp wk.tc w2 ((han.rd w2 (hw.inv 5 _ rfl).1).t e hem) ((hmt.rd w2 (hw.inv 1 _ rfl).1).t wk hwm) (by omega))) rfl<|LL.lg rfl rfl (GD.f _) (fun hg => LO.not (.g hg rfl)) rfl<|LL.l (LO.pkO (.r rfl) (.r rfl) rfl rfl) rfl<|LL.nil) (by kernel_rfl) ?_
                refine VE.seqN ?_
                refine VC.cond rfl (fun h181 => ?_) (fun h181 => ?_)
                ·
                  (exfalso; simp [e1, e2, e3] at h181)
                ·
                  refine VC.skip (VE.seqN ?_)
                  refine VC.seq ?_
                  refine VC.draw mixed (LL.l (LO.mv (.r rfl)) rfl<|LL.l (LO.fa (r := 1) F81_1 (.r rfl) rfl) rfl<|LL.l (LO.ld O40 (.r rfl) (fun _ hw => cells_at hw 0 rfl ⟨_, rfl⟩)) rfl<|LL.l (LO.len S40 (.r rfl) rfl) rfl<|LL.l (LO.add (.r rfl) (.r rfl) (wi (by omega) (by omega))) rfl<|LL.l (LO.mv (.r rfl)) rfl<|LL.l (LO.fa (r := 2) F81_2 (.r rfl) rfl) rfl<|LL.l (LO.ld O40 (.r rfl) (fun _ hw => cells_at hw 0 rfl ⟨_, rfl⟩)) rfl<|LL.l (LO.len S40 (.r rfl) rfl) rfl<|LL.l (LO.add (.r rfl) (.r rfl) (wi (by omega) (by omega))) rfl<|LL.l (LO.as (.r rfl)) rfl<|LL.l (LO.as (.r rfl)) rfl<|LL.nil) (by kernel_rfl) ?_
                  refine VE.seqN ?_
                  refine VC.seq ?_
                  refine VC.reg (VO.l (LO.fa (r := 0) F81_0 (.r rfl) rfl) rfl<|VO.l (LO.ld O3 (.r rfl) (fun _ hw => cells_at hw 0 rfl ⟨_, rfl⟩)) rfl<|VO.l (LO.ne (.r rfl) (.r rfl)) rfl<|VO.nil ?_)
                  refine VE.seqN ?_
                  refine VC.cond rfl (fun h194 => ?_) (fun h194 => ?_)
                  ·
                    refine VC.reg (VO.l (LO.mv (.r rfl)) rfl<|VO.l (LO.fa (r := 2) F81_2 (.r rfl) rfl) rfl<|VO.l (LO.ld O40 (.r rfl) (fun _ hw => cells_at hw 0 rfl ⟨_, rfl⟩)) rfl<|VO.l (LO.len S40 (.r rfl) rfl) rfl<|VO.l (LO.add (.r rfl) (.r rfl) (wi (by omega) (by omega))) rfl<|VO.l (LO.as (.r rfl)) rfl<|VO.nil ?_)
                    refine VE.inN (VE.seqN ?_)
                    refine VC.reg (VO.l (LO.add (.r rfl) (.r rfl) (wi (by omega) (by omega))) rfl<|VO.l (LO.mv (.r rfl)) rfl<|VO.nil ?_)
                    refine VE.thenN fun a w ha hw => ⟨k + 1, (by omega), (by omega), ha.sub (.cons (congrArg (fun z => some (Value.int .i64 z)) (by have z := bgS_succ hek; rw [if_neg h194] at z; omega)) (.cons (congrArg (fun z => some (Value.int .i64 z)) (by have z := fS_succ hek; omega)) (.cons (congrArg (fun z => some (Value.int .i64 z)) (by have z := tS_succ hek; omega)) (.cons rfl (.cons rfl (.cons rfl (.cons rfl (.cons rfl (.cons rfl (.cons rfl (.cons rfl (.cons rfl (.cons rfl (.cons rfl (.cons rfl (.cons rfl (.cons rfl (.cons rfl (.cons rfl (.cons rfl (.cons rfl .nil))))))))))))))))))))), hw.sel [1,2,3,4,5,6,7,8,9,10,11] rfl⟩
                  ·
                    refine VC.skip (VE.inN (VE.seqN ?_))
                    refine VC.reg (VO.l (LO.add (.r rfl) (.r rfl) (wi (by omega) (by omega))) rfl<|VO.l (LO.mv (.r rfl)) rfl<|VO.nil ?_)
                    refine VE.thenN fun a w ha hw => ⟨k + 1, (by omega), (by omega), ha.sub (.cons (congrArg (fun z => some (Value.int .i64 z)) (by have z := bgS_succ hek; rw [if_pos (Classical.not_not.1 h194)] at z; omega)) (.cons (congrArg (fun z => some (Value.int .i64 z)) (by have z := fS_succ hek; omega)) (.cons (congrArg (fun z => some (Value.int .i64 z)) (by have z := tS_succ hek; omega)) (.cons rfl (.cons rfl (.cons rfl (.cons rfl (.cons rfl (.cons rfl (.cons rfl (.cons rfl (.cons rfl (.cons rfl (.cons rfl (.cons rfl (.cons rfl (.cons rfl (.cons rfl (.cons rfl (.cons rfl (.cons rfl .nil))))))))))))))))))))), hw.sel [1,2,3,4,5,6,7,8,9,10,11] rfl⟩
              ·
                have hke : k = an.ev.length := by omega
                subst hke
                have hsf := fS_all hgd
                have hst_ := tS_all hgd
                refine VC.exit (VE.thenX (VE.thenX (VE.inX (VE.seqN ?_))))
                refine VC.seq ?_
                refine VC.seq ?_
                have hc1 : (cn ++ [ar.l.length]).getD i 0 = ar.l.length := by rw [← hcnl]; exact getD_app2
                have hc2 : (cn ++ [ar.l.length]).getD (i - 1) 0 = nP G s.vP lv := hist_prev hbk hcn hi0
                refine VC.draw mixed (LL.l (LO.mv (.r rfl)) rfl<|LL.l (LO.mv (.r rfl)) rfl<|LL.l (LO.ixo S40 N3 (fun _ hw => (own_rows hw 7 rfl).some (by simp)) (.r rfl) (.r rfl) rfl (by rw [List.length_append, List.length_singleton]; omega)) rfl<|LL.l (LO.ld O3 (.r rfl) (fun w hw => cells_part (off := 0) (own_cell hw 7 rfl (getNn (n := i) (by rw [List.length_append, List.length_singleton]; omega))) ⟨_, rfl⟩)) rfl<|LL.l (LO.mv (.r rfl)) rfl<|LL.l (LO.add (.r rfl) (.r rfl) (wi (by omega) (by omega))) rfl<|LL.l (LO.mv (.r rfl)) rfl<|LL.l (LO.mv (.r rfl)) rfl<|LL.l (LO.sub (.r rfl) (.r rfl) (wi (by omega) (by omega))) rfl<|LL.l (LO.ixo S40 N3 (fun _ hw => (own_rows hw 7 rfl).some (by simp)) (.r rfl) (.r rfl) (by omega) (by rw [List.length_append, List.length_singleton]; omega)) rfl<|LL.l (LO.ld O3 (.r rfl) (fun w hw => cells_part (off := 0) (own_cell hw 7 rfl (getNn (n := (i - 1)) (by rw [List.length_append, List.length_singleton]; omega))) ⟨_, rfl⟩)) rfl<|LL.l (LO.mv (.r rfl)) rfl<|LL.l (LO.add (.r rfl) (.r rfl) (wi (by omega) (by omega))) rfl<|LL.l (LO.ne (.r rfl) (.r rfl)) rfl<|LL.nil) (by kernel_rfl) ?_
                refine VE.seqN ?_
                refine VC.cond rfl (fun h214 => ?_) (fun h214 => ?_)
                ·
                  (exfalso; (rw [hc1, hc2] at h214; omega))
                ·
                  refine VC.skip (VE.seqN ?_)
                  refine VC.reg (VO.l (LO.lda (vs := [_,_,_,_,_,_]) A26 (.r rfl) (fun _ hw => cells_at hw 5 rfl ⟨_, rfl⟩) rfl) rfl<|VO.h0<|HO.st 8 (vs := [_,_,_,_,_,_]) (C' := [_,_,_,_,_,_]) (L' := [_,_,_,_,_,_,_,_,_,_,_]) N26 rfl rfl rfl rfl rfl rfl rfl rfl<|VO.nil ?_)
                  refine VE.inN (VE.seqN ?_)
                  refine VC.reg (VO.l (LO.add (.r rfl) (.r rfl) (wi (by omega) (by omega))) rfl<|VO.l (LO.mv (.r rfl)) rfl<|VO.nil ?_)
                  refine VE.thenN fun a w ha hw => ⟨(i + 1, an.s, (cn ++ [ar.l.length]), p4, c4, G, y.p, y.c), ⟨by dsimp only; omega, han.bk, by dsimp only; rw [han.ms, hcn, harl], fun _ => ⟨rfl, by dsimp only; rw [han.v]; exact hyF⟩⟩, (by dsimp only; omega), ha.sub (.cons rfl (.cons (congrArg (fun n : Nat => some (Value.int .i64 (n : Int))) (by have z := han.tl; rw [if_neg hi0] at z; rw [z, bgS_all])) (.cons rfl (.cons rfl (.cons rfl (.cons rfl (.cons rfl (.cons rfl (.cons rfl (.cons rfl (.cons rfl (.cons rfl (.cons rfl .nil))))))))))))), (by dsimp only; rw [han.v]; exact selK (L1 := [_,_,_,_,_]) [7,8,3,6,10] rfl rfl _ hw)⟩
      ·
        have hie : i = ls.length := by omega
        have hlen : s.tk.length ≤ 30000 := by omega
        have hNl : s.Ms.length = ls.length := by rw [hbk.m, hie]
        refine VC.exit (VE.thenX (VE.thenX (VE.inX (VE.seqN ?_))))
        refine VC.seq ?_
        refine VC.reg (VO.l (LO.mv (.r rfl)) rfl<|VO.h rfl<|HO.callx (xs := [_]) (vs := [_]) C49 ⟨(.r rfl), trivial⟩ (fun w2 hw => Tracks_b yb.1 (⟨G, lv, ((far % 4 : Nat) : Int), yb.2⟩ : BkH) s w2 (BkI.mk' (hw.inv 2 _ rfl).1) hbk.inv (by rw [hbk.m]; omega) hlen) fun tr htrm => VO.h rfl<|HO.lo (LO.as (.r rfl))<|VO.nil ?_)
        refine VE.seqN ?_
        refine VC.seq ?_
        refine VC.seq ?_
        refine VC.reg (VO.l (LO.mv (.r rfl)) rfl<|VO.l (LO.len S102 (.r rfl) rfl) rfl<|VO.l (LO.mv (.r rfl)) rfl<|VO.l (LO.ne (.r rfl) (.r rfl)) rfl<|VO.l (LO.mv (.r rfl)) rfl<|VO.lg rfl rfl (GD.f _) (fun hg => LO.mv (.r rfl)) rfl<|VO.lg rfl rfl (GD.f _) (fun hg => LO.call (xs := [_]) (vs := [_]) C50 ⟨(.g hg rfl), trivial⟩ (fun w2 hw => Tally_ok yb.1 (⟨G, lv, ((far % 4 : Nat) : Int), yb.2⟩ : BkH) s.la ⟨s.pm, s.ys.length, s.cm⟩ s.pt s.ct s.kd s.tk w2 (BkI.mk' (hw.inv 3 _ rfl).1).c s.of (BkI.mk' (hw.inv 3 _ rfl).1).of (prs s.Ms) prs_nodup (prs_of hbk.inv))) rfl<|VO.lg rfl rfl (GD.f _) (fun hg => LO.fd1 (F := _) Try.underlying105 rfl rfl O3 (.g hg rfl) rfl) rfl<|VO.lg rfl rfl (GD.f _) (fun hg => LO.mv (.r rfl)) rfl<|VO.lg rfl rfl (GD.f _) (fun hg => LO.ne (.g hg rfl) (.g hg rfl)) rfl<|VO.l (LO.pkO (.r rfl) (.r rfl) rfl rfl) rfl<|VO.l (LO.mv (.r rfl)) rfl<|VO.lg rfl rfl (GD.f _) (fun hg => LO.mv (.r rfl)) rfl<|VO.lg rfl rfl (GD.f _) (fun hg => LO.call (xs := [_]) (vs := [_]) C50 ⟨(.g hg rfl), trivial⟩ (fun w2 hw => Tally_ok yb.1 (⟨G, lv, ((far % 4 : Nat) : Int), yb.2⟩ : BkH) s.la ⟨s.pm, s.ys.length, s.cm⟩ s.pt s.ct s.kd s.tk w2 (BkI.mk' (hw.inv 3 _ rfl).1).c s.of (BkI.mk' (hw.inv 3 _ rfl).1).of (prs s.Ms) prs_nodup (prs_of hbk.inv))) rfl<|VO.lg rfl rfl (GD.f _) (fun hg => LO.fd1 (F := _) Try.underlying105 rfl rfl O3 (.g hg rfl) rfl) rfl<|VO.lg rfl rfl (GD.f _) (fun hg => LO.mv (.r rfl)) rfl<|VO.lg rfl rfl (GD.f _) (fun hg => LO.len S97 (.g hg rfl) rfl) rfl<|VO.lg rfl rfl (GD.f _) (fun hg => LO.ne (.g hg rfl) (.g hg rfl)) rfl<|VO.l (LO.pkO (.r rfl) (.r rfl) rfl rfl) rfl<|VO.nil ?_)
        refine VE.seqN ?_
        refine VC.cond rfl (fun h237 => ?_) (fun h237 => ?_)
        ·
          (exfalso; (have hn0 := hbk.n; have htl := congrArg List.length htrm; rw [List.length_map, List.length_map] at htl; dsimp only at h237; rcases h237 with (z | z) | z; all_goals first | omega | exact z rfl))
        ·
          have htl := congrArg List.length htrm
          rw [List.length_map, List.length_map] at htl
          refine VC.skip (VE.seqN ?_)
          refine VC.seq ?_
          refine VC.rebase fun w1 hst1 => ?_
          have hBI : BkI w1 yb.1 (⟨G, lv, ((far % 4 : Nat) : Int), yb.2⟩ : BkH) s := BkI.mk' (hst1.inv 3 _ rfl).1
          have hcnR : RO 1 nC w1 pc cn := RO.of_own hst1 1 rfl
          have htr : TrI w1 tr.p tr.tk := tri_inv (hst1.inv 0 _ rfl).1
          refine VC.reg (VO.h rfl<|HO.mkmapG pairI Value.bool fun b21 => VO.h rfl<|HO.lo (LO.as (.r rfl))<|VO.nil ?_)
          rw [show (fun _ : Int × Int => (none : Option Bool)) = vis s.of (s.tk.map TkR.m) 0 0 from (vis_zero hbk.inv).symm]
          refine VE.seqN ?_
          refine VC.seq ?_
          refine VC.seq ?_
          refine VC.reg (VO.l (LO.mv (.r rfl)) rfl<|VO.l (LO.len S102 (.r rfl) rfl) rfl<|VO.l (LO.mv (.r rfl)) rfl<|VO.nil ?_)
          refine VE.seqN ?_
          refine VC.block ?_
          refine VC.loopK (α := Nat) 1 (fun gx => [(241, .int .i64 (gx : Nat))]) [(2,_), (15,_), (17,_), (32,_), (33,_), (239,_), (240,_)] (fun gx => [mapR pairI Value.bool b21 (vis s.of (s.tk.map TkR.m) gx 0)]) (fun gx => gx ≤ tr.tk.length) (fun gx => tr.tk.length - gx) 0 (by exact Nat.zero_le _) (.cons rfl (.cons rfl (.cons rfl (.cons rfl (.cons rfl (.cons rfl (.cons rfl (.cons rfl .nil)))))))) (fun _ h => h) ?_
          rintro n hn
          refine VC.seq ?_
          refine VC.reg (VO.l (LO.lt (.r rfl) (.r rfl)) rfl<|VO.nil ?_)
          refine VE.seqN ?_
          refine VC.seq ?_
          refine VC.cond rfl (fun h242 => ?_) (fun h242 => ?_)
          ·
            obtain ⟨t, ht_n⟩ := get_ex (l := tr.tk) (n := n) (by omega)
            have htm := List.mem_of_getElem? ht_n
            obtain ⟨tb, htb, hte, hm⟩ := m_at htrm ht_n
            obtain ⟨hta1, hta2, hta3⟩ := tk_bd hbk.inv hm
            have hta1 : t.ar.length ≤ s.Ms.length := hta1
            rw [List.length_map] at hta2 hta3
            have hta2 : t.pa.length ≤ s.tk.length := hta2
            have hta3 : t.ch.length ≤ s.tk.length := hta3
            have htp0 := hbk.inv.pos (List.mem_of_getElem? hm)
            have htp0 : 0 < t.ar.length ∧ t.fr + t.ar.length ≤ s.Ms.length ∧ t.fr < s.Ms.length := htp0
            refine VC.skip (VE.seqN ?_)
            refine VC.seq ?_
            refine VC.block ?_
            refine VC.seq ?_
            refine VC.reg (VO.l (LO.mv (.r rfl)) rfl<|VO.l (LO.ixs S102 N109 htr.tk.sm (.r rfl) (.r rfl) rfl (by omega)) rfl<|VO.l (LO.lda (vs := [_,_,_,_,_,_]) A109 (.r rfl) (fun w hw => cells_part (off := 0) ((fun w3 h3 => RO.cel (htr.keep w3 h3).tk ht_n) w hw) ⟨_, rfl⟩) rfl) rfl<|VO.h rfl<|HO.alloc (C := #[_,_,_,_,_,_]) Z109 rfl fun b22 => VO.l (LO.as (.r rfl)) rfl<|VO.h0<|HO.st 0 (vs := [_,_,_,_,_,_]) (C' := [_,_,_,_,_,_]) (L' := [_,_]) N109 rfl rfl rfl rfl rfl rfl rfl rfl<|VO.nil ?_)
            refine VE.seqN ?_
            refine VC.seq ?_
            refine VC.seq ?_
            refine VC.reg (VO.l (LO.fa (r := 2) F109_2 (.r rfl) rfl) rfl<|VO.l (LO.ld O40 (.r rfl) (fun _ hw => cells_at hw 0 rfl ⟨_, rfl⟩)) rfl<|VO.l (LO.len S40 (.r rfl) rfl) rfl<|VO.l (LO.mv (.r rfl)) rfl<|VO.nil ?_)
            refine VE.seqN ?_
            refine VC.block ?_
            refine VC.perm [1,0] rfl ?_
            refine VC.loopK (α := Nat) 1 (fun gx => [(249, .int .i64 (gx : Nat))]) [(2,_), (15,_), (17,_), (32,_), (33,_), (34,_), (35,_), (239,_), (240,_), (241,_), (247,_), (248,_)] (fun gx => [mapR pairI Value.bool b21 (vis s.of (s.tk.map TkR.m) n gx)]) (fun gx => gx ≤ t.ar.length) (fun gx => t.ar.length - gx) 0 (by exact Nat.zero_le _) (.cons rfl (.cons rfl (.cons rfl (.cons rfl (.cons rfl (.cons rfl (.cons rfl (.cons rfl (.cons rfl (.cons rfl (.cons rfl (.cons rfl (.cons rfl .nil))))))))))))) (fun _ h => h) ?_
            rintro k hk
            refine VC.seq ?_
            refine VC.reg (VO.l (LO.lt (.r rfl) (.r rfl)) rfl<|VO.nil ?_)
            refine VE.seqN ?_
            refine VC.seq ?_
            refine VC.cond rfl (fun h250 => ?_) (fun h250 => ?_)
            ·
              obtain ⟨a, hak⟩ := get_ex (l := t.ar) (n := k) (by omega)
              obtain ⟨hof, hfk, har_⟩ := hbk.inv.at_ hm hak
              have hof : s.of (t.fr + k, a) = some n := hof
              have hfk : t.fr + k < s.Ms.length := hfk
              have har_ : a < s.Ms.getD (t.fr + k) 0 := har_
              have hvn : vis s.of (s.tk.map TkR.m) n k (((t.fr + k : Nat) : Int), (a : Int)) = none := vis_none hbk.inv hm hak
              have hvs : updG (vis s.of (s.tk.map TkR.m) n k) (((t.fr + k : Nat) : Int), (a : Int)) true = vis s.of (s.tk.map TkR.m) n (k + 1) := vis_set hbk.inv hm hak
              have hofI : ofI s.of (((t.fr + k : Nat) : Int), (a : Int)) = some n := by rw [ofI_nat, hof]
              refine VC.skip (VE.seqN ?_)
              refine VC.seq ?_
              refine VC.block ?_
              refine VC.seq ?_
              refine VC.reg (VO.l (LO.mv (.r rfl)) rfl<|VO.l (LO.ixs S40 N3 (htr.ti t htm).a.sm (.r rfl) (.r rfl) rfl (by omega)) rfl<|VO.l (LO.ld O3 (.r rfl) (fun w hw => cells_part (off := 0) ((fun w3 h3 => RO.cel ((htr.keep w3 h3).ti t htm).a hak) w hw) ⟨_, rfl⟩)) rfl<|VO.l (LO.as (.r rfl)) rfl<|VO.l (LO.as (.r rfl)) rfl<|VO.nil ?_)
              refine VE.seqN ?_
              refine VC.seq ?_
              refine VC.reg (VO.l (LO.fa (r := 1) F109_1 (.r rfl) rfl) rfl<|VO.l (LO.ld O3 (.r rfl) (fun _ hw => cells_at hw 1 rfl ⟨_, rfl⟩)) rfl<|VO.l (LO.mv (.r rfl)) rfl<|VO.l (LO.eqv (LO.add (.r rfl) (.r rfl) (wi (by omega) (by omega))) (congrArg (Value.int .i64) (Int.natCast_add _ _).symm)) rfl<|VO.l (LO.mv (.r rfl)) rfl<|VO.l (LO.bda (ps := [(_,_), (_,_)]) (vs := [(_,_), (_,_)]) (C := [_,_]) B110 rfl ⟨(.r rfl), (.r rfl), trivial⟩ rfl ⟨_, [_], [_,_], rfl, rfl, rfl, rfl, ⟨_, [_], [_,_], rfl, rfl, rfl, rfl, rfl⟩⟩) rfl<|VO.h rfl<|HO.alloc (C := #[_,_]) Z110 rfl fun b24 => VO.h0<|HO.st 0 (vs := [_,_]) (C' := [_,_]) (L' := [_,_,_]) N110 rfl rfl rfl rfl rfl rfl rfl rfl<|VO.nil ?_)
              refine VE.seqN ?_
              refine VC.seq ?_
              refine VC.reg (VO.l (LO.mv (.r rfl)) rfl<|VO.l (LO.fa (r := 1) F109_1 (.r rfl) rfl) rfl<|VO.l (LO.ld O3 (.r rfl) (fun _ hw => cells_at hw 2 rfl ⟨_, rfl⟩)) rfl<|VO.l (LO.mv (.r rfl)) rfl<|VO.l (LO.eqv (LO.add (.r rfl) (.r rfl) (wi (by omega) (by omega))) (congrArg (Value.int .i64) (Int.natCast_add _ _).symm)) rfl<|VO.l (LO.mv (.r rfl)) rfl<|VO.l (LO.call (xs := [_,_,_]) (vs := [_,_,_]) C51 ⟨(.r rfl), (.r rfl), (.r rfl), trivial⟩ (fun w2 hw => Of_ok yb.1 (⟨G, lv, ((far % 4 : Nat) : Int), yb.2⟩ : BkH) s.la ⟨s.pm, s.ys.length, s.cm⟩ s.pt s.ct s.kd s.tk w2 (hBI.keep w2 hw).c s.of (hBI.keep w2 hw).of ((t.fr + k : Nat) : Int) (a : Int))) rfl<|VO.l (LO.mv (.r rfl)) rfl<|VO.l (LO.ex (.r rfl) rfl) rfl<|VO.l (LO.ex (.r rfl) rfl) rfl<|VO.l (LO.as (.r rfl)) rfl<|VO.l (LO.as (.r rfl)) rfl<|VO.nil ?_)
              refine VE.seqN ?_
              refine VC.seq ?_
              refine VC.seq ?_
              refine VC.reg (VO.l (LO.fa (r := 1) F109_1 (.r rfl) rfl) rfl<|VO.l (LO.ld O3 (.r rfl) (fun _ hw => cells_at hw 2 rfl ⟨_, rfl⟩)) rfl<|VO.l (LO.lt (.r rfl) (.r rfl)) rfl<|VO.l (LO.mv (.r rfl)) rfl<|VO.lg rfl rfl (GD.f _) (fun hg => LO.ixa (j := 0) (r := 0) Try.underlying110 N3 (.r rfl) (.r rfl) rfl (by decide) rfl) rfl<|VO.lg rfl rfl (GD.f _) (fun hg => LO.ld O3 (.g hg rfl) (fun _ hw => cells_at hw 0 rfl ⟨_, rfl⟩)) rfl<|VO.lg rfl rfl (GD.f _) (fun hg => LO.mv (.r rfl)) rfl<|VO.lg rfl rfl (GD.f _) (fun hg => LO.len S97 (.g hg rfl) rfl) rfl<|VO.lg rfl rfl (GD.f _) (fun hg => LO.ge (.g hg rfl) (.g hg rfl)) rfl<|VO.l (LO.pkO (.r rfl) (.r rfl) rfl rfl) rfl<|VO.l (LO.mv (.r rfl)) rfl<|VO.lg rfl rfl (GD.f _) (fun hg => LO.mv (.r rfl)) rfl<|VO.lg rfl rfl (GD.f _) (fun hg => LO.lt (.g hg rfl) (.r rfl)) rfl<|VO.l (LO.pkO (.r rfl) (.r rfl) rfl rfl) rfl<|VO.l (LO.mv (.r rfl)) rfl<|VO.lg rfl rfl (GD.f _) (fun hg => LO.mv (.r rfl)) rfl<|VO.lg rfl rfl (GD.f _) (fun hg => LO.mv (.r rfl)) rfl<|VO.lg rfl rfl (GD.f _) (fun hg => LO.ixa (j := 0) (r := 0) Try.underlying110 N3 (.r rfl) (.r rfl) rfl (by decide) rfl) rfl<|VO.lg rfl rfl (GD.f _) (fun hg => LO.ld O3 (.g hg rfl) (fun _ hw => cells_at hw 0 rfl ⟨_, rfl⟩)) rfl<|VO.lg rfl rfl (GD.f _) (fun hg => LO.ixs S40 N3 hcnR.sm (.g hg rfl) (.g hg rfl) rfl (by omega)) rfl<|VO.lg rfl rfl (GD.f _) (fun hg => LO.ld O3 (.g hg rfl) (fun w hw => cells_part (off := 0) ((fun w3 h3 => RO.cel (hcnR.keep w3 h3) (getNn (n := (t.fr + k)) (by omega))) w hw) ⟨_, rfl⟩)) rfl<|VO.lg rfl rfl (GD.f _) (fun hg => LO.ge (.g hg rfl) (.g hg rfl)) rfl<|VO.l (LO.pkO (.r rfl) (.r rfl) rfl rfl) rfl<|VO.l (LO.mv (.r rfl)) rfl<|VO.lg rfl rfl (GD.f _) (fun hg => LO.mv (.r rfl)) rfl<|VO.lg rfl rfl (GD.f _) (fun hg => LO.lda (vs := [_,_]) A110 (.r rfl) (fun _ hw => cells_at hw 0 rfl ⟨_, rfl⟩) rfl) rfl<|VO.lg rfl rfl (GD.f _) (fun hg => LO.eqv (v' := .bool false) (LO.lkG1 (n := (((t.fr + k : Nat) : Int), (a : Int))) M107 (.g hg rfl) (.g hg rfl) (fun _ hw => St.inv hw 1 _ rfl)) (by rw [hvn]; rfl)) rfl<|VO.l (LO.pkO (.r rfl) (.r rfl) rfl rfl) rfl<|VO.l (LO.mv (.r rfl)) rfl<|VO.lg rfl rfl (GD.f _) (fun hg => LO.mv (.r rfl)) rfl<|VO.lg rfl rfl (GD.f _) (fun hg => LO.mv (.r rfl)) rfl<|VO.lg rfl rfl (GD.f _) (fun hg => LO.ne (.g hg rfl) (.g hg rfl)) rfl<|VO.l (LO.pkO (.r rfl) (.r rfl) rfl rfl) rfl<|VO.l (LO.mv (.r rfl)) rfl<|VO.lg rfl rfl (GD.f _) (fun hg => LO.mv (.r rfl)) rfl<|VO.lg rfl rfl (GD.f _) (fun hg => LO.ne (.g hg rfl) (.r rfl)) rfl<|VO.l (LO.pkO (.r rfl) (.r rfl) rfl rfl) rfl<|VO.nil ?_)
              refine VE.seqN ?_
              refine VC.cond rfl (fun h306 => ?_) (fun h306 => ?_)
              ·
                (exfalso; (rw [hofI] at h306; rw [hcn] at h306; have har3 := har_; rw [List.getD_eq_getElem?_getD] at har3; simp at h306; omega))
              ·
                refine VC.skip (VE.seqN ?_)
                refine VC.reg (VO.l (LO.mv (.r rfl)) rfl<|VO.l (LO.lda (vs := [_,_]) A110 (.r rfl) (fun _ hw => cells_at hw 0 rfl ⟨_, rfl⟩) rfl) rfl<|VO.h0<|HO.mupG 1 (fun R => [_, R,_]) (((t.fr + k : Nat) : Int), (a : Int)) true M107 (.r rfl) (.r rfl) (.r rfl) rfl (fun _ => rfl)<|VO.nil ?_)
                rw [hvs]
                refine VE.inN (VE.seqN ?_)
                refine VC.reg (VO.l (LO.add (.r rfl) (.r rfl) (wi (by omega) (by omega))) rfl<|VO.l (LO.mv (.r rfl)) rfl<|VO.nil ?_)
                refine VE.thenN fun a w ha hw => ⟨k + 1, (by omega), (by omega), ha.sub (.cons rfl (.cons rfl (.cons rfl (.cons rfl (.cons rfl (.cons rfl (.cons rfl (.cons rfl (.cons rfl (.cons rfl (.cons rfl (.cons rfl (.cons rfl .nil))))))))))))), hw.sel [1,2] rfl⟩
            ·
              have hke : k = t.ar.length := by omega
              subst hke
              have hvx : vis s.of (s.tk.map TkR.m) n t.ar.length = vis s.of (s.tk.map TkR.m) (n + 1) 0 := vis_next hbk.inv hm
              rw [hvx]
              refine VC.exit (VE.thenX (VE.thenX (VE.inX (VE.seqN ?_))))
              refine VC.seq ?_
              refine VC.reg (VO.l (LO.mv (.r rfl)) rfl<|VO.l (LO.mv (.r rfl)) rfl<|VO.h rfl<|HO.callx (xs := [_,_]) (vs := [_,_]) C52 ⟨(.r rfl), (.r rfl), trivial⟩ (fun w2 hw => Past_ok yb.1 (⟨G, lv, ((far % 4 : Nat) : Int), yb.2⟩ : BkH) s n tb w2 (hBI.keep w2 hw) hbk.inv hlen htb) fun pa hpa => VO.h rfl<|HO.lo (LO.mv (.r rfl))<|VO.h rfl<|HO.lo (LO.ex (.r rfl) rfl)<|VO.h rfl<|HO.lo (LO.ex (.r rfl) rfl)<|VO.h rfl<|HO.lo (LO.as (.r rfl))<|VO.h rfl<|HO.lo (LO.as (.r rfl))<|VO.nil ?_)
              refine VE.seqN ?_
              refine VC.seq ?_
              have hpal : pa.l.length ≤ 1000000 := rl_len (B := s.tk.length) hpa (fun x hx => by have := past_lt hbk.inv hx; omega) (by omega)
              refine VC.reg (VO.l (LO.mv (.r rfl)) rfl<|VO.l (LO.mv (.r rfl)) rfl<|VO.h rfl<|HO.callx (xs := [_,_]) (vs := [_,_]) C53 ⟨(.r rfl), (.r rfl), trivial⟩ (fun w2 hw => Future_ok yb.1 (⟨G, lv, ((far % 4 : Nat) : Int), yb.2⟩ : BkH) s n tb w2 (hBI.keep w2 hw) hbk.inv hlen htb) fun fu hfu => VO.h rfl<|HO.lo (LO.mv (.r rfl))<|VO.h rfl<|HO.lo (LO.ex (.r rfl) rfl)<|VO.h rfl<|HO.lo (LO.ex (.r rfl) rfl)<|VO.h rfl<|HO.lo (LO.as (.r rfl))<|VO.h rfl<|HO.lo (LO.as (.r rfl))<|VO.nil ?_)
              refine VE.seqN ?_
              refine VC.seq ?_
              refine VC.seq ?_
              have hful : fu.l.length ≤ 1000000 := rl_len (B := s.tk.length) hfu (fun x hx => by have := future_lt hbk.inv hx; rw [List.length_map] at this; omega) (by omega)
              refine VC.reg (VO.l (LO.mv (.r rfl)) rfl<|VO.l (LO.ne (.r rfl) (.r rfl)) rfl<|VO.l (LO.mv (.r rfl)) rfl<|VO.lg rfl rfl (GD.f _) (fun hg => LO.mv (.r rfl)) rfl<|VO.lg rfl rfl (GD.f _) (fun hg => LO.ne (.g hg rfl) (.r rfl)) rfl<|VO.l (LO.pkO (.r rfl) (.r rfl) rfl rfl) rfl<|VO.l (LO.mv (.r rfl)) rfl<|VO.lg rfl rfl (GD.f _) (fun hg => LO.fa (r := 0) F109_0 (.r rfl) rfl) rfl<|VO.lg rfl rfl (GD.f _) (fun hg => LO.ld O3 (.g hg rfl) (fun _ hw => cells_at hw 3 rfl ⟨_, rfl⟩)) rfl<|VO.lg rfl rfl (GD.f _) (fun hg => LO.eq (.g hg rfl) (.r rfl)) rfl<|VO.lg rfl rfl (GD.f _) (fun hg => LO.mv (.g hg rfl)) rfl<|VO.lg rfl rfl (GD.nf _ _) (fun hg => LO.fa (r := 0) F109_0 (.r rfl) rfl) rfl<|VO.lg rfl rfl (GD.nf _ _) (fun hg => LO.ld O3 (.g hg rfl) (fun _ hw => cells_at hw 3 rfl ⟨_, rfl⟩)) rfl<|VO.lg rfl rfl (GD.nf _ _) (fun hg => LO.eq (.g hg rfl) (.r rfl)) rfl<|VO.lg rfl rfl (GD.f _) (fun hg => LO.pkO (.g hg rfl) (.r rfl) rfl (and_e hg)) rfl<|VO.lg rfl rfl (GD.f _) (fun hg => LO.fa (r := 4) F109_4 (.r rfl) rfl) rfl<|VO.lg rfl rfl (GD.f _) (fun hg => LO.ld O40 (.g hg rfl) (fun _ hw => cells_at hw 3 rfl ⟨_, rfl⟩)) rfl<|VO.lg rfl rfl (GD.f _) (fun hg => LO.len S40 (.g hg rfl) rfl) rfl<|VO.lg rfl rfl (GD.f _) (fun hg => LO.eq (.g hg rfl) (.r rfl)) rfl<|VO.lg rfl rfl (GD.f _) (fun hg => LO.neB Try.underlying4 (.g hg rfl) (.g hg rfl)) rfl<|VO.l (LO.pkO (.r rfl) (.r rfl) rfl rfl) rfl<|VO.l (LO.mv (.r rfl)) rfl<|VO.lg rfl rfl (GD.f _) (fun hg => LO.fa (r := 3) F109_3 (.r rfl) rfl) rfl<|VO.lg rfl rfl (GD.f _) (fun hg => LO.ld O3 (.g hg rfl) (fun _ hw => cells_at hw 3 rfl ⟨_, rfl⟩)) rfl<|VO.lg rfl rfl (GD.f _) (fun hg => LO.eq (.g hg rfl) (.r rfl)) rfl<|VO.lg rfl rfl (GD.f _) (fun hg => LO.mv (.g hg rfl)) rfl<|VO.lg rfl rfl (GD.nf _ _) (fun hg => LO.fa (r := 3) F109_3 (.r rfl) rfl) rfl<|VO.lg rfl rfl (GD.nf _ _) (fun hg => LO.ld O3 (.g hg rfl) (fun _ hw => cells_at hw 3 rfl ⟨_, rfl⟩)) rfl<|VO.lg rfl rfl (GD.nf _ _) (fun hg => LO.eq (.g hg rfl) (.r rfl)) rfl<|VO.lg rfl rfl (GD.f _) (fun hg => LO.pkO (.g hg rfl) (.r rfl) rfl (and_e hg)) rfl<|VO.lg rfl rfl (GD.f _) (fun hg => LO.fa (r := 5) F109_5 (.r rfl) rfl) rfl<|VO.lg rfl rfl (GD.f _) (fun hg => LO.ld O40 (.g hg rfl) (fun _ hw => cells_at hw 3 rfl ⟨_, rfl⟩)) rfl<|VO.lg rfl rfl (GD.f _) (fun hg => LO.len S40 (.g hg rfl) rfl) rfl<|VO.lg rfl rfl (GD.f _) (fun hg => LO.eq (.g hg rfl) (.r rfl)) rfl<|VO.lg rfl rfl (GD.f _) (fun hg => LO.neB Try.underlying4 (.g hg rfl) (.g hg rfl)) rfl<|VO.l (LO.pkO (.r rfl) (.r rfl) rfl rfl) rfl<|VO.l (LO.mv (.r rfl)) rfl<|VO.lg rfl rfl (GD.f _) (fun hg => LO.fa (r := 3) F109_3 (.r rfl) rfl) rfl<|VO.lg rfl rfl (GD.f _) (fun hg => LO.ld O3 (.g hg rfl) (fun _ hw => cells_at hw 3 rfl ⟨_, rfl⟩)) rfl<|VO.lg rfl rfl (GD.f _) (fun hg => LO.eq (.g hg rfl) (.r rfl)) rfl<|VO.lg rfl rfl (GD.f _) (fun hg => LO.fa (r := 1) F109_1 (.r rfl) rfl) rfl<|VO.lg rfl rfl (GD.f _) (fun hg => LO.ld O3 (.g hg rfl) (fun _ hw => cells_at hw 3 rfl ⟨_, rfl⟩)) rfl<|VO.lg rfl rfl (GD.f _) (fun hg => LO.fa (r := 2) F109_2 (.r rfl) rfl) rfl<|VO.lg rfl rfl (GD.f _) (fun hg => LO.ld O40 (.g hg rfl) (fun _ hw => cells_at hw 3 rfl ⟨_, rfl⟩)) rfl<|VO.lg rfl rfl (GD.f _) (fun hg => LO.len S40 (.g hg rfl) rfl) rfl<|VO.lg rfl rfl (GD.f _) (fun hg => LO.add (.g hg rfl) (.g hg rfl) (wi (by omega) (by omega))) rfl<|VO.lg rfl rfl (GD.f _) (fun hg => LO.mv (.r rfl)) rfl<|VO.lg rfl rfl (GD.f _) (fun hg => LO.len S97 (.g hg rfl) rfl) rfl<|VO.lg rfl rfl (GD.f _) (fun hg => LO.eq (.g hg rfl) (.g hg rfl)) rfl<|VO.lg rfl rfl (GD.f _) (fun hg => LO.neB Try.underlying4 (.g hg rfl) (.g hg rfl)) rfl<|VO.l (LO.pkO (.r rfl) (.r rfl) rfl rfl) rfl<|VO.nil ?_)
              refine VE.seqN ?_
              refine VC.cond rfl (fun h372 => ?_) (fun h372 => ?_)
              ·
                (exfalso; (have z1 : (t.bg = 1 ∨ t.bg = 2) ↔ t.pa = [] := bg_pa hbk.inv hbk.all hm; have z2 : (t.en = 0 ∨ t.en = 3) ↔ t.ch = [] := en_ch hbk.inv hbk.all hm; have z3 : t.en = 0 ↔ t.fr + t.ar.length = s.Ms.length := en_zero hbk.inv hbk.all (List.mem_of_getElem? hm); rcases h372 with (((z | z) | z) | z) | z; all_goals first | exact z rfl | exact z (by rw [← Bool.decide_or]; exact decide_eq_decide.2 (z1.trans ⟨fun q => by rw [q]; rfl, fun q => List.eq_nil_of_length_eq_zero (by omega)⟩)) | exact z (by rw [← Bool.decide_or]; exact decide_eq_decide.2 (z2.trans ⟨fun q => by rw [q]; rfl, fun q => List.eq_nil_of_length_eq_zero (by omega)⟩)) | exact z (decide_eq_decide.2 (z3.trans ⟨fun q => by omega, fun q => by omega⟩))))
              ·
                refine VC.skip (VE.seqN ?_)
                refine VC.seq ?_
                refine VC.seq ?_
                refine VC.reg (VO.l (LO.fa (r := 4) F109_4 (.r rfl) rfl) rfl<|VO.l (LO.ld O40 (.r rfl) (fun _ hw => cells_at hw 3 rfl ⟨_, rfl⟩)) rfl<|VO.l (LO.len S40 (.r rfl) rfl) rfl<|VO.l (LO.mv (.r rfl)) rfl<|VO.nil ?_)
                refine VE.seqN ?_
                refine VC.block ?_
                refine VC.loopK (α := Nat) 0 (fun gx => [(376, .int .i64 (gx : Nat))]) [(2,_), (15,_), (17,_), (32,_), (33,_), (34,_), (35,_), (41,_), (43,_), (239,_), (240,_), (241,_), (374,_), (375,_)] (fun gx => []) (fun gx => gx ≤ t.pa.length) (fun gx => t.pa.length - gx) 0 (by exact Nat.zero_le _) (.cons rfl (.cons rfl (.cons rfl (.cons rfl (.cons rfl (.cons rfl (.cons rfl (.cons rfl (.cons rfl (.cons rfl (.cons rfl (.cons rfl (.cons rfl (.cons rfl (.cons rfl .nil))))))))))))))) (fun _ h => h) ?_
                rintro j hj
                refine VC.seq ?_
                refine VC.reg (VO.l (LO.lt (.r rfl) (.r rfl)) rfl<|VO.nil ?_)
                refine VE.seqN ?_
                refine VC.seq ?_
                refine VC.cond rfl (fun h377 => ?_) (fun h377 => ?_)
                ·
                  obtain ⟨p, hpj⟩ := get_ex (l := t.pa) (n := j) (by omega)
                  obtain ⟨hpn, sp, hsp, hks, hup⟩ := pa_facts hbk.inv hm (List.mem_of_getElem? hpj)
                  obtain ⟨tpR, ht_p, hte_p⟩ := m_of htrm hsp
                  subst hte_p
                  have hks : n ∈ tpR.ch := hks
                  have hup : tpR.fr + tpR.ar.length = t.fr := hup
                  have hb_p := tk_bd hbk.inv hsp
                  have hb_p1 : tpR.ch.length ≤ (s.tk.map TkR.m).length := hb_p.2.2
                  rw [List.length_map] at hb_p1
                  have hpin : p ∈ pa.l := (hpa.mem p).2 (.base (by unfold nxP; rw [zT_at hm]; exact List.mem_of_getElem? hpj))
                  have hpl_ := (List.getElem?_eq_some_iff.1 ht_p).1
                  refine VC.skip (VE.seqN ?_)
                  refine VC.seq ?_
                  refine VC.block ?_
                  refine VC.seq ?_
                  refine VC.reg (VO.l (LO.ixs S40 N3 (htr.ti t htm).p.sm (.r rfl) (.r rfl) rfl (by omega)) rfl<|VO.l (LO.ld O3 (.r rfl) (fun w hw => cells_part (off := 0) ((fun w3 h3 => RO.cel ((htr.keep w3 h3).ti t htm).p hpj) w hw) ⟨_, rfl⟩)) rfl<|VO.l (LO.as (.r rfl)) rfl<|VO.nil ?_)
                  refine VE.seqN ?_
                  refine VC.seq ?_
                  refine VC.draw mixed (LL.l (LO.mv (.r rfl)) rfl<|LL.l (LO.lt (.r rfl) (.r rfl)) rfl<|LL.l (LO.mv (.r rfl)) rfl<|LL.lg rfl rfl (GD.f _) (fun hg => LO.mv (.r rfl)) rfl<|LL.lg rfl rfl (GD.f _) (fun hg => LO.mv (.r rfl)) rfl<|LL.lg rfl rfl (GD.f _) (fun hg => LO.ge (.g hg rfl) (.g hg rfl)) rfl<|LL.l (LO.pkO (.r rfl) (.r rfl) rfl rfl) rfl<|LL.l (LO.mv (.r rfl)) rfl<|LL.lg rfl rfl (GD.f _) (fun hg => LO.mv (.r rfl)) rfl<|LL.lg rfl rfl (GD.f _) (fun hg => LO.mv (.r rfl)) rfl<|LL.lg rfl rfl (GD.f _) (fun hg => LO.ixs S102 N109 htr.tk.sm (.g hg rfl) (.g hg rfl) rfl (by omega)) rfl<|LL.lg rfl rfl (GD.f _) (fun hg => LO.fa F109_5 (.g hg rfl) rfl) rfl<|LL.lg rfl rfl (GD.f _) (fun hg => LO.ld O40 (.g hg rfl) (fun w hw => cells_part (off := 5) ((fun w3 h3 => RO.cel (htr.keep w3 h3).tk ht_p) w hw) ⟨_, rfl⟩)) rfl<|LL.lg rfl rfl (GD.f _) (fun hg => LO.mv (.r rfl)) rfl<|LL.lg rfl rfl (GD.f _) (fun hg => LO.call (xs := [_,_]) (vs := [_,_]) C41 ⟨(.g hg rfl), (.g hg rfl), trivial⟩ (fun w2 hw => member_k tpR.ch tpR.cp tpR.cc n w2 ((htr.keep w2 hw).ti tpR (List.mem_of_getElem? ht_p)).c (by omega))) rfl<|LL.lg rfl rfl (GD.f _) (fun hg => LO.not (.g hg rfl)) rfl<|LL.l (LO.pkO (.r rfl) (.r rfl) rfl rfl) rfl<|LL.l (LO.mv (.r rfl)) rfl<|LL.lg rfl rfl (GD.f _) (fun hg => LO.mv (.r rfl)) rfl<|LL.lg rfl rfl (GD.f _) (fun hg => LO.mv (.r rfl)) rfl<|LL.lg rfl rfl (GD.f _) (fun hg => LO.call (xs := [_,_]) (vs := [_,_]) C41 ⟨(.g hg rfl), (.g hg rfl), trivial⟩ (fun w2 hw => member_k pa.l pa.p pa.c p w2 (RO.of_own hw 1 rfl) hpal)) rfl<|LL.lg rfl rfl (GD.f _) (fun hg => LO.not (.g hg rfl)) rfl<|LL.l (LO.pkO (.r rfl) (.r rfl) rfl rfl) rfl<|LL.l (LO.mv (.r rfl)) rfl<|LL.lg rfl rfl (GD.f _) (fun hg => LO.mv (.r rfl)) rfl<|LL.lg rfl rfl (GD.f _) (fun hg => LO.mv (.r rfl)) rfl<|LL.lg rfl rfl (GD.f _) (fun hg => LO.ixs S102 N109 htr.tk.sm (.g hg rfl) (.g hg rfl) rfl (by omega)) rfl<|LL.lg rfl rfl (GD.f _) (fun hg => LO.fa F109_1 (.g hg rfl) rfl) rfl<|LL.lg rfl rfl (GD.f _) (fun hg => LO.ld O3 (.g hg rfl) (fun w hw => cells_part (off := 1) ((fun w3 h3 => RO.cel (htr.keep w3 h3).tk ht_p) w hw) ⟨_, rfl⟩)) rfl<|LL.lg rfl rfl (GD.f _) (fun hg => LO.mv (.r rfl)) rfl<|LL.lg rfl rfl (GD.f _) (fun hg => LO.mv (.r rfl)) rfl<|LL.lg rfl rfl (GD.f _) (fun hg => LO.ixs S102 N109 htr.tk.sm (.g hg rfl) (.g hg rfl) rfl (by omega)) rfl<|LL.lg rfl rfl (GD.f _) (fun hg => LO.fa F109_2 (.g hg rfl) rfl) rfl<|LL.lg rfl rfl (GD.f _) (fun hg => LO.ld O40 (.g hg rfl) (fun w hw => cells_part (off := 2) ((fun w3 h3 => RO.cel (htr.keep w3 h3).tk ht_p) w hw) ⟨_, rfl⟩)) rfl<|LL.lg rfl rfl (GD.f _) (fun hg => LO.len S40 (.g hg rfl) rfl) rfl<|LL.lg rfl rfl (GD.f _) (fun hg => LO.add (.g hg rfl) (.g hg rfl) (wi (by omega) (by omega))) rfl<|LL.lg rfl rfl (GD.f _) (fun hg => LO.fa (r := 1) F109_1 (.r rfl) rfl) rfl<|LL.lg rfl rfl (GD.f _) (fun hg => LO.ld O3 (.g hg rfl) (fun _ hw => cells_at hw 3 rfl ⟨_, rfl⟩)) rfl<|LL.lg rfl rfl (GD.f _) (fun hg => LO.ne (.g hg rfl) (.g hg rfl)) rfl<|LL.l (LO.pkO (.r rfl) (.r rfl) rfl rfl) rfl<|LL.nil) (by kernel_rfl) ?_
                  refine VE.seqN ?_
                  refine VC.cond rfl (fun h419 => ?_) (fun h419 => ?_)
                  ·
                    (exfalso; (simp [hks, hpin] at h419; omega))
                  ·
                    refine VC.skip (VE.inN (VE.seqN ?_))
                    refine VC.reg (VO.l (LO.add (.r rfl) (.r rfl) (wi (by omega) (by omega))) rfl<|VO.l (LO.mv (.r rfl)) rfl<|VO.nil ?_)
                    refine VE.thenN fun a w ha hw => ⟨j + 1, (by omega), (by omega), ha.sub (.cons rfl (.cons rfl (.cons rfl (.cons rfl (.cons rfl (.cons rfl (.cons rfl (.cons rfl (.cons rfl (.cons rfl (.cons rfl (.cons rfl (.cons rfl (.cons rfl (.cons rfl .nil))))))))))))))), hw⟩
                ·
                  refine VC.exit (VE.thenX (VE.thenX (VE.inX (VE.seqN ?_))))
                  refine VC.seq ?_
                  refine VC.seq ?_
                  refine VC.reg (VO.l (LO.fa (r := 5) F109_5 (.r rfl) rfl) rfl<|VO.l (LO.ld O40 (.r rfl) (fun _ hw => cells_at hw 3 rfl ⟨_, rfl⟩)) rfl<|VO.l (LO.len S40 (.r rfl) rfl) rfl<|VO.l (LO.mv (.r rfl)) rfl<|VO.nil ?_)
                  refine VE.seqN ?_
                  refine VC.block ?_
                  refine VC.loopK (α := Nat) 0 (fun gx => [(424, .int .i64 (gx : Nat))]) [(2,_), (15,_), (17,_), (32,_), (33,_), (34,_), (41,_), (43,_), (239,_), (240,_), (241,_), (422,_), (423,_)] (fun gx => []) (fun gx => gx ≤ t.ch.length) (fun gx => t.ch.length - gx) 0 (by exact Nat.zero_le _) (.cons rfl (.cons rfl (.cons rfl (.cons rfl (.cons rfl (.cons rfl (.cons rfl (.cons rfl (.cons rfl (.cons rfl (.cons rfl (.cons rfl (.cons rfl (.cons rfl .nil)))))))))))))) (fun _ h => h) ?_
                  rintro j hj
                  refine VC.seq ?_
                  refine VC.reg (VO.l (LO.lt (.r rfl) (.r rfl)) rfl<|VO.nil ?_)
                  refine VE.seqN ?_
                  refine VC.seq ?_
                  refine VC.cond rfl (fun h425 => ?_) (fun h425 => ?_)
                  ·
                    obtain ⟨c, hcj⟩ := get_ex (l := t.ch) (n := j) (by omega)
                    obtain ⟨hcn_, sc, hsc, hks⟩ := ch_facts hbk.inv hm (List.mem_of_getElem? hcj)
                    obtain ⟨tcR, ht_c, hte_c⟩ := m_of htrm hsc
                    subst hte_c
                    have hks : n ∈ tcR.pa := hks
                    have hb_c := tk_bd hbk.inv hsc
                    have hb_c1 : tcR.pa.length ≤ (s.tk.map TkR.m).length := hb_c.2.1
                    rw [List.length_map] at hb_c1
                    have hcin : c ∈ fu.l := (hfu.mem c).2 (.base (by unfold nxC; rw [zT_at hm]; exact List.mem_of_getElem? hcj))
                    have hcl_ := (List.getElem?_eq_some_iff.1 ht_c).1
                    refine VC.skip (VE.seqN ?_)
                    refine VC.seq ?_
                    refine VC.block ?_
                    refine VC.seq ?_
                    refine VC.reg (VO.l (LO.ixs S40 N3 (htr.ti t htm).c.sm (.r rfl) (.r rfl) rfl (by omega)) rfl<|VO.l (LO.ld O3 (.r rfl) (fun w hw => cells_part (off := 0) ((fun w3 h3 => RO.cel ((htr.keep w3 h3).ti t htm).c hcj) w hw) ⟨_, rfl⟩)) rfl<|VO.l (LO.as (.r rfl)) rfl<|VO.nil ?_)
                    refine VE.seqN ?_
                    refine VC.seq ?_
                    refine VC.reg (VO.l (LO.mv (.r rfl)) rfl<|VO.l (LO.mv (.r rfl)) rfl<|VO.l (LO.le (.r rfl) (.r rfl)) rfl<|VO.l (LO.mv (.r rfl)) rfl<|VO.lg rfl rfl (GD.f _) (fun hg => LO.mv (.r rfl)) rfl<|VO.lg rfl rfl (GD.f _) (fun hg => LO.mv (.r rfl)) rfl<|VO.lg rfl rfl (GD.f _) (fun hg => LO.len S102 (.g hg rfl) rfl) rfl<|VO.lg rfl rfl (GD.f _) (fun hg => LO.ge (.g hg rfl) (.g hg rfl)) rfl<|VO.l (LO.pkO (.r rfl) (.r rfl) rfl rfl) rfl<|VO.l (LO.mv (.r rfl)) rfl<|VO.lg rfl rfl (GD.f _) (fun hg => LO.mv (.r rfl)) rfl<|VO.lg rfl rfl (GD.f _) (fun hg => LO.mv (.r rfl)) rfl<|VO.lg rfl rfl (GD.f _) (fun hg => LO.ixs S102 N109 htr.tk.sm (.g hg rfl) (.g hg rfl) rfl (by omega)) rfl<|VO.lg rfl rfl (GD.f _) (fun hg => LO.fa F109_4 (.g hg rfl) rfl) rfl<|VO.lg rfl rfl (GD.f _) (fun hg => LO.ld O40 (.g hg rfl) (fun w hw => cells_part (off := 4) ((fun w3 h3 => RO.cel (htr.keep w3 h3).tk ht_c) w hw) ⟨_, rfl⟩)) rfl<|VO.lg rfl rfl (GD.f _) (fun hg => LO.mv (.r rfl)) rfl<|VO.lg rfl rfl (GD.f _) (fun hg => LO.call (xs := [_,_]) (vs := [_,_]) C41 ⟨(.g hg rfl), (.g hg rfl), trivial⟩ (fun w2 hw => member_k tcR.pa tcR.pp tcR.pc n w2 ((htr.keep w2 hw).ti tcR (List.mem_of_getElem? ht_c)).p (by omega))) rfl<|VO.lg rfl rfl (GD.f _) (fun hg => LO.not (.g hg rfl)) rfl<|VO.l (LO.pkO (.r rfl) (.r rfl) rfl rfl) rfl<|VO.l (LO.mv (.r rfl)) rfl<|VO.lg rfl rfl (GD.f _) (fun hg => LO.mv (.r rfl)) rfl<|VO.lg rfl rfl (GD.f _) (fun hg => LO.mv (.r rfl)) rfl<|VO.lg rfl rfl (GD.f _) (fun hg => LO.call (xs := [_,_]) (vs := [_,_]) C41 ⟨(.g hg rfl), (.g hg rfl), trivial⟩ (fun w2 hw => member_k fu.l fu.p fu.c c w2 (RO.of_own hw 0 rfl) hful)) rfl<|VO.lg rfl rfl (GD.f _) (fun hg => LO.not (.g hg rfl)) rfl<|VO.l (LO.pkO (.r rfl) (.r rfl) rfl rfl) rfl<|VO.nil ?_)
                    refine VE.seqN ?_
                    refine VC.cond rfl (fun h452 => ?_) (fun h452 => ?_)
                    ·
                      (exfalso; (simp [hks, hcin] at h452; omega))
                    ·
                      refine VC.skip (VE.inN (VE.seqN ?_))
                      refine VC.reg (VO.l (LO.add (.r rfl) (.r rfl) (wi (by omega) (by omega))) rfl<|VO.l (LO.mv (.r rfl)) rfl<|VO.nil ?_)
                      refine VE.thenN fun a w ha hw => ⟨j + 1, (by omega), (by omega), ha.sub (.cons rfl (.cons rfl (.cons rfl (.cons rfl (.cons rfl (.cons rfl (.cons rfl (.cons rfl (.cons rfl (.cons rfl (.cons rfl (.cons rfl (.cons rfl (.cons rfl .nil)))))))))))))), hw⟩
                  ·
                    refine VC.exit (VE.thenX (VE.thenX (VE.inX (VE.seqN ?_))))
                    refine VC.seq ?_
                    refine VC.seq ?_
                    refine VC.reg (VO.l (LO.mv (.r rfl)) rfl<|VO.l (LO.len S40 (.r rfl) rfl) rfl<|VO.l (LO.mv (.r rfl)) rfl<|VO.nil ?_)
                    refine VE.seqN ?_
                    refine VC.block ?_
                    refine VC.loopK (α := Nat) 0 (fun gx => [(456, .int .i64 (gx : Nat))]) [(2,_), (15,_), (17,_), (32,_), (33,_), (34,_), (43,_), (239,_), (240,_), (241,_), (454,_), (455,_)] (fun gx => []) (fun gx => gx ≤ pa.l.length) (fun gx => pa.l.length - gx) 0 (by exact Nat.zero_le _) (.cons rfl (.cons rfl (.cons rfl (.cons rfl (.cons rfl (.cons rfl (.cons rfl (.cons rfl (.cons rfl (.cons rfl (.cons rfl (.cons rfl (.cons rfl .nil))))))))))))) (fun _ h => h) ?_
                    rintro j hj
                    refine VC.seq ?_
                    refine VC.reg (VO.l (LO.lt (.r rfl) (.r rfl)) rfl<|VO.nil ?_)
                    refine VE.seqN ?_
                    refine VC.seq ?_
                    refine VC.cond rfl (fun h457 => ?_) (fun h457 => ?_)
                    ·
                      obtain ⟨p, hpj⟩ := get_ex (l := pa.l) (n := j) (by omega)
                      obtain ⟨hpn, hpf⟩ := past_lt hbk.inv ((hpa.mem p).1 (List.mem_of_getElem? hpj))
                      obtain ⟨tq, htq⟩ := get_ex (l := s.tk) (n := p) (by omega)
                      refine VC.skip (VE.seqN ?_)
                      refine VC.seq ?_
                      refine VC.block ?_
                      refine VC.seq ?_
                      refine VC.reg (VO.l (LO.ixo S40 N3 (fun _ hw => (own_rows hw 1 rfl).some (by rw [List.length_map])) (.r rfl) (.r rfl) rfl (by omega)) rfl<|VO.l (LO.ld O3 (.r rfl) (fun w hw => cells_part (off := 0) (own_cell hw 1 rfl hpj) ⟨_, rfl⟩)) rfl<|VO.l (LO.as (.r rfl)) rfl<|VO.nil ?_)
                      refine VE.seqN ?_
                      refine VC.seq ?_
                      refine VC.reg (VO.l (LO.mv (.r rfl)) rfl<|VO.l (LO.mv (.r rfl)) rfl<|VO.h rfl<|HO.callx (xs := [_,_]) (vs := [_,_]) C53 ⟨(.r rfl), (.r rfl), trivial⟩ (fun w2 hw => Future_ok yb.1 (⟨G, lv, ((far % 4 : Nat) : Int), yb.2⟩ : BkH) s p tq w2 (hBI.keep w2 hw) hbk.inv hlen htq) fun f2 hf2 => VO.h rfl<|HO.lo (LO.mv (.r rfl))<|VO.h rfl<|HO.lo (LO.ex (.r rfl) rfl)<|VO.h rfl<|HO.lo (LO.ex (.r rfl) rfl)<|VO.h rfl<|HO.lo (LO.as (.r rfl))<|VO.h rfl<|HO.lo (LO.as (.r rfl))<|VO.nil ?_)
                      refine VE.seqN ?_
                      refine VC.seq ?_
                      have hf2l : f2.l.length ≤ 1000000 := rl_len (B := s.tk.length) hf2 (fun x hx => by have := future_lt hbk.inv hx; rw [List.length_map] at this; omega) (by omega)
                      refine VC.reg (VO.l (LO.mv (.r rfl)) rfl<|VO.l (LO.lt (.r rfl) (.r rfl)) rfl<|VO.l (LO.mv (.r rfl)) rfl<|VO.lg rfl rfl (GD.f _) (fun hg => LO.mv (.r rfl)) rfl<|VO.lg rfl rfl (GD.f _) (fun hg => LO.mv (.r rfl)) rfl<|VO.lg rfl rfl (GD.f _) (fun hg => LO.ge (.g hg rfl) (.g hg rfl)) rfl<|VO.l (LO.pkO (.r rfl) (.r rfl) rfl rfl) rfl<|VO.l (LO.mv (.r rfl)) rfl<|VO.lg rfl rfl (GD.f _) (fun hg => LO.mv (.r rfl)) rfl<|VO.lg rfl rfl (GD.f _) (fun hg => LO.ne (.g hg rfl) (.r rfl)) rfl<|VO.l (LO.pkO (.r rfl) (.r rfl) rfl rfl) rfl<|VO.l (LO.mv (.r rfl)) rfl<|VO.lg rfl rfl (GD.f _) (fun hg => LO.mv (.r rfl)) rfl<|VO.lg rfl rfl (GD.f _) (fun hg => LO.mv (.r rfl)) rfl<|VO.lg rfl rfl (GD.f _) (fun hg => LO.call (xs := [_,_]) (vs := [_,_]) C41 ⟨(.g hg rfl), (.g hg rfl), trivial⟩ (fun w2 hw => member_k f2.l f2.p f2.c n w2 (RO.of_own hw 0 rfl) hf2l)) rfl<|VO.lg rfl rfl (GD.f _) (fun hg => LO.not (.g hg rfl)) rfl<|VO.l (LO.pkO (.r rfl) (.r rfl) rfl rfl) rfl<|VO.nil ?_)
                      refine VE.seqN ?_
                      refine VC.cond rfl (fun h482 => ?_) (fun h482 => ?_)
                      ·
                        (exfalso; (have z := (hf2.mem n).2 hpf; simp [z] at h482; omega))
                      ·
                        refine VC.skip (VE.inN (VE.seqN ?_))
                        refine VC.reg (VO.l (LO.add (.r rfl) (.r rfl) (wi (by omega) (by omega))) rfl<|VO.l (LO.mv (.r rfl)) rfl<|VO.nil ?_)
                        refine VE.thenN fun a w ha hw => ⟨j + 1, (by omega), (by omega), ha.sub (.cons rfl (.cons rfl (.cons rfl (.cons rfl (.cons rfl (.cons rfl (.cons rfl (.cons rfl (.cons rfl (.cons rfl (.cons rfl (.cons rfl (.cons rfl .nil))))))))))))), hw.sel [1,2,3,4] rfl⟩
                    ·
                      refine VC.exit (VE.thenX (VE.thenX (VE.inX (VE.seqN ?_))))
                      refine VC.seq ?_
                      refine VC.reg (VO.l (LO.mv (.r rfl)) rfl<|VO.l (LO.len S40 (.r rfl) rfl) rfl<|VO.l (LO.mv (.r rfl)) rfl<|VO.nil ?_)
                      refine VE.seqN ?_
                      refine VC.block ?_
                      refine VC.loopK (α := Nat) 0 (fun gx => [(486, .int .i64 (gx : Nat))]) [(2,_), (15,_), (17,_), (32,_), (33,_), (34,_), (239,_), (240,_), (241,_), (484,_), (485,_)] (fun gx => []) (fun gx => gx ≤ fu.l.length) (fun gx => fu.l.length - gx) 0 (by exact Nat.zero_le _) (.cons rfl (.cons rfl (.cons rfl (.cons rfl (.cons rfl (.cons rfl (.cons rfl (.cons rfl (.cons rfl (.cons rfl (.cons rfl (.cons rfl .nil)))))))))))) (fun _ h => h) ?_
                      rintro j hj
                      refine VC.seq ?_
                      refine VC.reg (VO.l (LO.lt (.r rfl) (.r rfl)) rfl<|VO.nil ?_)
                      refine VE.seqN ?_
                      refine VC.seq ?_
                      refine VC.cond rfl (fun h487 => ?_) (fun h487 => ?_)
                      ·
                        obtain ⟨c, hcj⟩ := get_ex (l := fu.l) (n := j) (by omega)
                        have hcf := future_lt hbk.inv ((hfu.mem c).1 (List.mem_of_getElem? hcj))
                        rw [List.length_map] at hcf
                        refine VC.skip (VE.seqN ?_)
                        refine VC.seq ?_
                        refine VC.block ?_
                        refine VC.seq ?_
                        refine VC.reg (VO.l (LO.ixo S40 N3 (fun _ hw => (own_rows hw 0 rfl).some (by rw [List.length_map])) (.r rfl) (.r rfl) rfl (by omega)) rfl<|VO.l (LO.ld O3 (.r rfl) (fun w hw => cells_part (off := 0) (own_cell hw 0 rfl hcj) ⟨_, rfl⟩)) rfl<|VO.l (LO.as (.r rfl)) rfl<|VO.nil ?_)
                        refine VE.seqN ?_
                        refine VC.seq ?_
                        refine VC.reg (VO.l (LO.mv (.r rfl)) rfl<|VO.l (LO.mv (.r rfl)) rfl<|VO.l (LO.le (.r rfl) (.r rfl)) rfl<|VO.l (LO.mv (.r rfl)) rfl<|VO.lg rfl rfl (GD.f _) (fun hg => LO.mv (.r rfl)) rfl<|VO.lg rfl rfl (GD.f _) (fun hg => LO.mv (.r rfl)) rfl<|VO.lg rfl rfl (GD.f _) (fun hg => LO.len S102 (.g hg rfl) rfl) rfl<|VO.lg rfl rfl (GD.f _) (fun hg => LO.ge (.g hg rfl) (.g hg rfl)) rfl<|VO.l (LO.pkO (.r rfl) (.r rfl) rfl rfl) rfl<|VO.nil ?_)
                        refine VE.seqN ?_
                        refine VC.cond rfl (fun h498 => ?_) (fun h498 => ?_)
                        ·
                          (exfalso; omega)
                        ·
                          refine VC.skip (VE.inN (VE.seqN ?_))
                          refine VC.reg (VO.l (LO.add (.r rfl) (.r rfl) (wi (by omega) (by omega))) rfl<|VO.l (LO.mv (.r rfl)) rfl<|VO.nil ?_)
                          refine VE.thenN fun a w ha hw => ⟨j + 1, (by omega), (by omega), ha.sub (.cons rfl (.cons rfl (.cons rfl (.cons rfl (.cons rfl (.cons rfl (.cons rfl (.cons rfl (.cons rfl (.cons rfl (.cons rfl (.cons rfl .nil)))))))))))), hw⟩
                      ·
                        refine VC.exit (VE.thenX (VE.thenX (VE.inX (VE.inN (VE.seqN ?_)))))
                        refine VC.reg (VO.l (LO.add (.r rfl) (.r rfl) (wi (by omega) (by omega))) rfl<|VO.l (LO.mv (.r rfl)) rfl<|VO.nil ?_)
                        refine VE.thenN fun a w ha hw => ⟨n + 1, (by omega), (by omega), ha.sub (.cons rfl (.cons rfl (.cons rfl (.cons rfl (.cons rfl (.cons rfl (.cons rfl (.cons rfl .nil)))))))), hw.sel [2] rfl⟩
          ·
            have hne : n = tr.tk.length := by omega
            have hnt2 : n = s.tk.length := by rw [hne, htl]
            subst hnt2
            refine VC.exit (VE.thenX (VE.thenX (VE.inX (VE.seqN ?_))))
            refine VC.seq ?_
            have hcs : ∀ n, n ∈ cn → n ≤ 4096 := by rw [hcn]; exact hbk.sum
            refine VC.reg (VO.l (LO.as (.r rfl)) rfl<|VO.nil ?_)
            refine VE.seqN ?_
            refine VC.seq ?_
            refine VC.seq ?_
            refine VC.reg (VO.l (LO.mv (.r rfl)) rfl<|VO.l (LO.len S40 (.r rfl) rfl) rfl<|VO.l (LO.mv (.r rfl)) rfl<|VO.nil ?_)
            refine VE.seqN ?_
            refine VC.block ?_
            refine VC.loopK (α := Nat) 0 (fun gx => [(55, .int .i64 (((cn.take gx).sum : Nat) : Int)), (503, .int .i64 (gx : Nat))]) [(15,_), (33,_), (501,_), (502,_)] (fun gx => []) (fun gx => gx ≤ cn.length) (fun gx => cn.length - gx) 0 (by exact Nat.zero_le _) (.cons rfl (.cons rfl (.cons rfl (.cons rfl (.cons rfl (.cons rfl .nil)))))) (fun _ h => h) ?_
            rintro i2 hi2
            refine VC.seq ?_
            refine VC.reg (VO.l (LO.lt (.r rfl) (.r rfl)) rfl<|VO.nil ?_)
            refine VE.seqN ?_
            refine VC.seq ?_
            refine VC.cond rfl (fun h504 => ?_) (fun h504 => ?_)
            ·
              have hsb := sumt_bd hcs i2
              have hsb2 := sumt_succ (l := cn) (i := i2) (by omega)
              have hsb3 := sumt_bd hcs (i2 + 1)
              refine VC.skip (VE.seqN ?_)
              refine VC.seq ?_
              refine VC.block ?_
              refine VC.seq ?_
              refine VC.reg (VO.l (LO.ixs S40 N3 hcnR.sm (.r rfl) (.r rfl) rfl (by omega)) rfl<|VO.l (LO.ld O3 (.r rfl) (fun w hw => cells_part (off := 0) ((fun w3 h3 => RO.cel (hcnR.keep w3 h3) (getNn (n := i2) (by omega))) w hw) ⟨_, rfl⟩)) rfl<|VO.l (LO.as (.r rfl)) rfl<|VO.nil ?_)
              refine VE.seqN ?_
              refine VC.reg (VO.l (LO.mv (.r rfl)) rfl<|VO.l (LO.mv (.r rfl)) rfl<|VO.l (LO.add (.r rfl) (.r rfl) (wi (by omega) (by omega))) rfl<|VO.l (LO.as (.r rfl)) rfl<|VO.nil ?_)
              refine VE.inN (VE.seqN ?_)
              refine VC.reg (VO.l (LO.add (.r rfl) (.r rfl) (wi (by omega) (by omega))) rfl<|VO.l (LO.mv (.r rfl)) rfl<|VO.nil ?_)
              refine VE.thenN fun a w ha hw => ⟨i2 + 1, (by omega), (by omega), ha.sub (.cons (congrArg (fun z => some (Value.int .i64 z)) (by have z := sumt_succ (l := cn) (i := i2) (by omega); omega)) (.cons rfl (.cons rfl (.cons rfl (.cons rfl (.cons rfl .nil)))))), hw⟩
            ·
              have hie2 : i2 = cn.length := by omega
              subst hie2
              rw [List.take_length, hcn, ← prs_len]
              refine VC.exit (VE.thenX (VE.thenX (VE.inX (VE.seqN ?_))))
              refine VC.seq ?_
              refine VC.reg (VO.l (LO.mv (.r rfl)) rfl<|VO.l (LO.lenM (kE := pairI) (vE := Value.bool) (M := vis s.of (s.tk.map TkR.m) s.tk.length 0) ⟨_,_, Try.underlying107⟩ (.r rfl) rfl (fun _ hw => St.inv hw 0 _ rfl) pairI_inj prs_nodup (fun a => (prs_of hbk.inv a).trans (by have z := vis_end hbk.inv a; rw [List.length_map] at z; exact z.symm)) rfl) rfl<|VO.l (LO.mv (.r rfl)) rfl<|VO.l (LO.eq (.r rfl) (.r rfl)) rfl<|VO.l (LO.mv (.r rfl)) rfl<|VO.lg rfl rfl (GD.t _) (fun hg => LO.mv (.r rfl)) rfl<|VO.lg rfl rfl (GD.t _) (fun hg => LO.call (xs := [_]) (vs := [_]) C50 ⟨(.g hg rfl), trivial⟩ (fun w2 hw => Tally_ok yb.1 (⟨G, lv, ((far % 4 : Nat) : Int), yb.2⟩ : BkH) s.la ⟨s.pm, s.ys.length, s.cm⟩ s.pt s.ct s.kd s.tk w2 (hBI.keep w2 hw).c s.of (hBI.keep w2 hw).of (prs s.Ms) prs_nodup (prs_of hbk.inv))) rfl<|VO.lg rfl rfl (GD.t _) (fun hg => LO.fd1 (F := _) Try.underlying105 rfl rfl O3 (.g hg rfl) rfl) rfl<|VO.lg rfl rfl (GD.t _) (fun hg => LO.mv (.r rfl)) rfl<|VO.lg rfl rfl (GD.t _) (fun hg => LO.eq (.g hg rfl) (.g hg rfl)) rfl<|VO.l (LO.pkA (.r rfl) rfl rfl (.r rfl)) rfl<|VO.l (LO.mv (.r rfl)) rfl<|VO.lg rfl rfl (GD.t _) (fun hg => LO.call (xs := []) (vs := []) C16 trivial (fun w2 _ => works_c w2)) rfl<|VO.l (LO.pkA (.r rfl) rfl rfl (.r rfl)) rfl<|VO.l (LO.as (.r rfl)) rfl<|VO.nil ?_)
              refine VE.seqN ?_
              refine VC.ret (VE.res (vs := [_]) rfl ⟨rfl, trivial⟩ (fun w hw => ?_))
              refine ⟨?_, St.based hst1 hw⟩
              refine congrArg (fun z => Ending.returned (.bool z)) ?_
              simp

end Go.Proofs.Ytgemekpofpoopaa

namespace Go.Proofs.Ytgemekpofpoopaa
open Go.SL Go.Proofs Go.Cast Go.Cell
set_option linter.unusedVariables false


theorem K5 : Try.prog.cellsOf 5 = 1 := by kernel_rfl
theorem K61 : Try.prog.cellsOf 61 = 1 := by kernel_rfl
theorem kb_u8 {n : Int} (h : kb .u8 n) : 0 ≤ n ∧ n ≤ 255 := by simpa [kb, IntKind.min, IntKind.max, IntKind.signed, IntKind.bits] using h
section
variable {H : Type} {enc : TypeId × Value → H} {W : World}
theorem rd5 : RD enc Try.prog W 5 fun cs => ∃ n : Nat, cs = uC n ∧ n ≤ 255 := fun n cs x hx => by
  obtain ⟨m, rfl, hm⟩ := RD.int Try.underlying5 _ _ _ hx
  have := kb_u8 hm
  refine ⟨m.toNat, ?_, by omega⟩
  show _ = [Value.int .u8 ((m.toNat : Nat) : Int)]
  rw [Int.toNat_of_nonneg this.1]
theorem rd61 : RD enc Try.prog W 61 fun cs => ∃ (p : Option Addr) (cap : Nat) (l : List Nat), cs = [.slice p l.length cap] ∧ RO 1 uC W p l ∧ (∀ n, n ∈ l → n ≤ 255) ∧ l.length ≤ 9223372036854775807 := fun n cs x hx => by
  obtain ⟨p, cap, rows, rfl, h1, h2, h3⟩ := RD.slice Try.underlying61 K5 (by decide) rd5 _ _ _ hx
  obtain ⟨l, rfl, h5⟩ := rows_map (f := uC) (Q := fun n => n ≤ 255) (fun r hr => (h3 r hr).2)
  exact ⟨p, cap, l, by simp, h2, h5, by simpa using h1⟩
end

end Go.Proofs.Ytgemekpofpoopaa

namespace Go.Proofs.Ytgemekpofpoopaa
open Go.SL Go.Proofs Go.Cast Go.Cell
set_option linter.unusedVariables false



section
variable {H : Type} {enc : TypeId × Value → H} {W : World}
theorem rd61c : RD enc Try.prog W 61 fun cs => ∃ r : RowA Nat, cs = rowC r ∧ (RO 1 uC W r.p r.l ∧ r.l.length ≤ r.c) ∧ (∀ n, n ∈ r.l → n ≤ 255) ∧ r.l.length ≤ 9223372036854775807 := fun n cs x hx => by
  obtain ⟨p, cap, l, rfl, h1, h2, h3⟩ := rd61 _ _ _ hx
  exact ⟨⟨p, cap, l⟩, rfl, ⟨h1, RD.cap Try.underlying61 hx⟩, h2, h3⟩
theorem rd97 : RD enc Try.prog W 97 fun cs => ∃ (p : Option Addr) (cap : Nat) (l : List (RowA Nat)), cs = [.slice p l.length cap] ∧ RR 1 uC W p l ∧ ∀ r, r ∈ l → (∀ n, n ∈ r.l → n ≤ 255) ∧ r.l.length ≤ 9223372036854775807 := fun n cs x hx => by
  obtain ⟨p, cap, rows, rfl, h1, h2, h3⟩ := RD.slice Try.underlying97 K61 (by decide) rd61c _ _ _ hx
  obtain ⟨l, rfl, h5⟩ := rows_map (f := rowC) (Q := fun r : RowA Nat => (RO 1 uC W r.p r.l ∧ r.l.length ≤ r.c) ∧ (∀ n, n ∈ r.l → n ≤ 255) ∧ r.l.length ≤ 9223372036854775807) (fun r hr => (h3 r hr).2)
  exact ⟨p, cap, l, by simp, ⟨h2, fun r hr => ⟨(h5 r hr).1.2, (h5 r hr).1.1⟩⟩, fun r hr => (h5 r hr).2⟩
end

end Go.Proofs.Ytgemekpofpoopaa
