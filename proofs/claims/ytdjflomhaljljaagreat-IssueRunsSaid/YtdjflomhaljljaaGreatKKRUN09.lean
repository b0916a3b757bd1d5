/-
  What is played in the document.
  (and more)
-/
import Derived.Test.YtdjflomhaljljaaGreatKKRUN08

set_option maxRecDepth 20000
set_option maxHeartbeats 8000000
namespace Go.Proofs.YtdjflomhaljljaaGreat
open Go.SL Go.Proofs Go.Cast
set_option linter.unusedVariables false
abbrev dnew (g : Grid) (rgs : List RG) (pg : Option Addr) (cg : Nat) (a b d : Int) (k : Nat) : DoM := ⟨k, g, rgs, pg, cg, a, b, d, [], none, 0, [], none, 0, [], none, 0⟩
theorem last_le {ts : List Int} (h : ts.Pairwise (· < ·)) {a : Int} (ha : a ∈ ts) : a ≤ lastI ts := by
  rcases List.eq_nil_or_concat ts with q | ⟨l, b, q⟩
  · subst q; cases ha
  · rw [q, List.concat_eq_append] at h ha ⊢
    rw [lastI_snoc]
    rcases List.mem_append.1 ha with z | z
    · have := (List.pairwise_append.1 h).2.2 a z b (by simp); omega
    · rw [List.mem_singleton.1 z]; exact Int.le_refl _
theorem inc_snoc {ts : List Int} (h : ts.Pairwise (· < ·)) {T : Int} (hl : ts = [] ∨ lastI ts < T) : (ts ++ [T]).Pairwise (· < ·) := by
  refine List.pairwise_append.2 ⟨h, List.pairwise_singleton _ _, fun a ha b hb => ?_⟩
  rw [List.mem_singleton.1 hb]
  rcases hl with q | q
  · subst q; cases ha
  · have := last_le h ha; omega
section
variable {s : Sp} {l : List EnP} {d : DoM} {n : Nat} {x : EnP}
theorem en_st0 (hlv : x.lv = 0) (he : enE s (l.take n) x = 0) : (0 ≤ x.t ∧ x.t ≤ 4294967296) ∧ (tsP (l.take n) = [] ∨ lastI (tsP (l.take n)) < x.t) ∧ (l.take n).length < 256 ∧ lookE s.g x.l = 0 := by
  unfold enE at he
  rw [if_pos hlv] at he
  split at he
  · omega
  · split at he
    · omega
    · rename_i h1 h2
      split at he
      · omega
      · refine ⟨Classical.not_not.1 h1, ?_, by omega, he⟩
        rcases Nat.eq_zero_or_pos (tsP (l.take n)).length with q | q
        · exact .inl (List.eq_nil_of_length_eq_zero q)
        · right; omega
theorem en_nt0 (hlv : ¬ x.lv = 0) (he : enE s (l.take n) x = 0) : (0 ≤ x.t ∧ x.t ≤ 4294967296) ∧ (l.take n).length < 256 ∧ fieldE 1073741824 ⟨x.g, x.vs⟩ = 0 ∧ [x.g.x, x.g.y, x.g.size, x.g.wide, x.g.high] = [s.g.x, s.g.y, s.g.size, s.g.wide, s.g.high] := by
  unfold enE at he
  rw [if_neg hlv] at he
  split at he
  · omega
  · rename_i h1
    split at he
    · omega
    · split at he
      · rename_i z; exact absurd he z
      · rename_i z
        split at he
        · omega
        · rename_i z2
          exact ⟨Classical.not_not.1 h1, by omega, Classical.not_not.1 z, Classical.not_not.1 z2⟩
theorem PlD.step (h : PlD s l d n) (hx : l[n]? = some x) (hlv : x.lv = 0) (hb : x.l.length < 1000000000 ∧ ∀ c, c ∈ x.l → c.sure.length < 1000000000000 ∧ c.may.length < 1000000000000) (he : enE s (l.take n) x = 0) {y : DsY} (hy1 : y.x.p = ⟨x.t, x.l, gZ, [], 0⟩) (hy2 : DoS (y.o d x.t) (stP s (l.take n) ++ [⟨x.t, thsP d.sp x.l⟩])) : PlD s l (y.o d x.t) (n + 1) := by
  obtain ⟨e1, e2, e3, e4⟩ := en_st0 hlv he
  have yt : y.x.t = x.t := congrArg EnP.t hy1
  have yl : y.x.lv = 0 := congrArg EnP.lv hy1
  refine ⟨h.sp, ?_, ?_, ?_, h.px, ?_, ?_, h.spec⟩
  · rw [take_en hx, stP_y hlv]; rw [h.sp] at hy2; exact hy2
  · show (d.lg ++ [y.x]).map EnM.p = _
    rw [List.map_append, h.lg, take_en hx, List.map_append]
    refine congrArg (fun z : List EnP => (l.take n).map EnP.canon ++ z) ?_
    show [y.x.p] = [x.canon]
    rw [hy1]; unfold EnP.canon; rw [if_pos hlv]
  · intro z hz
    rcases List.mem_append.1 hz with q | q
    · exact h.bd z q
    · rw [List.mem_singleton.1 q, hy1]; exact ⟨hb.1, hb.2, Nat.zero_le _⟩
  · intro z hz
    rcases List.mem_append.1 hz with q | q
    · exact h.nt z q
    · rw [List.mem_singleton.1 q]; exact ⟨by rw [yt]; exact e1, fun k => absurd yl k⟩
  · show (d.ts ++ [x.t]).Pairwise _
    exact inc_snoc h.inc (by rw [h.ts]; exact e2)
theorem PlD.note (h : PlD s l d n) (hx : l[n]? = some x) (hlv : ¬ x.lv = 0) (he : enE s (l.take n) x = 0) {p q : Option Addr} {c e : Nat} : PlD s l { d with lg := d.lg ++ [EnM.mk x.t [] none 0 x.g x.vs p c x.lv], pl := q, cl := e } (n + 1) := by
  obtain ⟨e1, e2, e3, e4⟩ := en_nt0 hlv he
  have hlen : (x.vs.length : Int) = x.g.wide * x.g.high := by
    unfold fieldE at e3
    split at e3
    · omega
    · split at e3
      · omega
      · rename_i z; exact Classical.not_not.1 z
  refine ⟨h.sp, ?_, ?_, ?_, h.px, ?_, h.inc, h.spec⟩
  · rw [take_en hx, stP_n hlv]; exact dnote_st h.dos
  · show (d.lg ++ [_]).map EnM.p = _
    rw [List.map_append, h.lg, take_en hx, List.map_append]
    refine congrArg (fun z : List EnP => (l.take n).map EnP.canon ++ z) ?_
    show [_] = [x.canon]
    unfold EnP.canon; rw [if_neg hlv]; rfl
  · intro z hz
    rcases List.mem_append.1 hz with q | q
    · exact h.bd z q
    · rw [List.mem_singleton.1 q]; exact ⟨show (0 : Nat) < _ by decide, fun c hc => (by cases hc), field_len e3⟩
  · intro z hz
    rcases List.mem_append.1 hz with q | q
    · exact h.nt z q
    · rw [List.mem_singleton.1 q]
      refine ⟨e1, fun _ r hr p hp => ?_⟩
      obtain ⟨k, hk⟩ := List.mem_iff_getElem?.1 hr
      have hkl := (List.getElem?_eq_some_iff.1 hk).1
      have hs := (specOk h.spec).2.2.2.1 k (by show k < (d.rg.map RG.r).length; rw [List.length_map]; exact hkl)
      have e5 : d.sp.regs.getD k default = r.r := by
        show (d.rg.map RG.r).getD k default = _
        rw [List.getD_eq_getElem?_getD, List.getElem?_map, hk]; rfl
      rw [e5] at hs
      have hg : d.g = s.g := h.g
      simp only [List.cons.injEq, and_true] at e4
      show 0 ≤ p ∧ p < (x.vs.length : Int)
      rw [hlen, e4.2.2.2.1, e4.2.2.2.2, ← hg]
      obtain ⟨i, hi, rfl⟩ := List.getElem_of_mem hp
      have z := pix_in hs hi
      rw [List.getD_eq_getElem?_getD, List.getElem?_eq_getElem hi] at z
      change 0 ≤ r.r.pix[i] ∧ r.r.pix[i] ≤ d.g.wide * d.g.high - 1 at z
      omega
theorem PlD.new {g : Grid} {rgs : List RG} {pg : Option Addr} {cg k : Nat} {a b c : Int} (hs : specE s = 0) (hse : s = ⟨g, rgs.map RG.r, a, b, c⟩) (hp : ∀ x, x ∈ rgs → x.r.pix.length < 1000000000000) : PlD s l (dnew g rgs pg cg a b c k) 0 := by
  have hok := specOk hs
  obtain ⟨_, hN1, hN2,_,_,_, hr5, hr6⟩ := hok
  subst hse
  dsimp only at hN1 hN2 hr5 hr6
  rw [List.length_map] at hN1 hN2
  refine ⟨rfl, ⟨rfl, rfl, Nat.zero_le _, fun s hs => (by cases hs), fun s hs => (by cases hs), ⟨by show 0 ≤ c; omega, by show c ≤ 1000000; omega⟩, by show 0 < rgs.length ∧ rgs.length ≤ 32; omega⟩, rfl, fun x hx => (by cases hx), hp, fun x hx => (by cases hx), List.Pairwise.nil, hs⟩
end
theorem C7 : IsFn Tryz.prog 7 := ⟨_, Tryz.func7, by decide, rfl⟩
theorem C12 : IsFn Tryz.prog 12 := ⟨_, Tryz.func12, by decide, rfl⟩
theorem C14 : IsFn Tryz.prog 14 := ⟨_, Tryz.func14, by decide, rfl⟩
theorem runE_ln {H : Int} {st : List Stp} {s : Stp} {cs : List Cs} : ∀ n, (runE H st s cs n).length ≤ n
  | 0 => Nat.le_refl _
  | n + 1 => by
    have := runE_ln (H := H) (st := st) (s := s) (cs := cs) n
    unfold runE stepE
    split
    · omega
    · rw [List.length_append, List.length_singleton]; omega
theorem stP_len {s : Sp} {l : List EnP} : (stP s l).length ≤ l.length := by unfold stP; rw [List.length_map]; exact List.length_filter_le _ _
theorem PlD.ev {s : Sp} {l : List EnP} {d : DoM} {n : Nat} {x : EnP} (h : PlD s l d n) (hx : l[n]? = some x) (hlv : x.lv = 0) : evP s l (n + 1) = evP s l n ++ evF d.hold d.rg.length (stP s (l.take n)) ⟨x.t, thsP d.sp x.l⟩ := by
  show evP s l n ++ enEv s (l.take n) (l.getD n zEn) = _
  rw [List.getD_eq_getElem?_getD, hx]
  show evP s l n ++ enEv s (l.take n) x = _
  unfold enEv
  rw [if_pos hlv, h.sp, h.hold, h.nr]
structure DpY where
  o : DoM
  pe : Option Addr
  ce : Nat
theorem dPlay_ok (g : Grid) (rgs : List RG) (pg : Option Addr) (cg : Nat) (a b d : Int) (s : Sp) (log : List EnM) (pl : Option Addr) (cl : Nat) (w : World) (hse : s = ⟨g, rgs.map RG.r, a, b, d⟩) (hs : specE s = 0) (hrl : rgs.length < 1000000000000) (hrg : Regs w pg rgs) (hll : log.length ≤ 256) (hl : LogM w pl log) (hall : ∀ (k : Nat) (x : EnM), log[k]? = some x → enE s ((log.map EnM.p).take k) x.p = 0) :
 Calls Tryz.prog 20 #[specV g pg rgs.length cg a b d, .slice pl log.length cl] w fun e w' => ∃ y : DpY, PlD s (log.map EnM.p) y.o log.length ∧ e = .returned (.tuple #[ptrN y.o.b, .slice y.pe (evP s (log.map EnM.p) log.length).length y.ce, .int .i64 0]) ∧ St (bs w) (dofR y.o ++ [own 135 7 y.pe y.ce ((evP s (log.map EnM.p) log.length).map evC)]) w' := by
 refine enter (vs := [_,_]) (env := [(0,_), (1,_)]) Tryz.func20 rfl rfl rfl rfl ?_
 refine VC.q (VO.h rfl<|HO.box (C := #[_,_,_,_,_,_,_,_,_]) rfl rfl fun b1 => VO.a rfl rfl<|VO.a rfl rfl<|VO.a rfl rfl<|VO.n<|VC.q (VO.l (LO.lda (vs := [_,_,_,_,_,_,_,_,_]) A42 (.r rfl) (cells_blk 0 rfl ⟨_, rfl⟩) rfl) rfl<|VO.h rfl<|HO.callx (xs := [_]) (vs := [_]) C7 ⟨(.r rfl), trivial⟩ (fun w hw => rNew_c g rgs pg cg a b d w hrl (hrg.keep hw) (by rw [← hse]; exact hs)) fun q hq => VO.h rfl<|HO.lo (LO.mv (.r rfl))<|VO.h rfl<|HO.lo (LO.ex (.r rfl) rfl)<|VO.h rfl<|HO.lo (LO.ex (.r rfl) rfl)<|VO.h rfl<|HO.lo (LO.as (.r rfl))<|VO.h rfl<|HO.lo (LO.as (.r rfl))<|VO.n<|VC.seq ?_))
 refine VC.q (VO.m rfl rfl<|VO.u rfl rfl rfl<|VO.n<|VC.cond rfl (fun h20 => ?_) (fun h20 => ?_))
 · (exfalso; exact h20 rfl)
 ·
  refine VC.skip (VE.seqN<|VC.seq<|VC.q (VO.m rfl rfl<|VO.l (LO.len S44 (.r rfl) rfl) rfl<|VO.l (LO.gt (.r rfl) (.r rfl)) rfl<|VO.n<|VC.cond rfl (fun h24 => ?_) (fun h24 => ?_)))
  · (exfalso; omega)
  ·
   refine VC.skip (VE.seqN<|VC.seq ?_)
   have hqp : ∀ x, x ∈ q.2.1 → x.r.pix.length < 1000000000000 := fun x hx => by have h1 : x.r ∈ rgs.map RG.r := (by rw [← hq]; exact List.mem_map_of_mem hx); obtain ⟨z, hz, e⟩ := List.mem_map.1 h1; rw [← e]; exact (hrg.ok z hz).2
   have hse2 : s = ⟨g, q.2.1.map RG.r, a, b, d⟩ := by rw [hq]; exact hse
   refine VC.res (L' := dofR (dnew g q.2.1 q.2.2.1 q.2.2.2 a b d q.1) ++ [_]) (fun w hw => (by exact ((((St.bagD (Rs := []) ((selK (L1 := [_,_,_,_]) [0,1,2,3] rfl rfl _ hw).ownNil 55 9)).ownNil 3 1).ownNil 131 1).bagRNil 168 3 thrC).sel [5,6,7,4,3,2,1,0,8] rfl))<|VC.reg (VO.a rfl rfl<|VO.n<|VC.seq<|VC.q (VO.a rfl rfl<|VO.n ?_))
   refine VC.block<|VC.loopK (α := Nat × DoM × (List Ev) × (Option Addr) × Nat) 8 (fun gx => [(9, .slice gx.2.2.2.1 gx.2.2.1.length gx.2.2.2.2), (10, .int .i64 (gx.1 : Nat))]) [(1,_), (7,_)] (fun gx => [blk gx.2.1.b (.cells gx.2.1.C.toArray 103), own 100 2 gx.2.1.pg gx.2.1.cg (gx.2.1.rg.map RG.cells), bagD (gx.2.1.rg.map pixR), own 55 9 gx.2.1.pl gx.2.1.cl (gx.2.1.lg.map EnM.cells), bagD (gx.2.1.lg.flatMap EnM.rres), own 3 1 gx.2.1.pt gx.2.1.ct (gx.2.1.ts.map iC), own 131 1 gx.2.1.ph gx.2.1.ch (gx.2.1.th.map rowC), bagR 168 3 thrC gx.2.1.th, own 135 7 gx.2.2.2.1 gx.2.2.2.2 (gx.2.2.1.map evC)]) (fun gx => gx.1 ≤ log.length ∧ gx.2.1.b = q.1 ∧ PlD s (log.map EnM.p) gx.2.1 gx.1 ∧ gx.2.2.1 = evP s (log.map EnM.p) gx.1 ∧ gx.2.2.1.length ≤ 32 * gx.1) (fun gx => log.length - gx.1) (0, (dnew g q.2.1 q.2.2.1 q.2.2.2 a b d q.1), [], none, 0) (by exact ⟨Nat.zero_le _, rfl, PlD.new hs hse2 (fun x hx => hqp x hx), rfl, Nat.zero_le _⟩) (.c4 rfl rfl rfl rfl .nil) (fun _ h => ((h.ownNil 135 7)).sel [1,2,3,4,5,6,7,8,0,9] rfl) ?_
   rintro ⟨i, o_, es_, pe_, ce_⟩ ⟨hi, hob, hR, hE, hel⟩
   show VC _ _ _ _ _ ([(9, .slice pe_ es_.length ce_), (10, .int .i64 (i : Nat))] ++ _) ([blk o_.b (.cells o_.C.toArray 103), own 100 2 o_.pg o_.cg (o_.rg.map RG.cells), bagD (o_.rg.map pixR), own 55 9 o_.pl o_.cl (o_.lg.map EnM.cells), bagD (o_.lg.flatMap EnM.rres), own 3 1 o_.pt o_.ct (o_.ts.map iC), own 131 1 o_.ph o_.ch (o_.th.map rowC), bagR 168 3 thrC o_.th, own 135 7 pe_ ce_ (es_.map evC)] ++ _) _ _
   dsimp only at hi hob hR hE hel
   rw [← hob]
   obtain ⟨hrn0, hrn1⟩ := hR.dos.rn
   refine VC.seq<|VC.q (VO.m rfl rfl<|VO.m rfl rfl<|VO.l (LO.len S44 (.r rfl) rfl) rfl<|VO.t rfl rfl rfl<|VO.n<|VC.cond rfl (fun h28 => ?_) (fun h28 => ?_))
   ·
    obtain ⟨x, hx⟩ : ∃ x, log[i]? = some x := ⟨_, List.getElem?_eq_getElem (by omega)⟩
    have hxo := hl.ok x (List.mem_of_getElem? hx)
    have hex := hall i x hx
    have hxp : (log.map EnM.p)[i]? = some x.p := by rw [List.getElem?_map, hx]; rfl
    refine VC.skip (VE.seqN<|VC.seq<|VC.block<|VC.q (VO.m rfl rfl<|VO.m rfl rfl<|VO.l (LO.ixs S44 N55 hl.rows.sm (.r rfl) (.r rfl) rfl (by omega)) rfl<|VO.l (LO.lda (vs := [_,_,_,_,_,_,_,_,_]) A55 (.r rfl) (fun w hw => cells_part (off := 0) ((fun w2 hw2 => (hl.rows.keep w2 hw2).cells _ _ (by rw [List.getElem?_map, hx]; rfl)) w hw) ⟨_, rfl⟩) rfl) rfl<|VO.h rfl<|HO.alloc (C := #[_,_,_,_,_,_,_,_,_]) Z55 rfl fun b11 => VO.h0<|HO.st 0 (vs := [_,_,_,_,_,_,_,_,_]) (C' := [_,_,_,_,_,_,_,_,_]) (L' := [_,_,_,_,_,_,_,_,_,_,_]) N55 rfl rfl rfl rfl rfl rfl rfl rfl<|VO.n<|VC.seq ?_))
    refine VC.q (VO.f (r := 8) F55_3 rfl rfl rfl<|VO.c 0 O3 rfl rfl ⟨_, rfl⟩ rfl<|VO.u rfl rfl rfl<|VO.n<|VC.cond rfl (fun h37 => ?_) (fun h37 => ?_))
    ·
     refine VC.q (VO.m rfl rfl<|VO.f (r := 0) F55_0 rfl rfl rfl<|VO.c 0 O3 rfl rfl ⟨_, rfl⟩ rfl<|VO.f (r := 2) F55_2 rfl rfl rfl<|VO.l (LO.lda (vs := [_,_,_,_,_,_]) A48 (.r rfl) (cells_blk 0 rfl ⟨_, rfl⟩) rfl) rfl<|VO.f (r := 8) F55_3 rfl rfl rfl<|VO.c 0 O3 rfl rfl ⟨_, rfl⟩ rfl<|VO.h rfl<|HO.callP (first := []) (cap := []) (xs := [_,_,_,_]) (vs := [_,_,_,_]) [_,_,_,_,_,_,_,_] [_,_,_] (selK (L1 := [_,_,_,_,_,_,_,_] ++ [_,_,_]) [1,2,3,4,5,6,7,8,0,9,10] rfl rfl) (.r rfl) C12 ⟨(.r rfl), (.r rfl), (.r rfl), (.r rfl), trivial⟩ (fun w hw hh => dNote_c o_ x.t ⟨x.g, x.vs⟩ x.pv x.cv x.lv w hh (fun hs => hxo.2.1.keep _ (old_in (selK (L1 := dofR o_ ++ [_,_,_]) [1,2,3,4,5,6,7,8,0,9,10] rfl rfl w hw) hs)) ((hR.ntq (x := x.p) h37).trans hex)) fun y _ => VO.h rfl<|HO.lo (LO.as (.r rfl))<|VO.n<|VC.seq<|VC.q (VO.m rfl rfl<|VO.u rfl rfl rfl<|VO.n ?_))
     refine VC.cond rfl (fun h47 => ?_) (fun h47 => ?_)
     · (exfalso; exact h47 rfl)
     ·
      refine VC.skip (VE.seqN<|VC.exit (VE.thenX (VE.inX (VE.seqN<|VC.reg (VO.m rfl rfl<|VO.p rfl rfl (by omega) (by omega) rfl<|VO.a rfl rfl<|VO.nil<|VE.thenN fun a w ha hw => ⟨(i + 1, { o_ with lg := o_.lg ++ [EnM.mk x.t [] none 0 x.g x.vs y.1.1 y.1.2 x.lv], pl := y.2.1, cl := y.2.2 }, es_, pe_, ce_), ⟨by dsimp only; omega, rfl, hR.note hxp h37 hex, by dsimp only; rw [hE, evP_nt hxp h37, List.append_nil], by dsimp only; omega⟩, (by dsimp only; omega), ha.sub (.c4 rfl rfl rfl rfl .nil), (by exact selK (L1 := [_,_,_,_,_,_,_,_,_,_]) [0,1,2,3,4,5,6,7,9,10] rfl rfl _ hw)⟩)))))
    ·
     have h37 := Classical.not_not.1 h37
     obtain ⟨en1, en2, en3, en4⟩ := en_st0 (x := x.p) h37 hex
     refine VC.skip (VE.seqN<|VC.q (VO.m rfl rfl<|VO.f (r := 0) F55_0 rfl rfl rfl<|VO.c 0 O3 rfl rfl ⟨_, rfl⟩ rfl<|VO.f (r := 1) F55_1 rfl rfl rfl<|VO.c 0 O52 rfl rfl ⟨_, rfl⟩ rfl<|VO.h rfl<|HO.callP (first := []) (cap := []) (xs := [_,_,_]) (vs := [_,_,_]) [_,_,_,_,_,_,_,_] [_,_,_] (selK (L1 := [_,_,_,_,_,_,_,_] ++ [_,_,_]) [1,2,3,4,5,6,7,8,0,9,10] rfl rfl) (.r rfl) C14 ⟨(.r rfl), (.r rfl), (.r rfl), trivial⟩ (fun w hw hh => dStep_c o_ (stP s ((log.map EnM.p).take i)) x.t x.l x.pc x.cc w hR.dos hR.spec hR.px hh hxo.2.2 (fun hs => hxo.1.keep _ (old_in (selK (L1 := dofR o_ ++ [_,_,_]) [1,2,3,4,5,6,7,8,0,9,10] rfl rfl w hw) hs)) en1.1 en1.2 (by rw [hR.ts]; exact en2) (by rw [hR.len]; exact en3) (Nat.lt_of_le_of_lt stP_len en3) (by rw [hR.g]; exact en4)) fun y hy => VO.h rfl<|HO.lo (LO.mv (.r rfl))<|VO.h rfl<|HO.lo (LO.ex (.r rfl) rfl)<|VO.h rfl<|HO.lo (LO.ex (.r rfl) rfl)<|VO.h rfl<|HO.lo (LO.as (.r rfl))<|VO.h rfl<|HO.lo (LO.as (.r rfl))<|VO.n<|VC.seq<|VC.q (VO.m rfl rfl<|VO.u rfl rfl rfl<|VO.nil ?_)))
     refine VE.seqN<|VC.cond rfl (fun h59 => ?_) (fun h59 => ?_)
     · (exfalso; exact h59 rfl)
     ·
      refine VC.skip (VE.seqN<|VC.reg (VO.m rfl rfl<|VO.m rfl rfl<|VO.h rfl<|HO.appN (f := evC) (l := es_) (m := (evF o_.hold o_.rg.length (stP s ((log.map EnM.p).take i)) ⟨x.t, thsP o_.sp (x.l.map CP.c)⟩)) 10 (fun R => [_,_,_,_,_,_,_,_,_,_, R,_]) S60 S60 I135 (.r rfl) (.r rfl) rfl (fun w hw => own_rows hw 0 rfl) (fun _ => rfl) (fun _ => rfl) rfl rfl (fun _ => rfl) rfl rfl (by have := runE_ln (H := o_.hold) (st := stP s ((log.map EnM.p).take i)) (s := ⟨x.t, thsP o_.sp (x.l.map CP.c)⟩) (cs := csF o_.hold o_.rg.length (stP s ((log.map EnM.p).take i))) o_.rg.length; unfold evF; omega) fun p2 c2 _ => VO.h rfl<|HO.lo (LO.as (.r rfl))<|VO.nil<|VE.inN (VE.seqN<|VC.reg (VO.m rfl rfl<|VO.p rfl rfl (by omega) (by omega) rfl<|VO.a rfl rfl<|VO.nil<|VE.thenN fun a w ha hw => ⟨(i + 1, y.o o_ x.t, es_ ++ (evF o_.hold o_.rg.length (stP s ((log.map EnM.p).take i)) ⟨x.t, thsP o_.sp (x.l.map CP.c)⟩), p2, c2), ⟨by dsimp only; omega, rfl, hR.step hxp h37 (cl_bd hxo) hex hy.1 hy.2, by dsimp only; rw [hE, hR.ev hxp h37]; rfl, by dsimp only; have := runE_ln (H := o_.hold) (st := stP s ((log.map EnM.p).take i)) (s := ⟨x.t, thsP o_.sp (x.l.map CP.c)⟩) (cs := csF o_.hold o_.rg.length (stP s ((log.map EnM.p).take i))) o_.rg.length; rw [List.length_append]; unfold evF; omega⟩, (by dsimp only; omega), ha.sub (.cons (congrArg (fun n => some (Value.slice p2 n c2)) (by rw [List.length_append]; try rfl)) (.cons rfl (.cons rfl (.cons rfl .nil)))), (by exact selK (L1 := [_,_,_,_,_,_,_,_,_,_]) [1,2,3,4,5,6,7,8,10,11] rfl rfl _ hw)⟩))))
   ·
    refine VC.exit (VE.thenX (VE.thenX (VE.inX (VE.seqN<|VC.q (VO.m rfl rfl<|VO.m rfl rfl<|VO.a rfl rfl<|VO.a rfl rfl<|VO.a rfl rfl<|VO.n<|VC.ret (VE.res (vs := [_,_,_]) rfl ⟨rfl, rfl, rfl, trivial⟩ (fun w hw => ?_)))))))
    have hi2 : i = log.length := by omega
    subst hi2
    rw [← hE]
    exact ⟨⟨o_, pe_, ce_⟩, hR, rfl, selK (L1 := dofR o_ ++ [_]) [0,1,2,3,4,5,6,7,8] rfl rfl _ hw⟩
theorem plb_new {g : Grid} {rgs : List RG} {a b d : Int} {s : Sp} {o : OfM} {l : List EnP} (hn : NewP g rgs a b d o) (hse : s = ⟨g, rgs.map RG.r, a, b, d⟩) (hs : specE s = 0) (hp : ∀ x, x ∈ rgs → x.r.pix.length < 1000000000000) : PlB s l o 0 := by
  have h7 : o.lg = [] := hn.2.2.2.2.2.2.1
  exact ⟨spec_new hn hse hs hp, by rw [h7]; rfl, fun m hm => (by rw [h7] at hm; cases hm), fun m hm => (by rw [h7] at hm; cases hm)⟩
theorem Play_b (g : Grid) (rgs : List RG) (pg : Option Addr) (cg : Nat) (a b d : Int) (s : Sp) (log : List EnM) (pl : Option Addr) (cl : Nat) (w : World) (hse : s = ⟨g, rgs.map RG.r, a, b, d⟩) (hs : specE s = 0) (hrl : rgs.length < 1000000000000) (hrg : Regs w pg rgs) (hll : log.length ≤ 256) (hl : LogM w pl log) (hall : ∀ (k : Nat) (x : EnM), log[k]? = some x → enE s ((log.map EnM.p).take k) x.p = 0) :
 Calls Tryz.prog 19 #[specV g pg rgs.length cg a b d, .slice pl log.length cl] w fun e w' => ∃ y : PlY, (PlB s (log.map EnM.p) y.o log.length ∧ y.es = evP s (log.map EnM.p) log.length) ∧ e = .returned (.tuple #[ptrN y.o.b, .slice y.pe y.es.length y.ce, .int .i64 0]) ∧ St (bs w) (offR y.o ++ [own 84 7 y.pe y.ce (y.es.map evC)]) w' := by
 refine enter (vs := [_,_]) (env := [(0,_), (1,_)]) Tryz.func19 rfl rfl rfl rfl ?_
 refine VC.q (VO.h rfl<|HO.box (C := #[_,_,_,_,_,_,_,_,_]) rfl rfl fun b1 => VO.a rfl rfl<|VO.a rfl rfl<|VO.a rfl rfl<|VO.n<|VC.q (VO.l (LO.lda (vs := [_,_,_,_,_,_,_,_,_]) A28 (.r rfl) (cells_blk 0 rfl ⟨_, rfl⟩) rfl) rfl<|VO.h rfl<|HO.callx (xs := [_]) (vs := [_]) C6 ⟨(.r rfl), trivial⟩ (fun w hw => New_c g rgs pg cg a b d w hrl (hrg.keep hw) (by rw [← hse]; exact hs)) fun o hn => VO.h rfl<|HO.lo (LO.mv (.r rfl))<|VO.h rfl<|HO.lo (LO.ex (.r rfl) rfl)<|VO.h rfl<|HO.lo (LO.ex (.r rfl) rfl)<|VO.h rfl<|HO.lo (LO.as (.r rfl))<|VO.h rfl<|HO.lo (LO.as (.r rfl))<|VO.n<|VC.seq<|VC.q (VO.m rfl rfl<|VO.u rfl rfl rfl<|VO.n<|VC.cond rfl (fun h21 => ?_) (fun h21 => ?_))))
 · (exfalso; exact h21 rfl)
 ·
  refine VC.skip (VE.seqN<|VC.seq<|VC.q (VO.m rfl rfl<|VO.l (LO.len S29 (.r rfl) rfl) rfl<|VO.l (LO.gt (.r rfl) (.r rfl)) rfl<|VO.n<|VC.cond rfl (fun h25 => ?_) (fun h25 => ?_)))
  · (exfalso; omega)
  ·
   refine VC.skip (VE.seqN<|VC.q (VO.a rfl rfl<|VO.n<|VC.seq<|VC.q (VO.m rfl rfl<|VO.l (LO.len S29 (.r rfl) rfl) rfl<|VO.m rfl rfl<|VO.n<|VC.block<|VC.loopK (α := Nat × OfM × (List Ev) × (Option Addr) × Nat) 10 (fun gx => [(9, .slice gx.2.2.2.1 gx.2.2.1.length gx.2.2.2.2), (28, .int .i64 (gx.1 : Nat))]) [(7,_), (26,_), (27,_)] (fun gx => [OfM.blk gx.2.1, OfM.rgR gx.2.1, OfM.pxB gx.2.1, OfM.rcR gx.2.1, OfM.rcB gx.2.1, OfM.tsR gx.2.1, OfM.csR gx.2.1, OfM.csB gx.2.1, OfM.lgR gx.2.1, OfM.lgB gx.2.1, own 84 7 gx.2.2.2.1 gx.2.2.2.2 (gx.2.2.1.map evC)]) (fun gx => gx.1 ≤ log.length ∧ gx.2.1.b = o.b ∧ PlB s (log.map EnM.p) gx.2.1 gx.1 ∧ gx.2.2.1 = evP s (log.map EnM.p) gx.1 ∧ gx.2.2.1.length ≤ 32 * gx.1) (fun gx => log.length - gx.1) (0, o, [], none, 0) (by exact ⟨Nat.zero_le _, rfl, plb_new hn hse hs (fun x hx => (hrg.ok x hx).2), rfl, Nat.zero_le _⟩) (.c4 rfl rfl rfl rfl (.cons rfl .nil)) (fun _ h => ((h.ownNil 84 7)).sel [1,2,3,4,5,6,7,8,9,10,0,11] rfl) ?_)))
   rintro ⟨i, o_, es_, pe_, ce_⟩ ⟨hi, hob, hR, hE, hel⟩
   show VC _ _ _ _ _ ([(9, .slice pe_ es_.length ce_), (28, .int .i64 (i : Nat))] ++ _) ([OfM.blk o_, OfM.rgR o_, OfM.pxB o_, OfM.rcR o_, OfM.rcB o_, OfM.tsR o_, OfM.csR o_, OfM.csB o_, OfM.lgR o_, OfM.lgB o_, own 84 7 pe_ ce_ (es_.map evC)] ++ _) _ _
   dsimp only at hi hob hR hE hel
   rw [← hob]
   have hrn := hR.a.sim.wf.n
   refine VC.q (VO.t rfl rfl rfl<|VO.n<|VC.seq<|VC.cond rfl (fun h29 => ?_) (fun h29 => ?_))
   ·
    obtain ⟨x, hx⟩ : ∃ x, log[i]? = some x := ⟨_, List.getElem?_eq_getElem (by omega)⟩
    have hxo := hl.ok x (List.mem_of_getElem? hx)
    have hex := hall i x hx
    have hxp : (log.map EnM.p)[i]? = some x.p := by rw [List.getElem?_map, hx]; rfl
    have hxb := en_bd hxo hex
    refine VC.skip (VE.seqN<|VC.seq<|VC.block<|VC.q (VO.l (LO.ixs S29 N50 hl.rows.sm (.r rfl) (.r rfl) rfl (by omega)) rfl<|VO.l (LO.lda (vs := [_,_,_,_,_,_,_,_,_]) A50 (.r rfl) (fun w hw => cells_part (off := 0) ((fun w2 hw2 => (hl.rows.keep w2 hw2).cells _ _ (by rw [List.getElem?_map, hx]; rfl)) w hw) ⟨_, rfl⟩) rfl) rfl<|VO.h rfl<|HO.alloc (C := #[_,_,_,_,_,_,_,_,_]) Z50 rfl fun b13 => VO.h0<|HO.st 0 (vs := [_,_,_,_,_,_,_,_,_]) (C' := [_,_,_,_,_,_,_,_,_]) (L' := [_,_,_,_,_,_,_,_,_,_,_,_,_]) N50 rfl rfl rfl rfl rfl rfl rfl rfl<|VO.n<|VC.q (VO.f (r := 0) F50_0 rfl rfl rfl<|VO.c 0 O3 rfl rfl ⟨_, rfl⟩ rfl<|VO.f (r := 2) F50_2 rfl rfl rfl<|VO.l (LO.lda (vs := [_,_,_,_,_,_]) A48 (.r rfl) (cells_blk 0 rfl ⟨_, rfl⟩) rfl) rfl<|VO.f (r := 8) F50_3 rfl rfl rfl<|VO.c 0 O3 rfl rfl ⟨_, rfl⟩ rfl<|VO.l (LO.bd (ps := [(_,_), (_,_), (_,_)]) (vs := [(_,_), (_,_), (_,_)]) (C := [_,_,_,_,_,_,_,_]) B112  ⟨(.r rfl), (.r rfl), (.r rfl), trivial⟩ rfl ⟨_, [_], [_,_,_,_,_,_,_,_], rfl, rfl, rfl, rfl, ⟨_, [_,_,_,_,_,_], [_,_,_,_,_,_,_,_], rfl, rfl, rfl, rfl, ⟨_, [_], [_,_,_,_,_,_,_,_], rfl, rfl, rfl, rfl, rfl⟩⟩⟩) rfl<|VO.l (LO.mi ⟨_, Tryz.underlying112, rfl⟩ (.r rfl)) rfl<|VO.a rfl rfl<|VO.n<|VC.seq<|VC.q (VO.f (r := 8) F50_3 rfl rfl rfl<|VO.c 0 O3 rfl rfl ⟨_, rfl⟩ rfl<|VO.l (LO.eq (.r rfl) (.r rfl)) rfl<|VO.n ?_))))
    refine VC.cond rfl (fun h42 => ?_) (fun h42 => ?_)
    ·
     refine VC.reg (VO.f (r := 0) F50_0 rfl rfl rfl<|VO.c 0 O3 rfl rfl ⟨_, rfl⟩ rfl<|VO.f (r := 1) F50_1 rfl rfl rfl<|VO.c 0 O45 rfl rfl ⟨_, rfl⟩ rfl<|VO.l (LO.bd (ps := [(_,_), (_,_)]) (vs := [(_,_), (_,_)]) (C := [_,_]) B118  ⟨(.r rfl), (.r rfl), trivial⟩ rfl ⟨_, [_], [_,_], rfl, rfl, rfl, rfl, ⟨_, [_], [_,_], rfl, rfl, rfl, rfl, rfl⟩⟩) rfl<|VO.l (LO.mi ⟨_, Tryz.underlying118, rfl⟩ (.r rfl)) rfl<|VO.a rfl rfl<|VO.n<|VC.q (VO.m rfl rfl<|VO.m rfl rfl<|VO.h rfl<|HO.inv (xs := [_]) (vs := [_]) [_,_,_,_,_,_,_,_,_,_] [_,_,_] (selK (L1 := [_,_,_,_,_,_,_,_,_,_] ++ [_,_,_]) [1,2,3,4,5,6,7,8,9,10,0,11,12] rfl rfl) (.r rfl) (fun _ => by kernel_rfl) C126 ⟨(.r rfl), trivial⟩ (fun w hw hh => play_st o_ _ x.t x.l x.pc x.cc w hh (fun hs => hxo.1.keep _ (old_in (selK (L1 := offR o_ ++ [_,_,_]) [1,2,3,4,5,6,7,8,9,10,0,11,12] rfl rfl w hw) hs)) hxo.2.2 hR.a.sim (by rw [show stpE o_ x.t (x.l.map CP.c) = _ from hR.a.st (x := x.p) h42]; exact hex)) fun y hy => VO.h rfl<|HO.lo (LO.mv (.r rfl))<|VO.h rfl<|HO.lo (LO.ex (.r rfl) rfl)<|VO.h rfl<|HO.lo (LO.ex (.r rfl) rfl)<|VO.h rfl<|HO.lo (LO.as (.r rfl))<|VO.h rfl<|HO.lo (LO.as (.r rfl))<|VO.n<|VC.seq<|VC.q (VO.m rfl rfl<|VO.u rfl rfl rfl<|VO.n<|VC.cond rfl (fun h56 => ?_) (fun h56 => ?_))))
     · (exfalso; exact h56 rfl)
     ·
      refine VC.skip (VE.seqN<|VC.reg (VO.m rfl rfl<|VO.m rfl rfl<|VO.h rfl<|HO.appN (f := evC) (l := es_) (m := y.es) 12 (fun R => [_,_,_,_,_,_,_,_,_,_,_,_, R,_]) S57 S57 I84 (.r rfl) (.r rfl) rfl (fun w hw => own_rows hw 0 rfl) (fun _ => rfl) (fun _ => rfl) rfl rfl (fun _ => rfl) rfl rfl (by have := add_cl hy.1; omega) fun p2 c2 _ => VO.h rfl<|HO.lo (LO.as (.r rfl))<|VO.nil<|VE.inN (VE.seqN<|VC.reg (VO.p rfl rfl (by omega) (by omega) rfl<|VO.m rfl rfl<|VO.nil<|VE.thenN fun a w ha hw => ⟨(i + 1, y.o o_ x.t, es_ ++ y.es, p2, c2), ⟨by dsimp only; omega, rfl, hR.step hxp h42 (cl_bd hxo) hy.1 hy.2.1, by dsimp only; rw [hE, hy.2.2, evP_st hR.a hxp h42]; rfl, by dsimp only; have := add_cl hy.1; rw [List.length_append]; omega⟩, (by dsimp only; omega), ha.sub (.cons (congrArg (fun n => some (Value.slice p2 n c2)) (by rw [List.length_append]; try rfl)) (.c4 rfl rfl rfl rfl .nil)), (by exact selK (L1 := [_,_,_,_,_,_,_,_,_,_,_,_]) [1,2,3,4,5,6,7,8,9,10,12,13] rfl rfl _ hw)⟩))))
    ·
     refine VC.skip (VE.seqN<|VC.q (VO.m rfl rfl<|VO.m rfl rfl<|VO.h rfl<|HO.inv (xs := [_]) (vs := [_]) [_,_,_,_,_,_,_,_,_,_] [_,_,_] (selK (L1 := [_,_,_,_,_,_,_,_,_,_] ++ [_,_,_]) [1,2,3,4,5,6,7,8,9,10,0,11,12] rfl rfl) (.r rfl) (fun _ => by kernel_rfl) C124 ⟨(.r rfl), trivial⟩ (fun w hw hh => play_nt o_ x.t ⟨x.g, x.vs⟩ x.pv x.cv x.lv w (by have := hR.a.sim.wf.n; omega) hh (fun hs => hxo.2.1.keep _ (old_in (selK (L1 := offR o_ ++ [_,_,_]) [1,2,3,4,5,6,7,8,9,10,0,11,12] rfl rfl w hw) hs)) (by rw [show noteE o_ x.t ⟨x.g, x.vs⟩ x.lv = _ from hR.a.nt (x := x.p) h42]; exact hex)) fun y _ => VO.h rfl<|HO.lo (LO.mv (.r rfl))<|VO.h rfl<|HO.lo (LO.ex (.r rfl) rfl)<|VO.h rfl<|HO.lo (LO.ex (.r rfl) rfl)<|VO.h rfl<|HO.lo (LO.as (.r rfl))<|VO.h rfl<|HO.lo (LO.as (.r rfl))<|VO.n<|VC.seq<|VC.q (VO.m rfl rfl<|VO.u rfl rfl rfl<|VO.n<|VC.cond rfl (fun h56 => ?_) (fun h56 => ?_))))
     · (exfalso; exact h56 rfl)
     ·
      refine VC.skip (VE.seqN<|VC.reg (VO.m rfl rfl<|VO.m rfl rfl<|VO.h rfl<|HO.appN (f := evC) (l := es_) (m := ([] : List Ev)) 11 (fun R => [_,_,_,_,_,_,_,_,_,_,_, R,_]) S57 S57 I84 (.r rfl) (.r rfl) rfl (fun w hw => RO.nilE) (fun _ => rfl) (fun _ => rfl) rfl rfl (fun _ => rfl) rfl rfl (by omega) fun p2 c2 _ => VO.h rfl<|HO.lo (LO.as (.r rfl))<|VO.nil<|VE.inN (VE.seqN<|VC.reg (VO.p rfl rfl (by omega) (by omega) rfl<|VO.m rfl rfl<|VO.nil<|VE.thenN fun a w ha hw => ⟨(i + 1, { o_ with lg := o_.lg ++ [LgM.nt x.t x.g y.1.1 y.1.2 x.vs x.lv], pl := y.2.1, cl := y.2.2 }, es_ ++ [], p2, c2), ⟨by dsimp only; omega, rfl, hR.note hxp h42 hex, by dsimp only; rw [hE, evP_nt hxp h42], by dsimp only; rw [List.append_nil]; omega⟩, (by dsimp only; omega), ha.sub (.cons (congrArg (fun n => some (Value.slice p2 n c2)) (by rw [List.length_append]; try rfl)) (.c4 rfl rfl rfl rfl .nil)), (by exact selK (L1 := [_,_,_,_,_,_,_,_,_,_,_,_]) [0,1,2,3,4,5,6,7,8,9,11,12] rfl rfl _ hw)⟩))))
   ·
    refine VC.exit (VE.thenX (VE.thenX (VE.inX (VE.seqN<|VC.q (VO.m rfl rfl<|VO.m rfl rfl<|VO.a rfl rfl<|VO.a rfl rfl<|VO.a rfl rfl<|VO.n<|VC.ret (VE.res (vs := [_,_,_]) rfl ⟨rfl, rfl, rfl, trivial⟩ (fun w hw => ?_)))))))
    have hi2 : i = log.length := by omega
    subst hi2
    exact ⟨⟨o_, es_, pe_, ce_⟩, ⟨hR, hE⟩, rfl, selK (L1 := offR o_ ++ [_]) [0,1,2,3,4,5,6,7,8,9,10] rfl rfl _ hw⟩
theorem play_st_e (o : OfM) (T : Int) (m : List CP) (pm : Option Addr) (cm : Nat) (w : World) (hn : 0 < o.rc.length ∧ o.rc.length < 1000000) (htb : o.ts.length < 1000000) (hok : specE o.sp = 0) (hh : Has w (offR o)) (hcn : m.length < 1000000000) (hcl : Clouds w pm m) (hne : stpE o T (m.map CP.c) ≠ 0) :
 Calls Tryz.prog 126 #[.agg #[.int .i64 T, .slice pm m.length cm], ptrN o.b] w fun e w' => e = .returned (.tuple #[.slice none 0 0, .int .i64 (stpE o T (m.map CP.c))]) ∧ St (bs w) [] w' := by
 refine enter (vs := [_,_]) (env := [(0,_), (1,_)]) Tryz.func126 rfl rfl rfl rfl ?_
 refine VC.q (VO.h rfl<|HO.box (C := #[_,_]) rfl rfl fun b1 => VO.a rfl rfl<|VO.a rfl rfl<|VO.n<|VC.q (VO.m rfl rfl<|VO.f (r := 0) F118_0 rfl rfl rfl<|VO.c 0 O3 rfl rfl ⟨_, rfl⟩ rfl<|VO.f (r := 1) F118_1 rfl rfl rfl<|VO.c 0 O45 rfl rfl ⟨_, rfl⟩ rfl<|VO.l (LO.call (xs := [_,_,_]) (vs := [_,_,_]) C13 ⟨(.r rfl), (.r rfl), (.r rfl), trivial⟩ (fun w2 hw => Step_e o T m pm cm w2 hn htb hok (hh.keep hw) hcn (hcl.keep w2 hw) hne)) rfl<|VO.l (LO.ex (.r rfl) rfl) rfl<|VO.l (LO.ex (.r rfl) rfl) rfl<|VO.a rfl rfl<|VO.a rfl rfl<|VO.n<|VC.ret (VE.res (vs := [_,_]) rfl ⟨rfl, rfl, trivial⟩ (fun w hw => ?_))))
 exact ⟨rfl, hw.nil⟩
theorem play_nt_e (o : OfM) (T : Int) (f : Field) (pv : Option Addr) (cv : Nat) (lv : Int) (w : World) (hn : 0 < o.rc.length ∧ o.rc.length < 1000000) (hh : Has w (offR o)) (hv : Spans w pv f.vals) (hne : noteE o T f lv ≠ 0) :
 Calls Tryz.prog 124 #[.agg #[.int .i64 T, .int .i64 f.g.x, .int .i64 f.g.y, .int .i64 f.g.size, .int .i64 f.g.wide, .int .i64 f.g.high, .slice pv f.vals.length cv, .int .i64 lv], ptrN o.b] w fun e w' => e = .returned (.tuple #[.slice none 0 0, .int .i64 (noteE o T f lv)]) ∧ St (bs w) [] w' := by
 refine enter (vs := [_,_]) (env := [(0,_), (1,_)]) Tryz.func124 rfl rfl rfl rfl ?_
 refine VC.q (VO.h rfl<|HO.box (C := #[_,_,_,_,_,_,_,_]) rfl rfl fun b1 => VO.a rfl rfl<|VO.a rfl rfl<|VO.n<|VC.q (VO.m rfl rfl<|VO.f (r := 0) F112_0 rfl rfl rfl<|VO.c 0 O3 rfl rfl ⟨_, rfl⟩ rfl<|VO.f (r := 1) F112_1 rfl rfl rfl<|VO.l (LO.lda (vs := [_,_,_,_,_,_]) A48 (.r rfl) (cells_blk 0 rfl ⟨_, rfl⟩) rfl) rfl<|VO.f (r := 7) F112_2 rfl rfl rfl<|VO.c 0 O3 rfl rfl ⟨_, rfl⟩ rfl<|VO.l (LO.call (xs := [_,_,_,_]) (vs := [_,_,_,_]) C11 ⟨(.r rfl), (.r rfl), (.r rfl), (.r rfl), trivial⟩ (fun w2 hw => Note_e o T f pv cv lv w2 hn (hh.keep hw) (hv.keep w2 hw) hne)) rfl<|VO.a rfl rfl<|VO.a rfl rfl<|VO.n<|VC.ret (VE.res (vs := [_,_]) rfl ⟨rfl, rfl, trivial⟩ (fun w hw => ?_))))
 exact ⟨rfl, hw.nil⟩
theorem unit_call {P : Program} {f : FuncId} {args : Array Value} {w : World} {v : Value} (h : Calls P f args w fun e w' => e = .returned v ∧ St (bs w) [] w') : Calls P f args w fun e w' => ∃ x : Unit, True ∧ e = .returned ((fun _ => v) x) ∧ St (bs w) ((fun _ => ([] : List Res)) x) w' := h.mono fun e w' h => ⟨(), trivial, h.1, h.2⟩
theorem Play_e (g : Grid) (rgs : List RG) (pg : Option Addr) (cg : Nat) (a b d : Int) (s : Sp) (log : List EnM) (pl : Option Addr) (cl : Nat) (w : World) (hse : s = ⟨g, rgs.map RG.r, a, b, d⟩) (hs : specE s = 0) (hrl : rgs.length < 1000000000000) (hrg : Regs w pg rgs) (hll : log.length ≤ 256) (hl : LogM w pl log) (k : Nat) (xk : EnM) (hk : log[k]? = some xk) (hbef : ∀ (j : Nat) (x : EnM), j < k → log[j]? = some x → enE s ((log.map EnM.p).take j) x.p = 0) (er : Int) (her : enE s ((log.map EnM.p).take k) xk.p = er) (h0 : er ≠ 0) :
 Calls Tryz.prog 19 #[specV g pg rgs.length cg a b d, .slice pl log.length cl] w fun e w' => e = .returned (.tuple #[.pointer none, .slice none 0 0, .int .i64 er]) ∧ St (bs w) [] w' := by
 have hkl : k < log.length := (List.getElem?_eq_some_iff.1 hk).1
 refine enter (vs := [_,_]) (env := [(0,_), (1,_)]) Tryz.func19 rfl rfl rfl rfl ?_
 refine VC.q (VO.h rfl<|HO.box (C := #[_,_,_,_,_,_,_,_,_]) rfl rfl fun b1 => VO.a rfl rfl<|VO.a rfl rfl<|VO.a rfl rfl<|VO.n<|VC.q (VO.l (LO.lda (vs := [_,_,_,_,_,_,_,_,_]) A28 (.r rfl) (cells_blk 0 rfl ⟨_, rfl⟩) rfl) rfl<|VO.h rfl<|HO.callx (xs := [_]) (vs := [_]) C6 ⟨(.r rfl), trivial⟩ (fun w hw => New_c g rgs pg cg a b d w hrl (hrg.keep hw) (by rw [← hse]; exact hs)) fun o hn => VO.h rfl<|HO.lo (LO.mv (.r rfl))<|VO.h rfl<|HO.lo (LO.ex (.r rfl) rfl)<|VO.h rfl<|HO.lo (LO.ex (.r rfl) rfl)<|VO.h rfl<|HO.lo (LO.as (.r rfl))<|VO.h rfl<|HO.lo (LO.as (.r rfl))<|VO.n<|VC.seq<|VC.q (VO.m rfl rfl<|VO.u rfl rfl rfl<|VO.n<|VC.cond rfl (fun h21 => ?_) (fun h21 => ?_))))
 · (exfalso; exact h21 rfl)
 ·
  refine VC.skip (VE.seqN<|VC.seq<|VC.q (VO.m rfl rfl<|VO.l (LO.len S29 (.r rfl) rfl) rfl<|VO.l (LO.gt (.r rfl) (.r rfl)) rfl<|VO.n<|VC.cond rfl (fun h25 => ?_) (fun h25 => ?_)))
  · (exfalso; omega)
  ·
   refine VC.skip (VE.seqN<|VC.q (VO.a rfl rfl<|VO.n<|VC.seq<|VC.q (VO.m rfl rfl<|VO.l (LO.len S29 (.r rfl) rfl) rfl<|VO.m rfl rfl<|VO.n<|VC.block<|VC.loopK (α := Nat × OfM × (List Ev) × (Option Addr) × Nat) 10 (fun gx => [(9, .slice gx.2.2.2.1 gx.2.2.1.length gx.2.2.2.2), (28, .int .i64 (gx.1 : Nat))]) [(7,_), (26,_), (27,_)] (fun gx => [OfM.blk gx.2.1, OfM.rgR gx.2.1, OfM.pxB gx.2.1, OfM.rcR gx.2.1, OfM.rcB gx.2.1, OfM.tsR gx.2.1, OfM.csR gx.2.1, OfM.csB gx.2.1, OfM.lgR gx.2.1, OfM.lgB gx.2.1, own 84 7 gx.2.2.2.1 gx.2.2.2.2 (gx.2.2.1.map evC)]) (fun gx => gx.1 ≤ k ∧ gx.2.1.b = o.b ∧ PlB s (log.map EnM.p) gx.2.1 gx.1 ∧ gx.2.2.1 = evP s (log.map EnM.p) gx.1 ∧ gx.2.2.1.length ≤ 32 * gx.1) (fun gx => log.length - gx.1) (0, o, [], none, 0) (by exact ⟨Nat.zero_le _, rfl, plb_new hn hse hs (fun x hx => (hrg.ok x hx).2), rfl, Nat.zero_le _⟩) (.c4 rfl rfl rfl rfl (.cons rfl .nil)) (fun _ h => ((h.ownNil 84 7)).sel [1,2,3,4,5,6,7,8,9,10,0,11] rfl) ?_)))
   rintro ⟨i, o_, es_, pe_, ce_⟩ ⟨hi, hob, hR, hE, hel⟩
   show VC _ _ _ _ _ ([(9, .slice pe_ es_.length ce_), (28, .int .i64 (i : Nat))] ++ _) ([OfM.blk o_, OfM.rgR o_, OfM.pxB o_, OfM.rcR o_, OfM.rcB o_, OfM.tsR o_, OfM.csR o_, OfM.csB o_, OfM.lgR o_, OfM.lgB o_, own 84 7 pe_ ce_ (es_.map evC)] ++ _) _ _
   dsimp only at hi hob hR hE hel
   rw [← hob]
   have hrn := hR.a.sim.wf.n
   refine VC.q (VO.t rfl rfl rfl<|VO.n<|VC.seq<|VC.cond rfl (fun h29 => ?_) (fun h29 => ?_))
   ·
    obtain ⟨x, hx⟩ : ∃ x, log[i]? = some x := ⟨_, List.getElem?_eq_getElem (by omega)⟩
    have hxo := hl.ok x (List.mem_of_getElem? hx)
    have hxp : (log.map EnM.p)[i]? = some x.p := by rw [List.getElem?_map, hx]; rfl
    refine VC.skip (VE.seqN<|VC.seq<|VC.block<|VC.seq ?_)
    rcases Nat.lt_or_ge i k with hik | hik
    ·
     have hex := hbef i x (by omega) hx
     have hxb := en_bd hxo hex
     refine VC.reg (VO.l (LO.ixs S29 N50 hl.rows.sm (.r rfl) (.r rfl) rfl (by omega)) rfl<|VO.l (LO.lda (vs := [_,_,_,_,_,_,_,_,_]) A50 (.r rfl) (fun w hw => cells_part (off := 0) ((fun w2 hw2 => (hl.rows.keep w2 hw2).cells _ _ (by rw [List.getElem?_map, hx]; rfl)) w hw) ⟨_, rfl⟩) rfl) rfl<|VO.h rfl<|HO.alloc (C := #[_,_,_,_,_,_,_,_,_]) Z50 rfl fun b13 => VO.h0<|HO.st 0 (vs := [_,_,_,_,_,_,_,_,_]) (C' := [_,_,_,_,_,_,_,_,_]) (L' := [_,_,_,_,_,_,_,_,_,_,_,_,_]) N50 rfl rfl rfl rfl rfl rfl rfl rfl<|VO.n<|VC.q (VO.f (r := 0) F50_0 rfl rfl rfl<|VO.c 0 O3 rfl rfl ⟨_, rfl⟩ rfl<|VO.f (r := 2) F50_2 rfl rfl rfl<|VO.l (LO.lda (vs := [_,_,_,_,_,_]) A48 (.r rfl) (cells_blk 0 rfl ⟨_, rfl⟩) rfl) rfl<|VO.f (r := 8) F50_3 rfl rfl rfl<|VO.c 0 O3 rfl rfl ⟨_, rfl⟩ rfl<|VO.l (LO.bd (ps := [(_,_), (_,_), (_,_)]) (vs := [(_,_), (_,_), (_,_)]) (C := [_,_,_,_,_,_,_,_]) B112  ⟨(.r rfl), (.r rfl), (.r rfl), trivial⟩ rfl ⟨_, [_], [_,_,_,_,_,_,_,_], rfl, rfl, rfl, rfl, ⟨_, [_,_,_,_,_,_], [_,_,_,_,_,_,_,_], rfl, rfl, rfl, rfl, ⟨_, [_], [_,_,_,_,_,_,_,_], rfl, rfl, rfl, rfl, rfl⟩⟩⟩) rfl<|VO.l (LO.mi ⟨_, Tryz.underlying112, rfl⟩ (.r rfl)) rfl<|VO.a rfl rfl<|VO.n<|VC.seq<|VC.q (VO.f (r := 8) F50_3 rfl rfl rfl<|VO.c 0 O3 rfl rfl ⟨_, rfl⟩ rfl<|VO.l (LO.eq (.r rfl) (.r rfl)) rfl<|VO.n<|VC.cond rfl (fun h42 => ?_) (fun h42 => ?_))))
     ·
      refine VC.reg (VO.f (r := 0) F50_0 rfl rfl rfl<|VO.c 0 O3 rfl rfl ⟨_, rfl⟩ rfl<|VO.f (r := 1) F50_1 rfl rfl rfl<|VO.c 0 O45 rfl rfl ⟨_, rfl⟩ rfl<|VO.l (LO.bd (ps := [(_,_), (_,_)]) (vs := [(_,_), (_,_)]) (C := [_,_]) B118  ⟨(.r rfl), (.r rfl), trivial⟩ rfl ⟨_, [_], [_,_], rfl, rfl, rfl, rfl, ⟨_, [_], [_,_], rfl, rfl, rfl, rfl, rfl⟩⟩) rfl<|VO.l (LO.mi ⟨_, Tryz.underlying118, rfl⟩ (.r rfl)) rfl<|VO.a rfl rfl<|VO.n<|VC.q (VO.m rfl rfl<|VO.m rfl rfl<|VO.h rfl<|HO.inv (xs := [_]) (vs := [_]) [_,_,_,_,_,_,_,_,_,_] [_,_,_] (selK (L1 := [_,_,_,_,_,_,_,_,_,_] ++ [_,_,_]) [1,2,3,4,5,6,7,8,9,10,0,11,12] rfl rfl) (.r rfl) (fun _ => by kernel_rfl) C126 ⟨(.r rfl), trivial⟩ (fun w hw hh => play_st o_ _ x.t x.l x.pc x.cc w hh (fun hs => hxo.1.keep _ (old_in (selK (L1 := offR o_ ++ [_,_,_]) [1,2,3,4,5,6,7,8,9,10,0,11,12] rfl rfl w hw) hs)) hxo.2.2 hR.a.sim (by rw [show stpE o_ x.t (x.l.map CP.c) = _ from hR.a.st (x := x.p) h42]; exact hex)) fun y hy => VO.h rfl<|HO.lo (LO.mv (.r rfl))<|VO.h rfl<|HO.lo (LO.ex (.r rfl) rfl)<|VO.h rfl<|HO.lo (LO.ex (.r rfl) rfl)<|VO.h rfl<|HO.lo (LO.as (.r rfl))<|VO.h rfl<|HO.lo (LO.as (.r rfl))<|VO.n<|VC.seq<|VC.q (VO.m rfl rfl<|VO.u rfl rfl rfl<|VO.n<|VC.cond rfl (fun h56 => ?_) (fun h56 => ?_))))
      · (exfalso; exact h56 rfl)
      ·
       refine VC.skip (VE.seqN<|VC.reg (VO.m rfl rfl<|VO.m rfl rfl<|VO.h rfl<|HO.appN (f := evC) (l := es_) (m := y.es) 12 (fun R => [_,_,_,_,_,_,_,_,_,_,_,_, R,_]) S57 S57 I84 (.r rfl) (.r rfl) rfl (fun w hw => own_rows hw 0 rfl) (fun _ => rfl) (fun _ => rfl) rfl rfl (fun _ => rfl) rfl rfl (by have := add_cl hy.1; omega) fun p2 c2 _ => VO.h rfl<|HO.lo (LO.as (.r rfl))<|VO.nil<|VE.inN (VE.seqN<|VC.reg (VO.p rfl rfl (by omega) (by omega) rfl<|VO.m rfl rfl<|VO.nil<|VE.thenN fun a w ha hw => ⟨(i + 1, y.o o_ x.t, es_ ++ y.es, p2, c2), ⟨by dsimp only; omega, rfl, hR.step hxp h42 (cl_bd hxo) hy.1 hy.2.1, by dsimp only; rw [hE, hy.2.2, evP_st hR.a hxp h42]; rfl, by dsimp only; have := add_cl hy.1; rw [List.length_append]; omega⟩, (by dsimp only; omega), ha.sub (.cons (congrArg (fun n => some (Value.slice p2 n c2)) (by rw [List.length_append]; try rfl)) (.c4 rfl rfl rfl rfl .nil)), (by exact selK (L1 := [_,_,_,_,_,_,_,_,_,_,_,_]) [1,2,3,4,5,6,7,8,9,10,12,13] rfl rfl _ hw)⟩))))
     ·
      refine VC.skip (VE.seqN<|VC.q (VO.m rfl rfl<|VO.m rfl rfl<|VO.h rfl<|HO.inv (xs := [_]) (vs := [_]) [_,_,_,_,_,_,_,_,_,_] [_,_,_] (selK (L1 := [_,_,_,_,_,_,_,_,_,_] ++ [_,_,_]) [1,2,3,4,5,6,7,8,9,10,0,11,12] rfl rfl) (.r rfl) (fun _ => by kernel_rfl) C124 ⟨(.r rfl), trivial⟩ (fun w hw hh => play_nt o_ x.t ⟨x.g, x.vs⟩ x.pv x.cv x.lv w (by have := hR.a.sim.wf.n; omega) hh (fun hs => hxo.2.1.keep _ (old_in (selK (L1 := offR o_ ++ [_,_,_]) [1,2,3,4,5,6,7,8,9,10,0,11,12] rfl rfl w hw) hs)) (by rw [show noteE o_ x.t ⟨x.g, x.vs⟩ x.lv = _ from hR.a.nt (x := x.p) h42]; exact hex)) fun y _ => VO.h rfl<|HO.lo (LO.mv (.r rfl))<|VO.h rfl<|HO.lo (LO.ex (.r rfl) rfl)<|VO.h rfl<|HO.lo (LO.ex (.r rfl) rfl)<|VO.h rfl<|HO.lo (LO.as (.r rfl))<|VO.h rfl<|HO.lo (LO.as (.r rfl))<|VO.n<|VC.seq<|VC.q (VO.m rfl rfl<|VO.u rfl rfl rfl<|VO.n<|VC.cond rfl (fun h56 => ?_) (fun h56 => ?_))))
      · (exfalso; exact h56 rfl)
      ·
       refine VC.skip (VE.seqN<|VC.reg (VO.m rfl rfl<|VO.m rfl rfl<|VO.h rfl<|HO.appN (f := evC) (l := es_) (m := ([] : List Ev)) 11 (fun R => [_,_,_,_,_,_,_,_,_,_,_, R,_]) S57 S57 I84 (.r rfl) (.r rfl) rfl (fun w hw => RO.nilE) (fun _ => rfl) (fun _ => rfl) rfl rfl (fun _ => rfl) rfl rfl (by omega) fun p2 c2 _ => VO.h rfl<|HO.lo (LO.as (.r rfl))<|VO.nil<|VE.inN (VE.seqN<|VC.reg (VO.p rfl rfl (by omega) (by omega) rfl<|VO.m rfl rfl<|VO.nil<|VE.thenN fun a w ha hw => ⟨(i + 1, { o_ with lg := o_.lg ++ [LgM.nt x.t x.g y.1.1 y.1.2 x.vs x.lv], pl := y.2.1, cl := y.2.2 }, es_ ++ [], p2, c2), ⟨by dsimp only; omega, rfl, hR.note hxp h42 hex, by dsimp only; rw [hE, evP_nt hxp h42], by dsimp only; rw [List.append_nil]; omega⟩, (by dsimp only; omega), ha.sub (.cons (congrArg (fun n => some (Value.slice p2 n c2)) (by rw [List.length_append]; try rfl)) (.c4 rfl rfl rfl rfl .nil)), (by exact selK (L1 := [_,_,_,_,_,_,_,_,_,_,_,_]) [0,1,2,3,4,5,6,7,8,9,11,12] rfl rfl _ hw)⟩))))
    ·
     have hik2 : i = k := by omega
     subst hik2
     have hxe : x = xk := Option.some.inj (hx.symm.trans hk)
     subst hxe
     have hex := her
     refine VC.reg (VO.l (LO.ixs S29 N50 hl.rows.sm (.r rfl) (.r rfl) rfl (by omega)) rfl<|VO.l (LO.lda (vs := [_,_,_,_,_,_,_,_,_]) A50 (.r rfl) (fun w hw => cells_part (off := 0) ((fun w2 hw2 => (hl.rows.keep w2 hw2).cells _ _ (by rw [List.getElem?_map, hx]; rfl)) w hw) ⟨_, rfl⟩) rfl) rfl<|VO.h rfl<|HO.alloc (C := #[_,_,_,_,_,_,_,_,_]) Z50 rfl fun b36 => VO.h0<|HO.st 0 (vs := [_,_,_,_,_,_,_,_,_]) (C' := [_,_,_,_,_,_,_,_,_]) (L' := [_,_,_,_,_,_,_,_,_,_,_,_,_]) N50 rfl rfl rfl rfl rfl rfl rfl rfl<|VO.n<|VC.q (VO.f (r := 0) F50_0 rfl rfl rfl<|VO.c 0 O3 rfl rfl ⟨_, rfl⟩ rfl<|VO.f (r := 2) F50_2 rfl rfl rfl<|VO.l (LO.lda (vs := [_,_,_,_,_,_]) A48 (.r rfl) (cells_blk 0 rfl ⟨_, rfl⟩) rfl) rfl<|VO.f (r := 8) F50_3 rfl rfl rfl<|VO.c 0 O3 rfl rfl ⟨_, rfl⟩ rfl<|VO.l (LO.bd (ps := [(_,_), (_,_), (_,_)]) (vs := [(_,_), (_,_), (_,_)]) (C := [_,_,_,_,_,_,_,_]) B112  ⟨(.r rfl), (.r rfl), (.r rfl), trivial⟩ rfl ⟨_, [_], [_,_,_,_,_,_,_,_], rfl, rfl, rfl, rfl, ⟨_, [_,_,_,_,_,_], [_,_,_,_,_,_,_,_], rfl, rfl, rfl, rfl, ⟨_, [_], [_,_,_,_,_,_,_,_], rfl, rfl, rfl, rfl, rfl⟩⟩⟩) rfl<|VO.l (LO.mi ⟨_, Tryz.underlying112, rfl⟩ (.r rfl)) rfl<|VO.a rfl rfl<|VO.n<|VC.seq<|VC.q (VO.f (r := 8) F50_3 rfl rfl rfl<|VO.c 0 O3 rfl rfl ⟨_, rfl⟩ rfl<|VO.l (LO.eq (.r rfl) (.r rfl)) rfl<|VO.n<|VC.cond rfl (fun h42 => ?_) (fun h42 => ?_))))
     ·
      refine VC.reg (VO.f (r := 0) F50_0 rfl rfl rfl<|VO.c 0 O3 rfl rfl ⟨_, rfl⟩ rfl<|VO.f (r := 1) F50_1 rfl rfl rfl<|VO.c 0 O45 rfl rfl ⟨_, rfl⟩ rfl<|VO.l (LO.bd (ps := [(_,_), (_,_)]) (vs := [(_,_), (_,_)]) (C := [_,_]) B118  ⟨(.r rfl), (.r rfl), trivial⟩ rfl ⟨_, [_], [_,_], rfl, rfl, rfl, rfl, ⟨_, [_], [_,_], rfl, rfl, rfl, rfl, rfl⟩⟩) rfl<|VO.l (LO.mi ⟨_, Tryz.underlying118, rfl⟩ (.r rfl)) rfl<|VO.a rfl rfl<|VO.n<|VC.q (VO.m rfl rfl<|VO.m rfl rfl<|VO.h rfl<|HO.invx (xs := [_]) (vs := [_]) (.r rfl) (fun _ => by kernel_rfl) C126 ⟨(.r rfl), trivial⟩ (fun w hw => unit_call (play_st_e o_ x.t x.l x.pc x.cc w (by omega) (by have := hR.a.sim.wf.ts; have := hR.a.len; rw [List.length_take] at this; omega) hR.a.sim.wf.spec ((selK (L1 := offR o_) [1,2,3,4,5,6,7,8,9,10] rfl rfl w hw).has (List.Sublist.refl _)) hxo.2.2 (hxo.1.keep _ hw) (by rw [show stpE o_ x.t (x.l.map CP.c) = _ from hR.a.st (x := x.p) h42, hex]; exact h0))) fun u_ _ => VO.h rfl<|HO.lo (LO.mv (.r rfl))<|VO.h rfl<|HO.lo (LO.ex (.r rfl) rfl)<|VO.h rfl<|HO.lo (LO.ex (.r rfl) rfl)<|VO.h rfl<|HO.lo (LO.as (.r rfl))<|VO.h rfl<|HO.lo (LO.as (.r rfl))<|VO.n<|VC.seq<|VC.q (VO.m rfl rfl<|VO.u rfl rfl rfl<|VO.n<|VC.cond rfl (fun h56 => ?_) (fun h56 => ?_))))
      ·
       refine VC.q (VO.m rfl rfl<|VO.a rfl rfl<|VO.a rfl rfl<|VO.a rfl rfl<|VO.n<|VC.ret (VE.thenR (VE.inR (VE.thenR (VE.thenR (VE.inR (VE.thenR (VE.res (vs := [_,_,_]) rfl ⟨rfl, rfl, rfl, trivial⟩ (fun w hw => ?_)))))))))
       refine ⟨?_, hw.nil⟩
       refine congrArg (fun z => Ending.returned (.tuple #[.pointer none, .slice none 0 0, .int .i64 z])) ?_
       first | exact (show stpE o_ x.t (x.l.map CP.c) = _ from hR.a.st (x := x.p) h42).trans hex | exact (show noteE o_ x.t ⟨x.g, x.vs⟩ x.lv = _ from hR.a.nt (x := x.p) h42).trans hex
      · (exfalso; first | exact h56 (by rw [show stpE o_ x.t (x.l.map CP.c) = _ from hR.a.st (x := x.p) h42, hex]; exact h0) | exact h56 (by rw [show noteE o_ x.t ⟨x.g, x.vs⟩ x.lv = _ from hR.a.nt (x := x.p) h42, hex]; exact h0))
     ·
      refine VC.skip (VE.seqN<|VC.q (VO.m rfl rfl<|VO.m rfl rfl<|VO.h rfl<|HO.invx (xs := [_]) (vs := [_]) (.r rfl) (fun _ => by kernel_rfl) C124 ⟨(.r rfl), trivial⟩ (fun w hw => unit_call (play_nt_e o_ x.t ⟨x.g, x.vs⟩ x.pv x.cv x.lv w (by omega) ((selK (L1 := offR o_) [1,2,3,4,5,6,7,8,9,10] rfl rfl w hw).has (List.Sublist.refl _)) (hxo.2.1.keep _ hw) (by rw [show noteE o_ x.t ⟨x.g, x.vs⟩ x.lv = _ from hR.a.nt (x := x.p) h42, hex]; exact h0))) fun u_ _ => VO.h rfl<|HO.lo (LO.mv (.r rfl))<|VO.h rfl<|HO.lo (LO.ex (.r rfl) rfl)<|VO.h rfl<|HO.lo (LO.ex (.r rfl) rfl)<|VO.h rfl<|HO.lo (LO.as (.r rfl))<|VO.h rfl<|HO.lo (LO.as (.r rfl))<|VO.n<|VC.seq<|VC.q (VO.m rfl rfl<|VO.u rfl rfl rfl<|VO.n<|VC.cond rfl (fun h56 => ?_) (fun h56 => ?_))))
      ·
       refine VC.q (VO.m rfl rfl<|VO.a rfl rfl<|VO.a rfl rfl<|VO.a rfl rfl<|VO.n<|VC.ret (VE.thenR (VE.inR (VE.thenR (VE.thenR (VE.inR (VE.thenR (VE.res (vs := [_,_,_]) rfl ⟨rfl, rfl, rfl, trivial⟩ (fun w hw => ?_)))))))))
       refine ⟨?_, hw.nil⟩
       refine congrArg (fun z => Ending.returned (.tuple #[.pointer none, .slice none 0 0, .int .i64 z])) ?_
       first | exact (show stpE o_ x.t (x.l.map CP.c) = _ from hR.a.st (x := x.p) h42).trans hex | exact (show noteE o_ x.t ⟨x.g, x.vs⟩ x.lv = _ from hR.a.nt (x := x.p) h42).trans hex
      · (exfalso; first | exact h56 (by rw [show stpE o_ x.t (x.l.map CP.c) = _ from hR.a.st (x := x.p) h42, hex]; exact h0) | exact h56 (by rw [show noteE o_ x.t ⟨x.g, x.vs⟩ x.lv = _ from hR.a.nt (x := x.p) h42, hex]; exact h0))
   · (exfalso; omega)
theorem dPlay_e (g : Grid) (rgs : List RG) (pg : Option Addr) (cg : Nat) (a b d : Int) (s : Sp) (log : List EnM) (pl : Option Addr) (cl : Nat) (w : World) (hse : s = ⟨g, rgs.map RG.r, a, b, d⟩) (hs : specE s = 0) (hrl : rgs.length < 1000000000000) (hrg : Regs w pg rgs) (hll : log.length ≤ 256) (hl : LogM w pl log) (k : Nat) (xk : EnM) (hk : log[k]? = some xk) (hbef : ∀ (j : Nat) (x : EnM), j < k → log[j]? = some x → enE s ((log.map EnM.p).take j) x.p = 0) (er : Int) (her : enE s ((log.map EnM.p).take k) xk.p = er) (h0 : er ≠ 0) :
 Calls Tryz.prog 20 #[specV g pg rgs.length cg a b d, .slice pl log.length cl] w fun e w' => e = .returned (.tuple #[.pointer none, .slice none 0 0, .int .i64 er]) ∧ St (bs w) [] w' := by
 have hkl : k < log.length := (List.getElem?_eq_some_iff.1 hk).1
 refine enter (vs := [_,_]) (env := [(0,_), (1,_)]) Tryz.func20 rfl rfl rfl rfl ?_
 refine VC.q (VO.h rfl<|HO.box (C := #[_,_,_,_,_,_,_,_,_]) rfl rfl fun b1 => VO.a rfl rfl<|VO.a rfl rfl<|VO.a rfl rfl<|VO.n<|VC.q (VO.l (LO.lda (vs := [_,_,_,_,_,_,_,_,_]) A42 (.r rfl) (cells_blk 0 rfl ⟨_, rfl⟩) rfl) rfl<|VO.h rfl<|HO.callx (xs := [_]) (vs := [_]) C7 ⟨(.r rfl), trivial⟩ (fun w hw => rNew_c g rgs pg cg a b d w hrl (hrg.keep hw) (by rw [← hse]; exact hs)) fun q hq => VO.h rfl<|HO.lo (LO.mv (.r rfl))<|VO.h rfl<|HO.lo (LO.ex (.r rfl) rfl)<|VO.h rfl<|HO.lo (LO.ex (.r rfl) rfl)<|VO.h rfl<|HO.lo (LO.as (.r rfl))<|VO.h rfl<|HO.lo (LO.as (.r rfl))<|VO.n<|VC.seq ?_))
 refine VC.q (VO.m rfl rfl<|VO.u rfl rfl rfl<|VO.n<|VC.cond rfl (fun h20 => ?_) (fun h20 => ?_))
 · (exfalso; exact h20 rfl)
 ·
  refine VC.skip (VE.seqN<|VC.seq<|VC.q (VO.m rfl rfl<|VO.l (LO.len S44 (.r rfl) rfl) rfl<|VO.l (LO.gt (.r rfl) (.r rfl)) rfl<|VO.n<|VC.cond rfl (fun h24 => ?_) (fun h24 => ?_)))
  · (exfalso; omega)
  ·
   refine VC.skip (VE.seqN<|VC.seq ?_)
   have hqp : ∀ x, x ∈ q.2.1 → x.r.pix.length < 1000000000000 := fun x hx => by have h1 : x.r ∈ rgs.map RG.r := (by rw [← hq]; exact List.mem_map_of_mem hx); obtain ⟨z, hz, e⟩ := List.mem_map.1 h1; rw [← e]; exact (hrg.ok z hz).2
   have hse2 : s = ⟨g, q.2.1.map RG.r, a, b, d⟩ := by rw [hq]; exact hse
   refine VC.res (L' := dofR (dnew g q.2.1 q.2.2.1 q.2.2.2 a b d q.1) ++ [_]) (fun w hw => (by exact ((((St.bagD (Rs := []) ((selK (L1 := [_,_,_,_]) [0,1,2,3] rfl rfl _ hw).ownNil 55 9)).ownNil 3 1).ownNil 131 1).bagRNil 168 3 thrC).sel [5,6,7,4,3,2,1,0,8] rfl))<|VC.reg (VO.a rfl rfl<|VO.n<|VC.seq<|VC.q (VO.a rfl rfl<|VO.n ?_))
   refine VC.block<|VC.loopK (α := Nat × DoM × (List Ev) × (Option Addr) × Nat) 8 (fun gx => [(9, .slice gx.2.2.2.1 gx.2.2.1.length gx.2.2.2.2), (10, .int .i64 (gx.1 : Nat))]) [(1,_), (7,_)] (fun gx => [blk gx.2.1.b (.cells gx.2.1.C.toArray 103), own 100 2 gx.2.1.pg gx.2.1.cg (gx.2.1.rg.map RG.cells), bagD (gx.2.1.rg.map pixR), own 55 9 gx.2.1.pl gx.2.1.cl (gx.2.1.lg.map EnM.cells), bagD (gx.2.1.lg.flatMap EnM.rres), own 3 1 gx.2.1.pt gx.2.1.ct (gx.2.1.ts.map iC), own 131 1 gx.2.1.ph gx.2.1.ch (gx.2.1.th.map rowC), bagR 168 3 thrC gx.2.1.th, own 135 7 gx.2.2.2.1 gx.2.2.2.2 (gx.2.2.1.map evC)]) (fun gx => gx.1 ≤ k ∧ gx.2.1.b = q.1 ∧ PlD s (log.map EnM.p) gx.2.1 gx.1 ∧ gx.2.2.1 = evP s (log.map EnM.p) gx.1 ∧ gx.2.2.1.length ≤ 32 * gx.1) (fun gx => log.length - gx.1) (0, (dnew g q.2.1 q.2.2.1 q.2.2.2 a b d q.1), [], none, 0) (by exact ⟨Nat.zero_le _, rfl, PlD.new hs hse2 (fun x hx => hqp x hx), rfl, Nat.zero_le _⟩) (.c4 rfl rfl rfl rfl .nil) (fun _ h => ((h.ownNil 135 7)).sel [1,2,3,4,5,6,7,8,0,9] rfl) ?_
   rintro ⟨i, o_, es_, pe_, ce_⟩ ⟨hi, hob, hR, hE, hel⟩
   show VC _ _ _ _ _ ([(9, .slice pe_ es_.length ce_), (10, .int .i64 (i : Nat))] ++ _) ([blk o_.b (.cells o_.C.toArray 103), own 100 2 o_.pg o_.cg (o_.rg.map RG.cells), bagD (o_.rg.map pixR), own 55 9 o_.pl o_.cl (o_.lg.map EnM.cells), bagD (o_.lg.flatMap EnM.rres), own 3 1 o_.pt o_.ct (o_.ts.map iC), own 131 1 o_.ph o_.ch (o_.th.map rowC), bagR 168 3 thrC o_.th, own 135 7 pe_ ce_ (es_.map evC)] ++ _) _ _
   dsimp only at hi hob hR hE hel
   rw [← hob]
   obtain ⟨hrn0, hrn1⟩ := hR.dos.rn
   refine VC.seq<|VC.q (VO.m rfl rfl<|VO.m rfl rfl<|VO.l (LO.len S44 (.r rfl) rfl) rfl<|VO.t rfl rfl rfl<|VO.n<|VC.cond rfl (fun h28 => ?_) (fun h28 => ?_))
   ·
    obtain ⟨x, hx⟩ : ∃ x, log[i]? = some x := ⟨_, List.getElem?_eq_getElem (by omega)⟩
    have hxo := hl.ok x (List.mem_of_getElem? hx)
    have hxp : (log.map EnM.p)[i]? = some x.p := by rw [List.getElem?_map, hx]; rfl
    refine VC.skip (VE.seqN<|VC.seq<|VC.block<|VC.seq ?_)
    rcases Nat.lt_or_ge i k with hik | hik
    ·
     have hex := hbef i x (by omega) hx
     refine VC.reg (VO.m rfl rfl<|VO.m rfl rfl<|VO.l (LO.ixs S44 N55 hl.rows.sm (.r rfl) (.r rfl) rfl (by omega)) rfl<|VO.l (LO.lda (vs := [_,_,_,_,_,_,_,_,_]) A55 (.r rfl) (fun w hw => cells_part (off := 0) ((fun w2 hw2 => (hl.rows.keep w2 hw2).cells _ _ (by rw [List.getElem?_map, hx]; rfl)) w hw) ⟨_, rfl⟩) rfl) rfl<|VO.h rfl<|HO.alloc (C := #[_,_,_,_,_,_,_,_,_]) Z55 rfl fun b11 => VO.h0<|HO.st 0 (vs := [_,_,_,_,_,_,_,_,_]) (C' := [_,_,_,_,_,_,_,_,_]) (L' := [_,_,_,_,_,_,_,_,_,_,_]) N55 rfl rfl rfl rfl rfl rfl rfl rfl<|VO.n<|VC.seq<|VC.q (VO.f (r := 8) F55_3 rfl rfl rfl<|VO.c 0 O3 rfl rfl ⟨_, rfl⟩ rfl<|VO.u rfl rfl rfl<|VO.n<|VC.cond rfl (fun h37 => ?_) (fun h37 => ?_)))
     ·
      refine VC.q (VO.m rfl rfl<|VO.f (r := 0) F55_0 rfl rfl rfl<|VO.c 0 O3 rfl rfl ⟨_, rfl⟩ rfl<|VO.f (r := 2) F55_2 rfl rfl rfl<|VO.l (LO.lda (vs := [_,_,_,_,_,_]) A48 (.r rfl) (cells_blk 0 rfl ⟨_, rfl⟩) rfl) rfl<|VO.f (r := 8) F55_3 rfl rfl rfl<|VO.c 0 O3 rfl rfl ⟨_, rfl⟩ rfl<|VO.h rfl<|HO.callP (first := []) (cap := []) (xs := [_,_,_,_]) (vs := [_,_,_,_]) [_,_,_,_,_,_,_,_] [_,_,_] (selK (L1 := [_,_,_,_,_,_,_,_] ++ [_,_,_]) [1,2,3,4,5,6,7,8,0,9,10] rfl rfl) (.r rfl) C12 ⟨(.r rfl), (.r rfl), (.r rfl), (.r rfl), trivial⟩ (fun w hw hh => dNote_c o_ x.t ⟨x.g, x.vs⟩ x.pv x.cv x.lv w hh (fun hs => hxo.2.1.keep _ (old_in (selK (L1 := dofR o_ ++ [_,_,_]) [1,2,3,4,5,6,7,8,0,9,10] rfl rfl w hw) hs)) ((hR.ntq (x := x.p) h37).trans hex)) fun y _ => VO.h rfl<|HO.lo (LO.as (.r rfl))<|VO.n<|VC.seq<|VC.q (VO.m rfl rfl<|VO.u rfl rfl rfl<|VO.n ?_))
      refine VC.cond rfl (fun h47 => ?_) (fun h47 => ?_)
      · (exfalso; exact h47 rfl)
      ·
       refine VC.skip (VE.seqN<|VC.exit (VE.thenX (VE.inX (VE.seqN<|VC.reg (VO.m rfl rfl<|VO.p rfl rfl (by omega) (by omega) rfl<|VO.a rfl rfl<|VO.nil<|VE.thenN fun a w ha hw => ⟨(i + 1, { o_ with lg := o_.lg ++ [EnM.mk x.t [] none 0 x.g x.vs y.1.1 y.1.2 x.lv], pl := y.2.1, cl := y.2.2 }, es_, pe_, ce_), ⟨by dsimp only; omega, rfl, hR.note hxp h37 hex, by dsimp only; rw [hE, evP_nt hxp h37, List.append_nil], by dsimp only; omega⟩, (by dsimp only; omega), ha.sub (.c4 rfl rfl rfl rfl .nil), (by exact selK (L1 := [_,_,_,_,_,_,_,_,_,_]) [0,1,2,3,4,5,6,7,9,10] rfl rfl _ hw)⟩)))))
     ·
      have h37 := Classical.not_not.1 h37
      refine VC.skip (VE.seqN<|VC.seq ?_)
      obtain ⟨en1, en2, en3, en4⟩ := en_st0 (x := x.p) h37 hex
      refine VC.reg (VO.m rfl rfl<|VO.f (r := 0) F55_0 rfl rfl rfl<|VO.c 0 O3 rfl rfl ⟨_, rfl⟩ rfl<|VO.f (r := 1) F55_1 rfl rfl rfl<|VO.c 0 O52 rfl rfl ⟨_, rfl⟩ rfl<|VO.h rfl<|HO.callP (first := []) (cap := []) (xs := [_,_,_]) (vs := [_,_,_]) [_,_,_,_,_,_,_,_] [_,_,_] (selK (L1 := [_,_,_,_,_,_,_,_] ++ [_,_,_]) [1,2,3,4,5,6,7,8,0,9,10] rfl rfl) (.r rfl) C14 ⟨(.r rfl), (.r rfl), (.r rfl), trivial⟩ (fun w hw hh => dStep_c o_ (stP s ((log.map EnM.p).take i)) x.t x.l x.pc x.cc w hR.dos hR.spec hR.px hh hxo.2.2 (fun hs => hxo.1.keep _ (old_in (selK (L1 := dofR o_ ++ [_,_,_]) [1,2,3,4,5,6,7,8,0,9,10] rfl rfl w hw) hs)) en1.1 en1.2 (by rw [hR.ts]; exact en2) (by rw [hR.len]; exact en3) (Nat.lt_of_le_of_lt stP_len en3) (by rw [hR.g]; exact en4)) fun y hy => VO.h rfl<|HO.lo (LO.mv (.r rfl))<|VO.h rfl<|HO.lo (LO.ex (.r rfl) rfl)<|VO.h rfl<|HO.lo (LO.ex (.r rfl) rfl)<|VO.h rfl<|HO.lo (LO.as (.r rfl))<|VO.h rfl<|HO.lo (LO.as (.r rfl))<|VO.n<|VC.seq<|VC.q (VO.m rfl rfl<|VO.u rfl rfl rfl<|VO.n<|VC.cond rfl (fun h59 => ?_) (fun h59 => ?_)))
      · (exfalso; exact h59 rfl)
      ·
       refine VC.skip (VE.seqN<|VC.reg (VO.m rfl rfl<|VO.m rfl rfl<|VO.h rfl<|HO.appN (f := evC) (l := es_) (m := (evF o_.hold o_.rg.length (stP s ((log.map EnM.p).take i)) ⟨x.t, thsP o_.sp (x.l.map CP.c)⟩)) 10 (fun R => [_,_,_,_,_,_,_,_,_,_, R,_]) S60 S60 I135 (.r rfl) (.r rfl) rfl (fun w hw => own_rows hw 0 rfl) (fun _ => rfl) (fun _ => rfl) rfl rfl (fun _ => rfl) rfl rfl (by have := runE_ln (H := o_.hold) (st := stP s ((log.map EnM.p).take i)) (s := ⟨x.t, thsP o_.sp (x.l.map CP.c)⟩) (cs := csF o_.hold o_.rg.length (stP s ((log.map EnM.p).take i))) o_.rg.length; unfold evF; omega) fun p2 c2 _ => VO.h rfl<|HO.lo (LO.as (.r rfl))<|VO.nil<|VE.inN (VE.seqN<|VC.reg (VO.m rfl rfl<|VO.p rfl rfl (by omega) (by omega) rfl<|VO.a rfl rfl<|VO.nil<|VE.thenN fun a w ha hw => ⟨(i + 1, y.o o_ x.t, es_ ++ (evF o_.hold o_.rg.length (stP s ((log.map EnM.p).take i)) ⟨x.t, thsP o_.sp (x.l.map CP.c)⟩), p2, c2), ⟨by dsimp only; omega, rfl, hR.step hxp h37 (cl_bd hxo) hex hy.1 hy.2, by dsimp only; rw [hE, hR.ev hxp h37]; rfl, by dsimp only; have := runE_ln (H := o_.hold) (st := stP s ((log.map EnM.p).take i)) (s := ⟨x.t, thsP o_.sp (x.l.map CP.c)⟩) (cs := csF o_.hold o_.rg.length (stP s ((log.map EnM.p).take i))) o_.rg.length; rw [List.length_append]; unfold evF; omega⟩, (by dsimp only; omega), ha.sub (.cons (congrArg (fun n => some (Value.slice p2 n c2)) (by rw [List.length_append]; try rfl)) (.cons rfl (.cons rfl (.cons rfl .nil)))), (by exact selK (L1 := [_,_,_,_,_,_,_,_,_,_]) [1,2,3,4,5,6,7,8,10,11] rfl rfl _ hw)⟩))))
    ·
     have hik2 : i = k := by omega
     subst hik2
     have hxe : x = xk := Option.some.inj (hx.symm.trans hk)
     subst hxe
     have hex := her
     refine VC.reg (VO.m rfl rfl<|VO.m rfl rfl<|VO.l (LO.ixs S44 N55 hl.rows.sm (.r rfl) (.r rfl) rfl (by omega)) rfl<|VO.l (LO.lda (vs := [_,_,_,_,_,_,_,_,_]) A55 (.r rfl) (fun w hw => cells_part (off := 0) ((fun w2 hw2 => (hl.rows.keep w2 hw2).cells _ _ (by rw [List.getElem?_map, hx]; rfl)) w hw) ⟨_, rfl⟩) rfl) rfl<|VO.h rfl<|HO.alloc (C := #[_,_,_,_,_,_,_,_,_]) Z55 rfl fun b30 => VO.h0<|HO.st 0 (vs := [_,_,_,_,_,_,_,_,_]) (C' := [_,_,_,_,_,_,_,_,_]) (L' := [_,_,_,_,_,_,_,_,_,_,_]) N55 rfl rfl rfl rfl rfl rfl rfl rfl<|VO.n<|VC.seq<|VC.q (VO.f (r := 8) F55_3 rfl rfl rfl<|VO.c 0 O3 rfl rfl ⟨_, rfl⟩ rfl<|VO.u rfl rfl rfl<|VO.n<|VC.cond rfl (fun h37 => ?_) (fun h37 => ?_)))
     ·
      refine VC.q (VO.m rfl rfl<|VO.f (r := 0) F55_0 rfl rfl rfl<|VO.c 0 O3 rfl rfl ⟨_, rfl⟩ rfl<|VO.f (r := 2) F55_2 rfl rfl rfl<|VO.l (LO.lda (vs := [_,_,_,_,_,_]) A48 (.r rfl) (cells_blk 0 rfl ⟨_, rfl⟩) rfl) rfl<|VO.f (r := 8) F55_3 rfl rfl rfl<|VO.c 0 O3 rfl rfl ⟨_, rfl⟩ rfl<|VO.h rfl<|HO.lo (LO.call (xs := [_,_,_,_]) (vs := [_,_,_,_]) C12 ⟨(.r rfl), (.r rfl), (.r rfl), (.r rfl), trivial⟩ (fun w hw => dNote_e o_ x.t ⟨x.g, x.vs⟩ x.pv x.cv x.lv w ((selK (L1 := dofR o_) [1,2,3,4,5,6,7,8] rfl rfl w hw).has (List.Sublist.refl _)) (by have := hR.len; rw [List.length_take] at this; omega) (hxo.2.1.keep _ hw) (by rw [show ntQ o_.lg.length o_.g x.t ⟨x.g, x.vs⟩ x.lv = _ from hR.ntq (x := x.p) h37, hex]; exact h0)))<|VO.h rfl<|HO.lo (LO.as (.r rfl))<|VO.n<|VC.seq<|VC.q (VO.m rfl rfl<|VO.u rfl rfl rfl<|VO.n ?_))
      refine VC.cond rfl (fun h47 => ?_) (fun h47 => ?_)
      ·
       refine VC.q (VO.m rfl rfl<|VO.a rfl rfl<|VO.a rfl rfl<|VO.a rfl rfl<|VO.n<|VC.ret (VE.thenR (VE.thenR (VE.inR (VE.thenR (VE.thenR (VE.inR (VE.thenR (VE.res (vs := [_,_,_]) rfl ⟨rfl, rfl, rfl, trivial⟩ (fun w hw => ?_))))))))))
       refine ⟨?_, hw.nil⟩
       refine congrArg (fun z => Ending.returned (.tuple #[.pointer none, .slice none 0 0, .int .i64 z])) ?_
       first | exact (hR.ntq (x := x.p) h37).trans hex | exact (show stpQ o_.ts o_.lg.length o_.g x.t (x.l.map CP.c) = _ from hR.st (x := x.p) h37).trans hex
      · (exfalso; exact h47 (by rw [show ntQ o_.lg.length o_.g x.t ⟨x.g, x.vs⟩ x.lv = _ from hR.ntq (x := x.p) h37, hex]; exact h0))
     ·
      have h37 := Classical.not_not.1 h37
      refine VC.skip (VE.seqN<|VC.q (VO.m rfl rfl<|VO.f (r := 0) F55_0 rfl rfl rfl<|VO.c 0 O3 rfl rfl ⟨_, rfl⟩ rfl<|VO.f (r := 1) F55_1 rfl rfl rfl<|VO.c 0 O52 rfl rfl ⟨_, rfl⟩ rfl<|VO.h rfl<|HO.lo (LO.call (xs := [_,_,_]) (vs := [_,_,_]) C14 ⟨(.r rfl), (.r rfl), (.r rfl), trivial⟩ (fun w hw => dStep_e o_ (stP s ((log.map EnM.p).take i)) x.t x.l x.pc x.cc w hR.dos ((selK (L1 := dofR o_) [1,2,3,4,5,6,7,8] rfl rfl w hw).has (List.Sublist.refl _)) hxo.2.2 (hxo.1.keep _ hw) (by rw [show stpQ o_.ts o_.lg.length o_.g x.t (x.l.map CP.c) = _ from hR.st (x := x.p) h37, hex]; exact h0)))<|VO.h rfl<|HO.lo (LO.mv (.r rfl))<|VO.h rfl<|HO.lo (LO.ex (.r rfl) rfl)<|VO.h rfl<|HO.lo (LO.ex (.r rfl) rfl)<|VO.h rfl<|HO.lo (LO.as (.r rfl))<|VO.h rfl<|HO.lo (LO.as (.r rfl))<|VO.n<|VC.seq<|VC.q (VO.m rfl rfl<|VO.u rfl rfl rfl<|VO.nil ?_)))
      refine VE.seqN<|VC.cond rfl (fun h59 => ?_) (fun h59 => ?_)
      ·
       refine VC.q (VO.m rfl rfl<|VO.a rfl rfl<|VO.a rfl rfl<|VO.a rfl rfl<|VO.n<|VC.ret (VE.thenR (VE.inR (VE.thenR (VE.thenR (VE.inR (VE.thenR (VE.res (vs := [_,_,_]) rfl ⟨rfl, rfl, rfl, trivial⟩ (fun w hw => ?_)))))))))
       refine ⟨?_, hw.nil⟩
       refine congrArg (fun z => Ending.returned (.tuple #[.pointer none, .slice none 0 0, .int .i64 z])) ?_
       first | exact (hR.ntq (x := x.p) h37).trans hex | exact (show stpQ o_.ts o_.lg.length o_.g x.t (x.l.map CP.c) = _ from hR.st (x := x.p) h37).trans hex
      · (exfalso; exact h59 (by rw [show stpQ o_.ts o_.lg.length o_.g x.t (x.l.map CP.c) = _ from hR.st (x := x.p) h37, hex]; exact h0))
   · (exfalso; omega)
theorem K3 : Tryz.prog.cellsOf 3 = 1 := by kernel_rfl
theorem K74 : Tryz.prog.cellsOf 74 = 2 := by kernel_rfl
theorem K77 : Tryz.prog.cellsOf 77 = 2 := by kernel_rfl
theorem K81 : Tryz.prog.cellsOf 81 = 7 := by kernel_rfl
section
variable {H : Type} {enc : TypeId × Value → H} {W : World}
theorem rd3 : RD enc Tryz.prog W 3 fun cs => ∃ n, cs = [.int .i64 n] ∧ kb .i64 n := RD.int Tryz.underlying3
theorem rd9 : RD enc Tryz.prog W 9 fun cs => ∃ s : ByteArray, cs = [.string s] ∧ s.size ≤ maxLen := RD.string Tryz.underlying9
theorem rd72 : RD enc Tryz.prog W 72 fun cs => ∃ (p : Option Addr) (cap : Nat) (l : List Int), cs = [.slice p l.length cap] ∧ l.length ≤ 9223372036854775807 ∧ Ints W p l ∧ ∀ n, n ∈ l → kb .i64 n := RD.ints Tryz.underlying72 Tryz.underlying3 K3
theorem rd77 : RD enc Tryz.prog W 77 fun cs => ∃ a b, cs = [.int .i64 a, .int .i64 b] ∧ kb .i64 a ∧ kb .i64 b := fun n cs x hx => by
  obtain ⟨css, rfl, hlen,_, hp⟩ := trod_parts Tryz.underlying77 (zs := [1,1]) (by kernel_rfl) rfl (by kernel_rfl) hx
  match css, hlen with
  | [c0, c1],_ =>
    obtain ⟨_,_, h0⟩ := hp 0 _ c0 rfl rfl
    obtain ⟨_,_, h1⟩ := hp 1 _ c1 rfl rfl
    obtain ⟨a, rfl, ha⟩ := rd3 _ _ _ h0
    obtain ⟨b, rfl, hb⟩ := rd3 _ _ _ h1
    exact ⟨a, b, rfl, ha, hb⟩
theorem rd79 : RD enc Tryz.prog W 79 fun cs => ∃ f : Flow, cs = [.int .i64 f.a, .int .i64 f.b, .int .i64 f.c, .int .i64 f.d] ∧ kb .i64 f.a ∧ kb .i64 f.b ∧ kb .i64 f.c ∧ kb .i64 f.d := fun n cs x hx => by
  obtain ⟨css, rfl, hlen,_, hp⟩ := trod_parts Tryz.underlying79 (zs := [2,2]) (by kernel_rfl) rfl (by kernel_rfl) hx
  match css, hlen with
  | [c0, c1],_ =>
    obtain ⟨_,_, h0⟩ := hp 0 _ c0 rfl rfl
    obtain ⟨_,_, h1⟩ := hp 1 _ c1 rfl rfl
    obtain ⟨a, b, rfl, ha, hb⟩ := rd77 _ _ _ h0
    obtain ⟨c, d, rfl, hc, hd⟩ := rd77 _ _ _ h1
    exact ⟨⟨a, b, c, d⟩, rfl, ha, hb, hc, hd⟩
theorem rd23 : RD enc Tryz.prog W 23 fun cs => ∃ g : Grid, cs = [.int .i64 g.x, .int .i64 g.y, .int .i64 g.size, .int .i64 g.wide, .int .i64 g.high] ∧ kb .i64 g.x ∧ kb .i64 g.y ∧ kb .i64 g.size ∧ kb .i64 g.wide ∧ kb .i64 g.high := fun n cs x hx => by
  obtain ⟨css, rfl, hlen,_, hp⟩ := trod_parts Tryz.underlying23 (zs := [1,1,1,1,1]) (by kernel_rfl) rfl (by kernel_rfl) hx
  match css, hlen with
  | [c0, c1, c2, c3, c4],_ =>
    obtain ⟨_,_, h0⟩ := hp 0 _ c0 rfl rfl
    obtain ⟨_,_, h1⟩ := hp 1 _ c1 rfl rfl
    obtain ⟨_,_, h2⟩ := hp 2 _ c2 rfl rfl
    obtain ⟨_,_, h3⟩ := hp 3 _ c3 rfl rfl
    obtain ⟨_,_, h4⟩ := hp 4 _ c4 rfl rfl
    obtain ⟨a, rfl, ha⟩ := rd3 _ _ _ h0
    obtain ⟨b, rfl, hb⟩ := rd3 _ _ _ h1
    obtain ⟨c, rfl, hc⟩ := rd3 _ _ _ h2
    obtain ⟨d, rfl, hd⟩ := rd3 _ _ _ h3
    obtain ⟨e, rfl, he⟩ := rd3 _ _ _ h4
    exact ⟨⟨a, b, c, d, e⟩, rfl, ha, hb, hc, hd, he⟩
theorem rd26 : RD enc Tryz.prog W 26 fun cs => ∃ a b d, cs = [.int .i64 a, .int .i64 b, .int .i64 d] := fun n cs x hx => by
  obtain ⟨css, rfl, hlen,_, hp⟩ := trod_parts Tryz.underlying26 (zs := [1,1,1]) (by kernel_rfl) rfl (by kernel_rfl) hx
  match css, hlen with
  | [c0, c1, c2],_ =>
    obtain ⟨_,_, h0⟩ := hp 0 _ c0 rfl rfl
    obtain ⟨_,_, h1⟩ := hp 1 _ c1 rfl rfl
    obtain ⟨_,_, h2⟩ := hp 2 _ c2 rfl rfl
    obtain ⟨a, rfl, ha⟩ := rd3 _ _ _ h0
    obtain ⟨b, rfl, hb⟩ := rd3 _ _ _ h1
    obtain ⟨c, rfl, hc⟩ := rd3 _ _ _ h2
    exact ⟨a, b, c, rfl⟩
theorem rd74 : RD enc Tryz.prog W 74 fun cs => ∃ x : RG, cs = x.cells ∧ Ints W x.px x.r.pix := fun n cs x hx => by
  obtain ⟨css, rfl, hlen,_, hp⟩ := trod_parts Tryz.underlying74 (zs := [1,1]) (by kernel_rfl) rfl (by kernel_rfl) hx
  match css, hlen with
  | [c0, c1],_ =>
    obtain ⟨_,_, h0⟩ := hp 0 _ c0 rfl rfl
    obtain ⟨_,_, h1⟩ := hp 1 _ c1 rfl rfl
    obtain ⟨s, rfl,_⟩ := rd9 _ _ _ h0
    obtain ⟨p, cp, l, rfl,_, hl,_⟩ := rd72 _ _ _ h1
    exact ⟨⟨⟨s, l⟩, p, cp⟩, rfl, hl⟩
theorem rd24 : RD enc Tryz.prog W 24 fun cs => ∃ (p : Option Addr) (cap : Nat) (l : List RG), cs = [.slice p l.length cap] ∧ RegsU W p l := fun n cs x hx => by
  obtain ⟨p, cap, rows, rfl, h1, h2, h3⟩ := RD.slice Tryz.underlying24 K74 (by decide) rd74 _ _ _ hx
  obtain ⟨l, rfl, h5⟩ := rows_map (f := RG.cells) (Q := fun x => Ints W x.px x.r.pix) (fun r hr => by obtain ⟨x, h6, h7⟩ := (h3 r hr).2; exact ⟨x, h6, h7⟩)
  exact ⟨p, cap, l, by simp, h2, h5⟩
theorem rd28 : RD enc Tryz.prog W 28 fun cs => ∃ (g : Grid) (p : Option Addr) (cap : Nat) (l : List RG) (a b d : Int), cs = [.int .i64 g.x, .int .i64 g.y, .int .i64 g.size, .int .i64 g.wide, .int .i64 g.high, .slice p l.length cap, .int .i64 a, .int .i64 b, .int .i64 d] ∧ RegsU W p l := fun n cs x hx => by
  obtain ⟨css, rfl, hlen,_, hp⟩ := trod_parts Tryz.underlying28 (zs := [5,1,3]) (by kernel_rfl) rfl (by kernel_rfl) hx
  match css, hlen with
  | [c0, c1, c2],_ =>
    obtain ⟨_,_, h0⟩ := hp 0 _ c0 rfl rfl
    obtain ⟨_,_, h1⟩ := hp 1 _ c1 rfl rfl
    obtain ⟨_,_, h2⟩ := hp 2 _ c2 rfl rfl
    obtain ⟨g, rfl,_⟩ := rd23 _ _ _ h0
    obtain ⟨p, cp, l, rfl, hl⟩ := rd24 _ _ _ h1
    obtain ⟨a, b, d, rfl⟩ := rd26 _ _ _ h2
    exact ⟨g, p, cp, l, a, b, d, rfl, hl⟩
theorem rd81 : RD enc Tryz.prog W 81 fun cs => ∃ x : CP, cs = x.cells ∧ (Ints W x.ps x.c.sure ∧ Ints W x.pm x.c.may) := fun n cs x hx => by
  obtain ⟨css, rfl, hlen,_, hp⟩ := trod_parts Tryz.underlying81 (zs := [1,1,4,1]) (by kernel_rfl) rfl (by kernel_rfl) hx
  match css, hlen with
  | [c0, c1, c2, c3],_ =>
    obtain ⟨_,_, h0⟩ := hp 0 _ c0 rfl rfl
    obtain ⟨_,_, h1⟩ := hp 1 _ c1 rfl rfl
    obtain ⟨_,_, h2⟩ := hp 2 _ c2 rfl rfl
    obtain ⟨_,_, h3⟩ := hp 3 _ c3 rfl rfl
    obtain ⟨p, cp, l, rfl,_, hl,_⟩ := rd72 _ _ _ h0
    obtain ⟨q, cq, m, rfl,_, hm,_⟩ := rd72 _ _ _ h1
    obtain ⟨f, rfl, hf⟩ := rd79 _ _ _ h2
    obtain ⟨g, rfl, hg⟩ := rd3 _ _ _ h3
    exact ⟨⟨⟨l, m, f, g⟩, p, cp, q, cq⟩, rfl, hl, hm⟩
theorem rd45 : RD enc Tryz.prog W 45 fun cs => ∃ (p : Option Addr) (cap : Nat) (l : List CP), cs = [.slice p l.length cap] ∧ CldU W p l := fun n cs x hx => by
  obtain ⟨p, cap, rows, rfl, h1, h2, h3⟩ := RD.slice Tryz.underlying45 K81 (by decide) rd81 _ _ _ hx
  obtain ⟨l, rfl, h5⟩ := rows_map (f := CP.cells) (Q := fun x => Ints W x.ps x.c.sure ∧ Ints W x.pm x.c.may) (fun r hr => by obtain ⟨x, h6, h7⟩ := (h3 r hr).2; exact ⟨x, h6, h7⟩)
  exact ⟨p, cap, l, by simp, h2, h5⟩
end
theorem K50 : Tryz.prog.cellsOf 50 = 9 := by kernel_rfl
structure LogU (w : World) (p : Option Addr) (l : List EnM) : Prop where
  rows : RO 9 EnM.cells w p l
  ok : ∀ x, x ∈ l → CldU w x.pc x.l ∧ Spans w x.pv x.vs
section
variable {H : Type} {enc : TypeId × Value → H} {W : World}
theorem rdSp : RD enc Tryz.prog W 46 fun cs => ∃ (p : Option Addr) (cap : Nat) (l : List Span), cs = [.slice p l.length cap] ∧ Spans W p l := fun n cs x hx => by
  obtain ⟨p, cap, rows, rfl, h1, h2, h3⟩ := RD.slice Tryz.underlying46 K77 (by decide) rd77 _ _ _ hx
  obtain ⟨l, rfl, h5⟩ := rows_map (f := Span.cells) (Q := fun _ => True) (fun r hr => by obtain ⟨a, b, h6,_⟩ := (h3 r hr).2; exact ⟨⟨a, b⟩, h6, trivial⟩)
  exact ⟨p, cap, l, by simp, h2⟩
theorem rdFd : RD enc Tryz.prog W 48 fun cs => ∃ (g : Grid) (p : Option Addr) (cap : Nat) (l : List Span), cs = [.int .i64 g.x, .int .i64 g.y, .int .i64 g.size, .int .i64 g.wide, .int .i64 g.high, .slice p l.length cap] ∧ Spans W p l := fun n cs x hx => by
  obtain ⟨css, rfl, hlen,_, hp⟩ := trod_parts Tryz.underlying48 (zs := [5,1]) (by kernel_rfl) rfl (by kernel_rfl) hx
  match css, hlen with
  | [c0, c1],_ =>
    obtain ⟨_,_, h0⟩ := hp 0 _ c0 rfl rfl
    obtain ⟨_,_, h1⟩ := hp 1 _ c1 rfl rfl
    obtain ⟨g, rfl,_⟩ := rd23 _ _ _ h0
    obtain ⟨p, cp, l, rfl, hl⟩ := rdSp _ _ _ h1
    exact ⟨g, p, cp, l, rfl, hl⟩
theorem rdEn : RD enc Tryz.prog W 50 fun cs => ∃ x : EnM, cs = x.cells ∧ (CldU W x.pc x.l ∧ Spans W x.pv x.vs) := fun n cs x hx => by
  obtain ⟨css, rfl, hlen,_, hp⟩ := trod_parts Tryz.underlying50 (zs := [1,1,6,1]) (by kernel_rfl) rfl (by kernel_rfl) hx
  match css, hlen with
  | [c0, c1, c2, c3],_ =>
    obtain ⟨_,_, h0⟩ := hp 0 _ c0 rfl rfl
    obtain ⟨_,_, h1⟩ := hp 1 _ c1 rfl rfl
    obtain ⟨_,_, h2⟩ := hp 2 _ c2 rfl rfl
    obtain ⟨_,_, h3⟩ := hp 3 _ c3 rfl rfl
    obtain ⟨t, rfl,_⟩ := rd3 _ _ _ h0
    obtain ⟨pc, cc, m, rfl, hm⟩ := rd45 _ _ _ h1
    obtain ⟨g, pv, cv, vs, rfl, hv⟩ := rdFd _ _ _ h2
    obtain ⟨lv, rfl,_⟩ := rd3 _ _ _ h3
    exact ⟨⟨t, m, pc, cc, g, vs, pv, cv, lv⟩, rfl, hm, hv⟩
theorem rdLog : RD enc Tryz.prog W 29 fun cs => ∃ (p : Option Addr) (cap : Nat) (l : List EnM), cs = [.slice p l.length cap] ∧ LogU W p l := fun n cs x hx => by
  obtain ⟨p, cap, rows, rfl, h1, h2, h3⟩ := RD.slice Tryz.underlying29 K50 (by decide) rdEn _ _ _ hx
  obtain ⟨l, rfl, h5⟩ := rows_map (f := EnM.cells) (Q := fun x => CldU W x.pc x.l ∧ Spans W x.pv x.vs) (fun r hr => by obtain ⟨x, h6, h7⟩ := (h3 r hr).2; exact ⟨x, h6, h7⟩)
  exact ⟨p, cap, l, by simp, h2, h5⟩
end
section
variable {s : Sp} {acc : List EnP} {o : OfM} {d : DoM} {x : EnP}
theorem tk_app : (acc ++ [x]).take acc.length = acc.take acc.length := by rw [List.take_left, List.take_length]
theorem tk_get : (acc ++ [x])[acc.length]? = some x := by rw [List.getElem?_append_right (Nat.le_refl _)]; simp
theorem tk_en (he : enE s acc x = 0) : enE s ((acc ++ [x]).take acc.length) x = 0 := by rw [List.take_left]; exact he
theorem PlB.nt1 {p q : Option Addr} {c e : Nat} (h : PlB s acc o acc.length) (hx : ¬ x.lv = 0) (he : enE s acc x = 0) : PlB s (acc ++ [x]) { o with lg := o.lg ++ [LgM.nt x.t x.g p c x.vs x.lv], pl := q, cl := e } (acc ++ [x]).length := by
  rw [List.length_append]
  exact (h.take tk_app).note tk_get hx (tk_en he)
theorem PlD.nt1 {p q : Option Addr} {c e : Nat} (h : PlD s acc d acc.length) (hx : ¬ x.lv = 0) (he : enE s acc x = 0) : PlD s (acc ++ [x]) { d with lg := d.lg ++ [EnM.mk x.t [] none 0 x.g x.vs p c x.lv], pl := q, cl := e } (acc ++ [x]).length := by
  rw [List.length_append]
  exact (h.take tk_app).note tk_get hx (tk_en he)
theorem PlB.st1 {y : StepY} (h : PlB s acc o acc.length) (hx : x.lv = 0) (hb : x.l.length < 1000000000 ∧ ∀ c, c ∈ x.l → c.sure.length < 1000000000000 ∧ c.may.length < 1000000000000) (hp : StepP o x.t x.l y) (hs : SimO (y.o o x.t) (stP s acc ++ [⟨x.t, thsP o.sp x.l⟩])) : PlB s (acc ++ [x]) (y.o o x.t) (acc ++ [x]).length := by
  rw [List.length_append]
  exact (h.take tk_app).step tk_get hx hb hp (by rw [List.take_left]; exact hs)
theorem PlD.st1 {y : DsY} (h : PlD s acc d acc.length) (hx : x.lv = 0) (hb : x.l.length < 1000000000 ∧ ∀ c, c ∈ x.l → c.sure.length < 1000000000000 ∧ c.may.length < 1000000000000) (he : enE s acc x = 0) (hy1 : y.x.p = ⟨x.t, x.l, gZ, [], 0⟩) (hy2 : DoS (y.o d x.t) (stP s acc ++ [⟨x.t, thsP d.sp x.l⟩])) : PlD s (acc ++ [x]) (y.o d x.t) (acc ++ [x]).length := by
  rw [List.length_append]
  exact (h.take tk_app).step tk_get hx hb (tk_en he) hy1 (by rw [List.take_left]; exact hy2)
end
def accN (s : Sp) (acc : List EnP) (x : EnP) : List EnP := if enE s acc x = 0 then acc ++ [x] else acc
def evN (s : Sp) (acc : List EnP) (x : EnP) : List Ev := if enE s acc x = 0 then evF s.hold s.regs.length (stP s acc) ⟨x.t, thsP s x.l⟩ else []
def accF (s : Sp) (l : List EnP) : List EnP := l.foldl (accN s) []
theorem accN_t {s : Sp} {acc : List EnP} {x : EnP} (h : enE s acc x = 0) : accN s acc x = acc ++ [x] := if_pos h
theorem accN_f {s : Sp} {acc : List EnP} {x : EnP} (h : ¬ enE s acc x = 0) : accN s acc x = acc := if_neg h
theorem evN_t {s : Sp} {acc : List EnP} {x : EnP} (h : enE s acc x = 0) : evN s acc x = evF s.hold s.regs.length (stP s acc) ⟨x.t, thsP s x.l⟩ := if_pos h
theorem evN_f {s : Sp} {acc : List EnP} {x : EnP} (h : ¬ enE s acc x = 0) : evN s acc x = [] := if_neg h
theorem evN_len {s : Sp} {acc : List EnP} {x : EnP} : (evN s acc x).length ≤ s.regs.length := by
  unfold evN
  split
  · unfold evF; exact runE_ln _
  · exact Nat.zero_le _
theorem accN_len {s : Sp} {acc : List EnP} {x : EnP} : (accN s acc x).length ≤ acc.length + 1 := by
  unfold accN
  split
  · rw [List.length_append]; exact Nat.le_refl _
  · exact Nat.le_succ _
theorem accF_snoc {s : Sp} {l : List EnP} {x : EnP} : accF s (l ++ [x]) = accN s (accF s l) x := by unfold accF; rw [List.foldl_append]; rfl
section
variable {s : Sp} {acc : List EnP} {o : OfM} {d : DoM} {x : EnM} {w : World}
theorem has_call {w' : World} {L : List Res} (hh : Has w L) (k : St (bs w) [] w') : St ⟨w, fpL L⟩ L w' := St.call hh k
structure OfE where
  o : OfM
  pe : Option Addr
  ce : Nat
theorem StepU (hB : PlB s acc o acc.length) (hx : x.lv = 0) (hlen : acc.length ≤ 12) (hh : Has w (offR o)) (hxo : Clouds w x.pc x.l ∧ Spans w x.pv x.vs ∧ x.l.length < 1000000000) (hcl : ∀ {L : List Res} {v : World}, St ⟨w, fpL (offR o)⟩ L v → Clouds v x.pc x.l) :
    Calls Tryz.prog 13 #[ptrN o.b, .int .i64 x.t, .slice x.pc x.l.length x.cc] w fun e w' => ∃ y : OfE, (PlB s (accN s acc x.p) y.o (accN s acc x.p).length ∧ y.o.b = o.b) ∧ e = .returned (.tuple #[.slice y.pe (evN s acc x.p).length y.ce, .int .i64 (enE s acc x.p)]) ∧ St ⟨w, fpL (offR o)⟩ (own 84 7 y.pe y.ce ((evN s acc x.p).map evC) :: offR y.o) w' := by
  have hsim : SimO o (stP s acc) := by have z := hB.a.sim; rw [List.take_length] at z; exact z
  have hst : stpE o x.t (x.l.map CP.c) = enE s acc x.p := by have z := hB.a.st (x := x.p) hx; rw [List.take_length] at z; exact z
  have hn : 0 < o.rc.length ∧ o.rc.length < 1000000 := ⟨hB.a.sim.wf.n.1, by have := hB.a.sim.wf.n.2; omega⟩
  by_cases he : enE s acc x.p = 0
  · obtain ⟨k1, k2, k3, k4⟩ := stepOk (hst.trans he)
    refine (Step_s o (stP s acc) x.t x.l x.pc x.cc w hh hcl hxo.2.2 hsim k1.1 k1.2 k2 k3 k4).mono ?_
    rintro e w' ⟨y, ⟨h1, h2, h3⟩, rfl, hs⟩
    have e1 : y.es = evN s acc x.p := by rw [evN_t he, h3, hB.a.hold, hB.a.n, hB.a.sp]; rfl
    refine ⟨⟨y.o o x.t, y.pe, y.ce⟩, ⟨?_, rfl⟩, ?_, ?_⟩
    · rw [accN_t he]; exact hB.st1 (x := x.p) hx (cl_bd hxo) h1 h2
    · rw [he, ← e1]
    · rw [← e1]; exact hs
  · refine (Step_e o x.t x.l x.pc x.cc w hn (by have := hB.a.tsl; omega) hB.a.sim.wf.spec hh hxo.2.2 hxo.1 (by rw [hst]; exact he)).mono ?_
    rintro e w' ⟨rfl, hs⟩
    refine ⟨⟨o, none, 0⟩, ⟨?_, rfl⟩, ?_, ?_⟩
    · rw [accN_f he]; exact hB
    · rw [evN_f he, hst]; rfl
    · rw [evN_f he]; exact (has_call hh hs).ownNil 84 7
theorem NoteU (hB : PlB s acc o acc.length) (hx : ¬ x.lv = 0) (hh : Has w (offR o)) (hv0 : Spans w x.pv x.vs) (hv : ∀ {L : List Res} {v : World}, St ⟨w, fpL (offR o)⟩ L v → Spans v x.pv x.vs) :
    Calls Tryz.prog 11 #[ptrN o.b, .int .i64 x.t, .agg #[.int .i64 x.g.x, .int .i64 x.g.y, .int .i64 x.g.size, .int .i64 x.g.wide, .int .i64 x.g.high, .slice x.pv x.vs.length x.cv], .int .i64 x.lv] w fun e w' => ∃ y : OfM, (PlB s (accN s acc x.p) y (accN s acc x.p).length ∧ y.b = o.b) ∧ e = .returned (.int .i64 (enE s acc x.p)) ∧ St ⟨w, fpL (offR o)⟩ (offR y) w' := by
  have hnt : noteE o x.t ⟨x.g, x.vs⟩ x.lv = enE s acc x.p := by have z := hB.a.nt (x := x.p) hx; rw [List.take_length] at z; exact z
  have hn : 0 < o.rc.length ∧ o.rc.length < 1000000 := ⟨hB.a.sim.wf.n.1, by have := hB.a.sim.wf.n.2; omega⟩
  by_cases he : enE s acc x.p = 0
  · refine (Note_c o x.t ⟨x.g, x.vs⟩ x.pv x.cv x.lv w hn hh hv (hnt.trans he)).mono ?_
    rintro e w' ⟨y,_, rfl, hs⟩
    refine ⟨{ o with lg := o.lg ++ [LgM.nt x.t x.g y.1.1 y.1.2 x.vs x.lv], pl := y.2.1, cl := y.2.2 }, ⟨?_, rfl⟩, by rw [he], hs⟩
    rw [accN_t he]; exact hB.nt1 (x := x.p) hx he
  · refine (Note_e o x.t ⟨x.g, x.vs⟩ x.pv x.cv x.lv w hn hh hv0 (by rw [hnt]; exact he)).mono ?_
    rintro e w' ⟨rfl, hs⟩
    refine ⟨o, ⟨?_, rfl⟩, by rw [hnt], has_call hh hs⟩
    rw [accN_f he]; exact hB
structure DoE where
  o : DoM
  pe : Option Addr
  ce : Nat
theorem dStepU {pm : Option Addr} {cm : Nat} (hD : PlD s acc d acc.length) (hx : x.lv = 0) (hlen : acc.length ≤ 12) (hh : Has w (dofR d)) (hxo : Clouds w x.pc x.l ∧ Spans w x.pv x.vs ∧ x.l.length < 1000000000) (hc0 : Clouds w pm x.l) (hcl : ∀ {L : List Res} {v : World}, St ⟨w, fpL (dofR d)⟩ L v → Clouds v pm x.l) :
    Calls Tryz.prog 14 #[ptrN d.b, .int .i64 x.t, .slice pm x.l.length cm] w fun e w' => ∃ y : DoE, (PlD s (accN s acc x.p) y.o (accN s acc x.p).length ∧ y.o.b = d.b) ∧ e = .returned (.tuple #[.slice y.pe (evN s acc x.p).length y.ce, .int .i64 (enE s acc x.p)]) ∧ St ⟨w, fpL (dofR d)⟩ (own 135 7 y.pe y.ce ((evN s acc x.p).map evC) :: dofR y.o) w' := by
  have hdos : DoS d (stP s acc) := by have z := hD.dos; rw [List.take_length] at z; exact z
  have hst : stpQ d.ts d.lg.length d.g x.t (x.l.map CP.c) = enE s acc x.p := by have z := hD.st (x := x.p) hx; rw [List.take_length] at z; exact z
  have hdl : d.lg.length ≤ 12 := by have := hD.len; rw [List.take_length] at this; omega
  by_cases he : enE s acc x.p = 0
  · obtain ⟨k1, k2, k3, k4⟩ := en_st0 (s := s) (l := acc) (n := acc.length) (x := x.p) hx (by rw [List.take_length]; exact he)
    have hts := hD.ts
    rw [List.take_length] at k2 k3 hts
    refine (dStep_c d (stP s acc) x.t x.l pm cm w hdos hD.spec hD.px hh hxo.2.2 hcl k1.1 k1.2 (by rw [hts]; exact k2) (by omega) (Nat.lt_of_le_of_lt stP_len (by omega)) (by rw [hD.g]; exact k4)).mono ?_
    rintro e w' ⟨y, ⟨h1, h2⟩, rfl, hs⟩
    have e1 : evF d.hold d.rg.length (stP s acc) ⟨x.t, thsP d.sp (x.l.map CP.c)⟩ = evN s acc x.p := by rw [evN_t he, hD.hold, hD.nr, hD.sp]; rfl
    refine ⟨⟨y.o d x.t, y.pe, y.ce⟩, ⟨?_, rfl⟩, ?_, ?_⟩
    · rw [accN_t he]; exact hD.st1 (x := x.p) hx (cl_bd hxo) he h1 h2
    · rw [he, ← e1]
    · rw [← e1]; exact hs
  · refine (dStep_e d (stP s acc) x.t x.l pm cm w hdos hh hxo.2.2 hc0 (by rw [hst]; exact he)).mono ?_
    rintro e w' ⟨rfl, hs⟩
    refine ⟨⟨d, none, 0⟩, ⟨?_, rfl⟩, ?_, ?_⟩
    · rw [accN_f he]; exact hD
    · rw [evN_f he, hst]; rfl
    · rw [evN_f he]; exact (has_call hh hs).ownNil 135 7
theorem dNoteU (hD : PlD s acc d acc.length) (hx : ¬ x.lv = 0) (hlen : acc.length ≤ 12) (hh : Has w (dofR d)) (hv0 : Spans w x.pv x.vs) (hv : ∀ {L : List Res} {v : World}, St ⟨w, fpL (dofR d)⟩ L v → Spans v x.pv x.vs) :
    Calls Tryz.prog 12 #[ptrN d.b, .int .i64 x.t, .agg #[.int .i64 x.g.x, .int .i64 x.g.y, .int .i64 x.g.size, .int .i64 x.g.wide, .int .i64 x.g.high, .slice x.pv x.vs.length x.cv], .int .i64 x.lv] w fun e w' => ∃ y : DoM, (PlD s (accN s acc x.p) y (accN s acc x.p).length ∧ y.b = d.b) ∧ e = .returned (.int .i64 (enE s acc x.p)) ∧ St ⟨w, fpL (dofR d)⟩ (dofR y) w' := by
  have hnt : ntQ d.lg.length d.g x.t ⟨x.g, x.vs⟩ x.lv = enE s acc x.p := by have z := hD.ntq (x := x.p) hx; rw [List.take_length] at z; exact z
  have hdl : d.lg.length ≤ 12 := by have := hD.len; rw [List.take_length] at this; omega
  by_cases he : enE s acc x.p = 0
  · refine (dNote_c d x.t ⟨x.g, x.vs⟩ x.pv x.cv x.lv w hh hv (hnt.trans he)).mono ?_
    rintro e w' ⟨y,_, rfl, hs⟩
    refine ⟨{ d with lg := d.lg ++ [EnM.mk x.t [] none 0 x.g x.vs y.1.1 y.1.2 x.lv], pl := y.2.1, cl := y.2.2 }, ⟨?_, rfl⟩, by rw [he], hs⟩
    rw [accN_t he]; exact hD.nt1 (x := x.p) hx he
  · refine (dNote_e d x.t ⟨x.g, x.vs⟩ x.pv x.cv x.lv w hh (by omega) hv0 (by rw [hnt]; exact he)).mono ?_
    rintro e w' ⟨rfl, hs⟩
    refine ⟨d, ⟨?_, rfl⟩, by rw [hnt], has_call hh hs⟩
    rw [accN_f he]; exact hD
end
theorem St.rightOf {β : Bs} {w : World} {A B : List Res} (h : St β (A ++ B) w) : St β B w := h.map (fun j => A.length + j) (fun a b hab _ _ => by omega) (fun j r hr => .inr (by rw [List.getElem?_append_right (by omega), show A.length + j - A.length = j by omega]; exact hr))
def mcR (x : EnM) : Res := own 107 7 x.pc x.cc (x.l.map CP.cells)
theorem St.mcAdd {β : Bs} {w : World} {L : List Res} {ms : List EnM} (x : EnM) (h : St β (own 107 7 x.pc x.cc (x.l.map CP.cells) :: bagD (ms.map mcR) :: L) w) : St β (bagD ((ms ++ [x]).map mcR) :: L) w := by
  have h2 := St.unfocus (A := ms.map mcR) (B := []) (r := mcR x) (L := L) (by rw [List.append_nil]; exact h)
  rw [List.map_append]
  exact h2
structure MsOk (w : World) (y : EnM) : Prop where
  sp : Spans w y.pv y.vs
  len : y.l.length < 1000000000
  ok : ∀ x, x ∈ y.l → Ints w x.ps x.c.sure ∧ Ints w x.pm x.c.may ∧ x.c.sure.length < 1000000000000 ∧ x.c.may.length < 1000000000000
theorem Clouds.re {w0 w : World} {L : List Res} {p q : Option Addr} {l : List CP} (h : Clouds w0 p l) (hw : St (bs w0) L w) (hr : Go.SL.Rows w 7 q (l.map CP.cells)) : Clouds w q l := ⟨hr, (h.keep w hw).ok⟩
theorem log_of {w0 w : World} {L : List Res} {ms : List EnM} {pm : Option Addr} {cm : Nat} (h : St (bs w0) (bagD (ms.map mcR) :: own 55 9 pm cm (ms.map EnM.cells) :: L) w) (hok : ∀ y, y ∈ ms → MsOk w0 y) : LogM w pm ms := by
  refine ⟨own_rows h 1 rfl, fun y hy => ?_⟩
  have hm := hok y hy
  obtain ⟨k, hk⟩ := List.mem_iff_getElem?.1 hy
  have hkl := (List.getElem?_eq_some_iff.1 hk).1
  have h2 := own_rows h.unbagD k (by rw [List.getElem?_append_left (by rw [List.length_map]; exact hkl), List.getElem?_map, hk]; rfl : _ = some (own 107 7 y.pc y.cc (y.l.map CP.cells)))
  exact ⟨⟨h2, fun x hx => ⟨(hm.ok x hx).1.keep w h, (hm.ok x hx).2.1.keep w h, (hm.ok x hx).2.2⟩⟩, hm.sp.keep w h, hm.len⟩
theorem logU_m {w : World} {p : Option Addr} {l : List EnM} (h : LogU w p l) (hf : ∀ x, x ∈ l → FewC x.l) : LogM w p l := ⟨h.rows, fun x hx => ⟨(h.ok x hx).1.clouds (hf x hx), (h.ok x hx).2, by have := (hf x hx).1; omega⟩⟩
theorem first_bad {l : List EnM} {Q : Nat → EnM → Prop} (h : ¬ ∀ (k : Nat) (x : EnM), l[k]? = some x → Q k x) : ∃ (k : Nat) (x : EnM), l[k]? = some x ∧ ¬ Q k x ∧ ∀ (j : Nat) (y : EnM), j < k → l[j]? = some y → Q j y := by
  have key : ∀ n, (∀ (k : Nat) (x : EnM), k < n → l[k]? = some x → Q k x) ∨ ∃ (k : Nat) (x : EnM), l[k]? = some x ∧ ¬ Q k x ∧ ∀ (j : Nat) (y : EnM), j < k → l[j]? = some y → Q j y := by
    intro n
    induction n with
    | zero => exact .inl fun k x hk => absurd hk (Nat.not_lt_zero _)
    | succ n ih =>
      rcases ih with ih | ih
      · by_cases hn : ∃ x, l[n]? = some x ∧ ¬ Q n x
        · obtain ⟨x, h1, h2⟩ := hn
          exact .inr ⟨n, x, h1, h2, fun j y hj hy => ih j y hj hy⟩
        · left
          intro k x hk hx
          rcases Nat.lt_or_ge k n with q | q
          · exact ih k x q hx
          · have : k = n := by omega
            subst this
            exact Classical.byContradiction fun z => hn ⟨x, hx, z⟩
      · exact .inr ih
  rcases key l.length with q | q
  · exact absurd (fun k x hx => q k x (List.getElem?_eq_some_iff.1 hx).1 hx) h
  · exact q
theorem PlayU {g : Grid} {rgs : List RG} {pg : Option Addr} {cg : Nat} {a b d : Int} {s : Sp} {log : List EnM} {pl : Option Addr} {cl : Nat} {w : World} {LP : List EnP} {EV : List Ev} {n : Nat} (hLP : log.map EnM.p = LP) (hn : log.length = n) (hEV : evP s LP n = EV) (hse : s = ⟨g, rgs.map RG.r, a, b, d⟩) (hs : specE s = 0) (hrl : rgs.length < 1000000000000) (hrg : Regs w pg rgs) (hll : n ≤ 256) (hl : LogM w pl log) (hall : ∀ (k : Nat) (x : EnM), log[k]? = some x → enE s (LP.take k) x.p = 0) :
    Calls Tryz.prog 19 #[specV g pg rgs.length cg a b d, .slice pl log.length cl] w fun e w' => ∃ y : OfE, PlB s LP y.o n ∧ e = .returned (.tuple #[ptrN y.o.b, .slice y.pe EV.length y.ce, .int .i64 0]) ∧ St (bs w) (offR y.o ++ [own 84 7 y.pe y.ce (EV.map evC)]) w' := by
  subst hLP; subst hn; subst hEV
  refine (Play_b g rgs pg cg a b d s log pl cl w hse hs hrl hrg hll hl hall).mono ?_
  rintro e w' ⟨y, ⟨h1, h2⟩, rfl, h3⟩
  exact ⟨⟨y.o, y.pe, y.ce⟩, h1, by rw [h2], by rw [← h2]; exact h3⟩
theorem dPlayU {g : Grid} {rgs : List RG} {pg : Option Addr} {cg : Nat} {a b d : Int} {s : Sp} {log : List EnM} {pl : Option Addr} {cl : Nat} {w : World} {LP : List EnP} {EV : List Ev} {n : Nat} (hLP : log.map EnM.p = LP) (hn : log.length = n) (hEV : evP s LP n = EV) (hse : s = ⟨g, rgs.map RG.r, a, b, d⟩) (hs : specE s = 0) (hrl : rgs.length < 1000000000000) (hrg : Regs w pg rgs) (hll : n ≤ 256) (hl : LogM w pl log) (hall : ∀ (k : Nat) (x : EnM), log[k]? = some x → enE s (LP.take k) x.p = 0) :
    Calls Tryz.prog 20 #[specV g pg rgs.length cg a b d, .slice pl log.length cl] w fun e w' => ∃ y : DoE, PlD s LP y.o n ∧ e = .returned (.tuple #[ptrN y.o.b, .slice y.pe EV.length y.ce, .int .i64 0]) ∧ St (bs w) (dofR y.o ++ [own 135 7 y.pe y.ce (EV.map evC)]) w' := by
  subst hLP; subst hn; subst hEV
  refine (dPlay_ok g rgs pg cg a b d s log pl cl w hse hs hrl hrg hll hl hall).mono ?_
  rintro e w' ⟨y, h1, rfl, h3⟩
  exact ⟨⟨y.o, y.pe, y.ce⟩, h1, rfl, h3⟩
theorem Play_few {s : Sp} {LP : List EnP} {n : Nat} : (evP s LP n).length ≤ s.regs.length * n := by
  induction n with
  | zero => exact Nat.zero_le _
  | succ n ih =>
    show (evP s LP n ++ enEv s (LP.take n) (LP.getD n zEn)).length ≤ _
    rw [List.length_append, Nat.mul_add]
    have : (enEv s (LP.take n) (LP.getD n zEn)).length ≤ s.regs.length := by
      unfold enEv
      split
      · unfold evF; exact runE_ln _
      · exact Nat.zero_le _
    omega
theorem all_tr {s : Sp} {l m : List EnM} {LP : List EnP} (hl : l.map EnM.p = LP) (hm : m.map EnM.p = LP) (h : ∀ (k : Nat) (x : EnM), l[k]? = some x → enE s (LP.take k) x.p = 0) : ∀ (k : Nat) (x : EnM), m[k]? = some x → enE s (LP.take k) x.p = 0 := fun k x hx => by
  have h1 : LP[k]? = some x.p := by rw [← hm, List.getElem?_map, hx]; rfl
  rw [← hl, List.getElem?_map] at h1
  cases hy : l[k]? with
  | none => rw [hy] at h1; cases h1
  | some y =>
    rw [hy] at h1
    have : y.p = x.p := Option.some.inj h1
    rw [← this]; exact h k y hy
theorem at_tr {l m : List EnM} {LP : List EnP} (hl : l.map EnM.p = LP) (hm : m.map EnM.p = LP) {k : Nat} {x : EnM} (h : l[k]? = some x) : ∃ y, m[k]? = some y ∧ y.p = x.p := by
  have h1 : LP[k]? = some x.p := by rw [← hl, List.getElem?_map, h]; rfl
  rw [← hm, List.getElem?_map] at h1
  cases hy : m[k]? with
  | none => rw [hy] at h1; cases h1
  | some y => rw [hy] at h1; exact ⟨y, rfl, Option.some.inj h1⟩
theorem ev_nil {w : World} : RO 7 evC w none ([] : List Ev) := ⟨fun j r h => by simp at h, fun _ => rfl, fun _ a ha => by cases ha⟩
theorem dPlay_e2 {g : Grid} {rgs : List RG} {pg : Option Addr} {cg : Nat} {a b d : Int} {s : Sp} {log : List EnM} {pl : Option Addr} {cl : Nat} {w : World} {LP : List EnP} {n : Nat} {er : Int} (hLP : log.map EnM.p = LP) (hn : log.length = n) (hse : s = ⟨g, rgs.map RG.r, a, b, d⟩) (hs : specE s = 0) (hrl : rgs.length < 1000000000000) (hrg : Regs w pg rgs) (hll : n ≤ 256) (hl : LogM w pl log) {k : Nat} {xk : EnM} (hk : log[k]? = some xk) (hbef : ∀ (j : Nat) (x : EnM), j < k → log[j]? = some x → enE s (LP.take j) x.p = 0) (her : enE s (LP.take k) xk.p = er ∧ er ≠ 0) :
    Calls Tryz.prog 20 #[specV g pg rgs.length cg a b d, .slice pl log.length cl] w fun e w' => e = .returned (.tuple #[.pointer none, .slice none 0 0, .int .i64 er]) ∧ St (bs w) [] w' := by
  subst hLP; subst hn
  exact dPlay_e g rgs pg cg a b d s log pl cl w hse hs hrl hrg hll hl k xk hk hbef er her.1 her.2
theorem C4 : IsFn Tryz.prog 4 := ⟨_, Tryz.func4, by decide, rfl⟩
theorem C8 : IsFn Tryz.prog 8 := ⟨_, Tryz.func8, by decide, rfl⟩
theorem C9 : IsFn Tryz.prog 9 := ⟨_, Tryz.func9, by decide, rfl⟩
theorem C10 : IsFn Tryz.prog 10 := ⟨_, Tryz.func10, by decide, rfl⟩
theorem C15 : IsFn Tryz.prog 15 := ⟨_, Tryz.func15, by decide, rfl⟩
theorem C16 : IsFn Tryz.prog 16 := ⟨_, Tryz.func16, by decide, rfl⟩
theorem C17 : IsFn Tryz.prog 17 := ⟨_, Tryz.func17, by decide, rfl⟩
theorem C18 : IsFn Tryz.prog 18 := ⟨_, Tryz.func18, by decide, rfl⟩
theorem C19 : IsFn Tryz.prog 19 := ⟨_, Tryz.func19, by decide, rfl⟩
theorem C20 : IsFn Tryz.prog 20 := ⟨_, Tryz.func20, by decide, rfl⟩
theorem no_call {P : Program} {f : FuncId} {args : Array Value} {w : World} (h : False) : Calls P f args w fun e w' => e = .returned (.bool true) ∧ St (bs w) [] w' := h.elim
theorem IssueRuns_c (g : Grid) (l : List RG) (pl : Option Addr) (cl : Nat) (a b d : Int) (le : List EnM) (pe0 : Option Addr) (ce0 : Nat) (T : Int) (w : World) (hl : RegsU w pl l) (hle : LogU w pe0 le) :
 Calls Tryz.prog 3 #[specV g pl l.length cl a b d, .slice pe0 le.length ce0, .int .i64 T] w fun e w' => e = .returned (.bool true) ∧ St (bs w) [] w' := by
 refine enter (vs := [_,_,_]) (env := [(0,_), (1,_), (2,_)]) Tryz.func3 rfl rfl rfl rfl ?_
 refine VC.q (VO.h rfl<|HO.box (C := #[_,_,_,_,_,_,_,_,_]) rfl rfl fun b1 => VO.a rfl rfl<|VO.n<|VC.seq<|VC.q (VO.l (LO.lda (vs := [_,_,_,_,_,_,_,_,_]) A28 (.r rfl) (cells_blk 0 rfl ⟨_, rfl⟩) rfl) rfl<|VO.h rfl<|HO.callx (xs := [_]) (vs := [_]) C4 ⟨(.r rfl), trivial⟩ (fun w hw => few_c g l pl cl a b d w ⟨hl.rows.keep w hw, fun x hx => (hl.ok x hx).keep w hw⟩) fun z1 hz1 => VO.h rfl<|HO.lo (LO.not (.r rfl))<|VO.h rfl<|HO.lo (LO.mv (.r rfl))<|VO.gf rfl rfl (fun hg => LO.mv (.r rfl)) rfl<|VO.gf rfl rfl (fun hg => LO.len S29 (.g hg rfl) rfl) rfl<|VO.gf rfl rfl (fun hg => LO.gt (.g hg rfl) (.r rfl)) rfl<|VO.h rfl<|HO.lo (LO.pkO (.r rfl) (.r rfl) rfl rfl)<|VO.n ?_))
 refine VC.cond rfl (fun h29 => ?_) (fun h29 => ?_)
 ·
  refine VC.q (VO.l (LO.call (xs := []) (vs := []) C5 trivial (fun w hw => works_c w)) rfl<|VO.a rfl rfl<|VO.n<|VC.ret (VE.thenR (VE.s rfl rfl (fun w hw => ?_))))
  first | exact ⟨rfl, hw.nil⟩ | exact ⟨by simp [resV], hw.nil⟩ | exact ⟨by simp [resV, hbad], hw.nil⟩
 ·
  have h29b : z1 = true ∧ (le.length : Int) ≤ 12 := by first | exact h29 | simpa using h29
  have hf1 : FewR l := hz1 h29b.1
  have hlen : le.length ≤ 12 := by have := h29b.2; omega
  refine VC.skip (VE.seqN<|VC.seq ?_)
  by_cases hS : specE ⟨g, l.map RG.r, a, b, d⟩ = 0
  ·
   refine VC.reg (VO.l (LO.lda (vs := [_,_,_,_,_,_,_,_,_]) A28 (.r rfl) (cells_blk 0 rfl ⟨_, rfl⟩) rfl) rfl<|VO.h rfl<|HO.callx (xs := [_]) (vs := [_]) C6 ⟨(.r rfl), trivial⟩ (fun w hw => New_c g l pl cl a b d w (by have := hf1.1; omega) (RegsU.regs ⟨hl.rows.keep w hw, fun x hx => (hl.ok x hx).keep w hw⟩ hf1) hS) fun o hn => VO.m rfl rfl<|VO.l (LO.ex (.r rfl) rfl) rfl<|VO.l (LO.ex (.r rfl) rfl) rfl<|VO.a rfl rfl<|VO.a rfl rfl<|VO.n<|VC.q (VO.l (LO.lda (vs := [_,_,_,_,_,_,_,_,_]) A28 (.r rfl) (cells_blk 10 rfl ⟨_, rfl⟩) rfl) rfl<|VO.h rfl<|HO.callx (xs := [_]) (vs := [_]) C8 ⟨(.r rfl), trivial⟩ (fun w hw => spec_c g l pl cl a b d w hf1.1 ⟨hl.rows.keep w hw, fun x hx => (hl.ok x hx).keep w hw⟩) fun x1 _ => VO.h rfl<|HO.callx (xs := [_]) (vs := [_]) C7 ⟨(.r rfl), trivial⟩ (fun w hw => rNew_c g l x1.1 x1.2 a b d w (by have := hf1.1; omega) (RegsU.regs ⟨own_rows hw 0 rfl, fun x hx => (hl.ok x hx).keep w hw⟩ hf1) hS) fun q hq => VO.h rfl<|HO.lo (LO.mv (.r rfl))<|VO.h rfl<|HO.lo (LO.ex (.r rfl) rfl)<|VO.h rfl<|HO.lo (LO.ex (.r rfl) rfl)<|VO.h rfl<|HO.lo (LO.as (.r rfl))<|VO.h rfl<|HO.lo (LO.as (.r rfl))<|VO.n<|VC.seq<|VC.seq ?_))
   refine VC.reg (VO.m rfl rfl<|VO.m rfl rfl<|VO.u rfl rfl rfl<|VO.n<|VC.cond rfl (fun h44 => ?_) (fun h44 => ?_))
   · (exfalso; exact h44 rfl)
   ·
    refine VC.skip (VE.seqN<|VC.seq<|VC.q (VO.m rfl rfl<|VO.u rfl rfl rfl<|VO.n<|VC.cond rfl (fun h46 => ?_) (fun h46 => ?_)))
    · (exfalso; exact h46 rfl)
    ·
     refine VC.skip (VE.seqN<|VC.seq ?_)
     have hqp : ∀ x, x ∈ q.2.1 → x.r.pix.length < 1000000000000 := fun x hx => by have h1 : x.r ∈ l.map RG.r := (by rw [← hq]; exact List.mem_map_of_mem hx); obtain ⟨z, hz, e⟩ := List.mem_map.1 h1; rw [← e]; have := hf1.2 z hz; omega
     have hse2 : (⟨g, l.map RG.r, a, b, d⟩ : Sp) = ⟨g, q.2.1.map RG.r, a, b, d⟩ := by rw [hq]
     obtain ⟨s, hs⟩ : ∃ s, s = (⟨g, l.map RG.r, a, b, d⟩ : Sp) := ⟨_, rfl⟩
     rw [← hs] at hS hse2
     refine VC.res (L' := dofR (dnew g q.2.1 q.2.2.1 q.2.2.2 a b d q.1) ++ [_,_,_,_,_,_,_,_,_,_,_,_]) (fun w hw => (by exact ((((St.bagD (Rs := []) ((selK (L1 := [_,_,_,_,_,_,_,_,_,_,_,_,_,_,_]) [0,1,2,3,4,5,6,7,8,9,10,11,12,13,14] rfl rfl _ hw).ownNil 55 9)).ownNil 3 1).ownNil 131 1).bagRNil 168 3 thrC).sel [5,6,7,4,3,2,1,0,8,9,10,11,12,13,14,15,16,17,18,19] rfl))<|VC.reg (VO.a rfl rfl<|VO.n<|VC.weak (env' := [(1,_), (2,_), (3,_), (7,_), (9,_), (11,_)]) (.c4 rfl rfl rfl rfl (.cons rfl (.cons rfl .nil))) (fun _ h => h)<|VC.seq<|VC.q (VO.a rfl rfl<|VO.nil ?_))
     refine VE.seqN<|VC.block<|VC.perm [9,10,11,12,13,14,15,16,17,18,0,1,2,3,4,5,6,7,8,19] rfl<|VC.loopK (α := Nat × (List EnP) × OfM × DoM × (List EnM) × (Option Addr) × Nat) 18 (fun gx => [(11, .slice gx.2.2.2.2.2.1 gx.2.2.2.2.1.length gx.2.2.2.2.2.2), (12, .int .i64 (gx.1 : Nat))]) [(1,_), (2,_), (3,_), (7,_), (9,_)] (fun gx => [OfM.blk gx.2.2.1, OfM.rgR gx.2.2.1, OfM.pxB gx.2.2.1, OfM.rcR gx.2.2.1, OfM.rcB gx.2.2.1, OfM.tsR gx.2.2.1, OfM.csR gx.2.2.1, OfM.csB gx.2.2.1, OfM.lgR gx.2.2.1, OfM.lgB gx.2.2.1, blk gx.2.2.2.1.b (.cells gx.2.2.2.1.C.toArray 103), own 100 2 gx.2.2.2.1.pg gx.2.2.2.1.cg (gx.2.2.2.1.rg.map RG.cells), bagD (gx.2.2.2.1.rg.map pixR), own 55 9 gx.2.2.2.1.pl gx.2.2.2.1.cl (gx.2.2.2.1.lg.map EnM.cells), bagD (gx.2.2.2.1.lg.flatMap EnM.rres), own 3 1 gx.2.2.2.1.pt gx.2.2.2.1.ct (gx.2.2.2.1.ts.map iC), own 131 1 gx.2.2.2.1.ph gx.2.2.2.1.ch (gx.2.2.2.1.th.map rowC), bagR 168 3 thrC gx.2.2.2.1.th, own 55 9 gx.2.2.2.2.2.1 gx.2.2.2.2.2.2 (gx.2.2.2.2.1.map EnM.cells), bagD (gx.2.2.2.2.1.map mcR)]) (fun gx => (gx.1 ≤ le.length ∧ gx.2.2.1.b = o.b ∧ gx.2.2.2.1.b = q.1 ∧ gx.2.1.length ≤ gx.1) ∧ (PlB s gx.2.1 gx.2.2.1 gx.2.1.length ∧ PlD s gx.2.1 gx.2.2.2.1 gx.2.1.length) ∧ gx.2.1 = accF s ((le.map EnM.p).take gx.1) ∧ gx.2.2.2.2.1.map EnM.p = (le.map EnM.p).take gx.1 ∧ (∀ (j : Nat) (x : EnM), j < gx.1 → le[j]? = some x → FewC x.l) ∧ ∀ y, y ∈ gx.2.2.2.2.1 → MsOk w y) (fun gx => le.length - gx.1) (0, [], o, (dnew g q.2.1 q.2.2.1 q.2.2.2 a b d q.1), [], none, 0) (by exact ⟨⟨Nat.zero_le _, rfl, rfl, Nat.zero_le _⟩, ⟨plb_new hn hs hS (fun x hx => by have := hf1.2 x hx; omega), PlD.new hS hse2 hqp⟩, rfl, rfl, fun j x hj => absurd hj (Nat.not_lt_zero _), fun y hy => by cases hy⟩) (.c4 rfl rfl rfl rfl (.cons rfl (.cons rfl (.cons rfl .nil)))) (fun _ h => (((St.bagD (Rs := []) h).ownNil 55 9)).sel [2,3,4,5,6,7,8,9,10,11,12,13,14,15,16,17,18,19,0,1,20,21] rfl) ?_
     rintro ⟨i, acc, o_, d_, ms, pm_, cm_⟩ ⟨⟨hi, hob, hdb, hac⟩, ⟨hB, hD⟩, hall, hms, hfw, hmo⟩
     show VC _ _ _ _ _ ([(11, .slice pm_ ms.length cm_), (12, .int .i64 (i : Nat))] ++ _) ([OfM.blk o_, OfM.rgR o_, OfM.pxB o_, OfM.rcR o_, OfM.rcB o_, OfM.tsR o_, OfM.csR o_, OfM.csB o_, OfM.lgR o_, OfM.lgB o_, blk d_.b (.cells d_.C.toArray 103), own 100 2 d_.pg d_.cg (d_.rg.map RG.cells), bagD (d_.rg.map pixR), own 55 9 d_.pl d_.cl (d_.lg.map EnM.cells), bagD (d_.lg.flatMap EnM.rres), own 3 1 d_.pt d_.ct (d_.ts.map iC), own 131 1 d_.ph d_.ch (d_.th.map rowC), bagR 168 3 thrC d_.th, own 55 9 pm_ cm_ (ms.map EnM.cells), bagD (ms.map mcR)] ++ _) _ _
     dsimp only at hi hob hdb hac hB hD hall hms hfw hmo
     rw [← hob, ← hdb]
     have hac2 : acc.length ≤ 12 := by omega
     refine VC.seq<|VC.q (VO.m rfl rfl<|VO.m rfl rfl<|VO.l (LO.len S29 (.r rfl) rfl) rfl<|VO.t rfl rfl rfl<|VO.n<|VC.cond rfl (fun h51 => ?_) (fun h51 => ?_))
     ·
      obtain ⟨x, hx⟩ : ∃ x, le[i]? = some x := ⟨_, List.getElem?_eq_getElem (by omega)⟩
      have hxo := hle.ok x (List.mem_of_getElem? hx)
      have hxp : (le.map EnM.p)[i]? = some x.p := by rw [List.getElem?_map, hx]; rfl
      have hml : ms.length = i := by rw [← List.length_map (f := EnM.p), hms, List.length_take, List.length_map]; omega
      refine VC.skip (VE.seqN<|VC.seq<|VC.block<|VC.q (VO.m rfl rfl<|VO.m rfl rfl<|VO.l (LO.ixs S29 N50 hle.rows.sm (.r rfl) (.r rfl) rfl (by omega)) rfl<|VO.l (LO.lda (vs := [_,_,_,_,_,_,_,_,_]) A50 (.r rfl) (fun w hw => cells_part (off := 0) ((fun w2 hw2 => (hle.rows.keep w2 hw2).cells _ _ (by rw [List.getElem?_map, hx]; rfl)) w hw) ⟨_, rfl⟩) rfl) rfl<|VO.h rfl<|HO.alloc (C := #[_,_,_,_,_,_,_,_,_]) Z50 rfl fun b23 => VO.h0<|HO.st 0 (vs := [_,_,_,_,_,_,_,_,_]) (C' := [_,_,_,_,_,_,_,_,_]) (L' := [_,_,_,_,_,_,_,_,_,_,_,_,_,_,_,_,_,_,_,_,_,_,_]) N50 rfl rfl rfl rfl rfl rfl rfl rfl<|VO.n<|VC.seq ?_))
      refine VC.q (VO.f (r := 1) F50_1 rfl rfl rfl<|VO.c 0 O45 rfl rfl ⟨_, rfl⟩ rfl<|VO.h rfl<|HO.callx (xs := [_]) (vs := [_]) C9 ⟨(.r rfl), trivial⟩ (fun w hw => fewClouds_c x.l x.pc x.cc w (hxo.1.keep hw)) fun z2 hz2 => VO.h rfl<|HO.lo (LO.not (.r rfl))<|VO.h rfl<|HO.lo (LO.mv (.r rfl))<|VO.gf rfl rfl (fun hg => LO.fa (r := 2) F50_2 (.r rfl) rfl) rfl<|VO.gf rfl rfl (fun hg => LO.fa (r := 7) F48_1 (.g hg rfl) rfl) rfl<|VO.gf rfl rfl (fun hg => LO.ld O46 (.g hg rfl) (cells_blk 0 rfl ⟨_, rfl⟩)) rfl<|VO.gf rfl rfl (fun hg => LO.len S46 (.g hg rfl) rfl) rfl<|VO.gf rfl rfl (fun hg => LO.gt (.g hg rfl) (.r rfl)) rfl<|VO.h rfl<|HO.lo (LO.pkO (.r rfl) (.r rfl) rfl rfl)<|VO.n<|VC.cond rfl (fun h68 => ?_) (fun h68 => ?_))
      ·
       refine VC.q (VO.l (LO.call (xs := []) (vs := []) C5 trivial (fun w hw => works_c w)) rfl<|VO.a rfl rfl<|VO.n<|VC.ret (VE.thenR (VE.inR (VE.thenR (VE.thenR (VE.inR (VE.thenR (VE.s rfl rfl (fun w hw => ?_)))))))))
       first | exact ⟨rfl, hw.nil⟩ | exact ⟨by simp [resV], hw.nil⟩ | exact ⟨by simp [resV, hbad], hw.nil⟩
      ·
       have h68b : z2 = true ∧ (x.vs.length : Int) ≤ 100 := by first | exact h68 | simpa using h68
       have hf2 : FewC x.l := hz2 h68b.1
       have hxc : Clouds w x.pc x.l ∧ Spans w x.pv x.vs ∧ x.l.length < 1000000000 := ⟨hxo.1.clouds hf2, hxo.2, by have := hf2.1; omega⟩
       refine VC.skip (VE.seqN<|VC.seq<|VC.drawH [[0,1,2,3,4,5,6,7,8,9,10,11,12,13,14,15,16,17,18,19,20,21,22], [0,1,2,3,4,5,6,7,8,9,10,11,12,13,14,15,16,17,18,19,20,21,22], [0,1,2,3,4,5,6,7,8,9,10,11,12,13,14,15,16,17,18,19,20,21,22], [0,1,2,3,4,5,6,7,8,9,10,11,12,13,14,15,16,17,18,19,20,21,22], [0,1,2,3,4,5,6,7,8,9,10,11,12,13,14,15,16,17,18,20,21,22], [0,1,2,3,4,5,6,7,8,9,10,11,12,13,14,15,16,17,18,20,21,22]] [some 3, some 1, some 1, some 0, some 0, none, some 1, some 1, some 1, some 1, none, none, none, none] mixed (by kernel_rfl) rfl (LX.m rfl rfl<|LX.l (fun _ hJ => LO.fa (r := 0) F50_0 (.r rfl) rfl) rfl<|LX.l (fun _ hJ => LO.ld O3 (.r rfl) (fun _ hw => cells_at (hJ _ hw) 0 rfl ⟨_, rfl⟩)) rfl<|LX.l (fun _ hJ => LO.fa (r := 1) F50_1 (.r rfl) rfl) rfl<|LX.l (fun _ hJ => LO.ld O45 (.r rfl) (fun _ hw => cells_at (hJ _ hw) 0 rfl ⟨_, rfl⟩)) rfl<|LX.s<|LX.l (fun _ hJ => LO.fa (r := 2) F50_2 (.r rfl) rfl) rfl<|LX.l (fun _ hJ => LO.lda (vs := [_,_,_,_,_,_]) A48 (.r rfl) (fun _ hw => cells_at (hJ _ hw) 0 rfl ⟨_, rfl⟩) rfl) rfl<|LX.l (fun _ hJ => LO.fa (r := 8) F50_3 (.r rfl) rfl) rfl<|LX.l (fun _ hJ => LO.ld O3 (.r rfl) (fun _ hw => cells_at (hJ _ hw) 0 rfl ⟨_, rfl⟩)) rfl<|LX.s<|LX.s<|LX.s<|LX.s<|LX.nil) (HX.s<|HX.s<|HX.s<|HX.s<|HX.s<|HX.h rfl<|HO.callx (xs := [_]) (vs := [_]) C10 ⟨(.r rfl), trivial⟩ (fun w hw => clouds_c x.l x.pc x.cc w hf2.1 (hxo.1.keep hw)) fun cq _ => ⟨selJ (L1 := [_,_,_,_,_,_,_,_,_,_,_,_,_,_,_,_,_,_,_,_,_,_,_]) [1,2,3,4,5,6,7,8,9,10,11,12,13,14,15,16,17,18,19,20,21,22,23] rfl rfl rfl, HX.s<|HX.s<|HX.s<|HX.s<|HX.h rfl<|HO.lo (LO.bd (ps := [(_,_), (_,_), (_,_), (_,_)]) (vs := [(_,_), (_,_), (_,_), (_,_)]) (C := [_,_,_,_,_,_,_,_,_]) B55  ⟨(.r rfl), (.r rfl), (.r rfl), (.r rfl), trivial⟩ rfl ⟨_, [_], [_,_,_,_,_,_,_,_,_], rfl, rfl, rfl, rfl, ⟨_, [_], [_,_,_,_,_,_,_,_,_], rfl, rfl, rfl, rfl, ⟨_, [_,_,_,_,_,_], [_,_,_,_,_,_,_,_,_], rfl, rfl, rfl, rfl, ⟨_, [_], [_,_,_,_,_,_,_,_,_], rfl, rfl, rfl, rfl, rfl⟩⟩⟩⟩)<|⟨selJ (L1 := [_,_,_,_,_,_,_,_,_,_,_,_,_,_,_,_,_,_,_,_,_,_,_]) [1,2,3,4,5,6,7,8,9,10,11,12,13,14,15,16,17,18,19,20,21,22,23] rfl rfl rfl, HX.h rfl<|HO.bs (ps := [(_,_)]) (vs := [(_,_)]) (Z := [_,_,_,_,_,_,_,_,_]) (C := [_,_,_,_,_,_,_,_,_]) S44 Z55 N55 ⟨(.r rfl), trivial⟩ rfl rfl rfl rfl ⟨_, [_,_,_,_,_,_,_,_,_], [_,_,_,_,_,_,_,_,_], rfl, rfl, rfl, rfl, rfl⟩ fun b28 => ⟨selJ (L1 := [_,_,_,_,_,_,_,_,_,_,_,_,_,_,_,_,_,_,_,_,_,_,_]) [2,3,4,5,6,7,8,9,10,11,12,13,14,15,16,17,18,19,20,21,22,23,24] rfl rfl rfl, HX.h rfl<|HO.appT ((EnM.mk x.t x.l cq.1 cq.2 x.g x.vs x.pv x.cv x.lv)) 21 0 (fun R => [_,_,_,_,_,_,_,_,_,_,_,_,_,_,_,_,_,_,_,_,_, R,_,_,_]) S44 S44 I55 (.r rfl) (.r rfl) rfl rfl rfl rfl rfl rfl rfl (fun _ => rfl) rfl (by omega) fun p12 c12 => ⟨selJ (L1 := [_,_,_,_,_,_,_,_,_,_,_,_,_,_,_,_,_,_,_,_,_,_]) [2,3,4,5,6,7,8,9,10,11,12,13,14,15,16,17,18,19,20,22,23,24] rfl rfl rfl, HX.h rfl<|HO.lo (LO.as (.r rfl))<|⟨selJ (L1 := [_,_,_,_,_,_,_,_,_,_,_,_,_,_,_,_,_,_,_,_,_,_]) [2,3,4,5,6,7,8,9,10,11,12,13,14,15,16,17,18,19,20,22,23,24] rfl rfl rfl, HX.nil ?_⟩⟩⟩⟩⟩))
       refine VE.seqN<|VC.weak (env' := [(1,_), (2,_), (3,_), (7,_), (9,_), (11,_), (12,_), (13,_)]) (.c4 rfl rfl rfl rfl (.c4 rfl rfl rfl rfl .nil)) (fun _ h => h)<|VC.seq<|VC.q (VO.f (r := 8) F50_3 rfl rfl rfl<|VO.c 2 O3 rfl rfl ⟨_, rfl⟩ rfl<|VO.u rfl rfl rfl<|VO.n<|VC.cond rfl (fun h85 => ?_) (fun h85 => ?_))
       ·
        refine VC.seq<|VC.seq<|VC.drawH [[0,1,2,3,4,5,6,7,8,9,10,11,12,13,14,15,16,17,18,19,20,21,22,23,24], [0,1,2,13,14,15,16,17,18,19,20,21,22,23,24], [0,1,2,21,22,23,24], [0,1,2,21,22,23,24]] [some 0, some 0, some 0, some 0, some 0, some 0, some 0, none, some 1, some 1, some 1, some 1, some 1, some 1, some 1, none, none] mixed (by kernel_rfl) rfl (LX.m rfl rfl<|LX.l (fun _ hJ => LO.fa (r := 0) F50_0 (.r rfl) rfl) rfl<|LX.l (fun _ hJ => LO.ld O3 (.r rfl) (fun _ hw => cells_at (hJ _ hw) 2 rfl ⟨_, rfl⟩)) rfl<|LX.l (fun _ hJ => LO.fa (r := 2) F50_2 (.r rfl) rfl) rfl<|LX.l (fun _ hJ => LO.lda (vs := [_,_,_,_,_,_]) A48 (.r rfl) (fun _ hw => cells_at (hJ _ hw) 2 rfl ⟨_, rfl⟩) rfl) rfl<|LX.l (fun _ hJ => LO.fa (r := 8) F50_3 (.r rfl) rfl) rfl<|LX.l (fun _ hJ => LO.ld O3 (.r rfl) (fun _ hw => cells_at (hJ _ hw) 2 rfl ⟨_, rfl⟩)) rfl<|LX.s<|LX.m rfl rfl<|LX.l (fun _ hJ => LO.fa (r := 0) F50_0 (.r rfl) rfl) rfl<|LX.l (fun _ hJ => LO.ld O3 (.r rfl) (fun _ hw => cells_at (hJ _ hw) 2 rfl ⟨_, rfl⟩)) rfl<|LX.l (fun _ hJ => LO.fa (r := 2) F50_2 (.r rfl) rfl) rfl<|LX.l (fun _ hJ => LO.lda (vs := [_,_,_,_,_,_]) A48 (.r rfl) (fun _ hw => cells_at (hJ _ hw) 2 rfl ⟨_, rfl⟩) rfl) rfl<|LX.l (fun _ hJ => LO.fa (r := 8) F50_3 (.r rfl) rfl) rfl<|LX.l (fun _ hJ => LO.ld O3 (.r rfl) (fun _ hw => cells_at (hJ _ hw) 2 rfl ⟨_, rfl⟩)) rfl<|LX.s<|LX.s<|LX.nil) (HX.s<|HX.s<|HX.s<|HX.s<|HX.s<|HX.s<|HX.s<|HX.h rfl<|HO.callP (first := []) (cap := []) (xs := [_,_,_,_]) (vs := [_,_,_,_]) [_,_,_,_,_,_,_,_,_,_] [_,_,_,_,_,_,_,_,_,_,_,_,_,_,_] (selK (L1 := [_,_,_,_,_,_,_,_,_,_] ++ [_,_,_,_,_,_,_,_,_,_,_,_,_,_,_]) [3,4,5,6,7,8,9,10,11,12,0,1,2,13,14,15,16,17,18,19,20,21,22,23,24] rfl rfl) (.r rfl) C11 ⟨(.r rfl), (.r rfl), (.r rfl), (.r rfl), trivial⟩ (fun w hw hh => NoteU hB h85 hh (hxc.2.1.keep w hw) (fun hs => hxc.2.1.keep _ (old_in (selK (L1 := offR o_ ++ [_,_,_,_,_,_,_,_,_,_,_,_,_,_,_]) [3,4,5,6,7,8,9,10,11,12,0,1,2,13,14,15,16,17,18,19,20,21,22,23,24] rfl rfl w hw) hs))) fun yn hyn => ⟨selJ (L1 := [_,_,_,_,_,_,_,_,_,_,_,_,_,_,_]) [10,11,12,13,14,15,16,17,18,19,20,21,22,23,24] rfl rfl rfl, HX.s<|HX.s<|HX.s<|HX.s<|HX.s<|HX.s<|HX.s<|HX.h rfl<|HO.callP (first := []) (cap := []) (xs := [_,_,_,_]) (vs := [_,_,_,_]) [_,_,_,_,_,_,_,_] [_,_,_,_,_,_,_,_,_,_,_,_,_,_,_,_,_] (selK (L1 := [_,_,_,_,_,_,_,_] ++ [_,_,_,_,_,_,_,_,_,_,_,_,_,_,_,_,_]) [13,14,15,16,17,18,19,20,0,1,2,3,4,5,6,7,8,9,10,11,12,21,22,23,24] rfl rfl) (.r rfl) C12 ⟨(.r rfl), (.r rfl), (.r rfl), (.r rfl), trivial⟩ (fun w hw hh => dNoteU hD h85 hac2 hh (hxc.2.1.keep w hw) (fun hs => hxc.2.1.keep _ (old_in (selK (L1 := dofR d_ ++ [_,_,_,_,_,_,_,_,_,_,_,_,_,_,_,_,_]) [13,14,15,16,17,18,19,20,0,1,2,3,4,5,6,7,8,9,10,11,12,21,22,23,24] rfl rfl w hw) hs))) fun yd hyd => ⟨selJ (L1 := [_,_,_,_,_,_,_]) [18,19,20,21,22,23,24] rfl rfl rfl, HX.h rfl<|HO.lo (LO.ne (.r rfl) (.r rfl))<|⟨selJ (L1 := [_,_,_,_,_,_,_]) [18,19,20,21,22,23,24] rfl rfl rfl, HX.nil ?_⟩⟩⟩)
        refine VE.seqN<|VC.cond rfl (fun h102 => ?_) (fun h102 => ?_)
        · (exfalso; first | exact h102 rfl | (simp at h102))
        ·
         refine VC.skip (VE.seqN<|VC.exit (VE.thenX (VE.inX (VE.seqN<|VC.reg (VO.m rfl rfl<|VO.p rfl rfl (by omega) (by omega) rfl<|VO.a rfl rfl<|VO.nil<|VE.thenN fun a w ha hw => ⟨(i + 1, accN s acc x.p, yn, yd, ms ++ [(EnM.mk x.t x.l cq.1 cq.2 x.g x.vs x.pv x.cv x.lv)], p12, c12), ⟨⟨by dsimp only; omega, hyn.2, hyd.2, by dsimp only; have := accN_len (s := s) (acc := acc) (x := x.p); omega⟩, ⟨hyn.1, hyd.1⟩, by dsimp only; rw [take_en hxp, accF_snoc, ← hall], by dsimp only; rw [List.map_append, hms, take_en hxp]; rfl, fun j z hj hz => (Nat.lt_succ_iff_lt_or_eq.1 hj).elim (fun q => hfw j z q hz) (fun q => by subst q; rw [hx] at hz; cases hz; exact hf2), fun y hy => (List.mem_append.1 hy).elim (hmo y) (fun q => by rw [List.mem_singleton.1 q]; exact ⟨hxc.2.1, hxc.2.2, hxc.1.ok⟩)⟩, (by dsimp only; omega), ha.sub (.cons (congrArg (fun n => some (Value.slice p12 n c12)) (by rw [List.length_append]; try rfl)) (.c4 rfl rfl rfl rfl (.cons rfl (.cons rfl .nil)))), (by exact selK (L1 := [_,_,_,_,_,_,_,_,_,_,_,_,_,_,_,_,_,_,_,_,_,_]) [1,2,3,4,5,6,7,8,9,10,11,12,13,14,15,16,17,18,19,0,20,21] rfl rfl _ (St.mcAdd (EnM.mk x.t x.l cq.1 cq.2 x.g x.vs x.pv x.cv x.lv) (selK (L1 := [_,_,_,_,_,_,_,_,_,_,_,_,_,_,_,_,_,_,_,_,_,_,_]) [19,22,8,9,10,11,12,13,14,15,16,17,0,1,2,3,4,5,6,7,21,23,24] rfl rfl _ hw)))⟩)))))
       ·
        have h85 := Classical.not_not.1 h85
        have hrl := hB.a.n
        have hrn := hB.a.sim.wf.n
        refine VC.skip (VE.seqN<|VC.q (VO.m rfl rfl<|VO.f (r := 0) F50_0 rfl rfl rfl<|VO.c 2 O3 rfl rfl ⟨_, rfl⟩ rfl<|VO.f (r := 1) F50_1 rfl rfl rfl<|VO.c 2 O45 rfl rfl ⟨_, rfl⟩ rfl<|VO.h rfl<|HO.callP (first := []) (cap := []) (xs := [_,_,_]) (vs := [_,_,_]) [_,_,_,_,_,_,_,_,_,_] [_,_,_,_,_,_,_,_,_,_,_,_,_,_,_] (selK (L1 := [_,_,_,_,_,_,_,_,_,_] ++ [_,_,_,_,_,_,_,_,_,_,_,_,_,_,_]) [3,4,5,6,7,8,9,10,11,12,0,1,2,13,14,15,16,17,18,19,20,21,22,23,24] rfl rfl) (.r rfl) C13 ⟨(.r rfl), (.r rfl), (.r rfl), trivial⟩ (fun w hw hh => StepU hB h85 hac2 hh ⟨hxc.1.keep w hw, hxc.2.1.keep w hw, hxc.2.2⟩ (fun hs => hxc.1.keep _ (old_in (selK (L1 := offR o_ ++ [_,_,_,_,_,_,_,_,_,_,_,_,_,_,_]) [3,4,5,6,7,8,9,10,11,12,0,1,2,13,14,15,16,17,18,19,20,21,22,23,24] rfl rfl w hw) hs))) fun yn hyn => VO.h rfl<|HO.lo (LO.mv (.r rfl))<|VO.h rfl<|HO.lo (LO.ex (.r rfl) rfl)<|VO.h rfl<|HO.lo (LO.ex (.r rfl) rfl)<|VO.h rfl<|HO.lo (LO.as (.r rfl))<|VO.h rfl<|HO.lo (LO.as (.r rfl))<|VO.n<|VC.seq<|VC.drawCat 7 mixed (by kernel_rfl) (VA.drawH [[0,1,2,3,4,5,6,7,8,9,10,11,12,13,14,15,16,17,18,19,20,21,22,23,24,25], [0,1,2,3,4,5,6,7,8,9,10,11,12,13,14,15,16,17,18,19,20,21,22,23,24,25], [0,1,2,3,4,5,6,7,8,9,10,11,12,13,22,23,24,25]] [some 1, some 1, some 1, some 0, some 0, none, none] (by kernel_rfl) rfl (LX.m rfl rfl<|LX.l (fun _ hJ => LO.fa (r := 0) F50_0 (.r rfl) rfl) rfl<|LX.l (fun _ hJ => LO.ld O3 (.r rfl) (fun _ hw => cells_at (hJ _ hw) 13 rfl ⟨_, rfl⟩)) rfl<|LX.l (fun _ hJ => LO.fa (r := 1) F50_1 (.r rfl) rfl) rfl<|LX.l (fun _ hJ => LO.ld O45 (.r rfl) (fun _ hw => cells_at (hJ _ hw) 13 rfl ⟨_, rfl⟩)) rfl<|LX.s<|LX.s<|LX.nil) (HX.s<|HX.s<|HX.s<|HX.s<|HX.s<|HX.h rfl<|HO.callx (xs := [_]) (vs := [_]) C10 ⟨(.r rfl), trivial⟩ (fun w hw => clouds_c x.l x.pc x.cc w hf2.1 (hxo.1.keep hw)) fun cz _ => ⟨selJ (L1 := [_,_,_,_,_,_,_,_,_,_,_,_,_,_,_,_,_,_,_,_,_,_,_,_,_,_]) [1,2,3,4,5,6,7,8,9,10,11,12,13,14,15,16,17,18,19,20,21,22,23,24,25,26] rfl rfl rfl, HX.h rfl<|HO.callP (first := []) (cap := []) (xs := [_,_,_]) (vs := [_,_,_]) [_,_,_,_,_,_,_,_] [_,_,_,_,_,_,_,_,_,_,_,_,_,_,_,_,_,_,_] (selK (L1 := [_,_,_,_,_,_,_,_] ++ [_,_,_,_,_,_,_,_,_,_,_,_,_,_,_,_,_,_,_]) [15,16,17,18,19,20,21,22,0,1,2,3,4,5,6,7,8,9,10,11,12,13,14,23,24,25,26] rfl rfl) (.r rfl) C14 ⟨(.r rfl), (.r rfl), (.r rfl), trivial⟩ (fun w hw hh => dStepU hD h85 hac2 hh ⟨hxc.1.keep w hw, hxc.2.1.keep w hw, hxc.2.2⟩ (hxc.1.re hw (own_rows hw 0 rfl)) (fun hs => hxc.1.re (old_in (selK (L1 := dofR d_ ++ [_,_,_,_,_,_,_,_,_,_,_,_,_,_,_,_,_,_,_]) [15,16,17,18,19,20,21,22,0,1,2,3,4,5,6,7,8,9,10,11,12,13,14,23,24,25,26] rfl rfl w hw) hs) (own_rows (St.rightOf (old_in (selK (L1 := dofR d_ ++ [_,_,_,_,_,_,_,_,_,_,_,_,_,_,_,_,_,_,_]) [15,16,17,18,19,20,21,22,0,1,2,3,4,5,6,7,8,9,10,11,12,13,14,23,24,25,26] rfl rfl w hw) hs)) 0 rfl))) fun yd hyd => ⟨selJ (L1 := [_,_,_,_,_,_,_,_,_,_,_,_,_,_,_,_,_,_]) [10,11,12,13,14,15,16,17,18,19,20,21,22,23,24,25,26,27] rfl rfl rfl, HX.nil (VE.any (VA.draw (LL.m rfl rfl<|LL.l (LO.ex (.r rfl) rfl) rfl<|LL.l (LO.ex (.r rfl) rfl) rfl<|LL.l (LO.as (.r rfl)) rfl<|LL.l (LO.as (.r rfl)) rfl<|LL.nil) (by kernel_rfl) ?_))⟩⟩))))
        refine VE.seqN<|VC.weak (env' := [(1,_), (2,_), (3,_), (7,_), (9,_), (11,_), (12,_), (14,_), (15,_), (16,_), (17,_)]) (.c4 rfl rfl rfl rfl (.c4 rfl rfl rfl rfl (.cons rfl (.cons rfl (.cons rfl .nil))))) (fun _ h => h)<|VC.q (VO.m rfl rfl<|VO.m rfl rfl<|VO.l (LO.call (xs := [_,_]) (vs := [_,_]) C15 ⟨(.r rfl), (.r rfl), trivial⟩ (fun w hw => evs_c (evN s acc x.p) yn.pe yd.pe yn.ce yd.ce w (by have := evN_len (s := s) (acc := acc) (x := x.p); omega) (own_rows hw 10 rfl) (own_rows hw 0 rfl))) rfl<|VO.l (LO.not (.r rfl)) rfl<|VO.m rfl rfl<|VO.gf rfl rfl (fun hg => LO.mv (.r rfl)) rfl<|VO.gf rfl rfl (fun hg => LO.mv (.r rfl)) rfl<|VO.gf rfl rfl (fun hg => LO.ne (.g hg rfl) (.g hg rfl)) rfl<|VO.l (LO.pkO (.r rfl) (.r rfl) rfl rfl) rfl<|VO.n<|VC.cond rfl (fun h130 => ?_) (fun h130 => ?_))
        · (exfalso; first | exact h130 rfl | (simp at h130))
        ·
         refine VC.skip (VE.inN (VE.seqN<|VC.reg (VO.m rfl rfl<|VO.p rfl rfl (by omega) (by omega) rfl<|VO.a rfl rfl<|VO.nil<|VE.thenN fun a w ha hw => ⟨(i + 1, accN s acc x.p, yn.o, yd.o, ms ++ [(EnM.mk x.t x.l cq.1 cq.2 x.g x.vs x.pv x.cv x.lv)], p12, c12), ⟨⟨by dsimp only; omega, hyn.2, hyd.2, by dsimp only; have := accN_len (s := s) (acc := acc) (x := x.p); omega⟩, ⟨hyn.1, hyd.1⟩, by dsimp only; rw [take_en hxp, accF_snoc, ← hall], by dsimp only; rw [List.map_append, hms, take_en hxp]; rfl, fun j z hj hz => (Nat.lt_succ_iff_lt_or_eq.1 hj).elim (fun q => hfw j z q hz) (fun q => by subst q; rw [hx] at hz; cases hz; exact hf2), fun y hy => (List.mem_append.1 hy).elim (hmo y) (fun q => by rw [List.mem_singleton.1 q]; exact ⟨hxc.2.1, hxc.2.2, hxc.1.ok⟩)⟩, (by dsimp only; omega), ha.sub (.cons (congrArg (fun n => some (Value.slice p12 n c12)) (by rw [List.length_append]; try rfl)) (.c4 rfl rfl rfl rfl (.cons rfl (.cons rfl .nil)))), (by exact selK (L1 := [_,_,_,_,_,_,_,_,_,_,_,_,_,_,_,_,_,_,_,_,_,_]) [1,2,3,4,5,6,7,8,9,10,11,12,13,14,15,16,17,18,19,0,20,21] rfl rfl _ (St.mcAdd (EnM.mk x.t x.l cq.1 cq.2 x.g x.vs x.pv x.cv x.lv) (selK (L1 := [_,_,_,_,_,_,_,_,_,_,_,_,_,_,_,_,_,_,_,_,_,_,_]) [22,25,11,12,13,14,15,16,17,18,19,20,1,2,3,4,5,6,7,8,24,26,27] rfl rfl _ hw)))⟩)))
     ·
      refine VC.exit (VE.thenX (VE.thenX (VE.inX (VE.seqN<|VC.seq<|VC.q (VO.m rfl rfl<|VO.m rfl rfl<|VO.m rfl rfl<|VO.l (LO.call (xs := [_,_,_]) (vs := [_,_,_]) C16 ⟨(.r rfl), (.r rfl), (.r rfl), trivial⟩ (fun w hw => alike_c s acc acc.length o_ d_ T w hB hD (by omega) (St.has (selK (L1 := offR o_) [0,1,2,3,4,5,6,7,8,9] rfl rfl _ hw) (List.Sublist.refl _)) (St.has (selK (L1 := dofR d_) [10,11,12,13,14,15,16,17] rfl rfl _ hw) (List.Sublist.refl _)))) rfl<|VO.l (LO.not (.r rfl)) rfl<|VO.m rfl rfl<|VO.gf rfl rfl (fun hg => LO.mv (.r rfl)) rfl<|VO.bc (x := 136) rfl (fun hg24_5 => (by exfalso; first | (cases hg24_5; done) | (simp at hg24_5; done) | (revert hg24_5; decide))) (fun hg24_5 => VO.gT rfl rfl (congrArg Value.bool hg24_5) rfl<|HO.callx (xs := [_]) (vs := [_]) C17 ⟨(.g (by rw [hg24_5]; rfl) rfl), trivial⟩ (fun w hw => Log_c o_ w (by have := hB.a.sim.wf.n; omega) hB.a.sim.wf.n.1 (by have := hB.a.lgl; omega) hB.a.ok (St.has (selK (L1 := offR o_) [0,1,2,3,4,5,6,7,8,9] rfl rfl _ hw) (List.Sublist.refl _))) fun lx hlx => VO.gT rfl rfl (congrArg Value.bool hg24_5) rfl<|HO.lo (LO.len S29 (.r rfl) rfl)<|VO.gT rfl rfl (congrArg Value.bool hg24_5) rfl<|HO.lo (LO.mv (.r rfl))<|VO.gT rfl rfl (congrArg Value.bool hg24_5) rfl<|HO.callx (xs := [_]) (vs := [_]) C18 ⟨(.r rfl), trivial⟩ (fun w hw => dLog_c d_ w (St.has (selK (L1 := dofR d_) [12,13,14,15,16,17,18,19] rfl rfl _ hw) (List.Sublist.refl _)) (by have := hD.len; rw [List.length_take] at this; omega) hD.bd) fun ly _ => VO.gT rfl rfl (congrArg Value.bool hg24_5) rfl<|HO.lo (LO.len S44 (.r rfl) rfl)<|VO.gT rfl rfl (congrArg Value.bool hg24_5) rfl<|HO.lo (LO.ne (.r rfl) (.r rfl))<|VO.h rfl<|HO.lo (LO.pkF (.r rfl) hg24_5 (.r rfl))<|VO.n<|VC.cond rfl (fun h144 => ?_) (fun h144 => ?_)))))))
      · (exfalso; first | exact h144 rfl | (have z1 := congrArg List.length hlx; rw [List.length_map, List.length_map] at z1; have z2 := hD.len; have z3 := hB.a.len; omega) | (simp at h144))
      ·
       have hi2 : i = le.length := by omega
       subst hi2
       obtain ⟨LP, hLP⟩ : ∃ LP, le.map EnM.p = LP := ⟨_, rfl⟩
       obtain ⟨EV, hEV⟩ : ∃ EV, evP s LP le.length = EV := ⟨_, rfl⟩
       have hLPl : LP.length = le.length := by rw [← hLP, List.length_map]
       have hms2 : ms.map EnM.p = LP := by rw [hms, hLP, ← hLPl, List.take_length]
       have hml2 : ms.length = le.length := by rw [← hLPl, ← hms2, List.length_map]
       have hlm : LogM w pe0 le := logU_m hle (fun x hx => by obtain ⟨j, hj⟩ := List.mem_iff_getElem?.1 hx; exact hfw j x (List.getElem?_eq_some_iff.1 hj).1 hj)
       have hEVl : EV.length < 1000000000000 := by rw [← hEV]; have z := Play_few (s := s) (LP := LP) (n := le.length); have z2 : s.regs.length ≤ 32 := (by have := hB.a.n; have := hB.a.sim.wf.n; omega); have z3 : s.regs.length * le.length ≤ 32 * 12 := Nat.mul_le_mul z2 hlen; omega
       refine VC.skip (VE.seqN<|VC.seq ?_)
       rcases Classical.em (∀ (k : Nat) (x : EnM), le[k]? = some x → enE s (LP.take k) x.p = 0) with hall2 | hall2
       ·
        refine VC.reg (VO.l (LO.lda (vs := [_,_,_,_,_,_,_,_,_]) A28 (.r rfl) (cells_blk 23 rfl ⟨_, rfl⟩) rfl) rfl<|VO.m rfl rfl<|VO.h rfl<|HO.callx (xs := [_,_]) (vs := [_,_]) C19 ⟨(.r rfl), (.r rfl), trivial⟩ (fun w hw => PlayU hLP rfl hEV hs hS (by have := hf1.1; omega) (RegsU.regs ⟨hl.rows.keep w hw, fun x hx => (hl.ok x hx).keep w hw⟩ hf1) (by omega) (hlm.keep hw) hall2) fun yp hyp => VO.h rfl<|HO.lo (LO.mv (.r rfl))<|VO.h rfl<|HO.lo (LO.ex (.r rfl) rfl)<|VO.h rfl<|HO.lo (LO.ex (.r rfl) rfl)<|VO.h rfl<|HO.lo (LO.ex (.r rfl) rfl)<|VO.h rfl<|HO.lo (LO.as (.r rfl))<|VO.h rfl<|HO.lo (LO.as (.r rfl))<|VO.h rfl<|HO.lo (LO.as (.r rfl))<|VO.n<|VC.weak (env' := [(2,_), (3,_), (8,_), (11,_), (18,_), (19,_)]) (.c4 rfl rfl rfl rfl (.cons rfl (.cons rfl .nil))) (fun _ h => h)<|VC.q (VO.l (LO.lda (vs := [_,_,_,_,_,_,_,_,_]) A28 (.r rfl) (cells_blk 34 rfl ⟨_, rfl⟩) rfl) rfl<|VO.h rfl<|HO.callx (xs := [_]) (vs := [_]) C8 ⟨(.r rfl), trivial⟩ (fun w hw => spec_c g l pl cl a b d w hf1.1 ⟨hl.rows.keep w hw, fun x hx => (hl.ok x hx).keep w hw⟩) fun x2 _ => VO.m rfl rfl<|VO.h rfl<|HO.callx (xs := [_,_]) (vs := [_,_]) C20 ⟨(.r rfl), (.r rfl), trivial⟩ (fun w hw => dPlayU hms2 hml2 hEV hs hS (by have := hf1.1; omega) (RegsU.regs ⟨own_rows hw 0 rfl, fun x hx => (hl.ok x hx).keep w hw⟩ hf1) (by omega) (log_of (L := []) (selK (L1 := [_,_]) [33,32] rfl rfl _ hw) hmo) (all_tr hLP hms2 hall2)) fun yq hyq => VO.h rfl<|HO.lo (LO.mv (.r rfl))<|VO.h rfl<|HO.lo (LO.ex (.r rfl) rfl)<|VO.h rfl<|HO.lo (LO.ex (.r rfl) rfl)<|VO.h rfl<|HO.lo (LO.ex (.r rfl) rfl)<|VO.h rfl<|HO.lo (LO.as (.r rfl))<|VO.h rfl<|HO.lo (LO.as (.r rfl))<|VO.h rfl<|HO.lo (LO.as (.r rfl))<|VO.n<|VC.seq ?_))
        refine VC.q (VO.m rfl rfl<|VO.m rfl rfl<|VO.l (LO.call (xs := [_,_]) (vs := [_,_]) C15 ⟨(.r rfl), (.r rfl), trivial⟩ (fun w hw => evs_c EV yp.pe yq.pe yp.ce yq.ce w hEVl (own_rows hw 20 rfl) (own_rows hw 8 rfl))) rfl<|VO.l (LO.not (.r rfl)) rfl<|VO.m rfl rfl<|VO.gf rfl rfl (fun hg => LO.mv (.r rfl)) rfl<|VO.gf rfl rfl (fun hg => LO.mv (.r rfl)) rfl<|VO.gf rfl rfl (fun hg => LO.ne (.g hg rfl) (.g hg rfl)) rfl<|VO.l (LO.pkO (.r rfl) (.r rfl) rfl rfl) rfl<|VO.m rfl rfl<|VO.gf rfl rfl (fun hg => LO.mv (.r rfl)) rfl<|VO.gf rfl rfl (fun hg => LO.eqPn ⟨_, Tryz.underlying32⟩ (.g hg rfl) (.r rfl)) rfl<|VO.gf rfl rfl (fun hg => LO.mv (.r rfl)) rfl<|VO.gf rfl rfl (fun hg => LO.ne (.g hg rfl) (.r rfl)) rfl<|VO.gf rfl rfl (fun hg => LO.neB Tryz.underlying4 (.g hg rfl) (.g hg rfl)) rfl<|VO.l (LO.pkO (.r rfl) (.r rfl) rfl rfl) rfl<|VO.n<|VC.weak (env' := [(2,_), (8,_), (18,_), (20,_), (175,_)]) (.c4 rfl rfl rfl rfl (.cons rfl .nil)) (fun _ h => h)<|VC.cond rfl (fun h175 => ?_) (fun h175 => ?_))
        · (exfalso; first | (simp at h175; done) | (simp at h175; exact hbad h175) | (simp [hbad] at h175))
        ·
         refine VC.skip (VE.seqN<|VC.q (VO.m rfl rfl<|VO.u rfl rfl rfl<|VO.m rfl rfl<|VO.gf rfl rfl (fun hg => LO.mv (.r rfl)) rfl<|VO.gf rfl rfl (fun hg => LO.mv (.r rfl)) rfl<|VO.gf rfl rfl (fun hg => LO.mv (.r rfl)) rfl<|VO.gf rfl rfl (fun hg => LO.call (xs := [_,_,_]) (vs := [_,_,_]) C16 ⟨(.g hg rfl), (.g hg rfl), (.g hg rfl), trivial⟩ (fun w hw => alike_c s LP le.length yp.o yq.o T w hyp hyq (by omega) (St.has (selK (L1 := offR yp.o) [10,11,12,13,14,15,16,17,18,19] rfl rfl _ hw) (List.Sublist.refl _)) (St.has (selK (L1 := dofR yq.o) [0,1,2,3,4,5,6,7] rfl rfl _ hw) (List.Sublist.refl _)))) rfl<|VO.l (LO.pkO (.r rfl) (.r rfl) rfl rfl) rfl<|VO.m rfl rfl<|VO.gt rfl rfl (fun hg => LO.call (xs := []) (vs := []) C5 trivial (fun w hw => works_c w)) rfl<|VO.l (LO.pkA (.r rfl) rfl rfl (.r rfl)) rfl<|VO.a rfl rfl<|VO.n<|VC.ret (VE.s rfl rfl (fun w hw => ?_))))
         first | exact ⟨rfl, hw.nil⟩ | exact ⟨by simp [resV], hw.nil⟩ | exact ⟨by simp [resV, hbad], hw.nil⟩
       ·
        obtain ⟨k, xk, hxk, hbad, hbef⟩ := first_bad hall2
        subst hLP
        obtain ⟨yk, hyk, hyp_⟩ := at_tr rfl hms2 hxk
        have hbad2 : enE s ((le.map EnM.p).take k) yk.p = enE s ((le.map EnM.p).take k) xk.p ∧ enE s ((le.map EnM.p).take k) xk.p ≠ 0 := ⟨by rw [hyp_], hbad⟩
        have hbefD : ∀ (j : Nat) (x : EnM), j < k → ms[j]? = some x → enE s ((le.map EnM.p).take j) x.p = 0 := fun j x hj hx => by obtain ⟨z, hz, e⟩ := at_tr hms2 rfl hx; rw [← e]; exact hbef j z hj hz
        refine VC.reg (VO.l (LO.lda (vs := [_,_,_,_,_,_,_,_,_]) A28 (.r rfl) (cells_blk 23 rfl ⟨_, rfl⟩) rfl) rfl<|VO.m rfl rfl<|VO.l (LO.call (xs := [_,_]) (vs := [_,_]) C19 ⟨(.r rfl), (.r rfl), trivial⟩ (fun w hw => Play_e g l pl cl a b d s le pe0 ce0 w hs hS (by have := hf1.1; omega) (RegsU.regs ⟨hl.rows.keep w hw, fun x hx => (hl.ok x hx).keep w hw⟩ hf1) (by omega) (hlm.keep hw) k xk hxk hbef _ rfl hbad)) rfl<|VO.m rfl rfl<|VO.l (LO.ex (.r rfl) rfl) rfl<|VO.l (LO.ex (.r rfl) rfl) rfl<|VO.l (LO.ex (.r rfl) rfl) rfl<|VO.a rfl rfl<|VO.a rfl rfl<|VO.a rfl rfl<|VO.n<|VC.weak (env' := [(2,_), (3,_), (8,_), (11,_), (18,_), (19,_)]) (.c4 rfl rfl rfl rfl (.cons rfl (.cons rfl .nil))) (fun _ h => h)<|VC.q (VO.l (LO.lda (vs := [_,_,_,_,_,_,_,_,_]) A28 (.r rfl) (cells_blk 23 rfl ⟨_, rfl⟩) rfl) rfl<|VO.h rfl<|HO.callx (xs := [_]) (vs := [_]) C8 ⟨(.r rfl), trivial⟩ (fun w hw => spec_c g l pl cl a b d w hf1.1 ⟨hl.rows.keep w hw, fun x hx => (hl.ok x hx).keep w hw⟩) fun x2 _ => VO.m rfl rfl<|VO.h rfl<|HO.lo (LO.call (xs := [_,_]) (vs := [_,_]) C20 ⟨(.r rfl), (.r rfl), trivial⟩ (fun w hw => dPlay_e2 hms2 hml2 hs hS (by have := hf1.1; omega) (RegsU.regs ⟨own_rows hw 0 rfl, fun x hx => (hl.ok x hx).keep w hw⟩ hf1) (by omega) (log_of (L := []) (selK (L1 := [_,_]) [22,21] rfl rfl _ hw) hmo) hyk hbefD hbad2))<|VO.h rfl<|HO.lo (LO.mv (.r rfl))<|VO.h rfl<|HO.lo (LO.ex (.r rfl) rfl)<|VO.h rfl<|HO.lo (LO.ex (.r rfl) rfl)<|VO.h rfl<|HO.lo (LO.ex (.r rfl) rfl)<|VO.h rfl<|HO.lo (LO.as (.r rfl))<|VO.h rfl<|HO.lo (LO.as (.r rfl))<|VO.h rfl<|HO.lo (LO.as (.r rfl))<|VO.n<|VC.seq ?_))
        refine VC.q (VO.m rfl rfl<|VO.m rfl rfl<|VO.l (LO.call (xs := [_,_]) (vs := [_,_]) C15 ⟨(.r rfl), (.r rfl), trivial⟩ (fun w hw => by have z := evs_c [] none none 0 0 w (by decide) ev_nil ev_nil; exact z)) rfl<|VO.l (LO.not (.r rfl)) rfl<|VO.m rfl rfl<|VO.gf rfl rfl (fun hg => LO.mv (.r rfl)) rfl<|VO.gf rfl rfl (fun hg => LO.mv (.r rfl)) rfl<|VO.gf rfl rfl (fun hg => LO.ne (.g hg rfl) (.g hg rfl)) rfl<|VO.l (LO.pkO (.r rfl) (.r rfl) rfl rfl) rfl<|VO.m rfl rfl<|VO.gf rfl rfl (fun hg => LO.mv (.r rfl)) rfl<|VO.gf rfl rfl (fun hg => LO.eqP0 ⟨_, Tryz.underlying32⟩ (.g hg rfl) (.r rfl)) rfl<|VO.gf rfl rfl (fun hg => LO.mv (.r rfl)) rfl<|VO.gf rfl rfl (fun hg => LO.ne (.g hg rfl) (.r rfl)) rfl<|VO.gf rfl rfl (fun hg => LO.neB Tryz.underlying4 (.g hg rfl) (.g hg rfl)) rfl<|VO.l (LO.pkO (.r rfl) (.r rfl) rfl rfl) rfl<|VO.n<|VC.weak (env' := [(2,_), (8,_), (18,_), (20,_), (175,_)]) (.c4 rfl rfl rfl rfl (.cons rfl .nil)) (fun _ h => h)<|VC.cond rfl (fun h175 => ?_) (fun h175 => ?_))
        · (exfalso; first | (simp at h175; done) | (simp at h175; exact hbad h175) | (simp [hbad] at h175))
        ·
         refine VC.skip (VE.seqN<|VC.q (VO.m rfl rfl<|VO.u rfl rfl rfl<|VO.m rfl rfl<|VO.gf rfl rfl (fun hg => LO.mv (.r rfl)) rfl<|VO.gf rfl rfl (fun hg => LO.mv (.r rfl)) rfl<|VO.gf rfl rfl (fun hg => LO.mv (.r rfl)) rfl<|VO.gf rfl rfl (fun hg => LO.call (xs := [_,_,_]) (vs := [_,_,_]) C16 ⟨(.g hg rfl), (.g hg rfl), (.g hg rfl), trivial⟩ (fun w hw => no_call (by simp at hg; exact hbad hg))) rfl<|VO.l (LO.pkO (.r rfl) (.r rfl) rfl rfl) rfl<|VO.m rfl rfl<|VO.gt rfl rfl (fun hg => LO.call (xs := []) (vs := []) C5 trivial (fun w hw => works_c w)) rfl<|VO.l (LO.pkA (.r rfl) rfl rfl (.r rfl)) rfl<|VO.a rfl rfl<|VO.n<|VC.ret (VE.s rfl rfl (fun w hw => ?_))))
         first | exact ⟨rfl, hw.nil⟩ | exact ⟨by simp [resV], hw.nil⟩ | exact ⟨by simp [resV, hbad], hw.nil⟩
  ·
   refine VC.reg (VO.l (LO.lda (vs := [_,_,_,_,_,_,_,_,_]) A28 (.r rfl) (cells_blk 0 rfl ⟨_, rfl⟩) rfl) rfl<|VO.l (LO.call (xs := [_]) (vs := [_]) C6 ⟨(.r rfl), trivial⟩ (fun w hw => New_e g l pl cl a b d w (by have := hf1.1; omega) (RegsU.regs ⟨hl.rows.keep w hw, fun x hx => (hl.ok x hx).keep w hw⟩ hf1) hS)) rfl<|VO.m rfl rfl<|VO.l (LO.ex (.r rfl) rfl) rfl<|VO.l (LO.ex (.r rfl) rfl) rfl<|VO.a rfl rfl<|VO.a rfl rfl<|VO.n<|VC.q (VO.l (LO.lda (vs := [_,_,_,_,_,_,_,_,_]) A28 (.r rfl) (cells_blk 0 rfl ⟨_, rfl⟩) rfl) rfl<|VO.h rfl<|HO.callx (xs := [_]) (vs := [_]) C8 ⟨(.r rfl), trivial⟩ (fun w hw => spec_c g l pl cl a b d w hf1.1 ⟨hl.rows.keep w hw, fun x hx => (hl.ok x hx).keep w hw⟩) fun x1 _ => VO.h rfl<|HO.lo (LO.call (xs := [_]) (vs := [_]) C7 ⟨(.r rfl), trivial⟩ (fun w hw => rNew_e g l x1.1 x1.2 a b d w (by have := hf1.1; omega) (RegsU.regs ⟨own_rows hw 0 rfl, fun x hx => (hl.ok x hx).keep w hw⟩ hf1) hS))<|VO.h rfl<|HO.lo (LO.mv (.r rfl))<|VO.h rfl<|HO.lo (LO.ex (.r rfl) rfl)<|VO.h rfl<|HO.lo (LO.ex (.r rfl) rfl)<|VO.h rfl<|HO.lo (LO.as (.r rfl))<|VO.h rfl<|HO.lo (LO.as (.r rfl))<|VO.n<|VC.seq<|VC.seq ?_))
   refine VC.reg (VO.m rfl rfl<|VO.m rfl rfl<|VO.u rfl rfl rfl<|VO.n<|VC.cond rfl (fun h44 => ?_) (fun h44 => ?_))
   · (exfalso; exact h44 rfl)
   ·
    refine VC.skip (VE.seqN<|VC.seq<|VC.q (VO.m rfl rfl<|VO.u rfl rfl rfl<|VO.n<|VC.cond rfl (fun h46 => ?_) (fun h46 => ?_)))
    ·
     refine VC.q (VO.l (LO.call (xs := []) (vs := []) C5 trivial (fun w hw => works_c w)) rfl<|VO.a rfl rfl<|VO.n<|VC.weak (env' := [(6,_)]) (.cons rfl .nil) (fun _ h => h)<|VC.ret (VE.thenR (VE.s rfl rfl (fun w hw => ?_))))
     first | exact ⟨rfl, hw.nil⟩ | exact ⟨by simp [resV], hw.nil⟩ | exact ⟨by simp [resV, hbad], hw.nil⟩
    · (exfalso; exact h46 hS)
end Go.Proofs.YtdjflomhaljljaaGreat
