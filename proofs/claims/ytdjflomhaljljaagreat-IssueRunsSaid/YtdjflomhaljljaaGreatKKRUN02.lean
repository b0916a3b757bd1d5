/-
  The document's checks of grids, flows and clouds.
  (and more)
-/
import Derived.Test.YtdjflomhaljljaaGreatKKRUN01

set_option maxRecDepth 20000
set_option maxHeartbeats 8000000
namespace Go.Proofs.YtdjflomhaljljaaGreat
open Go.SL Go.Proofs Go.Cast
set_option linter.unusedVariables false
theorem F105_0 : FieldAt Tryz.prog 105 0 0 := ⟨_,_, Tryz.underlying105, rfl, rfl, 1, by kernel_rfl⟩
theorem C77 : IsFn Tryz.prog 77 := ⟨_, Tryz.func77, by decide, rfl⟩
theorem F105_1 : FieldAt Tryz.prog 105 1 2 := ⟨_,_, Tryz.underlying105, rfl, rfl, 1, by kernel_rfl⟩
theorem C34 : IsFn Tryz.prog 34 := ⟨_, Tryz.func34, by decide, rfl⟩
theorem C58 : IsFn Tryz.prog 58 := ⟨_, Tryz.func58, by decide, rfl⟩
theorem F107_2 : FieldAt Tryz.prog 107 2 2 := ⟨_,_, Tryz.underlying107, rfl, rfl, 3, by kernel_rfl⟩
theorem A105 : IsAgg Tryz.prog 105 4 := ⟨⟨_, Tryz.underlying105, rfl⟩, by kernel_rfl⟩
theorem C85 : IsFn Tryz.prog 85 := ⟨_, Tryz.func85, by decide, rfl⟩
theorem F107_3 : FieldAt Tryz.prog 107 3 6 := ⟨_,_, Tryz.underlying107, rfl, rfl, 0, by kernel_rfl⟩
theorem F107_1 : FieldAt Tryz.prog 107 1 1 := ⟨_,_, Tryz.underlying107, rfl, rfl, 0, by kernel_rfl⟩
theorem F107_0 : FieldAt Tryz.prog 107 0 0 := ⟨_,_, Tryz.underlying107, rfl, rfl, 0, by kernel_rfl⟩
theorem C86 : IsFn Tryz.prog 86 := ⟨_, Tryz.func86, by decide, rfl⟩
theorem step_ne {l : List Int} {n : Int} {j : Nat} (hz : ∀ k, k < j → l.getD k 0 ≠ n) (h : l.getD j 0 ≠ n) : ∀ k, k < j + 1 → l.getD k 0 ≠ n := by
  intro k hk
  rcases Nat.lt_or_ge k j with q | q
  · exact hz k q
  · have : k = j := by omega
    subst this; exact h
theorem has_yes {l : List Int} {n : Int} {j : Nat} (hj : j < l.length) (h : l.getD j 0 = n) : true = memB l n := by
  symm; rw [memB, decide_eq_true_iff, ← h, List.getD_eq_getElem?_getD, List.getElem?_eq_getElem hj]; exact List.getElem_mem hj
theorem has_no {l : List Int} {n : Int} {j : Nat} (hz : ∀ k, k < j → l.getD k 0 ≠ n) (hj : l.length ≤ j) : false = memB l n := by
  symm; rw [memB, decide_eq_false_iff_not]; intro q
  obtain ⟨i, hi, e⟩ := List.getElem_of_mem q
  exact hz i (by omega) (by rw [List.getD_eq_getElem?_getD, List.getElem?_eq_getElem hi]; exact e)
theorem In_c (n lo hi : Int) (w : World) :
 Calls Tryz.prog 34 #[.int .i64 n, .int .i64 lo, .int .i64 hi] w fun e w' => e = .returned (.bool (decide (lo ≤ n) && decide (n ≤ hi))) ∧ St (bs w) [] w' := by
 refine enter (vs := [_,_,_]) (env := [(0,_), (1,_), (2,_)]) Tryz.func34 rfl rfl rfl rfl ?_
 refine VC.q (VO.a rfl rfl<|VO.n<|VC.q (VO.m rfl rfl<|VO.m rfl rfl<|VO.l (LO.ge (.r rfl) (.r rfl)) rfl<|VO.m rfl rfl<|VO.gt rfl rfl (fun hg => LO.mv (.r rfl)) rfl<|VO.gt rfl rfl (fun hg => LO.mv (.r rfl)) rfl<|VO.gt rfl rfl (fun hg => LO.le (.g hg rfl) (.g hg rfl)) rfl<|VO.l (LO.pkA (.r rfl) rfl rfl (.r rfl)) rfl<|VO.a rfl rfl<|VO.n<|VC.ret (VE.s rfl rfl (fun w hw => ?_))))
 exact ⟨rfl, hw.nil⟩
theorem Valid_c (s t lo hi : Int) (w : World) :
 Calls Tryz.prog 77 #[.agg #[.int .i64 s, .int .i64 t], .int .i64 lo, .int .i64 hi] w fun e w' => e = .returned (.bool ((decide (s ≤ t) && decide (lo ≤ s)) && decide (t ≤ hi))) ∧ St (bs w) [] w' := by
 refine enter (vs := [_,_,_]) (env := [(0,_), (1,_), (2,_)]) Tryz.func77 rfl rfl rfl rfl ?_
 refine VC.q (VO.h rfl<|HO.box (C := #[_,_]) rfl rfl fun b1 => VO.a rfl rfl<|VO.n<|VC.q (VO.f (r := 0) F77_0 rfl rfl rfl<|VO.c 0 O3 rfl rfl ⟨_, rfl⟩ rfl<|VO.f (r := 1) F77_1 rfl rfl rfl<|VO.c 0 O3 rfl rfl ⟨_, rfl⟩ rfl<|VO.l (LO.le (.r rfl) (.r rfl)) rfl<|VO.m rfl rfl<|VO.gt rfl rfl (fun hg => LO.fa (r := 0) F77_0 (.r rfl) rfl) rfl<|VO.gt rfl rfl (fun hg => LO.ld O3 (.g hg rfl) (cells_blk 0 rfl ⟨_, rfl⟩)) rfl<|VO.gt rfl rfl (fun hg => LO.mv (.r rfl)) rfl<|VO.gt rfl rfl (fun hg => LO.ge (.g hg rfl) (.g hg rfl)) rfl<|VO.l (LO.pkA (.r rfl) rfl rfl (.r rfl)) rfl<|VO.m rfl rfl<|VO.gt rfl rfl (fun hg => LO.fa (r := 1) F77_1 (.r rfl) rfl) rfl<|VO.gt rfl rfl (fun hg => LO.ld O3 (.g hg rfl) (cells_blk 0 rfl ⟨_, rfl⟩)) rfl<|VO.gt rfl rfl (fun hg => LO.mv (.r rfl)) rfl<|VO.gt rfl rfl (fun hg => LO.le (.g hg rfl) (.g hg rfl)) rfl<|VO.l (LO.pkA (.r rfl) rfl rfl (.r rfl)) rfl<|VO.a rfl rfl<|VO.n<|VC.ret (VE.s rfl rfl (fun w hw => ?_))))
 exact ⟨rfl, hw.nil⟩
theorem rCheckFlow_c (f : Flow) (w : World) :
 Calls Tryz.prog 85 #[flowV f] w fun e w' => e = .returned (.int .i64 (flowE f)) ∧ St (bs w) [] w' := by
 refine enter (vs := [_]) (env := [(0,_)]) Tryz.func85 rfl rfl rfl rfl ?_
 refine VC.q (VO.h rfl<|HO.box (C := #[_,_,_,_]) rfl rfl fun b1 => VO.a rfl rfl<|VO.n<|VC.seq<|VC.q (VO.f (r := 0) F105_0 rfl rfl rfl<|VO.l (LO.lda (vs := [_,_]) A77 (.r rfl) (cells_blk 0 rfl ⟨_, rfl⟩) rfl) rfl<|VO.l (LO.call (xs := [_,_,_]) (vs := [_,_,_]) C77 ⟨(.r rfl), (.r rfl), (.r rfl), trivial⟩ (fun w _ => Valid_c _ _ _ _ w)) rfl<|VO.l (LO.not (.r rfl)) rfl<|VO.m rfl rfl<|VO.gf rfl rfl (fun hg => LO.fa (r := 2) F105_1 (.r rfl) rfl) rfl<|VO.gf rfl rfl (fun hg => LO.lda (vs := [_,_]) A77 (.g hg rfl) (cells_blk 0 rfl ⟨_, rfl⟩) rfl) rfl<|VO.gf rfl rfl (fun hg => LO.call (xs := [_,_,_]) (vs := [_,_,_]) C77 ⟨(.g hg rfl), (.r rfl), (.r rfl), trivial⟩ (fun w _ => Valid_c _ _ _ _ w)) rfl<|VO.gf rfl rfl (fun hg => LO.not (.g hg rfl)) rfl<|VO.l (LO.pkO (.r rfl) (.r rfl) rfl rfl) rfl<|VO.n<|VC.cond rfl (fun h1 => ?_) (fun h1 => ?_)))
 ·
  refine VC.q (VO.a rfl rfl<|VO.n<|VC.ret (VE.thenR (VE.s rfl rfl (fun w hw => ?_))))
  exact ⟨by simp only [resV, flowE]; first | rw [if_pos (by unfold flowOk; omega)] | rw [if_neg (by unfold flowOk; omega)], hw.nil⟩
 ·
  refine VC.skip (VE.seqN<|VC.q (VO.a rfl rfl<|VO.n<|VC.ret (VE.s rfl rfl (fun w hw => ?_))))
  exact ⟨by simp only [resV, flowE]; first | rw [if_pos (by unfold flowOk; omega)] | rw [if_neg (by unfold flowOk; omega)], hw.nil⟩
theorem rCheckGrid_c (g : Grid) (w : World) :
 Calls Tryz.prog 58 #[gridV g] w fun e w' => e = .returned (.int .i64 (gridE g)) ∧ St (bs w) [] w' := by
 refine enter (vs := [_]) (env := [(0,_)]) Tryz.func58 rfl rfl rfl rfl ?_
 refine VC.q (VO.h rfl<|HO.box (C := #[_,_,_,_,_]) rfl rfl fun b1 => VO.a rfl rfl<|VO.n<|VC.seq<|VC.q (VO.f (r := 0) F23_0 rfl rfl rfl<|VO.c 0 O3 rfl rfl ⟨_, rfl⟩ rfl<|VO.l (LO.call (xs := [_,_,_]) (vs := [_,_,_]) C34 ⟨(.r rfl), (.r rfl), (.r rfl), trivial⟩ (fun w _ => In_c _ _ _ w)) rfl<|VO.l (LO.not (.r rfl)) rfl<|VO.m rfl rfl<|VO.gf rfl rfl (fun hg => LO.fa (r := 1) F23_1 (.r rfl) rfl) rfl<|VO.gf rfl rfl (fun hg => LO.ld O3 (.g hg rfl) (cells_blk 0 rfl ⟨_, rfl⟩)) rfl<|VO.gf rfl rfl (fun hg => LO.call (xs := [_,_,_]) (vs := [_,_,_]) C34 ⟨(.g hg rfl), (.r rfl), (.r rfl), trivial⟩ (fun w _ => In_c _ _ _ w)) rfl<|VO.gf rfl rfl (fun hg => LO.not (.g hg rfl)) rfl<|VO.l (LO.pkO (.r rfl) (.r rfl) rfl rfl) rfl<|VO.m rfl rfl<|VO.gf rfl rfl (fun hg => LO.fa (r := 2) F23_2 (.r rfl) rfl) rfl<|VO.gf rfl rfl (fun hg => LO.ld O3 (.g hg rfl) (cells_blk 0 rfl ⟨_, rfl⟩)) rfl<|VO.gf rfl rfl (fun hg => LO.call (xs := [_,_,_]) (vs := [_,_,_]) C34 ⟨(.g hg rfl), (.r rfl), (.r rfl), trivial⟩ (fun w _ => In_c _ _ _ w)) rfl<|VO.gf rfl rfl (fun hg => LO.not (.g hg rfl)) rfl<|VO.l (LO.pkO (.r rfl) (.r rfl) rfl rfl) rfl<|VO.m rfl rfl<|VO.gf rfl rfl (fun hg => LO.fa (r := 3) F23_3 (.r rfl) rfl) rfl<|VO.gf rfl rfl (fun hg => LO.ld O3 (.g hg rfl) (cells_blk 0 rfl ⟨_, rfl⟩)) rfl<|VO.gf rfl rfl (fun hg => LO.call (xs := [_,_,_]) (vs := [_,_,_]) C34 ⟨(.g hg rfl), (.r rfl), (.r rfl), trivial⟩ (fun w _ => In_c _ _ _ w)) rfl<|VO.gf rfl rfl (fun hg => LO.not (.g hg rfl)) rfl<|VO.l (LO.pkO (.r rfl) (.r rfl) rfl rfl) rfl<|VO.m rfl rfl<|VO.gf rfl rfl (fun hg => LO.fa (r := 4) F23_4 (.r rfl) rfl) rfl<|VO.gf rfl rfl (fun hg => LO.ld O3 (.g hg rfl) (cells_blk 0 rfl ⟨_, rfl⟩)) rfl<|VO.gf rfl rfl (fun hg => LO.call (xs := [_,_,_]) (vs := [_,_,_]) C34 ⟨(.g hg rfl), (.r rfl), (.r rfl), trivial⟩ (fun w _ => In_c _ _ _ w)) rfl<|VO.gf rfl rfl (fun hg => LO.not (.g hg rfl)) rfl<|VO.l (LO.pkO (.r rfl) (.r rfl) rfl rfl) rfl<|VO.n<|VC.cond rfl (fun h1 => ?_) (fun h1 => ?_)))
 ·
  refine VC.q (VO.a rfl rfl<|VO.n<|VC.ret (VE.thenR (VE.s rfl rfl (fun w hw => ?_))))
  exact ⟨by simp only [resV, gridE]; first | rw [if_pos (by unfold gridOk; omega)] | rw [if_neg (by unfold gridOk; omega)], hw.nil⟩
 ·
  refine VC.skip (VE.seqN<|VC.q (VO.a rfl rfl<|VO.n<|VC.ret (VE.s rfl rfl (fun w hw => ?_))))
  exact ⟨by simp only [resV, gridE]; first | rw [if_pos (by unfold gridOk; omega)] | rw [if_neg (by unfold gridOk; omega)], hw.nil⟩
theorem rhas_c (p : Option Addr) (l : List Int) (n : Int) (c : Nat) (w : World) (hn : l.length < 1000000000000) (hl : Ints w p l) :
 Calls Tryz.prog 86 #[.slice p l.length c, .int .i64 n] w fun e w' => e = .returned (.bool (memB l n)) ∧ St (bs w) [] w' := by
 refine enter (vs := [_,_]) (env := [(0,_), (1,_)]) Tryz.func86 rfl rfl rfl rfl ?_
 refine VC.q (VO.a rfl rfl<|VO.n<|VC.seq<|VC.q (VO.a rfl rfl<|VO.n<|VC.block<|VC.loopK (α := Nat) 0 (fun gx => [(5, .int .i64 (gx : Nat))]) [(0,_), (1,_)] (fun gx => []) (fun gx => gx ≤ l.length ∧ ∀ k, k < gx → l.getD k 0 ≠ n) (fun gx => l.length - gx) 0 (by exact ⟨by omega, fun k hk => by omega⟩) (.cons rfl (.cons rfl (.cons rfl .nil))) (fun _ h => h) ?_))
 rintro j ⟨hj, hz⟩
 refine VC.seq<|VC.q (VO.m rfl rfl<|VO.m rfl rfl<|VO.l (LO.len S72 (.r rfl) rfl) rfl<|VO.t rfl rfl rfl<|VO.n<|VC.cond rfl (fun h1 => ?_) (fun h1 => ?_))
 ·
  refine VC.skip (VE.seqN<|VC.seq<|VC.block<|VC.q (VO.m rfl rfl<|VO.m rfl rfl<|VO.l (LO.ixs S72 N3 hl.some (.r rfl) (.r rfl) rfl (by omega)) rfl<|VO.l (LO.ld O3 (.r rfl) (hl.at (j := j) (by omega))) rfl<|VO.m rfl rfl<|VO.l (LO.eq (.r rfl) (.r rfl)) rfl<|VO.n<|VC.cond rfl (fun h2 => ?_) (fun h2 => ?_)))
  ·
   refine VC.q (VO.a rfl rfl<|VO.n<|VC.ret (VE.inR (VE.thenR (VE.thenR (VE.inR (VE.thenR (VE.s rfl rfl (fun w hw => ?_))))))))
   refine ⟨?_, hw.nil⟩
   simp only [resV]
   congr 2
   first | exact has_yes (by omega) h2 | exact has_no hz (by omega)
  ·
   refine VC.skip (VE.inN (VE.seqN<|VC.reg (VO.m rfl rfl<|VO.p rfl rfl (by omega) (by omega) rfl<|VO.a rfl rfl<|VO.nil<|VE.thenN fun a w ha hw => ⟨j + 1, ⟨by omega, step_ne hz (by simpa using h2)⟩, (by omega), ha.sub (.cons rfl (.cons rfl (.cons rfl .nil))), hw⟩)))
 ·
  refine VC.exit (VE.thenX (VE.thenX (VE.inX (VE.seqN<|VC.q (VO.a rfl rfl<|VO.n<|VC.ret (VE.s rfl rfl (fun w hw => ?_)))))))
  refine ⟨?_, hw.nil⟩
  simp only [resV]
  congr 2
  first | exact has_yes (by omega) h2 | exact has_no hz (by omega)
theorem rCheckCloud_c (g : Grid) (c : Cloud) (ps pm : Option Addr) (cs cm : Nat) (w : World) (hns : c.sure.length < 1000000000000) (hnm : c.may.length < 1000000000000) (hs : Ints w ps c.sure) (hm : Ints w pm c.may) :
 Calls Tryz.prog 66 #[gridV g, cloudV ps cs pm cm c] w fun e w' => e = .returned (.int .i64 (cloudE g c)) ∧ St (bs w) [] w' := by
 refine enter (vs := [_,_]) (env := [(0,_), (1,_)]) Tryz.func66 rfl rfl rfl rfl ?_
 refine VC.q (VO.h rfl<|HO.box (C := #[_,_,_,_,_]) rfl rfl fun b1 => VO.h rfl<|HO.box (C := #[_,_,_,_,_,_,_]) rfl rfl fun b2 => VO.a rfl rfl<|VO.n<|VC.q (VO.l (LO.lda (vs := [_,_,_,_,_]) A23 (.r rfl) (cells_blk 1 rfl ⟨_, rfl⟩) rfl) rfl<|VO.l (LO.call (xs := [_]) (vs := [_]) C58 ⟨(.r rfl), trivial⟩ (fun w _ => rCheckGrid_c g w)) rfl<|VO.a rfl rfl<|VO.n<|VC.seq<|VC.q (VO.m rfl rfl<|VO.l (LO.eq (.r rfl) (.r rfl)) rfl<|VO.n<|VC.cond rfl (fun h0 => ?_) (fun h0 => ?_))))
 ·
  have hgo : gridOk g := gridOk_of (by simpa using h0)
  have har := area_bd hgo
  refine VC.reg (VO.f (r := 2) F107_2 rfl rfl rfl<|VO.l (LO.lda (vs := [_,_,_,_]) A105 (.r rfl) (cells_blk 0 rfl ⟨_, rfl⟩) rfl) rfl<|VO.l (LO.call (xs := [_]) (vs := [_]) C85 ⟨(.r rfl), trivial⟩ (fun w _ => rCheckFlow_c c.flow w)) rfl<|VO.a rfl rfl<|VO.n<|VC.seq<|VC.q (VO.m rfl rfl<|VO.u rfl rfl rfl<|VO.n<|VC.cond rfl (fun h1 => ?_) (fun h1 => ?_)))
  ·
   refine VC.q (VO.m rfl rfl<|VO.a rfl rfl<|VO.n<|VC.ret (VE.thenR (VE.s rfl rfl (fun w hw => ?_))))
   refine ⟨?_, hw.nil⟩
   simp only [resV]
   congr 2
   first | exact cE1 h0 | exact cE2 hgo h1 | exact cE3 hgo hfo (by simpa using h3) | exact cE4 hgo hfo h3' h4 | exact cE5 hgo hfo h3' h4 hz h5 (by simpa using h6) | exact cE6 hgo hfo h3' h4 hz h5 (by simpa using h6) h7 | exact cE7 hgo hfo h3' h4 hm0 hz h8 h9 | exact cE8 hgo hfo h3' h4 hm0 hz h8 h9 (by simpa using h10) | exact cE9 hgo hfo h3' h4 hm0 hz h8
  ·
   refine VC.skip (VE.seqN<|VC.seq<|VC.q (VO.f (r := 6) F107_3 rfl rfl rfl<|VO.c 0 O3 rfl rfl ⟨_, rfl⟩ rfl<|VO.l (LO.call (xs := [_,_,_]) (vs := [_,_,_]) C34 ⟨(.r rfl), (.r rfl), (.r rfl), trivial⟩ (fun w _ => In_c _ _ _ w)) rfl<|VO.l (LO.not (.r rfl)) rfl<|VO.n<|VC.cond rfl (fun h3 => ?_) (fun h3 => ?_)))
   ·
    refine VC.seq ?_
    have hfo : flowOk c.flow := flowOk_of h1
    refine VC.reg (VO.a rfl rfl<|VO.n<|VC.ret (VE.thenR (VE.s rfl rfl (fun w hw => ?_))))
    refine ⟨?_, hw.nil⟩
    simp only [resV]
    congr 2
    first | exact cE1 h0 | exact cE2 hgo h1 | exact cE3 hgo hfo (by simpa using h3) | exact cE4 hgo hfo h3' h4 | exact cE5 hgo hfo h3' h4 hz h5 (by simpa using h6) | exact cE6 hgo hfo h3' h4 hz h5 (by simpa using h6) h7 | exact cE7 hgo hfo h3' h4 hm0 hz h8 h9 | exact cE8 hgo hfo h3' h4 hm0 hz h8 h9 (by simpa using h10) | exact cE9 hgo hfo h3' h4 hm0 hz h8
   ·
    refine VC.skip (VE.seqN<|VC.seq<|VC.seq ?_)
    have hfo : flowOk c.flow := flowOk_of h1
    have h3 := (by simpa using h3 : 0 ≤ c.grow ∧ c.grow ≤ 10000)
    have h3' : ¬¬ (0 ≤ c.grow ∧ c.grow ≤ 10000) := fun q => q h3
    refine VC.reg (VO.f (r := 1) F107_1 rfl rfl rfl<|VO.c 0 O72 rfl rfl ⟨_, rfl⟩ rfl<|VO.l (LO.len S72 (.r rfl) rfl) rfl<|VO.l (LO.eq (.r rfl) (.r rfl)) rfl<|VO.n<|VC.cond rfl (fun h4 => ?_) (fun h4 => ?_))
    ·
     refine VC.q (VO.a rfl rfl<|VO.n<|VC.ret (VE.thenR (VE.s rfl rfl (fun w hw => ?_))))
     refine ⟨?_, hw.nil⟩
     simp only [resV]
     congr 2
     first | exact cE1 h0 | exact cE2 hgo h1 | exact cE3 hgo hfo (by simpa using h3) | exact cE4 hgo hfo h3' h4 | exact cE5 hgo hfo h3' h4 hz h5 (by simpa using h6) | exact cE6 hgo hfo h3' h4 hz h5 (by simpa using h6) h7 | exact cE7 hgo hfo h3' h4 hm0 hz h8 h9 | exact cE8 hgo hfo h3' h4 hm0 hz h8 h9 (by simpa using h10) | exact cE9 hgo hfo h3' h4 hm0 hz h8
    ·
     refine VC.skip (VE.seqN<|VC.seq<|VC.q (VO.a rfl rfl<|VO.n<|VC.block<|VC.loopK (α := Nat) 0 (fun gx => [(6, .int .i64 (gx : Nat))]) [(2,_), (3,_)] (fun gx => []) (fun gx => gx ≤ c.may.length ∧ ∀ k, k < gx → mayE g c.may k = 0) (fun gx => c.may.length - gx) 0 (by exact ⟨by omega, fun k hk => by omega⟩) (.cons rfl (.cons rfl (.cons rfl .nil))) (fun _ h => h) ?_))
     rintro j ⟨hj, hz⟩
     refine VC.seq<|VC.q (VO.m rfl rfl<|VO.f (r := 1) F107_1 rfl rfl rfl<|VO.c 0 O72 rfl rfl ⟨_, rfl⟩ rfl<|VO.l (LO.len S72 (.r rfl) rfl) rfl<|VO.t rfl rfl rfl<|VO.n<|VC.cond rfl (fun h5 => ?_) (fun h5 => ?_))
     ·
      refine VC.skip (VE.seqN<|VC.seq<|VC.block<|VC.seq<|VC.seq<|VC.draw mixed (LL.l (LO.fa (r := 1) F107_1 (.r rfl) rfl) rfl<|LL.l (LO.ld O72 (.r rfl) (cells_blk 0 rfl ⟨_, rfl⟩)) rfl<|LL.m rfl rfl<|LL.l (LO.ixs S72 N3 hm.some (.r rfl) (.r rfl) rfl (by omega)) rfl<|LL.l (LO.ld O3 (.r rfl) (hm.at (j := j) (by omega))) rfl<|LL.l (LO.fa (r := 3) F23_3 (.r rfl) rfl) rfl<|LL.l (LO.ld O3 (.r rfl) (cells_blk 1 rfl ⟨_, rfl⟩)) rfl<|LL.l (LO.fa (r := 4) F23_4 (.r rfl) rfl) rfl<|LL.l (LO.ld O3 (.r rfl) (cells_blk 1 rfl ⟨_, rfl⟩)) rfl<|LL.l (LO.mul (.r rfl) (.r rfl) (wi (by omega) (by omega))) rfl<|LL.l (LO.sub (.r rfl) (.r rfl) (wi (by omega) (by omega))) rfl<|LL.l (LO.call (xs := [_,_,_]) (vs := [_,_,_]) C34 ⟨(.r rfl), (.r rfl), (.r rfl), trivial⟩ (fun w _ => In_c _ _ _ w)) rfl<|LL.l (LO.not (.r rfl)) rfl<|LL.nil) (by kernel_rfl)<|VE.seqN<|VC.cond rfl (fun h6 => ?_) (fun h6 => ?_))
      ·
       refine VC.q (VO.a rfl rfl<|VO.n<|VC.ret (VE.thenR (VE.inR (VE.thenR (VE.thenR (VE.inR (VE.thenR (VE.s rfl rfl (fun w hw => ?_)))))))))
       refine ⟨?_, hw.nil⟩
       simp only [resV]
       congr 2
       first | exact cE1 h0 | exact cE2 hgo h1 | exact cE3 hgo hfo (by simpa using h3) | exact cE4 hgo hfo h3' h4 | exact cE5 hgo hfo h3' h4 hz h5 (by simpa using h6) | exact cE6 hgo hfo h3' h4 hz h5 (by simpa using h6) h7 | exact cE7 hgo hfo h3' h4 hm0 hz h8 h9 | exact cE8 hgo hfo h3' h4 hm0 hz h8 h9 (by simpa using h10) | exact cE9 hgo hfo h3' h4 hm0 hz h8
      ·
       refine VC.skip (VE.seqN<|VC.seq<|VC.draw mixed (LL.m rfl rfl<|LL.l (LO.gt (.r rfl) (.r rfl)) rfl<|LL.m rfl rfl<|LL.gt rfl rfl (fun hg => LO.fa (r := 1) F107_1 (.r rfl) rfl) rfl<|LL.gt rfl rfl (fun hg => LO.ld O72 (.g hg rfl) (cells_blk 0 rfl ⟨_, rfl⟩)) rfl<|LL.gt rfl rfl (fun hg => LO.mv (.r rfl)) rfl<|LL.gt rfl rfl (fun hg => LO.ixs S72 N3 hm.some (.g hg rfl) (.g hg rfl) rfl (by omega)) rfl<|LL.gt rfl rfl (fun hg => LO.ld O3 (.g hg rfl) (hm.at (j := j) (by omega))) rfl<|LL.gt rfl rfl (fun hg => LO.fa (r := 1) F107_1 (.r rfl) rfl) rfl<|LL.gt rfl rfl (fun hg => LO.ld O72 (.g hg rfl) (cells_blk 0 rfl ⟨_, rfl⟩)) rfl<|LL.gt rfl rfl (fun hg => LO.mv (.r rfl)) rfl<|LL.gt rfl rfl (fun hg => LO.sub (.g hg rfl) (.r rfl) (wi (by omega) (by omega))) rfl<|LL.gt rfl rfl (fun hg => LO.ixs S72 N3 hm.some (.g hg rfl) (.g hg rfl) (by have := of_decide_eq_true hg; omega) (by omega)) rfl<|LL.gt rfl rfl (fun hg => LO.ld O3 (.g hg rfl) (hm.at (j := (j - 1)) (by omega))) rfl<|LL.gt rfl rfl (fun hg => LO.le (.g hg rfl) (.g hg rfl)) rfl<|LL.l (LO.pkA (.r rfl) rfl rfl (.r rfl)) rfl<|LL.nil) (by kernel_rfl)<|VE.seqN<|VC.cond rfl (fun h7 => ?_) (fun h7 => ?_))
       ·
        refine VC.q (VO.a rfl rfl<|VO.n<|VC.ret (VE.inR (VE.thenR (VE.thenR (VE.inR (VE.thenR (VE.s rfl rfl (fun w hw => ?_))))))))
        refine ⟨?_, hw.nil⟩
        simp only [resV]
        congr 2
        first | exact cE1 h0 | exact cE2 hgo h1 | exact cE3 hgo hfo (by simpa using h3) | exact cE4 hgo hfo h3' h4 | exact cE5 hgo hfo h3' h4 hz h5 (by simpa using h6) | exact cE6 hgo hfo h3' h4 hz h5 (by simpa using h6) h7 | exact cE7 hgo hfo h3' h4 hm0 hz h8 h9 | exact cE8 hgo hfo h3' h4 hm0 hz h8 h9 (by simpa using h10) | exact cE9 hgo hfo h3' h4 hm0 hz h8
       ·
        refine VC.skip (VE.inN (VE.seqN<|VC.reg (VO.m rfl rfl<|VO.p rfl rfl (by omega) (by omega) rfl<|VO.a rfl rfl<|VO.nil<|VE.thenN fun a w ha hw => ⟨j + 1, ⟨by omega, step_zero hz (mayE_zero (by simpa using h6) h7)⟩, (by omega), ha.sub (.cons rfl (.cons rfl (.cons rfl .nil))), hw⟩)))
     ·
      refine VC.exit (VE.thenX (VE.thenX (VE.inX (VE.seqN<|VC.seq<|VC.q (VO.a rfl rfl<|VO.n<|VC.block ?_)))))
      have hm0 : firstE (mayE g c.may) c.may.length = 0 := firstE_zero (fun k hk => hz k (by omega))
      clear hz hj
      refine VC.loopK (α := Nat) 0 (fun gx => [(7, .int .i64 (gx : Nat))]) [(3,_)] (fun gx => []) (fun gx => gx ≤ c.sure.length ∧ ∀ k, k < gx → sureE c.may c.sure k = 0) (fun gx => c.sure.length - gx) 0 (by exact ⟨by omega, fun k hk => by omega⟩) (.cons rfl (.cons rfl .nil)) (fun _ h => h) ?_
      rintro j ⟨hj, hz⟩
      refine VC.seq<|VC.q (VO.m rfl rfl<|VO.f (r := 0) F107_0 rfl rfl rfl<|VO.c 0 O72 rfl rfl ⟨_, rfl⟩ rfl<|VO.l (LO.len S72 (.r rfl) rfl) rfl<|VO.t rfl rfl rfl<|VO.n<|VC.cond rfl (fun h8 => ?_) (fun h8 => ?_))
      ·
       refine VC.skip (VE.seqN<|VC.seq<|VC.block<|VC.seq<|VC.seq<|VC.draw mixed (LL.m rfl rfl<|LL.l (LO.gt (.r rfl) (.r rfl)) rfl<|LL.m rfl rfl<|LL.gt rfl rfl (fun hg => LO.fa (r := 0) F107_0 (.r rfl) rfl) rfl<|LL.gt rfl rfl (fun hg => LO.ld O72 (.g hg rfl) (cells_blk 0 rfl ⟨_, rfl⟩)) rfl<|LL.gt rfl rfl (fun hg => LO.mv (.r rfl)) rfl<|LL.gt rfl rfl (fun hg => LO.ixs S72 N3 hs.some (.g hg rfl) (.g hg rfl) rfl (by omega)) rfl<|LL.gt rfl rfl (fun hg => LO.ld O3 (.g hg rfl) (hs.at (j := j) (by omega))) rfl<|LL.gt rfl rfl (fun hg => LO.fa (r := 0) F107_0 (.r rfl) rfl) rfl<|LL.gt rfl rfl (fun hg => LO.ld O72 (.g hg rfl) (cells_blk 0 rfl ⟨_, rfl⟩)) rfl<|LL.gt rfl rfl (fun hg => LO.mv (.r rfl)) rfl<|LL.gt rfl rfl (fun hg => LO.sub (.g hg rfl) (.r rfl) (wi (by omega) (by omega))) rfl<|LL.gt rfl rfl (fun hg => LO.ixs S72 N3 hs.some (.g hg rfl) (.g hg rfl) (by have := of_decide_eq_true hg; omega) (by omega)) rfl<|LL.gt rfl rfl (fun hg => LO.ld O3 (.g hg rfl) (hs.at (j := (j - 1)) (by omega))) rfl<|LL.gt rfl rfl (fun hg => LO.le (.g hg rfl) (.g hg rfl)) rfl<|LL.l (LO.pkA (.r rfl) rfl rfl (.r rfl)) rfl<|LL.nil) (by kernel_rfl)<|VE.seqN<|VC.cond rfl (fun h9 => ?_) (fun h9 => ?_))
       ·
        refine VC.q (VO.a rfl rfl<|VO.n<|VC.ret (VE.thenR (VE.inR (VE.thenR (VE.thenR (VE.inR (VE.thenR (VE.s rfl rfl (fun w hw => ?_)))))))))
        refine ⟨?_, hw.nil⟩
        simp only [resV]
        congr 2
        first | exact cE1 h0 | exact cE2 hgo h1 | exact cE3 hgo hfo (by simpa using h3) | exact cE4 hgo hfo h3' h4 | exact cE5 hgo hfo h3' h4 hz h5 (by simpa using h6) | exact cE6 hgo hfo h3' h4 hz h5 (by simpa using h6) h7 | exact cE7 hgo hfo h3' h4 hm0 hz h8 h9 | exact cE8 hgo hfo h3' h4 hm0 hz h8 h9 (by simpa using h10) | exact cE9 hgo hfo h3' h4 hm0 hz h8
       ·
        refine VC.skip (VE.seqN<|VC.seq<|VC.draw mixed (LL.l (LO.fa (r := 1) F107_1 (.r rfl) rfl) rfl<|LL.l (LO.ld O72 (.r rfl) (cells_blk 0 rfl ⟨_, rfl⟩)) rfl<|LL.l (LO.fa (r := 0) F107_0 (.r rfl) rfl) rfl<|LL.l (LO.ld O72 (.r rfl) (cells_blk 0 rfl ⟨_, rfl⟩)) rfl<|LL.m rfl rfl<|LL.l (LO.ixs S72 N3 hs.some (.r rfl) (.r rfl) rfl (by omega)) rfl<|LL.l (LO.ld O3 (.r rfl) (hs.at (j := j) (by omega))) rfl<|LL.l (LO.call (xs := [_,_]) (vs := [_,_]) C86 ⟨(.r rfl), (.r rfl), trivial⟩ (fun w hw => rhas_c pm c.may _ cm w hnm (hm.keep w hw))) rfl<|LL.l (LO.not (.r rfl)) rfl<|LL.nil) (by kernel_rfl)<|VE.seqN<|VC.cond rfl (fun h10 => ?_) (fun h10 => ?_))
        ·
         refine VC.q (VO.a rfl rfl<|VO.n<|VC.ret (VE.inR (VE.thenR (VE.thenR (VE.inR (VE.thenR (VE.s rfl rfl (fun w hw => ?_))))))))
         refine ⟨?_, hw.nil⟩
         simp only [resV]
         congr 2
         first | exact cE1 h0 | exact cE2 hgo h1 | exact cE3 hgo hfo (by simpa using h3) | exact cE4 hgo hfo h3' h4 | exact cE5 hgo hfo h3' h4 hz h5 (by simpa using h6) | exact cE6 hgo hfo h3' h4 hz h5 (by simpa using h6) h7 | exact cE7 hgo hfo h3' h4 hm0 hz h8 h9 | exact cE8 hgo hfo h3' h4 hm0 hz h8 h9 (by simpa using h10) | exact cE9 hgo hfo h3' h4 hm0 hz h8
        ·
         refine VC.skip (VE.inN (VE.seqN<|VC.reg (VO.m rfl rfl<|VO.p rfl rfl (by omega) (by omega) rfl<|VO.a rfl rfl<|VO.nil<|VE.thenN fun a w ha hw => ⟨j + 1, ⟨by omega, step_zero hz (sureE_zero h9 (by simpa using h10))⟩, (by omega), ha.sub (.cons rfl (.cons rfl .nil)), hw⟩)))
      ·
       refine VC.exit (VE.thenX (VE.thenX (VE.inX (VE.seqN<|VC.q (VO.a rfl rfl<|VO.n<|VC.ret (VE.s rfl rfl (fun w hw => ?_)))))))
       refine ⟨?_, hw.nil⟩
       simp only [resV]
       congr 2
       first | exact cE1 h0 | exact cE2 hgo h1 | exact cE3 hgo hfo (by simpa using h3) | exact cE4 hgo hfo h3' h4 | exact cE5 hgo hfo h3' h4 hz h5 (by simpa using h6) | exact cE6 hgo hfo h3' h4 hz h5 (by simpa using h6) h7 | exact cE7 hgo hfo h3' h4 hm0 hz h8 h9 | exact cE8 hgo hfo h3' h4 hm0 hz h8 h9 (by simpa using h10) | exact cE9 hgo hfo h3' h4 hm0 hz h8
 ·
  refine VC.skip (VE.seqN<|VC.seq<|VC.q (VO.m rfl rfl<|VO.u rfl rfl rfl<|VO.n<|VC.cond rfl (fun h1 => ?_) (fun h1 => ?_)))
  ·
   refine VC.q (VO.m rfl rfl<|VO.a rfl rfl<|VO.n<|VC.ret (VE.thenR (VE.s rfl rfl (fun w hw => ?_))))
   refine ⟨?_, hw.nil⟩
   simp only [resV]
   congr 2
   first | exact cE1 h0 | exact cE2 hgo h1 | exact cE3 hgo hfo (by simpa using h3) | exact cE4 hgo hfo h3' h4 | exact cE5 hgo hfo h3' h4 hz h5 (by simpa using h6) | exact cE6 hgo hfo h3' h4 hz h5 (by simpa using h6) h7 | exact cE7 hgo hfo h3' h4 hm0 hz h8 h9 | exact cE8 hgo hfo h3' h4 hm0 hz h8 h9 (by simpa using h10) | exact cE9 hgo hfo h3' h4 hm0 hz h8
  · (exfalso; omega)
theorem C87 : IsFn Tryz.prog 87 := ⟨_, Tryz.func87, by decide, rfl⟩
def leadB (b lo hi grow t : Int) : Bool := decide ((lo - grow) * t - 1000000 < b * 1000000) && decide (b * 1000000 < (hi + grow) * t + 1000000)
def far (t : Int) : Int := 110000 * t / 1000000 + 2
theorem far_bd {t : Int} (h1 : 0 ≤ t) (h2 : t ≤ 7200) : 2 ≤ far t ∧ far t ≤ 1000 := by unfold far; omega
theorem lead_iff {b lo hi grow t : Int} : leadB b lo hi grow t = true ↔ comeLo lo grow t ≤ b ∧ b ≤ comeHi hi grow t := by
  unfold leadB comeLo comeHi
  simp only [Bool.and_eq_true, decide_eq_true_eq]
  generalize (lo - grow) * t = x
  generalize (hi + grow) * t = y
  omega
def inG (g : Grid) (x y : Int) : Bool := (decide (0 ≤ x) && decide (x ≤ g.wide - 1)) && (decide (0 ≤ y) && decide (y ≤ g.high - 1))
def okA (g : Grid) (c : Cloud) (p v u : Int) : Bool := inG g (p.tmod g.wide - u) (p.tdiv g.wide - v) && memB c.sure ((p.tdiv g.wide - v) * g.wide + (p.tmod g.wide - u))
def okM (g : Grid) (c : Cloud) (p v u : Int) : Bool := inG g (p.tmod g.wide - u) (p.tdiv g.wide - v) && memB c.may ((p.tdiv g.wide - v) * g.wide + (p.tmod g.wide - u))
def allRow (g : Grid) (c : Cloud) (p t v u1 : Int) : Prop := ∀ u, -far t ≤ u → u < u1 → leadB u c.flow.a c.flow.b c.grow t = true → okA g c p v u = true
def anyRow (g : Grid) (c : Cloud) (p t v u1 : Int) : Prop := ∃ u, -far t ≤ u ∧ u < u1 ∧ leadB u c.flow.a c.flow.b c.grow t = true ∧ okM g c p v u = true
def allTo (g : Grid) (c : Cloud) (p t v1 : Int) : Prop := ∀ v, -far t ≤ v → v < v1 → leadB v c.flow.c c.flow.d c.grow t = true → allRow g c p t v (far t + 1)
def anyTo (g : Grid) (c : Cloud) (p t v1 : Int) : Prop := ∃ v, -far t ≤ v ∧ v < v1 ∧ leadB v c.flow.c c.flow.d c.grow t = true ∧ anyRow g c p t v (far t + 1)
def StI (a : Bool) (m : Int) (A M : Prop) : Prop := (a = true ↔ A) ∧ ((m = 1 ∧ M) ∨ (m = 0 ∧ ¬ M))
theorem StI.cg {a : Bool} {m : Int} {A M A' M' : Prop} (h : StI a m A M) (hA : A ↔ A') (hM : M ↔ M') : StI a m A' M' := by
  have e1 : A = A' := propext hA
  have e2 : M = M' := propext hM
  rw [← e1, ← e2]; exact h
section
variable {g : Grid} {c : Cloud} {p t v u : Int} {a b a' : Bool} {m n m' : Int}
theorem to_zero : StI true 0 (allTo g c p t (-far t)) (anyTo g c p t (-far t)) :=
  ⟨⟨fun _ v h1 h2 => by omega, fun _ => rfl⟩, .inr ⟨rfl, fun ⟨v, h1, h2,_⟩ => by omega⟩⟩
theorem to_skip (hv : -far t ≤ v) (h : leadB v c.flow.c c.flow.d c.grow t = false) (hI : StI a m (allTo g c p t v) (anyTo g c p t v)) : StI a m (allTo g c p t (v + 1)) (anyTo g c p t (v + 1)) := by
  refine hI.cg ⟨fun k w h1 h2 h3 => ?_, fun k w h1 h2 h3 => k w h1 (by omega) h3⟩ ⟨fun ⟨w, h1, h2, h3⟩ => ⟨w, h1, by omega, h3⟩, fun ⟨w, h1, h2, h3, h4⟩ => ?_⟩
  · rcases Int.lt_or_eq_of_le (show w ≤ v by omega) with e | e
    · exact k w h1 e h3
    · subst e; rw [h] at h3; cases h3
  · rcases Int.lt_or_eq_of_le (show w ≤ v by omega) with e | e
    · exact ⟨w, h1, e, h3, h4⟩
    · subst e; rw [h] at h3; cases h3
theorem to_next (hv : -far t ≤ v) (h : leadB v c.flow.c c.flow.d c.grow t = true) (hu : u = far t + 1) (hI : StI a m (allTo g c p t v ∧ allRow g c p t v u) (anyTo g c p t v ∨ anyRow g c p t v u)) : StI a m (allTo g c p t (v + 1)) (anyTo g c p t (v + 1)) := by
  subst hu
  refine hI.cg ⟨fun k w h1 h2 h3 => ?_, fun k => ⟨fun w h1 h2 h3 => k w h1 (by omega) h3, k v hv (by omega) h⟩⟩ ⟨?_, fun ⟨w, h1, h2, h3, h4⟩ => ?_⟩
  · rcases Int.lt_or_eq_of_le (show w ≤ v by omega) with e | e
    · exact k.1 w h1 e h3
    · subst e; exact k.2
  · rintro (⟨w, h1, h2, h3⟩ | k)
    · exact ⟨w, h1, by omega, h3⟩
    · exact ⟨v, hv, by omega, h, k⟩
  · rcases Int.lt_or_eq_of_le (show w ≤ v by omega) with e | e
    · exact .inl ⟨w, h1, e, h3, h4⟩
    · subst e; exact .inr h4
theorem row_zero (hI : StI a m (allTo g c p t v) (anyTo g c p t v)) : StI a m (allTo g c p t v ∧ allRow g c p t v (-far t)) (anyTo g c p t v ∨ anyRow g c p t v (-far t)) :=
  hI.cg ⟨fun k => ⟨k, fun u h1 h2 => by omega⟩, fun k => k.1⟩ ⟨.inl, fun k => k.elim id fun ⟨u, h1, h2,_⟩ => by omega⟩
theorem row_step (hu : -far t ≤ u) (hI : StI b n (allTo g c p t v ∧ allRow g c p t v u) (anyTo g c p t v ∨ anyRow g c p t v u)) (ha : a' = (b && (!leadB u c.flow.a c.flow.b c.grow t || okA g c p v u))) (hm : m' = if leadB u c.flow.a c.flow.b c.grow t && okM g c p v u then 1 else n) :
    StI a' m' (allTo g c p t v ∧ allRow g c p t v (u + 1)) (anyTo g c p t v ∨ anyRow g c p t v (u + 1)) := by
  have e1 : allRow g c p t v (u + 1) ↔ allRow g c p t v u ∧ (leadB u c.flow.a c.flow.b c.grow t = true → okA g c p v u = true) := by
    refine ⟨fun k => ⟨fun w h1 h2 => k w h1 (by omega), k u hu (by omega)⟩, fun k w h1 h2 h3 => ?_⟩
    rcases Int.lt_or_eq_of_le (show w ≤ u by omega) with e | e
    · exact k.1 w h1 e h3
    · subst e; exact k.2 h3
  have e2 : anyRow g c p t v (u + 1) ↔ anyRow g c p t v u ∨ (leadB u c.flow.a c.flow.b c.grow t = true ∧ okM g c p v u = true) := by
    refine ⟨fun ⟨w, h1, h2, h3⟩ => ?_, fun k => k.elim (fun ⟨w, h1, h2, h3⟩ => ⟨w, h1, by omega, h3⟩) fun k => ⟨u, hu, by omega, k⟩⟩
    rcases Int.lt_or_eq_of_le (show w ≤ u by omega) with e | e
    · exact .inl ⟨w, h1, e, h3⟩
    · subst e; exact .inr h3
  obtain ⟨i1, i2⟩ := hI
  subst ha; subst hm
  constructor
  · rw [e1, ← and_assoc, ← i1]
    cases b <;> cases leadB u c.flow.a c.flow.b c.grow t <;> cases okA g c p v u <;> simp
  · rw [e2, ← or_assoc]
    by_cases q : (leadB u c.flow.a c.flow.b c.grow t && okM g c p v u) = true
    · rw [if_pos q]; exact .inl ⟨rfl, .inr (by simpa using q)⟩
    · rw [if_neg q]
      have q' : ¬ (leadB u c.flow.a c.flow.b c.grow t = true ∧ okM g c p v u = true) := by simpa using q
      rcases i2 with ⟨h1, h2⟩ | ⟨h1, h2⟩
      · exact .inl ⟨h1, .inl h2⟩
      · exact .inr ⟨h1, fun k => k.elim h2 q'⟩
theorem inG_of {x y : Int} (h : ¬ (¬ (0 ≤ x ∧ x ≤ g.wide - 1) ∨ ¬ (0 ≤ y ∧ y ≤ g.high - 1))) : (0 ≤ x ∧ x ≤ g.wide - 1) ∧ (0 ≤ y ∧ y ≤ g.high - 1) := by omega
theorem inG_no {x y : Int} (h : ¬ (0 ≤ x ∧ x ≤ g.wide - 1) ∨ ¬ (0 ≤ y ∧ y ≤ g.high - 1)) : inG g x y = false := by
  cases q : inG g x y with
  | false => rfl
  | true => unfold inG at q; simp only [Bool.and_eq_true, decide_eq_true_eq] at q; omega
theorem inG_yes {x y : Int} (h : ¬ (¬ (0 ≤ x ∧ x ≤ g.wide - 1) ∨ ¬ (0 ≤ y ∧ y ≤ g.high - 1))) : inG g x y = true := by
  unfold inG; simp only [Bool.and_eq_true, decide_eq_true_eq]; omega
theorem mem_srcs {q : Int} : q ∈ srcs g c p t ↔ (sout g c p t = true ∧ q = -1) ∨ ∃ x y, (sx0 g c p t ≤ x ∧ x ≤ sx1 g c p t) ∧ (sy0 g c p t ≤ y ∧ y ≤ sy1 g c p t) ∧ q = y * g.wide + x := by
  unfold srcs
  rw [List.mem_append, List.mem_map]
  refine or_congr (by cases sout g c p t <;> simp) ⟨?_, ?_⟩
  · rintro ⟨k, hk, rfl⟩
    rw [List.mem_range] at hk
    have hx : 0 < snx g c p t := by
      rcases Nat.eq_zero_or_pos (snx g c p t) with e | e
      · rw [e] at hk; omega
      · exact e
    have h1 := Nat.mod_lt k hx
    have h2 : k / snx g c p t < sny g c p t := Nat.div_lt_of_lt_mul (by rw [Nat.mul_comm]; exact hk)
    generalize k / snx g c p t = z at h2 ⊢
    generalize k % snx g c p t = y at h1 ⊢
    unfold snx at h1
    unfold sny at h2
    exact ⟨_,_, ⟨by omega, by omega⟩, ⟨by omega, by omega⟩, rfl⟩
  · rintro ⟨x, y, hx, hy, rfl⟩
    have h1 : (x - sx0 g c p t).toNat < snx g c p t := by unfold snx; omega
    have h2 : (y - sy0 g c p t).toNat < sny g c p t := by unfold sny; omega
    refine ⟨(y - sy0 g c p t).toNat * snx g c p t + (x - sx0 g c p t).toNat, ?_, ?_⟩
    · rw [List.mem_range]
      have : ((y - sy0 g c p t).toNat + 1) * snx g c p t ≤ sny g c p t * snx g c p t := Nat.mul_le_mul_right _ h2
      rw [Nat.add_mul] at this; omega
    · rw [Nat.mul_comm, Nat.mul_add_div (by omega), Nat.div_eq_of_lt h1, Nat.mul_add_mod, Nat.mod_eq_of_lt h1]
      have e1 : sy0 g c p t + (((y - sy0 g c p t).toNat + 0 : Nat) : Int) = y := by omega
      have e2 : sx0 g c p t + ((x - sx0 g c p t).toNat : Int) = x := by omega
      rw [e1, e2]
theorem come_far {f : Int} (h1 : -100000 ≤ f) (h2 : f ≤ 100000) (hr1 : 0 ≤ c.grow) (hr2 : c.grow ≤ 10000) (ht : 0 ≤ t) : -far t ≤ comeLo f c.grow t ∧ comeHi f c.grow t ≤ far t := by
  have a1 : -110000 * t ≤ (f - c.grow) * t := Int.mul_le_mul_of_nonneg_right (by omega) ht
  have a2 : (f + c.grow) * t ≤ 110000 * t := Int.mul_le_mul_of_nonneg_right (by omega) ht
  unfold far comeLo comeHi; omega
theorem come_le {lo hi : Int} (h : lo ≤ hi) (hr1 : 0 ≤ c.grow) (ht : 0 ≤ t) : comeLo lo c.grow t ≤ comeHi hi c.grow t := by
  have a1 : (lo - c.grow) * t ≤ (hi + c.grow) * t := Int.mul_le_mul_of_nonneg_right (by omega) ht
  unfold comeLo comeHi; omega
theorem all_iff (hf : flowOk c.flow) (hr1 : 0 ≤ c.grow) (hr2 : c.grow ≤ 10000) (ht : 0 ≤ t) (hs1 : memB c.sure (-1) = false) : allTo g c p t (far t + 1) ↔ (srcs g c p t).all (memB c.sure) = true := by
  obtain ⟨⟨hfa, hfb, hfc⟩, hfd, hfe, hff⟩ := hf
  have b1 := come_far (f := c.flow.a) (c := c) (by omega) (by omega) hr1 hr2 ht
  have b2 := come_far (f := c.flow.b) (c := c) (by omega) (by omega) hr1 hr2 ht
  have b3 := come_far (f := c.flow.c) (c := c) (by omega) (by omega) hr1 hr2 ht
  have b4 := come_far (f := c.flow.d) (c := c) (by omega) (by omega) hr1 hr2 ht
  have l1 := come_le (c := c) hfb hr1 ht
  have l2 := come_le (c := c) hfe hr1 ht
  rw [List.all_eq_true]
  constructor
  · intro k q hq
    have k' : ∀ v u, comeLo c.flow.c c.grow t ≤ v → v ≤ comeHi c.flow.d c.grow t → comeLo c.flow.a c.grow t ≤ u → u ≤ comeHi c.flow.b c.grow t → okA g c p v u = true := fun v u h1 h2 h3 h4 => k v (by omega) (by omega) (lead_iff.2 ⟨h1, h2⟩) u (by omega) (by omega) (lead_iff.2 ⟨h3, h4⟩)
    rcases mem_srcs.1 hq with ⟨ho, rfl⟩ | ⟨x, y, hx, hy, rfl⟩
    · exfalso
      have q1 := k' (comeLo c.flow.c c.grow t) (comeLo c.flow.a c.grow t) (by omega) (by omega) (by omega) (by omega)
      have q2 := k' (comeHi c.flow.d c.grow t) (comeHi c.flow.b c.grow t) (by omega) (by omega) (by omega) (by omega)
      unfold okA inG at q1 q2
      unfold sout at ho
      simp only [Bool.and_eq_true, Bool.or_eq_true, decide_eq_true_eq] at q1 q2 ho
      omega
    · have := k' (p.tdiv g.wide - y) (p.tmod g.wide - x) (by unfold sy1 at hy; omega) (by unfold sy0 at hy; omega) (by unfold sx1 at hx; omega) (by unfold sx0 at hx; omega)
      unfold okA at this
      rw [Bool.and_eq_true, show p.tdiv g.wide - (p.tdiv g.wide - y) = y by omega, show p.tmod g.wide - (p.tmod g.wide - x) = x by omega] at this
      exact this.2
  · intro k v h1 h2 h3 u h4 h5 h6
    have h3 := lead_iff.1 h3
    have h6 := lead_iff.1 h6
    have ho : sout g c p t = false := by
      cases hq : sout g c p t with
      | false => rfl
      | true => have := k (-1) (mem_srcs.2 (.inl ⟨hq, rfl⟩)); rw [hs1] at this; cases this
    unfold sout at ho
    simp only [Bool.or_eq_false_iff, decide_eq_false_iff_not] at ho
    have := k _ (mem_srcs.2 (.inr ⟨p.tmod g.wide - u, p.tdiv g.wide - v, by unfold sx0 sx1; omega, by unfold sy0 sy1; omega, rfl⟩))
    unfold okA inG
    rw [this]
    simp only [Bool.and_eq_true, decide_eq_true_eq, and_true]
    omega
theorem any_iff (hf : flowOk c.flow) (hr1 : 0 ≤ c.grow) (hr2 : c.grow ≤ 10000) (ht : 0 ≤ t) (hm1 : memB c.may (-1) = false) : anyTo g c p t (far t + 1) ↔ (srcs g c p t).any (memB c.may) = true := by
  obtain ⟨⟨hfa, hfb, hfc⟩, hfd, hfe, hff⟩ := hf
  have b1 := come_far (f := c.flow.a) (c := c) (by omega) (by omega) hr1 hr2 ht
  have b2 := come_far (f := c.flow.b) (c := c) (by omega) (by omega) hr1 hr2 ht
  have b3 := come_far (f := c.flow.c) (c := c) (by omega) (by omega) hr1 hr2 ht
  have b4 := come_far (f := c.flow.d) (c := c) (by omega) (by omega) hr1 hr2 ht
  rw [List.any_eq_true]
  constructor
  · rintro ⟨v, h1, h2, h3, u, h4, h5, h6, h7⟩
    have h3 := lead_iff.1 h3
    have h6 := lead_iff.1 h6
    unfold okM inG at h7
    simp only [Bool.and_eq_true, decide_eq_true_eq] at h7
    exact ⟨_, mem_srcs.2 (.inr ⟨p.tmod g.wide - u, p.tdiv g.wide - v, by unfold sx0 sx1; omega, by unfold sy0 sy1; omega, rfl⟩), h7.2⟩
  · rintro ⟨q, hq, hb⟩
    rcases mem_srcs.1 hq with ⟨ho, rfl⟩ | ⟨x, y, hx, hy, rfl⟩
    · rw [hm1] at hb; cases hb
    · unfold sx0 sx1 at hx
      unfold sy0 sy1 at hy
      refine ⟨p.tdiv g.wide - y, by omega, by omega, lead_iff.2 ⟨by omega, by omega⟩, p.tmod g.wide - x, by omega, by omega, lead_iff.2 ⟨by omega, by omega⟩, ?_⟩
      unfold okM inG
      rw [show p.tdiv g.wide - (p.tdiv g.wide - y) = y by omega, show p.tmod g.wide - (p.tmod g.wide - x) = x by omega, hb]
      simp only [Bool.and_eq_true, decide_eq_true_eq, and_true]
      omega
theorem fin_t (hg : gridOk g) (hf : flowOk c.flow) (hr1 : 0 ≤ c.grow) (hr2 : c.grow ≤ 10000) (ht : 0 ≤ t) (hp : 0 ≤ p) (hs1 : memB c.sure (-1) = false) (hm1 : memB c.may (-1) = false) (hv : v = far t + 1) (h8 : a = true) (hI : StI a m (allTo g c p t v) (anyTo g c p t v)) : 2 = stateOf g c p t := by
  subst hv
  unfold stateOf
  rw [if_pos ((all_iff hf hr1 hr2 ht hs1).1 (hI.1.1 h8))]
theorem fin_f (hg : gridOk g) (hf : flowOk c.flow) (hr1 : 0 ≤ c.grow) (hr2 : c.grow ≤ 10000) (ht : 0 ≤ t) (hp : 0 ≤ p) (hs1 : memB c.sure (-1) = false) (hm1 : memB c.may (-1) = false) (hv : v = far t + 1) (h8 : ¬ a = true) (hI : StI a m (allTo g c p t v) (anyTo g c p t v)) : m = stateOf g c p t := by
  subst hv
  unfold stateOf
  rw [if_neg (fun q => h8 (hI.1.2 ((all_iff hf hr1 hr2 ht hs1).2 q)))]
  rcases hI.2 with ⟨h1, h2⟩ | ⟨h1, h2⟩
  · rw [if_pos ((any_iff hf hr1 hr2 ht hm1).1 h2)]; exact h1
  · rw [if_neg (fun q => h2 ((any_iff hf hr1 hr2 ht hm1).2 q))]; exact h1
end
theorem leads_c (b lo hi grow t : Int) (w : World) (hb1 : -2000 ≤ b) (hb2 : b ≤ 2000) (h1 : -100000 ≤ lo) (h2 : lo ≤ 100000) (h3 : -100000 ≤ hi) (h4 : hi ≤ 100000) (h5 : 0 ≤ grow) (h6 : grow ≤ 10000) (h7 : 0 ≤ t) (h8 : t ≤ 7200) :
 Calls Tryz.prog 87 #[.int .i64 b, .agg #[.int .i64 lo, .int .i64 hi], .int .i64 grow, .int .i64 t] w fun e w' => e = .returned (.bool (leadB b lo hi grow t)) ∧ St (bs w) [] w' := by
 have m1 := mul_bd (a := lo - grow) (t := t) (by omega) (by omega) h7 h8
 have m2 := mul_bd (a := hi + grow) (t := t) (by omega) (by omega) h7 h8
 refine enter (vs := [_,_,_,_]) (env := [(0,_), (1,_), (2,_), (3,_)]) Tryz.func87 rfl rfl rfl rfl ?_
 refine VC.q (VO.h rfl<|HO.box (C := #[_,_]) rfl rfl fun b1 => VO.a rfl rfl<|VO.n<|VC.q (VO.m rfl rfl<|VO.l (LO.mul (.r rfl) (.r rfl) (wi (by omega) (by omega))) rfl<|VO.a rfl rfl<|VO.n<|VC.q (VO.m rfl rfl<|VO.f (r := 0) F77_0 rfl rfl rfl<|VO.c 0 O3 rfl rfl ⟨_, rfl⟩ rfl<|VO.m rfl rfl<|VO.l (LO.sub (.r rfl) (.r rfl) (wi (by omega) (by omega))) rfl<|VO.m rfl rfl<|VO.l (LO.mul (.r rfl) (.r rfl) (wi (by omega) (by omega))) rfl<|VO.l (LO.sub (.r rfl) (.r rfl) (wi (by omega) (by omega))) rfl<|VO.l (LO.gt (.r rfl) (.r rfl)) rfl<|VO.m rfl rfl<|VO.gt rfl rfl (fun hg => LO.mv (.r rfl)) rfl<|VO.gt rfl rfl (fun hg => LO.fa (r := 1) F77_1 (.r rfl) rfl) rfl<|VO.gt rfl rfl (fun hg => LO.ld O3 (.g hg rfl) (cells_blk 0 rfl ⟨_, rfl⟩)) rfl<|VO.gt rfl rfl (fun hg => LO.mv (.r rfl)) rfl<|VO.gt rfl rfl (fun hg => LO.add (.g hg rfl) (.g hg rfl) (wi (by omega) (by omega))) rfl<|VO.gt rfl rfl (fun hg => LO.mv (.r rfl)) rfl<|VO.gt rfl rfl (fun hg => LO.mul (.g hg rfl) (.g hg rfl) (wi (by omega) (by omega))) rfl<|VO.gt rfl rfl (fun hg => LO.add (.g hg rfl) (.r rfl) (wi (by omega) (by omega))) rfl<|VO.gt rfl rfl (fun hg => LO.lt (.g hg rfl) (.g hg rfl)) rfl<|VO.l (LO.pkA (.r rfl) rfl rfl (.r rfl)) rfl<|VO.a rfl rfl<|VO.n<|VC.ret (VE.s rfl rfl (fun w hw => ?_)))))
 exact ⟨rfl, hw.nil⟩
theorem State_c (g : Grid) (c : Cloud) (ps pm : Option Addr) (cs cm : Nat) (p t : Int) (w : World) (hns : c.sure.length < 1000000000000) (hnm : c.may.length < 1000000000000) (hs : Ints w ps c.sure) (hm : Ints w pm c.may) (hg : gridOk g) (hf : flowOk c.flow) (hr1 : 0 ≤ c.grow) (hr2 : c.grow ≤ 10000) (ht1 : 0 ≤ t) (ht2 : t ≤ 7200) (hp1 : 0 ≤ p) (hp2 : p < g.wide * g.high) (hs1 : memB c.sure (-1) = false) (hm1 : memB c.may (-1) = false) :
 Calls Tryz.prog 67 #[gridV g, cloudV ps cs pm cm c, .int .i64 p, .int .i64 t] w fun e w' => e = .returned (.int .i64 (stateOf g c p t)) ∧ St (bs w) [] w' := by
 have hx := tmod_bd hg hp1 hp2
 have hgo := hg
 have hfo := hf
 obtain ⟨hgx, hgy, hgs, hgw, hgh⟩ := hg
 obtain ⟨⟨hfa, hfb, hfc⟩, hfd, hfe, hff⟩ := hf
 have hn := far_bd ht1 ht2
 have hq : (110000 * t).tdiv 1000000 = 110000 * t / 1000000 := Int.tdiv_eq_ediv_of_nonneg (by omega)
 refine enter (vs := [_,_,_,_]) (env := [(0,_), (1,_), (2,_), (3,_)]) Tryz.func67 rfl rfl rfl rfl ?_
 refine VC.q (VO.h rfl<|HO.box (C := #[_,_,_,_,_]) rfl rfl fun b1 => VO.h rfl<|HO.box (C := #[_,_,_,_,_,_,_]) rfl rfl fun b2 => VO.a rfl rfl<|VO.n<|VC.q (VO.a rfl rfl<|VO.a rfl rfl<|VO.n<|VC.q (VO.m rfl rfl<|VO.l (LO.mul (.r rfl) (.r rfl) (wi (by omega) (by omega))) rfl<|VO.l (LO.quo (.r rfl) (.r rfl) (by omega) (r := 110000 * t / 1000000) (by rw [hq]; exact wi (by omega) (by omega))) rfl<|VO.p rfl rfl (by omega) (by omega) rfl<|VO.l (LO.as (v := .int .i64 (far t)) (.r rfl)) rfl<|VO.n<|VC.seq<|VC.q (VO.m rfl rfl<|VO.l (LO.neg (.r rfl) (wi (by omega) (by omega))) rfl<|VO.a rfl rfl<|VO.n ?_))))
 refine VC.block<|VC.loopK (α := Int × Bool × Int) 0 (fun gx => [(9, .int .i64 gx.2.2), (10, .bool gx.2.1), (12, .int .i64 gx.1)]) [(2,_), (3,_), (4,_), (5,_), (11,_)] (fun gx => []) (fun gx => (-far t ≤ gx.1 ∧ gx.1 ≤ far t + 1) ∧ StI gx.2.1 gx.2.2 (allTo g c p t gx.1) (anyTo g c p t gx.1)) (fun gx => (far t + 1 - gx.1).toNat) (-far t, true, 0) (by exact ⟨by dsimp only; omega, to_zero⟩) (.c4 rfl rfl rfl rfl (.c4 rfl rfl rfl rfl .nil)) (fun _ h => h) ?_
 rintro ⟨v, a, m⟩ ⟨hv, hI⟩
 show VC _ _ _ _ _ ([(9, .int .i64 m), (10, .bool a), (12, .int .i64 v)] ++ _) ([] ++ _) _ _
 have hv : -far t ≤ v ∧ v ≤ far t + 1 := hv
 have hI : StI a m (allTo g c p t v) (anyTo g c p t v) := hI
 refine VC.seq<|VC.q (VO.m rfl rfl<|VO.m rfl rfl<|VO.l (LO.le (.r rfl) (.r rfl)) rfl<|VO.n<|VC.cond rfl (fun h1 => ?_) (fun h1 => ?_))
 ·
  refine VC.skip (VE.seqN<|VC.seq<|VC.block<|VC.seq<|VC.q (VO.m rfl rfl<|VO.f (r := 2) F107_2 rfl rfl rfl<|VO.f (r := 4) F105_1 rfl rfl rfl<|VO.l (LO.lda (vs := [_,_]) A77 (.r rfl) (cells_blk 0 rfl ⟨_, rfl⟩) rfl) rfl<|VO.f (r := 6) F107_3 rfl rfl rfl<|VO.c 0 O3 rfl rfl ⟨_, rfl⟩ rfl<|VO.m rfl rfl<|VO.l (LO.call (xs := [_,_,_,_]) (vs := [_,_,_,_]) C87 ⟨(.r rfl), (.r rfl), (.r rfl), (.r rfl), trivial⟩ (fun w _ => leads_c _ _ _ _ _ w (by omega) (by omega) (by omega) (by omega) (by omega) (by omega) (by omega) (by omega) (by omega) (by omega))) rfl<|VO.l (LO.not (.r rfl)) rfl<|VO.n<|VC.cond rfl (fun h2 => ?_) (fun h2 => ?_)))
  ·
   refine VC.exit (VE.thenX (VE.inX (VE.seqN<|VC.reg (VO.m rfl rfl<|VO.p rfl rfl (by omega) (by omega) rfl<|VO.a rfl rfl<|VO.nil<|VE.thenN fun a w ha hw => ⟨(_,_,_), (by first | exact ⟨by dsimp only; omega, to_skip hv.1 (by simpa using h2) hI⟩ | exact ⟨by dsimp only; omega, to_next hv.1 (by simpa using h2) (by omega) hJ⟩), (by dsimp only; omega), ha.sub (.c4 rfl rfl rfl rfl (.c4 rfl rfl rfl rfl .nil)), hw⟩))))
  ·
   refine VC.skip (VE.seqN<|VC.q (VO.m rfl rfl<|VO.l (LO.neg (.r rfl) (wi (by omega) (by omega))) rfl<|VO.a rfl rfl<|VO.n<|VC.block<|VC.loopK (α := Int × Bool × Int) 0 (fun gx => [(9, .int .i64 gx.2.2), (10, .bool gx.2.1), (13, .int .i64 gx.1)]) [(2,_), (3,_), (4,_), (5,_), (11,_), (12,_)] (fun gx => []) (fun gx => (-far t ≤ gx.1 ∧ gx.1 ≤ far t + 1) ∧ StI gx.2.1 gx.2.2 (allTo g c p t v ∧ allRow g c p t v gx.1) (anyTo g c p t v ∨ anyRow g c p t v gx.1)) (fun gx => (far t + 1 - gx.1).toNat) (-far t, a, m) (by exact ⟨by dsimp only; omega, row_zero hI⟩) (.c4 rfl rfl rfl rfl (.c4 rfl rfl rfl rfl (.cons rfl .nil))) (fun _ h => h) ?_))
   rintro ⟨u, b, n⟩ ⟨hu, hJ⟩
   show VC _ _ _ _ _ ([(9, .int .i64 n), (10, .bool b), (13, .int .i64 u)] ++ _) ([] ++ _) _ _
   have hu : -far t ≤ u ∧ u ≤ far t + 1 := hu
   have hJ : StI b n (allTo g c p t v ∧ allRow g c p t v u) (anyTo g c p t v ∨ anyRow g c p t v u) := hJ
   refine VC.seq<|VC.q (VO.m rfl rfl<|VO.m rfl rfl<|VO.l (LO.le (.r rfl) (.r rfl)) rfl<|VO.n<|VC.cond rfl (fun h3 => ?_) (fun h3 => ?_))
   ·
    refine VC.skip (VE.seqN<|VC.seq<|VC.block<|VC.seq<|VC.q (VO.m rfl rfl<|VO.f (r := 2) F107_2 rfl rfl rfl<|VO.f (r := 2) F105_0 rfl rfl rfl<|VO.l (LO.lda (vs := [_,_]) A77 (.r rfl) (cells_blk 0 rfl ⟨_, rfl⟩) rfl) rfl<|VO.f (r := 6) F107_3 rfl rfl rfl<|VO.c 0 O3 rfl rfl ⟨_, rfl⟩ rfl<|VO.m rfl rfl<|VO.l (LO.call (xs := [_,_,_,_]) (vs := [_,_,_,_]) C87 ⟨(.r rfl), (.r rfl), (.r rfl), (.r rfl), trivial⟩ (fun w _ => leads_c _ _ _ _ _ w (by omega) (by omega) (by omega) (by omega) (by omega) (by omega) (by omega) (by omega) (by omega) (by omega))) rfl<|VO.l (LO.not (.r rfl)) rfl<|VO.n<|VC.cond rfl (fun h4 => ?_) (fun h4 => ?_)))
    ·
     refine VC.exit (VE.thenX (VE.inX (VE.seqN<|VC.reg (VO.m rfl rfl<|VO.p rfl rfl (by omega) (by omega) rfl<|VO.a rfl rfl<|VO.nil<|VE.thenN fun a w ha hw => ⟨(_,_,_), ⟨by dsimp only; omega, row_step hu.1 hJ (by first | (simp [h4]; done) | (simp [h4, okA, h5i]; done) | (simp [h4, okA, h5i, h7]; done)) (by first | (simp [h4]; done) | (simp [h4, okM, h5i]; done) | (simp [h4, okM, h5i, h6]; done))⟩, (by dsimp only; omega), ha.sub (.c4 rfl rfl rfl rfl (.c4 rfl rfl rfl rfl (.cons rfl .nil))), hw⟩))))
    ·
     have h4 := Classical.not_not.1 h4
     refine VC.skip (VE.seqN<|VC.seq<|VC.draw mixed (LL.m rfl rfl<|LL.l (LO.fa (r := 3) F23_3 (.r rfl) rfl) rfl<|LL.l (LO.ld O3 (.r rfl) (cells_blk 1 rfl ⟨_, rfl⟩)) rfl<|LL.l (LO.rem (.r rfl) (.r rfl) (by omega)) rfl<|LL.m rfl rfl<|LL.l (LO.sub (.r rfl) (.r rfl) (wi (by omega) (by omega))) rfl<|LL.m rfl rfl<|LL.l (LO.fa (r := 3) F23_3 (.r rfl) rfl) rfl<|LL.l (LO.ld O3 (.r rfl) (cells_blk 1 rfl ⟨_, rfl⟩)) rfl<|LL.l (LO.quo (.r rfl) (.r rfl) (by omega) (wi (by omega) (by omega))) rfl<|LL.m rfl rfl<|LL.l (LO.sub (.r rfl) (.r rfl) (wi (by omega) (by omega))) rfl<|LL.l (LO.as (.r rfl)) rfl<|LL.l (LO.as (.r rfl)) rfl<|LL.nil) (by kernel_rfl)<|VE.seqN<|VC.seq<|VC.q (VO.m rfl rfl<|VO.f (r := 3) F23_3 rfl rfl rfl<|VO.c 1 O3 rfl rfl ⟨_, rfl⟩ rfl<|VO.l (LO.sub (.r rfl) (.r rfl) (wi (by omega) (by omega))) rfl<|VO.l (LO.call (xs := [_,_,_]) (vs := [_,_,_]) C34 ⟨(.r rfl), (.r rfl), (.r rfl), trivial⟩ (fun w _ => In_c _ _ _ w)) rfl<|VO.l (LO.not (.r rfl)) rfl<|VO.m rfl rfl<|VO.gf rfl rfl (fun hg => LO.mv (.r rfl)) rfl<|VO.gf rfl rfl (fun hg => LO.fa (r := 4) F23_4 (.r rfl) rfl) rfl<|VO.gf rfl rfl (fun hg => LO.ld O3 (.g hg rfl) (cells_blk 1 rfl ⟨_, rfl⟩)) rfl<|VO.gf rfl rfl (fun hg => LO.sub (.g hg rfl) (.r rfl) (wi (by omega) (by omega))) rfl<|VO.gf rfl rfl (fun hg => LO.call (xs := [_,_,_]) (vs := [_,_,_]) C34 ⟨(.g hg rfl), (.r rfl), (.g hg rfl), trivial⟩ (fun w _ => In_c _ _ _ w)) rfl<|VO.gf rfl rfl (fun hg => LO.not (.g hg rfl)) rfl<|VO.l (LO.pkO (.r rfl) (.r rfl) rfl rfl) rfl<|VO.n<|VC.cond rfl (fun h5 => ?_) (fun h5 => ?_)))
     ·
      refine VC.seq ?_
      have h5i := inG_no h5
      refine VC.reg (VO.a rfl rfl<|VO.n<|VC.exit (VE.thenX (VE.inX (VE.seqN<|VC.reg (VO.m rfl rfl<|VO.p rfl rfl (by omega) (by omega) rfl<|VO.a rfl rfl<|VO.nil<|VE.thenN fun a w ha hw => ⟨(_,_,_), ⟨by dsimp only; omega, row_step hu.1 hJ (by first | (simp [h4]; done) | (simp [h4, okA, h5i]; done) | (simp [h4, okA, h5i, h7]; done)) (by first | (simp [h4]; done) | (simp [h4, okM, h5i]; done) | (simp [h4, okM, h5i, h6]; done))⟩, (by dsimp only; omega), ha.sub (.c4 rfl rfl rfl rfl (.c4 rfl rfl rfl rfl (.cons rfl .nil))), hw⟩)))))
     ·
      refine VC.skip (VE.seqN<|VC.seq<|VC.seq ?_)
      have h5i := inG_yes h5
      have h5 := inG_of h5
      have hrow := row_bd (v := p.tdiv g.wide - v) (w := g.wide) (by omega) (by omega) (by omega) (by omega)
      refine VC.reg (VO.f (r := 1) F107_1 rfl rfl rfl<|VO.c 0 O72 rfl rfl ⟨_, rfl⟩ rfl<|VO.m rfl rfl<|VO.f (r := 3) F23_3 rfl rfl rfl<|VO.c 1 O3 rfl rfl ⟨_, rfl⟩ rfl<|VO.l (LO.mul (.r rfl) (.r rfl) (wi (by omega) (by omega))) rfl<|VO.m rfl rfl<|VO.p rfl rfl (by omega) (by omega) rfl<|VO.l (LO.call (xs := [_,_]) (vs := [_,_]) C86 ⟨(.r rfl), (.r rfl), trivial⟩ (fun w hw => rhas_c _ _ _ _ w (by first | exact hns | exact hnm) (by first | exact hs.keep w hw | exact hm.keep w hw))) rfl<|VO.n<|VC.cond rfl (fun h6 => ?_) (fun h6 => ?_))
      ·
       refine VC.reg (VO.a rfl rfl<|VO.n<|VC.q (VO.f (r := 0) F107_0 rfl rfl rfl<|VO.c 0 O72 rfl rfl ⟨_, rfl⟩ rfl<|VO.m rfl rfl<|VO.f (r := 3) F23_3 rfl rfl rfl<|VO.c 1 O3 rfl rfl ⟨_, rfl⟩ rfl<|VO.l (LO.mul (.r rfl) (.r rfl) (wi (by omega) (by omega))) rfl<|VO.m rfl rfl<|VO.p rfl rfl (by omega) (by omega) rfl<|VO.l (LO.call (xs := [_,_]) (vs := [_,_]) C86 ⟨(.r rfl), (.r rfl), trivial⟩ (fun w hw => rhas_c _ _ _ _ w (by first | exact hns | exact hnm) (by first | exact hs.keep w hw | exact hm.keep w hw))) rfl<|VO.l (LO.not (.r rfl)) rfl<|VO.n<|VC.cond rfl (fun h7 => ?_) (fun h7 => ?_)))
       ·
        refine VC.reg (VO.a rfl rfl<|VO.nil<|VE.inN (VE.seqN<|VC.reg (VO.m rfl rfl<|VO.p rfl rfl (by omega) (by omega) rfl<|VO.a rfl rfl<|VO.nil<|VE.thenN fun a w ha hw => ⟨(_,_,_), ⟨by dsimp only; omega, row_step hu.1 hJ (by first | (simp [h4]; done) | (simp [h4, okA, h5i]; done) | (simp [h4, okA, h5i, h7]; done)) (by first | (simp [h4]; done) | (simp [h4, okM, h5i]; done) | (simp [h4, okM, h5i, h6]; done))⟩, (by dsimp only; omega), ha.sub (.c4 rfl rfl rfl rfl (.c4 rfl rfl rfl rfl (.cons rfl .nil))), hw⟩)))
       ·
        have h7 := Classical.not_not.1 h7
        refine VC.skip (VE.inN (VE.seqN<|VC.reg (VO.m rfl rfl<|VO.p rfl rfl (by omega) (by omega) rfl<|VO.a rfl rfl<|VO.nil<|VE.thenN fun a w ha hw => ⟨(_,_,_), ⟨by dsimp only; omega, row_step hu.1 hJ (by first | (simp [h4]; done) | (simp [h4, okA, h5i]; done) | (simp [h4, okA, h5i, h7]; done)) (by first | (simp [h4]; done) | (simp [h4, okM, h5i]; done) | (simp [h4, okM, h5i, h6]; done))⟩, (by dsimp only; omega), ha.sub (.c4 rfl rfl rfl rfl (.c4 rfl rfl rfl rfl (.cons rfl .nil))), hw⟩)))
      ·
       refine VC.skip (VE.seqN<|VC.q (VO.f (r := 0) F107_0 rfl rfl rfl<|VO.c 0 O72 rfl rfl ⟨_, rfl⟩ rfl<|VO.m rfl rfl<|VO.f (r := 3) F23_3 rfl rfl rfl<|VO.c 1 O3 rfl rfl ⟨_, rfl⟩ rfl<|VO.l (LO.mul (.r rfl) (.r rfl) (wi (by omega) (by omega))) rfl<|VO.m rfl rfl<|VO.p rfl rfl (by omega) (by omega) rfl<|VO.l (LO.call (xs := [_,_]) (vs := [_,_]) C86 ⟨(.r rfl), (.r rfl), trivial⟩ (fun w hw => rhas_c _ _ _ _ w (by first | exact hns | exact hnm) (by first | exact hs.keep w hw | exact hm.keep w hw))) rfl<|VO.l (LO.not (.r rfl)) rfl<|VO.n<|VC.cond rfl (fun h7 => ?_) (fun h7 => ?_)))
       ·
        refine VC.reg (VO.a rfl rfl<|VO.nil<|VE.inN (VE.seqN<|VC.reg (VO.m rfl rfl<|VO.p rfl rfl (by omega) (by omega) rfl<|VO.a rfl rfl<|VO.nil<|VE.thenN fun a w ha hw => ⟨(_,_,_), ⟨by dsimp only; omega, row_step hu.1 hJ (by first | (simp [h4]; done) | (simp [h4, okA, h5i]; done) | (simp [h4, okA, h5i, h7]; done)) (by first | (simp [h4]; done) | (simp [h4, okM, h5i]; done) | (simp [h4, okM, h5i, h6]; done))⟩, (by dsimp only; omega), ha.sub (.c4 rfl rfl rfl rfl (.c4 rfl rfl rfl rfl (.cons rfl .nil))), hw⟩)))
       ·
        have h7 := Classical.not_not.1 h7
        refine VC.skip (VE.inN (VE.seqN<|VC.reg (VO.m rfl rfl<|VO.p rfl rfl (by omega) (by omega) rfl<|VO.a rfl rfl<|VO.nil<|VE.thenN fun a w ha hw => ⟨(_,_,_), ⟨by dsimp only; omega, row_step hu.1 hJ (by first | (simp [h4]; done) | (simp [h4, okA, h5i]; done) | (simp [h4, okA, h5i, h7]; done)) (by first | (simp [h4]; done) | (simp [h4, okM, h5i]; done) | (simp [h4, okM, h5i, h6]; done))⟩, (by dsimp only; omega), ha.sub (.c4 rfl rfl rfl rfl (.c4 rfl rfl rfl rfl (.cons rfl .nil))), hw⟩)))
   ·
    refine VC.exit (VE.thenX (VE.thenX (VE.inX (VE.inN (VE.seqN<|VC.reg (VO.m rfl rfl<|VO.p rfl rfl (by omega) (by omega) rfl<|VO.a rfl rfl<|VO.nil<|VE.thenN fun a w ha hw => ⟨(_,_,_), (by first | exact ⟨by dsimp only; omega, to_skip hv.1 (by simpa using h2) hI⟩ | exact ⟨by dsimp only; omega, to_next hv.1 (by simpa using h2) (by omega) hJ⟩), (by dsimp only; omega), ha.sub (.c4 rfl rfl rfl rfl (.c4 rfl rfl rfl rfl .nil)), hw⟩))))))
 ·
  refine VC.exit (VE.thenX (VE.thenX (VE.inX (VE.seqN<|VC.seq<|VC.q (VO.m rfl rfl<|VO.n<|VC.cond rfl (fun h8 => ?_) (fun h8 => ?_))))))
  ·
   refine VC.q (VO.a rfl rfl<|VO.n<|VC.ret (VE.thenR (VE.s rfl rfl (fun w hw => ?_))))
   refine ⟨?_, hw.nil⟩
   simp only [resV]
   congr 2
   first | exact fin_t hgo hfo hr1 hr2 ht1 hp1 hs1 hm1 (by omega) h8 hI | exact fin_f hgo hfo hr1 hr2 ht1 hp1 hs1 hm1 (by omega) h8 hI
  ·
   refine VC.skip (VE.seqN<|VC.q (VO.m rfl rfl<|VO.a rfl rfl<|VO.n<|VC.ret (VE.s rfl rfl (fun w hw => ?_))))
   refine ⟨?_, hw.nil⟩
   simp only [resV]
   congr 2
   first | exact fin_t hgo hfo hr1 hr2 ht1 hp1 hs1 hm1 (by omega) h8 hI | exact fin_f hgo hfo hr1 hr2 ht1 hp1 hs1 hm1 (by omega) h8 hI
theorem S52 : IsSlice Tryz.prog 52 107 := Tryz.underlying52
theorem N107 : (Tryz.prog.info? 107).map (·.size) = some 7 := by kernel_rfl
theorem A107 : IsAgg Tryz.prog 107 7 := ⟨⟨_, Tryz.underlying107, rfl⟩, by kernel_rfl⟩
theorem C66 : IsFn Tryz.prog 66 := ⟨_, Tryz.func66, by decide, rfl⟩
theorem C67 : IsFn Tryz.prog 67 := ⟨_, Tryz.func67, by decide, rfl⟩
theorem cloudE_neg {g : Grid} {c : Cloud} (h : cloudE g c = 0) : memB c.sure (-1) = false ∧ memB c.may (-1) = false := by
  unfold cloudE at h
  split at h
  · omega
  · split at h
    · omega
    · split at h
      · omega
      · split at h
        · omega
        · split at h
          · omega
          · rename_i q
            have q := Classical.not_not.1 q
            have hm : ∀ n, n ∈ c.may → n ≠ -1 := fun n hn => by
              obtain ⟨i, hi, e⟩ := List.getElem_of_mem hn
              have := firstE_eq q i hi
              unfold mayE at this
              have e2 : c.may.getD i 0 = n := by rw [List.getD_eq_getElem?_getD, List.getElem?_eq_getElem hi]; exact e
              rw [e2] at this
              split at this
              · omega
              · omega
            have hs : ∀ n, n ∈ c.sure → n ∈ c.may := fun n hn => by
              obtain ⟨i, hi, e⟩ := List.getElem_of_mem hn
              have := firstE_eq h i hi
              unfold sureE at this
              have e2 : c.sure.getD i 0 = n := by rw [List.getD_eq_getElem?_getD, List.getElem?_eq_getElem hi]; exact e
              rw [e2] at this
              split at this
              · omega
              · split at this
                · omega
                · rename_i r; exact Classical.not_not.1 r
            constructor
            · rw [memB, decide_eq_false_iff_not]; exact fun k => hm _ (hs _ k) rfl
            · rw [memB, decide_eq_false_iff_not]; exact fun k => hm _ k rfl
theorem rAt_c (g : Grid) (l : List CP) (pl : Option Addr) (cl : Nat) (lead : Int) (w : World) (hll : l.length < 1000000000000) (hl : Clouds w pl l) :
 Calls Tryz.prog 41 #[gridV g, .slice pl l.length cl, .int .i64 lead] w fun e w' => ∃ x : Option Addr × Nat, True ∧ e = .returned (.tuple #[.slice x.1 (atL g (l.map CP.c) lead).length x.2, .int .i64 (atE g (l.map CP.c) lead)]) ∧ St (bs w) [own 3 1 x.1 x.2 ((atL g (l.map CP.c) lead).map fun n => [.int .i64 n])] w' := by
 refine enter (vs := [_,_,_]) (env := [(0,_), (1,_), (2,_)]) Tryz.func41 rfl rfl rfl rfl ?_
 refine VC.q (VO.h rfl<|HO.box (C := #[_,_,_,_,_]) rfl rfl fun b1 => VO.a rfl rfl<|VO.a rfl rfl<|VO.n<|VC.q (VO.l (LO.lda (vs := [_,_,_,_,_]) A23 (.r rfl) (cells_blk 0 rfl ⟨_, rfl⟩) rfl) rfl<|VO.l (LO.call (xs := [_]) (vs := [_]) C58 ⟨(.r rfl), trivial⟩ (fun w _ => rCheckGrid_c g w)) rfl<|VO.a rfl rfl<|VO.n<|VC.seq<|VC.q (VO.m rfl rfl<|VO.u rfl rfl rfl<|VO.n<|VC.cond rfl (fun h1 => ?_) (fun h1 => ?_))))
 ·
  refine VC.q (VO.m rfl rfl<|VO.a rfl rfl<|VO.a rfl rfl<|VO.n<|VC.ret (VE.thenR (VE.res (vs := [_,_]) rfl ⟨rfl, rfl, trivial⟩ (fun w hw => ?_))))
  first | exact at_err (aE1 h1) h1 hw | exact at_err (aE2 hgo h2) (by decide) hw | exact at_err (aE3 hgo h2 hz hx h4) h4 hw | exact at_err (aE4 hgo h2 hA0 (by simpa using h5)) (by decide) hw | exact at_ok (aE5 hgo h2 hA0 h5) (by omega) (hw.sel [0] rfl)
 ·
  have h1 := Classical.not_not.1 h1
  have hgo : gridOk g := gridOk_of (by simpa using h1)
  have har := area_bd hgo
  refine VC.skip (VE.seqN<|VC.seq<|VC.q (VO.m rfl rfl<|VO.l (LO.len S52 (.r rfl) rfl) rfl<|VO.l (LO.gt (.r rfl) (.r rfl)) rfl<|VO.n<|VC.cond rfl (fun h2 => ?_) (fun h2 => ?_)))
  ·
   refine VC.q (VO.a rfl rfl<|VO.a rfl rfl<|VO.n<|VC.ret (VE.thenR (VE.res (vs := [_,_]) rfl ⟨rfl, rfl, trivial⟩ (fun w hw => ?_))))
   first | exact at_err (aE1 h1) h1 hw | exact at_err (aE2 hgo h2) (by decide) hw | exact at_err (aE3 hgo h2 hz hx h4) h4 hw | exact at_err (aE4 hgo h2 hA0 (by simpa using h5)) (by decide) hw | exact at_ok (aE5 hgo h2 hA0 h5) (by omega) (hw.sel [0] rfl)
  ·
   refine VC.skip (VE.seqN<|VC.seq<|VC.q (VO.a rfl rfl<|VO.n<|VC.block<|VC.loopK (α := Nat) 0 (fun gx => [(9, .int .i64 (gx : Nat))]) [(1,_), (2,_), (3,_)] (fun gx => []) (fun gx => gx ≤ l.length ∧ ∀ k, k < gx → cloudE g ((l.map CP.c).getD k default) = 0) (fun gx => l.length - gx) 0 (by exact ⟨by omega, fun k hk => by omega⟩) (.c4 rfl rfl rfl rfl .nil) (fun _ h => h) ?_))
   rintro j ⟨hj, hz⟩
   refine VC.seq<|VC.q (VO.m rfl rfl<|VO.m rfl rfl<|VO.l (LO.len S52 (.r rfl) rfl) rfl<|VO.t rfl rfl rfl<|VO.n<|VC.cond rfl (fun h3 => ?_) (fun h3 => ?_))
   ·
    obtain ⟨x, hx⟩ : ∃ x, l[j]? = some x := ⟨_, List.getElem?_eq_getElem (by omega)⟩
    have hxo := hl.ok x (List.mem_of_getElem? hx)
    refine VC.skip (VE.seqN<|VC.seq<|VC.block<|VC.seq<|VC.draw mixed (LL.l (LO.lda (vs := [_,_,_,_,_]) A23 (.r rfl) (cells_blk 0 rfl ⟨_, rfl⟩) rfl) rfl<|LL.m rfl rfl<|LL.m rfl rfl<|LL.l (LO.ixs S52 N107 hl.sl (.r rfl) (.r rfl) rfl (by omega)) rfl<|LL.l (LO.lda (vs := [_,_,_,_,_,_,_]) A107 (.r rfl) (hl.at hx) rfl) rfl<|LL.l (LO.call (xs := [_,_]) (vs := [_,_]) C66 ⟨(.r rfl), (.r rfl), trivial⟩ (fun w hw => rCheckCloud_c g x.c x.ps x.pm x.cs x.cm w hxo.2.2.1 hxo.2.2.2 (hxo.1.keep w hw) (hxo.2.1.keep w hw))) rfl<|LL.l (LO.as (.r rfl)) rfl<|LL.nil) (by kernel_rfl)<|VE.seqN<|VC.q (VO.m rfl rfl<|VO.u rfl rfl rfl<|VO.n<|VC.cond rfl (fun h4 => ?_) (fun h4 => ?_)))
    ·
     refine VC.q (VO.m rfl rfl<|VO.a rfl rfl<|VO.a rfl rfl<|VO.n<|VC.ret (VE.inR (VE.thenR (VE.thenR (VE.inR (VE.thenR (VE.res (vs := [_,_]) rfl ⟨rfl, rfl, trivial⟩ (fun w hw => ?_))))))))
     first | exact at_err (aE1 h1) h1 hw | exact at_err (aE2 hgo h2) (by decide) hw | exact at_err (aE3 hgo h2 hz hx h4) h4 hw | exact at_err (aE4 hgo h2 hA0 (by simpa using h5)) (by decide) hw | exact at_ok (aE5 hgo h2 hA0 h5) (by omega) (hw.sel [0] rfl)
    ·
     refine VC.skip (VE.inN (VE.seqN<|VC.reg (VO.m rfl rfl<|VO.p rfl rfl (by omega) (by omega) rfl<|VO.a rfl rfl<|VO.nil<|VE.thenN fun a w ha hw => ⟨j + 1, ⟨by omega, step_zero hz (by rw [getD_c hx]; simpa using h4)⟩, (by omega), ha.sub (.c4 rfl rfl rfl rfl .nil), hw⟩)))
   ·
    refine VC.exit (VE.thenX (VE.thenX (VE.inX (VE.seqN<|VC.seq<|VC.seq ?_))))
    have hA0 : firstE (fun k => cloudE g ((l.map CP.c).getD k default)) (l.map CP.c).length = 0 := firstE_zero (fun k hk => hz k (by simp at hk; omega))
    refine VC.reg (VO.m rfl rfl<|VO.l (LO.call (xs := [_,_,_]) (vs := [_,_,_]) C34 ⟨(.r rfl), (.r rfl), (.r rfl), trivial⟩ (fun w _ => In_c _ _ _ w)) rfl<|VO.l (LO.not (.r rfl)) rfl<|VO.n<|VC.cond rfl (fun h5 => ?_) (fun h5 => ?_))
    ·
     refine VC.q (VO.a rfl rfl<|VO.a rfl rfl<|VO.n<|VC.ret (VE.thenR (VE.res (vs := [_,_]) rfl ⟨rfl, rfl, trivial⟩ (fun w hw => ?_))))
     first | exact at_err (aE1 h1) h1 hw | exact at_err (aE2 hgo h2) (by decide) hw | exact at_err (aE3 hgo h2 hz hx h4) h4 hw | exact at_err (aE4 hgo h2 hA0 (by simpa using h5)) (by decide) hw | exact at_ok (aE5 hgo h2 hA0 h5) (by omega) (hw.sel [0] rfl)
    ·
     refine VC.skip (VE.seqN<|VC.seq ?_)
     have h5 : 0 ≤ lead ∧ lead ≤ 7200 := by simpa using h5
     refine VC.reg (VO.a rfl rfl<|VO.n<|VC.seq<|VC.q (VO.a rfl rfl<|VO.n<|VC.block<|VC.loopK (α := Nat × (Option Addr) × Nat) 0 (fun gx => [(10, .slice gx.2.1 gx.1 gx.2.2), (11, .int .i64 (gx.1 : Nat))]) [(1,_), (2,_), (3,_)] (fun gx => [own 3 1 gx.2.1 gx.2.2 ((List.range gx.1).map fun p : Nat => [.int .i64 (stateAll g (l.map CP.c) lead p)])]) (fun gx => gx.1 ≤ (g.wide * g.high).toNat) (fun gx => (g.wide * g.high).toNat - gx.1) (0, none, 0) (by exact Nat.zero_le _) (.c4 rfl rfl rfl rfl (.cons rfl .nil)) (fun _ h => (h.ownNil 3 1)) ?_))
     rintro ⟨k, pr, cr⟩ hk
     show VC _ _ _ _ _ ([(10, .slice pr k cr), (11, .int .i64 (k : Nat))] ++ _) ([own 3 1 pr cr ((List.range k).map fun p : Nat => [.int .i64 (stateAll g (l.map CP.c) lead p)])] ++ _) _ _
     have hk : k ≤ (g.wide * g.high).toNat := hk
     refine VC.seq<|VC.q (VO.m rfl rfl<|VO.f (r := 3) F23_3 rfl rfl rfl<|VO.c 1 O3 rfl rfl ⟨_, rfl⟩ rfl<|VO.f (r := 4) F23_4 rfl rfl rfl<|VO.c 1 O3 rfl rfl ⟨_, rfl⟩ rfl<|VO.l (LO.mul (.r rfl) (.r rfl) (wi (by omega) (by omega))) rfl<|VO.t rfl rfl rfl<|VO.n<|VC.cond rfl (fun h6 => ?_) (fun h6 => ?_))
     ·
      refine VC.skip (VE.seqN<|VC.seq<|VC.block<|VC.q (VO.a rfl rfl<|VO.n<|VC.seq<|VC.q (VO.a rfl rfl<|VO.n<|VC.block<|VC.loopK (α := Nat) 0 (fun gx => [(12, .int .i64 (((l.map CP.c).take gx).foldl (fun m c => max m (stateOf g c (k : Nat) lead)) 0)), (13, .int .i64 (gx : Nat))]) [(1,_), (2,_), (3,_), (10,_), (11,_)] (fun gx => []) (fun gx => gx ≤ l.length) (fun gx => l.length - gx) 0 (by exact Nat.zero_le _) (.c4 rfl rfl rfl rfl (.cons rfl (.cons rfl (.cons rfl .nil)))) (fun _ h => h) ?_)))
      rintro i hi
      refine VC.seq<|VC.q (VO.m rfl rfl<|VO.m rfl rfl<|VO.l (LO.len S52 (.r rfl) rfl) rfl<|VO.t rfl rfl rfl<|VO.n<|VC.cond rfl (fun h7 => ?_) (fun h7 => ?_))
      ·
       obtain ⟨x, hx⟩ : ∃ x, l[i]? = some x := ⟨_, List.getElem?_eq_getElem (by omega)⟩
       have hxo := hl.ok x (List.mem_of_getElem? hx)
       have hx0 : cloudE g x.c = 0 := by rw [← getD_c hx]; exact hz i (by omega)
       have hxk := cloudE_ok hx0
       have hxn := cloudE_neg hx0
       refine VC.skip (VE.seqN<|VC.seq<|VC.block<|VC.draw mixed (LL.m rfl rfl<|LL.l (LO.lda (vs := [_,_,_,_,_]) A23 (.r rfl) (cells_blk 1 rfl ⟨_, rfl⟩) rfl) rfl<|LL.m rfl rfl<|LL.m rfl rfl<|LL.l (LO.ixs S52 N107 hl.sl (.r rfl) (.r rfl) rfl (by omega)) rfl<|LL.l (LO.lda (vs := [_,_,_,_,_,_,_]) A107 (.r rfl) (hl.at hx) rfl) rfl<|LL.m rfl rfl<|LL.m rfl rfl<|LL.l (LO.call (xs := [_,_,_,_]) (vs := [_,_,_,_]) C67 ⟨(.r rfl), (.r rfl), (.r rfl), (.r rfl), trivial⟩ (fun w hw => State_c g x.c x.ps x.pm x.cs x.cm (k : Nat) lead w hxo.2.2.1 hxo.2.2.2 (hxo.1.keep w hw) (hxo.2.1.keep w hw) hgo hxk.1 hxk.2.1 hxk.2.2 h5.1 h5.2 (by omega) (by omega) hxn.1 hxn.2)) rfl<|LL.l (LO.max (.r rfl) (.r rfl)) rfl<|LL.l (LO.as (.r rfl)) rfl<|LL.nil) (by kernel_rfl)<|VE.inN (VE.seqN<|VC.reg (VO.m rfl rfl<|VO.p rfl rfl (by omega) (by omega) rfl<|VO.a rfl rfl<|VO.nil<|VE.thenN fun a w ha hw => ⟨i + 1, (by omega), (by omega), ha.sub (.cons (Eq.trans (b := some (Value.int .i64 (max (((l.map CP.c).take i).foldl (fun m c => max m (stateOf g c (k : Nat) lead)) 0) (stateOf g x.c (k : Nat) lead)))) rfl (by rw [take_c hx, List.foldl_append]; rfl)) (.c4 rfl rfl rfl rfl (.cons rfl (.cons rfl .nil)))), hw⟩)))
      ·
       have hsk : stateAll g (l.map CP.c) lead (k : Nat) = ((l.map CP.c).take i).foldl (fun m c => max m (stateOf g c (k : Nat) lead)) 0 := by rw [show i = l.length by omega, List.take_of_length_le (by simp)]; rfl
       refine VC.exit (VE.thenX (VE.thenX (VE.inX (VE.seqN<|VC.reg (VO.m rfl rfl<|VO.m rfl rfl<|VO.h rfl<|HO.bs (ps := [(_,_)]) (vs := [(_,_)]) (Z := [_]) (C := [_]) S72 Z3 N3 ⟨(.r rfl), trivial⟩ rfl rfl rfl rfl ⟨_, [_], [_], rfl, rfl, rfl, rfl, rfl⟩ fun b3 => VO.h rfl<|HO.app1 1 0 (fun R => [_, R,_]) S72 S72 I3 (.r rfl) (.r rfl) rfl rfl rfl rfl rfl rfl rfl (fun _ => rfl) (by simp) (by omega) fun p3 c3 => VO.h rfl<|HO.lo (LO.as (.r rfl))<|VO.nil<|VE.inN (VE.seqN<|VC.reg (VO.m rfl rfl<|VO.p rfl rfl (by omega) (by omega) rfl<|VO.a rfl rfl<|VO.nil<|VE.thenN fun a w ha hw => ⟨(k + 1,_,_), (by dsimp only; omega), (by dsimp only; omega), ha.sub (.c4 rfl rfl rfl rfl (.cons rfl .nil)), (by show St _ ([own 3 1 _ _ ((List.range (k + 1)).map fun p : Nat => [Value.int .i64 (stateAll g (l.map CP.c) lead p)])] ++ _) w; rw [List.range_succ, List.map_append, List.map_singleton, hsk]; exact hw.sel [1,2] rfl)⟩)))))))
     ·
      refine VC.exit (VE.thenX (VE.thenX (VE.inX (VE.seqN<|VC.q (VO.m rfl rfl<|VO.a rfl rfl<|VO.a rfl rfl<|VO.n<|VC.ret (VE.res (vs := [_,_]) rfl ⟨rfl, rfl, trivial⟩ (fun w hw => ?_)))))))
      first | exact at_err (aE1 h1) h1 hw | exact at_err (aE2 hgo h2) (by decide) hw | exact at_err (aE3 hgo h2 hz hx h4) h4 hw | exact at_err (aE4 hgo h2 hA0 (by simpa using h5)) (by decide) hw | exact at_ok (aE5 hgo h2 hA0 h5) (by omega) (hw.sel [0] rfl)
theorem Clouds.keep {w0 : World} {p : Option Addr} {l : List CP} (h : Clouds w0 p l) {L : List Res} : ∀ w, St (bs w0) L w → Clouds w p l :=
  fun w hw => ⟨h.rows.keep w hw, fun x hx => ⟨(h.ok x hx).1.keep w hw, (h.ok x hx).2.1.keep w hw, (h.ok x hx).2.2⟩⟩
theorem F48_0 : FieldAt Tryz.prog 48 0 0 := ⟨_,_, Tryz.underlying48, rfl, rfl, 4, by kernel_rfl⟩
theorem F48_1 : FieldAt Tryz.prog 48 1 5 := ⟨_,_, Tryz.underlying48, rfl, rfl, 0, by kernel_rfl⟩
theorem O46 : IsOne Tryz.prog 46 := ⟨⟨_, Tryz.underlying46, rfl⟩, by kernel_rfl⟩
theorem S46 : IsSlice Tryz.prog 46 77 := Tryz.underlying46
theorem N77 : (Tryz.prog.info? 77).map (·.size) = some 2 := by kernel_rfl
theorem Z77 : ZeroOf Tryz.prog 77 (.agg #[.int .i64 0, .int .i64 0]) := by unfold ZeroOf; kernel_rfl
theorem A48 : IsAgg Tryz.prog 48 6 := ⟨⟨_, Tryz.underlying48, rfl⟩, by kernel_rfl⟩
theorem C61 : IsFn Tryz.prog 61 := ⟨_, Tryz.func61, by decide, rfl⟩
theorem C62 : IsFn Tryz.prog 62 := ⟨_, Tryz.func62, by decide, rfl⟩
structure Span where
  lo : Int
  hi : Int
def Span.cells (s : Span) : List Value := [.int .i64 s.lo, .int .i64 s.hi]
structure Field where
  g : Grid
  vals : List Span
def Spans (w : World) (p : Option Addr) (l : List Span) : Prop := Go.SL.Rows w 2 p (l.map Span.cells)
theorem Spans.some {w : World} {p : Option Addr} {l : List Span} (h : Spans w p l) : SlSome p l.length := Go.SL.Rows.some h (by simp)
theorem Spans.keep {w0 : World} {p : Option Addr} {l : List Span} (h : Spans w0 p l) {L : List Res} : ∀ w, St (bs w0) L w → Spans w p l := Go.SL.Rows.keep h
theorem Spans.at {w0 : World} {p : Option Addr} {l : List Span} (h : Spans w0 p l) {L : List Res} {j : Nat} (hj : j < l.length) : ∀ w, St (bs w0) L w → Cells w ⟨pb p, po p + j * 2, none⟩ [.int .i64 (l.getD j ⟨0,0⟩).lo, .int .i64 (l.getD j ⟨0,0⟩).hi] :=
  fun w hw => (h.keep w hw).cells j _ (by simp [List.getElem?_eq_getElem hj, List.getD, Span.cells])
theorem cells_part {w : World} {b o off : Nat} {C vs : List Value} (h : Cells w ⟨b, o, none⟩ C) (hv : ∃ r, C.drop off = vs ++ r) : Cells w ⟨b, o + off, none⟩ vs := by
  intro j v hj
  obtain ⟨r, hr⟩ := hv
  have h1 : C[off + j]? = some v := by
    rw [← List.getElem?_drop, hr, List.getElem?_append_left (List.getElem?_eq_some_iff.1 hj).1]; exact hj
  have h2 := h (off + j) v h1
  have e1 : (⟨b, o, none⟩ : Addr).add (off + j) = ⟨b, o + (off + j), none⟩ := by unfold Addr.add; split <;> simp_all
  have e2 : (⟨b, o + off, none⟩ : Addr).add j = ⟨b, o + off + j, none⟩ := by unfold Addr.add; split <;> simp_all
  rw [e1] at h2; rw [e2, Nat.add_assoc]; exact h2
def spanOk (m : Int) (s : Span) : Prop := 0 ≤ s.lo ∧ s.lo ≤ s.hi ∧ s.hi ≤ m
instance (m : Int) (s : Span) : Decidable (spanOk m s) := by unfold spanOk; exact inferInstance
def valE (m : Int) (l : List Span) (i : Nat) : Int := if spanOk m (l.getD i ⟨0,0⟩) then 0 else 3
def fieldE (m : Int) (f : Field) : Int := if ¬ gridOk f.g then 3 else if (f.vals.length : Int) ≠ f.g.wide * f.g.high then 11 else firstE (valE m f.vals) f.vals.length
def stE (s : List Int) (i : Nat) : Int := if 0 ≤ s.getD i 0 ∧ s.getD i 0 ≤ 2 then 0 else 3
def heldE (s : List Int) (f : Field) (lv : Int) : Int := if fieldE 1073741824 f ≠ 0 then fieldE 1073741824 f else if s.length ≠ f.vals.length then 11 else if ¬ (1 ≤ lv ∧ lv ≤ 1073741824) then 3 else firstE (stE s) s.length
def heldAt (s : List Int) (f : Field) (lv : Int) (p : Nat) : Prop := (s.getD p 0 = 2 ∧ (f.vals.getD p ⟨0,0⟩).hi < lv) ∨ (s.getD p 0 = 0 ∧ lv ≤ (f.vals.getD p ⟨0,0⟩).lo)
instance (s : List Int) (f : Field) (lv : Int) (p : Nat) : Decidable (heldAt s f lv p) := by unfold heldAt; exact inferInstance
section
variable {m : Int} {f : Field} {s l : List Int} {lv : Int} {j : Nat}
theorem valE_zero (h : spanOk m (f.vals.getD j ⟨0,0⟩)) : valE m f.vals j = 0 := if_pos h
theorem fE1 (h : ¬ gridE f.g = 0) : gridE f.g = fieldE m f := by
  unfold fieldE
  by_cases q : gridOk f.g
  · exact absurd (if_pos q) h
  · rw [if_pos q]; exact if_neg q
theorem fE2 (hg : gridOk f.g) (h : ¬ (f.vals.length : Int) = f.g.wide * f.g.high) : 11 = fieldE m f := by
  unfold fieldE
  rw [if_neg (fun q => q hg), if_pos h]
theorem fE3 (hg : gridOk f.g) (h : (f.vals.length : Int) = f.g.wide * f.g.high) (hz : ∀ k, k < j → valE m f.vals k = 0) (hj : j < f.vals.length) (h4 : ¬ spanOk m (f.vals.getD j ⟨0,0⟩)) : 3 = fieldE m f := by
  have e : valE m f.vals j = 3 := if_neg h4
  unfold fieldE
  rw [if_neg (fun q => q hg), if_neg (fun q => q h), firstE_at hz (by omega) hj, e]
theorem fE4 (hg : gridOk f.g) (h : (f.vals.length : Int) = f.g.wide * f.g.high) (hz : ∀ k, k < j → valE m f.vals k = 0) (hj : f.vals.length ≤ j) : 0 = fieldE m f := by
  unfold fieldE
  rw [if_neg (fun q => q hg), if_neg (fun q => q h), firstE_zero (fun k hk => hz k (by omega))]
theorem hE1 (h : ¬ fieldE 1073741824 f = 0) : fieldE 1073741824 f = heldE s f lv := by unfold heldE; rw [if_pos h]
theorem hE2 (h : fieldE 1073741824 f = 0) (h2 : ¬ s.length = f.vals.length) : 11 = heldE s f lv := by unfold heldE; rw [if_neg (fun q => q h), if_pos h2]
end
theorem bcheck_c (f : Field) (pv : Option Addr) (cv : Nat) (m : Int) (w : World) (hv : Spans w pv f.vals) :
 Calls Tryz.prog 61 #[.agg #[.int .i64 f.g.x, .int .i64 f.g.y, .int .i64 f.g.size, .int .i64 f.g.wide, .int .i64 f.g.high, .slice pv f.vals.length cv], .int .i64 m] w fun e w' => e = .returned (.int .i64 (fieldE m f)) ∧ St (bs w) [] w' := by
 refine enter (vs := [_,_]) (env := [(0,_), (1,_)]) Tryz.func61 rfl rfl rfl rfl ?_
 refine VC.q (VO.h rfl<|HO.box (C := #[_,_,_,_,_,_]) rfl rfl fun b1 => VO.a rfl rfl<|VO.n<|VC.seq<|VC.q (VO.f (r := 0) F48_0 rfl rfl rfl<|VO.l (LO.lda (vs := [_,_,_,_,_]) A23 (.r rfl) (cells_blk 0 rfl ⟨_, rfl⟩) rfl) rfl<|VO.l (LO.call (xs := [_]) (vs := [_]) C55 ⟨(.r rfl), trivial⟩ (fun w _ => checkGrid_c f.g w)) rfl<|VO.a rfl rfl<|VO.n<|VC.q (VO.m rfl rfl<|VO.u rfl rfl rfl<|VO.n<|VC.cond rfl (fun h1 => ?_) (fun h1 => ?_))))
 ·
  refine VC.q (VO.m rfl rfl<|VO.a rfl rfl<|VO.n<|VC.ret (VE.thenR (VE.s rfl rfl (fun w hw => ?_))))
  refine ⟨?_, hw.nil⟩
  simp only [resV]
  congr 2
  first | exact fE1 (by simpa using h1) | exact fE2 hgo (by simpa using h2) | exact fE3 hgo (by simpa using h2) hz (by omega) (by unfold spanOk; omega) | exact fE4 hgo (by simpa using h2) hz (by omega)
 ·
  have hgo : gridOk f.g := gridOk_of (by simpa using h1)
  have har := area_bd hgo
  refine VC.skip (VE.seqN<|VC.seq<|VC.q (VO.f (r := 5) F48_1 rfl rfl rfl<|VO.c 0 O46 rfl rfl ⟨_, rfl⟩ rfl<|VO.l (LO.len S46 (.r rfl) rfl) rfl<|VO.f (r := 0) F48_0 rfl rfl rfl<|VO.f (r := 3) F23_3 rfl rfl rfl<|VO.c 0 O3 rfl rfl ⟨_, rfl⟩ rfl<|VO.f (r := 0) F48_0 rfl rfl rfl<|VO.f (r := 4) F23_4 rfl rfl rfl<|VO.c 0 O3 rfl rfl ⟨_, rfl⟩ rfl<|VO.l (LO.mul (.r rfl) (.r rfl) (wi (by omega) (by omega))) rfl<|VO.u rfl rfl rfl<|VO.n<|VC.cond rfl (fun h2 => ?_) (fun h2 => ?_)))
  ·
   refine VC.q (VO.a rfl rfl<|VO.n<|VC.ret (VE.thenR (VE.s rfl rfl (fun w hw => ?_))))
   refine ⟨?_, hw.nil⟩
   simp only [resV]
   congr 2
   first | exact fE1 (by simpa using h1) | exact fE2 hgo (by simpa using h2) | exact fE3 hgo (by simpa using h2) hz (by omega) (by unfold spanOk; omega) | exact fE4 hgo (by simpa using h2) hz (by omega)
  ·
   refine VC.skip (VE.seqN<|VC.seq<|VC.q (VO.f (r := 5) F48_1 rfl rfl rfl<|VO.c 0 O46 rfl rfl ⟨_, rfl⟩ rfl<|VO.l (LO.len S46 (.r rfl) rfl) rfl<|VO.m rfl rfl<|VO.n<|VC.block<|VC.loopK (α := Nat) 0 (fun gx => [(28, .int .i64 (gx : Nat))]) [(1,_), (26,_), (27,_)] (fun gx => []) (fun gx => gx ≤ f.vals.length ∧ ∀ k, k < gx → valE m f.vals k = 0) (fun gx => f.vals.length - gx) 0 (by exact ⟨by omega, fun k hk => by omega⟩) (.c4 rfl rfl rfl rfl .nil) (fun _ h => h) ?_))
   rintro j ⟨hj, hz⟩
   refine VC.q (VO.t rfl rfl rfl<|VO.n<|VC.seq<|VC.cond rfl (fun h3 => ?_) (fun h3 => ?_))
   ·
    refine VC.skip (VE.seqN<|VC.seq<|VC.block<|VC.q (VO.l (LO.ixs S46 N77 hv.some (.r rfl) (.r rfl) rfl (by omega)) rfl<|VO.l (LO.lda (vs := [_,_]) A77 (.r rfl) (fun w hw => cells_part (off := 0) ((hv.at (j := j) (by omega)) w hw) ⟨_, rfl⟩) rfl) rfl<|VO.h rfl<|HO.alloc (C := #[_,_]) Z77 rfl fun b2 => VO.h0<|HO.st 0 (vs := [_,_]) (C' := [_,_]) (L' := [_,_]) N77 rfl rfl rfl rfl rfl rfl rfl rfl<|VO.n<|VC.q (VO.f (r := 0) F77_0 rfl rfl rfl<|VO.c 0 O3 rfl rfl ⟨_, rfl⟩ rfl<|VO.t rfl rfl rfl<|VO.m rfl rfl<|VO.gf rfl rfl (fun hg => LO.fa (r := 1) F77_1 (.r rfl) rfl) rfl<|VO.gf rfl rfl (fun hg => LO.ld O3 (.g hg rfl) (cells_blk 0 rfl ⟨_, rfl⟩)) rfl<|VO.gf rfl rfl (fun hg => LO.fa (r := 0) F77_0 (.r rfl) rfl) rfl<|VO.gf rfl rfl (fun hg => LO.ld O3 (.g hg rfl) (cells_blk 0 rfl ⟨_, rfl⟩)) rfl<|VO.gf rfl rfl (fun hg => LO.lt (.g hg rfl) (.g hg rfl)) rfl<|VO.l (LO.pkO (.r rfl) (.r rfl) rfl rfl) rfl<|VO.m rfl rfl<|VO.gf rfl rfl (fun hg => LO.fa (r := 1) F77_1 (.r rfl) rfl) rfl<|VO.gf rfl rfl (fun hg => LO.ld O3 (.g hg rfl) (cells_blk 0 rfl ⟨_, rfl⟩)) rfl<|VO.gf rfl rfl (fun hg => LO.mv (.r rfl)) rfl<|VO.gf rfl rfl (fun hg => LO.gt (.g hg rfl) (.g hg rfl)) rfl<|VO.l (LO.pkO (.r rfl) (.r rfl) rfl rfl) rfl<|VO.n<|VC.cond rfl (fun h4 => ?_) (fun h4 => ?_))))
    ·
     refine VC.q (VO.a rfl rfl<|VO.n<|VC.ret (VE.inR (VE.thenR (VE.thenR (VE.inR (VE.thenR (VE.s rfl rfl (fun w hw => ?_))))))))
     refine ⟨?_, hw.nil⟩
     simp only [resV]
     congr 2
     first | exact fE1 (by simpa using h1) | exact fE2 hgo (by simpa using h2) | exact fE3 hgo (by simpa using h2) hz (by omega) (by unfold spanOk; omega) | exact fE4 hgo (by simpa using h2) hz (by omega)
    ·
     refine VC.skip (VE.inN (VE.seqN<|VC.reg (VO.p rfl rfl (by omega) (by omega) rfl<|VO.m rfl rfl<|VO.nil<|VE.thenN fun a w ha hw => ⟨j + 1, ⟨by omega, step_zero hz (valE_zero (by unfold spanOk; omega))⟩, (by omega), ha.sub (.c4 rfl rfl rfl rfl .nil), hw.sel [1] rfl⟩)))
   ·
    refine VC.exit (VE.thenX (VE.thenX (VE.inX (VE.seqN<|VC.q (VO.a rfl rfl<|VO.n<|VC.ret (VE.s rfl rfl (fun w hw => ?_)))))))
    refine ⟨?_, hw.nil⟩
    simp only [resV]
    congr 2
    first | exact fE1 (by simpa using h1) | exact fE2 hgo (by simpa using h2) | exact fE3 hgo (by simpa using h2) hz (by omega) (by unfold spanOk; omega) | exact fE4 hgo (by simpa using h2) hz (by omega)
theorem fits_c (f : Field) (pv : Option Addr) (cv : Nat) (m : Int) (w : World) (hv : Spans w pv f.vals) :
 Calls Tryz.prog 62 #[.agg #[.int .i64 f.g.x, .int .i64 f.g.y, .int .i64 f.g.size, .int .i64 f.g.wide, .int .i64 f.g.high, .slice pv f.vals.length cv], .int .i64 m] w fun e w' => e = .returned (.int .i64 (fieldE m f)) ∧ St (bs w) [] w' := by
 refine enter (vs := [_,_]) (env := [(0,_), (1,_)]) Tryz.func62 rfl rfl rfl rfl ?_
 refine VC.q (VO.h rfl<|HO.box (C := #[_,_,_,_,_,_]) rfl rfl fun b1 => VO.a rfl rfl<|VO.n<|VC.q (VO.f (r := 0) F48_0 rfl rfl rfl<|VO.l (LO.lda (vs := [_,_,_,_,_]) A23 (.r rfl) (cells_blk 0 rfl ⟨_, rfl⟩) rfl) rfl<|VO.l (LO.call (xs := [_]) (vs := [_]) C58 ⟨(.r rfl), trivial⟩ (fun w _ => rCheckGrid_c f.g w)) rfl<|VO.a rfl rfl<|VO.n<|VC.seq<|VC.q (VO.m rfl rfl<|VO.u rfl rfl rfl<|VO.n<|VC.cond rfl (fun h1 => ?_) (fun h1 => ?_))))
 ·
  refine VC.q (VO.m rfl rfl<|VO.a rfl rfl<|VO.n<|VC.ret (VE.thenR (VE.s rfl rfl (fun w hw => ?_))))
  refine ⟨?_, hw.nil⟩
  simp only [resV]
  congr 2
  first | exact fE1 (by simpa using h1) | exact fE2 hgo (by simpa using h2) | exact fE3 hgo (by simpa using h2) hz (by omega) (by unfold spanOk; omega) | exact fE4 hgo (by simpa using h2) hz (by omega)
 ·
  have hgo : gridOk f.g := gridOk_of (by simpa using h1)
  have har := area_bd hgo
  refine VC.skip (VE.seqN<|VC.seq<|VC.q (VO.f (r := 5) F48_1 rfl rfl rfl<|VO.c 0 O46 rfl rfl ⟨_, rfl⟩ rfl<|VO.l (LO.len S46 (.r rfl) rfl) rfl<|VO.f (r := 0) F48_0 rfl rfl rfl<|VO.f (r := 3) F23_3 rfl rfl rfl<|VO.c 0 O3 rfl rfl ⟨_, rfl⟩ rfl<|VO.f (r := 0) F48_0 rfl rfl rfl<|VO.f (r := 4) F23_4 rfl rfl rfl<|VO.c 0 O3 rfl rfl ⟨_, rfl⟩ rfl<|VO.l (LO.mul (.r rfl) (.r rfl) (wi (by omega) (by omega))) rfl<|VO.u rfl rfl rfl<|VO.n<|VC.cond rfl (fun h2 => ?_) (fun h2 => ?_)))
  ·
   refine VC.q (VO.a rfl rfl<|VO.n<|VC.ret (VE.thenR (VE.s rfl rfl (fun w hw => ?_))))
   refine ⟨?_, hw.nil⟩
   simp only [resV]
   congr 2
   first | exact fE1 (by simpa using h1) | exact fE2 hgo (by simpa using h2) | exact fE3 hgo (by simpa using h2) hz (by omega) (by unfold spanOk; omega) | exact fE4 hgo (by simpa using h2) hz (by omega)
  ·
   refine VC.skip (VE.seqN<|VC.seq<|VC.q (VO.a rfl rfl<|VO.n<|VC.block<|VC.loopK (α := Nat) 0 (fun gx => [(6, .int .i64 (gx : Nat))]) [(1,_), (2,_)] (fun gx => []) (fun gx => gx ≤ f.vals.length ∧ ∀ k, k < gx → valE m f.vals k = 0) (fun gx => f.vals.length - gx) 0 (by exact ⟨by omega, fun k hk => by omega⟩) (.cons rfl (.cons rfl (.cons rfl .nil))) (fun _ h => h) ?_))
   rintro j ⟨hj, hz⟩
   refine VC.seq<|VC.q (VO.m rfl rfl<|VO.f (r := 5) F48_1 rfl rfl rfl<|VO.c 0 O46 rfl rfl ⟨_, rfl⟩ rfl<|VO.l (LO.len S46 (.r rfl) rfl) rfl<|VO.t rfl rfl rfl<|VO.n<|VC.cond rfl (fun h3 => ?_) (fun h3 => ?_))
   ·
    refine VC.skip (VE.seqN<|VC.seq<|VC.block<|VC.q (VO.f (r := 5) F48_1 rfl rfl rfl<|VO.c 0 O46 rfl rfl ⟨_, rfl⟩ rfl<|VO.m rfl rfl<|VO.l (LO.ixs S46 N77 hv.some (.r rfl) (.r rfl) rfl (by omega)) rfl<|VO.l (LO.lda (vs := [_,_]) A77 (.r rfl) (fun w hw => cells_part (off := 0) ((hv.at (j := j) (by omega)) w hw) ⟨_, rfl⟩) rfl) rfl<|VO.m rfl rfl<|VO.l (LO.call (xs := [_,_,_]) (vs := [_,_,_]) C77 ⟨(.r rfl), (.r rfl), (.r rfl), trivial⟩ (fun w _ => Valid_c _ _ _ _ w)) rfl<|VO.l (LO.not (.r rfl)) rfl<|VO.n<|VC.cond rfl (fun h4 => ?_) (fun h4 => ?_)))
    ·
     refine VC.q (VO.a rfl rfl<|VO.n<|VC.ret (VE.inR (VE.thenR (VE.thenR (VE.inR (VE.thenR (VE.s rfl rfl (fun w hw => ?_))))))))
     refine ⟨?_, hw.nil⟩
     simp only [resV]
     congr 2
     first | exact fE1 (by simpa using h1) | exact fE2 hgo (by simpa using h2) | exact fE3 hgo (by simpa using h2) hz (by omega) (by unfold spanOk; omega) | exact fE4 hgo (by simpa using h2) hz (by omega)
    ·
     refine VC.skip (VE.inN (VE.seqN<|VC.reg (VO.m rfl rfl<|VO.p rfl rfl (by omega) (by omega) rfl<|VO.a rfl rfl<|VO.nil<|VE.thenN fun a w ha hw => ⟨j + 1, ⟨by omega, step_zero hz (valE_zero (by unfold spanOk; omega))⟩, (by omega), ha.sub (.cons rfl (.cons rfl (.cons rfl .nil))), hw⟩)))
   ·
    refine VC.exit (VE.thenX (VE.thenX (VE.inX (VE.seqN<|VC.q (VO.a rfl rfl<|VO.n<|VC.ret (VE.s rfl rfl (fun w hw => ?_)))))))
    refine ⟨?_, hw.nil⟩
    simp only [resV]
    congr 2
    first | exact fE1 (by simpa using h1) | exact fE2 hgo (by simpa using h2) | exact fE3 hgo (by simpa using h2) hz (by omega) (by unfold spanOk; omega) | exact fE4 hgo (by simpa using h2) hz (by omega)
theorem bCheckField_c (f : Field) (pv : Option Addr) (cv : Nat) (w : World) (hv : Spans w pv f.vals) :
 Calls Tryz.prog 32 #[.agg #[.int .i64 f.g.x, .int .i64 f.g.y, .int .i64 f.g.size, .int .i64 f.g.wide, .int .i64 f.g.high, .slice pv f.vals.length cv]] w fun e w' => e = .returned (.int .i64 (fieldE 1073741824 f)) ∧ St (bs w) [] w' := by
 refine enter (vs := [_]) (env := [(0,_)]) Tryz.func32 rfl rfl rfl rfl ?_
 refine VC.q (VO.h rfl<|HO.box (C := #[_,_,_,_,_,_]) rfl rfl fun b1 => VO.a rfl rfl<|VO.n<|VC.q (VO.l (LO.lda (vs := [_,_,_,_,_,_]) A48 (.r rfl) (cells_blk 0 rfl ⟨_, rfl⟩) rfl) rfl<|VO.l (LO.call (xs := [_,_]) (vs := [_,_]) C61 ⟨(.r rfl), (.r rfl), trivial⟩ (fun w hw => bcheck_c f pv cv _ w (hv.keep w hw))) rfl<|VO.a rfl rfl<|VO.n<|VC.ret (VE.s rfl rfl (fun w hw => ?_))))
 exact ⟨rfl, hw.nil⟩
theorem rCheckField_c (f : Field) (pv : Option Addr) (cv : Nat) (w : World) (hv : Spans w pv f.vals) :
 Calls Tryz.prog 35 #[.agg #[.int .i64 f.g.x, .int .i64 f.g.y, .int .i64 f.g.size, .int .i64 f.g.wide, .int .i64 f.g.high, .slice pv f.vals.length cv]] w fun e w' => e = .returned (.int .i64 (fieldE 1073741824 f)) ∧ St (bs w) [] w' := by
 refine enter (vs := [_]) (env := [(0,_)]) Tryz.func35 rfl rfl rfl rfl ?_
 refine VC.q (VO.h rfl<|HO.box (C := #[_,_,_,_,_,_]) rfl rfl fun b1 => VO.a rfl rfl<|VO.n<|VC.q (VO.l (LO.lda (vs := [_,_,_,_,_,_]) A48 (.r rfl) (cells_blk 0 rfl ⟨_, rfl⟩) rfl) rfl<|VO.l (LO.call (xs := [_,_]) (vs := [_,_]) C62 ⟨(.r rfl), (.r rfl), trivial⟩ (fun w hw => fits_c f pv cv _ w (hv.keep w hw))) rfl<|VO.a rfl rfl<|VO.n<|VC.ret (VE.s rfl rfl (fun w hw => ?_))))
 exact ⟨rfl, hw.nil⟩
end Go.Proofs.YtdjflomhaljljaaGreat
namespace Go.SL
set_option linter.unusedVariables false
open Go.RowKit
theorem St.of_perm {β : Bs} {L L' : List Res} {w : World} (h : St β L w) (hp : List.Perm L L') : St β L' w := by
  have mem : ∀ {r : Res}, r ∈ L' → ∃ i : Nat, L[i]? = some r := fun hr => by
    obtain ⟨i, hi, e⟩ := List.getElem_of_mem (hp.symm.subset hr)
    exact ⟨i, by rw [List.getElem?_eq_getElem hi, e]⟩
  have hpw : L.Pairwise (fun r s : Res => ∀ k, r.fp k → ¬ s.fp k) := List.pairwise_iff_getElem.2 fun i j hi hj hij k hk => h.dis i j _ _ (by omega) (List.getElem?_eq_getElem hi) (List.getElem?_eq_getElem hj) k hk
  have hpw' := (hp.pairwise_iff (fun {r s} (q : ∀ k, r.fp k → ¬ s.fp k) k hs hr => q k hr hs)).1 hpw
  refine ⟨h.os, h.tape, h.output, h.size, h.fr, ?_, ?_, ?_⟩
  · intro i r hr
    obtain ⟨j, hj⟩ := mem (List.mem_of_getElem? hr)
    exact h.inv j r hj
  · intro i r hr
    obtain ⟨j, hj⟩ := mem (List.mem_of_getElem? hr)
    exact h.rng j r hj
  · intro i j r s hij hr hs k hk hk2
    obtain ⟨hi, e1⟩ := List.getElem?_eq_some_iff.1 hr
    obtain ⟨hj, e2⟩ := List.getElem?_eq_some_iff.1 hs
    rcases Nat.lt_or_ge i j with q | q
    · have := List.pairwise_iff_getElem.1 hpw' i j hi hj q k
      rw [e1, e2] at this; exact this hk hk2
    · have := List.pairwise_iff_getElem.1 hpw' j i hj hi (by omega) k
      rw [e1, e2] at this; exact this hk2 hk
structure FS where
  i : Nat
  d : Nat
  val : Nat → Value
  T : TypeId
  C : Array Value
def FS.res (s : FS) (b : Nat) : Res := blk b (.cells s.C s.T)
def FO (P : Program) (env : Env) (o : Oper) (s : FS) : Prop :=
  o.dst = some s.d ∧ o.guard = none ∧ ∀ (a : Act) (w : World), (∀ x, x ∈ o.op.operands → ∀ u, ev env x = some u → a.eval x = u) → (execOp a.eval o).run P w = .ok (.value (s.val w.heap.size)) (w.alloc (.cells s.C s.T))
def isF (FT : List FS) (i : Nat) : Option FS := FT.find? fun s => Nat.beq s.i i
def HY (P : Program) (β : Bs) (N : Nat) (ds : List Deferred) (J : Nat → List Res) (Q : Exit → Act → World → Prop) (FT : List FS) : Nat → Nat → List Oper → List (Option Nat) → Env → List Res → Prop
  | _,_, [],_, env, L => VE β N ds env L .normal Q
  | m, i, o :: r, some _ :: ms, env, L => HY P β N ds J Q FT m (i + 1) r ms env L
  | m, i, o :: r, none :: ms, env, L =>
    (∃ s, isF FT i = some s ∧ ∀ b, (∀ w, St β (s.res b :: L) w → St β (J (m + 1)) w) ∧ HY P β N ds J Q FT (m + 1) (i + 1) r ms ((s.d, s.val b) :: env) (s.res b :: L)) ∨
    (isF FT i = none ∧ o.guard = none ∧ (∀ d, o.dst = some d → d < N) ∧ ∀ X, HO P β env (L ++ X) o fun v L'' => ∃ L', L'' = L' ++ X ∧ (∀ w, St β L' w → St β (J (m + 1)) w) ∧ HY P β N ds J Q FT (m + 1) (i + 1) r ms (putE o v env) L')
  | _,_,_ :: _, [],_,_ => False
section
variable {P : Program} {ro : Option Nat} {β : Bs} {ds : List Deferred} {N : Nat} {J : Nat → List Res} {Q : Exit → Act → World → Prop} {FT : List FS} {env : Env} {L : List Res}
theorem HY.nil {m i : Nat} {ms : List (Option Nat)} (h : VE β N ds env L .normal Q) : HY P β N ds J Q FT m i [] ms env L := h
theorem HY.s {m i k : Nat} {o : Oper} {rest : List Oper} {ms : List (Option Nat)} (h : HY P β N ds J Q FT m (i + 1) rest ms env L) : HY P β N ds J Q FT m i (o :: rest) (some k :: ms) env L := h
theorem HY.f {m i : Nat} {o : Oper} {rest : List Oper} {ms : List (Option Nat)} {s : FS} (hs : isF FT i = some s) (h : ∀ b, (∀ w, St β (s.res b :: L) w → St β (J (m + 1)) w) ∧ HY P β N ds J Q FT (m + 1) (i + 1) rest ms ((s.d, s.val b) :: env) (s.res b :: L)) : HY P β N ds J Q FT m i (o :: rest) (none :: ms) env L := .inl ⟨s, hs, h⟩
theorem HY.h {m i d : Nat} {op : Op} {ty : TypeId} {pos : String} {aft : Array Edge} {rest : List Oper} {ms : List (Option Nat)} (hs : isF FT i = none) (hd : Nat.blt d N = true)
    (h : ∀ X, HO P β env (L ++ X) ⟨some d, op, ty, pos, aft, none⟩ fun v L'' => ∃ L', L'' = L' ++ X ∧ (∀ w, St β L' w → St β (J (m + 1)) w) ∧ HY P β N ds J Q FT (m + 1) (i + 1) rest ms ((d, v) :: env) L') : HY P β N ds J Q FT m i (⟨some d, op, ty, pos, aft, none⟩ :: rest) (none :: ms) env L :=
  .inr ⟨hs, rfl, (fun d' hd' => by cases hd'; exact Nat.le_of_ble_eq_true hd), h⟩
theorem HY.h0 {m i : Nat} {op : Op} {ty : TypeId} {pos : String} {aft : Array Edge} {rest : List Oper} {ms : List (Option Nat)} (hs : isF FT i = none)
    (h : ∀ X, HO P β env (L ++ X) ⟨none, op, ty, pos, aft, none⟩ fun v L'' => ∃ L', L'' = L' ++ X ∧ (∀ w, St β L' w → St β (J (m + 1)) w) ∧ HY P β N ds J Q FT (m + 1) (i + 1) rest ms env L') : HY P β N ds J Q FT m i (⟨none, op, ty, pos, aft, none⟩ :: rest) (none :: ms) env L :=
  .inr ⟨hs, rfl, (fun d' hd' => by cases hd'), h⟩
theorem HY.drop {l : List Oper} {ms : List (Option Nat)} {m p : Nat} : ∀ (k : Nat), HY P β N ds J Q FT m p (l.drop p) (ms.drop p) env L → p + k ≤ l.length → (∀ i, p ≤ i → i < p + k → isLight ms i = true) → HY P β N ds J Q FT m (p + k) (l.drop (p + k)) (ms.drop (p + k)) env L
  | 0, h,_,_ => h
  | k + 1, h, hk, hl => by
    have ih := HY.drop k h (by omega) (fun i a b => hl i a (by omega))
    have hlt : p + k < l.length := by omega
    have hli := hl (p + k) (by omega) (by omega)
    rw [List.drop_eq_getElem_cons hlt] at ih
    cases q : ms[p + k]? with
    | none => simp [isLight, q] at hli
    | some x =>
      have hml : p + k < ms.length := (List.getElem?_eq_some_iff.1 q).1
      rw [List.drop_eq_getElem_cons hml] at ih
      have e : ms[p + k] = x := (List.getElem?_eq_some_iff.1 q).2
      rw [e] at ih
      cases x with
      | none => simp [isLight, q] at hli
      | some y => exact ih
def chkB (l : List Oper) (ms : List (Option Nat)) (js : List (List Nat)) (FT : List (Nat × Nat)) : Bool :=
  let cl := clOf l
  let n := l.length
  let isFi := fun i => FT.any fun s => Nat.beq s.1 i
  let isD := fun t => FT.any fun s => Nat.beq s.2 t
  nodupB (FT.map (·.1)) && nodupB (FT.map (·.2)) &&
  FT.all (fun s => Nat.blt s.1 n && isHeavy ms s.1 && dstIs l s.1 s.2) &&
  Nat.beq ms.length n && js.all nodupB && ((idxs js.length).all fun m => (js.getD (m + 1) []).all (js.getD m []).contains) &&
  (idxs n).all fun k =>
    match l[k]? with
    | none => false
    | some o =>
      o.after.toList.all (fun e => !Region.binds .any e || Nat.blt e.on k) &&
      (cl.getD k []).all (fun i => o.after.toList.any fun e => Region.binds .any e && (Nat.beq e.on i || (cl.getD e.on []).contains i)) &&
      o.after.toList.all (fun e => !Region.binds .any e || (cl.getD k []).contains e.on) &&
      (isLight ms k || isFi k || (idxs n).all fun i => !isHeavy ms i || !Nat.blt i k || (cl.getD k []).contains i) &&
      (match ms.getD k none with | some m => (idxs n).all fun i => !isHeavy ms i || Nat.blt (rank ms i) m || (cl.getD i []).contains k | none => true) &&
      (match o.dst with
       | none => !isLight ms k
       | some d => ((idxs n).all fun i => !dstIs l i d || !ahead ms i k || (cl.getD k []).contains i) && (isFi k || !isD d)) &&
      ((readsOf l.toArray o).all fun t => ((idxs n).all fun i => !dstIs l i t || ((!ahead ms i k || (cl.getD k []).contains i) && (!ahead ms k i || (cl.getD i []).contains k))) && (!(isLight ms k || isFi k) || !isD t) && (!isFi k || !(idxs n).any fun i => isHeavy ms i && dstIs l i t) && (FT.all fun s => !Nat.beq s.2 t || Nat.blt s.1 k))
structure ChkB (l : List Oper) (ms : List (Option Nat)) (js : List (List Nat)) (FT : List FS) : Prop where
  len : ms.length = l.length
  jn : ∀ m, nodupB (js.getD m []) = true
  js : ∀ m, (js.getD (m + 1) []).all (js.getD m []).contains = true
  fi : ∀ s, s ∈ FT → s.i < l.length ∧ isHeavy ms s.i = true ∧ dstIs l s.i s.d = true
  ni : (FT.map (·.i)).Nodup
  nd : (FT.map (·.d)).Nodup
  ops : ∀ k o, l[k]? = some o →
      (∀ e, e ∈ o.after.toList → Region.binds .any e = true → e.on < k) ∧
      (∀ i, i ∈ (clOf l).getD k [] → ∃ e, e ∈ o.after.toList ∧ Region.binds .any e = true ∧ (e.on = i ∨ i ∈ (clOf l).getD e.on [])) ∧
      (isHeavy ms k = true → isF FT k = none → ∀ i, i < k → isHeavy ms i = true → i ∈ (clOf l).getD k []) ∧
      (∀ m, ms[k]? = some (some m) → ∀ i, i < l.length → isHeavy ms i = true → rank ms i < m ∨ k ∈ (clOf l).getD i []) ∧
      (∀ d, o.dst = some d → (∀ i, i < l.length → dstIs l i d = true → ahead ms i k = true → i ∈ (clOf l).getD k []) ∧ (isF FT k = none → ∀ s, s ∈ FT → s.d ≠ d)) ∧
      (∀ t, t ∈ readsOf l.toArray o → (∀ i, i < l.length → dstIs l i t = true → (ahead ms i k = true → i ∈ (clOf l).getD k []) ∧ (ahead ms k i = true → k ∈ (clOf l).getD i [])) ∧
        ((isLight ms k = true ∨ isF FT k ≠ none) → ∀ s, s ∈ FT → s.d ≠ t) ∧ (isF FT k ≠ none → ∀ i, i < l.length → isHeavy ms i = true → dstIs l i t = false) ∧ ∀ s, s ∈ FT → s.d = t → s.i < k)
theorem isF_some {i : Nat} {s : FS} (h : isF FT i = some s) : s ∈ FT ∧ s.i = i := ⟨List.mem_of_find?_eq_some h, Nat.eq_of_beq_eq_true (List.find?_some (p := fun s : FS => Nat.beq s.i i) h)⟩
theorem isF_none {i : Nat} (h : isF FT i = none) : ∀ s, s ∈ FT → s.i ≠ i := fun s hs e => by
  have := List.find?_eq_none.1 h s hs
  rw [e] at this; simp at this
theorem isF_mem (hn : (FT.map (·.i)).Nodup) {s : FS} (hs : s ∈ FT) : isF FT s.i = some s := by
  cases q : isF FT s.i with
  | none => exact absurd rfl (isF_none q s hs)
  | some u =>
    obtain ⟨h1, h2⟩ := isF_some q
    have hnd := List.pairwise_iff_getElem.1 hn
    obtain ⟨p1, hp1, e1⟩ := List.getElem_of_mem h1
    obtain ⟨p2, hp2, e2⟩ := List.getElem_of_mem hs
    rcases Nat.lt_trichotomy p1 p2 with r | r | r
    · exact absurd (by rw [List.getElem_map, List.getElem_map, e1, e2, h2]) (hnd p1 p2 (by simpa using hp1) (by simpa using hp2) r)
    · subst r; rw [← e1, e2]
    · exact absurd (by rw [List.getElem_map, List.getElem_map, e1, e2, h2]) (hnd p2 p1 (by simpa using hp2) (by simpa using hp1) r)
theorem nodupB_nd : ∀ {l : List Nat}, nodupB l = true → l.Nodup := fun {l} h => by
  rw [List.Nodup, List.pairwise_iff_getElem]
  intro i j hi hj hij
  exact nodupB_spec h i j hi hj (by omega)
theorem beqne' {d t : Nat} (e : t ≠ d) : Nat.beq d t = false := by
  cases q : Nat.beq d t
  · rfl
  · exact absurd (Nat.eq_of_beq_eq_true q).symm e
theorem ChkB.of {l : List Oper} {ms : List (Option Nat)} {js : List (List Nat)} (h : chkB l ms js (FT.map fun s => (s.i, s.d)) = true) : ChkB l ms js FT := by
  unfold chkB at h
  simp only [Bool.and_eq_true] at h
  obtain ⟨⟨⟨⟨⟨⟨n1, n2⟩, n5⟩, h1⟩, h2⟩, h3⟩, h4⟩ := h
  have hlen := Nat.eq_of_beq_eq_true h1
  have key : ∀ k o, l[k]? = some o → _ := fun k o hk => by
    have hlt : k < l.length := (List.getElem?_eq_some_iff.1 hk).1
    have h5 := List.all_eq_true.1 h4 k (by simpa [idxs] using hlt)
    simp only [hk, Bool.and_eq_true] at h5
    exact h5
  have anyF : ∀ k, isF FT k = none → ((FT.map fun s => (s.i, s.d)).any fun s => Nat.beq s.1 k) = false := fun k hk => by
    cases q : (FT.map fun s => (s.i, s.d)).any fun s => Nat.beq s.1 k with
    | false => rfl
    | true =>
      obtain ⟨x, hx, e⟩ := List.any_eq_true.1 q
      obtain ⟨s, hs, rfl⟩ := List.mem_map.1 hx
      exact absurd (Nat.eq_of_beq_eq_true e) (isF_none hk s hs)
  have anyF' : ∀ k, isF FT k ≠ none → ((FT.map fun s => (s.i, s.d)).any fun s => Nat.beq s.1 k) = true := fun k hk => by
    cases q : isF FT k with
    | none => exact absurd q hk
    | some s =>
      obtain ⟨a, b⟩ := isF_some q
      exact List.any_eq_true.2 ⟨(s.i, s.d), List.mem_map.2 ⟨s, a, rfl⟩, by rw [b]; exact Nat.beq_refl _⟩
  have anyD : ∀ t, ((FT.map fun s => (s.i, s.d)).any fun s => Nat.beq s.2 t) = false → ∀ s, s ∈ FT → s.d ≠ t := fun t ht s hs e => by
    have : ((FT.map fun s => (s.i, s.d)).any fun s => Nat.beq s.2 t) = true := List.any_eq_true.2 ⟨(s.i, s.d), List.mem_map.2 ⟨s, hs, rfl⟩, by rw [e]; exact Nat.beq_refl _⟩
    rw [ht] at this; cases this
  have nl : ∀ k, k < l.length → isHeavy ms k = true → isLight ms k = false := fun k hk hh => by
    rcases light_or_heavy hlen hk with ⟨_, b,_⟩ | ⟨a,_,_⟩
    · rw [b] at hh; cases hh
    · exact a
  refine ⟨hlen, ?_, ?_, ?_, ?_, ?_, ?_⟩
  · intro m
    cases q : js[m]? with
    | none => simp [List.getD, q, nodupB]
    | some x => simp only [List.getD, q, Option.getD_some]; exact List.all_eq_true.1 h2 x (List.mem_of_getElem? q)
  · intro m
    rcases Nat.lt_or_ge m js.length with q | q
    · exact List.all_eq_true.1 h3 m (by simpa [idxs] using q)
    · have : js[m + 1]? = none := by simp; omega
      simp [List.getD, this]
  · intro s hs
    have := List.all_eq_true.1 n5 (s.i, s.d) (List.mem_map.2 ⟨s, hs, rfl⟩)
    simp only [Bool.and_eq_true] at this
    exact ⟨Nat.le_of_ble_eq_true this.1.1, this.1.2, this.2⟩
  · have := nodupB_nd n1; rwa [List.map_map] at this
  · have := nodupB_nd n2; rwa [List.map_map] at this
  · intro k o hk
    have hlt : k < l.length := (List.getElem?_eq_some_iff.1 hk).1
    obtain ⟨⟨⟨⟨⟨⟨a1, a2⟩, a3⟩, a4⟩, a5⟩, a6⟩, a7⟩ := key k o hk
    refine ⟨?_, ?_, ?_, ?_, ?_, ?_⟩
    · intro e he hb
      have := List.all_eq_true.1 a1 e he
      simp only [hb, Bool.not_true, Bool.false_or] at this
      exact Nat.le_of_ble_eq_true this
    · intro i hi
      have := List.all_eq_true.1 a2 i hi
      obtain ⟨e, he, hx⟩ := List.any_eq_true.1 this
      simp only [Bool.and_eq_true, Bool.or_eq_true] at hx
      exact ⟨e, he, hx.1, hx.2.imp Nat.eq_of_beq_eq_true (by simp)⟩
    · intro hh hf i hi hh2
      rw [nl k hlt hh, anyF k hf, Bool.false_or, Bool.false_or] at a4
      have := List.all_eq_true.1 a4 i (by simp [idxs]; omega)
      have hb : Nat.blt i k = true := Nat.ble_eq_true_of_le hi
      simpa [hh2, hb] using this
    · intro m hm i hi hh
      have e : ms.getD k none = some m := by simp [List.getD, hm]
      rw [e] at a5
      have := List.all_eq_true.1 a5 i (by simpa [idxs] using hi)
      simp only [hh, Bool.not_true, Bool.false_or, Bool.or_eq_true] at this
      exact this.imp (fun q => Nat.le_of_ble_eq_true q) (by simp)
    · intro d hd
      simp only [hd, Bool.and_eq_true] at a6
      refine ⟨fun i hi hw ha => ?_, fun hf => ?_⟩
      · have := List.all_eq_true.1 a6.1 i (by simpa [idxs] using hi)
        simpa [hw, ha] using this
      · have := a6.2
        rw [anyF k hf, Bool.false_or, Bool.not_eq_true'] at this
        exact anyD d this
    · intro t ht
      have := List.all_eq_true.1 a7 t ht
      simp only [Bool.and_eq_true] at this
      obtain ⟨⟨⟨b1, b2⟩, b3⟩, b4⟩ := this
      refine ⟨fun i hi hw => ?_, fun hor => ?_, fun hf i hi hh => ?_, fun s hs e => ?_⟩
      · have := List.all_eq_true.1 b1 i (by simpa [idxs] using hi)
        simp only [hw, Bool.not_true, Bool.false_or, Bool.and_eq_true] at this
        exact ⟨fun q => by simpa [q] using this.1, fun q => by simpa [q] using this.2⟩
      · have hc : (isLight ms k || (FT.map fun s => (s.i, s.d)).any fun s => Nat.beq s.1 k) = true := by
          rcases hor with q | q
          · rw [q, Bool.true_or]
          · rw [anyF' k q, Bool.or_true]
        rw [hc, Bool.not_true, Bool.false_or, Bool.not_eq_true'] at b2
        exact anyD t b2
      · rw [anyF' k hf, Bool.not_true, Bool.false_or, Bool.not_eq_true'] at b3
        cases q : dstIs l i t with
        | false => rfl
        | true =>
          have : ((idxs l.length).any fun i => isHeavy ms i && dstIs l i t) = true := List.any_eq_true.2 ⟨i, by simpa [idxs] using hi, by rw [hh, q]; rfl⟩
          rw [b3] at this; cases this
      · have := List.all_eq_true.1 b4 (s.i, s.d) (List.mem_map.2 ⟨s, hs, rfl⟩)
        rw [e] at this
        simp at this
        exact this
structure Hz (P : Program) (β : Bs) (N : Nat) (ds : List Deferred) (J : Nat → List Res) (Q : Exit → Act → World → Prop) (FT : List FS) (l : List Oper) (ms : List (Option Nat)) (V : Nat → Value) (env : Env) (listed : Array Bool) (p : Nat) (eh : Env) (L : List Res) (E : List (FS × Nat)) (a : Act) (w : World) : Prop where
  lsz : listed.size = l.length
  size : a.tmps.size = N
  dfr : a.defers = ds
  st : St β (L ++ E.map fun x => x.1.res x.2) w
  hJ : ∀ w, St β L w → St β (J (rank ms p)) w
  hp : p ≤ l.length
  hy : HY P β N ds J Q FT (rank ms p) p (l.drop p) (ms.drop p) (eh ++ envK l ms V env l.length) L
  eE : ∀ x, x ∈ E → x.1 ∈ FT ∧ p ≤ x.1.i
  en : (E.map fun x => x.1.i).Nodup
  hd : ∀ i, i < l.length → isHeavy ms i = true → (listed[i]? = some true ↔ i < p ∨ ∃ x, x ∈ E ∧ x.1.i = i)
  closed : ∀ j, listed[j]? = some true → ∀ i, i ∈ (clOf l).getD j [] → listed[i]? = some true
  sl : ∀ x, x ∈ E → a.tmps[x.1.d]? = some (x.1.val x.2)
  eh1 : ∀ t v, ev1 eh t = some v → a.tmps[t]? = some v
  eh2 : ∀ t, ev1 eh t = none → ∀ i, i < p → isHeavy ms i = true → dstIs l i t = false
  eh3 : ∀ t, ev1 eh t ≠ none → ∃ i, i < p ∧ isHeavy ms i = true ∧ dstIs l i t = true
  top : ∀ t k, ev1 eh t = none → (∀ s, s ∈ FT → s.d ≠ t) → k < l.length → isLight ms k = true → dstIs l k t = true → listed[k]? = some true → (∀ k', k' < l.length → isLight ms k' = true → dstIs l k' t = true → listed[k']? = some true → k' ≤ k) → a.tmps[t]? = some (V k)
  base : ∀ t, ev1 eh t = none → (∀ s, s ∈ FT → s.d ≠ t) → (∀ k, k < l.length → isLight ms k = true → dstIs l k t = true → listed[k]? ≠ some true) → ∀ v, ev1 env t = some v → a.tmps[t]? = some v
theorem inj_of_nodup {α γ : Type} {f : α → γ} {l : List α} (h : (l.map f).Nodup) {x y : α} (hx : x ∈ l) (hy : y ∈ l) (e : f x = f y) : x = y := by
  have hnd := List.pairwise_iff_getElem.1 h
  obtain ⟨p1, hp1, e1⟩ := List.getElem_of_mem hx
  obtain ⟨p2, hp2, e2⟩ := List.getElem_of_mem hy
  rcases Nat.lt_trichotomy p1 p2 with q | q | q
  · exact absurd (by rw [List.getElem_map, List.getElem_map, e1, e2, e]) (hnd p1 p2 (by simpa using hp1) (by simpa using hp2) q)
  · subst q; rw [← e1, e2]
  · exact absurd (by rw [List.getElem_map, List.getElem_map, e1, e2, e]) (hnd p2 p1 (by simpa using hp2) (by simpa using hp1) q)
theorem rank_lights {ms : List (Option Nat)} {p i : Nat} (hpi : p ≤ i) (hm : i ≤ ms.length) (h : ∀ k, p ≤ k → k < i → isLight ms k = true) : rank ms i = rank ms p := by
  have : ∀ k, p + k ≤ i → rank ms (p + k) = rank ms p := by
    intro k
    induction k with
    | zero => intro _; rfl
    | succ k ih =>
      intro hk
      have hlk := h (p + k) (by omega) (by omega)
      have hkl : p + k < ms.length := by omega
      rw [show p + (k + 1) = (p + k) + 1 by omega, rank_succ hkl, ih (by omega)]
      cases r : ms[p + k] with
      | none => simp [isLight, hkl, r] at hlk
      | some x => simp
  have := this (i - p) (by omega)
  rwa [show p + (i - p) = i by omega] at this
theorem Hz.catch {l : List Oper} {ms : List (Option Nat)} {js : List (List Nat)} {V : Nat → Value} {listed : Array Bool} {p : Nat} {eh : Env} {E : List (FS × Nat)} {a : Act} {w : World} (hc : ChkB l ms js FT)
    (h : Hz P β N ds J Q FT l ms V env listed p eh L E a w) {x : FS × Nat} (hx : x ∈ E) (hl : ∀ k, p ≤ k → k < x.1.i → isLight ms k = true) :
    ∃ eh' L' E', Hz P β N ds J Q FT l ms V env listed (x.1.i + 1) eh' L' E' a w ∧ E'.length < E.length := by
  obtain ⟨hxF, hpx⟩ := h.eE x hx
  obtain ⟨hil, hhv, hdx⟩ := hc.fi x.1 hxF
  have hy := HY.drop (x.1.i - p) h.hy (by omega) (fun k a b => hl k a (by omega))
  rw [show p + (x.1.i - p) = x.1.i by omega] at hy
  have hml : x.1.i < ms.length := by rw [hc.len]; exact hil
  have e2 : ms[x.1.i] = none := by
    have := hhv
    unfold isHeavy at this
    rw [List.getElem?_eq_getElem hml] at this
    cases q : ms[x.1.i] with
    | none => rfl
    | some y => rw [q] at this; cases this
  rw [List.drop_eq_getElem_cons hil, List.drop_eq_getElem_cons hml, e2] at hy
  have hF := isF_mem hc.ni hxF
  rcases hy with ⟨s, hs, hb⟩ | ⟨hn,_⟩
  · rw [hF] at hs
    cases hs
    obtain ⟨hb1, hb2⟩ := hb x.2
    obtain ⟨E1, E2, rfl⟩ := List.append_of_mem hx
    have hrk : rank ms x.1.i = rank ms p := rank_lights hpx (by omega) hl
    have hrk1 : rank ms (x.1.i + 1) = rank ms p + 1 := by rw [rank_succ hml, e2, hrk]; simp
    have hnd := h.en
    simp only [List.map_append, List.map_cons] at hnd
    have hne : ∀ y, y ∈ E1 ++ E2 → y.1.i ≠ x.1.i := fun y hy e => by
      have h2 := (List.nodup_append.1 hnd)
      rcases List.mem_append.1 hy with q | q
      · exact h2.2.2 _ (List.mem_map.2 ⟨y, q, rfl⟩) _ (by simp) e
      · exact (List.nodup_cons.1 h2.2.1).1 (List.mem_map.2 ⟨y, q, e⟩)
    have gt : ∀ y, y ∈ E1 ++ E2 → x.1.i + 1 ≤ y.1.i := fun y hy => by
      have hyE : y ∈ E1 ++ x :: E2 := by rcases List.mem_append.1 hy with q | q <;> simp [q]
      obtain ⟨hyF, hpy⟩ := h.eE y hyE
      have h1 := hne y hy
      rcases Nat.lt_or_ge y.1.i x.1.i with q | q
      · have h2 := hl y.1.i hpy q
        rcases light_or_heavy hc.len (hc.fi y.1 hyF).1 with ⟨_, b,_⟩ | ⟨b,_,_⟩
        · rw [(hc.fi y.1 hyF).2.1] at b; cases b
        · rw [b] at h2; cases h2
      · omega
    have hdi : ∀ t, dstIs l x.1.i t = Nat.beq x.1.d t := fun t => by
      unfold dstIs at hdx ⊢
      rw [List.getElem?_eq_getElem hil] at hdx ⊢
      cases q : (l[x.1.i]).dst with
      | none => simp [q] at hdx
      | some d' => simp only [q] at hdx ⊢; rw [Nat.eq_of_beq_eq_true hdx]
    refine ⟨(x.1.d, x.1.val x.2) :: eh, x.1.res x.2 :: L, E1 ++ E2, ⟨h.lsz, h.size, h.dfr, ?_, ?_, by omega, ?_, ?_, ?_, ?_, h.closed, ?_, ?_, ?_, ?_, ?_, ?_⟩, by simp⟩
    · refine h.st.of_perm ?_
      simp only [List.map_append, List.map_cons, List.cons_append, ← List.append_assoc]
      exact List.perm_middle
    · rw [hrk1]; exact hb1
    · rw [hrk1]; exact hb2
    · intro y hy
      have hyE : y ∈ E1 ++ x :: E2 := by rcases List.mem_append.1 hy with q | q <;> simp [q]
      exact ⟨(h.eE y hyE).1, gt y hy⟩
    · have h2 := (List.nodup_append.1 hnd)
      rw [List.map_append]
      refine List.nodup_append.2 ⟨h2.1, (List.nodup_cons.1 h2.2.1).2, fun a ha b hb => h2.2.2 a ha b (by simp [hb])⟩
    · intro i hi hh
      rw [h.hd i hi hh]
      constructor
      · rintro (q | ⟨y, hy, e⟩)
        · exact .inl (by omega)
        · by_cases r : y.1.i = x.1.i
          · exact .inl (by omega)
          · refine .inr ⟨y, ?_, e⟩
            rcases List.mem_append.1 hy with q | q
            · simp [q]
            · rcases List.mem_cons.1 q with rfl | q
              · exact absurd rfl r
              · simp [q]
      · rintro (q | ⟨y, hy, e⟩)
        · by_cases r : i = x.1.i
          · exact .inr ⟨x, by simp, r.symm⟩
          · left
            rcases Nat.lt_or_ge i p with s | s
            · exact s
            · have := hl i s (by omega)
              rcases light_or_heavy hc.len hi with ⟨_, b,_⟩ | ⟨b,_,_⟩
              · rw [b] at hh; cases hh
              · rw [b] at this; cases this
        · exact .inr ⟨y, by rcases List.mem_append.1 hy with q | q <;> simp [q], e⟩
    · intro y hy
      exact h.sl y (by rcases List.mem_append.1 hy with q | q <;> simp [q])
    · intro t v hv
      by_cases e : t = x.1.d
      · subst e
        rw [ev1_cons_eq] at hv
        cases hv
        exact h.sl x hx
      · rw [ev1_cons_ne e] at hv; exact h.eh1 t v hv
    · intro t hn i hi hh
      have e : t ≠ x.1.d := fun e => by subst e; rw [ev1_cons_eq] at hn; cases hn
      rw [ev1_cons_ne e] at hn
      by_cases r : i = x.1.i
      · rw [r, hdi]; exact beqne' e
      · refine h.eh2 t hn i ?_ hh
        rcases Nat.lt_or_ge i p with s | s
        · exact s
        · have := hl i s (by omega)
          rcases light_or_heavy hc.len (show i < l.length by omega) with ⟨_, b,_⟩ | ⟨b,_,_⟩
          · rw [b] at hh; cases hh
          · rw [b] at this; cases this
    · intro t hn
      by_cases e : t = x.1.d
      · subst e; exact ⟨x.1.i, by omega, hhv, hdx⟩
      · rw [ev1_cons_ne e] at hn
        obtain ⟨i, a, b, c⟩ := h.eh3 t hn
        exact ⟨i, by omega, b, c⟩
    · intro t k hn hs
      have e : t ≠ x.1.d := fun e => hs x.1 hxF e.symm
      rw [ev1_cons_ne e] at hn
      exact h.top t k hn hs
    · intro t hn hs
      have e : t ≠ x.1.d := fun e => hs x.1 hxF e.symm
      rw [ev1_cons_ne e] at hn
      exact h.base t hn hs
  · rw [hF] at hn; cases hn
def Nrm (l : List Oper) (ms : List (Option Nat)) (listed : Array Bool) (p : Nat) : Prop := ∀ i, p ≤ i → i < l.length → isHeavy ms i = true → (∀ k, p ≤ k → k < i → isLight ms k = true) → listed[i]? ≠ some true
theorem Hz.norm {l : List Oper} {ms : List (Option Nat)} {js : List (List Nat)} {V : Nat → Value} {listed : Array Bool} {a : Act} {w : World} (hc : ChkB l ms js FT) : ∀ (n : Nat) {p : Nat} {eh : Env} {L : List Res} {E : List (FS × Nat)}, E.length = n →
    Hz P β N ds J Q FT l ms V env listed p eh L E a w → ∃ p' eh' L' E', Hz P β N ds J Q FT l ms V env listed p' eh' L' E' a w ∧ Nrm l ms listed p' := by
  intro n
  induction n using Nat.strongRecOn with
  | _ n ih =>
    intro p eh L E hn h
    by_cases q : Nrm l ms listed p
    · exact ⟨p, eh, L, E, h, q⟩
    · unfold Nrm at q
      simp only [Classical.not_forall] at q
      obtain ⟨i, h1, h2, h3, h4, h5⟩ := q
      have h5 := Classical.not_not.1 h5
      rcases (h.hd i h2 h3).1 h5 with r | ⟨x, hx, e⟩
      · omega
      · subst e
        obtain ⟨eh', L', E', hz, hlt⟩ := h.catch hc hx h4
        exact ih E'.length (by omega) rfl hz
theorem Hz.step {l : List Oper} {ms : List (Option Nat)} {js : List (List Nat)} {L0 : List Res} {V : Nat → Value} {listed : Array Bool} {p : Nat} {eh : Env} {E : List (FS × Nat)} {a : Act} {w : World} {Q' : Exit → Act → World → Prop} (hc : ChkB l ms js FT) (hJe : J = fun m => sel L0 (js.getD m []))
    (hV : ∀ k o m, l[k]? = some o → ms[k]? = some (some m) → ∃ d, o.dst = some d ∧ d < N ∧ ∀ L, (∀ w, St β L w → St β (J m) w) → OpOk P β l.toArray L o (envK l ms V env k) (V k))
    (hF : ∀ s, s ∈ FT → s.d < N ∧ ∃ o, l[s.i]? = some o ∧ FO P (envK l ms V env l.length) o s)
    (h : Hz P β N ds J Q FT l ms V env listed p eh L E a w) (hn : Nrm l ms listed p) {i : Nat} (hi : i ∈ Region.ready .any l.toArray listed) {K : Act → World → Prop}
    (hK : ∀ p' eh' L' E' a' w', Hz P β N ds J Q FT l ms V env (listed.setIfInBounds i true) p' eh' L' E' a' w' → K a' w') : wpOpIn (Wf ro) 0 P l.toArray Q' i K a w := by
  have hlen := hc.len
  simp only [Region.ready, List.mem_filter, List.mem_range, Bool.and_eq_true, Bool.not_eq_true'] at hi
  obtain ⟨hin, hnl, hready⟩ := hi
  have hil : i < l.length := by simpa using hin
  have hiz : i < listed.size := by rw [h.lsz]; exact hil
  obtain ⟨o, ho⟩ : ∃ o, l[i]? = some o := ⟨l[i], by simp [hil]⟩
  have hnot : listed[i]? ≠ some true := by
    intro e
    have : listed.getD i true = true := by simp [e]
    rw [this] at hnl; cases hnl
  have hdone : ∀ e, e ∈ o.after.toList → Region.binds .any e = true → listed[e.on]? = some true := by
    intro e he hb
    have h1 : (o.after.all fun e => !Region.binds .any e || listed.getD e.on false) = true := by simpa [ho] using hready
    have h2 := (Array.all_eq_true_iff_forall_mem.1 h1) e (by simpa using he)
    simp only [hb, Bool.not_true, Bool.false_or] at h2
    cases q : listed[e.on]? with
    | none => simp [q] at h2
    | some b => simp [q] at h2; rw [h2]
  obtain ⟨c1, c2, c3, c4, c5, c6⟩ := hc.ops i o ho
  have hcl : ∀ j, j ∈ (clOf l).getD i [] → listed[j]? = some true := by
    intro j hj
    obtain ⟨e, he, hb, hx⟩ := c2 j hj
    rcases hx with rfl | hx
    · exact hdone e he hb
    · exact h.closed _ (hdone e he hb) j hx
  have closed' : ∀ j, (listed.setIfInBounds i true)[j]? = some true → ∀ k, k ∈ (clOf l).getD j [] → (listed.setIfInBounds i true)[k]? = some true := by
    intro j hj k hk
    rw [get_set_true hiz] at hj ⊢
    rcases hj with rfl | hj
    · exact .inr (hcl k hk)
    · exact .inr (h.closed j hj k hk)
  have ho' : l.toArray[i]? = some o := by simpa using ho
  have dstI : ∀ d, o.dst = some d → ∀ t, dstIs l i t = Nat.beq d t := by
    intro d hd t; simp [dstIs, ho, hd]
  have hEl : ∀ x, x ∈ E → listed[x.1.i]? = some true := fun x hx => (h.hd _ (hc.fi x.1 (h.eE x hx).1).1 (hc.fi x.1 (h.eE x hx).1).2.1).2 (.inr ⟨x, hx, rfl⟩)
  have before : ∀ t, t ∈ readsOf l.toArray o → ∀ k, k < l.length → dstIs l k t = true → ahead ms k i = true → listed[k]? = some true := fun t ht k hk hw ha => hcl k (((c6 t ht).1 k hk hw).1 ha)
  have behind : ∀ t, t ∈ readsOf l.toArray o → ∀ k, k < l.length → dstIs l k t = true → ahead ms i k = true → listed[k]? ≠ some true := fun t ht k hk hw ha hl => hnot (h.closed k hl i (((c6 t ht).1 k hk hw).2 ha))
  unfold wpOpIn
  simp only [ho']
  rcases light_or_heavy hlen hil with ⟨hli, hhv, m, hm⟩ | ⟨hli, hhv, hm⟩
  · -- a light one
    obtain ⟨d, hd, hdN, hok⟩ := hV i o m ho hm
    have hfn : isF FT i = none := by
      cases q : isF FT i with
      | none => rfl
      | some s =>
        obtain ⟨h1, h2⟩ := isF_some q
        have := (hc.fi s h1).2.1
        rw [h2, hhv] at this; cases this
    have hnd : ∀ s, s ∈ FT → s.d ≠ d := (c5 d hd).2 hfn
    have hstage : rank ms p ≤ m := by
      rcases Nat.lt_or_ge m (rank ms p) with q | q
      · exfalso
        obtain ⟨j, hjp, hjh, hjr⟩ := rank_find (ms := ms) (m := m) p (by rw [hlen]; exact h.hp) q
        have hjl : j < l.length := Nat.lt_of_lt_of_le hjp h.hp
        rcases c4 m hm j hjl hjh with r | r
        · omega
        · exact hnot (h.closed j ((h.hd j hjl hjh).2 (.inl hjp)) i r)
      · exact q
    have hJm : ∀ w, St β (L ++ E.map fun x => x.1.res x.2) w → St β (J m) w := by
      intro w hw
      have h1 : St β L w := by
        have hw2 := hw.of_perm (List.perm_append_comm (l₁ := L) (l₂ := E.map fun x => x.1.res x.2))
        exact St.callG (L1 := E.map fun x => x.1.res x.2) (L2 := L) (R := []) (O := fun _ => False) hw2 (fun _ f => f.elim) (St.refl w)
      have := h.hJ w h1
      rw [hJe] at this ⊢
      exact J_mono hc.jn hc.js hstage this
    have hno : ev1 eh d = none := by
      cases q : ev1 eh d with
      | none => rfl
      | some v =>
        exfalso
        obtain ⟨k, hkp, hkh, hkd⟩ := h.eh3 d (by rw [q]; simp)
        have hkl : k < l.length := Nat.lt_of_lt_of_le hkp h.hp
        have hnl : isLight ms k = false := by
          rcases light_or_heavy hlen hkl with ⟨_, b,_⟩ | ⟨a,_,_⟩
          · rw [b] at hkh; cases hkh
          · exact a
        obtain ⟨_,_,_,_, g5,_⟩ := hc.ops k l[k] (by simp [hkl])
        have hkd' : l[k].dst = some d := by
          simp only [dstIs, List.getElem?_eq_getElem hkl] at hkd
          cases r : l[k].dst with
          | none => simp [r] at hkd
          | some d' => simp only [r] at hkd; rw [Nat.eq_of_beq_eq_true hkd]
        exact hnot (h.closed k ((h.hd k hkl hkh).2 (.inl hkp)) i ((g5 d hkd').1 i hil (by rw [dstI d hd]; exact Nat.beq_refl _) (by simp [ahead, hli, hnl])))
    have fin : ∀ w', St β (L ++ E.map fun x => x.1.res x.2) w' → Hz P β N ds J Q FT l ms V env (listed.setIfInBounds i true) p eh L E (a.put (some d) (V i)) w' := by
      intro w' hs
      refine ⟨by simp [h.lsz], by simp [Act.put, h.size], h.dfr, hs, h.hJ, h.hp, h.hy, h.eE, h.en, ?_, closed', ?_, ?_, h.eh2, h.eh3, ?_, ?_⟩
      · intro k hk hkh
        rw [get_set_true hiz, ← h.hd k hk hkh]
        have : k ≠ i := fun e => by subst e; rw [hhv] at hkh; cases hkh
        simp [this]
      · intro x hx
        have e : x.1.d ≠ d := hnd x.1 (h.eE x hx).1
        simp only [Act.put]
        rw [Array.getElem?_setIfInBounds_ne (Ne.symm e)]
        exact h.sl x hx
      · intro t v hv
        have e : t ≠ d := fun e => by subst e; rw [hno] at hv; cases hv
        simp only [Act.put]
        rw [Array.getElem?_setIfInBounds_ne (Ne.symm e)]
        exact h.eh1 t v hv
      · intro t k hn hns hk hkl hkd hdn hmax
        by_cases e : t = d
        · subst e
          have hki : k = i := by
            have g := hmax i hil hli (by rw [dstI t hd]; exact Nat.beq_refl _) ((get_set_true hiz).2 (.inl rfl))
            rcases Nat.lt_or_ge i k with q | q
            · exfalso
              have hl' : listed[k]? = some true := by
                rcases (get_set_true hiz).1 hdn with e | e
                · omega
                · exact e
              obtain ⟨_,_,_,_, g5,_⟩ := hc.ops k l[k] (by simp [hk])
              have hkd' : l[k].dst = some t := by
                simp only [dstIs, List.getElem?_eq_getElem hk] at hkd
                cases r : l[k].dst with
                | none => simp [r] at hkd
                | some d' => simp only [r] at hkd; rw [Nat.eq_of_beq_eq_true hkd]
              exact hnot (h.closed k hl' i ((g5 t hkd').1 i hil (by rw [dstI t hd]; exact Nat.beq_refl _) (by simp only [ahead, hli, hkl, if_true]; exact Nat.ble_eq_true_of_le q)))
            · omega
          subst hki
          simp [Act.put, h.size, hdN]
        · have hki : k ≠ i := fun q => by subst q; rw [dstI d hd, beqne' e] at hkd; cases hkd
          simp only [Act.put]
          rw [Array.getElem?_setIfInBounds_ne (Ne.symm e)]
          refine h.top t k hn hns hk hkl hkd ?_ fun k' a b c d => hmax k' a b c ((get_set_true hiz).2 (.inr d))
          rcases (get_set_true hiz).1 hdn with q | q
          · exact absurd q hki
          · exact q
      · intro t hn hns hnone v hv
        have e : t ≠ d := fun q => by subst q; exact hnone i hil hli (by rw [dstI t hd]; exact Nat.beq_refl _) ((get_set_true hiz).2 (.inl rfl))
        simp only [Act.put]
        rw [Array.getElem?_setIfInBounds_ne (Ne.symm e)]
        exact h.base t hn hns (fun k a b c d => hnone k a b c ((get_set_true hiz).2 (.inr d))) v hv
    have rd : ∀ t, t ∈ readsOf l.toArray o → ∀ u, ev1 (envK l ms V env i) t = some u → a.tmps[t]? = some u := by
      intro t ht u hu
      have hns : ∀ s, s ∈ FT → s.d ≠ t := (c6 t ht).2.1 (.inl hli)
      have hno : ev1 eh t = none := by
        cases q : ev1 eh t with
        | none => rfl
        | some v =>
          exfalso
          obtain ⟨k, hkp, hkh, hkd⟩ := h.eh3 t (by rw [q]; simp)
          have hkl : k < l.length := Nat.lt_of_lt_of_le hkp h.hp
          have hnl : isLight ms k = false := by
            rcases light_or_heavy hlen hkl with ⟨_, b,_⟩ | ⟨a,_,_⟩
            · rw [b] at hkh; cases hkh
            · exact a
          exact behind t ht k hkl hkd (by simp [ahead, hli, hnl]) ((h.hd k hkl hkh).2 (.inl hkp))
      have late : ∀ k', k' < l.length → isLight ms k' = true → dstIs l k' t = true → listed[k']? = some true → k' < i := by
        intro k' hk' hl' hd' hdn
        rcases Nat.lt_trichotomy k' i with q | q | q
        · exact q
        · subst q; exact absurd hdn hnot
        · exact absurd hdn (behind t ht k' hk' hd' (by simp only [ahead, hli, hl', if_true]; exact Nat.ble_eq_true_of_le q))
      rcases ev1_envK l ms V env t u i hu with ⟨k, h1, h2, h3, h4, h5⟩ | ⟨h1, h2⟩
      · rw [← h4]
        refine h.top t k hno hns (by omega) h2 h3 (before t ht k (by omega) h3 (by simp only [ahead, hli, h2, if_true]; exact Nat.ble_eq_true_of_le h1)) fun k' a b c d => ?_
        rcases Nat.lt_or_ge k k' with q | q
        · have := h5 k' q (late k' a b c d) b
          rw [c] at this; cases this
        · exact q
      · refine h.base t hno hns (fun k a b c d => ?_) u h2
        have := h1 k (late k a b c d) b
        rw [c] at this; cases this
    have opr : ∀ x, x ∈ o.op.operands → ∀ u, ev (envK l ms V env i) x = some u → a.eval x = u := by
      intro x hx u hu
      cases x with
      | tmp t =>
        have := rd t (List.mem_append_left _ (List.mem_filterMap.2 ⟨.tmp t, by simpa using hx, rfl⟩)) u hu
        simp [Act.eval, this]
      | const c => simpa [ev, Act.eval] using hu
      | global g => simpa [ev, Act.eval] using hu
      | func f => simpa [ev, Act.eval] using hu
    have hok' := hok _ hJm
    generalize hVi : V i = vi at hok' fin
    rcases hok' with ⟨hg, hlo⟩ | ⟨j, want, t, u, c, v', hg, hj, ht, hgd, hlo, rfl⟩
    · rw [if_pos (by simp [Region.wanted, hg])]
      exact (hlo a w opr h.st).wp (ro := ro) (Q := Q') (K := K) fun w' hs => by rw [hd]; exact hK _ _ _ _ _ _ (fin w' hs)
    · have ht' : a.tmps[t]? = some u := rd t (List.mem_append_right _ (by rw [hg]; show t ∈ ((l.toArray[j]?).bind (·.dst)).toList; rw [hj]; simp)) u ht
      have hy : yielded l.toArray a.tmps j = vb u := by
        unfold yielded; rw [hj]; simp only [Option.bind_some, ht']; cases u <;> rfl
      simp only [Region.wanted, hg, hy]
      cases c with
      | true =>
        have hu := hgd.1 rfl
        subst hu
        simp only [vb, beq_self_eq_true, if_true]
        exact (hlo rfl a w opr h.st).wp (ro := ro) (Q := Q') (K := K) fun w' hs => by
          rw [hd]
          have := fin w' hs
          rw [show gv true v' = v' from rfl] at this
          exact hK _ _ _ _ _ _ this
      | false =>
        have hu := hgd.2 rfl
        have hne := vb_ne hu
        simp only [hne, Bool.false_eq_true, if_false]
        have := fin w h.st
        rw [show gv false v' = undef from rfl] at this
        rw [hd]
        exact ⟨fun _ _ => True.intro, hK _ _ _ _ _ _ this⟩
  · have hpi : p ≤ i := by
      rcases Nat.lt_or_ge i p with q | q
      · exact absurd ((h.hd i hil hhv).2 (.inl q)) hnot
      · exact q
    -- what the heavy ones read
    have rd : ∀ t, t ∈ readsOf l.toArray o → ∀ u, ev1 (eh ++ envK l ms V env l.length) t = some u → (ev1 eh t = none → ∀ s, s ∈ FT → s.d ≠ t) → a.tmps[t]? = some u := by
      intro t ht u hu hns
      rw [ev1_append] at hu
      cases q : ev1 eh t with
      | some v => rw [q] at hu; simp only [Option.some.injEq] at hu; subst hu; exact h.eh1 t v q
      | none =>
        rw [q] at hu
        simp only at hu
        rcases ev1_envK l ms V env t u l.length hu with ⟨k, h1, h2, h3, h4, h5⟩ | ⟨h1, h2⟩
        · rw [← h4]
          refine h.top t k q (hns q) h1 h2 h3 (before t ht k h1 h3 (by simp [ahead, hli, h2])) fun k' a b c d => ?_
          rcases Nat.lt_or_ge k k' with r | r
          · have := h5 k' r a b
            rw [c] at this; cases this
          · exact r
        · refine h.base t q (hns q) (fun k a b c d => ?_) u h2
          have := h1 k a b
          rw [c] at this; cases this
    cases hf : isF FT i with
    | some s =>
      -- a new block
      obtain ⟨hsF, hsi⟩ := isF_some hf
      obtain ⟨hdN, o2, ho2, hfo⟩ := hF s hsF
      rw [hsi, ho] at ho2
      cases ho2
      obtain ⟨hdst, hg, hrun⟩ := hfo
      rw [if_pos (by simp [Region.wanted, hg])]
      have opr : ∀ x, x ∈ o.op.operands → ∀ u, ev (envK l ms V env l.length) x = some u → a.eval x = u := by
        intro x hx u hu
        cases x with
        | tmp t =>
          have ht : t ∈ readsOf l.toArray o := List.mem_append_left _ (List.mem_filterMap.2 ⟨.tmp t, by simpa using hx, rfl⟩)
          have hno : ev1 eh t = none := by
            cases q : ev1 eh t with
            | none => rfl
            | some v =>
              obtain ⟨k, hkp, hkh, hkd⟩ := h.eh3 t (by rw [q]; simp)
              have := (c6 t ht).2.2.1 (by rw [hf]; simp) k (Nat.lt_of_lt_of_le hkp h.hp) hkh
              rw [hkd] at this; cases this
          have := rd t ht u (by rw [ev1_append, hno]; exact hu) (fun _ => (c6 t ht).2.1 (.inr (by rw [hf]; simp)))
          simp [Act.eval, this]
        | const c => simpa [ev, Act.eval] using hu
        | global g => simpa [ev, Act.eval] using hu
        | func f => simpa [ev, Act.eval] using hu
      have hrun' := hrun a w opr
      have hho : HO P β (envK l ms V env l.length) (L ++ E.map fun x => x.1.res x.2) o fun v L' => ∃ b, v = s.val b ∧ L' = s.res b :: (L ++ E.map fun x => x.1.res x.2) := by
        intro a w hx hw
        exact .inl ⟨_,_,_,_, hrun a w hx, .inl rfl, ⟨w.heap.size, rfl, rfl⟩, hw.alloc _⟩
      refine hho.wp (ro := ro) (Q := Q') opr h.st fun v L' w' hk hst => ?_
      obtain ⟨b, rfl, rfl⟩ := hk
      have hfresh : ∀ x, x ∈ E → x.1.i ≠ i := fun x hx e => hnot (by rw [← e]; exact hEl x hx)
      have hold : ∀ t, ev1 eh t ≠ none → t ≠ s.d := fun t hne e => by
        obtain ⟨k, hkp, hkh, hkd⟩ := h.eh3 t hne
        have hkl : k < l.length := Nat.lt_of_lt_of_le hkp h.hp
        have hki : k ≠ i := by omega
        have hkd' : l[k].dst = some t := by
          simp only [dstIs, List.getElem?_eq_getElem hkl] at hkd
          cases r : l[k].dst with
          | none => simp [r] at hkd
          | some d' => simp only [r] at hkd; rw [Nat.eq_of_beq_eq_true hkd]
        cases q : isF FT k with
        | none => exact ((hc.ops k l[k] (by simp [hkl])).2.2.2.2.1 t hkd').2 q s hsF e.symm
        | some s2 =>
          obtain ⟨g1, g2⟩ := isF_some q
          have hd2 := (hc.fi s2 g1).2.2
          rw [g2] at hd2
          simp only [dstIs, List.getElem?_eq_getElem hkl, hkd'] at hd2
          have e2 : t = s2.d := Nat.eq_of_beq_eq_true hd2
          have := inj_of_nodup hc.nd g1 hsF (by show s2.d = s.d; rw [← e2, e])
          rw [this] at g2; omega
      refine hK p eh L ((s, b) :: E) _ w' ⟨by simp [h.lsz], by rw [hdst]; simp [Act.put, h.size], by rw [hdst]; exact h.dfr, ?_, h.hJ, h.hp, h.hy, ?_, ?_, ?_, closed', ?_, ?_, h.eh2, h.eh3, ?_, ?_⟩
      · exact hst.of_perm (by simpa using (List.perm_middle (a := s.res b) (l₁ := L) (l₂ := E.map fun x => x.1.res x.2)).symm)
      · intro x hx
        rcases List.mem_cons.1 hx with rfl | hx
        · exact ⟨hsF, by show p ≤ s.i; omega⟩
        · exact h.eE x hx
      · rw [List.map_cons, List.nodup_cons]
        refine ⟨fun hm => ?_, h.en⟩
        obtain ⟨x, hx, e⟩ := List.mem_map.1 hm
        exact hfresh x hx (by rw [e]; exact hsi)
      · intro k hk hkh
        rw [get_set_true hiz, h.hd k hk hkh]
        constructor
        · rintro (rfl | q | ⟨x, hx, e⟩)
          · exact .inr ⟨(s, b), by simp, hsi⟩
          · exact .inl q
          · exact .inr ⟨x, by simp [hx], e⟩
        · rintro (q | ⟨x, hx, e⟩)
          · exact .inr (.inl q)
          · rcases List.mem_cons.1 hx with rfl | hx
            · left; rw [← e]; exact hsi
            · exact .inr (.inr ⟨x, hx, e⟩)
      · intro x hx
        rw [hdst]
        rcases List.mem_cons.1 hx with rfl | hx
        · simp [Act.put, h.size, hdN]
        · have hne : x.1.d ≠ s.d := fun e => by
            have := inj_of_nodup hc.nd (h.eE x hx).1 hsF e
            exact hfresh x hx (by rw [this]; exact hsi)
          simp only [Act.put]
          rw [Array.getElem?_setIfInBounds_ne (Ne.symm hne)]
          exact h.sl x hx
      · intro t v hv
        rw [hdst]
        have e : t ≠ s.d := hold t (by rw [hv]; simp)
        simp only [Act.put]
        rw [Array.getElem?_setIfInBounds_ne (Ne.symm e)]
        exact h.eh1 t v hv
      · intro t k hn hns hk hkl hkd hdn hmax
        have hki : k ≠ i := fun e => by subst e; rw [hli] at hkl; cases hkl
        rw [hdst]
        simp only [Act.put]
        rw [Array.getElem?_setIfInBounds_ne (hns s hsF)]
        refine h.top t k hn hns hk hkl hkd ?_ fun k' a b c d => hmax k' a b c ((get_set_true hiz).2 (.inr d))
        rcases (get_set_true hiz).1 hdn with q | q
        · exact absurd q hki
        · exact q
      · intro t hn hns hnone v hv
        rw [hdst]
        simp only [Act.put]
        rw [Array.getElem?_setIfInBounds_ne (hns s hsF)]
        exact h.base t hn hns (fun k a b c d => hnone k a b c ((get_set_true hiz).2 (.inr d))) v hv
    | none =>
      -- the next of the chain
      have hall : ∀ k, k < i → isHeavy ms k = true → listed[k]? = some true := fun k hk hh => hcl k (c3 hhv hf k hk hh)
      have hlights : ∀ k, p ≤ k → k < i → isLight ms k = true := by
        -- the first heavy one behind p would be laid
        refine Classical.byContradiction fun hcon => ?_
        simp only [Classical.not_forall] at hcon
        obtain ⟨k, hk1, hk2, hk3⟩ := hcon
        have hmin : ∃ j, (p ≤ j ∧ j < i ∧ isLight ms j = false) ∧ ∀ j', p ≤ j' → j' < j → isLight ms j' = true := by
          have : ∀ n j, j = n → p ≤ j → j < i → isLight ms j = false → ∃ j, (p ≤ j ∧ j < i ∧ isLight ms j = false) ∧ ∀ j', p ≤ j' → j' < j → isLight ms j' = true := by
            intro n
            induction n using Nat.strongRecOn with
            | _ n ih =>
              rintro j rfl h1 h2 h3
              by_cases q : ∀ j', p ≤ j' → j' < j → isLight ms j' = true
              · exact ⟨j, ⟨h1, h2, h3⟩, q⟩
              · simp only [Classical.not_forall] at q
                obtain ⟨j', q1, q2, q3⟩ := q
                exact ih j' q2 j' rfl q1 (by omega) (by simpa using q3)
          exact this k k rfl hk1 hk2 (by simpa using hk3)
        obtain ⟨j, ⟨j1, j2, j3⟩, j4⟩ := hmin
        have hjl : j < l.length := by omega
        have hjh : isHeavy ms j = true := by
          rcases light_or_heavy hlen hjl with ⟨a,_,_⟩ | ⟨_, b,_⟩
          · rw [a] at j3; cases j3
          · exact b
        exact hn j j1 hjl hjh j4 (hall j j2 hjh)
      have hy := HY.drop (i - p) h.hy (by omega) (fun k a b => hlights k a (by omega))
      rw [show p + (i - p) = i by omega] at hy
      have hml : i < ms.length := by omega
      have e1 : l[i] = o := by simpa [List.getElem?_eq_getElem hil] using ho
      have e2 : ms[i] = none := by simpa [List.getElem?_eq_getElem hml] using hm
      rw [List.drop_eq_getElem_cons hil, List.drop_eq_getElem_cons hml, e1, e2] at hy
      have hrk : rank ms i = rank ms p := rank_lights hpi (by omega) hlights
      have hrk1 : rank ms (i + 1) = rank ms p + 1 := by rw [rank_succ hml, e2, hrk]; simp
      rcases hy with ⟨s, hs,_⟩ | ⟨_, hg, hdN, hho⟩
      · rw [hf] at hs; cases hs
      have hnsE : ∀ t, t ∈ readsOf l.toArray o → ev1 eh t = none → ∀ s, s ∈ FT → s.d ≠ t := fun t ht hno s hs e => by
        have h1 := (c6 t ht).2.2.2 s hs e
        obtain ⟨g1, g2, g3⟩ := hc.fi s hs
        rw [e] at g3
        have h2 : s.i < p := by
          rcases Nat.lt_or_ge s.i p with q | q
          · exact q
          · have := hlights s.i q h1
            rcases light_or_heavy hlen g1 with ⟨_, b,_⟩ | ⟨b,_,_⟩
            · rw [b] at g2; cases g2
            · rw [b] at this; cases this
        have := h.eh2 t hno s.i h2 g2
        rw [g3] at this; cases this
      have opr : ∀ x, x ∈ o.op.operands → ∀ u, ev (eh ++ envK l ms V env l.length) x = some u → a.eval x = u := by
        intro x hx u hu
        cases x with
        | tmp t =>
          have ht : t ∈ readsOf l.toArray o := List.mem_append_left _ (List.mem_filterMap.2 ⟨.tmp t, by simpa using hx, rfl⟩)
          have := rd t ht u hu (hnsE t ht)
          simp [Act.eval, this]
        | const c => simpa [ev, Act.eval] using hu
        | global g => simpa [ev, Act.eval] using hu
        | func f => simpa [ev, Act.eval] using hu
      rw [if_pos (by simp [Region.wanted, hg])]
      refine ((hho (E.map fun x => x.1.res x.2)).wp (ro := ro) (Q := Q') opr h.st fun v L'' w' hk hs => ?_)
      obtain ⟨L', rfl, hk1, hk2⟩ := hk
      have envE : putE o v (eh ++ envK l ms V env l.length) = putE o v eh ++ envK l ms V env l.length := by
        unfold putE; cases o.dst <;> rfl
      have hnd : ∀ d, o.dst = some d → ∀ s, s ∈ FT → s.d ≠ d := fun d hd => (c5 d hd).2 hf
      have hgt : ∀ x, x ∈ E → i + 1 ≤ x.1.i := fun x hx => by
        have h1 := (h.eE x hx).2
        have hne : x.1.i ≠ i := fun e => hnot (by rw [← e]; exact hEl x hx)
        rcases Nat.lt_or_ge x.1.i i with q | q
        · have := hlights x.1.i h1 q
          obtain ⟨g1, g2,_⟩ := hc.fi x.1 (h.eE x hx).1
          rcases light_or_heavy hlen g1 with ⟨_, b,_⟩ | ⟨b,_,_⟩
          · rw [b] at g2; cases g2
          · rw [b] at this; cases this
        · omega
      refine hK (i + 1) (putE o v eh) L' E _ w' ⟨by simp [h.lsz], ?_, (by cases o.dst <;> exact h.dfr), hs, ?_, by omega, ?_, fun x hx => ⟨(h.eE x hx).1, hgt x hx⟩, h.en, ?_, closed', ?_, ?_, ?_, ?_, ?_, ?_⟩
      · cases q : o.dst with
        | none => exact h.size
        | some d => simp [Act.put, h.size]
      · rw [hrk1, ← hrk]; exact hrk ▸ hk1
      · rw [hrk1, ← envE]; exact hk2
      · intro k hk hkh
        rw [get_set_true hiz, h.hd k hk hkh]
        constructor
        · rintro (rfl | q | q)
          · exact .inl (by omega)
          · exact .inl (by omega)
          · exact .inr q
        · rintro (q | q)
          · by_cases r : k = i
            · exact .inl r
            · right; left
              rcases Nat.lt_or_ge k p with s | s
              · exact s
              · have := hlights k s (by omega)
                rcases light_or_heavy hlen hk with ⟨_, b,_⟩ | ⟨b,_,_⟩
                · rw [b] at hkh; cases hkh
                · rw [b] at this; cases this
          · exact .inr (.inr q)
      · intro x hx
        cases q : o.dst with
        | none => exact h.sl x hx
        | some d =>
          have e : x.1.d ≠ d := hnd d q x.1 (h.eE x hx).1
          simp only [Act.put]
          rw [Array.getElem?_setIfInBounds_ne (Ne.symm e)]
          exact h.sl x hx
      · intro t u hu
        unfold putE at hu
        cases q : o.dst with
        | none => simp only [q] at hu; exact h.eh1 t u hu
        | some d =>
          simp only [q] at hu
          by_cases e : t = d
          · subst e
            rw [ev1_cons_eq] at hu
            cases hu
            simp [Act.put, h.size, hdN t q]
          · rw [ev1_cons_ne e] at hu
            simp only [Act.put]
            rw [Array.getElem?_setIfInBounds_ne (Ne.symm e)]
            exact h.eh1 t u hu
      · intro t hn k hk hkh
        unfold putE at hn
        have hn' : ev1 eh t = none := by
          cases q : o.dst with
          | none => simpa only [q] using hn
          | some d =>
            simp only [q] at hn
            by_cases e : t = d
            · subst e; rw [ev1_cons_eq] at hn; cases hn
            · rwa [ev1_cons_ne e] at hn
        by_cases r : k = i
        · subst r
          cases q : o.dst with
          | none => simp [dstIs, ho, q]
          | some d =>
            rw [dstI d q]
            refine beqne' fun e => ?_
            subst e
            simp only [q] at hn
            rw [ev1_cons_eq] at hn
            cases hn
        · refine h.eh2 t hn' k ?_ hkh
          rcases Nat.lt_or_ge k p with s | s
          · exact s
          · exfalso
            have := hlights k s (by omega)
            rcases light_or_heavy hlen (k := k) (by omega) with ⟨_, b,_⟩ | ⟨b,_,_⟩
            · rw [b] at hkh; cases hkh
            · rw [b] at this; cases this
      · intro t hn
        unfold putE at hn
        cases q : o.dst with
        | none =>
          simp only [q] at hn
          obtain ⟨k, a, b, c⟩ := h.eh3 t hn
          exact ⟨k, by omega, b, c⟩
        | some d =>
          simp only [q] at hn
          by_cases e : t = d
          · subst e
            exact ⟨i, by omega, hhv, by rw [dstI t q]; exact Nat.beq_refl _⟩
          · rw [ev1_cons_ne e] at hn
            obtain ⟨k, a, b, c⟩ := h.eh3 t hn
            exact ⟨k, by omega, b, c⟩
      · intro t k hn hns hk hkl hkd hdn hmax
        have hki : k ≠ i := fun e => by subst e; rw [hli] at hkl; cases hkl
        unfold putE at hn
        have hn' : ev1 eh t = none ∧ ∀ d, o.dst = some d → t ≠ d := by
          cases q : o.dst with
          | none => exact ⟨by simpa only [q] using hn, by simp⟩
          | some d =>
            simp only [q] at hn
            by_cases e : t = d
            · subst e; rw [ev1_cons_eq] at hn; cases hn
            · exact ⟨by rwa [ev1_cons_ne e] at hn, fun d' hd' => by cases hd'; exact e⟩
        have hdn' : listed[k]? = some true := by
          rcases (get_set_true hiz).1 hdn with q | q
          · exact absurd q hki
          · exact q
        have := h.top t k hn'.1 hns hk hkl hkd hdn' fun k' a b c d => hmax k' a b c ((get_set_true hiz).2 (.inr d))
        cases q : o.dst with
        | none => exact this
        | some d =>
          simp only [Act.put]
          rw [Array.getElem?_setIfInBounds_ne (Ne.symm (hn'.2 d q))]
          exact this
      · intro t hn hns hnone u hu
        unfold putE at hn
        have hn' : ev1 eh t = none ∧ ∀ d, o.dst = some d → t ≠ d := by
          cases q : o.dst with
          | none => exact ⟨by simpa only [q] using hn, by simp⟩
          | some d =>
            simp only [q] at hn
            by_cases e : t = d
            · subst e; rw [ev1_cons_eq] at hn; cases hn
            · exact ⟨by rwa [ev1_cons_ne e] at hn, fun d' hd' => by cases hd'; exact e⟩
        have := h.base t hn'.1 hns (fun k a b c d => hnone k a b c ((get_set_true hiz).2 (.inr d))) u hu
        cases q : o.dst with
        | none => exact this
        | some d =>
          simp only [Act.put]
          rw [Array.getElem?_setIfInBounds_ne (Ne.symm (hn'.2 d q))]
          exact this
theorem Hz.end_ {l : List Oper} {ms : List (Option Nat)} {js : List (List Nat)} {V : Nat → Value} {listed : Array Bool} {p : Nat} {eh : Env} {E : List (FS × Nat)} {a : Act} {w : World} (hc : ChkB l ms js FT)
    (h : Hz P β N ds J Q FT l ms V env listed p eh L E a w) (hn : Nrm l ms listed p) (hall : ∀ k, k < l.length → listed[k]? = some true) : Q .normal a w := by
  have hlen := hc.len
  have hl : ∀ k, p ≤ k → k < l.length → isLight ms k = true := by
    have : ∀ n k, k = n → p ≤ k → k < l.length → isLight ms k = true := by
      intro n
      induction n using Nat.strongRecOn with
      | _ n ih =>
        rintro k rfl h1 h2
        rcases light_or_heavy hlen h2 with ⟨a,_,_⟩ | ⟨_, b,_⟩
        · exact a
        · exact absurd (hall k h2) (hn k h1 h2 b fun j j1 j2 => ih j j2 j rfl j1 (by omega))
    exact fun k => this k k rfl
  have hE : E = [] := by
    cases E with
    | nil => rfl
    | cons x E =>
      exfalso
      obtain ⟨h1, h2⟩ := h.eE x (by simp)
      obtain ⟨g1, g2,_⟩ := hc.fi x.1 h1
      have := hl x.1.i h2 g1
      rcases light_or_heavy hlen g1 with ⟨_, b,_⟩ | ⟨b,_,_⟩
      · rw [b] at g2; cases g2
      · rw [b] at this; cases this
  subst hE
  have hx := HY.drop (l.length - p) h.hy (by have := h.hp; omega) (fun k a b => hl k a (by have := h.hp; omega))
  rw [show p + (l.length - p) = l.length by have := h.hp; omega] at hx
  rw [List.drop_length] at hx
  have hst := h.st
  rw [List.map_nil, List.append_nil] at hst
  refine hx a w ⟨h.size, h.dfr, fun t u hu => ?_⟩ hst
  rw [ev1_append] at hu
  cases q : ev1 eh t with
  | some v => rw [q] at hu; simp only [Option.some.injEq] at hu; subst hu; exact h.eh1 t v q
  | none =>
    rw [q] at hu
    simp only at hu
    have hns : ∀ s, s ∈ FT → s.d ≠ t := fun s hs e => by
      obtain ⟨g1, g2, g3⟩ := hc.fi s hs
      rw [e] at g3
      have h2 : s.i < p := by
        rcases Nat.lt_or_ge s.i p with r | r
        · exact r
        · have := hl s.i r g1
          rcases light_or_heavy hlen g1 with ⟨_, b,_⟩ | ⟨b,_,_⟩
          · rw [b] at g2; cases g2
          · rw [b] at this; cases this
      have := h.eh2 t q s.i h2 g2
      rw [g3] at this; cases this
    rcases ev1_envK l ms V env t u l.length hu with ⟨k, h1, h2, h3, h4, h5⟩ | ⟨h1, h2⟩
    · rw [← h4]
      refine h.top t k q hns h1 h2 h3 (hall k h1) fun k' a b c d => ?_
      rcases Nat.lt_or_ge k k' with r | r
      · have := h5 k' r a b
        rw [c] at this; cases this
      · exact r
    · refine h.base t q hns (fun k a b c d => ?_) u h2
      have := h1 k a b
      rw [c] at this; cases this
def FOk (P : Program) (N : Nat) (l : List Oper) (env : Env) : List FS → Prop
  | [] => True
  | s :: FT => (Nat.blt s.d N = true ∧ ∃ o, l[s.i]? = some o ∧ FO P env o s) ∧ FOk P N l env FT
theorem FOk.mem {l : List Oper} : ∀ {FT : List FS}, FOk P N l env FT → ∀ s, s ∈ FT → s.d < N ∧ ∃ o, l[s.i]? = some o ∧ FO P env o s
  | [],_, s, hs => by cases hs
  | x :: FT, h, s, hs => by
    rcases List.mem_cons.1 hs with rfl | hs
    · exact ⟨Nat.le_of_ble_eq_true h.1.1, h.1.2⟩
    · exact h.2.mem s hs
theorem VC.drawB (FT : List FS) (js : List (List Nat)) (ms : List (Option Nat)) {env' : Env} {id : Nat} {l : List Oper} (hm : P.follows .mixedOrders = true) (hc : chkB l ms js (FT.map fun s => (s.i, s.d)) = true) (h0 : js.getD 0 [] = List.range L.length)
    (h : LX P β N l.toArray (fun m => sel L (js.getD m [])) l ms env env') (hF : FOk P N l env' FT) (k : HY P β N ds (fun m => sel L (js.getD m [])) Q FT 0 0 l ms env' L) :
    VC P ro β N ds env L (.region id l.toArray true) Q := by
  intro a w ha hw
  obtain ⟨V, hV1, hV2⟩ := h.vals
  have hC := ChkB.of hc
  subst hV1
  refine wpIn_region_any hm ?_
  have key : ∀ fuel listed p eh L' E a w, Hz P β N ds (fun m => sel L (js.getD m [])) Q FT l ms V env listed p eh L' E a w → (∀ k, k < l.length → listed[k]? ≠ some true → 0 < fuel) → ((List.range l.length).filter fun k => !(listed[k]? == some true)).length ≤ fuel → wpAnyIn (Wf ro) 0 P .any l.toArray Q fuel listed a w := by
    intro fuel
    induction fuel with
    | zero =>
      intro listed p eh L' E a w hI0 hz _
      obtain ⟨p', eh', L'', E', hI, hn⟩ := hI0.norm hC _ rfl
      have hall : ∀ k, k < l.length → listed[k]? = some true := fun k hk => Classical.byContradiction fun hn => by have := hz k hk hn; omega
      refine ⟨?_, hI.end_ hC hn hall⟩
      simp only [Region.ready, List.filter_eq_nil_iff, List.mem_range, Bool.and_eq_true, Bool.not_eq_true', not_and]
      intro i hi hf
      have := hall i (by simpa using hi)
      simp [this] at hf
    | succ fuel ih =>
      intro listed p eh L' E a w hI0 hz hcnt
      obtain ⟨p', eh', L'', E', hI, hn⟩ := hI0.norm hC _ rfl
      refine ⟨fun hr => hI.end_ hC hn (ready_all hI.lsz (fun k o ho => (hC.ops k o ho).1) hr), fun i hi => ?_⟩
      refine hI.step hC rfl hV2 hF.mem hn hi fun p' eh' L'' E' a' w' hI' => ih _ _ _ _ _ _ _ hI' ?_ ?_
      · intro k hk hn
        rcases Nat.eq_zero_or_pos fuel with e | e
        · exfalso
          subst e
          simp only [Region.ready, List.mem_filter, List.mem_range, Bool.and_eq_true, Bool.not_eq_true'] at hi
          have hil : i < l.length := by simpa using hi.1
          have hiz : i < listed.size := by rw [hI.lsz]; exact hil
          rw [Ne, get_set_true hiz, not_or] at hn
          have hni : listed[i]? ≠ some true := fun e => by have h2 := hi.2.1; simp [e] at h2
          have m1 : i ∈ (List.range l.length).filter fun k => !(listed[k]? == some true) := by simp [hil, hni]
          have m2 : k ∈ (List.range l.length).filter fun k => !(listed[k]? == some true) := by simp [hk, hn.2]
          match hf : (List.range l.length).filter fun k => !(listed[k]? == some true), hcnt with
          | [],_ => rw [hf] at m1; simp at m1
          | [x],_ => rw [hf] at m1 m2; simp at m1 m2; exact hn.1 (by omega)
          | _ :: _ :: _, hcnt => simp at hcnt
        · exact e
      · simp only [Region.ready, List.mem_filter, List.mem_range, Bool.and_eq_true, Bool.not_eq_true'] at hi
        have hil : i < l.length := by simpa using hi.1
        have hiz : i < listed.size := by rw [hI.lsz]; exact hil
        have hni : listed[i]? ≠ some true := fun e => by have h2 := hi.2.1; simp [e] at h2
        have hlt2 : ((List.range l.length).filter fun k => !((listed.setIfInBounds i true)[k]? == some true)).length < ((List.range l.length).filter fun k => !(listed[k]? == some true)).length := by
          refine filter_lt (i := i) ?_ (by simp [hil]) ?_ ?_
          · intro k hk
            simp only [Bool.not_eq_true', beq_eq_false_iff_ne, ne_eq] at hk ⊢
            exact fun e => hk ((get_set_true hiz).2 (.inr e))
          · simpa using hni
          · simp [hiz]
        omega
  have hnone : ∀ j : Nat, (Array.replicate l.toArray.size false)[j]? ≠ some true := by
    intro j hj
    simp [Array.getElem?_replicate] at hj
  refine key _ _ 0 [] L [] _ _ ⟨by simp, ha.size, ha.dfr, (by rw [List.map_nil, List.append_nil]; exact hw.drew _), ?_, Nat.zero_le _, ?_, by simp, by simp, ?_, ?_, by simp, ?_, ?_, ?_, ?_, ?_⟩ ?_ ?_
  · intro w hw
    have : rank ms 0 = 0 := by simp [rank]
    rw [this]
    simp only [h0]
    refine hw.sel _ ?_
    have := hC.jn 0
    rwa [h0] at this
  · simpa [rank] using k
  · intro i _ _
    exact ⟨fun e => absurd e (hnone i), fun q => by rcases q with q | ⟨x, hx,_⟩; omega; cases hx⟩
  · intro j hj; exact absurd hj (hnone j)
  · intro t v hv; simp [ev1] at hv
  · intro t _ i hi; omega
  · intro t ht; simp [ev1] at ht
  · intro t k _ _ _ _ _ hl; exact absurd hl (hnone k)
  · intro t _ _ _ v hv; exact ha.get t v hv
  · intro k hk _
    simpa using Nat.lt_of_le_of_lt (Nat.zero_le _) hk
  · refine Nat.le_trans (List.length_filter_le _ _) ?_
    simp
theorem FO.bs {env : Env} {d i : Nat} {ty : TypeId} {pos : String} {aft : Array Edge} {T E len z : Nat} {zero : Value} {Z : List Value} {ps : List (Nat × Operand)} {vs : List (Nat × Value)} {C : List Value} (hT : IsSlice P T E) (hz : ZeroOf P E zero) (hs : (P.info? E).map (·.size) = some z) (hps : OVs env (ps.map (·.2)) (vs.map (·.2))) (hix : ps.map (·.1) = vs.map (·.1)) (hle : Nat.ble (len * z) 16777216 = true) (hpos : Nat.blt 0 (len * z) = true)
    (hZ : (List.range (len * z)).map (fun i => zero.cells[i % zero.cells.size]!) = Z) (hb : FL (PLs len z) Z vs C) : FO P env ⟨some d, .buildSlice T len ps.toArray, ty, pos, aft, none⟩ ⟨i, d, fun b => .slice (some ⟨b, 0, none⟩) len len, E, C.toArray⟩ := by
  refine ⟨rfl, rfl, fun a w h => ?_⟩
  have h2 := OVs.map (a := a) hps (fun x hm u ⟨u', hu', e⟩ => e ▸ h x (by
    obtain ⟨p, hp, e⟩ := List.mem_map.1 hm
    simp only [Op.operands]
    subst e
    simpa using ⟨p.1, hp⟩) u' hu')
  rw [List.map_map] at h2
  have hm : (ps.map fun p => (p.1, a.eval p.2)) = vs := pairs_eq hix h2
  have hfill : Instr.fill (fun i => some (i * z, z)) Z.toArray vs = some C.toArray := by
    have := hb.fill
    have key : ∀ (vs : List (Nat × Value)) (A : Array Value) (R : Array Value), Instr.fill ((PLs len z)[·]?) A vs = some R → Instr.fill (fun i => some (i * z, z)) A vs = some R := by
      intro vs
      induction vs with
      | nil => intro A R h; exact h
      | cons x xs ih =>
        intro A R h
        obtain ⟨i, v⟩ := x
        simp only [Instr.fill] at h ⊢
        cases q : (PLs len z)[i]? with
        | none => simp [q] at h
        | some y =>
          have hi : y = (i * z, z) := by
            simp only [PLs, List.getElem?_map, Option.map_eq_some_iff] at q
            obtain ⟨j, hj, e⟩ := q
            have : j = i := by
              cases r : (List.range len)[i]? with
              | none => rw [r] at hj; cases hj
              | some m => 
                have hlt : i < len := by
                  rcases Nat.lt_or_ge i len with s | s
                  · exact s
                  · rw [List.getElem?_eq_none (by simpa using s)] at r; cases r
                simp [hlt] at hj
                exact hj.symm
            subst this; exact e.symm
          subst hi
          simp only [q] at h
          split at h
          · cases h
          · rename_i hc
            simp only [hc, Bool.false_eq_true, if_false]
            exact ih _ _ h
    exact key _ _ _ this
  have hgt : ¬ (len * z > 2 ^ 24) := by have := Nat.le_of_ble_eq_true hle; omega
  have h0 : ¬ (len * z = 0) := by have : 0 < len * z := Nat.le_of_ble_eq_true hpos; omega
  simp only [execOp, Sem.run_bind]
  rw [show (ps.toArray.map fun (i, x) => (i, a.eval x)) = vs.toArray by rw [← hm]; simp]
  have e : ((Array.range (len * z)).map fun i => zero.cells[i % zero.cells.size]!) = Z.toArray := by
    rw [← hZ]; apply Array.ext'; simp
  simp only [Instr.buildSlice, run_underlying hT, run_size hs, Sem.run_bind, Result.andThen_ok, hgt, h0, if_false, run_zero hz, Sem.run_pure, e, hfill, newRow, run_newObj]
  rfl
end
end Go.SL
