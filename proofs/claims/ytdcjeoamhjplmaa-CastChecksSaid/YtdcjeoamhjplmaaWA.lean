/-
  The document's checks of grids, flows and clouds.
-/
import Derived.Test.YtdcjeoamhjplmaaW9
namespace Go.Proofs.Ytdcjeoamhjplmaa
open Go.SL Go.Proofs Go.Cast
set_option linter.unusedVariables false

theorem F35_0 : FieldAt Try.prog 35 0 0 := ⟨_, _, Try.underlying35, rfl, rfl, 1, by kernel_rfl⟩
theorem C67 : IsFn Try.prog 67 := ⟨_, Try.func67, by decide, rfl⟩
theorem F35_1 : FieldAt Try.prog 35 1 2 := ⟨_, _, Try.underlying35, rfl, rfl, 1, by kernel_rfl⟩
theorem C57 : IsFn Try.prog 57 := ⟨_, Try.func57, by decide, rfl⟩
theorem C56 : IsFn Try.prog 56 := ⟨_, Try.func56, by decide, rfl⟩
theorem F37_2 : FieldAt Try.prog 37 2 2 := ⟨_, _, Try.underlying37, rfl, rfl, 3, by kernel_rfl⟩
theorem A35 : IsAgg Try.prog 35 4 := ⟨⟨_, Try.underlying35, rfl⟩, by kernel_rfl⟩
theorem C35 : IsFn Try.prog 35 := ⟨_, Try.func35, by decide, rfl⟩
theorem F37_3 : FieldAt Try.prog 37 3 6 := ⟨_, _, Try.underlying37, rfl, rfl, 0, by kernel_rfl⟩
theorem F37_1 : FieldAt Try.prog 37 1 1 := ⟨_, _, Try.underlying37, rfl, rfl, 0, by kernel_rfl⟩
theorem F37_0 : FieldAt Try.prog 37 0 0 := ⟨_, _, Try.underlying37, rfl, rfl, 0, by kernel_rfl⟩
theorem C77 : IsFn Try.prog 77 := ⟨_, Try.func77, by decide, rfl⟩


theorem step_ne {l : List Int} {n : Int} {j : Nat} (hz : ∀ k, k < j → l.getD k 0 ≠ n) (h : l.getD j 0 ≠ n) : ∀ k, k < j + 1 → l.getD k 0 ≠ n := by
  intro k hk
  rcases Nat.lt_or_ge k j with q | q
  · exact hz k q
  · have : k = j := by omega
    subst this; exact h
theorem has_yes {l : List Int} {n : Int} {j : Nat} (hj : j < l.length) (h : l.getD j 0 = n) : true = memB l n := by
  symm; rw [memB, decide_eq_true_iff, ← h, List.getD_eq_getElem?_getD, List.getElem?_eq_getElem hj]; exact List.getElem_mem hj
theorem has_no {l : List Int} {n : Int} {j : Nat} (hz : ∀ k, k < j → l.getD k 0 ≠ n) (hj : l.length ≤ j) : false = memB l n := by
  symm; rw [memB, decide_eq_false_iff_not]; intro q
  obtain ⟨i, hi, e⟩ := List.getElem_of_mem q
  exact hz i (by omega) (by rw [List.getD_eq_getElem?_getD, List.getElem?_eq_getElem hi]; exact e)

set_option maxRecDepth 20000 in
theorem In_c (n lo hi : Int) (w : World) :
  Calls Try.prog 57 #[.int .i64 n, .int .i64 lo, .int .i64 hi] w fun e w' => e = .returned (.bool (decide (lo ≤ n) && decide (n ≤ hi))) ∧ St (bs w) [] w' := by
  refine enter (vs := [_, _, _]) (env := [(0, _), (1, _), (2, _)]) Try.func57 rfl rfl rfl rfl ?_
  refine VC.seq ?_
  refine VC.reg (VO.l (LO.as (.r rfl)) rfl <| VO.nil ?_)
  refine VE.seqN ?_
  refine VC.seq ?_
  refine VC.reg (VO.l (LO.mv (.r rfl)) rfl <| VO.l (LO.mv (.r rfl)) rfl <| VO.l (LO.ge (.r rfl) (.r rfl)) rfl <| VO.l (LO.mv (.r rfl)) rfl <| VO.lg rfl rfl (GD.t _) (fun hg => LO.mv (.r rfl)) rfl <| VO.lg rfl rfl (GD.t _) (fun hg => LO.mv (.r rfl)) rfl <| VO.lg rfl rfl (GD.t _) (fun hg => LO.le (.g hg rfl) (.g hg rfl)) rfl <| VO.l (LO.pkA (.r rfl) rfl rfl (.r rfl)) rfl <| VO.l (LO.as (.r rfl)) rfl <| VO.nil ?_)
  refine VE.seqN ?_
  refine VC.ret (VE.res (vs := [_]) rfl ⟨rfl, trivial⟩ (fun w hw => ?_))
  exact ⟨rfl, hw.nil⟩

set_option maxRecDepth 20000 in
theorem Valid_c (s t lo hi : Int) (w : World) :
  Calls Try.prog 67 #[.agg #[.int .i64 s, .int .i64 t], .int .i64 lo, .int .i64 hi] w fun e w' => e = .returned (.bool ((decide (s ≤ t) && decide (lo ≤ s)) && decide (t ≤ hi))) ∧ St (bs w) [] w' := by
  refine enter (vs := [_, _, _]) (env := [(0, _), (1, _), (2, _)]) Try.func67 rfl rfl rfl rfl ?_
  refine VC.seq ?_
  refine VC.reg (VO.h rfl <| HO.box (C := #[_, _]) rfl rfl fun b1 => VO.l (LO.as (.r rfl)) rfl <| VO.nil ?_)
  refine VE.seqN ?_
  refine VC.seq ?_
  refine VC.reg (VO.l (LO.fa (r := 0) F30_0 (.r rfl) rfl) rfl <| VO.l (LO.ld O3 (.r rfl) (fun _ hw => cells_at hw 0 rfl ⟨_, rfl⟩)) rfl <| VO.l (LO.fa (r := 1) F30_1 (.r rfl) rfl) rfl <| VO.l (LO.ld O3 (.r rfl) (fun _ hw => cells_at hw 0 rfl ⟨_, rfl⟩)) rfl <| VO.l (LO.le (.r rfl) (.r rfl)) rfl <| VO.l (LO.mv (.r rfl)) rfl <| VO.lg rfl rfl (GD.t _) (fun hg => LO.fa (r := 0) F30_0 (.r rfl) rfl) rfl <| VO.lg rfl rfl (GD.t _) (fun hg => LO.ld O3 (.g hg rfl) (fun _ hw => cells_at hw 0 rfl ⟨_, rfl⟩)) rfl <| VO.lg rfl rfl (GD.t _) (fun hg => LO.mv (.r rfl)) rfl <| VO.lg rfl rfl (GD.t _) (fun hg => LO.ge (.g hg rfl) (.g hg rfl)) rfl <| VO.l (LO.pkA (.r rfl) rfl rfl (.r rfl)) rfl <| VO.l (LO.mv (.r rfl)) rfl <| VO.lg rfl rfl (GD.t _) (fun hg => LO.fa (r := 1) F30_1 (.r rfl) rfl) rfl <| VO.lg rfl rfl (GD.t _) (fun hg => LO.ld O3 (.g hg rfl) (fun _ hw => cells_at hw 0 rfl ⟨_, rfl⟩)) rfl <| VO.lg rfl rfl (GD.t _) (fun hg => LO.mv (.r rfl)) rfl <| VO.lg rfl rfl (GD.t _) (fun hg => LO.le (.g hg rfl) (.g hg rfl)) rfl <| VO.l (LO.pkA (.r rfl) rfl rfl (.r rfl)) rfl <| VO.l (LO.as (.r rfl)) rfl <| VO.nil ?_)
  refine VE.seqN ?_
  refine VC.ret (VE.res (vs := [_]) rfl ⟨rfl, trivial⟩ (fun w hw => ?_))
  exact ⟨rfl, hw.nil⟩

set_option maxRecDepth 20000 in
theorem rCheckFlow_c (f : Flow) (w : World) :
  Calls Try.prog 35 #[flowV f] w fun e w' => e = .returned (.int .i64 (flowE f)) ∧ St (bs w) [] w' := by
  refine enter (vs := [_]) (env := [(0, _)]) Try.func35 rfl rfl rfl rfl ?_
  refine VC.seq ?_
  refine VC.reg (VO.h rfl <| HO.box (C := #[_, _, _, _]) rfl rfl fun b1 => VO.l (LO.as (.r rfl)) rfl <| VO.nil ?_)
  refine VE.seqN ?_
  refine VC.seq ?_
  refine VC.seq ?_
  refine VC.reg (VO.l (LO.fa (r := 0) F35_0 (.r rfl) rfl) rfl <| VO.l (LO.lda (vs := [_, _]) A30 (.r rfl) (fun _ hw => cells_at hw 0 rfl ⟨_, rfl⟩) rfl) rfl <| VO.l (LO.call (xs := [_, _, _]) (vs := [_, _, _]) C67 ⟨(.r rfl), (.r rfl), (.r rfl), trivial⟩ (fun w _ => Valid_c _ _ _ _ w)) rfl <| VO.l (LO.not (.r rfl)) rfl <| VO.l (LO.mv (.r rfl)) rfl <| VO.lg rfl rfl (GD.f _) (fun hg => LO.fa (r := 2) F35_1 (.r rfl) rfl) rfl <| VO.lg rfl rfl (GD.f _) (fun hg => LO.lda (vs := [_, _]) A30 (.g hg rfl) (fun _ hw => cells_at hw 0 rfl ⟨_, rfl⟩) rfl) rfl <| VO.lg rfl rfl (GD.f _) (fun hg => LO.call (xs := [_, _, _]) (vs := [_, _, _]) C67 ⟨(.g hg rfl), (.r rfl), (.r rfl), trivial⟩ (fun w _ => Valid_c _ _ _ _ w)) rfl <| VO.lg rfl rfl (GD.f _) (fun hg => LO.not (.g hg rfl)) rfl <| VO.l (LO.pkO (.r rfl) (.r rfl) rfl rfl) rfl <| VO.nil ?_)
  refine VE.seqN ?_
  refine VC.cond rfl (fun h1 => ?_) (fun h1 => ?_)
  ·
    refine VC.seq ?_
    refine VC.reg (VO.l (LO.as (.r rfl)) rfl <| VO.nil ?_)
    refine VE.seqN ?_
    refine VC.ret (VE.thenR (VE.res (vs := [_]) rfl ⟨rfl, trivial⟩ (fun w hw => ?_)))
    exact ⟨by simp only [resV, flowE]; first | rw [if_pos (by unfold flowOk; omega)] | rw [if_neg (by unfold flowOk; omega)], hw.nil⟩
  ·
    refine VC.skip (VE.seqN ?_)
    refine VC.seq ?_
    refine VC.reg (VO.l (LO.as (.r rfl)) rfl <| VO.nil ?_)
    refine VE.seqN ?_
    refine VC.ret (VE.res (vs := [_]) rfl ⟨rfl, trivial⟩ (fun w hw => ?_))
    exact ⟨by simp only [resV, flowE]; first | rw [if_pos (by unfold flowOk; omega)] | rw [if_neg (by unfold flowOk; omega)], hw.nil⟩

set_option maxRecDepth 20000 in
theorem rCheckGrid_c (g : Grid) (w : World) :
  Calls Try.prog 56 #[gridV g] w fun e w' => e = .returned (.int .i64 (gridE g)) ∧ St (bs w) [] w' := by
  refine enter (vs := [_]) (env := [(0, _)]) Try.func56 rfl rfl rfl rfl ?_
  refine VC.seq ?_
  refine VC.reg (VO.h rfl <| HO.box (C := #[_, _, _, _, _]) rfl rfl fun b1 => VO.l (LO.as (.r rfl)) rfl <| VO.nil ?_)
  refine VE.seqN ?_
  refine VC.seq ?_
  refine VC.seq ?_
  refine VC.reg (VO.l (LO.fa (r := 0) F23_0 (.r rfl) rfl) rfl <| VO.l (LO.ld O3 (.r rfl) (fun _ hw => cells_at hw 0 rfl ⟨_, rfl⟩)) rfl <| VO.l (LO.call (xs := [_, _, _]) (vs := [_, _, _]) C57 ⟨(.r rfl), (.r rfl), (.r rfl), trivial⟩ (fun w _ => In_c _ _ _ w)) rfl <| VO.l (LO.not (.r rfl)) rfl <| VO.l (LO.mv (.r rfl)) rfl <| VO.lg rfl rfl (GD.f _) (fun hg => LO.fa (r := 1) F23_1 (.r rfl) rfl) rfl <| VO.lg rfl rfl (GD.f _) (fun hg => LO.ld O3 (.g hg rfl) (fun _ hw => cells_at hw 0 rfl ⟨_, rfl⟩)) rfl <| VO.lg rfl rfl (GD.f _) (fun hg => LO.call (xs := [_, _, _]) (vs := [_, _, _]) C57 ⟨(.g hg rfl), (.r rfl), (.r rfl), trivial⟩ (fun w _ => In_c _ _ _ w)) rfl <| VO.lg rfl rfl (GD.f _) (fun hg => LO.not (.g hg rfl)) rfl <| VO.l (LO.pkO (.r rfl) (.r rfl) rfl rfl) rfl <| VO.l (LO.mv (.r rfl)) rfl <| VO.lg rfl rfl (GD.f _) (fun hg => LO.fa (r := 2) F23_2 (.r rfl) rfl) rfl <| VO.lg rfl rfl (GD.f _) (fun hg => LO.ld O3 (.g hg rfl) (fun _ hw => cells_at hw 0 rfl ⟨_, rfl⟩)) rfl <| VO.lg rfl rfl (GD.f _) (fun hg => LO.call (xs := [_, _, _]) (vs := [_, _, _]) C57 ⟨(.g hg rfl), (.r rfl), (.r rfl), trivial⟩ (fun w _ => In_c _ _ _ w)) rfl <| VO.lg rfl rfl (GD.f _) (fun hg => LO.not (.g hg rfl)) rfl <| VO.l (LO.pkO (.r rfl) (.r rfl) rfl rfl) rfl <| VO.l (LO.mv (.r rfl)) rfl <| VO.lg rfl rfl (GD.f _) (fun hg => LO.fa (r := 3) F23_3 (.r rfl) rfl) rfl <| VO.lg rfl rfl (GD.f _) (fun hg => LO.ld O3 (.g hg rfl) (fun _ hw => cells_at hw 0 rfl ⟨_, rfl⟩)) rfl <| VO.lg rfl rfl (GD.f _) (fun hg => LO.call (xs := [_, _, _]) (vs := [_, _, _]) C57 ⟨(.g hg rfl), (.r rfl), (.r rfl), trivial⟩ (fun w _ => In_c _ _ _ w)) rfl <| VO.lg rfl rfl (GD.f _) (fun hg => LO.not (.g hg rfl)) rfl <| VO.l (LO.pkO (.r rfl) (.r rfl) rfl rfl) rfl <| VO.l (LO.mv (.r rfl)) rfl <| VO.lg rfl rfl (GD.f _) (fun hg => LO.fa (r := 4) F23_4 (.r rfl) rfl) rfl <| VO.lg rfl rfl (GD.f _) (fun hg => LO.ld O3 (.g hg rfl) (fun _ hw => cells_at hw 0 rfl ⟨_, rfl⟩)) rfl <| VO.lg rfl rfl (GD.f _) (fun hg => LO.call (xs := [_, _, _]) (vs := [_, _, _]) C57 ⟨(.g hg rfl), (.r rfl), (.r rfl), trivial⟩ (fun w _ => In_c _ _ _ w)) rfl <| VO.lg rfl rfl (GD.f _) (fun hg => LO.not (.g hg rfl)) rfl <| VO.l (LO.pkO (.r rfl) (.r rfl) rfl rfl) rfl <| VO.nil ?_)
  refine VE.seqN ?_
  refine VC.cond rfl (fun h1 => ?_) (fun h1 => ?_)
  ·
    refine VC.seq ?_
    refine VC.reg (VO.l (LO.as (.r rfl)) rfl <| VO.nil ?_)
    refine VE.seqN ?_
    refine VC.ret (VE.thenR (VE.res (vs := [_]) rfl ⟨rfl, trivial⟩ (fun w hw => ?_)))
    exact ⟨by simp only [resV, gridE]; first | rw [if_pos (by unfold gridOk; omega)] | rw [if_neg (by unfold gridOk; omega)], hw.nil⟩
  ·
    refine VC.skip (VE.seqN ?_)
    refine VC.seq ?_
    refine VC.reg (VO.l (LO.as (.r rfl)) rfl <| VO.nil ?_)
    refine VE.seqN ?_
    refine VC.ret (VE.res (vs := [_]) rfl ⟨rfl, trivial⟩ (fun w hw => ?_))
    exact ⟨by simp only [resV, gridE]; first | rw [if_pos (by unfold gridOk; omega)] | rw [if_neg (by unfold gridOk; omega)], hw.nil⟩

set_option maxRecDepth 20000 in
theorem rhas_c (p : Option Addr) (l : List Int) (n : Int) (c : Nat) (w : World) (hn : l.length < 1000000000000) (hl : Ints w p l) :
  Calls Try.prog 77 #[.slice p l.length c, .int .i64 n] w fun e w' => e = .returned (.bool (memB l n)) ∧ St (bs w) [] w' := by
  refine enter (vs := [_, _]) (env := [(0, _), (1, _)]) Try.func77 rfl rfl rfl rfl ?_
  refine VC.seq ?_
  refine VC.reg (VO.l (LO.as (.r rfl)) rfl <| VO.nil ?_)
  refine VE.seqN ?_
  refine VC.seq ?_
  refine VC.seq ?_
  refine VC.reg (VO.l (LO.as (.r rfl)) rfl <| VO.nil ?_)
  refine VE.seqN ?_
  refine VC.block ?_
  refine VC.loopK (α := Nat) 0 (fun x => [(5, .int .i64 (x : Nat))]) [(0, _), (1, _)] (fun x => []) (fun x => x ≤ l.length ∧ ∀ k, k < x → l.getD k 0 ≠ n) (fun x => l.length - x) 0 (by exact ⟨by omega, fun k hk => by omega⟩) (.cons rfl (.cons rfl (.cons rfl .nil))) (fun _ h => h) ?_
  rintro j ⟨hj, hz⟩
  refine VC.seq ?_
  refine VC.seq ?_
  refine VC.reg (VO.l (LO.mv (.r rfl)) rfl <| VO.l (LO.mv (.r rfl)) rfl <| VO.l (LO.len S28 (.r rfl) rfl) rfl <| VO.l (LO.lt (.r rfl) (.r rfl)) rfl <| VO.nil ?_)
  refine VE.seqN ?_
  refine VC.cond rfl (fun h1 => ?_) (fun h1 => ?_)
  ·
    refine VC.skip (VE.seqN ?_)
    refine VC.seq ?_
    refine VC.block ?_
    refine VC.seq ?_
    refine VC.reg (VO.l (LO.mv (.r rfl)) rfl <| VO.l (LO.mv (.r rfl)) rfl <| VO.l (LO.ixs S28 N3 hl.some (.r rfl) (.r rfl) rfl (by omega)) rfl <| VO.l (LO.ld O3 (.r rfl) (hl.at (j := j) (by omega))) rfl <| VO.l (LO.mv (.r rfl)) rfl <| VO.l (LO.eq (.r rfl) (.r rfl)) rfl <| VO.nil ?_)
    refine VE.seqN ?_
    refine VC.cond rfl (fun h2 => ?_) (fun h2 => ?_)
    ·
      refine VC.seq ?_
      refine VC.reg (VO.l (LO.as (.r rfl)) rfl <| VO.nil ?_)
      refine VE.seqN ?_
      refine VC.ret (VE.inR (VE.thenR (VE.thenR (VE.inR (VE.thenR (VE.res (vs := [_]) rfl ⟨rfl, trivial⟩ (fun w hw => ?_)))))))
      refine ⟨?_, hw.nil⟩
      simp only [resV]
      congr 2
      first | exact has_yes (by omega) h2 | exact has_no hz (by omega)
    ·
      refine VC.skip (VE.inN (VE.seqN ?_))
      refine VC.reg (VO.l (LO.mv (.r rfl)) rfl <| VO.l (LO.add (.r rfl) (.r rfl) (wi (by omega) (by omega))) rfl <| VO.l (LO.as (.r rfl)) rfl <| VO.nil ?_)
      refine VE.thenN fun a w ha hw => ⟨j + 1, ⟨by omega, step_ne hz (by simpa using h2)⟩, (by omega), ha.sub (.cons rfl (.cons rfl (.cons rfl .nil))), hw⟩
  ·
    refine VC.exit (VE.thenX (VE.thenX (VE.inX (VE.seqN ?_))))
    refine VC.seq ?_
    refine VC.reg (VO.l (LO.as (.r rfl)) rfl <| VO.nil ?_)
    refine VE.seqN ?_
    refine VC.ret (VE.res (vs := [_]) rfl ⟨rfl, trivial⟩ (fun w hw => ?_))
    refine ⟨?_, hw.nil⟩
    simp only [resV]
    congr 2
    first | exact has_yes (by omega) h2 | exact has_no hz (by omega)

set_option maxRecDepth 20000 in
theorem rCheckCloud_c (g : Grid) (c : Cloud) (ps pm : Option Addr) (cs cm : Nat) (w : World) (hns : c.sure.length < 1000000000000) (hnm : c.may.length < 1000000000000) (hs : Ints w ps c.sure) (hm : Ints w pm c.may) :
  Calls Try.prog 46 #[gridV g, cloudV ps cs pm cm c] w fun e w' => e = .returned (.int .i64 (cloudE g c)) ∧ St (bs w) [] w' := by
  refine enter (vs := [_, _]) (env := [(0, _), (1, _)]) Try.func46 rfl rfl rfl rfl ?_
  refine VC.seq ?_
  refine VC.reg (VO.h rfl <| HO.box (C := #[_, _, _, _, _]) rfl rfl fun b1 => VO.h rfl <| HO.box (C := #[_, _, _, _, _, _, _]) rfl rfl fun b2 => VO.l (LO.as (.r rfl)) rfl <| VO.nil ?_)
  refine VE.seqN ?_
  refine VC.seq ?_
  refine VC.reg (VO.l (LO.lda (vs := [_, _, _, _, _]) A23 (.r rfl) (fun _ hw => cells_at hw 1 rfl ⟨_, rfl⟩) rfl) rfl <| VO.l (LO.call (xs := [_]) (vs := [_]) C56 ⟨(.r rfl), trivial⟩ (fun w _ => rCheckGrid_c g w)) rfl <| VO.l (LO.as (.r rfl)) rfl <| VO.nil ?_)
  refine VE.seqN ?_
  refine VC.seq ?_
  refine VC.seq ?_
  refine VC.reg (VO.l (LO.mv (.r rfl)) rfl <| VO.l (LO.eq (.r rfl) (.r rfl)) rfl <| VO.nil ?_)
  refine VE.seqN ?_
  refine VC.cond rfl (fun h0 => ?_) (fun h0 => ?_)
  ·
    have hgo : gridOk g := gridOk_of (by simpa using h0)
    have har := area_bd hgo
    refine VC.reg (VO.l (LO.fa (r := 2) F37_2 (.r rfl) rfl) rfl <| VO.l (LO.lda (vs := [_, _, _, _]) A35 (.r rfl) (fun _ hw => cells_at hw 0 rfl ⟨_, rfl⟩) rfl) rfl <| VO.l (LO.call (xs := [_]) (vs := [_]) C35 ⟨(.r rfl), trivial⟩ (fun w _ => rCheckFlow_c c.flow w)) rfl <| VO.l (LO.as (.r rfl)) rfl <| VO.nil ?_)
    refine VE.seqN ?_
    refine VC.seq ?_
    refine VC.seq ?_
    refine VC.reg (VO.l (LO.mv (.r rfl)) rfl <| VO.l (LO.ne (.r rfl) (.r rfl)) rfl <| VO.nil ?_)
    refine VE.seqN ?_
    refine VC.cond rfl (fun h1 => ?_) (fun h1 => ?_)
    ·
      refine VC.seq ?_
      refine VC.reg (VO.l (LO.mv (.r rfl)) rfl <| VO.l (LO.as (.r rfl)) rfl <| VO.nil ?_)
      refine VE.seqN ?_
      refine VC.ret (VE.thenR (VE.res (vs := [_]) rfl ⟨rfl, trivial⟩ (fun w hw => ?_)))
      refine ⟨?_, hw.nil⟩
      simp only [resV]
      congr 2
      first | exact cE1 h0 | exact cE2 hgo h1 | exact cE3 hgo hfo (by simpa using h3) | exact cE4 hgo hfo h3' h4 | exact cE5 hgo hfo h3' h4 hz h5 (by simpa using h6) | exact cE6 hgo hfo h3' h4 hz h5 (by simpa using h6) h7 | exact cE7 hgo hfo h3' h4 hm0 hz h8 h9 | exact cE8 hgo hfo h3' h4 hm0 hz h8 h9 (by simpa using h10) | exact cE9 hgo hfo h3' h4 hm0 hz h8
    ·
      refine VC.skip (VE.seqN ?_)
      refine VC.seq ?_
      refine VC.seq ?_
      refine VC.reg (VO.l (LO.fa (r := 6) F37_3 (.r rfl) rfl) rfl <| VO.l (LO.ld O3 (.r rfl) (fun _ hw => cells_at hw 0 rfl ⟨_, rfl⟩)) rfl <| VO.l (LO.call (xs := [_, _, _]) (vs := [_, _, _]) C57 ⟨(.r rfl), (.r rfl), (.r rfl), trivial⟩ (fun w _ => In_c _ _ _ w)) rfl <| VO.l (LO.not (.r rfl)) rfl <| VO.nil ?_)
      refine VE.seqN ?_
      refine VC.cond rfl (fun h3 => ?_) (fun h3 => ?_)
      ·
        refine VC.seq ?_
        have hfo : flowOk c.flow := flowOk_of h1
        refine VC.reg (VO.l (LO.as (.r rfl)) rfl <| VO.nil ?_)
        refine VE.seqN ?_
        refine VC.ret (VE.thenR (VE.res (vs := [_]) rfl ⟨rfl, trivial⟩ (fun w hw => ?_)))
        refine ⟨?_, hw.nil⟩
        simp only [resV]
        congr 2
        first | exact cE1 h0 | exact cE2 hgo h1 | exact cE3 hgo hfo (by simpa using h3) | exact cE4 hgo hfo h3' h4 | exact cE5 hgo hfo h3' h4 hz h5 (by simpa using h6) | exact cE6 hgo hfo h3' h4 hz h5 (by simpa using h6) h7 | exact cE7 hgo hfo h3' h4 hm0 hz h8 h9 | exact cE8 hgo hfo h3' h4 hm0 hz h8 h9 (by simpa using h10) | exact cE9 hgo hfo h3' h4 hm0 hz h8
      ·
        refine VC.skip (VE.seqN ?_)
        refine VC.seq ?_
        refine VC.seq ?_
        have hfo : flowOk c.flow := flowOk_of h1
        have h3 := (by simpa using h3 : 0 ≤ c.grow ∧ c.grow ≤ 10000)
        have h3' : ¬¬ (0 ≤ c.grow ∧ c.grow ≤ 10000) := fun q => q h3
        refine VC.reg (VO.l (LO.fa (r := 1) F37_1 (.r rfl) rfl) rfl <| VO.l (LO.ld O28 (.r rfl) (fun _ hw => cells_at hw 0 rfl ⟨_, rfl⟩)) rfl <| VO.l (LO.len S28 (.r rfl) rfl) rfl <| VO.l (LO.eq (.r rfl) (.r rfl)) rfl <| VO.nil ?_)
        refine VE.seqN ?_
        refine VC.cond rfl (fun h4 => ?_) (fun h4 => ?_)
        ·
          refine VC.seq ?_
          refine VC.reg (VO.l (LO.as (.r rfl)) rfl <| VO.nil ?_)
          refine VE.seqN ?_
          refine VC.ret (VE.thenR (VE.res (vs := [_]) rfl ⟨rfl, trivial⟩ (fun w hw => ?_)))
          refine ⟨?_, hw.nil⟩
          simp only [resV]
          congr 2
          first | exact cE1 h0 | exact cE2 hgo h1 | exact cE3 hgo hfo (by simpa using h3) | exact cE4 hgo hfo h3' h4 | exact cE5 hgo hfo h3' h4 hz h5 (by simpa using h6) | exact cE6 hgo hfo h3' h4 hz h5 (by simpa using h6) h7 | exact cE7 hgo hfo h3' h4 hm0 hz h8 h9 | exact cE8 hgo hfo h3' h4 hm0 hz h8 h9 (by simpa using h10) | exact cE9 hgo hfo h3' h4 hm0 hz h8
        ·
          refine VC.skip (VE.seqN ?_)
          refine VC.seq ?_
          refine VC.seq ?_
          refine VC.reg (VO.l (LO.as (.r rfl)) rfl <| VO.nil ?_)
          refine VE.seqN ?_
          refine VC.block ?_
          refine VC.loopK (α := Nat) 0 (fun x => [(6, .int .i64 (x : Nat))]) [(2, _), (3, _)] (fun x => []) (fun x => x ≤ c.may.length ∧ ∀ k, k < x → mayE g c.may k = 0) (fun x => c.may.length - x) 0 (by exact ⟨by omega, fun k hk => by omega⟩) (.cons rfl (.cons rfl (.cons rfl .nil))) (fun _ h => h) ?_
          rintro j ⟨hj, hz⟩
          refine VC.seq ?_
          refine VC.seq ?_
          refine VC.reg (VO.l (LO.mv (.r rfl)) rfl <| VO.l (LO.fa (r := 1) F37_1 (.r rfl) rfl) rfl <| VO.l (LO.ld O28 (.r rfl) (fun _ hw => cells_at hw 0 rfl ⟨_, rfl⟩)) rfl <| VO.l (LO.len S28 (.r rfl) rfl) rfl <| VO.l (LO.lt (.r rfl) (.r rfl)) rfl <| VO.nil ?_)
          refine VE.seqN ?_
          refine VC.cond rfl (fun h5 => ?_) (fun h5 => ?_)
          ·
            refine VC.skip (VE.seqN ?_)
            refine VC.seq ?_
            refine VC.block ?_
            refine VC.seq ?_
            refine VC.seq ?_
            refine VC.draw mixed (LL.l (LO.fa (r := 1) F37_1 (.r rfl) rfl) rfl <| LL.l (LO.ld O28 (.r rfl) (fun _ hw => cells_at hw 0 rfl ⟨_, rfl⟩)) rfl <| LL.l (LO.mv (.r rfl)) rfl <| LL.l (LO.ixs S28 N3 hm.some (.r rfl) (.r rfl) rfl (by omega)) rfl <| LL.l (LO.ld O3 (.r rfl) (hm.at (j := j) (by omega))) rfl <| LL.l (LO.fa (r := 3) F23_3 (.r rfl) rfl) rfl <| LL.l (LO.ld O3 (.r rfl) (fun _ hw => cells_at hw 1 rfl ⟨_, rfl⟩)) rfl <| LL.l (LO.fa (r := 4) F23_4 (.r rfl) rfl) rfl <| LL.l (LO.ld O3 (.r rfl) (fun _ hw => cells_at hw 1 rfl ⟨_, rfl⟩)) rfl <| LL.l (LO.mul (.r rfl) (.r rfl) (wi (by omega) (by omega))) rfl <| LL.l (LO.sub (.r rfl) (.r rfl) (wi (by omega) (by omega))) rfl <| LL.l (LO.call (xs := [_, _, _]) (vs := [_, _, _]) C57 ⟨(.r rfl), (.r rfl), (.r rfl), trivial⟩ (fun w _ => In_c _ _ _ w)) rfl <| LL.l (LO.not (.r rfl)) rfl <| LL.nil) (by kernel_rfl) ?_
            refine VE.seqN ?_
            refine VC.cond rfl (fun h6 => ?_) (fun h6 => ?_)
            ·
              refine VC.seq ?_
              refine VC.reg (VO.l (LO.as (.r rfl)) rfl <| VO.nil ?_)
              refine VE.seqN ?_
              refine VC.ret (VE.thenR (VE.inR (VE.thenR (VE.thenR (VE.inR (VE.thenR (VE.res (vs := [_]) rfl ⟨rfl, trivial⟩ (fun w hw => ?_))))))))
              refine ⟨?_, hw.nil⟩
              simp only [resV]
              congr 2
              first | exact cE1 h0 | exact cE2 hgo h1 | exact cE3 hgo hfo (by simpa using h3) | exact cE4 hgo hfo h3' h4 | exact cE5 hgo hfo h3' h4 hz h5 (by simpa using h6) | exact cE6 hgo hfo h3' h4 hz h5 (by simpa using h6) h7 | exact cE7 hgo hfo h3' h4 hm0 hz h8 h9 | exact cE8 hgo hfo h3' h4 hm0 hz h8 h9 (by simpa using h10) | exact cE9 hgo hfo h3' h4 hm0 hz h8
            ·
              refine VC.skip (VE.seqN ?_)
              refine VC.seq ?_
              refine VC.draw mixed (LL.l (LO.mv (.r rfl)) rfl <| LL.l (LO.gt (.r rfl) (.r rfl)) rfl <| LL.l (LO.mv (.r rfl)) rfl <| LL.lg rfl rfl (GD.t _) (fun hg => LO.fa (r := 1) F37_1 (.r rfl) rfl) rfl <| LL.lg rfl rfl (GD.t _) (fun hg => LO.ld O28 (.g hg rfl) (fun _ hw => cells_at hw 0 rfl ⟨_, rfl⟩)) rfl <| LL.lg rfl rfl (GD.t _) (fun hg => LO.mv (.r rfl)) rfl <| LL.lg rfl rfl (GD.t _) (fun hg => LO.ixs S28 N3 hm.some (.g hg rfl) (.g hg rfl) rfl (by omega)) rfl <| LL.lg rfl rfl (GD.t _) (fun hg => LO.ld O3 (.g hg rfl) (hm.at (j := j) (by omega))) rfl <| LL.lg rfl rfl (GD.t _) (fun hg => LO.fa (r := 1) F37_1 (.r rfl) rfl) rfl <| LL.lg rfl rfl (GD.t _) (fun hg => LO.ld O28 (.g hg rfl) (fun _ hw => cells_at hw 0 rfl ⟨_, rfl⟩)) rfl <| LL.lg rfl rfl (GD.t _) (fun hg => LO.mv (.r rfl)) rfl <| LL.lg rfl rfl (GD.t _) (fun hg => LO.sub (.g hg rfl) (.r rfl) (wi (by omega) (by omega))) rfl <| LL.lg rfl rfl (GD.t _) (fun hg => LO.ixs S28 N3 hm.some (.g hg rfl) (.g hg rfl) (by have := of_decide_eq_true hg; omega) (by omega)) rfl <| LL.lg rfl rfl (GD.t _) (fun hg => LO.ld O3 (.g hg rfl) (hm.at (j := (j - 1)) (by omega))) rfl <| LL.lg rfl rfl (GD.t _) (fun hg => LO.le (.g hg rfl) (.g hg rfl)) rfl <| LL.l (LO.pkA (.r rfl) rfl rfl (.r rfl)) rfl <| LL.nil) (by kernel_rfl) ?_
              refine VE.seqN ?_
              refine VC.cond rfl (fun h7 => ?_) (fun h7 => ?_)
              ·
                refine VC.seq ?_
                refine VC.reg (VO.l (LO.as (.r rfl)) rfl <| VO.nil ?_)
                refine VE.seqN ?_
                refine VC.ret (VE.inR (VE.thenR (VE.thenR (VE.inR (VE.thenR (VE.res (vs := [_]) rfl ⟨rfl, trivial⟩ (fun w hw => ?_)))))))
                refine ⟨?_, hw.nil⟩
                simp only [resV]
                congr 2
                first | exact cE1 h0 | exact cE2 hgo h1 | exact cE3 hgo hfo (by simpa using h3) | exact cE4 hgo hfo h3' h4 | exact cE5 hgo hfo h3' h4 hz h5 (by simpa using h6) | exact cE6 hgo hfo h3' h4 hz h5 (by simpa using h6) h7 | exact cE7 hgo hfo h3' h4 hm0 hz h8 h9 | exact cE8 hgo hfo h3' h4 hm0 hz h8 h9 (by simpa using h10) | exact cE9 hgo hfo h3' h4 hm0 hz h8
              ·
                refine VC.skip (VE.inN (VE.seqN ?_))
                refine VC.reg (VO.l (LO.mv (.r rfl)) rfl <| VO.l (LO.add (.r rfl) (.r rfl) (wi (by omega) (by omega))) rfl <| VO.l (LO.as (.r rfl)) rfl <| VO.nil ?_)
                refine VE.thenN fun a w ha hw => ⟨j + 1, ⟨by omega, step_zero hz (mayE_zero (by simpa using h6) h7)⟩, (by omega), ha.sub (.cons rfl (.cons rfl (.cons rfl .nil))), hw⟩
          ·
            refine VC.exit (VE.thenX (VE.thenX (VE.inX (VE.seqN ?_))))
            refine VC.seq ?_
            refine VC.seq ?_
            refine VC.reg (VO.l (LO.as (.r rfl)) rfl <| VO.nil ?_)
            refine VE.seqN ?_
            refine VC.block ?_
            have hm0 : firstE (mayE g c.may) c.may.length = 0 := firstE_zero (fun k hk => hz k (by omega))
            clear hz hj
            refine VC.loopK (α := Nat) 0 (fun x => [(7, .int .i64 (x : Nat))]) [(3, _)] (fun x => []) (fun x => x ≤ c.sure.length ∧ ∀ k, k < x → sureE c.may c.sure k = 0) (fun x => c.sure.length - x) 0 (by exact ⟨by omega, fun k hk => by omega⟩) (.cons rfl (.cons rfl .nil)) (fun _ h => h) ?_
            rintro j ⟨hj, hz⟩
            refine VC.seq ?_
            refine VC.seq ?_
            refine VC.reg (VO.l (LO.mv (.r rfl)) rfl <| VO.l (LO.fa (r := 0) F37_0 (.r rfl) rfl) rfl <| VO.l (LO.ld O28 (.r rfl) (fun _ hw => cells_at hw 0 rfl ⟨_, rfl⟩)) rfl <| VO.l (LO.len S28 (.r rfl) rfl) rfl <| VO.l (LO.lt (.r rfl) (.r rfl)) rfl <| VO.nil ?_)
            refine VE.seqN ?_
            refine VC.cond rfl (fun h8 => ?_) (fun h8 => ?_)
            ·
              refine VC.skip (VE.seqN ?_)
              refine VC.seq ?_
              refine VC.block ?_
              refine VC.seq ?_
              refine VC.seq ?_
              refine VC.draw mixed (LL.l (LO.mv (.r rfl)) rfl <| LL.l (LO.gt (.r rfl) (.r rfl)) rfl <| LL.l (LO.mv (.r rfl)) rfl <| LL.lg rfl rfl (GD.t _) (fun hg => LO.fa (r := 0) F37_0 (.r rfl) rfl) rfl <| LL.lg rfl rfl (GD.t _) (fun hg => LO.ld O28 (.g hg rfl) (fun _ hw => cells_at hw 0 rfl ⟨_, rfl⟩)) rfl <| LL.lg rfl rfl (GD.t _) (fun hg => LO.mv (.r rfl)) rfl <| LL.lg rfl rfl (GD.t _) (fun hg => LO.ixs S28 N3 hs.some (.g hg rfl) (.g hg rfl) rfl (by omega)) rfl <| LL.lg rfl rfl (GD.t _) (fun hg => LO.ld O3 (.g hg rfl) (hs.at (j := j) (by omega))) rfl <| LL.lg rfl rfl (GD.t _) (fun hg => LO.fa (r := 0) F37_0 (.r rfl) rfl) rfl <| LL.lg rfl rfl (GD.t _) (fun hg => LO.ld O28 (.g hg rfl) (fun _ hw => cells_at hw 0 rfl ⟨_, rfl⟩)) rfl <| LL.lg rfl rfl (GD.t _) (fun hg => LO.mv (.r rfl)) rfl <| LL.lg rfl rfl (GD.t _) (fun hg => LO.sub (.g hg rfl) (.r rfl) (wi (by omega) (by omega))) rfl <| LL.lg rfl rfl (GD.t _) (fun hg => LO.ixs S28 N3 hs.some (.g hg rfl) (.g hg rfl) (by have := of_decide_eq_true hg; omega) (by omega)) rfl <| LL.lg rfl rfl (GD.t _) (fun hg => LO.ld O3 (.g hg rfl) (hs.at (j := (j - 1)) (by omega))) rfl <| LL.lg rfl rfl (GD.t _) (fun hg => LO.le (.g hg rfl) (.g hg rfl)) rfl <| LL.l (LO.pkA (.r rfl) rfl rfl (.r rfl)) rfl <| LL.nil) (by kernel_rfl) ?_
              refine VE.seqN ?_
              refine VC.cond rfl (fun h9 => ?_) (fun h9 => ?_)
              ·
                refine VC.seq ?_
                refine VC.reg (VO.l (LO.as (.r rfl)) rfl <| VO.nil ?_)
                refine VE.seqN ?_
                refine VC.ret (VE.thenR (VE.inR (VE.thenR (VE.thenR (VE.inR (VE.thenR (VE.res (vs := [_]) rfl ⟨rfl, trivial⟩ (fun w hw => ?_))))))))
                refine ⟨?_, hw.nil⟩
                simp only [resV]
                congr 2
                first | exact cE1 h0 | exact cE2 hgo h1 | exact cE3 hgo hfo (by simpa using h3) | exact cE4 hgo hfo h3' h4 | exact cE5 hgo hfo h3' h4 hz h5 (by simpa using h6) | exact cE6 hgo hfo h3' h4 hz h5 (by simpa using h6) h7 | exact cE7 hgo hfo h3' h4 hm0 hz h8 h9 | exact cE8 hgo hfo h3' h4 hm0 hz h8 h9 (by simpa using h10) | exact cE9 hgo hfo h3' h4 hm0 hz h8
              ·
                refine VC.skip (VE.seqN ?_)
                refine VC.seq ?_
                refine VC.draw mixed (LL.l (LO.fa (r := 1) F37_1 (.r rfl) rfl) rfl <| LL.l (LO.ld O28 (.r rfl) (fun _ hw => cells_at hw 0 rfl ⟨_, rfl⟩)) rfl <| LL.l (LO.fa (r := 0) F37_0 (.r rfl) rfl) rfl <| LL.l (LO.ld O28 (.r rfl) (fun _ hw => cells_at hw 0 rfl ⟨_, rfl⟩)) rfl <| LL.l (LO.mv (.r rfl)) rfl <| LL.l (LO.ixs S28 N3 hs.some (.r rfl) (.r rfl) rfl (by omega)) rfl <| LL.l (LO.ld O3 (.r rfl) (hs.at (j := j) (by omega))) rfl <| LL.l (LO.call (xs := [_, _]) (vs := [_, _]) C77 ⟨(.r rfl), (.r rfl), trivial⟩ (fun w hw => rhas_c pm c.may _ cm w hnm (hm.keep w hw))) rfl <| LL.l (LO.not (.r rfl)) rfl <| LL.nil) (by kernel_rfl) ?_
                refine VE.seqN ?_
                refine VC.cond rfl (fun h10 => ?_) (fun h10 => ?_)
                ·
                  refine VC.seq ?_
                  refine VC.reg (VO.l (LO.as (.r rfl)) rfl <| VO.nil ?_)
                  refine VE.seqN ?_
                  refine VC.ret (VE.inR (VE.thenR (VE.thenR (VE.inR (VE.thenR (VE.res (vs := [_]) rfl ⟨rfl, trivial⟩ (fun w hw => ?_)))))))
                  refine ⟨?_, hw.nil⟩
                  simp only [resV]
                  congr 2
                  first | exact cE1 h0 | exact cE2 hgo h1 | exact cE3 hgo hfo (by simpa using h3) | exact cE4 hgo hfo h3' h4 | exact cE5 hgo hfo h3' h4 hz h5 (by simpa using h6) | exact cE6 hgo hfo h3' h4 hz h5 (by simpa using h6) h7 | exact cE7 hgo hfo h3' h4 hm0 hz h8 h9 | exact cE8 hgo hfo h3' h4 hm0 hz h8 h9 (by simpa using h10) | exact cE9 hgo hfo h3' h4 hm0 hz h8
                ·
                  refine VC.skip (VE.inN (VE.seqN ?_))
                  refine VC.reg (VO.l (LO.mv (.r rfl)) rfl <| VO.l (LO.add (.r rfl) (.r rfl) (wi (by omega) (by omega))) rfl <| VO.l (LO.as (.r rfl)) rfl <| VO.nil ?_)
                  refine VE.thenN fun a w ha hw => ⟨j + 1, ⟨by omega, step_zero hz (sureE_zero h9 (by simpa using h10))⟩, (by omega), ha.sub (.cons rfl (.cons rfl .nil)), hw⟩
            ·
              refine VC.exit (VE.thenX (VE.thenX (VE.inX (VE.seqN ?_))))
              refine VC.seq ?_
              refine VC.reg (VO.l (LO.as (.r rfl)) rfl <| VO.nil ?_)
              refine VE.seqN ?_
              refine VC.ret (VE.res (vs := [_]) rfl ⟨rfl, trivial⟩ (fun w hw => ?_))
              refine ⟨?_, hw.nil⟩
              simp only [resV]
              congr 2
              first | exact cE1 h0 | exact cE2 hgo h1 | exact cE3 hgo hfo (by simpa using h3) | exact cE4 hgo hfo h3' h4 | exact cE5 hgo hfo h3' h4 hz h5 (by simpa using h6) | exact cE6 hgo hfo h3' h4 hz h5 (by simpa using h6) h7 | exact cE7 hgo hfo h3' h4 hm0 hz h8 h9 | exact cE8 hgo hfo h3' h4 hm0 hz h8 h9 (by simpa using h10) | exact cE9 hgo hfo h3' h4 hm0 hz h8
  ·
    refine VC.skip (VE.seqN ?_)
    refine VC.seq ?_
    refine VC.seq ?_
    refine VC.reg (VO.l (LO.mv (.r rfl)) rfl <| VO.l (LO.ne (.r rfl) (.r rfl)) rfl <| VO.nil ?_)
    refine VE.seqN ?_
    refine VC.cond rfl (fun h1 => ?_) (fun h1 => ?_)
    ·
      refine VC.seq ?_
      refine VC.reg (VO.l (LO.mv (.r rfl)) rfl <| VO.l (LO.as (.r rfl)) rfl <| VO.nil ?_)
      refine VE.seqN ?_
      refine VC.ret (VE.thenR (VE.res (vs := [_]) rfl ⟨rfl, trivial⟩ (fun w hw => ?_)))
      refine ⟨?_, hw.nil⟩
      simp only [resV]
      congr 2
      first | exact cE1 h0 | exact cE2 hgo h1 | exact cE3 hgo hfo (by simpa using h3) | exact cE4 hgo hfo h3' h4 | exact cE5 hgo hfo h3' h4 hz h5 (by simpa using h6) | exact cE6 hgo hfo h3' h4 hz h5 (by simpa using h6) h7 | exact cE7 hgo hfo h3' h4 hm0 hz h8 h9 | exact cE8 hgo hfo h3' h4 hm0 hz h8 h9 (by simpa using h10) | exact cE9 hgo hfo h3' h4 hm0 hz h8
    ·
      (exfalso; omega)

end Go.Proofs.Ytdcjeoamhjplmaa
