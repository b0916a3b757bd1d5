/-
  Places that a rectangle meets.
-/
import Derived.Test.YtdcjeoamhjplmaaWK
namespace Go.Proofs.Ytdcjeoamhjplmaa
open Go.SL Go.Proofs Go.Cast
set_option linter.unusedVariables false



/-- A rectangle meets a pixel. -/
def rectP (x y e u v : Int) : Prop := ((u * 1000000 < x + 1000000 + e ∧ x - e < (u + 1) * 1000000) ∧ v * 1000000 < y + 1000000 + e) ∧ y - e < (v + 1) * 1000000
def touP (g : Grid) (x y e n : Int) : Prop := rectP x y e (n.tmod g.wide) (n.tdiv g.wide)
instance (x y e u v : Int) : Decidable (rectP x y e u v) := by unfold rectP; exact inferInstance
instance (g : Grid) (x y e n : Int) : Decidable (touP g x y e n) := by unfold touP; exact inferInstance
def metB (g : Grid) (l : List Int) (x y e : Int) : Bool := l.any fun n => decide (touP g x y e n)
def Whole (g : Grid) (l : List Int) (x y e : Int) : Prop := ∀ v u : Int, (-20 ≤ v ∧ v ≤ 40) → (-20 ≤ u ∧ u ≤ 40) → rectP x y e u v → At g l u v
noncomputable def wholeB (g : Grid) (l : List Int) (x y e : Int) : Bool := @decide (Whole g l x y e) (Classical.propDecidable _)
def whlTo (g : Grid) (l : List Int) (x y e v' : Int) : Prop := ∀ v u : Int, (-20 ≤ v ∧ v < v') → (-20 ≤ u ∧ u ≤ 40) → rectP x y e u v → At g l u v
def whlRow (g : Grid) (l : List Int) (x y e v u' : Int) : Prop := ∀ u : Int, (-20 ≤ u ∧ u < u') → rectP x y e u v → At g l u v
section
variable {g : Grid} {l : List Int} {x y e u v : Int} {j : Nat}
theorem row_b {w : Int} (h1 : -20 ≤ v) (h2 : v ≤ 40) (h3 : 1 ≤ w) (h4 : w ≤ 8) : -160 ≤ v * w ∧ v * w ≤ 320 := by
  have a : v * w ≤ 40 * w := Int.mul_le_mul_of_nonneg_right (by omega) (by omega)
  have b : -20 * w ≤ v * w := Int.mul_le_mul_of_nonneg_right (by omega) (by omega)
  omega
theorem getD_mem (h : j < l.length) : l.getD j 0 ∈ l := by
  rw [List.getD_eq_getElem?_getD, List.getElem?_eq_getElem h]; exact List.getElem_mem h
theorem met_step (h : ∀ k, k < j → ¬ touP g x y e (l.getD k 0)) (k : ¬ touP g x y e (l.getD j 0)) : ∀ k, k < j + 1 → ¬ touP g x y e (l.getD k 0) := by
  intro i hi
  rcases Nat.lt_succ_iff_lt_or_eq.1 hi with q | q
  · exact h i q
  · subst q; exact k
theorem met_yes (h : j < l.length) (k : touP g x y e (l.getD j 0)) : true = metB g l x y e := by
  symm; unfold metB; rw [List.any_eq_true]; exact ⟨_, getD_mem h, decide_eq_true k⟩
theorem met_no (h : ∀ k, k < j → ¬ touP g x y e (l.getD k 0)) (hj : l.length ≤ j) : false = metB g l x y e := by
  symm; unfold metB; rw [List.any_eq_false]
  intro n hn
  obtain ⟨i, hi, rfl⟩ := List.mem_iff_getElem.1 hn
  have := h i (by omega)
  rw [List.getD_eq_getElem?_getD, List.getElem?_eq_getElem hi] at this
  simpa using this
theorem whl_zero : whlTo g l x y e (-20) := fun _ _ h => by omega
theorem row_0 : whlRow g l x y e v (-20) := fun _ h => by omega
theorem whl_next (h : whlTo g l x y e v) (k : whlRow g l x y e v u) (hu : ¬ u ≤ 40) : whlTo g l x y e (v + 1) := fun v' u' h1 h2 h3 => by
  by_cases q : v' < v
  · exact h v' u' ⟨h1.1, q⟩ h2 h3
  · obtain rfl : v' = v := by omega
    exact k u' ⟨h2.1, by omega⟩ h3
theorem whr_in (h : whlRow g l x y e v u) (k : ¬ ((((u < 0 ∨ g.wide ≤ u) ∨ v < 0) ∨ g.high ≤ v) ∨ ¬ memB l (v * g.wide + u) = true)) : whlRow g l x y e v (u + 1) := fun u' h1 h2 => by
  by_cases q : u' < u
  · exact h u' ⟨h1.1, q⟩ h2
  · obtain rfl : u' = u := by omega
    refine ⟨by omega, by omega, ?_⟩
    have : memB l (v * g.wide + u') = true := by
      cases hb : memB l (v * g.wide + u')
      · exact absurd (Or.inr (by rw [hb]; decide)) k
      · rfl
    unfold memB at this
    exact of_decide_eq_true this
theorem whr_out (h : whlRow g l x y e v u) (k : ¬ rectP x y e u v) : whlRow g l x y e v (u + 1) := fun u' h1 h2 => by
  by_cases q : u' < u
  · exact h u' ⟨h1.1, q⟩ h2
  · obtain rfl : u' = u := by omega
    exact absurd h2 k
theorem whl_no (hv : -20 ≤ v ∧ v ≤ 40) (hu : -20 ≤ u ∧ u ≤ 40) (h : rectP x y e u v) (k : (((u < 0 ∨ g.wide ≤ u) ∨ v < 0) ∨ g.high ≤ v) ∨ ¬ memB l (v * g.wide + u) = true) : false = wholeB g l x y e := by
  symm; unfold wholeB; refine (@decide_eq_false_iff_not _ (Classical.propDecidable _)).2 ?_
  intro q
  have := q v u hv hu h
  unfold At at this
  rcases k with k | k
  · omega
  · exact k (by unfold memB; exact decide_eq_true this.2.2)
theorem whl_yes (h : whlTo g l x y e v) (hv : ¬ v ≤ 40) : true = wholeB g l x y e := by
  symm; unfold wholeB; refine (@decide_eq_true_eq _ (Classical.propDecidable _)).mpr ?_
  exact fun v' u' h1 h2 h3 => h v' u' ⟨h1.1, by omega⟩ h2 h3
end

set_option maxRecDepth 20000 in
theorem met_c (g : Grid) (p : Option Addr) (l : List Int) (c : Nat) (x y ed : Int) (w : World) (hg : gridOk g) (hw8 : g.wide ≤ 8) (hh8 : g.high ≤ 8) (hn : l.length < 1000000000000) (hm : ∀ n, n ∈ l → 0 ≤ n ∧ n < g.wide * g.high) (hx : -20000000 ≤ x ∧ x ≤ 20000000) (hy : -20000000 ≤ y ∧ y ≤ 20000000) (he : 0 ≤ ed ∧ ed ≤ 2000000) (hl : Ints w p l) :
  Calls Try.prog 28 #[gridV g, .slice p l.length c, .int .i64 x, .int .i64 y, .int .i64 ed] w fun e w' => e = .returned (.bool (metB g l x y ed)) ∧ St (bs w) [] w' := by
  have hg0 := hg
  have hgw : 1 ≤ g.wide ∧ 1 ≤ g.high := by unfold gridOk at hg0; omega
  refine enter (vs := [_, _, _, _, _]) (env := [(0, _), (1, _), (2, _), (3, _), (4, _)]) Try.func28 rfl rfl rfl rfl ?_
  refine VC.seq ?_
  refine VC.reg (VO.h rfl <| HO.box (C := #[_, _, _, _, _]) rfl rfl fun b1 => VO.l (LO.as (.r rfl)) rfl <| VO.nil ?_)
  refine VE.seqN ?_
  refine VC.seq ?_
  refine VC.seq ?_
  refine VC.reg (VO.l (LO.as (.r rfl)) rfl <| VO.nil ?_)
  refine VE.seqN ?_
  refine VC.block ?_
  refine VC.loopK (α := Nat) 0 (fun gx => [(11, .int .i64 (gx : Nat))]) [(1, _), (2, _), (3, _), (4, _), (5, _)] (fun gx => []) (fun gx => gx ≤ l.length ∧ ∀ k, k < gx → ¬ touP g x y ed (l.getD k 0)) (fun gx => l.length - gx) 0 (by exact ⟨by omega, fun k hk => by omega⟩) (.cons rfl (.cons rfl (.cons rfl (.cons rfl (.cons rfl (.cons rfl .nil)))))) (fun _ h => h) ?_
  rintro j ⟨hj, hz⟩
  refine VC.seq ?_
  refine VC.seq ?_
  refine VC.reg (VO.l (LO.mv (.r rfl)) rfl <| VO.l (LO.mv (.r rfl)) rfl <| VO.l (LO.len S28 (.r rfl) rfl) rfl <| VO.l (LO.lt (.r rfl) (.r rfl)) rfl <| VO.nil ?_)
  refine VE.seqN ?_
  refine VC.cond rfl (fun h1 => ?_) (fun h1 => ?_)
  ·
    have hlj : l.getD j 0 ∈ l := getD_mem (by omega)
    have hnj := hm _ hlj
    have hpx := tmod_bd (g := g) (p := l.getD j 0) hg hnj.1 hnj.2
    refine VC.skip (VE.seqN ?_)
    refine VC.seq ?_
    refine VC.block ?_
    refine VC.seq ?_
    refine VC.draw mixed (LL.l (LO.mv (.r rfl)) rfl <| LL.l (LO.mv (.r rfl)) rfl <| LL.l (LO.ixs S28 N3 hl.some (.r rfl) (.r rfl) rfl (by omega)) rfl <| LL.l (LO.ld O3 (.r rfl) (hl.at (j := j) (by omega))) rfl <| LL.l (LO.fa (r := 3) F23_3 (.r rfl) rfl) rfl <| LL.l (LO.ld O3 (.r rfl) (fun _ hw => cells_at hw 0 rfl ⟨_, rfl⟩)) rfl <| LL.l (LO.rem (.r rfl) (.r rfl) (by omega)) rfl <| LL.l (LO.mv (.r rfl)) rfl <| LL.l (LO.mv (.r rfl)) rfl <| LL.l (LO.ixs S28 N3 hl.some (.r rfl) (.r rfl) rfl (by omega)) rfl <| LL.l (LO.ld O3 (.r rfl) (hl.at (j := j) (by omega))) rfl <| LL.l (LO.fa (r := 3) F23_3 (.r rfl) rfl) rfl <| LL.l (LO.ld O3 (.r rfl) (fun _ hw => cells_at hw 0 rfl ⟨_, rfl⟩)) rfl <| LL.l (LO.quo (.r rfl) (.r rfl) (by omega) (wi (by omega) (by omega))) rfl <| LL.l (LO.as (.r rfl)) rfl <| LL.l (LO.as (.r rfl)) rfl <| LL.nil) (by kernel_rfl) ?_
    refine VE.seqN ?_
    refine VC.seq ?_
    refine VC.reg (VO.l (LO.mv (.r rfl)) rfl <| VO.l (LO.mul (.r rfl) (.r rfl) (wi (by omega) (by omega))) rfl <| VO.l (LO.mv (.r rfl)) rfl <| VO.l (LO.add (.r rfl) (.r rfl) (wi (by omega) (by omega))) rfl <| VO.l (LO.mv (.r rfl)) rfl <| VO.l (LO.add (.r rfl) (.r rfl) (wi (by omega) (by omega))) rfl <| VO.l (LO.lt (.r rfl) (.r rfl)) rfl <| VO.l (LO.mv (.r rfl)) rfl <| VO.lg rfl rfl (GD.t _) (fun hg => LO.mv (.r rfl)) rfl <| VO.lg rfl rfl (GD.t _) (fun hg => LO.add (.g hg rfl) (.r rfl) (wi (by omega) (by omega))) rfl <| VO.lg rfl rfl (GD.t _) (fun hg => LO.mul (.g hg rfl) (.r rfl) (wi (by omega) (by omega))) rfl <| VO.lg rfl rfl (GD.t _) (fun hg => LO.mv (.r rfl)) rfl <| VO.lg rfl rfl (GD.t _) (fun hg => LO.mv (.r rfl)) rfl <| VO.lg rfl rfl (GD.t _) (fun hg => LO.sub (.g hg rfl) (.g hg rfl) (wi (by omega) (by omega))) rfl <| VO.lg rfl rfl (GD.t _) (fun hg => LO.gt (.g hg rfl) (.g hg rfl)) rfl <| VO.l (LO.pkA (.r rfl) rfl rfl (.r rfl)) rfl <| VO.l (LO.mv (.r rfl)) rfl <| VO.lg rfl rfl (GD.t _) (fun hg => LO.mv (.r rfl)) rfl <| VO.lg rfl rfl (GD.t _) (fun hg => LO.mul (.g hg rfl) (.r rfl) (wi (by omega) (by omega))) rfl <| VO.lg rfl rfl (GD.t _) (fun hg => LO.mv (.r rfl)) rfl <| VO.lg rfl rfl (GD.t _) (fun hg => LO.add (.g hg rfl) (.r rfl) (wi (by omega) (by omega))) rfl <| VO.lg rfl rfl (GD.t _) (fun hg => LO.mv (.r rfl)) rfl <| VO.lg rfl rfl (GD.t _) (fun hg => LO.add (.g hg rfl) (.g hg rfl) (wi (by omega) (by omega))) rfl <| VO.lg rfl rfl (GD.t _) (fun hg => LO.lt (.g hg rfl) (.g hg rfl)) rfl <| VO.l (LO.pkA (.r rfl) rfl rfl (.r rfl)) rfl <| VO.l (LO.mv (.r rfl)) rfl <| VO.lg rfl rfl (GD.t _) (fun hg => LO.mv (.r rfl)) rfl <| VO.lg rfl rfl (GD.t _) (fun hg => LO.add (.g hg rfl) (.r rfl) (wi (by omega) (by omega))) rfl <| VO.lg rfl rfl (GD.t _) (fun hg => LO.mul (.g hg rfl) (.r rfl) (wi (by omega) (by omega))) rfl <| VO.lg rfl rfl (GD.t _) (fun hg => LO.mv (.r rfl)) rfl <| VO.lg rfl rfl (GD.t _) (fun hg => LO.mv (.r rfl)) rfl <| VO.lg rfl rfl (GD.t _) (fun hg => LO.sub (.g hg rfl) (.g hg rfl) (wi (by omega) (by omega))) rfl <| VO.lg rfl rfl (GD.t _) (fun hg => LO.gt (.g hg rfl) (.g hg rfl)) rfl <| VO.l (LO.pkA (.r rfl) rfl rfl (.r rfl)) rfl <| VO.nil ?_)
    refine VE.seqN ?_
    refine VC.cond rfl (fun h2 => ?_) (fun h2 => ?_)
    ·
      refine VC.seq ?_
      refine VC.reg (VO.l (LO.as (.r rfl)) rfl <| VO.nil ?_)
      refine VE.seqN ?_
      refine VC.ret (VE.inR (VE.thenR (VE.thenR (VE.inR (VE.thenR (VE.res (vs := [_]) rfl ⟨rfl, trivial⟩ (fun w hw => ?_)))))))
      refine ⟨?_, hw.nil⟩
      simp only [resV]
      congr 2
      first | exact met_yes (by omega) h2 | exact met_no hz (by omega)
    ·
      refine VC.skip (VE.inN (VE.seqN ?_))
      refine VC.reg (VO.l (LO.mv (.r rfl)) rfl <| VO.l (LO.add (.r rfl) (.r rfl) (wi (by omega) (by omega))) rfl <| VO.l (LO.as (.r rfl)) rfl <| VO.nil ?_)
      refine VE.thenN fun a w ha hw => ⟨j + 1, ⟨by omega, met_step hz h2⟩, (by omega), ha.sub (.cons rfl (.cons rfl (.cons rfl (.cons rfl (.cons rfl (.cons rfl .nil)))))), hw⟩
  ·
    refine VC.exit (VE.thenX (VE.thenX (VE.inX (VE.seqN ?_))))
    refine VC.seq ?_
    refine VC.reg (VO.l (LO.as (.r rfl)) rfl <| VO.nil ?_)
    refine VE.seqN ?_
    refine VC.ret (VE.res (vs := [_]) rfl ⟨rfl, trivial⟩ (fun w hw => ?_))
    refine ⟨?_, hw.nil⟩
    simp only [resV]
    congr 2
    first | exact met_yes (by omega) h2 | exact met_no hz (by omega)

set_option maxRecDepth 20000 in
theorem whole_c (g : Grid) (p : Option Addr) (l : List Int) (c : Nat) (x y ed : Int) (w : World) (hg : gridOk g) (hw8 : g.wide ≤ 8) (hh8 : g.high ≤ 8) (hn : l.length < 1000000000000) (hm : ∀ n, n ∈ l → 0 ≤ n ∧ n < g.wide * g.high) (hx : -20000000 ≤ x ∧ x ≤ 20000000) (hy : -20000000 ≤ y ∧ y ≤ 20000000) (he : 0 ≤ ed ∧ ed ≤ 2000000) (hl : Ints w p l) :
  Calls Try.prog 29 #[gridV g, .slice p l.length c, .int .i64 x, .int .i64 y, .int .i64 ed] w fun e w' => e = .returned (.bool (wholeB g l x y ed)) ∧ St (bs w) [] w' := by
  have hg0 := hg
  have hgw : 1 ≤ g.wide ∧ 1 ≤ g.high := by unfold gridOk at hg0; omega
  refine enter (vs := [_, _, _, _, _]) (env := [(0, _), (1, _), (2, _), (3, _), (4, _)]) Try.func29 rfl rfl rfl rfl ?_
  refine VC.seq ?_
  refine VC.reg (VO.h rfl <| HO.box (C := #[_, _, _, _, _]) rfl rfl fun b1 => VO.l (LO.as (.r rfl)) rfl <| VO.nil ?_)
  refine VE.seqN ?_
  refine VC.seq ?_
  refine VC.seq ?_
  refine VC.reg (VO.l (LO.as (.r rfl)) rfl <| VO.nil ?_)
  refine VE.seqN ?_
  refine VC.block ?_
  refine VC.loopK (α := Int) 0 (fun gx => [(11, .int .i64 gx)]) [(1, _), (2, _), (3, _), (4, _), (5, _)] (fun gx => []) (fun gx => (-20 ≤ gx ∧ gx ≤ 41) ∧ whlTo g l x y ed gx) (fun gx => (41 - gx).toNat) (-20) (by exact ⟨by decide, whl_zero⟩) (.cons rfl (.cons rfl (.cons rfl (.cons rfl (.cons rfl (.cons rfl .nil)))))) (fun _ h => h) ?_
  rintro v ⟨hv, hI⟩
  have hv : -20 ≤ v ∧ v ≤ 41 := hv
  have hI : whlTo g l x y ed v := hI
  refine VC.seq ?_
  refine VC.seq ?_
  refine VC.reg (VO.l (LO.mv (.r rfl)) rfl <| VO.l (LO.le (.r rfl) (.r rfl)) rfl <| VO.nil ?_)
  refine VE.seqN ?_
  refine VC.cond rfl (fun h1 => ?_) (fun h1 => ?_)
  ·
    refine VC.skip (VE.seqN ?_)
    refine VC.seq ?_
    refine VC.block ?_
    refine VC.seq ?_
    refine VC.reg (VO.l (LO.as (.r rfl)) rfl <| VO.nil ?_)
    refine VE.seqN ?_
    refine VC.block ?_
    refine VC.loopK (α := Int) 0 (fun gx => [(12, .int .i64 gx)]) [(1, _), (2, _), (3, _), (4, _), (5, _), (11, _)] (fun gx => []) (fun gx => (-20 ≤ gx ∧ gx ≤ 41) ∧ whlRow g l x y ed v gx) (fun gx => (41 - gx).toNat) (-20) (by exact ⟨by decide, row_0⟩) (.cons rfl (.cons rfl (.cons rfl (.cons rfl (.cons rfl (.cons rfl (.cons rfl .nil))))))) (fun _ h => h) ?_
    rintro u ⟨hu, hJ⟩
    have hu : -20 ≤ u ∧ u ≤ 41 := hu
    have hJ : whlRow g l x y ed v u := hJ
    refine VC.seq ?_
    refine VC.seq ?_
    refine VC.reg (VO.l (LO.mv (.r rfl)) rfl <| VO.l (LO.le (.r rfl) (.r rfl)) rfl <| VO.nil ?_)
    refine VE.seqN ?_
    refine VC.cond rfl (fun h2 => ?_) (fun h2 => ?_)
    ·
      have hvw : -160 ≤ v * g.wide ∧ v * g.wide ≤ 320 := row_b (by omega) (by omega) (by omega) (by omega)
      refine VC.skip (VE.seqN ?_)
      refine VC.seq ?_
      refine VC.block ?_
      refine VC.seq ?_
      refine VC.reg (VO.l (LO.mv (.r rfl)) rfl <| VO.l (LO.mul (.r rfl) (.r rfl) (wi (by omega) (by omega))) rfl <| VO.l (LO.mv (.r rfl)) rfl <| VO.l (LO.add (.r rfl) (.r rfl) (wi (by omega) (by omega))) rfl <| VO.l (LO.mv (.r rfl)) rfl <| VO.l (LO.add (.r rfl) (.r rfl) (wi (by omega) (by omega))) rfl <| VO.l (LO.lt (.r rfl) (.r rfl)) rfl <| VO.l (LO.mv (.r rfl)) rfl <| VO.lg rfl rfl (GD.t _) (fun hg => LO.mv (.r rfl)) rfl <| VO.lg rfl rfl (GD.t _) (fun hg => LO.add (.g hg rfl) (.r rfl) (wi (by omega) (by omega))) rfl <| VO.lg rfl rfl (GD.t _) (fun hg => LO.mul (.g hg rfl) (.r rfl) (wi (by omega) (by omega))) rfl <| VO.lg rfl rfl (GD.t _) (fun hg => LO.mv (.r rfl)) rfl <| VO.lg rfl rfl (GD.t _) (fun hg => LO.mv (.r rfl)) rfl <| VO.lg rfl rfl (GD.t _) (fun hg => LO.sub (.g hg rfl) (.g hg rfl) (wi (by omega) (by omega))) rfl <| VO.lg rfl rfl (GD.t _) (fun hg => LO.gt (.g hg rfl) (.g hg rfl)) rfl <| VO.l (LO.pkA (.r rfl) rfl rfl (.r rfl)) rfl <| VO.l (LO.mv (.r rfl)) rfl <| VO.lg rfl rfl (GD.t _) (fun hg => LO.mv (.r rfl)) rfl <| VO.lg rfl rfl (GD.t _) (fun hg => LO.mul (.g hg rfl) (.r rfl) (wi (by omega) (by omega))) rfl <| VO.lg rfl rfl (GD.t _) (fun hg => LO.mv (.r rfl)) rfl <| VO.lg rfl rfl (GD.t _) (fun hg => LO.add (.g hg rfl) (.r rfl) (wi (by omega) (by omega))) rfl <| VO.lg rfl rfl (GD.t _) (fun hg => LO.mv (.r rfl)) rfl <| VO.lg rfl rfl (GD.t _) (fun hg => LO.add (.g hg rfl) (.g hg rfl) (wi (by omega) (by omega))) rfl <| VO.lg rfl rfl (GD.t _) (fun hg => LO.lt (.g hg rfl) (.g hg rfl)) rfl <| VO.l (LO.pkA (.r rfl) rfl rfl (.r rfl)) rfl <| VO.l (LO.mv (.r rfl)) rfl <| VO.lg rfl rfl (GD.t _) (fun hg => LO.mv (.r rfl)) rfl <| VO.lg rfl rfl (GD.t _) (fun hg => LO.add (.g hg rfl) (.r rfl) (wi (by omega) (by omega))) rfl <| VO.lg rfl rfl (GD.t _) (fun hg => LO.mul (.g hg rfl) (.r rfl) (wi (by omega) (by omega))) rfl <| VO.lg rfl rfl (GD.t _) (fun hg => LO.mv (.r rfl)) rfl <| VO.lg rfl rfl (GD.t _) (fun hg => LO.mv (.r rfl)) rfl <| VO.lg rfl rfl (GD.t _) (fun hg => LO.sub (.g hg rfl) (.g hg rfl) (wi (by omega) (by omega))) rfl <| VO.lg rfl rfl (GD.t _) (fun hg => LO.gt (.g hg rfl) (.g hg rfl)) rfl <| VO.l (LO.pkA (.r rfl) rfl rfl (.r rfl)) rfl <| VO.nil ?_)
      refine VE.seqN ?_
      refine VC.cond rfl (fun h3 => ?_) (fun h3 => ?_)
      ·
        refine VC.seq ?_
        refine VC.reg (VO.l (LO.mv (.r rfl)) rfl <| VO.l (LO.lt (.r rfl) (.r rfl)) rfl <| VO.l (LO.mv (.r rfl)) rfl <| VO.lg rfl rfl (GD.f _) (fun hg => LO.mv (.r rfl)) rfl <| VO.lg rfl rfl (GD.f _) (fun hg => LO.fa (r := 3) F23_3 (.r rfl) rfl) rfl <| VO.lg rfl rfl (GD.f _) (fun hg => LO.ld O3 (.g hg rfl) (fun _ hw => cells_at hw 0 rfl ⟨_, rfl⟩)) rfl <| VO.lg rfl rfl (GD.f _) (fun hg => LO.ge (.g hg rfl) (.g hg rfl)) rfl <| VO.l (LO.pkO (.r rfl) (.r rfl) rfl rfl) rfl <| VO.l (LO.mv (.r rfl)) rfl <| VO.lg rfl rfl (GD.f _) (fun hg => LO.mv (.r rfl)) rfl <| VO.lg rfl rfl (GD.f _) (fun hg => LO.lt (.g hg rfl) (.r rfl)) rfl <| VO.l (LO.pkO (.r rfl) (.r rfl) rfl rfl) rfl <| VO.l (LO.mv (.r rfl)) rfl <| VO.lg rfl rfl (GD.f _) (fun hg => LO.mv (.r rfl)) rfl <| VO.lg rfl rfl (GD.f _) (fun hg => LO.fa (r := 4) F23_4 (.r rfl) rfl) rfl <| VO.lg rfl rfl (GD.f _) (fun hg => LO.ld O3 (.g hg rfl) (fun _ hw => cells_at hw 0 rfl ⟨_, rfl⟩)) rfl <| VO.lg rfl rfl (GD.f _) (fun hg => LO.ge (.g hg rfl) (.g hg rfl)) rfl <| VO.l (LO.pkO (.r rfl) (.r rfl) rfl rfl) rfl <| VO.l (LO.mv (.r rfl)) rfl <| VO.lg rfl rfl (GD.f _) (fun hg => LO.mv (.r rfl)) rfl <| VO.lg rfl rfl (GD.f _) (fun hg => LO.mv (.r rfl)) rfl <| VO.lg rfl rfl (GD.f _) (fun hg => LO.fa (r := 3) F23_3 (.r rfl) rfl) rfl <| VO.lg rfl rfl (GD.f _) (fun hg => LO.ld O3 (.g hg rfl) (fun _ hw => cells_at hw 0 rfl ⟨_, rfl⟩)) rfl <| VO.lg rfl rfl (GD.f _) (fun hg => LO.mul (.g hg rfl) (.g hg rfl) (wi (by omega) (by omega))) rfl <| VO.lg rfl rfl (GD.f _) (fun hg => LO.mv (.r rfl)) rfl <| VO.lg rfl rfl (GD.f _) (fun hg => LO.add (.g hg rfl) (.g hg rfl) (wi (by omega) (by omega))) rfl <| VO.lg rfl rfl (GD.f _) (fun hg => LO.call (xs := [_, _]) (vs := [_, _]) C22 ⟨(.g hg rfl), (.g hg rfl), trivial⟩ (fun w hw => has_c p l _ c w hn (hl.keep w hw))) rfl <| VO.lg rfl rfl (GD.f _) (fun hg => LO.not (.g hg rfl)) rfl <| VO.l (LO.pkO (.r rfl) (.r rfl) rfl rfl) rfl <| VO.nil ?_)
        refine VE.seqN ?_
        refine VC.cond rfl (fun h4 => ?_) (fun h4 => ?_)
        ·
          refine VC.seq ?_
          refine VC.reg (VO.l (LO.as (.r rfl)) rfl <| VO.nil ?_)
          refine VE.seqN ?_
          refine VC.ret (VE.inR (VE.thenR (VE.thenR (VE.inR (VE.inR (VE.thenR (VE.thenR (VE.inR (VE.thenR (VE.res (vs := [_]) rfl ⟨rfl, trivial⟩ (fun w hw => ?_)))))))))))
          refine ⟨?_, hw.nil⟩
          simp only [resV]
          congr 2
          first | exact whl_no (by omega) (by omega) h3 h4 | exact whl_yes hI (by omega)
        ·
          refine VC.skip (VE.inN (VE.seqN ?_))
          refine VC.reg (VO.l (LO.mv (.r rfl)) rfl <| VO.l (LO.add (.r rfl) (.r rfl) (wi (by omega) (by omega))) rfl <| VO.l (LO.as (.r rfl)) rfl <| VO.nil ?_)
          refine VE.thenN fun a w ha hw => ⟨u + 1, (by first | exact ⟨by omega, whr_in hJ h4⟩ | exact ⟨by omega, whr_out hJ h3⟩), (by omega), ha.sub (.cons rfl (.cons rfl (.cons rfl (.cons rfl (.cons rfl (.cons rfl (.cons rfl .nil))))))), hw⟩
      ·
        refine VC.skip (VE.inN (VE.seqN ?_))
        refine VC.reg (VO.l (LO.mv (.r rfl)) rfl <| VO.l (LO.add (.r rfl) (.r rfl) (wi (by omega) (by omega))) rfl <| VO.l (LO.as (.r rfl)) rfl <| VO.nil ?_)
        refine VE.thenN fun a w ha hw => ⟨u + 1, (by first | exact ⟨by omega, whr_in hJ h4⟩ | exact ⟨by omega, whr_out hJ h3⟩), (by omega), ha.sub (.cons rfl (.cons rfl (.cons rfl (.cons rfl (.cons rfl (.cons rfl (.cons rfl .nil))))))), hw⟩
    ·
      refine VC.exit (VE.thenX (VE.thenX (VE.inX (VE.inN (VE.seqN ?_)))))
      refine VC.reg (VO.l (LO.mv (.r rfl)) rfl <| VO.l (LO.add (.r rfl) (.r rfl) (wi (by omega) (by omega))) rfl <| VO.l (LO.as (.r rfl)) rfl <| VO.nil ?_)
      refine VE.thenN fun a w ha hw => ⟨v + 1, ⟨by omega, whl_next hI hJ (by omega)⟩, (by omega), ha.sub (.cons rfl (.cons rfl (.cons rfl (.cons rfl (.cons rfl (.cons rfl .nil)))))), hw⟩
  ·
    refine VC.exit (VE.thenX (VE.thenX (VE.inX (VE.seqN ?_))))
    refine VC.seq ?_
    refine VC.reg (VO.l (LO.as (.r rfl)) rfl <| VO.nil ?_)
    refine VE.seqN ?_
    refine VC.ret (VE.res (vs := [_]) rfl ⟨rfl, trivial⟩ (fun w hw => ?_))
    refine ⟨?_, hw.nil⟩
    simp only [resV]
    congr 2
    first | exact whl_no (by omega) (by omega) h3 h4 | exact whl_yes hI (by omega)

end Go.Proofs.Ytdcjeoamhjplmaa
