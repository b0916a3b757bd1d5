/-
  The walks of Fit and of the examples.
-/
import Derived.Test.YtdcjeoamhjplmaaW7
namespace Go.Proofs.Ytdcjeoamhjplmaa
open Go.SL Go.Proofs Go.Cast
set_option linter.unusedVariables false

theorem Z30 : ZeroOf Try.prog 30 (.agg #[.int .i64 0, .int .i64 0]) := by unfold ZeroOf; kernel_rfl
theorem B30 : Builds Try.prog 30 [(0, 1), (1, 1)] [.int .i64 0, .int .i64 0] := Builds.mk fun _ => by kernel_rfl
theorem N30 : (Try.prog.info? 30).map (·.size) = some 2 := by kernel_rfl
theorem Z32 : ZeroOf Try.prog 32 (.agg #[.int .i64 0, .int .i64 0, .int .i64 0, .int .i64 0]) := by unfold ZeroOf; kernel_rfl
theorem B32 : Builds Try.prog 32 [(0, 2), (2, 2)] [.int .i64 0, .int .i64 0, .int .i64 0, .int .i64 0] := Builds.mk fun _ => by kernel_rfl
theorem N32 : (Try.prog.info? 32).map (·.size) = some 4 := by kernel_rfl
theorem C64 : IsFn Try.prog 64 := ⟨_, Try.func64, by decide, rfl⟩
theorem Z23 : ZeroOf Try.prog 23 (.agg #[.int .i64 0, .int .i64 0, .int .i64 0, .int .i64 0, .int .i64 0]) := by unfold ZeroOf; kernel_rfl
theorem B23 : Builds Try.prog 23 [(0, 1), (1, 1), (2, 1), (3, 1), (4, 1)] [.int .i64 0, .int .i64 0, .int .i64 0, .int .i64 0, .int .i64 0] := Builds.mk fun _ => by kernel_rfl
theorem N23 : (Try.prog.info? 23).map (·.size) = some 5 := by kernel_rfl
theorem C30 : IsFn Try.prog 30 := ⟨_, Try.func30, by decide, rfl⟩
theorem B34 : Builds Try.prog 34 [(0, 1), (1, 1), (2, 4), (6, 1)] [.slice none 0 0, .slice none 0 0, .int .i64 0, .int .i64 0, .int .i64 0, .int .i64 0, .int .i64 0] := Builds.mk fun _ => by kernel_rfl


def gG : Grid := ⟨0, 0, 1000, 6, 3⟩
def cC : Cloud := ⟨[7, 8], [6, 7, 8], ⟨1000, 1000, 0, 0⟩, 0⟩
def rushLo (lo sec slack : Int) : Int := 1000 * (1000 * lo - slack) / sec
def rushHi (hi sec slack : Int) : Int := -(-(1000 * (1000 * hi + slack)) / sec)
def fitOk (x1 x2 y1 y2 sec slack : Int) : Prop := (-64 ≤ x1 ∧ x1 ≤ x2 ∧ x2 ≤ 64) ∧ (-64 ≤ y1 ∧ y1 ≤ y2 ∧ y2 ≤ 64) ∧ (1 ≤ sec ∧ sec ≤ 86400) ∧ (0 ≤ slack ∧ slack ≤ 2000)
instance (x1 x2 y1 y2 sec slack : Int) : Decidable (fitOk x1 x2 y1 y2 sec slack) := by unfold fitOk; exact inferInstance
def fitF (x1 x2 y1 y2 sec slack : Int) : Flow := ⟨rushLo x1 sec slack, rushHi x2 sec slack, rushLo y1 sec slack, rushHi y2 sec slack⟩
def fitE (x1 x2 y1 y2 sec slack : Int) : Int := if ¬ fitOk x1 x2 y1 y2 sec slack then 3 else if ¬ flowOk (fitF x1 x2 y1 y2 sec slack) then 26 else 0
def fitR (x1 x2 y1 y2 sec slack : Int) : Flow := if fitE x1 x2 y1 y2 sec slack = 0 then fitF x1 x2 y1 y2 sec slack else ⟨0, 0, 0, 0⟩
section
variable {x1 x2 y1 y2 sec slack : Int}
theorem fitA (h : ¬ fitOk x1 x2 y1 y2 sec slack) : Ending.returned (.tuple #[flowV ⟨0, 0, 0, 0⟩, .int .i64 3]) = .returned (.tuple #[flowV (fitR x1 x2 y1 y2 sec slack), .int .i64 (fitE x1 x2 y1 y2 sec slack)]) := by
  have e : fitE x1 x2 y1 y2 sec slack = 3 := if_pos h
  have f : fitR x1 x2 y1 y2 sec slack = ⟨0, 0, 0, 0⟩ := if_neg (by rw [e]; decide)
  rw [e, f]
theorem fitB (h : fitOk x1 x2 y1 y2 sec slack) (k : ¬ flowE (fitF x1 x2 y1 y2 sec slack) = 0) : Ending.returned (.tuple #[flowV ⟨0, 0, 0, 0⟩, .int .i64 26]) = .returned (.tuple #[flowV (fitR x1 x2 y1 y2 sec slack), .int .i64 (fitE x1 x2 y1 y2 sec slack)]) := by
  have e : fitE x1 x2 y1 y2 sec slack = 26 := by
    unfold fitE; rw [if_neg (fun q => q h), if_pos (fun q => k (if_pos q))]
  have f : fitR x1 x2 y1 y2 sec slack = ⟨0, 0, 0, 0⟩ := if_neg (by rw [e]; decide)
  rw [e, f]
theorem fitC (h : fitOk x1 x2 y1 y2 sec slack) (k : ¬ ¬ flowE (fitF x1 x2 y1 y2 sec slack) = 0) : Ending.returned (.tuple #[flowV (fitF x1 x2 y1 y2 sec slack), .int .i64 0]) = .returned (.tuple #[flowV (fitR x1 x2 y1 y2 sec slack), .int .i64 (fitE x1 x2 y1 y2 sec slack)]) := by
  have e : fitE x1 x2 y1 y2 sec slack = 0 := by
    unfold fitE; rw [if_neg (fun q => q h), if_neg (fun q => q (flowOk_of k))]
  have f : fitR x1 x2 y1 y2 sec slack = fitF x1 x2 y1 y2 sec slack := if_pos e
  rw [e, f]
end
theorem step_eq {l m : List Int} {j : Nat} (hz : ∀ k, k < j → l.getD k 0 = m.getD k 0) (h : l.getD j 0 = m.getD j 0) : ∀ k, k < j + 1 → l.getD k 0 = m.getD k 0 := by
  intro k hk
  rcases Nat.lt_or_ge k j with q | q
  · exact hz k q
  · have : k = j := by omega
    subst this; exact h
theorem ints_ne1 {l m : List Int} (h : ¬ (l.length : Int) = (m.length : Int)) : false = decide (l = m) := by
  symm; rw [decide_eq_false_iff_not]; intro e; rw [e] at h; exact h rfl
theorem ints_ne2 {l m : List Int} {j : Nat} (h : ¬ l.getD j 0 = m.getD j 0) : false = decide (l = m) := by
  symm; rw [decide_eq_false_iff_not]; intro e; rw [e] at h; exact h rfl
theorem ints_eq {l m : List Int} {j : Nat} (hz : ∀ k, k < j → l.getD k 0 = m.getD k 0) (hj : j = l.length) (hm : l.length = m.length) : true = decide (l = m) := by
  symm; rw [decide_eq_true_iff]
  refine List.ext_getElem hm fun i h1 h2 => ?_
  have := hz i (by omega)
  simpa [List.getD_eq_getElem?_getD, List.getElem?_eq_getElem h1, List.getElem?_eq_getElem h2] using this

set_option maxRecDepth 20000 in
theorem rush_c (lo hi slack sec : Int) (bs1 bt : Nat) (w : World) (hs : Cells w ⟨bs1, 0, none⟩ [.int .i64 slack]) (ht : Cells w ⟨bt, 0, none⟩ [.int .i64 sec]) (h1 : -64 ≤ lo) (h2 : lo ≤ 64) (h3 : -64 ≤ hi) (h4 : hi ≤ 64) (h5 : 0 ≤ slack) (h6 : slack ≤ 2000) (h7 : 1 ≤ sec) (h8 : sec ≤ 86400) :
  Calls Try.prog 64 #[.agg #[.int .i64 lo, .int .i64 hi], .pointer (some ⟨bs1, 0, none⟩), .pointer (some ⟨bt, 0, none⟩)] w fun e w' => e = .returned (.agg #[.int .i64 (rushLo lo sec slack), .int .i64 (rushHi hi sec slack)]) ∧ St (bs w) [] w' := by
  refine enter (vs := [_, _, _]) (env := [(0, _), (1, _), (2, _)]) Try.func64 rfl rfl rfl rfl ?_
  refine VC.seq ?_
  refine VC.reg (VO.h rfl <| HO.box (C := #[_, _]) rfl rfl fun b1 => VO.h rfl <| HO.alloc (C := #[_, _]) Z30 rfl fun b2 => VO.nil ?_)
  refine VE.seqN ?_
  refine VC.seq ?_
  refine VC.drawH [[0, 1], [1]] [some 0, some 0, some 0, some 0, some 0, some 0, some 0, some 0, some 0, some 0, some 0, some 0, some 0, some 0, some 0, some 0, some 0, none] mixed (by kernel_rfl) rfl (LX.l (fun _ hJ => LO.fa (r := 0) F30_0 (.r rfl) rfl) rfl <| LX.l (fun _ hJ => LO.ld O3 (.r rfl) (fun _ hw => cells_at (hJ _ hw) 1 rfl ⟨_, rfl⟩)) rfl <| LX.l (fun _ hJ => LO.mul (.r rfl) (.r rfl) (wi (by omega) (by omega))) rfl <| LX.l (fun _ hJ => LO.ld O3 (.r rfl) (cells_keep (sub_cells (off := 0) hs ⟨_, rfl⟩))) rfl <| LX.l (fun _ hJ => LO.sub (.r rfl) (.r rfl) (wi (by omega) (by omega))) rfl <| LX.l (fun _ hJ => LO.mul (.r rfl) (.r rfl) (wi (by omega) (by omega))) rfl <| LX.l (fun _ hJ => LO.ld O3 (.r rfl) (cells_keep (sub_cells (off := 0) ht ⟨_, rfl⟩))) rfl <| LX.l (fun _ hJ => LO.call (xs := [_, _]) (vs := [_, _]) C65 ⟨(.r rfl), (.r rfl), trivial⟩ (fun w _ => down_c _ _ (by omega) (by omega) (by omega) w)) rfl <| LX.l (fun _ hJ => LO.fa (r := 1) F30_1 (.r rfl) rfl) rfl <| LX.l (fun _ hJ => LO.ld O3 (.r rfl) (fun _ hw => cells_at (hJ _ hw) 1 rfl ⟨_, rfl⟩)) rfl <| LX.l (fun _ hJ => LO.mul (.r rfl) (.r rfl) (wi (by omega) (by omega))) rfl <| LX.l (fun _ hJ => LO.ld O3 (.r rfl) (cells_keep (sub_cells (off := 0) hs ⟨_, rfl⟩))) rfl <| LX.l (fun _ hJ => LO.add (.r rfl) (.r rfl) (wi (by omega) (by omega))) rfl <| LX.l (fun _ hJ => LO.mul (.r rfl) (.r rfl) (wi (by omega) (by omega))) rfl <| LX.l (fun _ hJ => LO.ld O3 (.r rfl) (cells_keep (sub_cells (off := 0) ht ⟨_, rfl⟩))) rfl <| LX.l (fun _ hJ => LO.call (xs := [_, _]) (vs := [_, _]) C66 ⟨(.r rfl), (.r rfl), trivial⟩ (fun w _ => up_c _ _ (by omega) (by omega) (by omega) w)) rfl <| LX.l (fun _ hJ => LO.bd (ps := [(_, _), (_, _)]) (vs := [(_, _), (_, _)]) (C := [_, _]) B30 ⟨(.r rfl), (.r rfl), trivial⟩ rfl ⟨_, [_], [_, _], rfl, rfl, rfl, rfl, ⟨_, [_], [_, _], rfl, rfl, rfl, rfl, rfl⟩⟩) rfl <| LX.s <| LX.nil) (HX.s <| HX.s <| HX.s <| HX.s <| HX.s <| HX.s <| HX.s <| HX.s <| HX.s <| HX.s <| HX.s <| HX.s <| HX.s <| HX.s <| HX.s <| HX.s <| HX.s <| HX.h0 <| HO.st 0 (vs := [_, _]) (C' := [_, _]) (L' := [_, _]) N30 rfl rfl rfl rfl rfl rfl rfl rfl <| ⟨fun _ hw => hw.sel [1] rfl, HX.nil ?_⟩)
  refine VE.seqN ?_
  refine VC.ret (VE.res (vs := [_]) rfl ⟨RV.agg (vs := [_, _]) A30 rfl (cells_blk 0 rfl ⟨_, rfl⟩) rfl, trivial⟩ (fun w hw => ?_))
  exact ⟨rfl, hw.nil⟩

set_option maxRecDepth 20000 in
theorem Fit_c (x1 x2 y1 y2 sec slack : Int) (w : World) :
  Calls Try.prog 31 #[.agg #[.int .i64 x1, .int .i64 x2], .agg #[.int .i64 y1, .int .i64 y2], .int .i64 sec, .int .i64 slack] w fun e w' => e = .returned (.tuple #[flowV (fitR x1 x2 y1 y2 sec slack), .int .i64 (fitE x1 x2 y1 y2 sec slack)]) ∧ St (bs w) [] w' := by
  refine enter (vs := [_, _, _, _]) (env := [(0, _), (1, _), (2, _), (3, _)]) Try.func31 rfl rfl rfl rfl ?_
  refine VC.seq ?_
  refine VC.reg (VO.h rfl <| HO.box (C := #[_, _]) rfl rfl fun b1 => VO.h rfl <| HO.box (C := #[_, _]) rfl rfl fun b2 => VO.h rfl <| HO.box (C := #[_]) rfl rfl fun b3 => VO.h rfl <| HO.box (C := #[_]) rfl rfl fun b4 => VO.h rfl <| HO.alloc (C := #[_, _, _, _]) Z32 rfl fun b5 => VO.l (LO.as (.r rfl)) rfl <| VO.nil ?_)
  refine VE.seqN ?_
  refine VC.seq ?_
  refine VC.seq ?_
  refine VC.reg (VO.l (LO.lda (vs := [_, _]) A30 (.r rfl) (fun _ hw => cells_at hw 4 rfl ⟨_, rfl⟩) rfl) rfl <| VO.l (LO.call (xs := [_, _, _]) (vs := [_, _, _]) C63 ⟨(.r rfl), (.r rfl), (.r rfl), trivial⟩ (fun w _ => inside_c _ _ _ _ w)) rfl <| VO.l (LO.not (.r rfl)) rfl <| VO.l (LO.mv (.r rfl)) rfl <| VO.lg rfl rfl (GD.f _) (fun hg => LO.lda (vs := [_, _]) A30 (.r rfl) (fun _ hw => cells_at hw 3 rfl ⟨_, rfl⟩) rfl) rfl <| VO.lg rfl rfl (GD.f _) (fun hg => LO.call (xs := [_, _, _]) (vs := [_, _, _]) C63 ⟨(.g hg rfl), (.r rfl), (.r rfl), trivial⟩ (fun w _ => inside_c _ _ _ _ w)) rfl <| VO.lg rfl rfl (GD.f _) (fun hg => LO.not (.g hg rfl)) rfl <| VO.l (LO.pkO (.r rfl) (.r rfl) rfl rfl) rfl <| VO.l (LO.mv (.r rfl)) rfl <| VO.lg rfl rfl (GD.f _) (fun hg => LO.ld O3 (.r rfl) (fun _ hw => cells_at hw 2 rfl ⟨_, rfl⟩)) rfl <| VO.lg rfl rfl (GD.f _) (fun hg => LO.call (xs := [_, _, _]) (vs := [_, _, _]) C52 ⟨(.g hg rfl), (.r rfl), (.r rfl), trivial⟩ (fun w _ => within_c _ _ _ w)) rfl <| VO.lg rfl rfl (GD.f _) (fun hg => LO.not (.g hg rfl)) rfl <| VO.l (LO.pkO (.r rfl) (.r rfl) rfl rfl) rfl <| VO.l (LO.mv (.r rfl)) rfl <| VO.lg rfl rfl (GD.f _) (fun hg => LO.ld O3 (.r rfl) (fun _ hw => cells_at hw 1 rfl ⟨_, rfl⟩)) rfl <| VO.lg rfl rfl (GD.f _) (fun hg => LO.call (xs := [_, _, _]) (vs := [_, _, _]) C52 ⟨(.g hg rfl), (.r rfl), (.r rfl), trivial⟩ (fun w _ => within_c _ _ _ w)) rfl <| VO.lg rfl rfl (GD.f _) (fun hg => LO.not (.g hg rfl)) rfl <| VO.l (LO.pkO (.r rfl) (.r rfl) rfl rfl) rfl <| VO.nil ?_)
  refine VE.seqN ?_
  refine VC.cond rfl (fun h1 => ?_) (fun h1 => ?_)
  ·
    refine VC.seq ?_
    refine VC.reg (VO.l (LO.bd (ps := []) (vs := []) (C := [_, _, _, _]) B32 trivial rfl rfl) rfl <| VO.h0 <| HO.st 0 (vs := [_, _, _, _]) (C' := [_, _, _, _]) (L' := [_, _, _, _, _]) N32 rfl rfl rfl rfl rfl rfl rfl rfl <| VO.l (LO.as (.r rfl)) rfl <| VO.nil ?_)
    refine VE.seqN ?_
    refine VC.ret (VE.thenR (VE.res (vs := [_, _]) rfl ⟨RV.agg (vs := [_, _, _, _]) A32 rfl (cells_blk 0 rfl ⟨_, rfl⟩) rfl, rfl, trivial⟩ (fun w hw => ?_)))
    first | exact ⟨fitA (by unfold fitOk; omega), hw.nil⟩ | exact ⟨fitB (by unfold fitOk; omega) h2, hw.nil⟩ | exact ⟨fitC (by unfold fitOk; omega) h2, hw.nil⟩
  ·
    refine VC.skip (VE.seqN ?_)
    refine VC.seq ?_
    refine VC.reg (VO.h rfl <| HO.lo (LO.mf (cap := [_, _]) ⟨(.r rfl), (.r rfl), trivial⟩) <| VO.h rfl <| HO.lo (LO.as (.r rfl)) <| VO.nil ?_)
    refine VE.seqN ?_
    refine VC.seq ?_
    refine VC.drawH [[0, 1, 2, 3, 4], [0, 1, 2, 3, 4], [0, 1, 2, 3, 4]] [some 1, some 1, some 1, some 1, some 1, some 1, some 1, none, none] mixed (by kernel_rfl) rfl (LX.l (fun _ hJ => LO.mv (.r rfl)) rfl <| LX.l (fun _ hJ => LO.lda (vs := [_, _]) A30 (.r rfl) (fun _ hw => cells_at (hJ _ hw) 4 rfl ⟨_, rfl⟩) rfl) rfl <| LX.l (fun _ hJ => LO.callv (first := []) (cap := [_, _]) (xs := [_]) (vs := [_]) (.r rfl) C64 ⟨(.r rfl), trivial⟩ (fun w hw => rush_c _ _ _ _ _ _ w (cells_at (hJ _ hw) 1 rfl ⟨_, rfl⟩) (cells_at (hJ _ hw) 2 rfl ⟨_, rfl⟩) (by omega) (by omega) (by omega) (by omega) (by omega) (by omega) (by omega) (by omega))) rfl <| LX.l (fun _ hJ => LO.mv (.r rfl)) rfl <| LX.l (fun _ hJ => LO.lda (vs := [_, _]) A30 (.r rfl) (fun _ hw => cells_at (hJ _ hw) 3 rfl ⟨_, rfl⟩) rfl) rfl <| LX.l (fun _ hJ => LO.callv (first := []) (cap := [_, _]) (xs := [_]) (vs := [_]) (.r rfl) C64 ⟨(.r rfl), trivial⟩ (fun w hw => rush_c _ _ _ _ _ _ w (cells_at (hJ _ hw) 1 rfl ⟨_, rfl⟩) (cells_at (hJ _ hw) 2 rfl ⟨_, rfl⟩) (by omega) (by omega) (by omega) (by omega) (by omega) (by omega) (by omega) (by omega))) rfl <| LX.l (fun _ hJ => LO.bd (ps := [(_, _), (_, _)]) (vs := [(_, _), (_, _)]) (C := [_, _, _, _]) B32 ⟨(.r rfl), (.r rfl), trivial⟩ rfl ⟨_, [_, _], [_, _, _, _], rfl, rfl, rfl, rfl, ⟨_, [_, _], [_, _, _, _], rfl, rfl, rfl, rfl, rfl⟩⟩) rfl <| LX.s <| LX.s <| LX.nil) (HX.s <| HX.s <| HX.s <| HX.s <| HX.s <| HX.s <| HX.s <| HX.h rfl <| HO.alloc (C := #[_, _, _, _]) Z32 rfl fun b9 => ⟨fun _ hw => hw.sel [1, 2, 3, 4, 5] rfl, HX.h0 <| HO.st 0 (vs := [_, _, _, _]) (C' := [_, _, _, _]) (L' := [_, _, _, _, _, _]) N32 rfl rfl rfl rfl rfl rfl rfl rfl <| ⟨fun _ hw => hw.sel [1, 2, 3, 4, 5] rfl, HX.nil ?_⟩⟩)
    refine VE.seqN ?_
    refine VC.seq ?_
    refine VC.seq ?_
    refine VC.reg (VO.l (LO.lda (vs := [_, _, _, _]) A32 (.r rfl) (fun _ hw => cells_at hw 0 rfl ⟨_, rfl⟩) rfl) rfl <| VO.l (LO.call (xs := [_]) (vs := [_]) C34 ⟨(.r rfl), trivial⟩ (fun w _ => checkFlow_c (fitF x1 x2 y1 y2 sec slack) w)) rfl <| VO.l (LO.ne (.r rfl) (.r rfl)) rfl <| VO.nil ?_)
    refine VE.seqN ?_
    refine VC.cond rfl (fun h2 => ?_) (fun h2 => ?_)
    ·
      refine VC.seq ?_
      refine VC.reg (VO.l (LO.bd (ps := []) (vs := []) (C := [_, _, _, _]) B32 trivial rfl rfl) rfl <| VO.h0 <| HO.st 1 (vs := [_, _, _, _]) (C' := [_, _, _, _]) (L' := [_, _, _, _, _, _]) N32 rfl rfl rfl rfl rfl rfl rfl rfl <| VO.l (LO.as (.r rfl)) rfl <| VO.nil ?_)
      refine VE.seqN ?_
      refine VC.ret (VE.thenR (VE.res (vs := [_, _]) rfl ⟨RV.agg (vs := [_, _, _, _]) A32 rfl (cells_blk 1 rfl ⟨_, rfl⟩) rfl, rfl, trivial⟩ (fun w hw => ?_)))
      first | exact ⟨fitA (by unfold fitOk; omega), hw.nil⟩ | exact ⟨fitB (by unfold fitOk; omega) h2, hw.nil⟩ | exact ⟨fitC (by unfold fitOk; omega) h2, hw.nil⟩
    ·
      refine VC.skip (VE.seqN ?_)
      refine VC.seq ?_
      refine VC.reg (VO.l (LO.lda (vs := [_, _, _, _]) A32 (.r rfl) (fun _ hw => cells_at hw 0 rfl ⟨_, rfl⟩) rfl) rfl <| VO.h0 <| HO.st 1 (vs := [_, _, _, _]) (C' := [_, _, _, _]) (L' := [_, _, _, _, _, _]) N32 rfl rfl rfl rfl rfl rfl rfl rfl <| VO.l (LO.as (.r rfl)) rfl <| VO.nil ?_)
      refine VE.seqN ?_
      refine VC.ret (VE.res (vs := [_, _]) rfl ⟨RV.agg (vs := [_, _, _, _]) A32 rfl (cells_blk 1 rfl ⟨_, rfl⟩) rfl, rfl, trivial⟩ (fun w hw => ?_))
      first | exact ⟨fitA (by unfold fitOk; omega), hw.nil⟩ | exact ⟨fitB (by unfold fitOk; omega) h2, hw.nil⟩ | exact ⟨fitC (by unfold fitOk; omega) h2, hw.nil⟩

set_option maxRecDepth 20000 in
theorem G_c (w : World) :
  Calls Try.prog 44 #[] w fun e w' => e = .returned (gridV gG) ∧ St (bs w) [] w' := by
  refine enter (vs := []) (env := []) Try.func44 rfl rfl rfl rfl ?_
  refine VC.seq ?_
  refine VC.reg (VO.h rfl <| HO.alloc (C := #[_, _, _, _, _]) Z23 rfl fun b1 => VO.nil ?_)
  refine VE.seqN ?_
  refine VC.seq ?_
  refine VC.reg (VO.l (LO.bd (ps := [(_, _), (_, _), (_, _)]) (vs := [(_, _), (_, _), (_, _)]) (C := [_, _, _, _, _]) B23 ⟨(.r rfl), (.r rfl), (.r rfl), trivial⟩ rfl ⟨_, [_], [_, _, _, _, _], rfl, rfl, rfl, rfl, ⟨_, [_], [_, _, _, _, _], rfl, rfl, rfl, rfl, ⟨_, [_], [_, _, _, _, _], rfl, rfl, rfl, rfl, rfl⟩⟩⟩) rfl <| VO.h0 <| HO.st 0 (vs := [_, _, _, _, _]) (C' := [_, _, _, _, _]) (L' := [_]) N23 rfl rfl rfl rfl rfl rfl rfl rfl <| VO.nil ?_)
  refine VE.seqN ?_
  refine VC.ret (VE.res (vs := [_]) rfl ⟨RV.agg (vs := [_, _, _, _, _]) A23 rfl (cells_blk 0 rfl ⟨_, rfl⟩) rfl, trivial⟩ (fun w hw => ?_))
  exact ⟨rfl, hw.nil⟩

set_option maxRecDepth 20000 in
theorem point_c (n : Int) (w : World) :
  Calls Try.prog 30 #[.int .i64 n] w fun e w' => e = .returned (.agg #[.int .i64 n, .int .i64 n]) ∧ St (bs w) [] w' := by
  refine enter (vs := [_]) (env := [(0, _)]) Try.func30 rfl rfl rfl rfl ?_
  refine VC.seq ?_
  refine VC.reg (VO.h rfl <| HO.alloc (C := #[_, _]) Z30 rfl fun b1 => VO.nil ?_)
  refine VE.seqN ?_
  refine VC.seq ?_
  refine VC.reg (VO.l (LO.mv (.r rfl)) rfl <| VO.l (LO.mv (.r rfl)) rfl <| VO.l (LO.bd (ps := [(_, _), (_, _)]) (vs := [(_, _), (_, _)]) (C := [_, _]) B30 ⟨(.r rfl), (.r rfl), trivial⟩ rfl ⟨_, [_], [_, _], rfl, rfl, rfl, rfl, ⟨_, [_], [_, _], rfl, rfl, rfl, rfl, rfl⟩⟩) rfl <| VO.h0 <| HO.st 0 (vs := [_, _]) (C' := [_, _]) (L' := [_]) N30 rfl rfl rfl rfl rfl rfl rfl rfl <| VO.nil ?_)
  refine VE.seqN ?_
  refine VC.ret (VE.res (vs := [_]) rfl ⟨RV.agg (vs := [_, _]) A30 rfl (cells_blk 0 rfl ⟨_, rfl⟩) rfl, trivial⟩ (fun w hw => ?_))
  exact ⟨rfl, hw.nil⟩

set_option maxRecDepth 20000 in
theorem C_c (w : World) :
  Calls Try.prog 43 #[] w fun e w' => ∃ q : Nat × Nat, True ∧ e = .returned (cloudV (some ⟨q.1, 0, none⟩) 2 (some ⟨q.2, 0, none⟩) 3 cC) ∧ St (bs w) [blk q.2 (.cells #[.int .i64 6, .int .i64 7, .int .i64 8] 3), blk q.1 (.cells #[.int .i64 7, .int .i64 8] 3)] w' := by
  refine enter (vs := []) (env := []) Try.func43 rfl rfl rfl rfl ?_
  refine VC.seq ?_
  refine VC.reg (VO.h rfl <| HO.alloc (C := #[_, _, _, _, _, _, _]) Z34 rfl fun b1 => VO.nil ?_)
  refine VE.seqN ?_
  refine VC.seq ?_
  refine VC.reg (VO.h rfl <| HO.bs (ps := [(_, _), (_, _)]) (vs := [(_, _), (_, _)]) (Z := [_, _]) (C := [_, _]) S28 Z3 N3 ⟨(.r rfl), (.r rfl), trivial⟩ rfl rfl rfl rfl ⟨_, [_], [_, _], rfl, rfl, rfl, rfl, ⟨_, [_], [_, _], rfl, rfl, rfl, rfl, rfl⟩⟩ fun b2 => VO.h rfl <| HO.bs (ps := [(_, _), (_, _), (_, _)]) (vs := [(_, _), (_, _), (_, _)]) (Z := [_, _, _]) (C := [_, _, _]) S28 Z3 N3 ⟨(.r rfl), (.r rfl), (.r rfl), trivial⟩ rfl rfl rfl rfl ⟨_, [_], [_, _, _], rfl, rfl, rfl, rfl, ⟨_, [_], [_, _, _], rfl, rfl, rfl, rfl, ⟨_, [_], [_, _, _], rfl, rfl, rfl, rfl, rfl⟩⟩⟩ fun b3 => VO.l (LO.call (xs := [_]) (vs := [_]) C30 ⟨(.r rfl), trivial⟩ (fun w _ => point_c _ w)) rfl <| VO.l (LO.bd (ps := [(_, _)]) (vs := [(_, _)]) (C := [_, _, _, _]) B32 ⟨(.r rfl), trivial⟩ rfl ⟨_, [_, _], [_, _, _, _], rfl, rfl, rfl, rfl, rfl⟩) rfl <| VO.h rfl <| HO.lo (LO.bd (ps := [(_, _), (_, _), (_, _)]) (vs := [(_, _), (_, _), (_, _)]) (C := [_, _, _, _, _, _, _]) B34 ⟨(.r rfl), (.r rfl), (.r rfl), trivial⟩ rfl ⟨_, [_], [_, _, _, _, _, _, _], rfl, rfl, rfl, rfl, ⟨_, [_], [_, _, _, _, _, _, _], rfl, rfl, rfl, rfl, ⟨_, [_, _, _, _], [_, _, _, _, _, _, _], rfl, rfl, rfl, rfl, rfl⟩⟩⟩) <| VO.h0 <| HO.st 2 (vs := [_, _, _, _, _, _, _]) (C' := [_, _, _, _, _, _, _]) (L' := [_, _, _]) N34 rfl rfl rfl rfl rfl rfl rfl rfl <| VO.nil ?_)
  refine VE.seqN ?_
  refine VC.ret (VE.res (vs := [_]) rfl ⟨RV.agg (vs := [_, _, _, _, _, _, _]) A34 rfl (cells_blk 2 rfl ⟨_, rfl⟩) rfl, trivial⟩ (fun w hw => ?_))
  exact ⟨(b2, b3), trivial, rfl, hw.sel [0, 1] rfl⟩

set_option maxRecDepth 20000 in
theorem ints_c (p q : Option Addr) (l m : List Int) (c d : Nat) (w : World) (hnl : l.length < 1000000000000) (hnm : m.length < 1000000000000) (hl : Ints w p l) (hm : Ints w q m) :
  Calls Try.prog 19 #[.slice p l.length c, .slice q m.length d] w fun e w' => e = .returned (.bool (decide (l = m))) ∧ St (bs w) [] w' := by
  refine enter (vs := [_, _]) (env := [(0, _), (1, _)]) Try.func19 rfl rfl rfl rfl ?_
  refine VC.seq ?_
  refine VC.reg (VO.l (LO.as (.r rfl)) rfl <| VO.nil ?_)
  refine VE.seqN ?_
  refine VC.seq ?_
  refine VC.seq ?_
  refine VC.reg (VO.l (LO.mv (.r rfl)) rfl <| VO.l (LO.len S28 (.r rfl) rfl) rfl <| VO.l (LO.mv (.r rfl)) rfl <| VO.l (LO.len S28 (.r rfl) rfl) rfl <| VO.l (LO.ne (.r rfl) (.r rfl)) rfl <| VO.nil ?_)
  refine VE.seqN ?_
  refine VC.cond rfl (fun h1 => ?_) (fun h1 => ?_)
  ·
    refine VC.seq ?_
    refine VC.reg (VO.l (LO.as (.r rfl)) rfl <| VO.nil ?_)
    refine VE.seqN ?_
    refine VC.ret (VE.thenR (VE.res (vs := [_]) rfl ⟨rfl, trivial⟩ (fun w hw => ?_)))
    refine ⟨?_, hw.nil⟩
    simp only [resV]
    congr 2
    first | exact ints_ne1 h1 | exact ints_ne2 h3 | exact ints_eq hz (by omega) (by omega)
  ·
    refine VC.skip (VE.seqN ?_)
    refine VC.seq ?_
    refine VC.seq ?_
    refine VC.reg (VO.l (LO.as (.r rfl)) rfl <| VO.nil ?_)
    refine VE.seqN ?_
    refine VC.block ?_
    refine VC.loopK 0 (fun j => [(5, .int .i64 (j : Nat))]) [(0, _), (1, _)] (fun j => []) (fun j => j ≤ l.length ∧ ∀ k, k < j → l.getD k 0 = m.getD k 0) (fun j => l.length - j) 0 (by exact ⟨by omega, fun k hk => by omega⟩) (.cons rfl (.cons rfl (.cons rfl .nil))) (fun _ h => h) ?_
    rintro j ⟨hj, hz⟩
    refine VC.seq ?_
    refine VC.seq ?_
    refine VC.reg (VO.l (LO.mv (.r rfl)) rfl <| VO.l (LO.mv (.r rfl)) rfl <| VO.l (LO.len S28 (.r rfl) rfl) rfl <| VO.l (LO.lt (.r rfl) (.r rfl)) rfl <| VO.nil ?_)
    refine VE.seqN ?_
    refine VC.cond rfl (fun h2 => ?_) (fun h2 => ?_)
    ·
      refine VC.skip (VE.seqN ?_)
      refine VC.seq ?_
      refine VC.block ?_
      refine VC.seq ?_
      refine VC.draw mixed (LL.l (LO.mv (.r rfl)) rfl <| LL.l (LO.mv (.r rfl)) rfl <| LL.l (LO.ixs S28 N3 hl.some (.r rfl) (.r rfl) rfl (by omega)) rfl <| LL.l (LO.ld O3 (.r rfl) (hl.at (j := j) (by omega))) rfl <| LL.l (LO.mv (.r rfl)) rfl <| LL.l (LO.mv (.r rfl)) rfl <| LL.l (LO.ixs S28 N3 hm.some (.r rfl) (.r rfl) rfl (by omega)) rfl <| LL.l (LO.ld O3 (.r rfl) (hm.at (j := j) (by omega))) rfl <| LL.l (LO.ne (.r rfl) (.r rfl)) rfl <| LL.nil) (by kernel_rfl) ?_
      refine VE.seqN ?_
      refine VC.cond rfl (fun h3 => ?_) (fun h3 => ?_)
      ·
        refine VC.seq ?_
        refine VC.reg (VO.l (LO.as (.r rfl)) rfl <| VO.nil ?_)
        refine VE.seqN ?_
        refine VC.ret (VE.inR (VE.thenR (VE.thenR (VE.inR (VE.thenR (VE.res (vs := [_]) rfl ⟨rfl, trivial⟩ (fun w hw => ?_)))))))
        refine ⟨?_, hw.nil⟩
        simp only [resV]
        congr 2
        first | exact ints_ne1 h1 | exact ints_ne2 h3 | exact ints_eq hz (by omega) (by omega)
      ·
        refine VC.skip (VE.inN (VE.seqN ?_))
        refine VC.reg (VO.l (LO.mv (.r rfl)) rfl <| VO.l (LO.add (.r rfl) (.r rfl) (wi (by omega) (by omega))) rfl <| VO.l (LO.as (.r rfl)) rfl <| VO.nil ?_)
        refine VE.thenN fun a w ha hw => ⟨j + 1, ⟨by omega, step_eq hz (by simpa using h3)⟩, by omega, ha.sub (.cons rfl (.cons rfl (.cons rfl .nil))), hw⟩
    ·
      refine VC.exit (VE.thenX (VE.thenX (VE.inX (VE.seqN ?_))))
      refine VC.seq ?_
      refine VC.reg (VO.l (LO.as (.r rfl)) rfl <| VO.nil ?_)
      refine VE.seqN ?_
      refine VC.ret (VE.res (vs := [_]) rfl ⟨rfl, trivial⟩ (fun w hw => ?_))
      refine ⟨?_, hw.nil⟩
      simp only [resV]
      congr 2
      first | exact ints_ne1 h1 | exact ints_ne2 h3 | exact ints_eq hz (by omega) (by omega)

end Go.Proofs.Ytdcjeoamhjplmaa
