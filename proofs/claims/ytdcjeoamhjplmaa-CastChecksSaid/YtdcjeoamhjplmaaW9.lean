/-
  What each law asks besides: that flows fit, and clouds move.
-/
import Derived.Test.YtdcjeoamhjplmaaW8
import Derived.Test.YtdcjeoamhjplmaaSX
namespace Go.Proofs.Ytdcjeoamhjplmaa
open Go.SL Go.Proofs Go.Cast
set_option linter.unusedVariables false

theorem E32 : Flat Try.prog 32 4 := ⟨⟨_, Try.underlying32⟩, by kernel_rfl, by kernel_rfl⟩
theorem C31 : IsFn Try.prog 31 := ⟨_, Try.func31, by decide, rfl⟩
theorem C44 : IsFn Try.prog 44 := ⟨_, Try.func44, by decide, rfl⟩
theorem C43 : IsFn Try.prog 43 := ⟨_, Try.func43, by decide, rfl⟩
theorem C17 : IsFn Try.prog 17 := ⟨_, Try.func17, by decide, rfl⟩
theorem C19 : IsFn Try.prog 19 := ⟨_, Try.func19, by decide, rfl⟩


def cpC (a b : Nat) : CP := ⟨cC, some ⟨a, 0, none⟩, 2, some ⟨b, 0, none⟩, 3⟩
theorem ints_cells {w : World} {b : Nat} {l : List Int} (h : Cells w ⟨b, 0, none⟩ (l.map fun n => .int .i64 n)) : Ints w (some ⟨b, 0, none⟩) l := by
  refine ⟨?_, fun q => (by cases q), fun _ a q => (by cases q; rfl)⟩
  intro j r hr
  rw [List.getElem?_map] at hr
  cases q : l[j]? with
  | none => rw [q] at hr; cases hr
  | some n =>
    rw [q] at hr; cases hr
    intro i v hv
    cases i with
    | zero =>
      cases hv
      have := h j (.int .i64 n) (by rw [List.getElem?_map, q]; rfl)
      have e : (⟨b, 0, none⟩ : Addr).add j = ⟨b, j, none⟩ := by unfold Addr.add; split <;> simp_all
      rw [e] at this
      simpa [pb, po, Addr.add] using this
    | succ i => cases hv
theorem clouds1 {w : World} {a b s : Nat} (h : Cells w ⟨s, 0, none⟩ (cpC a b).cells) (h1 : Ints w (some ⟨a, 0, none⟩) [7, 8]) (h2 : Ints w (some ⟨b, 0, none⟩) [6, 7, 8]) : Clouds w (some ⟨s, 0, none⟩) [cpC a b] := by
  refine ⟨⟨?_, fun q => (by cases q), fun _ a q => (by cases q; rfl)⟩, ?_⟩
  · intro j r hr
    cases j with
    | zero => cases hr; simpa [pb, po] using h
    | succ j => cases hr
  · intro x hx
    rw [List.mem_singleton] at hx
    subst hx
    exact ⟨h1, h2, by show [7, 8].length < _; decide, by show [6, 7, 8].length < _; decide⟩
theorem at_ex : atL gG [cC] 500 = [0, 0, 0, 0, 0, 0, 1, 1, 2, 1, 0, 0, 0, 0, 0, 0, 0, 0] := by decide +kernel
theorem atE_ex : atE gG [cC] 500 = 0 := by decide +kernel
theorem works_end : Ending.returned (resV [.bool (decide (atL gG [cC] 500 = [0, 0, 0, 0, 0, 0, 1, 1, 2, 1, 0, 0, 0, 0, 0, 0, 0, 0]) && decide (atE gG [cC] 500 = 0))]) = .returned (.bool true) := by
  rw [at_ex, atE_ex]; rfl

set_option maxRecDepth 20000 in
theorem works_c (w : World) :
  Calls Try.prog 14 #[] w fun e w' => e = .returned (.bool true) ∧ St (bs w) [] w' := by
  refine enter (vs := []) (env := []) Try.func14 rfl rfl rfl rfl ?_
  refine VC.seq ?_
  refine VC.reg (VO.l (LO.as (.r rfl)) rfl <| VO.nil ?_)
  refine VE.seqN ?_
  refine VC.seq ?_
  refine VC.reg (VO.l (LO.call (xs := [_]) (vs := [_]) C30 ⟨(.r rfl), trivial⟩ (fun w _ => point_c _ w)) rfl <| VO.l (LO.call (xs := [_]) (vs := [_]) C30 ⟨(.r rfl), trivial⟩ (fun w _ => point_c _ w)) rfl <| VO.l (LO.call (xs := [_, _, _, _]) (vs := [_, _, _, _]) C31 ⟨(.r rfl), (.r rfl), (.r rfl), (.r rfl), trivial⟩ (fun w _ => Fit_c 1 1 0 0 1000 500 w)) rfl <| VO.l (LO.mv (.r rfl)) rfl <| VO.l (LO.ex (.r rfl) rfl) rfl <| VO.l (LO.ex (.r rfl) rfl) rfl <| VO.h rfl <| HO.alloc (C := #[_, _, _, _]) Z32 rfl fun b1 => VO.h0 <| HO.st 0 (vs := [_, _, _, _]) (C' := [_, _, _, _]) (L' := [_]) N32 rfl rfl rfl rfl rfl rfl rfl rfl <| VO.l (LO.as (.r rfl)) rfl <| VO.nil ?_)
  refine VE.seqN ?_
  refine VC.seq ?_
  refine VC.reg (VO.l (LO.call (xs := []) (vs := []) C44 trivial (fun w _ => G_c w)) rfl <| VO.h rfl <| HO.callx (xs := []) (vs := []) C43 trivial (fun w hw => C_c w) fun q _ => VO.h rfl <| HO.bs (ps := [(_, _)]) (vs := [(_, _)]) (Z := [_, _, _, _, _, _, _]) (C := [_, _, _, _, _, _, _]) S24 Z34 N34 ⟨(.r rfl), trivial⟩ rfl rfl rfl rfl ⟨_, [_, _, _, _, _, _, _], [_, _, _, _, _, _, _], rfl, rfl, rfl, rfl, rfl⟩ fun b5 => VO.h rfl <| HO.callx (xs := [_, _, _]) (vs := [_, _, _]) C17 ⟨(.r rfl), (.r rfl), (.r rfl), trivial⟩ (fun w hw => At_c gG [cpC q.1 q.2] (some ⟨_, 0, none⟩) 1 500 w (by show 1 < _; decide) (clouds1 (cells_at hw 0 rfl ⟨[], rfl⟩) (ints_cells (l := [7, 8]) (cells_at hw 2 rfl ⟨[], rfl⟩)) (ints_cells (l := [6, 7, 8]) (cells_at hw 1 rfl ⟨[], rfl⟩)))) fun x _ => VO.h rfl <| HO.lo (LO.mv (.r rfl)) <| VO.h rfl <| HO.lo (LO.ex (.r rfl) rfl) <| VO.h rfl <| HO.lo (LO.ex (.r rfl) rfl) <| VO.h rfl <| HO.lo (LO.as (.r rfl)) <| VO.h rfl <| HO.lo (LO.as (.r rfl)) <| VO.nil ?_)
  refine VE.seqN ?_
  refine VC.seq ?_
  refine VC.reg (VO.l (LO.lda (vs := [_, _, _, _]) A32 (.r rfl) (fun _ hw => cells_at hw 4 rfl ⟨_, rfl⟩) rfl) rfl <| VO.l (LO.bd (ps := [(_, _), (_, _)]) (vs := [(_, _), (_, _)]) (C := [_, _]) B30 ⟨(.r rfl), (.r rfl), trivial⟩ rfl ⟨_, [_], [_, _], rfl, rfl, rfl, rfl, ⟨_, [_], [_, _], rfl, rfl, rfl, rfl, rfl⟩⟩) rfl <| VO.l (LO.bd (ps := [(_, _), (_, _)]) (vs := [(_, _), (_, _)]) (C := [_, _]) B30 ⟨(.r rfl), (.r rfl), trivial⟩ rfl ⟨_, [_], [_, _], rfl, rfl, rfl, rfl, ⟨_, [_], [_, _], rfl, rfl, rfl, rfl, rfl⟩⟩) rfl <| VO.l (LO.bd (ps := [(_, _), (_, _)]) (vs := [(_, _), (_, _)]) (C := [_, _, _, _]) B32 ⟨(.r rfl), (.r rfl), trivial⟩ rfl ⟨_, [_, _], [_, _, _, _], rfl, rfl, rfl, rfl, ⟨_, [_, _], [_, _, _, _], rfl, rfl, rfl, rfl, rfl⟩⟩) rfl <| VO.l (LO.eqs («as» := [500, 1500, -500, 500]) (bs := [500, 1500, -500, 500]) E32 (.r rfl) (.r rfl) rfl rfl) rfl <| VO.l (LO.mv (.r rfl)) rfl <| VO.lg rfl rfl (GD.t _) (fun hg => LO.mv (.r rfl)) rfl <| VO.lg rfl rfl (GD.t _) (fun hg => LO.eq (.g hg rfl) (.r rfl)) rfl <| VO.l (LO.pkA (.r rfl) rfl rfl (.r rfl)) rfl <| VO.l (LO.mv (.r rfl)) rfl <| VO.lg rfl rfl (GD.t _) (fun hg => LO.mv (.r rfl)) rfl <| VO.bc (x := 27) rfl (fun hg3_9 => VO.gT rfl rfl (congrArg Value.bool hg3_9) rfl <| HO.bs (ps := [(_, _), (_, _), (_, _), (_, _), (_, _), (_, _), (_, _), (_, _), (_, _), (_, _), (_, _), (_, _), (_, _), (_, _), (_, _), (_, _), (_, _), (_, _)]) (vs := [(_, _), (_, _), (_, _), (_, _), (_, _), (_, _), (_, _), (_, _), (_, _), (_, _), (_, _), (_, _), (_, _), (_, _), (_, _), (_, _), (_, _), (_, _)]) (Z := [_, _, _, _, _, _, _, _, _, _, _, _, _, _, _, _, _, _]) (C := [_, _, _, _, _, _, _, _, _, _, _, _, _, _, _, _, _, _]) S28 Z3 N3 ⟨(.r rfl), (.r rfl), (.r rfl), (.r rfl), (.r rfl), (.r rfl), (.r rfl), (.r rfl), (.r rfl), (.r rfl), (.r rfl), (.r rfl), (.r rfl), (.r rfl), (.r rfl), (.r rfl), (.r rfl), (.r rfl), trivial⟩ rfl rfl rfl rfl ⟨_, [_], [_, _, _, _, _, _, _, _, _, _, _, _, _, _, _, _, _, _], rfl, rfl, rfl, rfl, ⟨_, [_], [_, _, _, _, _, _, _, _, _, _, _, _, _, _, _, _, _, _], rfl, rfl, rfl, rfl, ⟨_, [_], [_, _, _, _, _, _, _, _, _, _, _, _, _, _, _, _, _, _], rfl, rfl, rfl, rfl, ⟨_, [_], [_, _, _, _, _, _, _, _, _, _, _, _, _, _, _, _, _, _], rfl, rfl, rfl, rfl, ⟨_, [_], [_, _, _, _, _, _, _, _, _, _, _, _, _, _, _, _, _, _], rfl, rfl, rfl, rfl, ⟨_, [_], [_, _, _, _, _, _, _, _, _, _, _, _, _, _, _, _, _, _], rfl, rfl, rfl, rfl, ⟨_, [_], [_, _, _, _, _, _, _, _, _, _, _, _, _, _, _, _, _, _], rfl, rfl, rfl, rfl, ⟨_, [_], [_, _, _, _, _, _, _, _, _, _, _, _, _, _, _, _, _, _], rfl, rfl, rfl, rfl, ⟨_, [_], [_, _, _, _, _, _, _, _, _, _, _, _, _, _, _, _, _, _], rfl, rfl, rfl, rfl, ⟨_, [_], [_, _, _, _, _, _, _, _, _, _, _, _, _, _, _, _, _, _], rfl, rfl, rfl, rfl, ⟨_, [_], [_, _, _, _, _, _, _, _, _, _, _, _, _, _, _, _, _, _], rfl, rfl, rfl, rfl, ⟨_, [_], [_, _, _, _, _, _, _, _, _, _, _, _, _, _, _, _, _, _], rfl, rfl, rfl, rfl, ⟨_, [_], [_, _, _, _, _, _, _, _, _, _, _, _, _, _, _, _, _, _], rfl, rfl, rfl, rfl, ⟨_, [_], [_, _, _, _, _, _, _, _, _, _, _, _, _, _, _, _, _, _], rfl, rfl, rfl, rfl, ⟨_, [_], [_, _, _, _, _, _, _, _, _, _, _, _, _, _, _, _, _, _], rfl, rfl, rfl, rfl, ⟨_, [_], [_, _, _, _, _, _, _, _, _, _, _, _, _, _, _, _, _, _], rfl, rfl, rfl, rfl, ⟨_, [_], [_, _, _, _, _, _, _, _, _, _, _, _, _, _, _, _, _, _], rfl, rfl, rfl, rfl, ⟨_, [_], [_, _, _, _, _, _, _, _, _, _, _, _, _, _, _, _, _, _], rfl, rfl, rfl, rfl, rfl⟩⟩⟩⟩⟩⟩⟩⟩⟩⟩⟩⟩⟩⟩⟩⟩⟩⟩ fun b7 => VO.gT rfl rfl (congrArg Value.bool hg3_9) rfl <| HO.lo (LO.call (xs := [_, _]) (vs := [_, _]) C19 ⟨(.r rfl), (.r rfl), trivial⟩ (fun w hw => ints_c x.1 _ (atL gG [cC] 500) [0, 0, 0, 0, 0, 0, 1, 1, 2, 1, 0, 0, 0, 0, 0, 0, 0, 0] x.2 18 w (by rw [at_ex]; decide) (by decide) (own_rows hw 1 rfl) (ints_cells (cells_at hw 0 rfl ⟨[], rfl⟩)))) <| VO.h rfl <| HO.lo (LO.pkT (.r rfl) hg3_9 (.r rfl)) <| VO.h rfl <| HO.lo (LO.mv (.r rfl)) <| VO.lg rfl rfl (GD.t _) (fun hg => LO.mv (.r rfl)) rfl <| VO.lg rfl rfl (GD.t _) (fun hg => LO.eq (.g hg rfl) (.r rfl)) rfl <| VO.h rfl <| HO.lo (LO.pkA (.r rfl) rfl rfl (.r rfl)) <| VO.h rfl <| HO.lo (LO.as (.r rfl)) <| VO.nil ?_) (fun hg3_9 => VO.gF rfl rfl hg3_9 rfl <| VO.gF rfl rfl hg3_9 rfl <| VO.h rfl <| HO.lo (LO.pkF (.r rfl) hg3_9 (.r rfl)) <| VO.h rfl <| HO.lo (LO.mv (.r rfl)) <| VO.lg rfl rfl (GD.t _) (fun hg => LO.mv (.r rfl)) rfl <| VO.lg rfl rfl (GD.t _) (fun hg => LO.eq (.g hg rfl) (.r rfl)) rfl <| VO.h rfl <| HO.lo (LO.pkA (.r rfl) rfl rfl (.r rfl)) <| VO.h rfl <| HO.lo (LO.as (.r rfl)) <| VO.nil ?_))
  ·
    refine VE.seqN ?_
    refine VC.ret (VE.res (vs := [_]) rfl ⟨rfl, trivial⟩ (fun w hw => ?_))
    first
    | (exfalso; revert hg3_9; decide)
    | exact ⟨works_end, hw.nil⟩
  ·
    refine VE.seqN ?_
    refine VC.ret (VE.res (vs := [_]) rfl ⟨rfl, trivial⟩ (fun w hw => ?_))
    first
    | (exfalso; revert hg3_9; decide)
    | exact ⟨works_end, hw.nil⟩

end Go.Proofs.Ytdcjeoamhjplmaa
