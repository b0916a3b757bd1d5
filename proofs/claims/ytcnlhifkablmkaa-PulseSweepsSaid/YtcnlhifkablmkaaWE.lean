/-
  PulseSpeeds is walked.
-/
import Derived.Test.YtcnlhifkablmkaaWD
namespace Go.Proofs.Ytcnlhifkablmkaa
open Go.SL Go.Proofs Go.Pulse
set_option linter.unusedVariables false

theorem Z37 : ZeroOf Try.prog 37 (.agg #[.int .i64 0, .int .i64 0, .int .i64 0, .int .i64 0, .int .i64 0]) := by unfold ZeroOf; kernel_rfl
theorem N37 : (Try.prog.info? 37).map (·.size) = some 5 := by kernel_rfl
theorem C35 : IsFn Try.prog 35 := ⟨_, Try.func35, by decide, rfl⟩
theorem C36 : IsFn Try.prog 36 := ⟨_, Try.func36, by decide, rfl⟩
theorem C37 : IsFn Try.prog 37 := ⟨_, Try.func37, by decide, rfl⟩
theorem C38 : IsFn Try.prog 38 := ⟨_, Try.func38, by decide, rfl⟩
theorem C39 : IsFn Try.prog 39 := ⟨_, Try.func39, by decide, rfl⟩
theorem C40 : IsFn Try.prog 40 := ⟨_, Try.func40, by decide, rfl⟩


theorem spdW0 : spdV tO 0 ⟨110, 110⟩ 1 = ⟨50083, 50084⟩ ∧ spdE tO 0 ⟨110, 110⟩ 1 = 0 := by decide +kernel
theorem spdW (w : World) : Calls Try.prog 35 #[trainV tO, .int .i64 0, .agg #[.int .i64 110, .int .i64 110], .int .i64 1] w fun e w' => ∃ x : Span × Int, x = (⟨50083, 50084⟩, 0) ∧ e = .returned (.tuple #[spanV x.1, .int .i64 x.2]) ∧ St (bs w) [] w' :=
  (Speed_c tO 0 ⟨110, 110⟩ 1 w).mono fun e w' ⟨h1, h2⟩ => ⟨(⟨50083, 50084⟩, 0), rfl, by rw [h1, spdW0.1, spdW0.2], h2⟩

set_option maxRecDepth 20000 in
theorem PulseSpeeds_c (t : Train) (s : Span) (a b : Int) (w : World) :
  Calls Try.prog 11 #[trainV t, spanV s, .agg #[.int .i64 a, .int .i64 b]] w fun e w' => e = .returned (.bool true) ∧ St (bs w) [] w' := by
  refine enter (vs := [_, _, _]) (env := [(0, _), (1, _), (2, _)]) Try.func11 rfl rfl rfl rfl ?_
  refine VC.seq ?_
  refine VC.reg (VO.h rfl <| HO.box (C := #[_, _, _, _, _]) rfl rfl fun b1 => VO.h rfl <| HO.box (C := #[_, _]) rfl rfl fun b2 => VO.h rfl <| HO.box (C := #[_, _]) rfl rfl fun b3 => VO.l (LO.as (.r rfl)) rfl <| VO.nil ?_)
  refine VE.seqN ?_
  refine VC.seq ?_
  refine VC.reg (VO.l (LO.lda (vs := [_, _, _, _, _]) A23 (.r rfl) (fun _ hw => cells_at hw 2 rfl ⟨_, rfl⟩) rfl) rfl <| VO.h rfl <| HO.alloc (C := #[_, _, _, _, _]) Z37 rfl fun b4 => VO.h0 <| HO.st 0 (vs := [_, _, _, _, _]) (C' := [_, _, _, _, _]) (L' := [_, _, _, _]) N37 rfl rfl rfl rfl rfl rfl rfl rfl <| VO.nil ?_)
  refine VE.seqN ?_
  refine VC.seq ?_
  refine VC.reg (VO.l (LO.lda (vs := [_, _, _, _, _]) A23 (.r rfl) (fun _ hw => cells_at hw 3 rfl ⟨_, rfl⟩) rfl) rfl <| VO.l (LO.ixa (j := 0) (r := 0) Try.underlying78 N3 (.r rfl) (.r rfl) rfl (by decide) rfl) rfl <| VO.l (LO.ld O3 (.r rfl) (fun _ hw => cells_at hw 1 rfl ⟨_, rfl⟩)) rfl <| VO.l (LO.lda (vs := [_, _]) A25 (.r rfl) (fun _ hw => cells_at hw 2 rfl ⟨_, rfl⟩) rfl) rfl <| VO.l (LO.ixa (j := 1) (r := 1) Try.underlying78 N3 (.r rfl) (.r rfl) rfl (by decide) rfl) rfl <| VO.l (LO.ld O3 (.r rfl) (fun _ hw => cells_at hw 1 rfl ⟨_, rfl⟩)) rfl <| VO.l (LO.call (xs := [_, _, _, _]) (vs := [_, _, _, _]) C35 ⟨(.r rfl), (.r rfl), (.r rfl), (.r rfl), trivial⟩ (fun w _ => Speed_c t a s b w)) rfl <| VO.l (LO.mv (.r rfl)) rfl <| VO.l (LO.ex (.r rfl) rfl) rfl <| VO.l (LO.ex (.r rfl) rfl) rfl <| VO.h rfl <| HO.alloc (C := #[_, _]) Z25 rfl fun b6 => VO.h0 <| HO.st 0 (vs := [_, _]) (C' := [_, _]) (L' := [_, _, _, _, _]) N25 rfl rfl rfl rfl rfl rfl rfl rfl <| VO.l (LO.as (.r rfl)) rfl <| VO.nil ?_)
  refine VE.seqN ?_
  refine VC.seq ?_
  refine VC.reg (VO.l (LO.lda (vs := [_, _, _, _, _]) A37 (.r rfl) (fun _ hw => cells_at hw 1 rfl ⟨_, rfl⟩) rfl) rfl <| VO.l (LO.ixa (j := 0) (r := 0) Try.underlying78 N3 (.r rfl) (.r rfl) rfl (by decide) rfl) rfl <| VO.l (LO.ld O3 (.r rfl) (fun _ hw => cells_at hw 2 rfl ⟨_, rfl⟩)) rfl <| VO.l (LO.lda (vs := [_, _]) A25 (.r rfl) (fun _ hw => cells_at hw 3 rfl ⟨_, rfl⟩) rfl) rfl <| VO.l (LO.ixa (j := 1) (r := 1) Try.underlying78 N3 (.r rfl) (.r rfl) rfl (by decide) rfl) rfl <| VO.l (LO.ld O3 (.r rfl) (fun _ hw => cells_at hw 2 rfl ⟨_, rfl⟩)) rfl <| VO.l (LO.call (xs := [_, _, _, _]) (vs := [_, _, _, _]) C36 ⟨(.r rfl), (.r rfl), (.r rfl), (.r rfl), trivial⟩ (fun w _ => rSpeed_c t a s b w)) rfl <| VO.l (LO.mv (.r rfl)) rfl <| VO.l (LO.ex (.r rfl) rfl) rfl <| VO.l (LO.ex (.r rfl) rfl) rfl <| VO.h rfl <| HO.alloc (C := #[_, _]) Z25 rfl fun b8 => VO.h0 <| HO.st 0 (vs := [_, _]) (C' := [_, _]) (L' := [_, _, _, _, _, _]) N25 rfl rfl rfl rfl rfl rfl rfl rfl <| VO.l (LO.as (.r rfl)) rfl <| VO.nil ?_)
  refine VE.seqN ?_
  refine VC.seq ?_
  refine VC.reg (VO.l (LO.lda (vs := [_, _, _, _, _]) A23 (.r rfl) (fun _ hw => cells_at hw 5 rfl ⟨_, rfl⟩) rfl) rfl <| VO.l (LO.ixa (j := 0) (r := 0) Try.underlying78 N3 (.r rfl) (.r rfl) rfl (by decide) rfl) rfl <| VO.l (LO.ld O3 (.r rfl) (fun _ hw => cells_at hw 3 rfl ⟨_, rfl⟩)) rfl <| VO.l (LO.call (xs := [_, _]) (vs := [_, _]) C37 ⟨(.r rfl), (.r rfl), trivial⟩ (fun w _ => Fold_c t a w)) rfl <| VO.l (LO.mv (.r rfl)) rfl <| VO.l (LO.ex (.r rfl) rfl) rfl <| VO.l (LO.ex (.r rfl) rfl) rfl <| VO.l (LO.ex (.r rfl) rfl) rfl <| VO.l (LO.as (.r rfl)) rfl <| VO.l (LO.as (.r rfl)) rfl <| VO.l (LO.as (.r rfl)) rfl <| VO.nil ?_)
  refine VE.seqN ?_
  refine VC.seq ?_
  refine VC.reg (VO.l (LO.lda (vs := [_, _, _, _, _]) A37 (.r rfl) (fun _ hw => cells_at hw 2 rfl ⟨_, rfl⟩) rfl) rfl <| VO.l (LO.ixa (j := 0) (r := 0) Try.underlying78 N3 (.r rfl) (.r rfl) rfl (by decide) rfl) rfl <| VO.l (LO.ld O3 (.r rfl) (fun _ hw => cells_at hw 3 rfl ⟨_, rfl⟩)) rfl <| VO.l (LO.call (xs := [_, _]) (vs := [_, _]) C38 ⟨(.r rfl), (.r rfl), trivial⟩ (fun w _ => rFold_c t a w)) rfl <| VO.l (LO.mv (.r rfl)) rfl <| VO.l (LO.ex (.r rfl) rfl) rfl <| VO.l (LO.ex (.r rfl) rfl) rfl <| VO.l (LO.ex (.r rfl) rfl) rfl <| VO.l (LO.as (.r rfl)) rfl <| VO.l (LO.as (.r rfl)) rfl <| VO.l (LO.as (.r rfl)) rfl <| VO.nil ?_)
  refine VE.seqN ?_
  refine VC.seq ?_
  refine VC.reg (VO.l (LO.lda (vs := [_, _, _, _, _]) A23 (.r rfl) (fun _ hw => cells_at hw 5 rfl ⟨_, rfl⟩) rfl) rfl <| VO.l (LO.ixa (j := 0) (r := 0) Try.underlying78 N3 (.r rfl) (.r rfl) rfl (by decide) rfl) rfl <| VO.l (LO.ld O3 (.r rfl) (fun _ hw => cells_at hw 3 rfl ⟨_, rfl⟩)) rfl <| VO.l (LO.call (xs := [_, _]) (vs := [_, _]) C39 ⟨(.r rfl), (.r rfl), trivial⟩ (fun w _ => Reach_c t a w)) rfl <| VO.l (LO.mv (.r rfl)) rfl <| VO.l (LO.ex (.r rfl) rfl) rfl <| VO.l (LO.ex (.r rfl) rfl) rfl <| VO.l (LO.as (.r rfl)) rfl <| VO.l (LO.as (.r rfl)) rfl <| VO.nil ?_)
  refine VE.seqN ?_
  refine VC.seq ?_
  refine VC.reg (VO.l (LO.lda (vs := [_, _, _, _, _]) A37 (.r rfl) (fun _ hw => cells_at hw 2 rfl ⟨_, rfl⟩) rfl) rfl <| VO.l (LO.ixa (j := 0) (r := 0) Try.underlying78 N3 (.r rfl) (.r rfl) rfl (by decide) rfl) rfl <| VO.l (LO.ld O3 (.r rfl) (fun _ hw => cells_at hw 3 rfl ⟨_, rfl⟩)) rfl <| VO.l (LO.call (xs := [_, _]) (vs := [_, _]) C40 ⟨(.r rfl), (.r rfl), trivial⟩ (fun w _ => rReach_c t a w)) rfl <| VO.l (LO.mv (.r rfl)) rfl <| VO.l (LO.ex (.r rfl) rfl) rfl <| VO.l (LO.ex (.r rfl) rfl) rfl <| VO.l (LO.as (.r rfl)) rfl <| VO.l (LO.as (.r rfl)) rfl <| VO.nil ?_)
  refine VE.seqN ?_
  refine VC.seq ?_
  refine VC.reg (VO.l (LO.call (xs := []) (vs := []) C31 trivial (fun w _ => O_c w)) rfl <| VO.l (LO.call (xs := [_]) (vs := [_]) C33 ⟨(.r rfl), trivial⟩ (fun w _ => point_c _ w)) rfl <| VO.h rfl <| HO.callx (xs := [_, _, _, _]) (vs := [_, _, _, _]) C35 ⟨(.r rfl), (.r rfl), (.r rfl), (.r rfl), trivial⟩ (fun w _ => spdW w) fun z hz => VO.h rfl <| HO.lo (LO.mv (.r rfl)) <| VO.h rfl <| HO.lo (LO.ex (.r rfl) rfl) <| VO.h rfl <| HO.lo (LO.ex (.r rfl) rfl) <| VO.h rfl <| HO.alloc (C := #[_, _]) Z25 rfl fun b10 => VO.h0 <| HO.st 0 (vs := [_, _]) (C' := [_, _]) (L' := [_, _, _, _, _, _, _]) N25 rfl rfl rfl rfl rfl rfl rfl rfl <| VO.h rfl <| HO.lo (LO.as (.r rfl)) <| VO.nil ?_)
  refine VE.seqN ?_
  refine VC.seq ?_
  refine VC.reg (VO.l (LO.lda (vs := [_, _]) A25 (.r rfl) (fun _ hw => cells_at hw 2 rfl ⟨_, rfl⟩) rfl) rfl <| VO.l (LO.lda (vs := [_, _]) A25 (.r rfl) (fun _ hw => cells_at hw 1 rfl ⟨_, rfl⟩) rfl) rfl <| VO.l (LO.eqA («as» := [_, _]) (bs := [_, _]) EA25 (.r rfl) (.r rfl) rfl rfl) rfl <| VO.l (LO.mv (.r rfl)) rfl <| VO.lg rfl rfl (GD.t _) (fun hg => LO.mv (.r rfl)) rfl <| VO.lg rfl rfl (GD.t _) (fun hg => LO.mv (.r rfl)) rfl <| VO.lg rfl rfl (GD.t _) (fun hg => LO.eq (.g hg rfl) (.g hg rfl)) rfl <| VO.l (LO.pkA (.r rfl) rfl rfl (.r rfl)) rfl <| VO.l (LO.mv (.r rfl)) rfl <| VO.lg rfl rfl (GD.t _) (fun hg => LO.mv (.r rfl)) rfl <| VO.lg rfl rfl (GD.t _) (fun hg => LO.mv (.r rfl)) rfl <| VO.lg rfl rfl (GD.t _) (fun hg => LO.eq (.g hg rfl) (.g hg rfl)) rfl <| VO.l (LO.pkA (.r rfl) rfl rfl (.r rfl)) rfl <| VO.l (LO.mv (.r rfl)) rfl <| VO.lg rfl rfl (GD.t _) (fun hg => LO.mv (.r rfl)) rfl <| VO.lg rfl rfl (GD.t _) (fun hg => LO.mv (.r rfl)) rfl <| VO.lg rfl rfl (GD.t _) (fun hg => LO.eq (.g hg rfl) (.g hg rfl)) rfl <| VO.l (LO.pkA (.r rfl) rfl rfl (.r rfl)) rfl <| VO.l (LO.mv (.r rfl)) rfl <| VO.lg rfl rfl (GD.t _) (fun hg => LO.mv (.r rfl)) rfl <| VO.lg rfl rfl (GD.t _) (fun hg => LO.mv (.r rfl)) rfl <| VO.lg rfl rfl (GD.t _) (fun hg => LO.eq (.g hg rfl) (.g hg rfl)) rfl <| VO.l (LO.pkA (.r rfl) rfl rfl (.r rfl)) rfl <| VO.l (LO.mv (.r rfl)) rfl <| VO.lg rfl rfl (GD.t _) (fun hg => LO.mv (.r rfl)) rfl <| VO.lg rfl rfl (GD.t _) (fun hg => LO.mv (.r rfl)) rfl <| VO.lg rfl rfl (GD.t _) (fun hg => LO.eq (.g hg rfl) (.g hg rfl)) rfl <| VO.l (LO.pkA (.r rfl) rfl rfl (.r rfl)) rfl <| VO.l (LO.mv (.r rfl)) rfl <| VO.lg rfl rfl (GD.t _) (fun hg => LO.mv (.r rfl)) rfl <| VO.lg rfl rfl (GD.t _) (fun hg => LO.mv (.r rfl)) rfl <| VO.lg rfl rfl (GD.t _) (fun hg => LO.eq (.g hg rfl) (.g hg rfl)) rfl <| VO.l (LO.pkA (.r rfl) rfl rfl (.r rfl)) rfl <| VO.l (LO.mv (.r rfl)) rfl <| VO.lg rfl rfl (GD.t _) (fun hg => LO.lda (vs := [_, _]) A25 (.r rfl) (fun _ hw => cells_at hw 0 rfl ⟨_, rfl⟩) rfl) rfl <| VO.lg rfl rfl (GD.t _) (fun hg => LO.bd (ps := [(_, _), (_, _)]) (vs := [(_, _), (_, _)]) (C := [_, _]) B25  ⟨(.r rfl), (.r rfl), trivial⟩ rfl ⟨_, [_], [_, _], rfl, rfl, rfl, rfl, ⟨_, [_], [_, _], rfl, rfl, rfl, rfl, rfl⟩⟩) rfl <| VO.lg rfl rfl (GD.t _) (fun hg => LO.eqA («as» := [_, _]) (bs := [_, _]) EA25 (.g hg rfl) (.g hg rfl) rfl rfl) rfl <| VO.l (LO.pkA (.r rfl) rfl rfl (.r rfl)) rfl <| VO.l (LO.mv (.r rfl)) rfl <| VO.lg rfl rfl (GD.t _) (fun hg => LO.mv (.r rfl)) rfl <| VO.lg rfl rfl (GD.t _) (fun hg => LO.eq (.g hg rfl) (.r rfl)) rfl <| VO.l (LO.pkA (.r rfl) rfl rfl (.r rfl)) rfl <| VO.l (LO.mv (.r rfl)) rfl <| VO.lg rfl rfl (GD.t _) (fun hg => LO.call (xs := []) (vs := []) C15 trivial (fun w _ => works_c w)) rfl <| VO.l (LO.pkA (.r rfl) rfl rfl (.r rfl)) rfl <| VO.l (LO.as (.r rfl)) rfl <| VO.nil ?_)
  refine VE.seqN ?_
  refine VC.ret (VE.res (vs := [_]) rfl ⟨rfl, trivial⟩ (fun w hw => ?_))
  exact ⟨by rw [hz]; simp [resV], hw.nil⟩

end Go.Proofs.Ytcnlhifkablmkaa
