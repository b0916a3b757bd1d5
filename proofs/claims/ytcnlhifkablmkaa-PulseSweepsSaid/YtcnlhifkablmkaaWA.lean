/-
  PulseChecks is walked.
-/
import Derived.Test.YtcnlhifkablmkaaW9
namespace Go.Proofs.Ytcnlhifkablmkaa
open Go.SL Go.Proofs Go.Pulse
set_option linter.unusedVariables false

theorem C29 : IsFn Try.prog 29 := ⟨_, Try.func29, by decide, rfl⟩
theorem C30 : IsFn Try.prog 30 := ⟨_, Try.func30, by decide, rfl⟩
theorem C15 : IsFn Try.prog 15 := ⟨_, Try.func15, by decide, rfl⟩


set_option maxRecDepth 20000 in
theorem PulseChecks_c (t : Train) (r : Recv) (x : Echo) (w : World) :
  Calls Try.prog 8 #[trainV t, recvV r, echoV x] w fun e w' => e = .returned (.bool true) ∧ St (bs w) [] w' := by
  refine enter (vs := [_, _, _]) (env := [(0, _), (1, _), (2, _)]) Try.func8 rfl rfl rfl rfl ?_
  refine VC.seq ?_
  refine VC.reg (VO.h rfl <| HO.box (C := #[_, _, _, _, _]) rfl rfl fun b1 => VO.h rfl <| HO.box (C := #[_, _, _, _]) rfl rfl fun b2 => VO.h rfl <| HO.box (C := #[_, _, _, _, _, _, _, _, _, _, _, _, _, _]) rfl rfl fun b3 => VO.l (LO.as (.r rfl)) rfl <| VO.nil ?_)
  refine VE.seqN ?_
  refine VC.seq ?_
  refine VC.draw mixed (LL.l (LO.lda (vs := [_, _, _, _, _]) A23 (.r rfl) (fun _ hw => cells_at hw 2 rfl ⟨_, rfl⟩) rfl) rfl <| LL.l (LO.call (xs := [_]) (vs := [_]) C25 ⟨(.r rfl), trivial⟩ (fun w _ => trainP_c t w)) rfl <| LL.l (LO.lda (vs := [_, _, _, _, _]) A23 (.r rfl) (fun _ hw => cells_at hw 2 rfl ⟨_, rfl⟩) rfl) rfl <| LL.l (LO.call (xs := [_]) (vs := [_]) C26 ⟨(.r rfl), trivial⟩ (fun w _ => trainR_c t w)) rfl <| LL.l (LO.eq (.r rfl) (.r rfl)) rfl <| LL.l (LO.mv (.r rfl)) rfl <| LL.lg rfl rfl (GD.t _) (fun hg => LO.lda (vs := [_, _, _, _]) A27 (.r rfl) (fun _ hw => cells_at hw 1 rfl ⟨_, rfl⟩) rfl) rfl <| LL.lg rfl rfl (GD.t _) (fun hg => LO.call (xs := [_]) (vs := [_]) C27 ⟨(.g hg rfl), trivial⟩ (fun w _ => recvP_c r w)) rfl <| LL.lg rfl rfl (GD.t _) (fun hg => LO.lda (vs := [_, _, _, _]) A27 (.r rfl) (fun _ hw => cells_at hw 1 rfl ⟨_, rfl⟩) rfl) rfl <| LL.lg rfl rfl (GD.t _) (fun hg => LO.call (xs := [_]) (vs := [_]) C28 ⟨(.g hg rfl), trivial⟩ (fun w _ => recvR_c r w)) rfl <| LL.lg rfl rfl (GD.t _) (fun hg => LO.eq (.g hg rfl) (.g hg rfl)) rfl <| LL.l (LO.pkA (.r rfl) rfl rfl (.r rfl)) rfl <| LL.l (LO.mv (.r rfl)) rfl <| LL.lg rfl rfl (GD.t _) (fun hg => LO.lda (vs := [_, _, _, _, _, _, _, _, _, _, _, _, _, _]) A32 (.r rfl) (fun _ hw => cells_at hw 0 rfl ⟨_, rfl⟩) rfl) rfl <| LL.lg rfl rfl (GD.t _) (fun hg => LO.call (xs := [_]) (vs := [_]) C29 ⟨(.g hg rfl), trivial⟩ (fun w _ => echoP_c x w)) rfl <| LL.lg rfl rfl (GD.t _) (fun hg => LO.lda (vs := [_, _, _, _, _, _, _, _, _, _, _, _, _, _]) A32 (.r rfl) (fun _ hw => cells_at hw 0 rfl ⟨_, rfl⟩) rfl) rfl <| LL.lg rfl rfl (GD.t _) (fun hg => LO.call (xs := [_]) (vs := [_]) C30 ⟨(.g hg rfl), trivial⟩ (fun w _ => echoR_c x w)) rfl <| LL.lg rfl rfl (GD.t _) (fun hg => LO.eq (.g hg rfl) (.g hg rfl)) rfl <| LL.l (LO.pkA (.r rfl) rfl rfl (.r rfl)) rfl <| LL.l (LO.mv (.r rfl)) rfl <| LL.lg rfl rfl (GD.t _) (fun hg => LO.call (xs := []) (vs := []) C31 trivial (fun w _ => O_c w)) rfl <| LL.lg rfl rfl (GD.t _) (fun hg => LO.call (xs := [_]) (vs := [_]) C25 ⟨(.g hg rfl), trivial⟩ (fun w _ => trainP_c tO w)) rfl <| LL.lg rfl rfl (GD.t _) (fun hg => LO.eq (.g hg rfl) (.r rfl)) rfl <| LL.l (LO.pkA (.r rfl) rfl rfl (.r rfl)) rfl <| LL.l (LO.mv (.r rfl)) rfl <| LL.lg rfl rfl (GD.t _) (fun hg => LO.bd (ps := []) (vs := []) (C := [_, _, _, _, _]) B23  trivial rfl rfl) rfl <| LL.lg rfl rfl (GD.t _) (fun hg => LO.call (xs := [_]) (vs := [_]) C25 ⟨(.g hg rfl), trivial⟩ (fun w _ => trainP_c ⟨0, 0, 0, 0, 0⟩ w)) rfl <| LL.lg rfl rfl (GD.t _) (fun hg => LO.eq (.g hg rfl) (.r rfl)) rfl <| LL.l (LO.pkA (.r rfl) rfl rfl (.r rfl)) rfl <| LL.l (LO.mv (.r rfl)) rfl <| LL.lg rfl rfl (GD.t _) (fun hg => LO.bd (ps := []) (vs := []) (C := [_, _, _, _, _, _, _, _, _, _, _, _, _, _]) B32  trivial rfl rfl) rfl <| LL.lg rfl rfl (GD.t _) (fun hg => LO.call (xs := [_]) (vs := [_]) C29 ⟨(.g hg rfl), trivial⟩ (fun w _ => echoP_c zE w)) rfl <| LL.lg rfl rfl (GD.t _) (fun hg => LO.eq (.g hg rfl) (.r rfl)) rfl <| LL.l (LO.pkA (.r rfl) rfl rfl (.r rfl)) rfl <| LL.l (LO.mv (.r rfl)) rfl <| LL.lg rfl rfl (GD.t _) (fun hg => LO.call (xs := []) (vs := []) C15 trivial (fun w _ => works_c w)) rfl <| LL.l (LO.pkA (.r rfl) rfl rfl (.r rfl)) rfl <| LL.l (LO.as (.r rfl)) rfl <| LL.nil) (by kernel_rfl) ?_
  refine VE.seqN ?_
  refine VC.ret (VE.res (vs := [_]) rfl ⟨rfl, trivial⟩ (fun w hw => ?_))
  exact ⟨by simp only [resV]; rw [show trainE tO = 0 by decide, show trainE ⟨0, 0, 0, 0, 0⟩ = 2 by decide, show echoE zE = 2 by decide]; simp, hw.nil⟩

end Go.Proofs.Ytcnlhifkablmkaa
