/-
  The first samples are heard.
-/
import Derived.Test.YtcnlhifkablmkaaW8
namespace Go.Proofs.Ytcnlhifkablmkaa
open Go.SL Go.Proofs Go.Pulse
set_option linter.unusedVariables false

theorem C31 : IsFn Try.prog 31 := ⟨_, Try.func31, by decide, rfl⟩
theorem B27 : Builds Try.prog 27 [(0, 1), (1, 1), (2, 2)] [.int .i64 0, .int .i64 0, .int .i64 0, .int .i64 0] := Builds.mk fun _ => by kernel_rfl
theorem C42 : IsFn Try.prog 42 := ⟨_, Try.func42, by decide, rfl⟩
theorem C16 : IsFn Try.prog 16 := ⟨_, Try.func16, by decide, rfl⟩
theorem C33 : IsFn Try.prog 33 := ⟨_, Try.func33, by decide, rfl⟩


set_option maxRecDepth 100000 in
theorem hearW0 : hearE tO rO fourL = 0 ∧ hearR tO rO fourL = hE0 := by decide +kernel
theorem hearW (b : Nat) (w : World) (h : Cells w ⟨b, 0, none⟩ [.int .i64 10, .int .i64 0, .int .i64 5, .int .i64 0, .int .i64 10, .int .i64 100, .int .i64 5, .int .i64 100, .int .i64 10, .int .i64 220, .int .i64 5, .int .i64 220, .int .i64 10, .int .i64 330, .int .i64 5, .int .i64 330]) : Calls Try.prog 16 #[trainV tO, recvV rO, .slice (some ⟨b, 0, none⟩) 4 4] w fun e w' => ∃ x : Echo × Int, x = (hE0, 0) ∧ e = .returned (.tuple #[echoV x.1, .int .i64 x.2]) ∧ St (bs w) [] w' :=
  (Hear_c tO rO fourL (some ⟨b, 0, none⟩) 4 w (by decide) (by decide) (RO.ofC (fun _ => rfl) h)).mono fun e w' ⟨h1, h2⟩ => ⟨(hE0, 0), rfl, by rw [h1, hearW0.1, hearW0.2], h2⟩

set_option maxRecDepth 20000 in
theorem works_c (w : World) :
  Calls Try.prog 15 #[] w fun e w' => e = .returned (.bool true) ∧ St (bs w) [] w' := by
  refine enter (vs := []) (env := []) Try.func15 rfl rfl rfl rfl ?_
  refine VC.seq ?_
  refine VC.reg (VO.l (LO.as (.r rfl)) rfl <| VO.nil ?_)
  refine VE.seqN ?_
  refine VC.seq ?_
  refine VC.reg (VO.l (LO.call (xs := []) (vs := []) C31 trivial (fun w _ => O_c w)) rfl <| VO.l (LO.bd (ps := []) (vs := []) (C := [_, _, _, _]) B27  trivial rfl rfl) rfl <| VO.h rfl <| HO.callx (xs := []) (vs := []) C42 trivial (fun w _ => four_c w) fun bf _ => VO.h rfl <| HO.callx (xs := [_, _, _]) (vs := [_, _, _]) C16 ⟨(.r rfl), (.r rfl), (.r rfl), trivial⟩ (fun w hw => hearW _ w (cells_at hw 0 rfl ⟨[], rfl⟩)) fun x hx => VO.h rfl <| HO.lo (LO.mv (.r rfl)) <| VO.h rfl <| HO.lo (LO.ex (.r rfl) rfl) <| VO.h rfl <| HO.lo (LO.ex (.r rfl) rfl) <| VO.h rfl <| HO.alloc (C := #[_, _, _, _, _, _, _, _, _, _, _, _, _, _]) Z32 rfl fun b2 => VO.h0 <| HO.st 0 (vs := [_, _, _, _, _, _, _, _, _, _, _, _, _, _]) (C' := [_, _, _, _, _, _, _, _, _, _, _, _, _, _]) (L' := [_, _]) N32 rfl rfl rfl rfl rfl rfl rfl rfl <| VO.h rfl <| HO.lo (LO.as (.r rfl)) <| VO.nil ?_)
  refine VE.seqN ?_
  refine VC.seq ?_
  refine VC.draw mixed (LL.l (LO.mv (.r rfl)) rfl <| LL.l (LO.eq (.r rfl) (.r rfl)) rfl <| LL.l (LO.mv (.r rfl)) rfl <| LL.lg rfl rfl (GD.t _) (fun hg => LO.lda (vs := [_, _, _, _, _, _, _, _, _, _, _, _, _, _]) A32 (.r rfl) (fun _ hw => cells_at hw 0 rfl ⟨_, rfl⟩) rfl) rfl <| LL.lg rfl rfl (GD.t _) (fun hg => LO.call (xs := [_]) (vs := [_]) C33 ⟨(.r rfl), trivial⟩ (fun w _ => point_c _ w)) rfl <| LL.lg rfl rfl (GD.t _) (fun hg => LO.call (xs := [_]) (vs := [_]) C33 ⟨(.r rfl), trivial⟩ (fun w _ => point_c _ w)) rfl <| LL.lg rfl rfl (GD.t _) (fun hg => LO.bd (ps := []) (vs := []) (C := [_, _]) B25  trivial rfl rfl) rfl <| LL.lg rfl rfl (GD.t _) (fun hg => LO.bda (ps := [(_, _), (_, _)]) (vs := [(_, _), (_, _)]) (C := [_, _, _, _]) B30 rfl ⟨(.g hg rfl), (.g hg rfl), trivial⟩ rfl ⟨_, [_, _], [_, _, _, _], rfl, rfl, rfl, rfl, ⟨_, [_, _], [_, _, _, _], rfl, rfl, rfl, rfl, rfl⟩⟩) rfl <| LL.lg rfl rfl (GD.t _) (fun hg => LO.call (xs := [_]) (vs := [_]) C33 ⟨(.r rfl), trivial⟩ (fun w _ => point_c _ w)) rfl <| LL.lg rfl rfl (GD.t _) (fun hg => LO.call (xs := [_]) (vs := [_]) C33 ⟨(.r rfl), trivial⟩ (fun w _ => point_c _ w)) rfl <| LL.lg rfl rfl (GD.t _) (fun hg => LO.bd (ps := [(_, _), (_, _), (_, _), (_, _), (_, _), (_, _)]) (vs := [(_, _), (_, _), (_, _), (_, _), (_, _), (_, _)]) (C := [_, _, _, _, _, _, _, _, _, _, _, _, _, _]) B32  ⟨(.r rfl), (.g hg rfl), (.g hg rfl), (.r rfl), (.g hg rfl), (.g hg rfl), trivial⟩ rfl ⟨_, [_], [_, _, _, _, _, _, _, _, _, _, _, _, _, _], rfl, rfl, rfl, rfl, ⟨_, [_, _], [_, _, _, _, _, _, _, _, _, _, _, _, _, _], rfl, rfl, rfl, rfl, ⟨_, [_, _, _, _], [_, _, _, _, _, _, _, _, _, _, _, _, _, _], rfl, rfl, rfl, rfl, ⟨_, [_], [_, _, _, _, _, _, _, _, _, _, _, _, _, _], rfl, rfl, rfl, rfl, ⟨_, [_, _], [_, _, _, _, _, _, _, _, _, _, _, _, _, _], rfl, rfl, rfl, rfl, ⟨_, [_, _], [_, _, _, _, _, _, _, _, _, _, _, _, _, _], rfl, rfl, rfl, rfl, rfl⟩⟩⟩⟩⟩⟩) rfl <| LL.lg rfl rfl (GD.t _) (fun hg => LO.eqA («as» := [_, _, _, _, _, _, _, _, _, _, _, _, _, _]) (bs := [_, _, _, _, _, _, _, _, _, _, _, _, _, _]) EA32 (.g hg rfl) (.g hg rfl) rfl rfl) rfl <| LL.l (LO.pkA (.r rfl) rfl rfl (.r rfl)) rfl <| LL.l (LO.as (.r rfl)) rfl <| LL.nil) (by kernel_rfl) ?_
  refine VE.seqN ?_
  refine VC.ret (VE.res (vs := [_]) rfl ⟨rfl, trivial⟩ (fun w hw => ?_))
  exact ⟨by rw [hx]; simp [resV, hE0], hw.nil⟩

end Go.Proofs.Ytcnlhifkablmkaa
