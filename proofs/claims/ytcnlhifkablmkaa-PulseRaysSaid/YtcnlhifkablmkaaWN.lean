/-
  PulseHears is walked.
-/
import Derived.Test.YtcnlhifkablmkaaWM
import Derived.Test.YtcnlhifkablmkaaSY
namespace Go.Proofs.Ytcnlhifkablmkaa
open Go.SL Go.Proofs Go.Pulse
set_option linter.unusedVariables false

theorem C18 : IsFn Try.prog 18 := ⟨_, Try.func18, by decide, rfl⟩
theorem C17 : IsFn Try.prog 17 := ⟨_, Try.func17, by decide, rfl⟩


set_option maxRecDepth 20000 in
theorem PulseHears_c (t : Train) (r : Recv) (l : List Sample) (p : Option Addr) (c : Nat) (w : World) (hc : l.length ≤ c) (hl : Smps w p l) :
  Calls Try.prog 3 #[trainV t, recvV r, .slice p l.length c] w fun e w' => e = .returned (.bool true) ∧ St (bs w) [] w' := by
  refine enter (vs := [_, _, _]) (env := [(0, _), (1, _), (2, _)]) Try.func3 rfl rfl rfl rfl ?_
  refine VC.seq ?_
  refine VC.reg (VO.h rfl <| HO.box (C := #[_, _, _, _, _]) rfl rfl fun b1 => VO.h rfl <| HO.box (C := #[_, _, _, _]) rfl rfl fun b2 => VO.l (LO.as (.r rfl)) rfl <| VO.nil ?_)
  refine VE.seqN ?_
  refine VC.seq ?_
  refine VC.seq ?_
  refine VC.reg (VO.l (LO.mv (.r rfl)) rfl <| VO.l (LO.len S28 (.r rfl) rfl) rfl <| VO.l (LO.gt (.r rfl) (.r rfl)) rfl <| VO.nil ?_)
  refine VE.seqN ?_
  refine VC.cond rfl (fun h1 => ?_) (fun h1 => ?_)
  ·
    refine VC.seq ?_
    refine VC.reg (VO.l (LO.call (xs := []) (vs := []) C15 trivial (fun w _ => works_c w)) rfl <| VO.l (LO.as (.r rfl)) rfl <| VO.nil ?_)
    refine VE.seqN ?_
    refine VC.ret (VE.thenR (VE.res (vs := [_]) rfl ⟨rfl, trivial⟩ (fun w hw => ?_)))
    first | exact ⟨rfl, hw.nil⟩ | exact ⟨by simp [resV], hw.nil⟩
  ·
    refine VC.skip (VE.seqN ?_)
    refine VC.seq ?_
    refine VC.reg (VO.l (LO.lda (vs := [_, _, _, _, _]) A23 (.r rfl) (fun _ hw => cells_at hw 1 rfl ⟨_, rfl⟩) rfl) rfl <| VO.l (LO.lda (vs := [_, _, _, _]) A27 (.r rfl) (fun _ hw => cells_at hw 0 rfl ⟨_, rfl⟩) rfl) rfl <| VO.l (LO.mv (.r rfl)) rfl <| VO.l (LO.call (xs := [_, _, _]) (vs := [_, _, _]) C16 ⟨(.r rfl), (.r rfl), (.r rfl), trivial⟩ (fun w hw => Hear_c t r l p c w (by omega) hc (hl.keep w hw))) rfl <| VO.l (LO.mv (.r rfl)) rfl <| VO.l (LO.ex (.r rfl) rfl) rfl <| VO.l (LO.ex (.r rfl) rfl) rfl <| VO.h rfl <| HO.alloc (C := #[_, _, _, _, _, _, _, _, _, _, _, _, _, _]) Z32 rfl fun b3 => VO.h0 <| HO.st 0 (vs := [_, _, _, _, _, _, _, _, _, _, _, _, _, _]) (C' := [_, _, _, _, _, _, _, _, _, _, _, _, _, _]) (L' := [_, _, _]) N32 rfl rfl rfl rfl rfl rfl rfl rfl <| VO.l (LO.as (.r rfl)) rfl <| VO.nil ?_)
    refine VE.seqN ?_
    refine VC.seq ?_
    refine VC.drawD [⟨8, 9, fun b => .pointer (some ⟨b, 0, none⟩), 32, #[.int .i64 0, .int .i64 0, .int .i64 0, .int .i64 0, .int .i64 0, .int .i64 0, .int .i64 0, .int .i64 0, .int .i64 0, .int .i64 0, .int .i64 0, .int .i64 0, .int .i64 0, .int .i64 0]⟩] [4] [[0, 1, 2], [0, 1, 2], [0, 1, 2], [0, 1, 2], [0, 1, 2]] [some 3, some 3, some 3, none, none, some 3, some 3, some 4, none, none, some 4] mixed (by kernel_rfl) rfl (LXD.l (fun _ hJ => LO.lda (vs := [_, _, _, _, _]) A23 (.r rfl) (fun _ hw => cells_at (hJ _ hw) 2 rfl ⟨_, rfl⟩) rfl) rfl <| LXD.l (fun _ hJ => LO.lda (vs := [_, _, _, _]) A27 (.r rfl) (fun _ hw => cells_at (hJ _ hw) 1 rfl ⟨_, rfl⟩) rfl) rfl <| LXD.l (fun _ hJ => LO.mv (.r rfl)) rfl <| LXD.s rfl <| LXD.d (.tuple #[echoV (hearR t r l), .int .i64 (hearE t r l)]) rfl <| LXD.l (fun _ hJ => LO.mv (.r rfl)) rfl <| LXD.l (fun _ hJ => LO.ex (.r rfl) rfl) rfl <| LXD.l (fun _ hJ => LO.ex (.r rfl) rfl) rfl <| LXD.s rfl <| LXD.s rfl <| LXD.l (fun _ hJ => LO.as (.r rfl)) rfl <| LXD.nil) (⟨⟨rfl, _, rfl, FO.alloc Z32 rfl⟩, trivial⟩) (HYD.s <| HYD.s <| HYD.s <| HYD.h rfl rfl rfl fun X => HO.callx (xs := [_]) (vs := [_]) C18 ⟨(.r rfl), trivial⟩ (fun w hw => samples_c l p c w (by omega) (hl.keep w hw)) fun q _ => ⟨[_, _, _, _], rfl, selJ (L1 := [_, _, _]) [1, 2, 3] rfl rfl rfl, HYD.d rfl rfl fun X => HO.lo (LO.call (xs := [_, _, _]) (vs := [_, _, _]) C17 ⟨(.r rfl), (.r rfl), (.r rfl), trivial⟩ (fun w hw => rHear_c t r l _ _ w (by omega) (RO.of_own hw 0 rfl))) <| ⟨rfl, [_, _, _, _], rfl, selJ (L1 := [_, _, _]) [1, 2, 3] rfl rfl rfl, HYD.s <| HYD.s <| HYD.s <| HYD.f rfl fun b9 => ⟨selJ (L1 := [_, _, _]) [2, 3, 4] rfl rfl rfl, HYD.h0 rfl fun X => HO.st 0 (vs := [_, _, _, _, _, _, _, _, _, _, _, _, _, _]) (C' := [_, _, _, _, _, _, _, _, _, _, _, _, _, _]) (L' := [_, _, _, _, _] ++ X) N32 rfl rfl rfl rfl rfl rfl rfl rfl <| ⟨[_, _, _, _, _], rfl, selJ (L1 := [_, _, _]) [2, 3, 4] rfl rfl rfl, HYD.s <| HYD.nil ?_⟩⟩⟩⟩)
    refine VE.seqN ?_
    refine VC.seq ?_
    refine VC.reg (VO.l (LO.lda (vs := [_, _, _, _, _, _, _, _, _, _, _, _, _, _]) A32 (.r rfl) (fun _ hw => cells_at hw 2 rfl ⟨_, rfl⟩) rfl) rfl <| VO.l (LO.lda (vs := [_, _, _, _, _, _, _, _, _, _, _, _, _, _]) A32 (.r rfl) (fun _ hw => cells_at hw 0 rfl ⟨_, rfl⟩) rfl) rfl <| VO.l (LO.eqA («as» := [_, _, _, _, _, _, _, _, _, _, _, _, _, _]) (bs := [_, _, _, _, _, _, _, _, _, _, _, _, _, _]) EA32 (.r rfl) (.r rfl) rfl rfl) rfl <| VO.l (LO.mv (.r rfl)) rfl <| VO.lg rfl rfl (GD.t _) (fun hg => LO.mv (.r rfl)) rfl <| VO.lg rfl rfl (GD.t _) (fun hg => LO.mv (.r rfl)) rfl <| VO.lg rfl rfl (GD.t _) (fun hg => LO.eq (.g hg rfl) (.g hg rfl)) rfl <| VO.l (LO.pkA (.r rfl) rfl rfl (.r rfl)) rfl <| VO.l (LO.mv (.r rfl)) rfl <| VO.lg rfl rfl (GD.t _) (fun hg => LO.call (xs := []) (vs := []) C15 trivial (fun w _ => works_c w)) rfl <| VO.l (LO.pkA (.r rfl) rfl rfl (.r rfl)) rfl <| VO.l (LO.as (.r rfl)) rfl <| VO.nil ?_)
    refine VE.seqN ?_
    refine VC.ret (VE.res (vs := [_]) rfl ⟨rfl, trivial⟩ (fun w hw => ?_))
    first | exact ⟨rfl, hw.nil⟩ | exact ⟨by simp [resV], hw.nil⟩

end Go.Proofs.Ytcnlhifkablmkaa
