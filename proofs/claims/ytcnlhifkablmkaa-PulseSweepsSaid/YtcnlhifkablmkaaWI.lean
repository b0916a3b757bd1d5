/-
  Samples are copied.
-/
import Derived.Test.YtcnlhifkablmkaaWH
namespace Go.Proofs.Ytcnlhifkablmkaa
open Go.SL Go.Proofs Go.Pulse
set_option linter.unusedVariables false

theorem I101 : EInfo Try.prog 101 4 32 (.agg #[.int .i64 0, .int .i64 0, .int .i64 0, .int .i64 0]) := ⟨by kernel_rfl, by kernel_rfl, by unfold ZeroOf; kernel_rfl, rfl, by decide⟩


set_option maxRecDepth 20000 in
theorem samples_c (l : List Sample) (p : Option Addr) (c : Nat) (w : World) (hn : l.length ≤ 1000) (hl : Smps w p l) :
  Calls Try.prog 18 #[.slice p l.length c] w fun e w' => ∃ x : Option Addr × Nat, True ∧ e = .returned (.slice x.1 l.length x.2) ∧ St (bs w) [own 101 4 x.1 x.2 (l.map smpC)] w' := by
  refine enter (vs := [_]) (env := [(0, _)]) Try.func18 rfl rfl rfl rfl ?_
  refine VC.seq ?_
  refine VC.reg (VO.l (LO.as (.r rfl)) rfl <| VO.nil ?_)
  refine VE.seqN ?_
  refine VC.seq ?_
  refine VC.reg (VO.l (LO.as (.r rfl)) rfl <| VO.nil ?_)
  refine VE.seqN ?_
  refine VC.seq ?_
  refine VC.seq ?_
  refine VC.reg (VO.l (LO.as (.r rfl)) rfl <| VO.nil ?_)
  refine VE.seqN ?_
  refine VC.block ?_
  refine VC.loopK (α := Nat × (List Sample) × (Option Addr) × Nat) 0 (fun gx => [(3, .slice gx.2.2.1 gx.2.1.length gx.2.2.2), (4, .int .i64 (gx.1 : Nat))]) [(0, _)] (fun gx => [own 101 4 gx.2.2.1 gx.2.2.2 (gx.2.1.map smpC)]) (fun gx => gx.1 ≤ l.length ∧ gx.2.1 = l.take gx.1) (fun gx => l.length - gx.1) (0, [], none, 0) (by exact ⟨Nat.zero_le _, rfl⟩) (.cons rfl (.cons rfl (.cons rfl .nil))) (fun _ h => (h.ownNil 101 4)) ?_
  rintro ⟨i, xs, px, cx⟩ ⟨hi, hxs⟩
  show VC _ _ _ _ _ ([(3, .slice px xs.length cx), (4, .int .i64 (i : Nat))] ++ _) ([own 101 4 px cx (xs.map smpC)] ++ _) _ _
  dsimp only at hi hxs
  have hxl : xs.length = i := by rw [hxs]; simp; omega
  refine VC.seq ?_
  refine VC.seq ?_
  refine VC.reg (VO.l (LO.mv (.r rfl)) rfl <| VO.l (LO.mv (.r rfl)) rfl <| VO.l (LO.len S28 (.r rfl) rfl) rfl <| VO.l (LO.lt (.r rfl) (.r rfl)) rfl <| VO.nil ?_)
  refine VE.seqN ?_
  refine VC.cond rfl (fun h1 => ?_) (fun h1 => ?_)
  ·
    refine VC.skip (VE.seqN ?_)
    refine VC.seq ?_
    refine VC.block ?_
    refine VC.reg (VO.l (LO.mv (.r rfl)) rfl <| VO.l (LO.mv (.r rfl)) rfl <| VO.l (LO.mv (.r rfl)) rfl <| VO.l (LO.ixs S28 N44 hl.sm (.r rfl) (.r rfl) rfl (by omega)) rfl <| VO.l (LO.lda (vs := [_, _, _, _]) A44 (.r rfl) (fun w hw => cells_part (off := 0) ((hl.at zSm (j := i) (by omega)) w hw) ⟨_, rfl⟩) rfl) rfl <| VO.h rfl <| HO.bs (ps := [(_, _)]) (vs := [(_, _)]) (Z := [_, _, _, _]) (C := [_, _, _, _]) S39 Z101 N101 ⟨(.r rfl), trivial⟩ rfl rfl rfl rfl ⟨_, [_, _, _, _], [_, _, _, _], rfl, rfl, rfl, rfl, rfl⟩ fun b2 => VO.h rfl <| HO.appT ((l.getD i zSm)) 1 0 (fun R => [_, R]) S39 S39 I101 (.r rfl) (.r rfl) rfl rfl rfl rfl rfl rfl rfl (fun _ => rfl) rfl (by omega) fun p6 c6 => VO.h rfl <| HO.lo (LO.as (.r rfl)) <| VO.nil ?_)
    refine VE.inN (VE.seqN ?_)
    refine VC.reg (VO.l (LO.mv (.r rfl)) rfl <| VO.l (LO.add (.r rfl) (.r rfl) (wi (by omega) (by omega))) rfl <| VO.l (LO.as (.r rfl)) rfl <| VO.nil ?_)
    refine VE.thenN fun a w ha hw => ⟨(i + 1, xs ++ [l.getD i zSm], p6, c6), ⟨by dsimp only; omega, by dsimp only; rw [take_at (getD_some (d := zSm) (by omega)), hxs]⟩, (by dsimp only; omega), ha.sub (.cons rfl (.cons rfl (.cons rfl .nil))), hw.sel [1] rfl⟩
  ·
    refine VC.exit (VE.thenX (VE.thenX (VE.inX (VE.seqN ?_))))
    refine VC.seq ?_
    refine VC.reg (VO.l (LO.mv (.r rfl)) rfl <| VO.l (LO.as (.r rfl)) rfl <| VO.nil ?_)
    refine VE.seqN ?_
    refine VC.ret (VE.res (vs := [_]) rfl ⟨rfl, trivial⟩ (fun w hw => ?_))
    have hi2 : i = l.length := by omega
    subst hi2
    rw [List.take_length] at hxs
    subst hxs
    exact ⟨(px, cx), trivial, rfl, hw.sel [0] rfl⟩

end Go.Proofs.Ytcnlhifkablmkaa
