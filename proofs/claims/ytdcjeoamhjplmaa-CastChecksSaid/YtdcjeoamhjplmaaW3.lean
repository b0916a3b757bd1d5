/-
  The walks about shapes.
-/
import Derived.Test.YtdcjeoamhjplmaaW2
namespace Go.Proofs.Ytdcjeoamhjplmaa
open Go.SL Go.Proofs Go.Cast
set_option linter.unusedVariables false

theorem Z120 : ZeroOf Try.prog 120 (.agg #[.int .i64 0, .int .i64 0, .int .i64 0, .int .i64 0, .int .i64 0, .map none, .map none, .int .i64 0, .int .i64 0, .int .i64 0, .int .i64 0, .int .i64 0]) := by unfold ZeroOf; kernel_rfl
theorem B120 : Builds Try.prog 120 [(0, 5), (5, 1), (6, 1), (7, 4), (11, 1)] [.int .i64 0, .int .i64 0, .int .i64 0, .int .i64 0, .int .i64 0, .map none, .map none, .int .i64 0, .int .i64 0, .int .i64 0, .int .i64 0, .int .i64 0] := Builds.mk fun _ => by kernel_rfl
theorem N120 : (Try.prog.info? 120).map (·.size) = some 12 := by kernel_rfl
theorem mixed : Try.prog.follows .mixedOrders = true := by kernel_rfl
theorem A120 : IsAgg Try.prog 120 12 := ⟨⟨_, Try.underlying120, rfl⟩, by kernel_rfl⟩
theorem F120_4 : FieldAt Try.prog 120 4 11 := ⟨_, _, Try.underlying120, rfl, rfl, 0, by kernel_rfl⟩
theorem C66 : IsFn Try.prog 66 := ⟨_, Try.func66, by decide, rfl⟩


abbrev shapeV (a b : Nat) (g : Grid) (c : Cloud) : Value := .agg #[.int .i64 g.x, .int .i64 g.y, .int .i64 g.size, .int .i64 g.wide, .int .i64 g.high, .map (some a), .map (some b), .int .i64 c.flow.a, .int .i64 c.flow.b, .int .i64 c.flow.c, .int .i64 c.flow.d, .int .i64 c.grow]

set_option maxRecDepth 20000 in
theorem shaped_c (g : Grid) (c : Cloud) (ps pm : Option Addr) (cs cm : Nat) (w : World) (hns : c.sure.length < 1000000000000) (hnm : c.may.length < 1000000000000) (hs : Ints w ps c.sure) (hm : Ints w pm c.may) :
  Calls Try.prog 51 #[gridV g, cloudV ps cs pm cm c] w fun e w' => ∃ q : Nat × Nat, True ∧ e = .returned (shapeV q.1 q.2 g c) ∧ St (bs w) [setR q.2 (memB c.may), setR q.1 (memB c.sure)] w' := by
  refine enter (vs := [_, _]) (env := [(0, _), (1, _)]) Try.func51 rfl rfl rfl rfl ?_
  refine VC.seq ?_
  refine VC.reg (VO.h rfl <| HO.box (C := #[_, _, _, _, _]) rfl rfl fun b1 => VO.h rfl <| HO.box (C := #[_, _, _, _, _, _, _]) rfl rfl fun b2 => VO.h rfl <| HO.alloc (C := #[_, _, _, _, _, _, _, _, _, _, _, _]) Z120 rfl fun b3 => VO.nil ?_)
  refine VE.seqN ?_
  refine VC.seq ?_
  refine VC.drawH [[0, 1, 2], [0, 1, 2], [0, 1, 2], [0, 1, 2], [1, 2]] [some 2, some 0, some 0, none, some 1, some 1, none, some 2, some 2, some 2, some 2, none, none] mixed (by kernel_rfl) rfl (LX.l (fun _ hJ => LO.lda (vs := [_, _, _, _, _]) A23 (.r rfl) (fun _ hw => cells_at (hJ _ hw) 2 rfl ⟨_, rfl⟩) rfl) rfl <| LX.l (fun _ hJ => LO.fa (r := 0) F34_0 (.r rfl) rfl) rfl <| LX.l (fun _ hJ => LO.ld O28 (.r rfl) (fun _ hw => cells_at (hJ _ hw) 1 rfl ⟨_, rfl⟩)) rfl <| LX.s <| LX.l (fun _ hJ => LO.fa (r := 1) F34_1 (.r rfl) rfl) rfl <| LX.l (fun _ hJ => LO.ld O28 (.r rfl) (fun _ hw => cells_at (hJ _ hw) 1 rfl ⟨_, rfl⟩)) rfl <| LX.s <| LX.l (fun _ hJ => LO.fa (r := 2) F34_2 (.r rfl) rfl) rfl <| LX.l (fun _ hJ => LO.lda (vs := [_, _, _, _]) A32 (.r rfl) (fun _ hw => cells_at (hJ _ hw) 1 rfl ⟨_, rfl⟩) rfl) rfl <| LX.l (fun _ hJ => LO.fa (r := 6) F34_3 (.r rfl) rfl) rfl <| LX.l (fun _ hJ => LO.ld O3 (.r rfl) (fun _ hw => cells_at (hJ _ hw) 1 rfl ⟨_, rfl⟩)) rfl <| LX.s <| LX.s <| LX.nil) (HX.s <| HX.s <| HX.s <| HX.h rfl <| HO.callx (xs := [_]) (vs := [_]) C76 ⟨(.r rfl), trivial⟩ (fun w hw => set_c _ _ _ w (by omega) (hs.keep w hw)) fun qhs _ => ⟨fun _ hw => hw.sel [1, 2, 3] rfl, HX.s <| HX.s <| HX.h rfl <| HO.callx (xs := [_]) (vs := [_]) C76 ⟨(.r rfl), trivial⟩ (fun w hw => set_c _ _ _ w (by omega) (hm.keep w hw)) fun qhm _ => ⟨fun _ hw => hw.sel [2, 3, 4] rfl, HX.s <| HX.s <| HX.s <| HX.s <| HX.h rfl <| HO.lo (LO.bd (ps := [(_, _), (_, _), (_, _), (_, _), (_, _)]) (vs := [(_, _), (_, _), (_, _), (_, _), (_, _)]) (C := [_, _, _, _, _, _, _, _, _, _, _, _]) B120 ⟨(.r rfl), (.r rfl), (.r rfl), (.r rfl), (.r rfl), trivial⟩ rfl ⟨_, [_, _, _, _, _], [_, _, _, _, _, _, _, _, _, _, _, _], rfl, rfl, rfl, rfl, ⟨_, [_], [_, _, _, _, _, _, _, _, _, _, _, _], rfl, rfl, rfl, rfl, ⟨_, [_], [_, _, _, _, _, _, _, _, _, _, _, _], rfl, rfl, rfl, rfl, ⟨_, [_, _, _, _], [_, _, _, _, _, _, _, _, _, _, _, _], rfl, rfl, rfl, rfl, ⟨_, [_], [_, _, _, _, _, _, _, _, _, _, _, _], rfl, rfl, rfl, rfl, rfl⟩⟩⟩⟩⟩) <| ⟨fun _ hw => hw.sel [2, 3, 4] rfl, HX.h0 <| HO.st 2 (vs := [_, _, _, _, _, _, _, _, _, _, _, _]) (C' := [_, _, _, _, _, _, _, _, _, _, _, _]) (L' := [_, _, _, _, _]) N120 rfl rfl rfl rfl rfl rfl rfl rfl <| ⟨fun _ hw => hw.sel [3, 4] rfl, HX.nil ?_⟩⟩⟩⟩)
  refine VE.seqN ?_
  refine VC.ret (VE.res (vs := [_]) rfl ⟨RV.agg (vs := [_, _, _, _, _, _, _, _, _, _, _, _]) A120 rfl (cells_blk 2 rfl ⟨_, rfl⟩) rfl, trivial⟩ (fun w hw => ?_))
  exact ⟨(qhs, qhm), trivial, rfl, hw.sel [0, 1] rfl⟩

set_option maxRecDepth 20000 in
theorem come_c (g : Grid) (c : Cloud) (a b : Nat) (lo hi t : Int) (w : World) (h1 : -100000 ≤ lo) (h2 : lo ≤ 100000) (h3 : -100000 ≤ hi) (h4 : hi ≤ 100000) (h5 : 0 ≤ c.grow) (h6 : c.grow ≤ 10000) (h7 : 0 ≤ t) (h8 : t ≤ 7200) :
  Calls Try.prog 96 #[shapeV a b g c, .agg #[.int .i64 lo, .int .i64 hi], .int .i64 t] w fun e w' => e = .returned (.tuple #[.int .i64 (comeLo lo c.grow t), .int .i64 (comeHi hi c.grow t)]) ∧ St (bs w) [] w' := by
  have m1 := mul_bd (a := lo - c.grow) (t := t) (by omega) (by omega) h7 h8
  have m2 := mul_bd (a := hi + c.grow) (t := t) (by omega) (by omega) h7 h8
  refine enter (vs := [_, _, _]) (env := [(0, _), (1, _), (2, _)]) Try.func96 rfl rfl rfl rfl ?_
  refine VC.seq ?_
  refine VC.reg (VO.h rfl <| HO.box (C := #[_, _, _, _, _, _, _, _, _, _, _, _]) rfl rfl fun b1 => VO.h rfl <| HO.box (C := #[_, _]) rfl rfl fun b2 => VO.l (LO.as (.r rfl)) rfl <| VO.l (LO.as (.r rfl)) rfl <| VO.nil ?_)
  refine VE.seqN ?_
  refine VC.seq ?_
  refine VC.draw mixed (LL.l (LO.fa (r := 0) F30_0 (.r rfl) rfl) rfl <| LL.l (LO.ld O3 (.r rfl) (fun _ hw => cells_at hw 0 rfl ⟨_, rfl⟩)) rfl <| LL.l (LO.fa (r := 11) F120_4 (.r rfl) rfl) rfl <| LL.l (LO.ld O3 (.r rfl) (fun _ hw => cells_at hw 1 rfl ⟨_, rfl⟩)) rfl <| LL.l (LO.sub (.r rfl) (.r rfl) (wi (by omega) (by omega))) rfl <| LL.l (LO.mv (.r rfl)) rfl <| LL.l (LO.mul (.r rfl) (.r rfl) (wi (by omega) (by omega))) rfl <| LL.l (LO.sub (.r rfl) (.r rfl) (wi (by omega) (by omega))) rfl <| LL.l (LO.call (xs := [_, _]) (vs := [_, _]) C65 ⟨(.r rfl), (.r rfl), trivial⟩ (fun w _ => down_c _ _ (by omega) (by omega) (by omega) w)) rfl <| LL.l (LO.add (.r rfl) (.r rfl) (wi (by omega) (by omega))) rfl <| LL.l (LO.fa (r := 1) F30_1 (.r rfl) rfl) rfl <| LL.l (LO.ld O3 (.r rfl) (fun _ hw => cells_at hw 0 rfl ⟨_, rfl⟩)) rfl <| LL.l (LO.fa (r := 11) F120_4 (.r rfl) rfl) rfl <| LL.l (LO.ld O3 (.r rfl) (fun _ hw => cells_at hw 1 rfl ⟨_, rfl⟩)) rfl <| LL.l (LO.add (.r rfl) (.r rfl) (wi (by omega) (by omega))) rfl <| LL.l (LO.mv (.r rfl)) rfl <| LL.l (LO.mul (.r rfl) (.r rfl) (wi (by omega) (by omega))) rfl <| LL.l (LO.add (.r rfl) (.r rfl) (wi (by omega) (by omega))) rfl <| LL.l (LO.call (xs := [_, _]) (vs := [_, _]) C66 ⟨(.r rfl), (.r rfl), trivial⟩ (fun w _ => up_c _ _ (by omega) (by omega) (by omega) w)) rfl <| LL.l (LO.sub (.r rfl) (.r rfl) (wi (by omega) (by omega))) rfl <| LL.l (LO.as (.r rfl)) rfl <| LL.l (LO.as (.r rfl)) rfl <| LL.nil) (by kernel_rfl) ?_
  refine VE.seqN ?_
  refine VC.ret (VE.res (vs := [_, _]) rfl ⟨rfl, rfl, trivial⟩ (fun w hw => ?_))
  exact ⟨rfl, hw.nil⟩

end Go.Proofs.Ytdcjeoamhjplmaa
