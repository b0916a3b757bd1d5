/-
  Widen, by a loop over two pointers.
-/
import Derived.Test.YtdcjeoamhjplmaaWN
import Derived.Test.YtdcjeoamhjplmaaSC
namespace Go.Proofs.Ytdcjeoamhjplmaa
open Go.SL Go.Proofs Go.Cast
set_option linter.unusedVariables false

theorem S138 : IsSlice Try.prog 138 137 := Try.underlying138
theorem Z137 : ZeroOf Try.prog 137 (.pointer none) := by unfold ZeroOf; kernel_rfl
theorem N137 : (Try.prog.info? 137).map (·.size) = some 1 := by kernel_rfl
theorem O137 : IsOne Try.prog 137 := ⟨⟨_, Try.underlying137, rfl⟩, by kernel_rfl⟩


def widK (f : Flow) (w : Int) : Nat → Flow
  | 0 => f
  | 1 => ⟨max (f.a - w) (-100000), min (f.b + w) 100000, f.c, f.d⟩
  | _ => ⟨max (f.a - w) (-100000), min (f.b + w) 100000, max (f.c - w) (-100000), min (f.d + w) 100000⟩
theorem widC2 {f : Flow} {ch sec : Int} (h : flowOk f) (k : (0 ≤ ch ∧ ch ≤ 100000) ∧ (0 ≤ sec ∧ sec ≤ 86400)) : Ending.returned (.tuple #[flowV (widK f (widW ch sec) 2), .int .i64 0]) = .returned (.tuple #[flowV (widR f ch sec), .int .i64 (widE f ch sec)]) := by
  rw [← widC h k]
  have : widK f (widW ch sec) 2 = widF f (widW ch sec) := by
    unfold widF; simp only [widK]
    rw [Int.max_comm, Int.min_comm, Int.max_comm (f.c - _), Int.min_comm (f.d + _)]
  rw [this]

set_option maxRecDepth 20000 in
theorem Widen_c (f : Flow) (ch sec : Int) (w : World) :
  Calls Try.prog 36 #[flowV f, .int .i64 ch, .int .i64 sec] w fun e w' => e = .returned (.tuple #[flowV (widR f ch sec), .int .i64 (widE f ch sec)]) ∧ St (bs w) [] w' := by
  refine enter (vs := [_, _, _]) (env := [(0, _), (1, _), (2, _)]) Try.func36 rfl rfl rfl rfl ?_
  refine VC.seq ?_
  refine VC.reg (VO.h rfl <| HO.box (C := #[_, _, _, _]) rfl rfl fun b1 => VO.h rfl <| HO.alloc (C := #[_, _, _, _]) Z32 rfl fun b2 => VO.l (LO.as (.r rfl)) rfl <| VO.nil ?_)
  refine VE.seqN ?_
  refine VC.seq ?_
  refine VC.seq ?_
  refine VC.reg (VO.l (LO.lda (vs := [_, _, _, _]) A32 (.r rfl) (fun _ hw => cells_at hw 1 rfl ⟨_, rfl⟩) rfl) rfl <| VO.l (LO.call (xs := [_]) (vs := [_]) C34 ⟨(.r rfl), trivial⟩ (fun w _ => checkFlow_c f w)) rfl <| VO.l (LO.as (.r rfl)) rfl <| VO.nil ?_)
  refine VE.seqN ?_
  refine VC.seq ?_
  refine VC.reg (VO.l (LO.mv (.r rfl)) rfl <| VO.l (LO.ne (.r rfl) (.r rfl)) rfl <| VO.nil ?_)
  refine VE.seqN ?_
  refine VC.cond rfl (fun h1 => ?_) (fun h1 => ?_)
  ·
    refine VC.seq ?_
    refine VC.reg (VO.l (LO.bd (ps := []) (vs := []) (C := [_, _, _, _]) B32 trivial rfl rfl) rfl <| VO.l (LO.mv (.r rfl)) rfl <| VO.h0 <| HO.st 0 (vs := [_, _, _, _]) (C' := [_, _, _, _]) (L' := [_, _]) N32 rfl rfl rfl rfl rfl rfl rfl rfl <| VO.l (LO.as (.r rfl)) rfl <| VO.nil ?_)
    refine VE.seqN ?_
    refine VC.ret (VE.thenR (VE.res (vs := [_, _]) rfl ⟨RV.agg (vs := [_, _, _, _]) A32 rfl (cells_blk 0 rfl ⟨_, rfl⟩) rfl, rfl, trivial⟩ (fun w hw => ?_)))
    first | exact ⟨widA h1, hw.nil⟩ | exact ⟨widB h1 (by omega), hw.nil⟩ | exact ⟨widC hF (by omega), hw.nil⟩ | exact ⟨widC2 hF (by omega), hw.nil⟩
  ·
    have hF : flowOk f := flowOk_of h1
    have hFb := hF
    unfold flowOk at hFb
    refine VC.skip (VE.seqN ?_)
    refine VC.seq ?_
    refine VC.seq ?_
    refine VC.reg (VO.l (LO.mv (.r rfl)) rfl <| VO.l (LO.call (xs := [_, _, _]) (vs := [_, _, _]) C52 ⟨(.r rfl), (.r rfl), (.r rfl), trivial⟩ (fun w _ => within_c _ _ _ w)) rfl <| VO.l (LO.not (.r rfl)) rfl <| VO.l (LO.mv (.r rfl)) rfl <| VO.lg rfl rfl (GD.f _) (fun hg => LO.mv (.r rfl)) rfl <| VO.lg rfl rfl (GD.f _) (fun hg => LO.call (xs := [_, _, _]) (vs := [_, _, _]) C52 ⟨(.g hg rfl), (.r rfl), (.r rfl), trivial⟩ (fun w _ => within_c _ _ _ w)) rfl <| VO.lg rfl rfl (GD.f _) (fun hg => LO.not (.g hg rfl)) rfl <| VO.l (LO.pkO (.r rfl) (.r rfl) rfl rfl) rfl <| VO.nil ?_)
    refine VE.seqN ?_
    refine VC.cond rfl (fun h2 => ?_) (fun h2 => ?_)
    ·
      refine VC.seq ?_
      refine VC.reg (VO.l (LO.bd (ps := []) (vs := []) (C := [_, _, _, _]) B32 trivial rfl rfl) rfl <| VO.h0 <| HO.st 0 (vs := [_, _, _, _]) (C' := [_, _, _, _]) (L' := [_, _]) N32 rfl rfl rfl rfl rfl rfl rfl rfl <| VO.l (LO.as (.r rfl)) rfl <| VO.nil ?_)
      refine VE.seqN ?_
      refine VC.ret (VE.thenR (VE.res (vs := [_, _]) rfl ⟨RV.agg (vs := [_, _, _, _]) A32 rfl (cells_blk 0 rfl ⟨_, rfl⟩) rfl, rfl, trivial⟩ (fun w hw => ?_)))
      first | exact ⟨widA h1, hw.nil⟩ | exact ⟨widB h1 (by omega), hw.nil⟩ | exact ⟨widC hF (by omega), hw.nil⟩ | exact ⟨widC2 hF (by omega), hw.nil⟩
    ·
      have hm := mulw (a := ch) (b := sec) (by omega) (by omega) (by omega) (by omega)
      have hmd := mulwd hm.1 hm.2
      refine VC.skip (VE.seqN ?_)
      refine VC.seq ?_
      refine VC.reg (VO.l (LO.mv (.r rfl)) rfl <| VO.l (LO.mv (.r rfl)) rfl <| VO.l (LO.mul (.r rfl) (.r rfl) (wi (by omega) (by omega))) rfl <| VO.l (LO.call (xs := [_, _]) (vs := [_, _]) C66 ⟨(.r rfl), (.r rfl), trivial⟩ (fun w _ => up_c _ _ (by omega) (by omega) (by omega) w)) rfl <| VO.l (LO.as (.r rfl)) rfl <| VO.nil ?_)
      refine VE.seqN ?_
      refine VC.seq ?_
      refine VC.seq ?_
      refine VC.reg (VO.l (LO.fa (r := 0) F32_0 (.r rfl) rfl) rfl <| VO.l (LO.fa (r := 2) F32_1 (.r rfl) rfl) rfl <| VO.h rfl <| HO.bs (ps := [(_, _), (_, _)]) (vs := [(_, _), (_, _)]) (Z := [_, _]) (C := [_, _]) S138 Z137 N137 ⟨(.r rfl), (.r rfl), trivial⟩ rfl rfl rfl rfl ⟨_, [_], [_, _], rfl, rfl, rfl, rfl, ⟨_, [_], [_, _], rfl, rfl, rfl, rfl, rfl⟩⟩ fun b5 => VO.h rfl <| HO.lo (LO.len S138 (.r rfl) rfl) <| VO.l (LO.mv (.r rfl)) rfl <| VO.nil ?_)
      refine VE.seqN ?_
      refine VC.block ?_
      refine VC.perm [2, 0, 1] rfl ?_
      refine VC.loopK (α := Nat) 1 (fun gx => [(35, .int .i64 (gx : Nat))]) [(3, _), (6, _), (9, _), (33, _), (34, _)] (fun gx => [blk b1 (.cells #[.int .i64 (widK f (widW ch sec) gx).a, .int .i64 (widK f (widW ch sec) gx).b, .int .i64 (widK f (widW ch sec) gx).c, .int .i64 (widK f (widW ch sec) gx).d] 32)]) (fun gx => gx ≤ 2) (fun gx => 2 - gx) 0 (by exact Nat.zero_le _) (.cons rfl (.cons rfl (.cons rfl (.cons rfl (.cons rfl (.cons rfl .nil)))))) (fun _ h => h) ?_
      rintro k hk
      refine VC.seq ?_
      refine VC.reg (VO.l (LO.lt (.r rfl) (.r rfl)) rfl <| VO.nil ?_)
      refine VE.seqN ?_
      refine VC.seq ?_
      refine VC.cond rfl (fun h3 => ?_) (fun h3 => ?_)
      ·
        have hk2 : k = 0 ∨ k = 1 := by omega
        refine VC.skip (VE.seqN ?_)
        refine VC.seq ?_
        refine VC.block ?_
        refine VC.seq ?_
        rcases hk2 with rfl | rfl
        ·
          have e1 : (widK f (widW ch sec) 0).a = f.a := rfl
          have e2 : (widK f (widW ch sec) 0).b = f.b := rfl
          refine VC.reg (VO.l (LO.ix (j := 0) S138 N137 (.r rfl) (.r rfl) (by decide)) rfl <| VO.l (LO.ld O137 (.r rfl) (fun _ hw => cells_at hw 1 rfl ⟨_, rfl⟩)) rfl <| VO.l (LO.as (.r rfl)) rfl <| VO.nil ?_)
          refine VE.seqN ?_
          refine VC.drawH [[0, 1, 2], [1, 2], [1, 2]] [some 0, some 1, some 0, some 0, some 0, some 0, some 0, some 0, some 0, some 0, some 0, some 0, some 0, some 1, some 1, some 1, some 0, some 0, none, some 1, some 1, none] mixed (by kernel_rfl) rfl (LX.l (fun _ hJ => LO.mv (.r rfl)) rfl <| LX.l (fun _ hJ => LO.mv (.r rfl)) rfl <| LX.l (fun _ hJ => LO.mv (.r rfl)) rfl <| LX.l (fun _ hJ => LO.nc (.r rfl)) rfl <| LX.l (fun _ hJ => LO.fa (r := 0) F30_0 (.r rfl) rfl) rfl <| LX.l (fun _ hJ => LO.ld O3 (.r rfl) (fun _ hw => cells_at (hJ _ hw) 0 rfl ⟨_, rfl⟩)) rfl <| LX.l (fun _ hJ => LO.mv (.r rfl)) rfl <| LX.l (fun _ hJ => LO.sub (.r rfl) (.r rfl) (wi (by omega) (by omega))) rfl <| LX.l (fun _ hJ => LO.max (.r rfl) (.r rfl)) rfl <| LX.l (fun _ hJ => LO.mv (.r rfl)) rfl <| LX.l (fun _ hJ => LO.nc (.r rfl)) rfl <| LX.l (fun _ hJ => LO.fa (r := 1) F30_1 (.r rfl) rfl) rfl <| LX.l (fun _ hJ => LO.ld O3 (.r rfl) (fun _ hw => cells_at (hJ _ hw) 0 rfl ⟨_, rfl⟩)) rfl <| LX.l (fun _ hJ => LO.mv (.r rfl)) rfl <| LX.l (fun _ hJ => LO.add (.r rfl) (.r rfl) (wi (by omega) (by omega))) rfl <| LX.l (fun _ hJ => LO.min (.r rfl) (.r rfl)) rfl <| LX.l (fun _ hJ => LO.nc (.r rfl)) rfl <| LX.l (fun _ hJ => LO.fa (r := 0) F30_0 (.r rfl) rfl) rfl <| LX.s <| LX.l (fun _ hJ => LO.nc (.r rfl)) rfl <| LX.l (fun _ hJ => LO.fa (r := 1) F30_1 (.r rfl) rfl) rfl <| LX.s <| LX.nil) (HX.s <| HX.s <| HX.s <| HX.s <| HX.s <| HX.s <| HX.s <| HX.s <| HX.s <| HX.s <| HX.s <| HX.s <| HX.s <| HX.s <| HX.s <| HX.s <| HX.s <| HX.s <| HX.h0 <| HO.st 0 (vs := [_]) (C' := [_, _, _, _]) (L' := [_, _, _]) N3 rfl rfl rfl rfl rfl rfl rfl rfl <| ⟨fun _ hw => hw.sel [1, 2] rfl, HX.s <| HX.s <| HX.h0 <| HO.st 0 (vs := [_]) (C' := [_, _, _, _]) (L' := [_, _, _]) N3 rfl rfl rfl rfl rfl rfl rfl rfl <| ⟨fun _ hw => hw.sel [1, 2] rfl, HX.nil ?_⟩⟩)
          refine VE.inN (VE.seqN ?_)
          refine VC.reg (VO.l (LO.add (.r rfl) (.r rfl) (wi (by omega) (by omega))) rfl <| VO.l (LO.mv (.r rfl)) rfl <| VO.nil ?_)
          refine VE.thenN fun a w ha hw => ⟨0 + 1, (by decide), (by decide), ha.sub (.cons rfl (.cons rfl (.cons rfl (.cons rfl (.cons rfl (.cons rfl .nil)))))), hw⟩
        ·
          have e1 : (widK f (widW ch sec) 1).c = f.c := rfl
          have e2 : (widK f (widW ch sec) 1).d = f.d := rfl
          refine VC.reg (VO.l (LO.ix (j := 1) S138 N137 (.r rfl) (.r rfl) (by decide)) rfl <| VO.l (LO.ld O137 (.r rfl) (fun _ hw => cells_at hw 1 rfl ⟨_, rfl⟩)) rfl <| VO.l (LO.as (.r rfl)) rfl <| VO.nil ?_)
          refine VE.seqN ?_
          refine VC.drawH [[0, 1, 2], [1, 2], [1, 2]] [some 0, some 1, some 0, some 0, some 0, some 0, some 0, some 0, some 0, some 0, some 0, some 0, some 0, some 1, some 1, some 1, some 0, some 0, none, some 1, some 1, none] mixed (by kernel_rfl) rfl (LX.l (fun _ hJ => LO.mv (.r rfl)) rfl <| LX.l (fun _ hJ => LO.mv (.r rfl)) rfl <| LX.l (fun _ hJ => LO.mv (.r rfl)) rfl <| LX.l (fun _ hJ => LO.nc (.r rfl)) rfl <| LX.l (fun _ hJ => LO.fa (r := 2) F30_0 (.r rfl) rfl) rfl <| LX.l (fun _ hJ => LO.ld O3 (.r rfl) (fun _ hw => cells_at (hJ _ hw) 0 rfl ⟨_, rfl⟩)) rfl <| LX.l (fun _ hJ => LO.mv (.r rfl)) rfl <| LX.l (fun _ hJ => LO.sub (.r rfl) (.r rfl) (wi (by omega) (by omega))) rfl <| LX.l (fun _ hJ => LO.max (.r rfl) (.r rfl)) rfl <| LX.l (fun _ hJ => LO.mv (.r rfl)) rfl <| LX.l (fun _ hJ => LO.nc (.r rfl)) rfl <| LX.l (fun _ hJ => LO.fa (r := 3) F30_1 (.r rfl) rfl) rfl <| LX.l (fun _ hJ => LO.ld O3 (.r rfl) (fun _ hw => cells_at (hJ _ hw) 0 rfl ⟨_, rfl⟩)) rfl <| LX.l (fun _ hJ => LO.mv (.r rfl)) rfl <| LX.l (fun _ hJ => LO.add (.r rfl) (.r rfl) (wi (by omega) (by omega))) rfl <| LX.l (fun _ hJ => LO.min (.r rfl) (.r rfl)) rfl <| LX.l (fun _ hJ => LO.nc (.r rfl)) rfl <| LX.l (fun _ hJ => LO.fa (r := 2) F30_0 (.r rfl) rfl) rfl <| LX.s <| LX.l (fun _ hJ => LO.nc (.r rfl)) rfl <| LX.l (fun _ hJ => LO.fa (r := 3) F30_1 (.r rfl) rfl) rfl <| LX.s <| LX.nil) (HX.s <| HX.s <| HX.s <| HX.s <| HX.s <| HX.s <| HX.s <| HX.s <| HX.s <| HX.s <| HX.s <| HX.s <| HX.s <| HX.s <| HX.s <| HX.s <| HX.s <| HX.s <| HX.h0 <| HO.st 0 (vs := [_]) (C' := [_, _, _, _]) (L' := [_, _, _]) N3 rfl rfl rfl rfl rfl rfl rfl rfl <| ⟨fun _ hw => hw.sel [1, 2] rfl, HX.s <| HX.s <| HX.h0 <| HO.st 0 (vs := [_]) (C' := [_, _, _, _]) (L' := [_, _, _]) N3 rfl rfl rfl rfl rfl rfl rfl rfl <| ⟨fun _ hw => hw.sel [1, 2] rfl, HX.nil ?_⟩⟩)
          refine VE.inN (VE.seqN ?_)
          refine VC.reg (VO.l (LO.add (.r rfl) (.r rfl) (wi (by omega) (by omega))) rfl <| VO.l (LO.mv (.r rfl)) rfl <| VO.nil ?_)
          refine VE.thenN fun a w ha hw => ⟨1 + 1, (by decide), (by decide), ha.sub (.cons rfl (.cons rfl (.cons rfl (.cons rfl (.cons rfl (.cons rfl .nil)))))), hw⟩
      ·
        have hk2 : k = 2 := by omega
        subst hk2
        refine VC.exit (VE.thenX (VE.thenX (VE.inX (VE.seqN ?_))))
        refine VC.seq ?_
        refine VC.reg (VO.l (LO.lda (vs := [_, _, _, _]) A32 (.r rfl) (fun _ hw => cells_at hw 0 rfl ⟨_, rfl⟩) rfl) rfl <| VO.h0 <| HO.st 2 (vs := [_, _, _, _]) (C' := [_, _, _, _]) (L' := [_, _, _]) N32 rfl rfl rfl rfl rfl rfl rfl rfl <| VO.l (LO.as (.r rfl)) rfl <| VO.nil ?_)
        refine VE.seqN ?_
        refine VC.ret (VE.res (vs := [_, _]) rfl ⟨RV.agg (vs := [_, _, _, _]) A32 rfl (cells_blk 2 rfl ⟨_, rfl⟩) rfl, rfl, trivial⟩ (fun w hw => ?_))
        first | exact ⟨widA h1, hw.nil⟩ | exact ⟨widB h1 (by omega), hw.nil⟩ | exact ⟨widC hF (by omega), hw.nil⟩ | exact ⟨widC2 hF (by omega), hw.nil⟩

end Go.Proofs.Ytdcjeoamhjplmaa
