/-
  Flows that are widened.
-/
import Derived.Test.YtdcjeoamhjplmaaWM
namespace Go.Proofs.Ytdcjeoamhjplmaa
open Go.SL Go.Proofs Go.Cast
set_option linter.unusedVariables false

theorem C88 : IsFn Try.prog 88 := ⟨_, Try.func88, by decide, rfl⟩
theorem C69 : IsFn Try.prog 69 := ⟨_, Try.func69, by decide, rfl⟩
theorem C68 : IsFn Try.prog 68 := ⟨_, Try.func68, by decide, rfl⟩


def widOk (ch sec : Int) : Prop := (0 ≤ ch ∧ ch ≤ 100000) ∧ (0 ≤ sec ∧ sec ≤ 86400)
instance (ch sec : Int) : Decidable (widOk ch sec) := by unfold widOk; exact inferInstance
def widW (ch sec : Int) : Int := -(-(ch * sec) / 3600)
def widF (f : Flow) (w : Int) : Flow := ⟨max (-100000) (f.a - w), min 100000 (f.b + w), max (-100000) (f.c - w), min 100000 (f.d + w)⟩
def widE (f : Flow) (ch sec : Int) : Int := if flowE f ≠ 0 then flowE f else if ¬ widOk ch sec then 3 else 0
def widR (f : Flow) (ch sec : Int) : Flow := if widE f ch sec = 0 then widF f (widW ch sec) else ⟨0, 0, 0, 0⟩
section
variable {f : Flow} {ch sec a b : Int}
theorem mulw (h1 : 0 ≤ a) (h2 : a ≤ 100000) (h3 : 0 ≤ b) (h4 : b ≤ 86400) : 0 ≤ a * b ∧ a * b ≤ 8640000000 := by
  have := Int.mul_nonneg h1 h3
  have k : a * b ≤ 100000 * 86400 := Int.mul_le_mul h2 h4 h3 (by decide)
  omega
theorem mulwd (h1 : 0 ≤ ch * sec) (h2 : ch * sec ≤ 8640000000) : 0 ≤ -(-(ch * sec) / 3600) ∧ -(-(ch * sec) / 3600) ≤ 2400000 := by
  generalize ch * sec = m at *; omega
theorem widA (h : ¬ flowE f = 0) : Ending.returned (.tuple #[flowV ⟨0, 0, 0, 0⟩, .int .i64 (flowE f)]) = .returned (.tuple #[flowV (widR f ch sec), .int .i64 (widE f ch sec)]) := by
  have e : widE f ch sec = flowE f := if_pos h
  have g : widR f ch sec = ⟨0, 0, 0, 0⟩ := if_neg (by rw [e]; exact h)
  rw [e, g]
theorem widB (h : ¬ ¬ flowE f = 0) (k : ¬ ((0 ≤ ch ∧ ch ≤ 100000) ∧ (0 ≤ sec ∧ sec ≤ 86400))) : Ending.returned (.tuple #[flowV ⟨0, 0, 0, 0⟩, .int .i64 3]) = .returned (.tuple #[flowV (widR f ch sec), .int .i64 (widE f ch sec)]) := by
  have e : widE f ch sec = 3 := by unfold widE; rw [if_neg h, if_pos (show ¬ widOk ch sec from k)]
  have g : widR f ch sec = ⟨0, 0, 0, 0⟩ := if_neg (by rw [e]; decide)
  rw [e, g]
theorem widC (h : flowOk f) (k : (0 ≤ ch ∧ ch ≤ 100000) ∧ (0 ≤ sec ∧ sec ≤ 86400)) : Ending.returned (.tuple #[flowV (widF f (widW ch sec)), .int .i64 0]) = .returned (.tuple #[flowV (widR f ch sec), .int .i64 (widE f ch sec)]) := by
  have e0 : flowE f = 0 := if_pos h
  have e : widE f ch sec = 0 := by unfold widE; rw [if_neg (fun q => q e0), if_neg (fun q => q k)]
  have g : widR f ch sec = widF f (widW ch sec) := if_pos e
  rw [e, g]
end

set_option maxRecDepth 20000 in
theorem rDown_c (a b : Int) (h1 : -9223372036854775807 ≤ a) (h2 : a ≤ 9223372036854775807) (hb : 0 < b) (w : World) :
  Calls Try.prog 88 #[.int .i64 a, .int .i64 b] w fun e w' => e = .returned (.int .i64 (a / b)) ∧ St (bs w) [] w' := by
  have ⟨q1, q2, q3, q4, q5⟩ := tdiv_bd a b hb h1 h2
  refine enter (vs := [_, _]) (env := [(0, _), (1, _)]) Try.func88 rfl rfl rfl rfl ?_
  refine VC.seq ?_
  refine VC.reg (VO.l (LO.as (.r rfl)) rfl <| VO.nil ?_)
  refine VE.seqN ?_
  refine VC.seq ?_
  refine VC.reg (VO.l (LO.mv (.r rfl)) rfl <| VO.l (LO.mv (.r rfl)) rfl <| VO.l (LO.quo (.r rfl) (.r rfl) (by omega) (wi (by omega) (by omega))) rfl <| VO.l (LO.as (.r rfl)) rfl <| VO.nil ?_)
  refine VE.seqN ?_
  refine VC.seq ?_
  refine VC.seq ?_
  refine VC.reg (VO.l (LO.mv (.r rfl)) rfl <| VO.l (LO.mv (.r rfl)) rfl <| VO.l (LO.rem (.r rfl) (.r rfl) (by omega)) rfl <| VO.l (LO.lt (.r rfl) (.r rfl)) rfl <| VO.nil ?_)
  refine VE.seqN ?_
  refine VC.cond rfl (fun h1 => ?_) (fun h1 => ?_)
  ·
    refine VC.reg (VO.l (LO.mv (.r rfl)) rfl <| VO.l (LO.sub (.r rfl) (.r rfl) (wi (by omega) (by omega))) rfl <| VO.l (LO.as (.r rfl)) rfl <| VO.nil ?_)
    refine VE.seqN ?_
    refine VC.seq ?_
    refine VC.reg (VO.l (LO.mv (.r rfl)) rfl <| VO.l (LO.as (.r rfl)) rfl <| VO.nil ?_)
    refine VE.seqN ?_
    refine VC.ret (VE.res (vs := [_]) rfl ⟨rfl, trivial⟩ (fun w hw => ?_))
    exact ⟨by simp only [resV]; congr 2; omega, hw.nil⟩
  ·
    refine VC.skip (VE.seqN ?_)
    refine VC.seq ?_
    refine VC.reg (VO.l (LO.mv (.r rfl)) rfl <| VO.l (LO.as (.r rfl)) rfl <| VO.nil ?_)
    refine VE.seqN ?_
    refine VC.ret (VE.res (vs := [_]) rfl ⟨rfl, trivial⟩ (fun w hw => ?_))
    exact ⟨by simp only [resV]; congr 2; omega, hw.nil⟩

set_option maxRecDepth 20000 in
theorem rUp_c (a b : Int) (h1 : -9223372036854775807 ≤ a) (h2 : a ≤ 9223372036854775807) (hb : 0 < b) (w : World) :
  Calls Try.prog 69 #[.int .i64 a, .int .i64 b] w fun e w' => e = .returned (.int .i64 (-(-a / b))) ∧ St (bs w) [] w' := by
  have ⟨q1, q2, q3, q4, q5⟩ := tdiv_bd (-a) b hb (by omega) (by omega)
  have q6 := tdiv_up (-a) b hb (by omega)
  refine enter (vs := [_, _]) (env := [(0, _), (1, _)]) Try.func69 rfl rfl rfl rfl ?_
  refine VC.seq ?_
  refine VC.reg (VO.l (LO.as (.r rfl)) rfl <| VO.nil ?_)
  refine VE.seqN ?_
  refine VC.seq ?_
  refine VC.reg (VO.l (LO.mv (.r rfl)) rfl <| VO.l (LO.neg (.r rfl) (wi (by omega) (by omega))) rfl <| VO.l (LO.mv (.r rfl)) rfl <| VO.l (LO.call (xs := [_, _]) (vs := [_, _]) C88 ⟨(.r rfl), (.r rfl), trivial⟩ (fun w _ => rDown_c _ _ (by omega) (by omega) (by omega) w)) rfl <| VO.l (LO.neg (.r rfl) (wi (by omega) (by omega))) rfl <| VO.l (LO.as (.r rfl)) rfl <| VO.nil ?_)
  refine VE.seqN ?_
  refine VC.ret (VE.res (vs := [_]) rfl ⟨rfl, trivial⟩ (fun w hw => ?_))
  exact ⟨rfl, hw.nil⟩

set_option maxRecDepth 20000 in
theorem rrush_c (lo hi slack sec : Int) (w : World) (h1 : -64 ≤ lo) (h2 : lo ≤ 64) (h3 : -64 ≤ hi) (h4 : hi ≤ 64) (h5 : 0 ≤ slack) (h6 : slack ≤ 2000) (h7 : 1 ≤ sec) (h8 : sec ≤ 86400) :
  Calls Try.prog 68 #[.agg #[.int .i64 lo, .int .i64 hi], .int .i64 sec, .int .i64 slack] w fun e w' => e = .returned (.agg #[.int .i64 (rushLo lo sec slack), .int .i64 (rushHi hi sec slack)]) ∧ St (bs w) [] w' := by
  refine enter (vs := [_, _, _]) (env := [(0, _), (1, _), (2, _)]) Try.func68 rfl rfl rfl rfl ?_
  refine VC.seq ?_
  refine VC.reg (VO.h rfl <| HO.box (C := #[_, _]) rfl rfl fun b1 => VO.h rfl <| HO.alloc (C := #[_, _]) Z30 rfl fun b2 => VO.nil ?_)
  refine VE.seqN ?_
  refine VC.seq ?_
  refine VC.drawH [[0, 1], [1]] [some 0, some 0, some 0, some 0, some 0, some 0, some 0, some 0, some 0, some 0, some 0, some 0, some 0, some 0, some 0, some 0, some 0, none] mixed (by kernel_rfl) rfl (LX.l (fun _ hJ => LO.fa (r := 0) F30_0 (.r rfl) rfl) rfl <| LX.l (fun _ hJ => LO.ld O3 (.r rfl) (fun _ hw => cells_at (hJ _ hw) 1 rfl ⟨_, rfl⟩)) rfl <| LX.l (fun _ hJ => LO.mul (.r rfl) (.r rfl) (wi (by omega) (by omega))) rfl <| LX.l (fun _ hJ => LO.mv (.r rfl)) rfl <| LX.l (fun _ hJ => LO.sub (.r rfl) (.r rfl) (wi (by omega) (by omega))) rfl <| LX.l (fun _ hJ => LO.mul (.r rfl) (.r rfl) (wi (by omega) (by omega))) rfl <| LX.l (fun _ hJ => LO.mv (.r rfl)) rfl <| LX.l (fun _ hJ => LO.call (xs := [_, _]) (vs := [_, _]) C88 ⟨(.r rfl), (.r rfl), trivial⟩ (fun w _ => rDown_c _ _ (by omega) (by omega) (by omega) w)) rfl <| LX.l (fun _ hJ => LO.fa (r := 1) F30_1 (.r rfl) rfl) rfl <| LX.l (fun _ hJ => LO.ld O3 (.r rfl) (fun _ hw => cells_at (hJ _ hw) 1 rfl ⟨_, rfl⟩)) rfl <| LX.l (fun _ hJ => LO.mul (.r rfl) (.r rfl) (wi (by omega) (by omega))) rfl <| LX.l (fun _ hJ => LO.mv (.r rfl)) rfl <| LX.l (fun _ hJ => LO.add (.r rfl) (.r rfl) (wi (by omega) (by omega))) rfl <| LX.l (fun _ hJ => LO.mul (.r rfl) (.r rfl) (wi (by omega) (by omega))) rfl <| LX.l (fun _ hJ => LO.mv (.r rfl)) rfl <| LX.l (fun _ hJ => LO.call (xs := [_, _]) (vs := [_, _]) C69 ⟨(.r rfl), (.r rfl), trivial⟩ (fun w _ => rUp_c _ _ (by omega) (by omega) (by omega) w)) rfl <| LX.l (fun _ hJ => LO.bd (ps := [(_, _), (_, _)]) (vs := [(_, _), (_, _)]) (C := [_, _]) B30 ⟨(.r rfl), (.r rfl), trivial⟩ rfl ⟨_, [_], [_, _], rfl, rfl, rfl, rfl, ⟨_, [_], [_, _], rfl, rfl, rfl, rfl, rfl⟩⟩) rfl <| LX.s <| LX.nil) (HX.s <| HX.s <| HX.s <| HX.s <| HX.s <| HX.s <| HX.s <| HX.s <| HX.s <| HX.s <| HX.s <| HX.s <| HX.s <| HX.s <| HX.s <| HX.s <| HX.s <| HX.h0 <| HO.st 0 (vs := [_, _]) (C' := [_, _]) (L' := [_, _]) N30 rfl rfl rfl rfl rfl rfl rfl rfl <| ⟨fun _ hw => hw.sel [1] rfl, HX.nil ?_⟩)
  refine VE.seqN ?_
  refine VC.ret (VE.res (vs := [_]) rfl ⟨RV.agg (vs := [_, _]) A30 rfl (cells_blk 0 rfl ⟨_, rfl⟩) rfl, trivial⟩ (fun w hw => ?_))
  exact ⟨rfl, hw.nil⟩

set_option maxRecDepth 20000 in
theorem rFit_c (x1 x2 y1 y2 sec slack : Int) (w : World) :
  Calls Try.prog 32 #[.agg #[.int .i64 x1, .int .i64 x2], .agg #[.int .i64 y1, .int .i64 y2], .int .i64 sec, .int .i64 slack] w fun e w' => e = .returned (.tuple #[flowV (fitR x1 x2 y1 y2 sec slack), .int .i64 (fitE x1 x2 y1 y2 sec slack)]) ∧ St (bs w) [] w' := by
  refine enter (vs := [_, _, _, _]) (env := [(0, _), (1, _), (2, _), (3, _)]) Try.func32 rfl rfl rfl rfl ?_
  refine VC.seq ?_
  refine VC.reg (VO.h rfl <| HO.box (C := #[_, _]) rfl rfl fun b1 => VO.h rfl <| HO.box (C := #[_, _]) rfl rfl fun b2 => VO.h rfl <| HO.alloc (C := #[_, _, _, _]) Z35 rfl fun b3 => VO.l (LO.as (.r rfl)) rfl <| VO.nil ?_)
  refine VE.seqN ?_
  refine VC.seq ?_
  refine VC.seq ?_
  refine VC.reg (VO.l (LO.lda (vs := [_, _]) A30 (.r rfl) (fun _ hw => cells_at hw 2 rfl ⟨_, rfl⟩) rfl) rfl <| VO.l (LO.call (xs := [_, _, _]) (vs := [_, _, _]) C67 ⟨(.r rfl), (.r rfl), (.r rfl), trivial⟩ (fun w _ => Valid_c _ _ _ _ w)) rfl <| VO.l (LO.not (.r rfl)) rfl <| VO.l (LO.mv (.r rfl)) rfl <| VO.lg rfl rfl (GD.f _) (fun hg => LO.lda (vs := [_, _]) A30 (.r rfl) (fun _ hw => cells_at hw 1 rfl ⟨_, rfl⟩) rfl) rfl <| VO.lg rfl rfl (GD.f _) (fun hg => LO.call (xs := [_, _, _]) (vs := [_, _, _]) C67 ⟨(.g hg rfl), (.r rfl), (.r rfl), trivial⟩ (fun w _ => Valid_c _ _ _ _ w)) rfl <| VO.lg rfl rfl (GD.f _) (fun hg => LO.not (.g hg rfl)) rfl <| VO.l (LO.pkO (.r rfl) (.r rfl) rfl rfl) rfl <| VO.l (LO.mv (.r rfl)) rfl <| VO.lg rfl rfl (GD.f _) (fun hg => LO.mv (.r rfl)) rfl <| VO.lg rfl rfl (GD.f _) (fun hg => LO.call (xs := [_, _, _]) (vs := [_, _, _]) C57 ⟨(.g hg rfl), (.r rfl), (.r rfl), trivial⟩ (fun w _ => In_c _ _ _ w)) rfl <| VO.lg rfl rfl (GD.f _) (fun hg => LO.not (.g hg rfl)) rfl <| VO.l (LO.pkO (.r rfl) (.r rfl) rfl rfl) rfl <| VO.l (LO.mv (.r rfl)) rfl <| VO.lg rfl rfl (GD.f _) (fun hg => LO.mv (.r rfl)) rfl <| VO.lg rfl rfl (GD.f _) (fun hg => LO.call (xs := [_, _, _]) (vs := [_, _, _]) C57 ⟨(.g hg rfl), (.r rfl), (.r rfl), trivial⟩ (fun w _ => In_c _ _ _ w)) rfl <| VO.lg rfl rfl (GD.f _) (fun hg => LO.not (.g hg rfl)) rfl <| VO.l (LO.pkO (.r rfl) (.r rfl) rfl rfl) rfl <| VO.nil ?_)
  refine VE.seqN ?_
  refine VC.cond rfl (fun h1 => ?_) (fun h1 => ?_)
  ·
    refine VC.seq ?_
    refine VC.reg (VO.l (LO.bd (ps := []) (vs := []) (C := [_, _, _, _]) B35 trivial rfl rfl) rfl <| VO.h0 <| HO.st 0 (vs := [_, _, _, _]) (C' := [_, _, _, _]) (L' := [_, _, _]) N35 rfl rfl rfl rfl rfl rfl rfl rfl <| VO.l (LO.as (.r rfl)) rfl <| VO.nil ?_)
    refine VE.seqN ?_
    refine VC.ret (VE.thenR (VE.res (vs := [_, _]) rfl ⟨RV.agg (vs := [_, _, _, _]) A35 rfl (cells_blk 0 rfl ⟨_, rfl⟩) rfl, rfl, trivial⟩ (fun w hw => ?_)))
    first | exact ⟨fitA (by unfold fitOk; omega), hw.nil⟩ | exact ⟨fitB (by unfold fitOk; omega) h2, hw.nil⟩ | exact ⟨fitC (by unfold fitOk; omega) h2, hw.nil⟩
  ·
    refine VC.skip (VE.seqN ?_)
    refine VC.seq ?_
    refine VC.drawH [[0, 1, 2], [0, 1, 2], [0, 1, 2]] [some 1, some 1, some 1, some 1, some 1, some 1, some 1, some 1, some 1, none, none] mixed (by kernel_rfl) rfl (LX.l (fun _ hJ => LO.lda (vs := [_, _]) A30 (.r rfl) (fun _ hw => cells_at (hJ _ hw) 2 rfl ⟨_, rfl⟩) rfl) rfl <| LX.l (fun _ hJ => LO.mv (.r rfl)) rfl <| LX.l (fun _ hJ => LO.mv (.r rfl)) rfl <| LX.l (fun _ hJ => LO.call (xs := [_, _, _]) (vs := [_, _, _]) C68 ⟨(.r rfl), (.r rfl), (.r rfl), trivial⟩ (fun w _ => rrush_c _ _ _ _ w (by omega) (by omega) (by omega) (by omega) (by omega) (by omega) (by omega) (by omega))) rfl <| LX.l (fun _ hJ => LO.lda (vs := [_, _]) A30 (.r rfl) (fun _ hw => cells_at (hJ _ hw) 1 rfl ⟨_, rfl⟩) rfl) rfl <| LX.l (fun _ hJ => LO.mv (.r rfl)) rfl <| LX.l (fun _ hJ => LO.mv (.r rfl)) rfl <| LX.l (fun _ hJ => LO.call (xs := [_, _, _]) (vs := [_, _, _]) C68 ⟨(.r rfl), (.r rfl), (.r rfl), trivial⟩ (fun w _ => rrush_c _ _ _ _ w (by omega) (by omega) (by omega) (by omega) (by omega) (by omega) (by omega) (by omega))) rfl <| LX.l (fun _ hJ => LO.bd (ps := [(_, _), (_, _)]) (vs := [(_, _), (_, _)]) (C := [_, _, _, _]) B35 ⟨(.r rfl), (.r rfl), trivial⟩ rfl ⟨_, [_, _], [_, _, _, _], rfl, rfl, rfl, rfl, ⟨_, [_, _], [_, _, _, _], rfl, rfl, rfl, rfl, rfl⟩⟩) rfl <| LX.s <| LX.s <| LX.nil) (HX.s <| HX.s <| HX.s <| HX.s <| HX.s <| HX.s <| HX.s <| HX.s <| HX.s <| HX.h rfl <| HO.alloc (C := #[_, _, _, _]) Z35 rfl fun b7 => ⟨fun _ hw => hw.sel [1, 2, 3] rfl, HX.h0 <| HO.st 0 (vs := [_, _, _, _]) (C' := [_, _, _, _]) (L' := [_, _, _, _]) N35 rfl rfl rfl rfl rfl rfl rfl rfl <| ⟨fun _ hw => hw.sel [1, 2, 3] rfl, HX.nil ?_⟩⟩)
    refine VE.seqN ?_
    refine VC.seq ?_
    refine VC.seq ?_
    refine VC.reg (VO.l (LO.lda (vs := [_, _, _, _]) A35 (.r rfl) (fun _ hw => cells_at hw 0 rfl ⟨_, rfl⟩) rfl) rfl <| VO.l (LO.call (xs := [_]) (vs := [_]) C35 ⟨(.r rfl), trivial⟩ (fun w _ => rCheckFlow_c (fitF x1 x2 y1 y2 sec slack) w)) rfl <| VO.l (LO.ne (.r rfl) (.r rfl)) rfl <| VO.nil ?_)
    refine VE.seqN ?_
    refine VC.cond rfl (fun h2 => ?_) (fun h2 => ?_)
    ·
      refine VC.seq ?_
      refine VC.reg (VO.l (LO.bd (ps := []) (vs := []) (C := [_, _, _, _]) B35 trivial rfl rfl) rfl <| VO.h0 <| HO.st 1 (vs := [_, _, _, _]) (C' := [_, _, _, _]) (L' := [_, _, _, _]) N35 rfl rfl rfl rfl rfl rfl rfl rfl <| VO.l (LO.as (.r rfl)) rfl <| VO.nil ?_)
      refine VE.seqN ?_
      refine VC.ret (VE.thenR (VE.res (vs := [_, _]) rfl ⟨RV.agg (vs := [_, _, _, _]) A35 rfl (cells_blk 1 rfl ⟨_, rfl⟩) rfl, rfl, trivial⟩ (fun w hw => ?_)))
      first | exact ⟨fitA (by unfold fitOk; omega), hw.nil⟩ | exact ⟨fitB (by unfold fitOk; omega) h2, hw.nil⟩ | exact ⟨fitC (by unfold fitOk; omega) h2, hw.nil⟩
    ·
      refine VC.skip (VE.seqN ?_)
      refine VC.seq ?_
      refine VC.reg (VO.l (LO.lda (vs := [_, _, _, _]) A35 (.r rfl) (fun _ hw => cells_at hw 0 rfl ⟨_, rfl⟩) rfl) rfl <| VO.h0 <| HO.st 1 (vs := [_, _, _, _]) (C' := [_, _, _, _]) (L' := [_, _, _, _]) N35 rfl rfl rfl rfl rfl rfl rfl rfl <| VO.l (LO.as (.r rfl)) rfl <| VO.nil ?_)
      refine VE.seqN ?_
      refine VC.ret (VE.res (vs := [_, _]) rfl ⟨RV.agg (vs := [_, _, _, _]) A35 rfl (cells_blk 1 rfl ⟨_, rfl⟩) rfl, rfl, trivial⟩ (fun w hw => ?_))
      first | exact ⟨fitA (by unfold fitOk; omega), hw.nil⟩ | exact ⟨fitB (by unfold fitOk; omega) h2, hw.nil⟩ | exact ⟨fitC (by unfold fitOk; omega) h2, hw.nil⟩

set_option maxRecDepth 20000 in
theorem rWiden_c (f : Flow) (ch sec : Int) (w : World) :
  Calls Try.prog 37 #[flowV f, .int .i64 ch, .int .i64 sec] w fun e w' => e = .returned (.tuple #[flowV (widR f ch sec), .int .i64 (widE f ch sec)]) ∧ St (bs w) [] w' := by
  refine enter (vs := [_, _, _]) (env := [(0, _), (1, _), (2, _)]) Try.func37 rfl rfl rfl rfl ?_
  refine VC.seq ?_
  refine VC.reg (VO.h rfl <| HO.box (C := #[_, _, _, _]) rfl rfl fun b1 => VO.h rfl <| HO.alloc (C := #[_, _, _, _]) Z35 rfl fun b2 => VO.l (LO.as (.r rfl)) rfl <| VO.nil ?_)
  refine VE.seqN ?_
  refine VC.seq ?_
  refine VC.reg (VO.l (LO.lda (vs := [_, _, _, _]) A35 (.r rfl) (fun _ hw => cells_at hw 1 rfl ⟨_, rfl⟩) rfl) rfl <| VO.l (LO.call (xs := [_]) (vs := [_]) C35 ⟨(.r rfl), trivial⟩ (fun w _ => rCheckFlow_c f w)) rfl <| VO.l (LO.as (.r rfl)) rfl <| VO.nil ?_)
  refine VE.seqN ?_
  refine VC.seq ?_
  refine VC.seq ?_
  refine VC.reg (VO.l (LO.mv (.r rfl)) rfl <| VO.l (LO.ne (.r rfl) (.r rfl)) rfl <| VO.nil ?_)
  refine VE.seqN ?_
  refine VC.cond rfl (fun h1 => ?_) (fun h1 => ?_)
  ·
    refine VC.seq ?_
    refine VC.reg (VO.l (LO.bd (ps := []) (vs := []) (C := [_, _, _, _]) B35 trivial rfl rfl) rfl <| VO.l (LO.mv (.r rfl)) rfl <| VO.h0 <| HO.st 0 (vs := [_, _, _, _]) (C' := [_, _, _, _]) (L' := [_, _]) N35 rfl rfl rfl rfl rfl rfl rfl rfl <| VO.l (LO.as (.r rfl)) rfl <| VO.nil ?_)
    refine VE.seqN ?_
    refine VC.ret (VE.thenR (VE.res (vs := [_, _]) rfl ⟨RV.agg (vs := [_, _, _, _]) A35 rfl (cells_blk 0 rfl ⟨_, rfl⟩) rfl, rfl, trivial⟩ (fun w hw => ?_)))
    first | exact ⟨widA h1, hw.nil⟩ | exact ⟨widB h1 (by omega), hw.nil⟩ | exact ⟨widC hF (by omega), hw.nil⟩
  ·
    have hF : flowOk f := flowOk_of h1
    have hFb := hF
    unfold flowOk at hFb
    refine VC.skip (VE.seqN ?_)
    refine VC.seq ?_
    refine VC.seq ?_
    refine VC.reg (VO.l (LO.mv (.r rfl)) rfl <| VO.l (LO.call (xs := [_, _, _]) (vs := [_, _, _]) C57 ⟨(.r rfl), (.r rfl), (.r rfl), trivial⟩ (fun w _ => In_c _ _ _ w)) rfl <| VO.l (LO.not (.r rfl)) rfl <| VO.l (LO.mv (.r rfl)) rfl <| VO.lg rfl rfl (GD.f _) (fun hg => LO.mv (.r rfl)) rfl <| VO.lg rfl rfl (GD.f _) (fun hg => LO.call (xs := [_, _, _]) (vs := [_, _, _]) C57 ⟨(.g hg rfl), (.r rfl), (.r rfl), trivial⟩ (fun w _ => In_c _ _ _ w)) rfl <| VO.lg rfl rfl (GD.f _) (fun hg => LO.not (.g hg rfl)) rfl <| VO.l (LO.pkO (.r rfl) (.r rfl) rfl rfl) rfl <| VO.nil ?_)
    refine VE.seqN ?_
    refine VC.cond rfl (fun h2 => ?_) (fun h2 => ?_)
    ·
      refine VC.seq ?_
      refine VC.reg (VO.l (LO.bd (ps := []) (vs := []) (C := [_, _, _, _]) B35 trivial rfl rfl) rfl <| VO.h0 <| HO.st 0 (vs := [_, _, _, _]) (C' := [_, _, _, _]) (L' := [_, _]) N35 rfl rfl rfl rfl rfl rfl rfl rfl <| VO.l (LO.as (.r rfl)) rfl <| VO.nil ?_)
      refine VE.seqN ?_
      refine VC.ret (VE.thenR (VE.res (vs := [_, _]) rfl ⟨RV.agg (vs := [_, _, _, _]) A35 rfl (cells_blk 0 rfl ⟨_, rfl⟩) rfl, rfl, trivial⟩ (fun w hw => ?_)))
      first | exact ⟨widA h1, hw.nil⟩ | exact ⟨widB h1 (by omega), hw.nil⟩ | exact ⟨widC hF (by omega), hw.nil⟩
    ·
      have hm := mulw (a := ch) (b := sec) (by omega) (by omega) (by omega) (by omega)
      have hmd := mulwd hm.1 hm.2
      refine VC.skip (VE.seqN ?_)
      refine VC.seq ?_
      refine VC.reg (VO.l (LO.mv (.r rfl)) rfl <| VO.l (LO.mv (.r rfl)) rfl <| VO.l (LO.mul (.r rfl) (.r rfl) (wi (by omega) (by omega))) rfl <| VO.l (LO.call (xs := [_, _]) (vs := [_, _]) C69 ⟨(.r rfl), (.r rfl), trivial⟩ (fun w _ => rUp_c _ _ (by omega) (by omega) (by omega) w)) rfl <| VO.l (LO.as (.r rfl)) rfl <| VO.nil ?_)
      refine VE.seqN ?_
      refine VC.seq ?_
      refine VC.reg (VO.l (LO.fa (r := 0) F35_0 (.r rfl) rfl) rfl <| VO.l (LO.fa (r := 0) F30_0 (.r rfl) rfl) rfl <| VO.l (LO.ld O3 (.r rfl) (fun _ hw => cells_at hw 1 rfl ⟨_, rfl⟩)) rfl <| VO.l (LO.mv (.r rfl)) rfl <| VO.l (LO.sub (.r rfl) (.r rfl) (wi (by omega) (by omega))) rfl <| VO.l (LO.max (.r rfl) (.r rfl)) rfl <| VO.l (LO.fa (r := 0) F35_0 (.r rfl) rfl) rfl <| VO.l (LO.fa (r := 1) F30_1 (.r rfl) rfl) rfl <| VO.l (LO.ld O3 (.r rfl) (fun _ hw => cells_at hw 1 rfl ⟨_, rfl⟩)) rfl <| VO.l (LO.mv (.r rfl)) rfl <| VO.l (LO.add (.r rfl) (.r rfl) (wi (by omega) (by omega))) rfl <| VO.l (LO.min (.r rfl) (.r rfl)) rfl <| VO.l (LO.bd (ps := [(_, _), (_, _)]) (vs := [(_, _), (_, _)]) (C := [_, _]) B30 ⟨(.r rfl), (.r rfl), trivial⟩ rfl ⟨_, [_], [_, _], rfl, rfl, rfl, rfl, ⟨_, [_], [_, _], rfl, rfl, rfl, rfl, rfl⟩⟩) rfl <| VO.l (LO.fa (r := 2) F35_1 (.r rfl) rfl) rfl <| VO.l (LO.fa (r := 2) F30_0 (.r rfl) rfl) rfl <| VO.l (LO.ld O3 (.r rfl) (fun _ hw => cells_at hw 1 rfl ⟨_, rfl⟩)) rfl <| VO.l (LO.mv (.r rfl)) rfl <| VO.l (LO.sub (.r rfl) (.r rfl) (wi (by omega) (by omega))) rfl <| VO.l (LO.max (.r rfl) (.r rfl)) rfl <| VO.l (LO.fa (r := 2) F35_1 (.r rfl) rfl) rfl <| VO.l (LO.fa (r := 3) F30_1 (.r rfl) rfl) rfl <| VO.l (LO.ld O3 (.r rfl) (fun _ hw => cells_at hw 1 rfl ⟨_, rfl⟩)) rfl <| VO.l (LO.mv (.r rfl)) rfl <| VO.l (LO.add (.r rfl) (.r rfl) (wi (by omega) (by omega))) rfl <| VO.l (LO.min (.r rfl) (.r rfl)) rfl <| VO.l (LO.bd (ps := [(_, _), (_, _)]) (vs := [(_, _), (_, _)]) (C := [_, _]) B30 ⟨(.r rfl), (.r rfl), trivial⟩ rfl ⟨_, [_], [_, _], rfl, rfl, rfl, rfl, ⟨_, [_], [_, _], rfl, rfl, rfl, rfl, rfl⟩⟩) rfl <| VO.l (LO.bd (ps := [(_, _), (_, _)]) (vs := [(_, _), (_, _)]) (C := [_, _, _, _]) B35 ⟨(.r rfl), (.r rfl), trivial⟩ rfl ⟨_, [_, _], [_, _, _, _], rfl, rfl, rfl, rfl, ⟨_, [_, _], [_, _, _, _], rfl, rfl, rfl, rfl, rfl⟩⟩) rfl <| VO.h0 <| HO.st 0 (vs := [_, _, _, _]) (C' := [_, _, _, _]) (L' := [_, _]) N35 rfl rfl rfl rfl rfl rfl rfl rfl <| VO.l (LO.as (.r rfl)) rfl <| VO.nil ?_)
      refine VE.seqN ?_
      refine VC.ret (VE.res (vs := [_, _]) rfl ⟨RV.agg (vs := [_, _, _, _]) A35 rfl (cells_blk 0 rfl ⟨_, rfl⟩) rfl, rfl, trivial⟩ (fun w hw => ?_))
      first | exact ⟨widA h1, hw.nil⟩ | exact ⟨widB h1 (by omega), hw.nil⟩ | exact ⟨widC hF (by omega), hw.nil⟩

set_option maxRecDepth 20000 in
theorem greater_c (a b : Int) (w : World) :
  Calls Try.prog 89 #[.int .i64 a, .int .i64 b] w fun e w' => e = .returned (.int .i64 (max a b)) ∧ St (bs w) [] w' := by
  refine enter (vs := [_, _]) (env := [(0, _), (1, _)]) Try.func89 rfl rfl rfl rfl ?_
  refine VC.seq ?_
  refine VC.reg (VO.l (LO.as (.r rfl)) rfl <| VO.nil ?_)
  refine VE.seqN ?_
  refine VC.seq ?_
  refine VC.reg (VO.l (LO.mv (.r rfl)) rfl <| VO.l (LO.mv (.r rfl)) rfl <| VO.l (LO.max (.r rfl) (.r rfl)) rfl <| VO.l (LO.as (.r rfl)) rfl <| VO.nil ?_)
  refine VE.seqN ?_
  refine VC.ret (VE.res (vs := [_]) rfl ⟨rfl, trivial⟩ (fun w hw => ?_))
  exact ⟨rfl, hw.nil⟩

set_option maxRecDepth 20000 in
theorem lesser_c (a b : Int) (w : World) :
  Calls Try.prog 90 #[.int .i64 a, .int .i64 b] w fun e w' => e = .returned (.int .i64 (min a b)) ∧ St (bs w) [] w' := by
  refine enter (vs := [_, _]) (env := [(0, _), (1, _)]) Try.func90 rfl rfl rfl rfl ?_
  refine VC.seq ?_
  refine VC.reg (VO.l (LO.as (.r rfl)) rfl <| VO.nil ?_)
  refine VE.seqN ?_
  refine VC.seq ?_
  refine VC.reg (VO.l (LO.mv (.r rfl)) rfl <| VO.l (LO.mv (.r rfl)) rfl <| VO.l (LO.min (.r rfl) (.r rfl)) rfl <| VO.l (LO.as (.r rfl)) rfl <| VO.nil ?_)
  refine VE.seqN ?_
  refine VC.ret (VE.res (vs := [_]) rfl ⟨rfl, trivial⟩ (fun w hw => ?_))
  exact ⟨rfl, hw.nil⟩

end Go.Proofs.Ytdcjeoamhjplmaa
