/-
  PulseSweeps is walked.
-/
import Derived.Test.YtcnlhifkablmkaaWT
namespace Go.Proofs.Ytcnlhifkablmkaa
open Go.SL Go.Proofs Go.Pulse
set_option linter.unusedVariables false

theorem B92 : Builds Try.prog 92 [(0, 1), (1, 1), (2, 1), (3, 1), (4, 1), (5, 1), (6, 1), (7, 1)] [.string ByteArray.empty, .int .i64 0, .int .i64 0, .int .i64 0, .int .i64 0, .int .i64 0, .int .i64 0, .int .i64 0] := Builds.mk fun _ => by kernel_rfl
theorem Z50 : ZeroOf Try.prog 50 (.slice none 0 0) := by unfold ZeroOf; kernel_rfl
theorem B95 : Builds Try.prog 95 [(0, 8), (8, 1), (9, 1), (10, 1)] [.string ByteArray.empty, .int .i64 0, .int .i64 0, .int .i64 0, .int .i64 0, .int .i64 0, .int .i64 0, .int .i64 0, .int .i64 0, .int .i64 0, .slice none 0 0] := Builds.mk fun _ => by kernel_rfl
theorem Z95 : ZeroOf Try.prog 95 (.agg #[.string ByteArray.empty, .int .i64 0, .int .i64 0, .int .i64 0, .int .i64 0, .int .i64 0, .int .i64 0, .int .i64 0, .int .i64 0, .int .i64 0, .slice none 0 0]) := by unfold ZeroOf; kernel_rfl
theorem N95 : (Try.prog.info? 95).map (·.size) = some 11 := by kernel_rfl
theorem A95 : IsAgg Try.prog 95 11 := ⟨⟨_, Try.underlying95, rfl⟩, by kernel_rfl⟩
theorem C43 : IsFn Try.prog 43 := ⟨_, Try.func43, by decide, rfl⟩
theorem C44 : IsFn Try.prog 44 := ⟨_, Try.func44, by decide, rfl⟩


def goodS : Site := ⟨⟨#[97]⟩, 0, 0, 0, 1, 1, 50, 0⟩
def qE : Echo := { zE with kind := 1 }
def goodR (b : Nat) : List ERow := [⟨some ⟨b, 0, none⟩, 1, [qE]⟩, ⟨some ⟨b, 0, none⟩, 1, [qE]⟩, ⟨some ⟨b, 0, none⟩, 1, [qE]⟩, ⟨some ⟨b, 0, none⟩, 1, [qE]⟩]
theorem good_site : siteE goodS = 0 := by decide +kernel
theorem good_mem {b : Nat} {x : ERow} (h : x ∈ goodR b) : x = ⟨some ⟨b, 0, none⟩, 1, [qE]⟩ := by
  unfold goodR at h
  simp at h
  exact h
theorem q_row : rowE [qE] = 0 := by decide +kernel
theorem good_E (b : Nat) : sweepE goodS 0 0 (goodR b) = 0 := by
  rw [sw5 (fun q => q good_site) (by omega) (fun q => q rfl)]
  · refine rows_0 fun k hk => ?_
    rw [good_mem (getD_mem (d := zRE) hk)]
    exact q_row
  · intro j hj
    rw [good_mem (getD_mem (d := zRE) hj)]
    rfl
theorem none_E : sweepE goodS 0 0 [] = 11 := sw3 (fun q => q good_site) (by omega) (by decide)
theorem good_c (w : World) (b1 b2 : Nat) (h1 : Cells w ⟨b1, 0, none⟩ (echoC qE)) (h2 : Cells w ⟨b2, 0, none⟩ [.slice (some ⟨b1, 0, none⟩) 1 1, .slice (some ⟨b1, 0, none⟩) 1 1, .slice (some ⟨b1, 0, none⟩) 1 1, .slice (some ⟨b1, 0, none⟩) 1 1]) :
    Calls Try.prog 43 #[.agg (sweepC goodS 0 0 (some ⟨b2, 0, none⟩) 4 4).toArray] w fun e w' => e = .returned (.int .i64 0) ∧ St (bs w) [] w' := by
  have h := CheckSweep_c goodS 0 0 (goodR b1) (some ⟨b2, 0, none⟩) 4 w (show 4 ≤ 200 by decide) (fun x hx => by rw [good_mem hx]; exact (show 1 ≤ 60 by decide)) ⟨RO.ofC (f := rowC) (fun _ => rfl) h2, fun x hx => by
    rw [good_mem hx]
    exact ⟨Nat.le_refl _, RO.ofC (f := echoC) (l := [qE]) (fun _ => rfl) h1⟩⟩
  rw [good_E] at h
  exact h
theorem none_c (w : World) : Calls Try.prog 43 #[.agg (sweepC goodS 0 0 none 0 0).toArray] w fun e w' => e = .returned (.int .i64 11) ∧ St (bs w) [] w' := by
  have h := CheckSweep_c goodS 0 0 [] none 0 w (by decide) (fun x hx => by cases hx) ⟨RO.ofNil rfl rfl, fun x hx => by cases hx⟩
  rw [none_E] at h
  exact h

set_option maxRecDepth 20000 in
theorem PulseSweeps_c (s : Site) (ti tm : Int) (rs : List ERow) (p : Option Addr) (c : Nat) (w : World) (hl : ERows w p rs) :
  Calls Try.prog 14 #[.agg (sweepC s ti tm p rs.length c).toArray] w fun e w' => e = .returned (.bool true) ∧ St (bs w) [] w' := by
  refine enter (vs := [_]) (env := [(0, _)]) Try.func14 rfl rfl rfl rfl ?_
  refine VC.seq ?_
  refine VC.reg (VO.h rfl <| HO.box (C := #[_, _, _, _, _, _, _, _, _, _, _]) rfl rfl fun b1 => VO.l (LO.as (.r rfl)) rfl <| VO.nil ?_)
  refine VE.seqN ?_
  refine VC.seq ?_
  refine VC.seq ?_
  refine VC.reg (VO.l (LO.fa (r := 10) F95_3 (.r rfl) rfl) rfl <| VO.l (LO.ld O93 (.r rfl) (fun _ hw => cells_at hw 0 rfl ⟨_, rfl⟩)) rfl <| VO.l (LO.len S93 (.r rfl) rfl) rfl <| VO.l (LO.gt (.r rfl) (.r rfl)) rfl <| VO.l (LO.mv (.r rfl)) rfl <| VO.lg rfl rfl (GD.f _) (fun hg => LO.fa (r := 0) F95_0 (.r rfl) rfl) rfl <| VO.lg rfl rfl (GD.f _) (fun hg => LO.fa (r := 0) F92_0 (.g hg rfl) rfl) rfl <| VO.lg rfl rfl (GD.f _) (fun hg => LO.ld O9 (.g hg rfl) (fun _ hw => cells_at hw 0 rfl ⟨_, rfl⟩)) rfl <| VO.lg rfl rfl (GD.f _) (fun hg => LO.lenS Try.underlying9 (.g hg rfl) rfl) rfl <| VO.lg rfl rfl (GD.f _) (fun hg => LO.gt (.g hg rfl) (.r rfl)) rfl <| VO.l (LO.pkO (.r rfl) (.r rfl) rfl rfl) rfl <| VO.nil ?_)
  refine VE.seqN ?_
  refine VC.cond rfl (fun h16 => ?_) (fun h16 => ?_)
  ·
    refine VC.seq ?_
    refine VC.reg (VO.l (LO.call (xs := []) (vs := []) C15 trivial (fun w _ => works_c w)) rfl <| VO.l (LO.as (.r rfl)) rfl <| VO.nil ?_)
    refine VE.seqN ?_
    refine VC.ret (VE.thenR (VE.res (vs := [_]) rfl ⟨rfl, trivial⟩ (fun w hw => ?_)))
    first | exact ⟨rfl, hw.nil⟩ | exact ⟨by simp [resV], hw.nil⟩
  ·
    refine VC.skip (VE.seqN ?_)
    refine VC.seq ?_
    refine VC.seq ?_
    refine VC.reg (VO.l (LO.as (.r rfl)) rfl <| VO.nil ?_)
    refine VE.seqN ?_
    refine VC.block ?_
    refine VC.loopK (α := Nat) 0 (fun gx => [(3, .int .i64 (gx : Nat))]) [(1, _)] (fun gx => []) (fun gx => gx ≤ rs.length ∧ ∀ k, k < gx → (rs.getD k zRE).l.length ≤ 60) (fun gx => rs.length - gx) 0 (by exact ⟨Nat.zero_le _, fun k hk => by omega⟩) (.cons rfl (.cons rfl .nil)) (fun _ h => h) ?_
    rintro i ⟨hi, hz⟩
    refine VC.seq ?_
    refine VC.seq ?_
    refine VC.reg (VO.l (LO.mv (.r rfl)) rfl <| VO.l (LO.fa (r := 10) F95_3 (.r rfl) rfl) rfl <| VO.l (LO.ld O93 (.r rfl) (fun _ hw => cells_at hw 0 rfl ⟨_, rfl⟩)) rfl <| VO.l (LO.len S93 (.r rfl) rfl) rfl <| VO.l (LO.lt (.r rfl) (.r rfl)) rfl <| VO.nil ?_)
    refine VE.seqN ?_
    refine VC.cond rfl (fun h2 => ?_) (fun h2 => ?_)
    ·
      refine VC.skip (VE.seqN ?_)
      refine VC.seq ?_
      refine VC.block ?_
      refine VC.seq ?_
      refine VC.reg (VO.l (LO.fa (r := 10) F95_3 (.r rfl) rfl) rfl <| VO.l (LO.ld O93 (.r rfl) (fun _ hw => cells_at hw 0 rfl ⟨_, rfl⟩)) rfl <| VO.l (LO.mv (.r rfl)) rfl <| VO.l (LO.ixs S93 N50 hl.1.sm (.r rfl) (.r rfl) rfl (by omega)) rfl <| VO.l (LO.ld O50 (.r rfl) (fun w hw => cells_part (off := 0) ((hl.1.at zRE (j := i) (by omega)) w hw) ⟨_, rfl⟩)) rfl <| VO.l (LO.len S50 (.r rfl) rfl) rfl <| VO.l (LO.gt (.r rfl) (.r rfl)) rfl <| VO.nil ?_)
      refine VE.seqN ?_
      refine VC.cond rfl (fun h31 => ?_) (fun h31 => ?_)
      ·
        refine VC.seq ?_
        refine VC.reg (VO.l (LO.call (xs := []) (vs := []) C15 trivial (fun w _ => works_c w)) rfl <| VO.l (LO.as (.r rfl)) rfl <| VO.nil ?_)
        refine VE.seqN ?_
        refine VC.ret (VE.inR (VE.thenR (VE.thenR (VE.inR (VE.thenR (VE.res (vs := [_]) rfl ⟨rfl, trivial⟩ (fun w hw => ?_)))))))
        first | exact ⟨rfl, hw.nil⟩ | exact ⟨by simp [resV], hw.nil⟩
      ·
        refine VC.skip (VE.inN (VE.seqN ?_))
        refine VC.reg (VO.l (LO.mv (.r rfl)) rfl <| VO.l (LO.add (.r rfl) (.r rfl) (wi (by omega) (by omega))) rfl <| VO.l (LO.as (.r rfl)) rfl <| VO.nil ?_)
        refine VE.thenN fun a w ha hw => ⟨i + 1, ⟨by omega, all_step2 (f := fun k => (rs.getD k zRE).l.length ≤ 60) hz (by omega)⟩, (by omega), ha.sub (.cons rfl (.cons rfl .nil)), hw⟩
    ·
      refine VC.exit (VE.thenX (VE.thenX (VE.inX (VE.seqN ?_))))
      refine VC.seq ?_
      have hm60 : ∀ x ∈ rs, x.l.length ≤ 60 := fun x hx => by
        obtain ⟨k, hk, rfl⟩ := mem_getD (d := zRE) hx
        exact hz k (by omega)
      refine VC.reg (VO.l (LO.bd (ps := [(_, _)]) (vs := [(_, _)]) (C := [_, _, _, _, _, _, _, _, _, _, _, _, _, _]) B32  ⟨(.r rfl), trivial⟩ rfl ⟨_, [_], [_, _, _, _, _, _, _, _, _, _, _, _, _, _], rfl, rfl, rfl, rfl, rfl⟩) rfl <| VO.h rfl <| HO.bs (ps := [(_, _)]) (vs := [(_, _)]) (Z := [_, _, _, _, _, _, _, _, _, _, _, _, _, _]) (C := [_, _, _, _, _, _, _, _, _, _, _, _, _, _]) S50 Z32 N32 ⟨(.r rfl), trivial⟩ rfl rfl rfl rfl ⟨_, [_, _, _, _, _, _, _, _, _, _, _, _, _, _], [_, _, _, _, _, _, _, _, _, _, _, _, _, _], rfl, rfl, rfl, rfl, rfl⟩ fun b2 => VO.h rfl <| HO.lo (LO.as (.r rfl)) <| VO.nil ?_)
      refine VE.seqN ?_
      refine VC.seq ?_
      refine VC.reg (VO.l (LO.bd (ps := [(_, _), (_, _), (_, _), (_, _)]) (vs := [(_, _), (_, _), (_, _), (_, _)]) (C := [_, _, _, _, _, _, _, _]) B92  ⟨(.r rfl), (.r rfl), (.r rfl), (.r rfl), trivial⟩ rfl ⟨_, [_], [_, _, _, _, _, _, _, _], rfl, rfl, rfl, rfl, ⟨_, [_], [_, _, _, _, _, _, _, _], rfl, rfl, rfl, rfl, ⟨_, [_], [_, _, _, _, _, _, _, _], rfl, rfl, rfl, rfl, ⟨_, [_], [_, _, _, _, _, _, _, _], rfl, rfl, rfl, rfl, rfl⟩⟩⟩⟩) rfl <| VO.l (LO.mv (.r rfl)) rfl <| VO.l (LO.mv (.r rfl)) rfl <| VO.l (LO.mv (.r rfl)) rfl <| VO.l (LO.mv (.r rfl)) rfl <| VO.h rfl <| HO.bs (ps := [(_, _), (_, _), (_, _), (_, _)]) (vs := [(_, _), (_, _), (_, _), (_, _)]) (Z := [_, _, _, _]) (C := [_, _, _, _]) S93 Z50 N50 ⟨(.r rfl), (.r rfl), (.r rfl), (.r rfl), trivial⟩ rfl rfl rfl rfl ⟨_, [_], [_, _, _, _], rfl, rfl, rfl, rfl, ⟨_, [_], [_, _, _, _], rfl, rfl, rfl, rfl, ⟨_, [_], [_, _, _, _], rfl, rfl, rfl, rfl, ⟨_, [_], [_, _, _, _], rfl, rfl, rfl, rfl, rfl⟩⟩⟩⟩ fun b3 => VO.h rfl <| HO.lo (LO.bd (ps := [(_, _), (_, _)]) (vs := [(_, _), (_, _)]) (C := [_, _, _, _, _, _, _, _, _, _, _]) B95  ⟨(.r rfl), (.r rfl), trivial⟩ rfl ⟨_, [_, _, _, _, _, _, _, _], [_, _, _, _, _, _, _, _, _, _, _], rfl, rfl, rfl, rfl, ⟨_, [_], [_, _, _, _, _, _, _, _, _, _, _], rfl, rfl, rfl, rfl, rfl⟩⟩) <| VO.h rfl <| HO.alloc (C := #[_, _, _, _, _, _, _, _, _, _, _]) Z95 rfl fun b4 => VO.h0 <| HO.st 0 (vs := [_, _, _, _, _, _, _, _, _, _, _]) (C' := [_, _, _, _, _, _, _, _, _, _, _]) (L' := [_, _, _, _]) N95 rfl rfl rfl rfl rfl rfl rfl rfl <| VO.nil ?_)
      refine VE.seqN ?_
      refine VC.seq ?_
      refine VC.draw mixed (LL.l (LO.lda (vs := [_, _, _, _, _, _, _, _, _, _, _]) A95 (.r rfl) (fun _ hw => cells_at hw 3 rfl ⟨_, rfl⟩) rfl) rfl <| LL.l (LO.call (xs := [_]) (vs := [_]) C43 ⟨(.r rfl), trivial⟩ (fun w hw => CheckSweep_c s ti tm rs p c w (by omega) hm60 (hl.keep w hw))) rfl <| LL.l (LO.lda (vs := [_, _, _, _, _, _, _, _, _, _, _]) A95 (.r rfl) (fun _ hw => cells_at hw 3 rfl ⟨_, rfl⟩) rfl) rfl <| LL.l (LO.call (xs := [_]) (vs := [_]) C44 ⟨(.r rfl), trivial⟩ (fun w hw => rCheckSweep_c s ti tm rs p c w (by omega) hm60 (hl.keep w hw))) rfl <| LL.l (LO.eq (.r rfl) (.r rfl)) rfl <| LL.l (LO.mv (.r rfl)) rfl <| LL.lg rfl rfl (GD.t _) (fun hg => LO.lda (vs := [_, _, _, _, _, _, _, _, _, _, _]) A95 (.r rfl) (fun _ hw => cells_at hw 0 rfl ⟨_, rfl⟩) rfl) rfl <| LL.lg rfl rfl (GD.t _) (fun hg => LO.call (xs := [_]) (vs := [_]) C43 ⟨(.g hg rfl), trivial⟩ (fun w hw => good_c w b2 b3 (cells_at hw 2 rfl ⟨[], rfl⟩) (cells_at hw 1 rfl ⟨[], rfl⟩))) rfl <| LL.lg rfl rfl (GD.t _) (fun hg => LO.eq (.g hg rfl) (.r rfl)) rfl <| LL.l (LO.pkA (.r rfl) rfl rfl (.r rfl)) rfl <| LL.l (LO.mv (.r rfl)) rfl <| LL.lg rfl rfl (GD.t _) (fun hg => LO.fa (r := 0) F95_0 (.r rfl) rfl) rfl <| LL.lg rfl rfl (GD.t _) (fun hg => LO.lda (vs := [_, _, _, _, _, _, _, _]) A92 (.g hg rfl) (fun _ hw => cells_at hw 0 rfl ⟨_, rfl⟩) rfl) rfl <| LL.lg rfl rfl (GD.t _) (fun hg => LO.bd (ps := [(_, _)]) (vs := [(_, _)]) (C := [_, _, _, _, _, _, _, _, _, _, _]) B95  ⟨(.g hg rfl), trivial⟩ rfl ⟨_, [_, _, _, _, _, _, _, _], [_, _, _, _, _, _, _, _, _, _, _], rfl, rfl, rfl, rfl, rfl⟩) rfl <| LL.lg rfl rfl (GD.t _) (fun hg => LO.call (xs := [_]) (vs := [_]) C43 ⟨(.g hg rfl), trivial⟩ (fun w _ => none_c w)) rfl <| LL.lg rfl rfl (GD.t _) (fun hg => LO.eq (.g hg rfl) (.r rfl)) rfl <| LL.l (LO.pkA (.r rfl) rfl rfl (.r rfl)) rfl <| LL.l (LO.mv (.r rfl)) rfl <| LL.lg rfl rfl (GD.t _) (fun hg => LO.call (xs := []) (vs := []) C15 trivial (fun w _ => works_c w)) rfl <| LL.l (LO.pkA (.r rfl) rfl rfl (.r rfl)) rfl <| LL.l (LO.as (.r rfl)) rfl <| LL.nil) (by kernel_rfl) ?_
      refine VE.seqN ?_
      refine VC.ret (VE.res (vs := [_]) rfl ⟨rfl, trivial⟩ (fun w hw => ?_))
      first | exact ⟨rfl, hw.nil⟩ | exact ⟨by simp [resV], hw.nil⟩

end Go.Proofs.Ytcnlhifkablmkaa
