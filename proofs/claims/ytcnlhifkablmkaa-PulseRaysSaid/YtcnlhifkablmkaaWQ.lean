/-
  PulseRays is walked.
-/
import Derived.Test.YtcnlhifkablmkaaWP
namespace Go.Proofs.Ytcnlhifkablmkaa
open Go.SL Go.Proofs Go.Pulse
set_option linter.unusedVariables false

theorem Z39 : ZeroOf Try.prog 39 (.slice none 0 0) := by unfold ZeroOf; kernel_rfl
theorem I39 : EInfo Try.prog 39 1 24 (.slice none 0 0) := ⟨by kernel_rfl, by kernel_rfl, by unfold ZeroOf; kernel_rfl, rfl, by decide⟩
theorem C21 : IsFn Try.prog 21 := ⟨_, Try.func21, by decide, rfl⟩
theorem C22 : IsFn Try.prog 22 := ⟨_, Try.func22, by decide, rfl⟩


set_option maxRecDepth 20000 in
set_option maxHeartbeats 4000000 in
theorem PulseRays_c (t : Train) (r : Recv) (rs : List SRow) (p : Option Addr) (c : Nat) (w : World) (hl : SRows w p rs) :
  Calls Try.prog 5 #[trainV t, recvV r, .slice p rs.length c] w fun e w' => e = .returned (.bool true) ∧ St (bs w) [] w' := by
  refine enter (vs := [_, _, _]) (env := [(0, _), (1, _), (2, _)]) Try.func5 rfl rfl rfl rfl ?_
  refine VC.seq ?_
  refine VC.reg (VO.h rfl <| HO.box (C := #[_, _, _, _, _]) rfl rfl fun b1 => VO.h rfl <| HO.box (C := #[_, _, _, _]) rfl rfl fun b2 => VO.l (LO.as (.r rfl)) rfl <| VO.nil ?_)
  refine VE.seqN ?_
  refine VC.seq ?_
  refine VC.seq ?_
  refine VC.reg (VO.l (LO.mv (.r rfl)) rfl <| VO.l (LO.len S48 (.r rfl) rfl) rfl <| VO.l (LO.gt (.r rfl) (.r rfl)) rfl <| VO.l (LO.mv (.r rfl)) rfl <| VO.lg rfl rfl (GD.t _) (fun hg => LO.mv (.r rfl)) rfl <| VO.lg rfl rfl (GD.t _) (fun hg => LO.len S48 (.g hg rfl) rfl) rfl <| VO.lg rfl rfl (GD.t _) (fun hg => LO.le (.g hg rfl) (.r rfl)) rfl <| VO.l (LO.pkA (.r rfl) rfl rfl (.r rfl)) rfl <| VO.l (LO.mv (.r rfl)) rfl <| VO.lg rfl rfl (GD.f _) (fun hg => LO.mv (.r rfl)) rfl <| VO.lg rfl rfl (GD.f _) (fun hg => LO.len S48 (.g hg rfl) rfl) rfl <| VO.lg rfl rfl (GD.f _) (fun hg => LO.gt (.g hg rfl) (.r rfl)) rfl <| VO.l (LO.pkO (.r rfl) (.r rfl) rfl rfl) rfl <| VO.nil ?_)
  refine VE.seqN ?_
  refine VC.cond rfl (fun h26 => ?_) (fun h26 => ?_)
  ·
    refine VC.seq ?_
    refine VC.reg (VO.l (LO.call (xs := []) (vs := []) C15 trivial (fun w _ => works_c w)) rfl <| VO.l (LO.as (.r rfl)) rfl <| VO.nil ?_)
    refine VE.seqN ?_
    refine VC.ret (VE.thenR (VE.res (vs := [_]) rfl ⟨rfl, trivial⟩ (fun w hw => ?_)))
    first | exact ⟨rfl, hw.nil⟩
  ·
    refine VC.skip (VE.seqN ?_)
    refine VC.seq ?_
    refine VC.reg (VO.l (LO.as (.r rfl)) rfl <| VO.nil ?_)
    refine VE.seqN ?_
    refine VC.seq ?_
    refine VC.seq ?_
    refine VC.reg (VO.l (LO.as (.r rfl)) rfl <| VO.nil ?_)
    refine VE.seqN ?_
    refine VC.block ?_
    refine VC.loopK (α := Nat × (List SRow) × (Option Addr) × Nat) 0 (fun gx => [(7, .slice gx.2.2.1 gx.2.1.length gx.2.2.2), (8, .int .i64 (gx.1 : Nat))]) [(2, _), (3, _), (4, _)] (fun gx => [own 39 1 gx.2.2.1 gx.2.2.2 (gx.2.1.map rowC), bagR 101 4 smpC gx.2.1]) (fun gx => gx.1 ≤ rs.length ∧ lss gx.2.1 = lss (rs.take gx.1) ∧ ∀ k, k < gx.1 → (rs.getD k zR).l.length ≤ 70) (fun gx => rs.length - gx.1) (0, [], none, 0) (by exact ⟨Nat.zero_le _, rfl, fun k hk => by omega⟩) (.cons rfl (.cons rfl (.cons rfl (.cons rfl (.cons rfl .nil))))) (fun _ h => ((h.bagRNil 101 4 smpC).ownNil 39 1)) ?_
    rintro ⟨i, xs, px, cx⟩ ⟨hi, hX, hz⟩
    show VC _ _ _ _ _ ([(7, .slice px xs.length cx), (8, .int .i64 (i : Nat))] ++ _) ([own 39 1 px cx (xs.map rowC), bagR 101 4 smpC xs] ++ _) _ _
    dsimp only at hi hX hz
    have hxl : xs.length = i := by rw [← lss_len, hX, lss_len, List.length_take]; omega
    refine VC.seq ?_
    refine VC.seq ?_
    refine VC.reg (VO.l (LO.mv (.r rfl)) rfl <| VO.l (LO.mv (.r rfl)) rfl <| VO.l (LO.len S48 (.r rfl) rfl) rfl <| VO.l (LO.lt (.r rfl) (.r rfl)) rfl <| VO.nil ?_)
    refine VE.seqN ?_
    refine VC.cond rfl (fun h2 => ?_) (fun h2 => ?_)
    ·
      refine VC.skip (VE.seqN ?_)
      refine VC.seq ?_
      refine VC.block ?_
      refine VC.seq ?_
      refine VC.seq ?_
      have hrow := row_at hl (i := i) (by omega)
      refine VC.reg (VO.l (LO.mv (.r rfl)) rfl <| VO.l (LO.mv (.r rfl)) rfl <| VO.l (LO.ixs S48 N28 hl.1.sm (.r rfl) (.r rfl) rfl (by omega)) rfl <| VO.l (LO.ld O28 (.r rfl) (fun w hw => cells_part (off := 0) ((hl.1.at zR (j := i) (by omega)) w hw) ⟨_, rfl⟩)) rfl <| VO.l (LO.len S28 (.r rfl) rfl) rfl <| VO.l (LO.gt (.r rfl) (.r rfl)) rfl <| VO.nil ?_)
      refine VE.seqN ?_
      refine VC.cond rfl (fun h39 => ?_) (fun h39 => ?_)
      ·
        refine VC.seq ?_
        refine VC.reg (VO.l (LO.call (xs := []) (vs := []) C15 trivial (fun w _ => works_c w)) rfl <| VO.l (LO.as (.r rfl)) rfl <| VO.nil ?_)
        refine VE.seqN ?_
        refine VC.ret (VE.thenR (VE.inR (VE.thenR (VE.thenR (VE.inR (VE.thenR (VE.res (vs := [_]) rfl ⟨rfl, trivial⟩ (fun w hw => ?_))))))))
        first | exact ⟨rfl, hw.nil⟩
      ·
        refine VC.skip (VE.seqN ?_)
        refine VC.reg (VO.l (LO.mv (.r rfl)) rfl <| VO.l (LO.mv (.r rfl)) rfl <| VO.l (LO.mv (.r rfl)) rfl <| VO.l (LO.ixs S48 N28 hl.1.sm (.r rfl) (.r rfl) rfl (by omega)) rfl <| VO.l (LO.ld O28 (.r rfl) (fun w hw => cells_part (off := 0) ((hl.1.at zR (j := i) (by omega)) w hw) ⟨_, rfl⟩)) rfl <| VO.h rfl <| HO.callx (xs := [_]) (vs := [_]) C18 ⟨(.r rfl), trivial⟩ (fun w hw => samples_c (rs.getD i zR).l _ _ w (by omega) (hrow.2.keep w hw)) fun q _ => VO.h rfl <| HO.bs (ps := [(_, _)]) (vs := [(_, _)]) (Z := [_]) (C := [_]) S49 Z39 N39 ⟨(.r rfl), trivial⟩ rfl rfl rfl rfl ⟨_, [_], [_], rfl, rfl, rfl, rfl, rfl⟩ fun b6 => VO.h rfl <| HO.appT ((⟨q.1, q.2, (rs.getD i zR).l⟩ : SRow)) 2 0 (fun R => [_, _, R, _, _, _]) S49 S49 I39 (.r rfl) (.r rfl) rfl rfl rfl rfl rfl rfl rfl (fun _ => rfl) rfl (by omega) fun p7 c7 => VO.h rfl <| HO.lo (LO.as (.r rfl)) <| VO.nil ?_)
        refine VE.inN (VE.seqN ?_)
        refine VC.reg (VO.l (LO.mv (.r rfl)) rfl <| VO.l (LO.add (.r rfl) (.r rfl) (wi (by omega) (by omega))) rfl <| VO.l (LO.as (.r rfl)) rfl <| VO.nil ?_)
        refine VE.thenN fun a w ha hw => ⟨(i + 1, xs ++ [(⟨q.1, q.2, (rs.getD i zR).l⟩ : SRow)], p7, c7), ⟨by dsimp only; omega, by dsimp only; rw [take_at (getD_some (d := zR) (by omega)), lss_app, lss_app, hX]; rfl, row_step hz (by omega)⟩, (by dsimp only; omega), ha.sub (.cons rfl (.cons rfl (.cons rfl (.cons rfl (.cons rfl .nil))))), ((hw.sel [1, 3, 2, 4, 5] rfl).bagRIn (x := (⟨q.1, q.2, (rs.getD i zR).l⟩ : SRow))).sel [1, 0, 2, 3] rfl⟩
    ·
      refine VC.exit (VE.thenX (VE.thenX (VE.inX (VE.seqN ?_))))
      refine VC.seq ?_
      have hi2 : i = rs.length := by omega
      subst hi2
      have hsm := all_row hz
      have hXl : lss xs = lss rs := by rw [hX, List.take_length]
      have hxr : xs.length = rs.length := by rw [← lss_len, hXl, lss_len]
      have hsm2 := all_row2 hsm hXl
      have hrl := rayX_len (t := t) (r := r) (rs := rs)
      have hrl2 := rayX_len (t := t) (r := r) (rs := xs)
      refine VC.reg (VO.l (LO.lda (vs := [_, _, _, _, _]) A23 (.r rfl) (fun _ hw => cells_at hw 3 rfl ⟨_, rfl⟩) rfl) rfl <| VO.l (LO.lda (vs := [_, _, _, _]) A27 (.r rfl) (fun _ hw => cells_at hw 2 rfl ⟨_, rfl⟩) rfl) rfl <| VO.l (LO.mv (.r rfl)) rfl <| VO.h rfl <| HO.callx (xs := [_, _, _]) (vs := [_, _, _]) C21 ⟨(.r rfl), (.r rfl), (.r rfl), trivial⟩ (fun w hw => Ray_c t r rs p c w (by omega) (fun x hx => by have := hsm x hx; omega) (hl.keep w hw)) fun qx _ => VO.h rfl <| HO.lo (LO.mv (.r rfl)) <| VO.h rfl <| HO.lo (LO.ex (.r rfl) rfl) <| VO.h rfl <| HO.lo (LO.ex (.r rfl) rfl) <| VO.h rfl <| HO.lo (LO.as (.r rfl)) <| VO.h rfl <| HO.lo (LO.as (.r rfl)) <| VO.nil ?_)
      refine VE.seqN ?_
      refine VC.seq ?_
      refine VC.reg (VO.l (LO.lda (vs := [_, _, _, _, _]) A23 (.r rfl) (fun _ hw => cells_at hw 4 rfl ⟨_, rfl⟩) rfl) rfl <| VO.l (LO.lda (vs := [_, _, _, _]) A27 (.r rfl) (fun _ hw => cells_at hw 3 rfl ⟨_, rfl⟩) rfl) rfl <| VO.l (LO.mv (.r rfl)) rfl <| VO.h rfl <| HO.callx (xs := [_, _, _]) (vs := [_, _, _]) C22 ⟨(.r rfl), (.r rfl), (.r rfl), trivial⟩ (fun w hw => rRay_c t r xs _ _ w (by omega) (fun x hx => by have := hsm2 x hx; omega) (RR.of_own hw 1 2 rfl rfl)) fun qy _ => VO.l (LO.mv (.r rfl)) rfl <| VO.l (LO.ex (.r rfl) rfl) rfl <| VO.l (LO.ex (.r rfl) rfl) rfl <| VO.l (LO.as (.r rfl)) rfl <| VO.l (LO.as (.r rfl)) rfl <| VO.nil ?_)
      refine VE.seqN ?_
      refine VC.seq ?_
      refine VC.seq ?_
      refine VC.reg (VO.l (LO.mv (.r rfl)) rfl <| VO.l (LO.mv (.r rfl)) rfl <| VO.l (LO.ne (.r rfl) (.r rfl)) rfl <| VO.l (LO.mv (.r rfl)) rfl <| VO.lg rfl rfl (GD.f _) (fun hg => LO.mv (.r rfl)) rfl <| VO.lg rfl rfl (GD.f _) (fun hg => LO.len S50 (.g hg rfl) rfl) rfl <| VO.lg rfl rfl (GD.f _) (fun hg => LO.mv (.r rfl)) rfl <| VO.lg rfl rfl (GD.f _) (fun hg => LO.len S50 (.g hg rfl) rfl) rfl <| VO.lg rfl rfl (GD.f _) (fun hg => LO.ne (.g hg rfl) (.g hg rfl)) rfl <| VO.l (LO.pkO (.r rfl) (.r rfl) rfl rfl) rfl <| VO.nil ?_)
      refine VE.seqN ?_
      refine VC.cond rfl (fun h72 => ?_) (fun h72 => ?_)
      ·
        (exfalso; (rw [hXl] at h72; simp at h72))
      ·
        refine VC.skip (VE.seqN ?_)
        refine VC.seq ?_
        refine VC.seq ?_
        refine VC.reg (VO.l (LO.as (.r rfl)) rfl <| VO.nil ?_)
        refine VE.seqN ?_
        refine VC.block ?_
        refine VC.loopK (α := Nat) 0 (fun gx => [(13, .int .i64 (gx : Nat))]) [(9, _), (11, _)] (fun gx => []) (fun gx => gx ≤ (rayX t r (lss rs)).length) (fun gx => (rayX t r (lss rs)).length - gx) 0 (by exact Nat.zero_le _) (.cons rfl (.cons rfl (.cons rfl .nil))) (fun _ h => h) ?_
        rintro j hj
        refine VC.seq ?_
        refine VC.seq ?_
        refine VC.reg (VO.l (LO.mv (.r rfl)) rfl <| VO.l (LO.mv (.r rfl)) rfl <| VO.l (LO.len S50 (.r rfl) rfl) rfl <| VO.l (LO.lt (.r rfl) (.r rfl)) rfl <| VO.nil ?_)
        refine VE.seqN ?_
        refine VC.cond rfl (fun h5 => ?_) (fun h5 => ?_)
        ·
          refine VC.skip (VE.seqN ?_)
          refine VC.seq ?_
          refine VC.block ?_
          refine VC.seq ?_
          refine VC.draw mixed (LL.l (LO.mv (.r rfl)) rfl <| LL.l (LO.mv (.r rfl)) rfl <| LL.l (LO.ixo S50 N32 (fun _ hw => (own_rows hw 1 rfl).some (by simp)) (.r rfl) (.r rfl) rfl (by omega)) rfl <| LL.l (LO.lda (vs := [_, _, _, _, _, _, _, _, _, _, _, _, _, _]) A32 (.r rfl) (fun w hw => cells_part (off := 0) (own_cell hw 1 rfl (getD_some (d := zE) (by omega))) ⟨_, rfl⟩) rfl) rfl <| LL.l (LO.mv (.r rfl)) rfl <| LL.l (LO.mv (.r rfl)) rfl <| LL.l (LO.ixo S50 N32 (fun _ hw => (own_rows hw 0 rfl).some (by simp)) (.r rfl) (.r rfl) rfl (by omega)) rfl <| LL.l (LO.lda (vs := [_, _, _, _, _, _, _, _, _, _, _, _, _, _]) A32 (.r rfl) (fun w hw => cells_part (off := 0) (own_cell hw 0 rfl (getD_some (d := zE) (by omega))) ⟨_, rfl⟩) rfl) rfl <| LL.l (LO.neA («as» := [_, _, _, _, _, _, _, _, _, _, _, _, _, _]) (bs := [_, _, _, _, _, _, _, _, _, _, _, _, _, _]) EA32 (.r rfl) (.r rfl) rfl rfl) rfl <| LL.nil) (by kernel_rfl) ?_
          refine VE.seqN ?_
          refine VC.cond rfl (fun h87 => ?_) (fun h87 => ?_)
          ·
            (exfalso; (rw [hXl] at h87; simp at h87))
          ·
            refine VC.skip (VE.inN (VE.seqN ?_))
            refine VC.reg (VO.l (LO.mv (.r rfl)) rfl <| VO.l (LO.add (.r rfl) (.r rfl) (wi (by omega) (by omega))) rfl <| VO.l (LO.as (.r rfl)) rfl <| VO.nil ?_)
            refine VE.thenN fun a w ha hw => ⟨j + 1, (by omega), (by omega), ha.sub (.cons rfl (.cons rfl (.cons rfl .nil))), hw⟩
        ·
          refine VC.exit (VE.thenX (VE.thenX (VE.inX (VE.seqN ?_))))
          refine VC.seq ?_
          refine VC.reg (VO.l (LO.call (xs := []) (vs := []) C15 trivial (fun w _ => works_c w)) rfl <| VO.l (LO.as (.r rfl)) rfl <| VO.nil ?_)
          refine VE.seqN ?_
          refine VC.ret (VE.res (vs := [_]) rfl ⟨rfl, trivial⟩ (fun w hw => ?_))
          first | exact ⟨rfl, hw.nil⟩

end Go.Proofs.Ytcnlhifkablmkaa
