/-
  PulseTurned is walked.
-/
import Derived.Test.YtcnlhifkablmkaaP5
namespace Go.Proofs.Ytcnlhifkablmkaa
open Go.SL Go.Proofs Go.Pulse
set_option linter.unusedVariables false

theorem C20 : IsFn Try.prog 20 := ⟨_, Try.func20, by decide, rfl⟩
theorem N30 : (Try.prog.info? 30).map (·.size) = some 4 := by kernel_rfl


set_option maxRecDepth 20000 in
theorem turned2_c (x s : Span) (w : World) (z0 : x.lo ≤ x.hi) (z1 : -1000000 ≤ x.lo) (z2 : x.hi ≤ 1000000) (h : ∃ k : Int, (-2 ≤ k ∧ k ≤ 2) ∧ s.lo ≤ x.lo + k * 65536 ∧ x.hi + k * 65536 ≤ s.hi) :
  Calls Try.prog 57 #[spanV x, spanV s] w fun e w' => e = .returned (.bool true) ∧ St (bs w) [] w' := by
  obtain ⟨k, hk, hk1, hk2⟩ := h
  refine enter (vs := [_, _]) (env := [(0, _), (1, _)]) Try.func57 rfl rfl rfl rfl ?_
  refine VC.seq ?_
  refine VC.reg (VO.h rfl <| HO.box (C := #[_, _]) rfl rfl fun b1 => VO.h rfl <| HO.box (C := #[_, _]) rfl rfl fun b2 => VO.l (LO.as (.r rfl)) rfl <| VO.nil ?_)
  refine VE.seqN ?_
  refine VC.seq ?_
  refine VC.seq ?_
  refine VC.reg (VO.l (LO.as (.r rfl)) rfl <| VO.nil ?_)
  refine VE.seqN ?_
  refine VC.block ?_
  refine VC.loopK (α := Nat) 0 (fun gx => [(5, .int .i64 ((gx : Int) - 2))]) [(2, _), (3, _)] (fun gx => []) (fun gx => gx ≤ 5 ∧ ∀ i : Nat, i < gx → ¬ ((x.lo + ((i : Int) - 2) * 65536 ≤ x.hi + ((i : Int) - 2) * 65536 ∧ s.lo ≤ x.lo + ((i : Int) - 2) * 65536) ∧ x.hi + ((i : Int) - 2) * 65536 ≤ s.hi)) (fun gx => 5 - gx) 0 (by exact ⟨by omega, fun i hi => by omega⟩) (.cons rfl (.cons rfl (.cons rfl .nil))) (fun _ h => h) ?_
  rintro j ⟨hj, hz⟩
  refine VC.seq ?_
  refine VC.seq ?_
  refine VC.reg (VO.l (LO.mv (.r rfl)) rfl <| VO.l (LO.le (.r rfl) (.r rfl)) rfl <| VO.nil ?_)
  refine VE.seqN ?_
  refine VC.cond rfl (fun h7 => ?_) (fun h7 => ?_)
  ·
    refine VC.skip (VE.seqN ?_)
    refine VC.seq ?_
    refine VC.block ?_
    refine VC.seq ?_
    refine VC.reg (VO.l (LO.fa (r := 0) F25_0 (.r rfl) rfl) rfl <| VO.l (LO.ld O3 (.r rfl) (fun _ hw => cells_at hw 1 rfl ⟨_, rfl⟩)) rfl <| VO.l (LO.mv (.r rfl)) rfl <| VO.l (LO.mul (.r rfl) (.r rfl) (wi (by omega) (by omega))) rfl <| VO.l (LO.add (.r rfl) (.r rfl) (wi (by omega) (by omega))) rfl <| VO.l (LO.fa (r := 1) F25_1 (.r rfl) rfl) rfl <| VO.l (LO.ld O3 (.r rfl) (fun _ hw => cells_at hw 1 rfl ⟨_, rfl⟩)) rfl <| VO.l (LO.mv (.r rfl)) rfl <| VO.l (LO.mul (.r rfl) (.r rfl) (wi (by omega) (by omega))) rfl <| VO.l (LO.add (.r rfl) (.r rfl) (wi (by omega) (by omega))) rfl <| VO.l (LO.bd (ps := [(_, _), (_, _)]) (vs := [(_, _), (_, _)]) (C := [_, _]) B25  ⟨(.r rfl), (.r rfl), trivial⟩ rfl ⟨_, [_], [_, _], rfl, rfl, rfl, rfl, ⟨_, [_], [_, _], rfl, rfl, rfl, rfl, rfl⟩⟩) rfl <| VO.l (LO.lda (vs := [_, _]) A25 (.r rfl) (fun _ hw => cells_at hw 0 rfl ⟨_, rfl⟩) rfl) rfl <| VO.l (LO.call (xs := [_, _]) (vs := [_, _]) C41 ⟨(.r rfl), (.r rfl), trivial⟩ (fun w _ => lies_c _ _ _ _ w)) rfl <| VO.nil ?_)
    refine VE.seqN ?_
    refine VC.cond rfl (fun h22 => ?_) (fun h22 => ?_)
    ·
      refine VC.seq ?_
      refine VC.reg (VO.l (LO.as (.r rfl)) rfl <| VO.nil ?_)
      refine VE.seqN ?_
      refine VC.ret (VE.inR (VE.thenR (VE.thenR (VE.inR (VE.thenR (VE.res (vs := [_]) rfl ⟨rfl, trivial⟩ (fun w hw => ?_)))))))
      exact ⟨rfl, hw.nil⟩
    ·
      refine VC.skip (VE.inN (VE.seqN ?_))
      refine VC.reg (VO.l (LO.mv (.r rfl)) rfl <| VO.l (LO.add (.r rfl) (.r rfl) (wi (by omega) (by omega))) rfl <| VO.l (LO.as (.r rfl)) rfl <| VO.nil ?_)
      refine VE.thenN fun a w ha hw => ⟨j + 1, ⟨by omega, fun i hi => by rcases Nat.lt_or_eq_of_le (Nat.le_of_lt_succ hi) with q | q; exact hz i q; (subst q; exact h22)⟩, (by omega), ha.sub (.cons (by exact congrArg (fun n => some (Value.int .i64 n)) (by omega)) (.cons rfl (.cons rfl .nil))), hw⟩
  ·
    (exfalso; (exact absurd ⟨⟨by omega, by omega⟩, by omega⟩ (hz (k + 2).toNat (by omega))))

set_option maxRecDepth 20000 in
theorem equal_c (x s : Span) (w : World) (h : eqS x s) (z1 : -1000000 ≤ x.lo) (z2 : x.hi ≤ 1000000) (z3 : -1000000 ≤ s.lo) (z4 : s.hi ≤ 1000000) :
  Calls Try.prog 20 #[spanV x, spanV s] w fun e w' => e = .returned (.bool true) ∧ St (bs w) [] w' := by
  obtain ⟨h0, K, hK, e1, e2⟩ := h
  refine enter (vs := [_, _]) (env := [(0, _), (1, _)]) Try.func20 rfl rfl rfl rfl ?_
  refine VC.seq ?_
  refine VC.reg (VO.h rfl <| HO.box (C := #[_, _]) rfl rfl fun b1 => VO.h rfl <| HO.box (C := #[_, _]) rfl rfl fun b2 => VO.l (LO.as (.r rfl)) rfl <| VO.nil ?_)
  refine VE.seqN ?_
  refine VC.seq ?_
  refine VC.reg (VO.l (LO.lda (vs := [_, _]) A25 (.r rfl) (fun _ hw => cells_at hw 1 rfl ⟨_, rfl⟩) rfl) rfl <| VO.l (LO.lda (vs := [_, _]) A25 (.r rfl) (fun _ hw => cells_at hw 0 rfl ⟨_, rfl⟩) rfl) rfl <| VO.l (LO.call (xs := [_, _]) (vs := [_, _]) C57 ⟨(.r rfl), (.r rfl), trivial⟩ (fun w _ => turned2_c x s w h0 z1 z2 ⟨K, hK, by omega, by omega⟩)) rfl <| VO.l (LO.mv (.r rfl)) rfl <| VO.lg rfl rfl (GD.t _) (fun hg => LO.lda (vs := [_, _]) A25 (.r rfl) (fun _ hw => cells_at hw 0 rfl ⟨_, rfl⟩) rfl) rfl <| VO.lg rfl rfl (GD.t _) (fun hg => LO.lda (vs := [_, _]) A25 (.r rfl) (fun _ hw => cells_at hw 1 rfl ⟨_, rfl⟩) rfl) rfl <| VO.lg rfl rfl (GD.t _) (fun hg => LO.call (xs := [_, _]) (vs := [_, _]) C57 ⟨(.g hg rfl), (.g hg rfl), trivial⟩ (fun w _ => turned2_c s x w (by omega) z3 z4 ⟨-K, by omega, by omega, by omega⟩)) rfl <| VO.l (LO.pkA (.r rfl) rfl rfl (.r rfl)) rfl <| VO.l (LO.as (.r rfl)) rfl <| VO.nil ?_)
  refine VE.seqN ?_
  refine VC.ret (VE.res (vs := [_]) rfl ⟨rfl, trivial⟩ (fun w hw => ?_))
  exact ⟨rfl, hw.nil⟩

set_option maxRecDepth 20000 in
set_option maxHeartbeats 4000000 in
theorem PulseTurned_c (t : Train) (r : Recv) (l : List Sample) (p : Option Addr) (c : Nat) (more run : Int) (w : World) (hc : l.length ≤ c) (hl : Smps w p l) (m0 : 0 ≤ more) (m1 : more ≤ 65535) (r0 : 0 ≤ run) (r1 : run ≤ 65535) :
  Calls Try.prog 4 #[trainV t, recvV r, .slice p l.length c, .int .u16 more, .int .u16 run] w fun e w' => e = .returned (.bool true) ∧ St (bs w) [] w' := by
  have hcm := i64_cv (x := more) (by omega) (by omega)
  have hcr := i64_cv (x := run) (by omega) (by omega)
  refine enter (vs := [_, _, _, _, _]) (env := [(0, _), (1, _), (2, _), (3, _), (4, _)]) Try.func4 rfl rfl rfl rfl ?_
  refine VC.seq ?_
  refine VC.reg (VO.h rfl <| HO.box (C := #[_, _, _, _, _]) rfl rfl fun b1 => VO.h rfl <| HO.box (C := #[_, _, _, _]) rfl rfl fun b2 => VO.l (LO.as (.r rfl)) rfl <| VO.nil ?_)
  refine VE.seqN ?_
  refine VC.seq ?_
  refine VC.seq ?_
  refine VC.reg (VO.l (LO.mv (.r rfl)) rfl <| VO.l (LO.len S28 (.r rfl) rfl) rfl <| VO.l (LO.gt (.r rfl) (.r rfl)) rfl <| VO.nil ?_)
  refine VE.seqN ?_
  refine VC.cond rfl (fun h27 => ?_) (fun h27 => ?_)
  ·
    refine VC.seq ?_
    refine VC.reg (VO.l (LO.call (xs := []) (vs := []) C15 trivial (fun w _ => works_c w)) rfl <| VO.l (LO.as (.r rfl)) rfl <| VO.nil ?_)
    refine VE.seqN ?_
    refine VC.ret (VE.thenR (VE.res (vs := [_]) rfl ⟨rfl, trivial⟩ (fun w hw => ?_)))
    first | exact ⟨rfl, hw.nil⟩ | exact ⟨by have q1 := congrArg Echo.ints T.eb; have q2 := congrArg Echo.ints T.ec; unfold clr Echo.ints zs at q1 q2; dsimp only at q1 q2; simp only [resV]; simp [q1, q2], hw.nil⟩
  ·
    refine VC.skip (VE.seqN ?_)
    refine VC.seq ?_
    refine VC.reg (VO.l (LO.lda (vs := [_, _, _, _, _]) A23 (.r rfl) (fun _ hw => cells_at hw 1 rfl ⟨_, rfl⟩) rfl) rfl <| VO.l (LO.lda (vs := [_, _, _, _]) A27 (.r rfl) (fun _ hw => cells_at hw 0 rfl ⟨_, rfl⟩) rfl) rfl <| VO.l (LO.mv (.r rfl)) rfl <| VO.l (LO.call (xs := [_, _, _]) (vs := [_, _, _]) C16 ⟨(.r rfl), (.r rfl), (.r rfl), trivial⟩ (fun w hw => Hear_c t r l p c w (by omega) hc (hl.keep w hw))) rfl <| VO.l (LO.mv (.r rfl)) rfl <| VO.l (LO.ex (.r rfl) rfl) rfl <| VO.l (LO.ex (.r rfl) rfl) rfl <| VO.h rfl <| HO.alloc (C := #[_, _, _, _, _, _, _, _, _, _, _, _, _, _]) Z32 rfl fun b3 => VO.h0 <| HO.st 0 (vs := [_, _, _, _, _, _, _, _, _, _, _, _, _, _]) (C' := [_, _, _, _, _, _, _, _, _, _, _, _, _, _]) (L' := [_, _, _]) N32 rfl rfl rfl rfl rfl rfl rfl rfl <| VO.l (LO.as (.r rfl)) rfl <| VO.nil ?_)
    refine VE.seqN ?_
    refine VC.seq ?_
    refine VC.seq ?_
    refine VC.reg (VO.l (LO.mv (.r rfl)) rfl <| VO.l (LO.ne (.r rfl) (.r rfl)) rfl <| VO.nil ?_)
    refine VE.seqN ?_
    refine VC.cond rfl (fun h37 => ?_) (fun h37 => ?_)
    ·
      refine VC.seq ?_
      refine VC.reg (VO.l (LO.call (xs := []) (vs := []) C15 trivial (fun w _ => works_c w)) rfl <| VO.l (LO.as (.r rfl)) rfl <| VO.nil ?_)
      refine VE.seqN ?_
      refine VC.ret (VE.thenR (VE.res (vs := [_]) rfl ⟨rfl, trivial⟩ (fun w hw => ?_)))
      first | exact ⟨rfl, hw.nil⟩ | exact ⟨by have q1 := congrArg Echo.ints T.eb; have q2 := congrArg Echo.ints T.ec; unfold clr Echo.ints zs at q1 q2; dsimp only at q1 q2; simp only [resV]; simp [q1, q2], hw.nil⟩
    ·
      have h0 := Classical.not_not.1 h37
      have hs := (hear_0 h0).2.2.2
      refine VC.skip (VE.seqN ?_)
      refine VC.seq ?_
      refine VC.reg (VO.l (LO.as (.r rfl)) rfl <| VO.l (LO.as (.r rfl)) rfl <| VO.l (LO.as (.r rfl)) rfl <| VO.nil ?_)
      refine VE.seqN ?_
      refine VC.seq ?_
      refine VC.seq ?_
      refine VC.reg (VO.l (LO.as (.r rfl)) rfl <| VO.nil ?_)
      refine VE.seqN ?_
      refine VC.block ?_
      refine VC.loopK (α := Nat × (List Sample) × (Option Addr) × Nat × (List Sample) × (Option Addr) × Nat × (List Sample) × (Option Addr) × Nat) 0 (fun gx => [(13, .slice gx.2.2.1 gx.2.1.length gx.2.2.2.1), (14, .slice gx.2.2.2.2.2.1 gx.2.2.2.2.1.length gx.2.2.2.2.2.2.1), (15, .slice gx.2.2.2.2.2.2.2.2.1 gx.2.2.2.2.2.2.2.1.length gx.2.2.2.2.2.2.2.2.2), (16, .int .i64 (gx.1 : Nat))]) [(2, _), (3, _), (4, _), (5, _), (6, _), (11, _)] (fun gx => [own 44 4 gx.2.2.1 gx.2.2.2.1 (gx.2.1.map smpC), own 44 4 gx.2.2.2.2.2.1 gx.2.2.2.2.2.2.1 (gx.2.2.2.2.1.map smpC), own 44 4 gx.2.2.2.2.2.2.2.2.1 gx.2.2.2.2.2.2.2.2.2 (gx.2.2.2.2.2.2.2.1.map smpC)]) (fun gx => gx.1 ≤ l.length ∧ gx.2.1 = (List.range gx.1).map (fun k => fA more k (l.getD k zSm)) ∧ gx.2.2.2.2.1 = (List.range gx.1).map (fun k => fB run k (l.getD k zSm)) ∧ gx.2.2.2.2.2.2.2.1 = (List.range gx.1).map (fun k => fC k (l.getD k zSm))) (fun gx => l.length - gx.1) (0, [], none, 0, [], none, 0, [], none, 0) (by exact ⟨Nat.zero_le _, rfl, rfl, rfl⟩) (.cons rfl (.cons rfl (.cons rfl (.cons rfl (.cons rfl (.cons rfl (.cons rfl (.cons rfl (.cons rfl (.cons rfl .nil)))))))))) (fun _ h => (((h.ownNil 44 4).ownNil 44 4).ownNil 44 4)) ?_
      rintro ⟨i, xs, px, cx, ys, py, cy, zs, pz, cz⟩ ⟨hi, hX, hY, hZ⟩
      show VC _ _ _ _ _ ([(13, .slice px xs.length cx), (14, .slice py ys.length cy), (15, .slice pz zs.length cz), (16, .int .i64 (i : Nat))] ++ _) ([own 44 4 px cx (xs.map smpC), own 44 4 py cy (ys.map smpC), own 44 4 pz cz (zs.map smpC)] ++ _) _ _
      dsimp only at hi hX hY hZ
      have hxl : xs.length = i := by rw [hX]; simp
      have hyl : ys.length = i := by rw [hY]; simp
      have hzl : zs.length = i := by rw [hZ]; simp
      refine VC.seq ?_
      refine VC.seq ?_
      refine VC.reg (VO.l (LO.mv (.r rfl)) rfl <| VO.l (LO.mv (.r rfl)) rfl <| VO.l (LO.len S28 (.r rfl) rfl) rfl <| VO.l (LO.lt (.r rfl) (.r rfl)) rfl <| VO.nil ?_)
      refine VE.seqN ?_
      refine VC.cond rfl (fun h3 => ?_) (fun h3 => ?_)
      ·
        refine VC.skip (VE.seqN ?_)
        refine VC.seq ?_
        refine VC.block ?_
        refine VC.seq ?_
        have hxi := hs _ (getD_mem (d := zSm) (show i < l.length by omega))
        unfold smpOk at hxi
        have hmul := prod_bd (x := (i : Int)) (y := run) (A := 64) (B := 65535) (by omega) (by omega) (by omega) (by omega)
        refine VC.reg (VO.l (LO.mv (.r rfl)) rfl <| VO.l (LO.mv (.r rfl)) rfl <| VO.l (LO.ixs S28 N44 hl.sm (.r rfl) (.r rfl) rfl (by omega)) rfl <| VO.l (LO.lda (vs := [_, _, _, _]) A44 (.r rfl) (fun w hw => cells_part (off := 0) ((hl.at zSm (j := i) (by omega)) w hw) ⟨_, rfl⟩) rfl) rfl <| VO.h rfl <| HO.alloc (C := #[_, _, _, _]) Z44 rfl fun b8 => VO.h0 <| HO.st 0 (vs := [_, _, _, _]) (C' := [_, _, _, _]) (L' := [_, _, _, _, _, _, _]) N44 rfl rfl rfl rfl rfl rfl rfl rfl <| VO.nil ?_)
        refine VE.seqN ?_
        refine VC.seq ?_
        refine VC.drawH [[0, 1, 2, 3, 4, 5, 6], [0, 1, 2, 3, 4, 5, 6], [0, 2, 3, 4, 5, 6], [0, 2, 3, 4, 5, 6]] [some 1, some 0, some 0, some 0, some 0, some 0, some 0, some 0, some 0, some 0, some 0, some 0, some 0, some 0, some 0, some 0, some 0, some 0, none, none, none] mixed (by kernel_rfl) rfl (LX.l (fun _ hJ => LO.mv (.r rfl)) rfl <| LX.l (fun _ hJ => LO.fa (r := 0) F44_0 (.r rfl) rfl) rfl <| LX.l (fun _ hJ => LO.ld O3 (.r rfl) (fun _ hw => cells_at (hJ _ hw) 0 rfl ⟨_, rfl⟩)) rfl <| LX.l (fun _ hJ => LO.fa (r := 1) F44_1 (.r rfl) rfl) rfl <| LX.l (fun _ hJ => LO.ld O3 (.r rfl) (fun _ hw => cells_at (hJ _ hw) 0 rfl ⟨_, rfl⟩)) rfl <| LX.l (fun _ hJ => LO.mv (.r rfl)) rfl <| LX.l (fun _ hJ => LO.cv ⟨_, Try.underlying42⟩ Try.underlying3 (.r rfl) hcm) rfl <| LX.l (fun _ hJ => LO.add (.r rfl) (.r rfl) (wi (by omega) (by omega))) rfl <| LX.l (fun _ hJ => LO.call (xs := [_]) (vs := [_]) C19 ⟨(.r rfl), trivial⟩ (fun w _ => lwrap_c _ w)) rfl <| LX.l (fun _ hJ => LO.fa (r := 2) F44_2 (.r rfl) rfl) rfl <| LX.l (fun _ hJ => LO.ld O3 (.r rfl) (fun _ hw => cells_at (hJ _ hw) 0 rfl ⟨_, rfl⟩)) rfl <| LX.l (fun _ hJ => LO.fa (r := 3) F44_3 (.r rfl) rfl) rfl <| LX.l (fun _ hJ => LO.ld O3 (.r rfl) (fun _ hw => cells_at (hJ _ hw) 0 rfl ⟨_, rfl⟩)) rfl <| LX.l (fun _ hJ => LO.mv (.r rfl)) rfl <| LX.l (fun _ hJ => LO.cv ⟨_, Try.underlying42⟩ Try.underlying3 (.r rfl) hcm) rfl <| LX.l (fun _ hJ => LO.add (.r rfl) (.r rfl) (wi (by omega) (by omega))) rfl <| LX.l (fun _ hJ => LO.call (xs := [_]) (vs := [_]) C19 ⟨(.r rfl), trivial⟩ (fun w _ => lwrap_c _ w)) rfl <| LX.l (fun _ hJ => LO.bd (ps := [(_, _), (_, _), (_, _), (_, _)]) (vs := [(_, _), (_, _), (_, _), (_, _)]) (C := [_, _, _, _]) B44  ⟨(.r rfl), (.r rfl), (.r rfl), (.r rfl), trivial⟩ rfl ⟨_, [_], [_, _, _, _], rfl, rfl, rfl, rfl, ⟨_, [_], [_, _, _, _], rfl, rfl, rfl, rfl, ⟨_, [_], [_, _, _, _], rfl, rfl, rfl, rfl, ⟨_, [_], [_, _, _, _], rfl, rfl, rfl, rfl, rfl⟩⟩⟩⟩) rfl <| LX.s <| LX.s <| LX.s <| LX.nil) (HX.s <| HX.s <| HX.s <| HX.s <| HX.s <| HX.s <| HX.s <| HX.s <| HX.s <| HX.s <| HX.s <| HX.s <| HX.s <| HX.s <| HX.s <| HX.s <| HX.s <| HX.s <| HX.h rfl <| HO.bs (ps := [(_, _)]) (vs := [(_, _)]) (Z := [_, _, _, _]) (C := [_, _, _, _]) S28 Z44 N44 ⟨(.r rfl), trivial⟩ rfl rfl rfl rfl ⟨_, [_, _, _, _], [_, _, _, _], rfl, rfl, rfl, rfl, rfl⟩ fun b11 => ⟨fun _ hw => hw.sel [1, 2, 3, 4, 5, 6, 7] rfl, HX.h rfl <| HO.appT ((fA more i (l.getD i zSm))) 2 0 (fun R => [_, _, R, _, _, _, _, _]) S28 S28 I44 (.r rfl) (.r rfl) rfl rfl rfl rfl rfl rfl rfl (fun _ => rfl) rfl (by omega) fun p19 c19 => ⟨fun _ hw => hw.sel [1, 3, 4, 5, 6, 7] rfl, HX.h rfl <| HO.lo (LO.as (.r rfl)) <| ⟨fun _ hw => hw.sel [1, 3, 4, 5, 6, 7] rfl, HX.nil ?_⟩⟩⟩)
        refine VE.seqN ?_
        refine VC.seq ?_
        refine VC.drawH [[0, 1, 2, 3, 4, 5, 6, 7], [0, 1, 2, 3, 4, 5, 6, 7], [0, 1, 2, 4, 5, 6, 7], [0, 1, 2, 4, 5, 6, 7]] [some 1, some 0, some 0, some 0, some 0, some 0, some 0, some 0, some 0, some 0, some 0, some 0, some 0, some 0, some 0, some 0, some 0, some 0, some 0, some 0, some 0, some 0, none, none, none] mixed (by kernel_rfl) rfl (LX.l (fun _ hJ => LO.mv (.r rfl)) rfl <| LX.l (fun _ hJ => LO.fa (r := 0) F44_0 (.r rfl) rfl) rfl <| LX.l (fun _ hJ => LO.ld O3 (.r rfl) (fun _ hw => cells_at (hJ _ hw) 1 rfl ⟨_, rfl⟩)) rfl <| LX.l (fun _ hJ => LO.fa (r := 1) F44_1 (.r rfl) rfl) rfl <| LX.l (fun _ hJ => LO.ld O3 (.r rfl) (fun _ hw => cells_at (hJ _ hw) 1 rfl ⟨_, rfl⟩)) rfl <| LX.l (fun _ hJ => LO.mv (.r rfl)) rfl <| LX.l (fun _ hJ => LO.mv (.r rfl)) rfl <| LX.l (fun _ hJ => LO.cv ⟨_, Try.underlying42⟩ Try.underlying3 (.r rfl) hcr) rfl <| LX.l (fun _ hJ => LO.mul (.r rfl) (.r rfl) (wi (by omega) (by omega))) rfl <| LX.l (fun _ hJ => LO.add (.r rfl) (.r rfl) (wi (by omega) (by omega))) rfl <| LX.l (fun _ hJ => LO.call (xs := [_]) (vs := [_]) C19 ⟨(.r rfl), trivial⟩ (fun w _ => lwrap_c _ w)) rfl <| LX.l (fun _ hJ => LO.fa (r := 2) F44_2 (.r rfl) rfl) rfl <| LX.l (fun _ hJ => LO.ld O3 (.r rfl) (fun _ hw => cells_at (hJ _ hw) 1 rfl ⟨_, rfl⟩)) rfl <| LX.l (fun _ hJ => LO.fa (r := 3) F44_3 (.r rfl) rfl) rfl <| LX.l (fun _ hJ => LO.ld O3 (.r rfl) (fun _ hw => cells_at (hJ _ hw) 1 rfl ⟨_, rfl⟩)) rfl <| LX.l (fun _ hJ => LO.mv (.r rfl)) rfl <| LX.l (fun _ hJ => LO.mv (.r rfl)) rfl <| LX.l (fun _ hJ => LO.cv ⟨_, Try.underlying42⟩ Try.underlying3 (.r rfl) hcr) rfl <| LX.l (fun _ hJ => LO.mul (.r rfl) (.r rfl) (wi (by omega) (by omega))) rfl <| LX.l (fun _ hJ => LO.add (.r rfl) (.r rfl) (wi (by omega) (by omega))) rfl <| LX.l (fun _ hJ => LO.call (xs := [_]) (vs := [_]) C19 ⟨(.r rfl), trivial⟩ (fun w _ => lwrap_c _ w)) rfl <| LX.l (fun _ hJ => LO.bd (ps := [(_, _), (_, _), (_, _), (_, _)]) (vs := [(_, _), (_, _), (_, _), (_, _)]) (C := [_, _, _, _]) B44  ⟨(.r rfl), (.r rfl), (.r rfl), (.r rfl), trivial⟩ rfl ⟨_, [_], [_, _, _, _], rfl, rfl, rfl, rfl, ⟨_, [_], [_, _, _, _], rfl, rfl, rfl, rfl, ⟨_, [_], [_, _, _, _], rfl, rfl, rfl, rfl, ⟨_, [_], [_, _, _, _], rfl, rfl, rfl, rfl, rfl⟩⟩⟩⟩) rfl <| LX.s <| LX.s <| LX.s <| LX.nil) (HX.s <| HX.s <| HX.s <| HX.s <| HX.s <| HX.s <| HX.s <| HX.s <| HX.s <| HX.s <| HX.s <| HX.s <| HX.s <| HX.s <| HX.s <| HX.s <| HX.s <| HX.s <| HX.s <| HX.s <| HX.s <| HX.s <| HX.h rfl <| HO.bs (ps := [(_, _)]) (vs := [(_, _)]) (Z := [_, _, _, _]) (C := [_, _, _, _]) S28 Z44 N44 ⟨(.r rfl), trivial⟩ rfl rfl rfl rfl ⟨_, [_, _, _, _], [_, _, _, _], rfl, rfl, rfl, rfl, rfl⟩ fun b13 => ⟨selJ (L1 := [_, _, _, _, _, _, _, _]) [1, 2, 3, 4, 5, 6, 7, 8] rfl rfl rfl, HX.h rfl <| HO.appT ((fB run i (l.getD i zSm))) 4 0 (fun R => [_, _, _, _, R, _, _, _, _]) S28 S28 I44 (.r rfl) (.r rfl) rfl rfl rfl rfl rfl rfl rfl (fun _ => rfl) rfl (by omega) fun p23 c23 => ⟨selJ (L1 := [_, _, _, _, _, _, _]) [1, 2, 3, 5, 6, 7, 8] rfl rfl rfl, HX.h rfl <| HO.lo (LO.as (.r rfl)) <| ⟨selJ (L1 := [_, _, _, _, _, _, _]) [1, 2, 3, 5, 6, 7, 8] rfl rfl rfl, HX.nil ?_⟩⟩⟩)
        refine VE.seqN ?_
        refine VC.weak (env' := [(2, _), (3, _), (4, _), (5, _), (6, _), (11, _), (13, _), (14, _), (15, _), (16, _), (17, _)]) (.cons rfl (.cons rfl (.cons rfl (.cons rfl (.cons rfl (.cons rfl (.cons rfl (.cons rfl (.cons rfl (.cons rfl (.cons rfl .nil))))))))))) (fun _ h => h) ?_
        refine VC.drawH [[0, 1, 2, 3, 4, 5, 6, 7, 8], [0, 1, 2, 3, 4, 5, 6, 7, 8], [0, 1, 2, 3, 4, 6, 7, 8], [0, 1, 2, 3, 4, 6, 7, 8]] [some 1, some 0, some 0, some 0, some 0, some 0, some 0, some 0, some 0, some 0, some 0, some 0, some 0, some 0, none, none, none] mixed (by kernel_rfl) rfl (LX.l (fun _ hJ => LO.mv (.r rfl)) rfl <| LX.l (fun _ hJ => LO.fa (r := 0) F44_0 (.r rfl) rfl) rfl <| LX.l (fun _ hJ => LO.ld O3 (.r rfl) (fun _ hw => cells_at (hJ _ hw) 2 rfl ⟨_, rfl⟩)) rfl <| LX.l (fun _ hJ => LO.fa (r := 1) F44_1 (.r rfl) rfl) rfl <| LX.l (fun _ hJ => LO.ld O3 (.r rfl) (fun _ hw => cells_at (hJ _ hw) 2 rfl ⟨_, rfl⟩)) rfl <| LX.l (fun _ hJ => LO.neg (.r rfl) (wi (by omega) (by omega))) rfl <| LX.l (fun _ hJ => LO.call (xs := [_]) (vs := [_]) C19 ⟨(.r rfl), trivial⟩ (fun w _ => lwrap_c _ w)) rfl <| LX.l (fun _ hJ => LO.fa (r := 2) F44_2 (.r rfl) rfl) rfl <| LX.l (fun _ hJ => LO.ld O3 (.r rfl) (fun _ hw => cells_at (hJ _ hw) 2 rfl ⟨_, rfl⟩)) rfl <| LX.l (fun _ hJ => LO.fa (r := 3) F44_3 (.r rfl) rfl) rfl <| LX.l (fun _ hJ => LO.ld O3 (.r rfl) (fun _ hw => cells_at (hJ _ hw) 2 rfl ⟨_, rfl⟩)) rfl <| LX.l (fun _ hJ => LO.neg (.r rfl) (wi (by omega) (by omega))) rfl <| LX.l (fun _ hJ => LO.call (xs := [_]) (vs := [_]) C19 ⟨(.r rfl), trivial⟩ (fun w _ => lwrap_c _ w)) rfl <| LX.l (fun _ hJ => LO.bd (ps := [(_, _), (_, _), (_, _), (_, _)]) (vs := [(_, _), (_, _), (_, _), (_, _)]) (C := [_, _, _, _]) B44  ⟨(.r rfl), (.r rfl), (.r rfl), (.r rfl), trivial⟩ rfl ⟨_, [_], [_, _, _, _], rfl, rfl, rfl, rfl, ⟨_, [_], [_, _, _, _], rfl, rfl, rfl, rfl, ⟨_, [_], [_, _, _, _], rfl, rfl, rfl, rfl, ⟨_, [_], [_, _, _, _], rfl, rfl, rfl, rfl, rfl⟩⟩⟩⟩) rfl <| LX.s <| LX.s <| LX.s <| LX.nil) (HX.s <| HX.s <| HX.s <| HX.s <| HX.s <| HX.s <| HX.s <| HX.s <| HX.s <| HX.s <| HX.s <| HX.s <| HX.s <| HX.s <| HX.h rfl <| HO.bs (ps := [(_, _)]) (vs := [(_, _)]) (Z := [_, _, _, _]) (C := [_, _, _, _]) S28 Z44 N44 ⟨(.r rfl), trivial⟩ rfl rfl rfl rfl ⟨_, [_, _, _, _], [_, _, _, _], rfl, rfl, rfl, rfl, rfl⟩ fun b15 => ⟨selJ (L1 := [_, _, _, _, _, _, _, _, _]) [1, 2, 3, 4, 5, 6, 7, 8, 9] rfl rfl rfl, HX.h rfl <| HO.appT ((fC i (l.getD i zSm))) 6 0 (fun R => [_, _, _, _, _, _, R, _, _, _]) S28 S28 I44 (.r rfl) (.r rfl) rfl rfl rfl rfl rfl rfl rfl (fun _ => rfl) rfl (by omega) fun p15 c15 => ⟨selJ (L1 := [_, _, _, _, _, _, _, _]) [1, 2, 3, 4, 5, 7, 8, 9] rfl rfl rfl, HX.h rfl <| HO.lo (LO.as (.r rfl)) <| ⟨selJ (L1 := [_, _, _, _, _, _, _, _]) [1, 2, 3, 4, 5, 7, 8, 9] rfl rfl rfl, HX.nil ?_⟩⟩⟩)
        refine VE.inN (VE.seqN ?_)
        refine VC.reg (VO.l (LO.mv (.r rfl)) rfl <| VO.l (LO.add (.r rfl) (.r rfl) (wi (by omega) (by omega))) rfl <| VO.l (LO.as (.r rfl)) rfl <| VO.nil ?_)
        refine VE.thenN fun a w ha hw => ⟨(i + 1, xs ++ [fA more i (l.getD i zSm)], p19, c19, ys ++ [fB run i (l.getD i zSm)], p23, c23, zs ++ [fC i (l.getD i zSm)], p15, c15), ⟨by dsimp only; omega, by dsimp only; rw [mv_step, hX], by dsimp only; rw [mv_step, hY], by dsimp only; rw [mv_step (f := fC), hZ]⟩, (by dsimp only; omega), ha.sub (.cons rfl (.cons rfl (.cons rfl (.cons rfl (.cons rfl (.cons rfl (.cons rfl (.cons rfl (.cons rfl (.cons rfl .nil)))))))))), hw.sel [4, 5, 6, 7, 8, 9] rfl⟩
      ·
        refine VC.exit (VE.thenX (VE.thenX (VE.inX (VE.seqN ?_))))
        refine VC.seq ?_
        have hi2 : i = l.length := by omega
        subst hi2
        have hXs : xs = (mvL (fA more) l) := hX
        have hYs : ys = (mvL (fB run) l) := hY
        have hZs : zs = (mvL fC l) := hZ
        subst hXs
        subst hYs
        subst hZs
        obtain ⟨eA, eB, eC, T⟩ := turned_all (more := more) h0 r0 r1
        refine VC.reg (VO.l (LO.lda (vs := [_, _, _, _, _]) A23 (.r rfl) (fun _ hw => cells_at hw 5 rfl ⟨_, rfl⟩) rfl) rfl <| VO.l (LO.lda (vs := [_, _, _, _]) A27 (.r rfl) (fun _ hw => cells_at hw 4 rfl ⟨_, rfl⟩) rfl) rfl <| VO.l (LO.mv (.r rfl)) rfl <| VO.l (LO.call (xs := [_, _, _]) (vs := [_, _, _]) C16 ⟨(.r rfl), (.r rfl), (.r rfl), trivial⟩ (fun w hw => Hear_c t r (mvL (fA more) l) _ _ w (by rw [mv_len]; omega) (own_capS hw 0 rfl) (RO.of_own hw 0 rfl))) rfl <| VO.l (LO.mv (.r rfl)) rfl <| VO.l (LO.ex (.r rfl) rfl) rfl <| VO.l (LO.ex (.r rfl) rfl) rfl <| VO.h rfl <| HO.alloc (C := #[_, _, _, _, _, _, _, _, _, _, _, _, _, _]) Z32 rfl fun b16 => VO.h0 <| HO.st 0 (vs := [_, _, _, _, _, _, _, _, _, _, _, _, _, _]) (C' := [_, _, _, _, _, _, _, _, _, _, _, _, _, _]) (L' := [_, _, _, _, _, _, _]) N32 rfl rfl rfl rfl rfl rfl rfl rfl <| VO.l (LO.as (.r rfl)) rfl <| VO.nil ?_)
        refine VE.seqN ?_
        refine VC.seq ?_
        refine VC.reg (VO.l (LO.lda (vs := [_, _, _, _, _]) A23 (.r rfl) (fun _ hw => cells_at hw 6 rfl ⟨_, rfl⟩) rfl) rfl <| VO.l (LO.lda (vs := [_, _, _, _]) A27 (.r rfl) (fun _ hw => cells_at hw 5 rfl ⟨_, rfl⟩) rfl) rfl <| VO.l (LO.mv (.r rfl)) rfl <| VO.l (LO.call (xs := [_, _, _]) (vs := [_, _, _]) C16 ⟨(.r rfl), (.r rfl), (.r rfl), trivial⟩ (fun w hw => Hear_c t r (mvL (fB run) l) _ _ w (by rw [mv_len]; omega) (own_capS hw 2 rfl) (RO.of_own hw 2 rfl))) rfl <| VO.l (LO.mv (.r rfl)) rfl <| VO.l (LO.ex (.r rfl) rfl) rfl <| VO.l (LO.ex (.r rfl) rfl) rfl <| VO.h rfl <| HO.alloc (C := #[_, _, _, _, _, _, _, _, _, _, _, _, _, _]) Z32 rfl fun b18 => VO.h0 <| HO.st 0 (vs := [_, _, _, _, _, _, _, _, _, _, _, _, _, _]) (C' := [_, _, _, _, _, _, _, _, _, _, _, _, _, _]) (L' := [_, _, _, _, _, _, _, _]) N32 rfl rfl rfl rfl rfl rfl rfl rfl <| VO.l (LO.as (.r rfl)) rfl <| VO.nil ?_)
        refine VE.seqN ?_
        refine VC.seq ?_
        refine VC.reg (VO.l (LO.lda (vs := [_, _, _, _, _]) A23 (.r rfl) (fun _ hw => cells_at hw 7 rfl ⟨_, rfl⟩) rfl) rfl <| VO.l (LO.lda (vs := [_, _, _, _]) A27 (.r rfl) (fun _ hw => cells_at hw 6 rfl ⟨_, rfl⟩) rfl) rfl <| VO.l (LO.mv (.r rfl)) rfl <| VO.l (LO.call (xs := [_, _, _]) (vs := [_, _, _]) C16 ⟨(.r rfl), (.r rfl), (.r rfl), trivial⟩ (fun w hw => Hear_c t r (mvL fC l) _ _ w (by rw [mv_len]; omega) (own_capS hw 4 rfl) (RO.of_own hw 4 rfl))) rfl <| VO.l (LO.mv (.r rfl)) rfl <| VO.l (LO.ex (.r rfl) rfl) rfl <| VO.l (LO.ex (.r rfl) rfl) rfl <| VO.h rfl <| HO.alloc (C := #[_, _, _, _, _, _, _, _, _, _, _, _, _, _]) Z32 rfl fun b20 => VO.h0 <| HO.st 0 (vs := [_, _, _, _, _, _, _, _, _, _, _, _, _, _]) (C' := [_, _, _, _, _, _, _, _, _, _, _, _, _, _]) (L' := [_, _, _, _, _, _, _, _, _]) N32 rfl rfl rfl rfl rfl rfl rfl rfl <| VO.l (LO.as (.r rfl)) rfl <| VO.nil ?_)
        refine VE.seqN ?_
        refine VC.seq ?_
        refine VC.seq ?_
        refine VC.reg (VO.l (LO.mv (.r rfl)) rfl <| VO.l (LO.ne (.r rfl) (.r rfl)) rfl <| VO.l (LO.mv (.r rfl)) rfl <| VO.lg rfl rfl (GD.f _) (fun hg => LO.mv (.r rfl)) rfl <| VO.lg rfl rfl (GD.f _) (fun hg => LO.ne (.g hg rfl) (.r rfl)) rfl <| VO.l (LO.pkO (.r rfl) (.r rfl) rfl rfl) rfl <| VO.l (LO.mv (.r rfl)) rfl <| VO.lg rfl rfl (GD.f _) (fun hg => LO.mv (.r rfl)) rfl <| VO.lg rfl rfl (GD.f _) (fun hg => LO.ne (.g hg rfl) (.r rfl)) rfl <| VO.l (LO.pkO (.r rfl) (.r rfl) rfl rfl) rfl <| VO.l (LO.mv (.r rfl)) rfl <| VO.lg rfl rfl (GD.f _) (fun hg => LO.lda (vs := [_, _, _, _, _, _, _, _, _, _, _, _, _, _]) A32 (.r rfl) (fun _ hw => cells_at hw 2 rfl ⟨_, rfl⟩) rfl) rfl <| VO.lg rfl rfl (GD.f _) (fun hg => LO.lda (vs := [_, _, _, _, _, _, _, _, _, _, _, _, _, _]) A32 (.r rfl) (fun _ hw => cells_at hw 6 rfl ⟨_, rfl⟩) rfl) rfl <| VO.lg rfl rfl (GD.f _) (fun hg => LO.neA («as» := [_, _, _, _, _, _, _, _, _, _, _, _, _, _]) (bs := [_, _, _, _, _, _, _, _, _, _, _, _, _, _]) EA32 (.g hg rfl) (.g hg rfl) rfl rfl) rfl <| VO.l (LO.pkO (.r rfl) (.r rfl) rfl rfl) rfl <| VO.l (LO.mv (.r rfl)) rfl <| VO.lg rfl rfl (GD.f _) (fun hg => LO.fa (r := 0) F32_0 (.r rfl) rfl) rfl <| VO.lg rfl rfl (GD.f _) (fun hg => LO.ld O3 (.g hg rfl) (fun _ hw => cells_at hw 1 rfl ⟨_, rfl⟩)) rfl <| VO.lg rfl rfl (GD.f _) (fun hg => LO.fa (r := 0) F32_0 (.r rfl) rfl) rfl <| VO.lg rfl rfl (GD.f _) (fun hg => LO.ld O3 (.g hg rfl) (fun _ hw => cells_at hw 6 rfl ⟨_, rfl⟩)) rfl <| VO.lg rfl rfl (GD.f _) (fun hg => LO.ne (.g hg rfl) (.g hg rfl)) rfl <| VO.l (LO.pkO (.r rfl) (.r rfl) rfl rfl) rfl <| VO.l (LO.mv (.r rfl)) rfl <| VO.lg rfl rfl (GD.f _) (fun hg => LO.fa (r := 0) F32_0 (.r rfl) rfl) rfl <| VO.lg rfl rfl (GD.f _) (fun hg => LO.ld O3 (.g hg rfl) (fun _ hw => cells_at hw 0 rfl ⟨_, rfl⟩)) rfl <| VO.lg rfl rfl (GD.f _) (fun hg => LO.fa (r := 0) F32_0 (.r rfl) rfl) rfl <| VO.lg rfl rfl (GD.f _) (fun hg => LO.ld O3 (.g hg rfl) (fun _ hw => cells_at hw 6 rfl ⟨_, rfl⟩)) rfl <| VO.lg rfl rfl (GD.f _) (fun hg => LO.ne (.g hg rfl) (.g hg rfl)) rfl <| VO.l (LO.pkO (.r rfl) (.r rfl) rfl rfl) rfl <| VO.l (LO.mv (.r rfl)) rfl <| VO.lg rfl rfl (GD.f _) (fun hg => LO.fa (r := 12) F32_6 (.r rfl) rfl) rfl <| VO.lg rfl rfl (GD.f _) (fun hg => LO.lda (vs := [_, _]) A25 (.g hg rfl) (fun _ hw => cells_at hw 1 rfl ⟨_, rfl⟩) rfl) rfl <| VO.lg rfl rfl (GD.f _) (fun hg => LO.fa (r := 12) F32_6 (.r rfl) rfl) rfl <| VO.lg rfl rfl (GD.f _) (fun hg => LO.lda (vs := [_, _]) A25 (.g hg rfl) (fun _ hw => cells_at hw 6 rfl ⟨_, rfl⟩) rfl) rfl <| VO.lg rfl rfl (GD.f _) (fun hg => LO.neA («as» := [_, _]) (bs := [_, _]) EA25 (.g hg rfl) (.g hg rfl) rfl rfl) rfl <| VO.l (LO.pkO (.r rfl) (.r rfl) rfl rfl) rfl <| VO.nil ?_)
        refine VE.seqN ?_
        refine VC.weak (env' := [(4, _), (5, _), (11, _), (19, _), (21, _), (165, _)]) (.cons rfl (.cons rfl (.cons rfl (.cons rfl (.cons rfl (.cons rfl .nil)))))) (fun _ h => h) ?_
        refine VC.cond rfl (fun h165 => ?_) (fun h165 => ?_)
        ·
          (exfalso; (simp [eA, eB, eC, T.a, T.kb, T.kc, T.tb] at h165))
        ·
          refine VC.skip (VE.seqN ?_)
          refine VC.seq ?_
          refine VC.seq ?_
          refine VC.reg (VO.l (LO.as (.r rfl)) rfl <| VO.nil ?_)
          refine VE.seqN ?_
          refine VC.block ?_
          refine VC.loopK (α := Nat) 0 (fun gx => [(23, .int .i64 (gx : Nat))]) [(4, _), (5, _), (11, _), (19, _), (21, _)] (fun gx => []) (fun gx => gx = 0 ∨ gx = 1 ∨ gx = 2) (fun gx => 2 - gx) 0 (by exact .inl rfl) (.cons rfl (.cons rfl (.cons rfl (.cons rfl (.cons rfl (.cons rfl .nil)))))) (fun _ h => h) ?_
          rintro i hi
          refine VC.seq ?_
          refine VC.seq ?_
          refine VC.reg (VO.l (LO.mv (.r rfl)) rfl <| VO.l (LO.lt (.r rfl) (.r rfl)) rfl <| VO.l (LO.mv (.r rfl)) rfl <| VO.lg rfl rfl (GD.t _) (fun hg => LO.fa (r := 0) F32_0 (.r rfl) rfl) rfl <| VO.lg rfl rfl (GD.t _) (fun hg => LO.ld O3 (.g hg rfl) (fun _ hw => cells_at hw 6 rfl ⟨_, rfl⟩)) rfl <| VO.lg rfl rfl (GD.t _) (fun hg => LO.eq (.g hg rfl) (.r rfl)) rfl <| VO.l (LO.pkA (.r rfl) rfl rfl (.r rfl)) rfl <| VO.nil ?_)
          refine VE.seqN ?_
          refine VC.cond rfl (fun h172 => ?_) (fun h172 => ?_)
          ·
            have hk3 := h172.2
            obtain ⟨o1, o2, o3, o4, o5, o6, o7, o8⟩ := T.ok hk3
            unfold turnS at o1 o2 o3 o4 o5 o6 o7 o8
            refine VC.skip (VE.seqN ?_)
            refine VC.seq ?_
            refine VC.block ?_
            refine VC.seq ?_
            rcases hi with rfl | rfl | rfl
            ·
              refine VC.reg (VO.l (LO.mv (.r rfl)) rfl <| VO.l (LO.fa (r := 3) F32_2 (.r rfl) rfl) rfl <| VO.l (LO.ixa (j := 0) (r := 3) Try.underlying30 N25 (.r rfl) (.r rfl) rfl (by decide) rfl) rfl <| VO.l (LO.lda (vs := [_, _]) A25 (.r rfl) (fun _ hw => cells_at hw 6 rfl ⟨_, rfl⟩) rfl) rfl <| VO.h rfl <| HO.alloc (C := #[_, _]) Z25 rfl fun b22 => VO.h0 <| HO.st 0 (vs := [_, _]) (C' := [_, _]) (L' := [_, _, _, _, _, _, _, _, _, _]) N25 rfl rfl rfl rfl rfl rfl rfl rfl <| VO.nil ?_)
              refine VE.seqN ?_
              refine VC.seq ?_
              refine VC.seq ?_
              refine VC.reg (VO.l (LO.mv (.r rfl)) rfl <| VO.l (LO.eq (.r rfl) (.r rfl)) rfl <| VO.l (LO.mv (.r rfl)) rfl <| VO.lg rfl rfl (GD.t _) (fun hg => LO.fa (r := 1) F23_1 (.r rfl) rfl) rfl <| VO.lg rfl rfl (GD.t _) (fun hg => LO.ld O3 (.g hg rfl) (fun _ hw => cells_at hw 9 rfl ⟨_, rfl⟩)) rfl <| VO.lg rfl rfl (GD.t _) (fun hg => LO.eq (.g hg rfl) (.r rfl)) rfl <| VO.l (LO.pkA (.r rfl) rfl rfl (.r rfl)) rfl <| VO.nil ?_)
              refine VE.seqN ?_
              refine VC.cond rfl (fun h185 => ?_) (fun h185 => ?_)
              ·
                (exfalso; omega)
              ·
                refine VC.skip (VE.seqN ?_)
                refine VC.seq ?_
                refine VC.draw mixed (LL.l (LO.mv (.r rfl)) rfl <| LL.l (LO.fa (r := 3) F32_2 (.r rfl) rfl) rfl <| LL.l (LO.ixa (j := 0) (r := 3) Try.underlying30 N25 (.r rfl) (.r rfl) rfl (by decide) rfl) rfl <| LL.l (LO.lda (vs := [_, _]) A25 (.r rfl) (fun _ hw => cells_at hw 2 rfl ⟨_, rfl⟩) rfl) rfl <| LL.l (LO.fa (r := 0) F25_0 (.r rfl) rfl) rfl <| LL.l (LO.ld O3 (.r rfl) (fun _ hw => cells_at hw 0 rfl ⟨_, rfl⟩)) rfl <| LL.l (LO.mv (.r rfl)) rfl <| LL.l (LO.cv ⟨_, Try.underlying42⟩ Try.underlying3 (.r rfl) hcr) rfl <| LL.l (LO.add (.r rfl) (.r rfl) (wi (by omega) (by omega))) rfl <| LL.l (LO.fa (r := 1) F25_1 (.r rfl) rfl) rfl <| LL.l (LO.ld O3 (.r rfl) (fun _ hw => cells_at hw 0 rfl ⟨_, rfl⟩)) rfl <| LL.l (LO.mv (.r rfl)) rfl <| LL.l (LO.cv ⟨_, Try.underlying42⟩ Try.underlying3 (.r rfl) hcr) rfl <| LL.l (LO.add (.r rfl) (.r rfl) (wi (by omega) (by omega))) rfl <| LL.l (LO.bd (ps := [(_, _), (_, _)]) (vs := [(_, _), (_, _)]) (C := [_, _]) B25  ⟨(.r rfl), (.r rfl), trivial⟩ rfl ⟨_, [_], [_, _], rfl, rfl, rfl, rfl, ⟨_, [_], [_, _], rfl, rfl, rfl, rfl, rfl⟩⟩) rfl <| LL.l (LO.call (xs := [_, _]) (vs := [_, _]) C20 ⟨(.r rfl), (.r rfl), trivial⟩ (fun w _ => equal_c (hearR t r (mvL (fB run) l)).s0 ⟨(hearR t r l).s0.lo + run, (hearR t r l).s0.hi + run⟩ w (T.b0 hk3) (by omega) (by omega) (by dsimp only; omega) (by dsimp only; omega))) rfl <| LL.l (LO.not (.r rfl)) rfl <| LL.l (LO.mv (.r rfl)) rfl <| LL.lg rfl rfl (GD.f _) (fun hg => LO.mv (.r rfl)) rfl <| LL.lg rfl rfl (GD.f _) (fun hg => LO.fa (r := 3) F32_2 (.r rfl) rfl) rfl <| LL.lg rfl rfl (GD.f _) (fun hg => LO.ixa (j := 0) (r := 3) Try.underlying30 N25 (.g hg rfl) (.g hg rfl) rfl (by decide) rfl) rfl <| LL.lg rfl rfl (GD.f _) (fun hg => LO.lda (vs := [_, _]) A25 (.g hg rfl) (fun _ hw => cells_at hw 1 rfl ⟨_, rfl⟩) rfl) rfl <| LL.lg rfl rfl (GD.f _) (fun hg => LO.fa (r := 1) F25_1 (.r rfl) rfl) rfl <| LL.lg rfl rfl (GD.f _) (fun hg => LO.ld O3 (.g hg rfl) (fun _ hw => cells_at hw 0 rfl ⟨_, rfl⟩)) rfl <| LL.lg rfl rfl (GD.f _) (fun hg => LO.neg (.g hg rfl) (wi (by omega) (by omega))) rfl <| LL.lg rfl rfl (GD.f _) (fun hg => LO.fa (r := 0) F25_0 (.r rfl) rfl) rfl <| LL.lg rfl rfl (GD.f _) (fun hg => LO.ld O3 (.g hg rfl) (fun _ hw => cells_at hw 0 rfl ⟨_, rfl⟩)) rfl <| LL.lg rfl rfl (GD.f _) (fun hg => LO.neg (.g hg rfl) (wi (by omega) (by omega))) rfl <| LL.lg rfl rfl (GD.f _) (fun hg => LO.bd (ps := [(_, _), (_, _)]) (vs := [(_, _), (_, _)]) (C := [_, _]) B25  ⟨(.g hg rfl), (.g hg rfl), trivial⟩ rfl ⟨_, [_], [_, _], rfl, rfl, rfl, rfl, ⟨_, [_], [_, _], rfl, rfl, rfl, rfl, rfl⟩⟩) rfl <| LL.lg rfl rfl (GD.f _) (fun hg => LO.call (xs := [_, _]) (vs := [_, _]) C20 ⟨(.g hg rfl), (.g hg rfl), trivial⟩ (fun w _ => equal_c (hearR t r (mvL fC l)).s0 ⟨-(hearR t r l).s0.hi, -(hearR t r l).s0.lo⟩ w (T.c0 hk3) (by omega) (by omega) (by dsimp only; omega) (by dsimp only; omega))) rfl <| LL.lg rfl rfl (GD.f _) (fun hg => LO.not (.g hg rfl)) rfl <| LL.l (LO.pkO (.r rfl) (.r rfl) rfl rfl) rfl <| LL.nil) (by kernel_rfl) ?_
                refine VE.seqN ?_
                refine VC.cond rfl (fun h229 => ?_) (fun h229 => ?_)
                ·
                  (exfalso; (simp at h229))
                ·
                  refine VC.skip (VE.inN (VE.seqN ?_))
                  refine VC.reg (VO.l (LO.mv (.r rfl)) rfl <| VO.l (LO.add (.r rfl) (.r rfl) (wi (by omega) (by omega))) rfl <| VO.l (LO.as (.r rfl)) rfl <| VO.nil ?_)
                  refine VE.thenN fun a w ha hw => ⟨(0 + 1), (by first | exact .inr (.inl rfl) | exact .inr (.inr rfl)), (by omega), ha.sub (.cons rfl (.cons rfl (.cons rfl (.cons rfl (.cons rfl (.cons rfl .nil)))))), hw.sel [1, 2, 3, 4, 5, 6, 7, 8, 9] rfl⟩
            ·
              refine VC.reg (VO.l (LO.mv (.r rfl)) rfl <| VO.l (LO.fa (r := 3) F32_2 (.r rfl) rfl) rfl <| VO.l (LO.ixa (j := 1) (r := 5) Try.underlying30 N25 (.r rfl) (.r rfl) rfl (by decide) rfl) rfl <| VO.l (LO.lda (vs := [_, _]) A25 (.r rfl) (fun _ hw => cells_at hw 6 rfl ⟨_, rfl⟩) rfl) rfl <| VO.h rfl <| HO.alloc (C := #[_, _]) Z25 rfl fun b24 => VO.h0 <| HO.st 0 (vs := [_, _]) (C' := [_, _]) (L' := [_, _, _, _, _, _, _, _, _, _]) N25 rfl rfl rfl rfl rfl rfl rfl rfl <| VO.nil ?_)
              refine VE.seqN ?_
              refine VC.seq ?_
              refine VC.seq ?_
              refine VC.reg (VO.l (LO.mv (.r rfl)) rfl <| VO.l (LO.eq (.r rfl) (.r rfl)) rfl <| VO.l (LO.mv (.r rfl)) rfl <| VO.lg rfl rfl (GD.t _) (fun hg => LO.fa (r := 1) F23_1 (.r rfl) rfl) rfl <| VO.lg rfl rfl (GD.t _) (fun hg => LO.ld O3 (.g hg rfl) (fun _ hw => cells_at hw 9 rfl ⟨_, rfl⟩)) rfl <| VO.lg rfl rfl (GD.t _) (fun hg => LO.eq (.g hg rfl) (.r rfl)) rfl <| VO.l (LO.pkA (.r rfl) rfl rfl (.r rfl)) rfl <| VO.nil ?_)
              refine VE.seqN ?_
              refine VC.cond rfl (fun h185 => ?_) (fun h185 => ?_)
              ·
                refine VC.seq ?_
                refine VC.seq ?_
                refine VC.reg (VO.l (LO.fa (r := 3) F32_2 (.r rfl) rfl) rfl <| VO.l (LO.ixa (j := 1) (r := 5) Try.underlying30 N25 (.r rfl) (.r rfl) rfl (by decide) rfl) rfl <| VO.l (LO.lda (vs := [_, _]) A25 (.r rfl) (fun _ hw => cells_at hw 2 rfl ⟨_, rfl⟩) rfl) rfl <| VO.l (LO.lda (vs := [_, _]) A25 (.r rfl) (fun _ hw => cells_at hw 0 rfl ⟨_, rfl⟩) rfl) rfl <| VO.l (LO.neA («as» := [_, _]) (bs := [_, _]) EA25 (.r rfl) (.r rfl) rfl rfl) rfl <| VO.l (LO.mv (.r rfl)) rfl <| VO.lg rfl rfl (GD.f _) (fun hg => LO.fa (r := 3) F32_2 (.r rfl) rfl) rfl <| VO.lg rfl rfl (GD.f _) (fun hg => LO.ixa (j := 1) (r := 5) Try.underlying30 N25 (.g hg rfl) (.r rfl) rfl (by decide) rfl) rfl <| VO.lg rfl rfl (GD.f _) (fun hg => LO.lda (vs := [_, _]) A25 (.g hg rfl) (fun _ hw => cells_at hw 1 rfl ⟨_, rfl⟩) rfl) rfl <| VO.lg rfl rfl (GD.f _) (fun hg => LO.lda (vs := [_, _]) A25 (.r rfl) (fun _ hw => cells_at hw 0 rfl ⟨_, rfl⟩) rfl) rfl <| VO.lg rfl rfl (GD.f _) (fun hg => LO.neA («as» := [_, _]) (bs := [_, _]) EA25 (.g hg rfl) (.g hg rfl) rfl rfl) rfl <| VO.l (LO.pkO (.r rfl) (.r rfl) rfl rfl) rfl <| VO.nil ?_)
                refine VE.seqN ?_
                refine VC.cond rfl (fun h197 => ?_) (fun h197 => ?_)
                ·
                  (exfalso; (have q := T.one hk3 h185.2; simp [q.1, q.2] at h197))
                ·
                  refine VC.skip (VE.seqN ?_)
                  refine VC.exit (VE.thenX (VE.inX (VE.seqN ?_)))
                  refine VC.reg (VO.l (LO.mv (.r rfl)) rfl <| VO.l (LO.add (.r rfl) (.r rfl) (wi (by omega) (by omega))) rfl <| VO.l (LO.as (.r rfl)) rfl <| VO.nil ?_)
                  refine VE.thenN fun a w ha hw => ⟨(1 + 1), (by first | exact .inr (.inl rfl) | exact .inr (.inr rfl)), (by omega), ha.sub (.cons rfl (.cons rfl (.cons rfl (.cons rfl (.cons rfl (.cons rfl .nil)))))), hw.sel [1, 2, 3, 4, 5, 6, 7, 8, 9] rfl⟩
              ·
                refine VC.skip (VE.seqN ?_)
                refine VC.seq ?_
                refine VC.draw mixed (LL.l (LO.mv (.r rfl)) rfl <| LL.l (LO.fa (r := 3) F32_2 (.r rfl) rfl) rfl <| LL.l (LO.ixa (j := 1) (r := 5) Try.underlying30 N25 (.r rfl) (.r rfl) rfl (by decide) rfl) rfl <| LL.l (LO.lda (vs := [_, _]) A25 (.r rfl) (fun _ hw => cells_at hw 2 rfl ⟨_, rfl⟩) rfl) rfl <| LL.l (LO.fa (r := 0) F25_0 (.r rfl) rfl) rfl <| LL.l (LO.ld O3 (.r rfl) (fun _ hw => cells_at hw 0 rfl ⟨_, rfl⟩)) rfl <| LL.l (LO.mv (.r rfl)) rfl <| LL.l (LO.cv ⟨_, Try.underlying42⟩ Try.underlying3 (.r rfl) hcr) rfl <| LL.l (LO.add (.r rfl) (.r rfl) (wi (by omega) (by omega))) rfl <| LL.l (LO.fa (r := 1) F25_1 (.r rfl) rfl) rfl <| LL.l (LO.ld O3 (.r rfl) (fun _ hw => cells_at hw 0 rfl ⟨_, rfl⟩)) rfl <| LL.l (LO.mv (.r rfl)) rfl <| LL.l (LO.cv ⟨_, Try.underlying42⟩ Try.underlying3 (.r rfl) hcr) rfl <| LL.l (LO.add (.r rfl) (.r rfl) (wi (by omega) (by omega))) rfl <| LL.l (LO.bd (ps := [(_, _), (_, _)]) (vs := [(_, _), (_, _)]) (C := [_, _]) B25  ⟨(.r rfl), (.r rfl), trivial⟩ rfl ⟨_, [_], [_, _], rfl, rfl, rfl, rfl, ⟨_, [_], [_, _], rfl, rfl, rfl, rfl, rfl⟩⟩) rfl <| LL.l (LO.call (xs := [_, _]) (vs := [_, _]) C20 ⟨(.r rfl), (.r rfl), trivial⟩ (fun w _ => equal_c (hearR t r (mvL (fB run) l)).s1 ⟨(hearR t r l).s1.lo + run, (hearR t r l).s1.hi + run⟩ w (T.b1 hk3 (fun q => h185 ⟨rfl, q⟩)) (by omega) (by omega) (by dsimp only; omega) (by dsimp only; omega))) rfl <| LL.l (LO.not (.r rfl)) rfl <| LL.l (LO.mv (.r rfl)) rfl <| LL.lg rfl rfl (GD.f _) (fun hg => LO.mv (.r rfl)) rfl <| LL.lg rfl rfl (GD.f _) (fun hg => LO.fa (r := 3) F32_2 (.r rfl) rfl) rfl <| LL.lg rfl rfl (GD.f _) (fun hg => LO.ixa (j := 1) (r := 5) Try.underlying30 N25 (.g hg rfl) (.g hg rfl) rfl (by decide) rfl) rfl <| LL.lg rfl rfl (GD.f _) (fun hg => LO.lda (vs := [_, _]) A25 (.g hg rfl) (fun _ hw => cells_at hw 1 rfl ⟨_, rfl⟩) rfl) rfl <| LL.lg rfl rfl (GD.f _) (fun hg => LO.fa (r := 1) F25_1 (.r rfl) rfl) rfl <| LL.lg rfl rfl (GD.f _) (fun hg => LO.ld O3 (.g hg rfl) (fun _ hw => cells_at hw 0 rfl ⟨_, rfl⟩)) rfl <| LL.lg rfl rfl (GD.f _) (fun hg => LO.neg (.g hg rfl) (wi (by omega) (by omega))) rfl <| LL.lg rfl rfl (GD.f _) (fun hg => LO.fa (r := 0) F25_0 (.r rfl) rfl) rfl <| LL.lg rfl rfl (GD.f _) (fun hg => LO.ld O3 (.g hg rfl) (fun _ hw => cells_at hw 0 rfl ⟨_, rfl⟩)) rfl <| LL.lg rfl rfl (GD.f _) (fun hg => LO.neg (.g hg rfl) (wi (by omega) (by omega))) rfl <| LL.lg rfl rfl (GD.f _) (fun hg => LO.bd (ps := [(_, _), (_, _)]) (vs := [(_, _), (_, _)]) (C := [_, _]) B25  ⟨(.g hg rfl), (.g hg rfl), trivial⟩ rfl ⟨_, [_], [_, _], rfl, rfl, rfl, rfl, ⟨_, [_], [_, _], rfl, rfl, rfl, rfl, rfl⟩⟩) rfl <| LL.lg rfl rfl (GD.f _) (fun hg => LO.call (xs := [_, _]) (vs := [_, _]) C20 ⟨(.g hg rfl), (.g hg rfl), trivial⟩ (fun w _ => equal_c (hearR t r (mvL fC l)).s1 ⟨-(hearR t r l).s1.hi, -(hearR t r l).s1.lo⟩ w (T.c1 hk3 (fun q => h185 ⟨rfl, q⟩)) (by omega) (by omega) (by dsimp only; omega) (by dsimp only; omega))) rfl <| LL.lg rfl rfl (GD.f _) (fun hg => LO.not (.g hg rfl)) rfl <| LL.l (LO.pkO (.r rfl) (.r rfl) rfl rfl) rfl <| LL.nil) (by kernel_rfl) ?_
                refine VE.seqN ?_
                refine VC.cond rfl (fun h229 => ?_) (fun h229 => ?_)
                ·
                  (exfalso; (simp at h229))
                ·
                  refine VC.skip (VE.inN (VE.seqN ?_))
                  refine VC.reg (VO.l (LO.mv (.r rfl)) rfl <| VO.l (LO.add (.r rfl) (.r rfl) (wi (by omega) (by omega))) rfl <| VO.l (LO.as (.r rfl)) rfl <| VO.nil ?_)
                  refine VE.thenN fun a w ha hw => ⟨(1 + 1), (by first | exact .inr (.inl rfl) | exact .inr (.inr rfl)), (by omega), ha.sub (.cons rfl (.cons rfl (.cons rfl (.cons rfl (.cons rfl (.cons rfl .nil)))))), hw.sel [1, 2, 3, 4, 5, 6, 7, 8, 9] rfl⟩
            ·
              (exfalso; omega)
          ·
            refine VC.exit (VE.thenX (VE.thenX (VE.inX (VE.seqN ?_))))
            refine VC.seq ?_
            refine VC.seq ?_
            refine VC.reg (VO.l (LO.fa (r := 0) F32_0 (.r rfl) rfl) rfl <| VO.l (LO.ld O3 (.r rfl) (fun _ hw => cells_at hw 6 rfl ⟨_, rfl⟩)) rfl <| VO.l (LO.eq (.r rfl) (.r rfl)) rfl <| VO.l (LO.mv (.r rfl)) rfl <| VO.lg rfl rfl (GD.t _) (fun hg => LO.fa (r := 12) F32_6 (.r rfl) rfl) rfl <| VO.lg rfl rfl (GD.t _) (fun hg => LO.lda (vs := [_, _]) A25 (.g hg rfl) (fun _ hw => cells_at hw 0 rfl ⟨_, rfl⟩) rfl) rfl <| VO.lg rfl rfl (GD.t _) (fun hg => LO.fa (r := 12) F32_6 (.r rfl) rfl) rfl <| VO.lg rfl rfl (GD.t _) (fun hg => LO.fa (r := 13) F25_1 (.g hg rfl) rfl) rfl <| VO.lg rfl rfl (GD.t _) (fun hg => LO.ld O3 (.g hg rfl) (fun _ hw => cells_at hw 6 rfl ⟨_, rfl⟩)) rfl <| VO.lg rfl rfl (GD.t _) (fun hg => LO.neg (.g hg rfl) (by have q := IsP.yes inferInstance hg; have o := T.ok q; unfold turnS at o; exact wi (by omega) (by omega))) rfl <| VO.lg rfl rfl (GD.t _) (fun hg => LO.fa (r := 12) F32_6 (.r rfl) rfl) rfl <| VO.lg rfl rfl (GD.t _) (fun hg => LO.fa (r := 12) F25_0 (.g hg rfl) rfl) rfl <| VO.lg rfl rfl (GD.t _) (fun hg => LO.ld O3 (.g hg rfl) (fun _ hw => cells_at hw 6 rfl ⟨_, rfl⟩)) rfl <| VO.lg rfl rfl (GD.t _) (fun hg => LO.neg (.g hg rfl) (by have q := IsP.yes inferInstance hg; have o := T.ok q; unfold turnS at o; exact wi (by omega) (by omega))) rfl <| VO.lg rfl rfl (GD.t _) (fun hg => LO.bd (ps := [(_, _), (_, _)]) (vs := [(_, _), (_, _)]) (C := [_, _]) B25  ⟨(.g hg rfl), (.g hg rfl), trivial⟩ rfl ⟨_, [_], [_, _], rfl, rfl, rfl, rfl, ⟨_, [_], [_, _], rfl, rfl, rfl, rfl, rfl⟩⟩) rfl <| VO.lg rfl rfl (GD.t _) (fun hg => LO.call (xs := [_, _]) (vs := [_, _]) C20 ⟨(.g hg rfl), (.g hg rfl), trivial⟩ (by have q := IsP.yes inferInstance hg; exact fun w _ => equal_c (hearR t r (mvL fC l)).turn ⟨-(hearR t r l).turn.hi, -(hearR t r l).turn.lo⟩ w (T.ct q) (by have o := T.ok q; unfold turnS at o; omega) (by have o := T.ok q; unfold turnS at o; omega) (by have o := T.ok q; unfold turnS at o; dsimp only; omega) (by have o := T.ok q; unfold turnS at o; dsimp only; omega))) rfl <| VO.lg rfl rfl (GD.t _) (fun hg => LO.not (.g hg rfl)) rfl <| VO.l (LO.pkA (.r rfl) rfl rfl (.r rfl)) rfl <| VO.nil ?_)
            refine VE.seqN ?_
            refine VC.cond rfl (fun h247 => ?_) (fun h247 => ?_)
            ·
              (exfalso; (simp at h247))
            ·
              refine VC.skip (VE.seqN ?_)
              refine VC.seq ?_
              refine VC.reg (VO.l (LO.bda (ps := []) (vs := []) (C := [_, _, _, _]) B30 rfl trivial rfl rfl) rfl <| VO.l (LO.bda (ps := []) (vs := []) (C := [_, _, _, _]) B30 rfl trivial rfl rfl) rfl <| VO.l (LO.bda (ps := []) (vs := []) (C := [_, _, _, _]) B30 rfl trivial rfl rfl) rfl <| VO.l (LO.fa (r := 3) F32_2 (.r rfl) rfl) rfl <| VO.h0 <| HO.st 1 (vs := [_, _, _, _]) (C' := [_, _, _, _, _, _, _, _, _, _, _, _, _, _]) (L' := [_, _, _, _, _, _, _, _, _]) N30 rfl rfl rfl rfl rfl rfl rfl rfl <| VO.l (LO.fa (r := 3) F32_2 (.r rfl) rfl) rfl <| VO.h0 <| HO.st 0 (vs := [_, _, _, _]) (C' := [_, _, _, _, _, _, _, _, _, _, _, _, _, _]) (L' := [_, _, _, _, _, _, _, _, _]) N30 rfl rfl rfl rfl rfl rfl rfl rfl <| VO.l (LO.fa (r := 3) F32_2 (.r rfl) rfl) rfl <| VO.h0 <| HO.st 6 (vs := [_, _, _, _]) (C' := [_, _, _, _, _, _, _, _, _, _, _, _, _, _]) (L' := [_, _, _, _, _, _, _, _, _]) N30 rfl rfl rfl rfl rfl rfl rfl rfl <| VO.nil ?_)
              refine VE.seqN ?_
              refine VC.seq ?_
              refine VC.reg (VO.l (LO.bd (ps := []) (vs := []) (C := [_, _]) B25  trivial rfl rfl) rfl <| VO.l (LO.bd (ps := []) (vs := []) (C := [_, _]) B25  trivial rfl rfl) rfl <| VO.l (LO.bd (ps := []) (vs := []) (C := [_, _]) B25  trivial rfl rfl) rfl <| VO.l (LO.fa (r := 12) F32_6 (.r rfl) rfl) rfl <| VO.h0 <| HO.st 0 (vs := [_, _]) (C' := [_, _, _, _, _, _, _, _, _, _, _, _, _, _]) (L' := [_, _, _, _, _, _, _, _, _]) N25 rfl rfl rfl rfl rfl rfl rfl rfl <| VO.l (LO.fa (r := 12) F32_6 (.r rfl) rfl) rfl <| VO.h0 <| HO.st 1 (vs := [_, _]) (C' := [_, _, _, _, _, _, _, _, _, _, _, _, _, _]) (L' := [_, _, _, _, _, _, _, _, _]) N25 rfl rfl rfl rfl rfl rfl rfl rfl <| VO.l (LO.fa (r := 12) F32_6 (.r rfl) rfl) rfl <| VO.h0 <| HO.st 6 (vs := [_, _]) (C' := [_, _, _, _, _, _, _, _, _, _, _, _, _, _]) (L' := [_, _, _, _, _, _, _, _, _]) N25 rfl rfl rfl rfl rfl rfl rfl rfl <| VO.nil ?_)
              refine VE.seqN ?_
              refine VC.seq ?_
              refine VC.reg (VO.l (LO.lda (vs := [_, _, _, _, _, _, _, _, _, _, _, _, _, _]) A32 (.r rfl) (fun _ hw => cells_at hw 1 rfl ⟨_, rfl⟩) rfl) rfl <| VO.l (LO.lda (vs := [_, _, _, _, _, _, _, _, _, _, _, _, _, _]) A32 (.r rfl) (fun _ hw => cells_at hw 6 rfl ⟨_, rfl⟩) rfl) rfl <| VO.l (LO.eqA («as» := [_, _, _, _, _, _, _, _, _, _, _, _, _, _]) (bs := [_, _, _, _, _, _, _, _, _, _, _, _, _, _]) EA32 (.r rfl) (.r rfl) rfl rfl) rfl <| VO.l (LO.mv (.r rfl)) rfl <| VO.lg rfl rfl (GD.t _) (fun hg => LO.lda (vs := [_, _, _, _, _, _, _, _, _, _, _, _, _, _]) A32 (.r rfl) (fun _ hw => cells_at hw 0 rfl ⟨_, rfl⟩) rfl) rfl <| VO.lg rfl rfl (GD.t _) (fun hg => LO.lda (vs := [_, _, _, _, _, _, _, _, _, _, _, _, _, _]) A32 (.r rfl) (fun _ hw => cells_at hw 6 rfl ⟨_, rfl⟩) rfl) rfl <| VO.lg rfl rfl (GD.t _) (fun hg => LO.eqA («as» := [_, _, _, _, _, _, _, _, _, _, _, _, _, _]) (bs := [_, _, _, _, _, _, _, _, _, _, _, _, _, _]) EA32 (.g hg rfl) (.g hg rfl) rfl rfl) rfl <| VO.l (LO.pkA (.r rfl) rfl rfl (.r rfl)) rfl <| VO.l (LO.mv (.r rfl)) rfl <| VO.lg rfl rfl (GD.t _) (fun hg => LO.call (xs := []) (vs := []) C15 trivial (fun w _ => works_c w)) rfl <| VO.l (LO.pkA (.r rfl) rfl rfl (.r rfl)) rfl <| VO.l (LO.as (.r rfl)) rfl <| VO.nil ?_)
              refine VE.seqN ?_
              refine VC.ret (VE.res (vs := [_]) rfl ⟨rfl, trivial⟩ (fun w hw => ?_))
              first | exact ⟨rfl, hw.nil⟩ | exact ⟨by have q1 := congrArg Echo.ints T.eb; have q2 := congrArg Echo.ints T.ec; unfold clr Echo.ints zs at q1 q2; dsimp only at q1 q2; simp only [resV]; simp [q1, q2], hw.nil⟩

end Go.Proofs.Ytcnlhifkablmkaa
