/-
  The program hears what is valid.
-/
import Derived.Test.YtcnlhifkablmkaaW7
namespace Go.Proofs.Ytcnlhifkablmkaa
open Go.SL Go.Proofs Go.Pulse
set_option linter.unusedVariables false

theorem C25 : IsFn Try.prog 25 := ⟨_, Try.func25, by decide, rfl⟩
theorem A27 : IsAgg Try.prog 27 4 := ⟨⟨_, Try.underlying27, rfl⟩, by kernel_rfl⟩
theorem C27 : IsFn Try.prog 27 := ⟨_, Try.func27, by decide, rfl⟩
theorem C47 : IsFn Try.prog 47 := ⟨_, Try.func47, by decide, rfl⟩
theorem Z23 : ZeroOf Try.prog 23 (.agg #[.int .i64 0, .int .i64 0, .int .i64 0, .int .i64 0, .int .i64 0]) := by unfold ZeroOf; kernel_rfl
theorem B23 : Builds Try.prog 23 [(0, 1), (1, 1), (2, 1), (3, 1), (4, 1)] [.int .i64 0, .int .i64 0, .int .i64 0, .int .i64 0, .int .i64 0] := Builds.mk fun _ => by kernel_rfl
theorem N23 : (Try.prog.info? 23).map (·.size) = some 5 := by kernel_rfl
theorem B44 : Builds Try.prog 44 [(0, 1), (1, 1), (2, 1), (3, 1)] [.int .i64 0, .int .i64 0, .int .i64 0, .int .i64 0] := Builds.mk fun _ => by kernel_rfl


def tO : Train := ⟨100000, 1, 1000, 0, 4⟩
def rO : Recv := ⟨0, 0, 0, 0⟩
def fourL : List Sample := [⟨10, 0, 5, 0⟩, ⟨10, 100, 5, 100⟩, ⟨10, 220, 5, 220⟩, ⟨10, 330, 5, 330⟩]
def hE0 : Echo := ⟨3, ⟨100, 100⟩, ⟨110, 110⟩, ⟨0, 0⟩, 20, ⟨250, 250⟩, ⟨1000, 1000⟩, ⟨0, 0⟩⟩
theorem train_of {t : Train} (h : ¬ ¬ trainE t = 0) : kndOk t.kind ∧ trainOk t := by
  have h := Classical.not_not.1 h
  unfold trainE at h
  by_cases k : kndOk t.kind
  · rw [if_pos k] at h
    by_cases q : trainOk t
    · exact ⟨k, q⟩
    · rw [if_neg q] at h; exact absurd h (by decide)
  · rw [if_neg k] at h; exact absurd h (by decide)
theorem recv_of {r : Recv} (h : ¬ ¬ recvE r = 0) : recvOk r := by
  have h := Classical.not_not.1 h
  unfold recvE at h
  by_cases q : recvOk r
  · exact q
  · rw [if_neg q] at h; exact absurd h (by decide)
theorem all_smp {l : List Sample} {j : Nat} (hz : ∀ k, k < j → smpOk (l.getD k zSm)) (hj : l.length ≤ j) : ∀ x ∈ l, smpOk x := fun x hx => by
  obtain ⟨k, hk, rfl⟩ := mem_getD (d := zSm) hx
  exact hz k (by omega)
section
variable {t : Train} {r : Recv} {l : List Sample}
theorem hE1 (h : ¬ trainE t = 0) : hearE t r l = trainE t := if_pos h
theorem hE2 (h : ¬ ¬ trainE t = 0) (k : ¬ recvE r = 0) : hearE t r l = recvE r := by unfold hearE; rw [if_neg h, if_pos k]
theorem hE3 (h : ¬ ¬ trainE t = 0) (k : ¬ ¬ recvE r = 0) (q : ¬ (l.length : Int) = t.count) : hearE t r l = 11 := by unfold hearE; rw [if_neg h, if_neg k, if_pos q]
theorem hE4 {j : Nat} (h : ¬ ¬ trainE t = 0) (k : ¬ ¬ recvE r = 0) (q : ¬ ¬ (l.length : Int) = t.count) (hj : j < l.length) (hb : ¬ smpOk (l.getD j zSm)) : hearE t r l = 3 := by
  unfold hearE; rw [if_neg h, if_neg k, if_neg q, if_neg (fun a => hb (a _ (getD_mem hj)))]
theorem hE5 {j : Nat} (h : ¬ ¬ trainE t = 0) (k : ¬ ¬ recvE r = 0) (q : ¬ ¬ (l.length : Int) = t.count) (hz : ∀ k, k < j → smpOk (l.getD k zSm)) (hj : l.length ≤ j) : hearE t r l = 0 := by
  unfold hearE; rw [if_neg h, if_neg k, if_neg q, if_pos (all_smp hz hj)]
theorem hX {n : Int} (h : hearE t r l = n) (hn : ¬ n = 0) : Ending.returned (.tuple #[.agg #[.int .i64 0, .int .i64 0, .int .i64 0, .int .i64 0, .int .i64 0, .int .i64 0, .int .i64 0, .int .i64 0, .int .i64 0, .int .i64 0, .int .i64 0, .int .i64 0, .int .i64 0, .int .i64 0], .int .i64 n]) = .returned (.tuple #[echoV (hearR t r l), .int .i64 (hearE t r l)]) := by
  have e : hearR t r l = zE := if_neg (by rw [h]; exact hn)
  rw [e, h]; rfl
theorem hX0 (h : hearE t r l = 0) : Ending.returned (.tuple #[echoV (hearX t r l), .int .i64 0]) = .returned (.tuple #[echoV (hearR t r l), .int .i64 (hearE t r l)]) := by
  have e : hearR t r l = hearX t r l := if_pos h
  rw [e, h]
end

set_option maxRecDepth 20000 in
theorem Hear_c (t : Train) (r : Recv) (l : List Sample) (p : Option Addr) (c : Nat) (w : World) (hn : l.length < 1000000000) (hc : l.length ≤ c) (hl : Smps w p l) :
  Calls Try.prog 16 #[trainV t, recvV r, .slice p l.length c] w fun e w' => e = .returned (.tuple #[echoV (hearR t r l), .int .i64 (hearE t r l)]) ∧ St (bs w) [] w' := by
  refine enter (vs := [_, _, _]) (env := [(0, _), (1, _), (2, _)]) Try.func16 rfl rfl rfl rfl ?_
  refine VC.seq ?_
  refine VC.reg (VO.h rfl <| HO.box (C := #[_, _, _, _, _]) rfl rfl fun b1 => VO.h rfl <| HO.box (C := #[_, _, _, _]) rfl rfl fun b2 => VO.h rfl <| HO.alloc (C := #[_, _, _, _, _, _, _, _, _, _, _, _, _, _]) Z32 rfl fun b3 => VO.l (LO.as (.r rfl)) rfl <| VO.nil ?_)
  refine VE.seqN ?_
  refine VC.seq ?_
  refine VC.seq ?_
  refine VC.reg (VO.l (LO.lda (vs := [_, _, _, _, _]) A23 (.r rfl) (fun _ hw => cells_at hw 2 rfl ⟨_, rfl⟩) rfl) rfl <| VO.l (LO.call (xs := [_]) (vs := [_]) C25 ⟨(.r rfl), trivial⟩ (fun w _ => trainP_c t w)) rfl <| VO.l (LO.as (.r rfl)) rfl <| VO.nil ?_)
  refine VE.seqN ?_
  refine VC.seq ?_
  refine VC.reg (VO.l (LO.mv (.r rfl)) rfl <| VO.l (LO.ne (.r rfl) (.r rfl)) rfl <| VO.nil ?_)
  refine VE.seqN ?_
  refine VC.cond rfl (fun h15 => ?_) (fun h15 => ?_)
  ·
    refine VC.seq ?_
    refine VC.reg (VO.l (LO.bd (ps := []) (vs := []) (C := [_, _, _, _, _, _, _, _, _, _, _, _, _, _]) B32  trivial rfl rfl) rfl <| VO.l (LO.mv (.r rfl)) rfl <| VO.h0 <| HO.st 0 (vs := [_, _, _, _, _, _, _, _, _, _, _, _, _, _]) (C' := [_, _, _, _, _, _, _, _, _, _, _, _, _, _]) (L' := [_, _, _]) N32 rfl rfl rfl rfl rfl rfl rfl rfl <| VO.l (LO.as (.r rfl)) rfl <| VO.nil ?_)
    refine VE.seqN ?_
    refine VC.ret (VE.thenR (VE.res (vs := [_, _]) rfl ⟨RV.agg (vs := [_, _, _, _, _, _, _, _, _, _, _, _, _, _]) A32 rfl (cells_blk 0 rfl ⟨_, rfl⟩) rfl, rfl, trivial⟩ (fun w hw => ?_)))
    refine ⟨?_, hw.nil⟩
    simp only [resV]
    first | exact hX (hE1 h15) h15 | exact hX (hE2 h15 h21) h21 | exact hX (hE3 h15 h21 h28) (by decide) | exact hX (hE4 h15 h21 h28 (j := j) (by omega) (by unfold smpOk; unfold wr at h67; omega)) (by decide) | exact hX0 (hE5 h15 h21 h28 hz (by omega))
  ·
    refine VC.skip (VE.seqN ?_)
    refine VC.seq ?_
    refine VC.seq ?_
    refine VC.reg (VO.l (LO.lda (vs := [_, _, _, _]) A27 (.r rfl) (fun _ hw => cells_at hw 1 rfl ⟨_, rfl⟩) rfl) rfl <| VO.l (LO.call (xs := [_]) (vs := [_]) C27 ⟨(.r rfl), trivial⟩ (fun w _ => recvP_c r w)) rfl <| VO.l (LO.as (.r rfl)) rfl <| VO.nil ?_)
    refine VE.seqN ?_
    refine VC.seq ?_
    refine VC.reg (VO.l (LO.mv (.r rfl)) rfl <| VO.l (LO.ne (.r rfl) (.r rfl)) rfl <| VO.nil ?_)
    refine VE.seqN ?_
    refine VC.cond rfl (fun h21 => ?_) (fun h21 => ?_)
    ·
      refine VC.seq ?_
      refine VC.reg (VO.l (LO.bd (ps := []) (vs := []) (C := [_, _, _, _, _, _, _, _, _, _, _, _, _, _]) B32  trivial rfl rfl) rfl <| VO.l (LO.mv (.r rfl)) rfl <| VO.h0 <| HO.st 0 (vs := [_, _, _, _, _, _, _, _, _, _, _, _, _, _]) (C' := [_, _, _, _, _, _, _, _, _, _, _, _, _, _]) (L' := [_, _, _]) N32 rfl rfl rfl rfl rfl rfl rfl rfl <| VO.l (LO.as (.r rfl)) rfl <| VO.nil ?_)
      refine VE.seqN ?_
      refine VC.ret (VE.thenR (VE.res (vs := [_, _]) rfl ⟨RV.agg (vs := [_, _, _, _, _, _, _, _, _, _, _, _, _, _]) A32 rfl (cells_blk 0 rfl ⟨_, rfl⟩) rfl, rfl, trivial⟩ (fun w hw => ?_)))
      refine ⟨?_, hw.nil⟩
      simp only [resV]
      first | exact hX (hE1 h15) h15 | exact hX (hE2 h15 h21) h21 | exact hX (hE3 h15 h21 h28) (by decide) | exact hX (hE4 h15 h21 h28 (j := j) (by omega) (by unfold smpOk; unfold wr at h67; omega)) (by decide) | exact hX0 (hE5 h15 h21 h28 hz (by omega))
    ·
      refine VC.skip (VE.seqN ?_)
      refine VC.seq ?_
      refine VC.seq ?_
      refine VC.reg (VO.l (LO.mv (.r rfl)) rfl <| VO.l (LO.len S28 (.r rfl) rfl) rfl <| VO.l (LO.fa (r := 4) F23_4 (.r rfl) rfl) rfl <| VO.l (LO.ld O3 (.r rfl) (fun _ hw => cells_at hw 2 rfl ⟨_, rfl⟩)) rfl <| VO.l (LO.ne (.r rfl) (.r rfl)) rfl <| VO.nil ?_)
      refine VE.seqN ?_
      refine VC.cond rfl (fun h28 => ?_) (fun h28 => ?_)
      ·
        refine VC.seq ?_
        refine VC.reg (VO.l (LO.bd (ps := []) (vs := []) (C := [_, _, _, _, _, _, _, _, _, _, _, _, _, _]) B32  trivial rfl rfl) rfl <| VO.h0 <| HO.st 0 (vs := [_, _, _, _, _, _, _, _, _, _, _, _, _, _]) (C' := [_, _, _, _, _, _, _, _, _, _, _, _, _, _]) (L' := [_, _, _]) N32 rfl rfl rfl rfl rfl rfl rfl rfl <| VO.l (LO.as (.r rfl)) rfl <| VO.nil ?_)
        refine VE.seqN ?_
        refine VC.ret (VE.thenR (VE.res (vs := [_, _]) rfl ⟨RV.agg (vs := [_, _, _, _, _, _, _, _, _, _, _, _, _, _]) A32 rfl (cells_blk 0 rfl ⟨_, rfl⟩) rfl, rfl, trivial⟩ (fun w hw => ?_)))
        refine ⟨?_, hw.nil⟩
        simp only [resV]
        first | exact hX (hE1 h15) h15 | exact hX (hE2 h15 h21) h21 | exact hX (hE3 h15 h21 h28) (by decide) | exact hX (hE4 h15 h21 h28 (j := j) (by omega) (by unfold smpOk; unfold wr at h67; omega)) (by decide) | exact hX0 (hE5 h15 h21 h28 hz (by omega))
      ·
        refine VC.skip (VE.seqN ?_)
        refine VC.seq ?_
        refine VC.seq ?_
        refine VC.reg (VO.l (LO.mv (.r rfl)) rfl <| VO.l (LO.len S28 (.r rfl) rfl) rfl <| VO.l (LO.mv (.r rfl)) rfl <| VO.nil ?_)
        refine VE.seqN ?_
        refine VC.block ?_
        refine VC.loopK (α := Nat) 0 (fun gx => [(32, .int .i64 (gx : Nat))]) [(2, _), (3, _), (4, _), (6, _), (30, _), (31, _)] (fun gx => []) (fun gx => gx ≤ l.length ∧ ∀ k, k < gx → smpOk (l.getD k zSm)) (fun gx => l.length - gx) 0 (by exact ⟨by omega, fun k hk => by omega⟩) (.cons rfl (.cons rfl (.cons rfl (.cons rfl (.cons rfl (.cons rfl (.cons rfl .nil))))))) (fun _ h => h) ?_
        rintro j ⟨hj, hz⟩
        refine VC.seq ?_
        refine VC.reg (VO.l (LO.lt (.r rfl) (.r rfl)) rfl <| VO.nil ?_)
        refine VE.seqN ?_
        refine VC.seq ?_
        refine VC.cond rfl (fun h4 => ?_) (fun h4 => ?_)
        ·
          refine VC.skip (VE.seqN ?_)
          refine VC.seq ?_
          refine VC.block ?_
          refine VC.seq ?_
          refine VC.reg (VO.l (LO.ixs S28 N44 hl.sm (.r rfl) (.r rfl) rfl (by omega)) rfl <| VO.l (LO.lda (vs := [_, _, _, _]) A44 (.r rfl) (fun w hw => cells_part (off := 0) ((hl.at zSm (j := j) (by omega)) w hw) ⟨_, rfl⟩) rfl) rfl <| VO.h rfl <| HO.alloc (C := #[_, _, _, _]) Z44 rfl fun b7 => VO.h0 <| HO.st 0 (vs := [_, _, _, _]) (C' := [_, _, _, _]) (L' := [_, _, _, _]) N44 rfl rfl rfl rfl rfl rfl rfl rfl <| VO.nil ?_)
          refine VE.seqN ?_
          refine VC.seq ?_
          refine VC.draw mixed (LL.l (LO.fa (r := 0) F44_0 (.r rfl) rfl) rfl <| LL.l (LO.ld O3 (.r rfl) (fun _ hw => cells_at hw 0 rfl ⟨_, rfl⟩)) rfl <| LL.l (LO.fa (r := 2) F44_2 (.r rfl) rfl) rfl <| LL.l (LO.ld O3 (.r rfl) (fun _ hw => cells_at hw 0 rfl ⟨_, rfl⟩)) rfl <| LL.l (LO.min (.r rfl) (.r rfl)) rfl <| LL.l (LO.call (xs := [_, _, _]) (vs := [_, _, _]) C45 ⟨(.r rfl), (.r rfl), (.r rfl), trivial⟩ (fun w _ => within_c _ _ _ w)) rfl <| LL.l (LO.not (.r rfl)) rfl <| LL.l (LO.mv (.r rfl)) rfl <| LL.lg rfl rfl (GD.f _) (fun hg => LO.fa (r := 0) F44_0 (.r rfl) rfl) rfl <| LL.lg rfl rfl (GD.f _) (fun hg => LO.ld O3 (.g hg rfl) (fun _ hw => cells_at hw 0 rfl ⟨_, rfl⟩)) rfl <| LL.lg rfl rfl (GD.f _) (fun hg => LO.fa (r := 2) F44_2 (.r rfl) rfl) rfl <| LL.lg rfl rfl (GD.f _) (fun hg => LO.ld O3 (.g hg rfl) (fun _ hw => cells_at hw 0 rfl ⟨_, rfl⟩)) rfl <| LL.lg rfl rfl (GD.f _) (fun hg => LO.max (.g hg rfl) (.g hg rfl)) rfl <| LL.lg rfl rfl (GD.f _) (fun hg => LO.call (xs := [_, _, _]) (vs := [_, _, _]) C45 ⟨(.g hg rfl), (.r rfl), (.r rfl), trivial⟩ (fun w _ => within_c _ _ _ w)) rfl <| LL.lg rfl rfl (GD.f _) (fun hg => LO.not (.g hg rfl)) rfl <| LL.l (LO.pkO (.r rfl) (.r rfl) rfl rfl) rfl <| LL.l (LO.mv (.r rfl)) rfl <| LL.lg rfl rfl (GD.f _) (fun hg => LO.fa (r := 1) F44_1 (.r rfl) rfl) rfl <| LL.lg rfl rfl (GD.f _) (fun hg => LO.ld O3 (.g hg rfl) (fun _ hw => cells_at hw 0 rfl ⟨_, rfl⟩)) rfl <| LL.lg rfl rfl (GD.f _) (fun hg => LO.call (xs := [_]) (vs := [_]) C46 ⟨(.g hg rfl), trivial⟩ (fun w _ => wrap_c _ w)) rfl <| LL.lg rfl rfl (GD.f _) (fun hg => LO.fa (r := 1) F44_1 (.r rfl) rfl) rfl <| LL.lg rfl rfl (GD.f _) (fun hg => LO.ld O3 (.g hg rfl) (fun _ hw => cells_at hw 0 rfl ⟨_, rfl⟩)) rfl <| LL.lg rfl rfl (GD.f _) (fun hg => LO.ne (.g hg rfl) (.g hg rfl)) rfl <| LL.l (LO.pkO (.r rfl) (.r rfl) rfl rfl) rfl <| LL.l (LO.mv (.r rfl)) rfl <| LL.lg rfl rfl (GD.f _) (fun hg => LO.fa (r := 3) F44_3 (.r rfl) rfl) rfl <| LL.lg rfl rfl (GD.f _) (fun hg => LO.ld O3 (.g hg rfl) (fun _ hw => cells_at hw 0 rfl ⟨_, rfl⟩)) rfl <| LL.lg rfl rfl (GD.f _) (fun hg => LO.call (xs := [_]) (vs := [_]) C46 ⟨(.g hg rfl), trivial⟩ (fun w _ => wrap_c _ w)) rfl <| LL.lg rfl rfl (GD.f _) (fun hg => LO.fa (r := 3) F44_3 (.r rfl) rfl) rfl <| LL.lg rfl rfl (GD.f _) (fun hg => LO.ld O3 (.g hg rfl) (fun _ hw => cells_at hw 0 rfl ⟨_, rfl⟩)) rfl <| LL.lg rfl rfl (GD.f _) (fun hg => LO.ne (.g hg rfl) (.g hg rfl)) rfl <| LL.l (LO.pkO (.r rfl) (.r rfl) rfl rfl) rfl <| LL.nil) (by kernel_rfl) ?_
          refine VE.seqN ?_
          refine VC.cond rfl (fun h67 => ?_) (fun h67 => ?_)
          ·
            refine VC.seq ?_
            refine VC.reg (VO.l (LO.bd (ps := []) (vs := []) (C := [_, _, _, _, _, _, _, _, _, _, _, _, _, _]) B32  trivial rfl rfl) rfl <| VO.h0 <| HO.st 1 (vs := [_, _, _, _, _, _, _, _, _, _, _, _, _, _]) (C' := [_, _, _, _, _, _, _, _, _, _, _, _, _, _]) (L' := [_, _, _, _]) N32 rfl rfl rfl rfl rfl rfl rfl rfl <| VO.l (LO.as (.r rfl)) rfl <| VO.nil ?_)
            refine VE.seqN ?_
            refine VC.ret (VE.inR (VE.thenR (VE.thenR (VE.inR (VE.thenR (VE.res (vs := [_, _]) rfl ⟨RV.agg (vs := [_, _, _, _, _, _, _, _, _, _, _, _, _, _]) A32 rfl (cells_blk 1 rfl ⟨_, rfl⟩) rfl, rfl, trivial⟩ (fun w hw => ?_)))))))
            refine ⟨?_, hw.nil⟩
            simp only [resV]
            first | exact hX (hE1 h15) h15 | exact hX (hE2 h15 h21) h21 | exact hX (hE3 h15 h21 h28) (by decide) | exact hX (hE4 h15 h21 h28 (j := j) (by omega) (by unfold smpOk; unfold wr at h67; omega)) (by decide) | exact hX0 (hE5 h15 h21 h28 hz (by omega))
          ·
            refine VC.skip (VE.inN (VE.seqN ?_))
            refine VC.reg (VO.l (LO.add (.r rfl) (.r rfl) (wi (by omega) (by omega))) rfl <| VO.l (LO.mv (.r rfl)) rfl <| VO.nil ?_)
            refine VE.thenN fun a w ha hw => ⟨j + 1, ⟨by omega, all_step hz (by unfold smpOk; unfold wr at h67; omega)⟩, (by omega), ha.sub (.cons rfl (.cons rfl (.cons rfl (.cons rfl (.cons rfl (.cons rfl (.cons rfl .nil))))))), hw.sel [1, 2, 3] rfl⟩
        ·
          refine VC.exit (VE.thenX (VE.thenX (VE.inX (VE.seqN ?_))))
          refine VC.seq ?_
          refine VC.reg (VO.l (LO.lda (vs := [_, _, _, _, _]) A23 (.r rfl) (fun _ hw => cells_at hw 2 rfl ⟨_, rfl⟩) rfl) rfl <| VO.l (LO.lda (vs := [_, _, _, _]) A27 (.r rfl) (fun _ hw => cells_at hw 1 rfl ⟨_, rfl⟩) rfl) rfl <| VO.l (LO.mv (.r rfl)) rfl <| VO.l (LO.call (xs := [_, _, _]) (vs := [_, _, _]) C47 ⟨(.r rfl), (.r rfl), (.r rfl), trivial⟩ (fun w hw => heard_c t r l p c w (train_of h15).1 (train_of h15).2 (recv_of h21) (by omega) (all_smp hz (by omega)) hc (hl.keep w hw))) rfl <| VO.h0 <| HO.st 0 (vs := [_, _, _, _, _, _, _, _, _, _, _, _, _, _]) (C' := [_, _, _, _, _, _, _, _, _, _, _, _, _, _]) (L' := [_, _, _]) N32 rfl rfl rfl rfl rfl rfl rfl rfl <| VO.l (LO.as (.r rfl)) rfl <| VO.nil ?_)
          refine VE.seqN ?_
          refine VC.ret (VE.res (vs := [_, _]) rfl ⟨RV.agg (vs := [_, _, _, _, _, _, _, _, _, _, _, _, _, _]) A32 rfl (cells_blk 0 rfl ⟨_, rfl⟩) rfl, rfl, trivial⟩ (fun w hw => ?_))
          refine ⟨?_, hw.nil⟩
          simp only [resV]
          first | exact hX (hE1 h15) h15 | exact hX (hE2 h15 h21) h21 | exact hX (hE3 h15 h21 h28) (by decide) | exact hX (hE4 h15 h21 h28 (j := j) (by omega) (by unfold smpOk; unfold wr at h67; omega)) (by decide) | exact hX0 (hE5 h15 h21 h28 hz (by omega))

set_option maxRecDepth 20000 in
theorem O_c (w : World) :
  Calls Try.prog 31 #[] w fun e w' => e = .returned (trainV tO) ∧ St (bs w) [] w' := by
  refine enter (vs := []) (env := []) Try.func31 rfl rfl rfl rfl ?_
  refine VC.seq ?_
  refine VC.reg (VO.h rfl <| HO.alloc (C := #[_, _, _, _, _]) Z23 rfl fun b1 => VO.nil ?_)
  refine VE.seqN ?_
  refine VC.seq ?_
  refine VC.reg (VO.l (LO.bd (ps := [(_, _), (_, _), (_, _), (_, _)]) (vs := [(_, _), (_, _), (_, _), (_, _)]) (C := [_, _, _, _, _]) B23  ⟨(.r rfl), (.r rfl), (.r rfl), (.r rfl), trivial⟩ rfl ⟨_, [_], [_, _, _, _, _], rfl, rfl, rfl, rfl, ⟨_, [_], [_, _, _, _, _], rfl, rfl, rfl, rfl, ⟨_, [_], [_, _, _, _, _], rfl, rfl, rfl, rfl, ⟨_, [_], [_, _, _, _, _], rfl, rfl, rfl, rfl, rfl⟩⟩⟩⟩) rfl <| VO.h0 <| HO.st 0 (vs := [_, _, _, _, _]) (C' := [_, _, _, _, _]) (L' := [_]) N23 rfl rfl rfl rfl rfl rfl rfl rfl <| VO.nil ?_)
  refine VE.seqN ?_
  refine VC.ret (VE.res (vs := [_]) rfl ⟨RV.agg (vs := [_, _, _, _, _]) A23 rfl (cells_blk 0 rfl ⟨_, rfl⟩) rfl, trivial⟩ (fun w hw => ?_))
  exact ⟨rfl, hw.nil⟩

set_option maxRecDepth 20000 in
theorem point_c (n : Int) (w : World) :
  Calls Try.prog 33 #[.int .i64 n] w fun e w' => e = .returned (.agg #[.int .i64 n, .int .i64 n]) ∧ St (bs w) [] w' := by
  refine enter (vs := [_]) (env := [(0, _)]) Try.func33 rfl rfl rfl rfl ?_
  refine VC.seq ?_
  refine VC.reg (VO.h rfl <| HO.alloc (C := #[_, _]) Z25 rfl fun b1 => VO.nil ?_)
  refine VE.seqN ?_
  refine VC.seq ?_
  refine VC.reg (VO.l (LO.mv (.r rfl)) rfl <| VO.l (LO.mv (.r rfl)) rfl <| VO.l (LO.bd (ps := [(_, _), (_, _)]) (vs := [(_, _), (_, _)]) (C := [_, _]) B25  ⟨(.r rfl), (.r rfl), trivial⟩ rfl ⟨_, [_], [_, _], rfl, rfl, rfl, rfl, ⟨_, [_], [_, _], rfl, rfl, rfl, rfl, rfl⟩⟩) rfl <| VO.h0 <| HO.st 0 (vs := [_, _]) (C' := [_, _]) (L' := [_]) N25 rfl rfl rfl rfl rfl rfl rfl rfl <| VO.nil ?_)
  refine VE.seqN ?_
  refine VC.ret (VE.res (vs := [_]) rfl ⟨RV.agg (vs := [_, _]) A25 rfl (cells_blk 0 rfl ⟨_, rfl⟩) rfl, trivial⟩ (fun w hw => ?_))
  exact ⟨rfl, hw.nil⟩

set_option maxRecDepth 20000 in
theorem four_c (w : World) :
  Calls Try.prog 42 #[] w fun e w' => ∃ b : Nat, True ∧ e = .returned (.slice (some ⟨b, 0, none⟩) 4 4) ∧ St (bs w) [blk b (.cells #[.int .i64 10, .int .i64 0, .int .i64 5, .int .i64 0, .int .i64 10, .int .i64 100, .int .i64 5, .int .i64 100, .int .i64 10, .int .i64 220, .int .i64 5, .int .i64 220, .int .i64 10, .int .i64 330, .int .i64 5, .int .i64 330] 44)] w' := by
  refine enter (vs := []) (env := []) Try.func42 rfl rfl rfl rfl ?_
  refine VC.seq ?_
  refine VC.reg (VO.l (LO.as (.r rfl)) rfl <| VO.nil ?_)
  refine VE.seqN ?_
  refine VC.seq ?_
  refine VC.reg (VO.l (LO.bd (ps := [(_, _), (_, _), (_, _), (_, _)]) (vs := [(_, _), (_, _), (_, _), (_, _)]) (C := [_, _, _, _]) B44  ⟨(.r rfl), (.r rfl), (.r rfl), (.r rfl), trivial⟩ rfl ⟨_, [_], [_, _, _, _], rfl, rfl, rfl, rfl, ⟨_, [_], [_, _, _, _], rfl, rfl, rfl, rfl, ⟨_, [_], [_, _, _, _], rfl, rfl, rfl, rfl, ⟨_, [_], [_, _, _, _], rfl, rfl, rfl, rfl, rfl⟩⟩⟩⟩) rfl <| VO.l (LO.bd (ps := [(_, _), (_, _), (_, _), (_, _)]) (vs := [(_, _), (_, _), (_, _), (_, _)]) (C := [_, _, _, _]) B44  ⟨(.r rfl), (.r rfl), (.r rfl), (.r rfl), trivial⟩ rfl ⟨_, [_], [_, _, _, _], rfl, rfl, rfl, rfl, ⟨_, [_], [_, _, _, _], rfl, rfl, rfl, rfl, ⟨_, [_], [_, _, _, _], rfl, rfl, rfl, rfl, ⟨_, [_], [_, _, _, _], rfl, rfl, rfl, rfl, rfl⟩⟩⟩⟩) rfl <| VO.l (LO.bd (ps := [(_, _), (_, _), (_, _), (_, _)]) (vs := [(_, _), (_, _), (_, _), (_, _)]) (C := [_, _, _, _]) B44  ⟨(.r rfl), (.r rfl), (.r rfl), (.r rfl), trivial⟩ rfl ⟨_, [_], [_, _, _, _], rfl, rfl, rfl, rfl, ⟨_, [_], [_, _, _, _], rfl, rfl, rfl, rfl, ⟨_, [_], [_, _, _, _], rfl, rfl, rfl, rfl, ⟨_, [_], [_, _, _, _], rfl, rfl, rfl, rfl, rfl⟩⟩⟩⟩) rfl <| VO.l (LO.bd (ps := [(_, _), (_, _), (_, _), (_, _)]) (vs := [(_, _), (_, _), (_, _), (_, _)]) (C := [_, _, _, _]) B44  ⟨(.r rfl), (.r rfl), (.r rfl), (.r rfl), trivial⟩ rfl ⟨_, [_], [_, _, _, _], rfl, rfl, rfl, rfl, ⟨_, [_], [_, _, _, _], rfl, rfl, rfl, rfl, ⟨_, [_], [_, _, _, _], rfl, rfl, rfl, rfl, ⟨_, [_], [_, _, _, _], rfl, rfl, rfl, rfl, rfl⟩⟩⟩⟩) rfl <| VO.h rfl <| HO.bs (ps := [(_, _), (_, _), (_, _), (_, _)]) (vs := [(_, _), (_, _), (_, _), (_, _)]) (Z := [_, _, _, _, _, _, _, _, _, _, _, _, _, _, _, _]) (C := [_, _, _, _, _, _, _, _, _, _, _, _, _, _, _, _]) S28 Z44 N44 ⟨(.r rfl), (.r rfl), (.r rfl), (.r rfl), trivial⟩ rfl rfl rfl rfl ⟨_, [_, _, _, _], [_, _, _, _, _, _, _, _, _, _, _, _, _, _, _, _], rfl, rfl, rfl, rfl, ⟨_, [_, _, _, _], [_, _, _, _, _, _, _, _, _, _, _, _, _, _, _, _], rfl, rfl, rfl, rfl, ⟨_, [_, _, _, _], [_, _, _, _, _, _, _, _, _, _, _, _, _, _, _, _], rfl, rfl, rfl, rfl, ⟨_, [_, _, _, _], [_, _, _, _, _, _, _, _, _, _, _, _, _, _, _, _], rfl, rfl, rfl, rfl, rfl⟩⟩⟩⟩ fun b1 => VO.h rfl <| HO.lo (LO.as (.r rfl)) <| VO.nil ?_)
  refine VE.seqN ?_
  refine VC.ret (VE.res (vs := [_]) rfl ⟨rfl, trivial⟩ (fun w hw => ?_))
  exact ⟨b1, trivial, rfl, hw⟩

end Go.Proofs.Ytcnlhifkablmkaa
