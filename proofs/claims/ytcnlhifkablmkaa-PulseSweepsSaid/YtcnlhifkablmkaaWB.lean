/-
  Arcs of the document.
-/
import Derived.Test.YtcnlhifkablmkaaWA
namespace Go.Proofs.Ytcnlhifkablmkaa
open Go.SL Go.Proofs Go.Pulse
set_option linter.unusedVariables false

theorem C23 : IsFn Try.prog 23 := ⟨_, Try.func23, by decide, rfl⟩
theorem C50 : IsFn Try.prog 50 := ⟨_, Try.func50, by decide, rfl⟩
theorem C24 : IsFn Try.prog 24 := ⟨_, Try.func24, by decide, rfl⟩


def wmx (l : List Int) (d : Int) (k : Nat) : Int := ((l.take k).map fun x => wr (x - d)).foldl max 0
theorem wmx_all {l : List Int} {d : Int} : wmx l d l.length = arcW l d := by unfold wmx arcW; rw [List.take_length]
theorem wmx_s {l : List Int} {d : Int} {k : Nat} (hk : k < l.length) : some (Value.int .i64 (max (wmx l d k) (wr (l.getD k 0 - d)))) = some (Value.int .i64 (wmx l d (k + 1))) := by
  unfold wmx; rw [take_at (getD_some (d := 0) hk), List.map_append, List.foldl_append]; rfl
def arcA (l : List Int) (i : Nat) : Int × Int := (l.take i).foldl (arcStep l) (0, 65536)
section
variable {l : List Int} {i : Nat}
theorem arcA_succ (hi : i < l.length) : arcA l (i + 1) = arcStep l (arcA l i) (l.getD i 0) := by
  unfold arcA; rw [take_at (getD_some (d := 0) hi), List.foldl_append]; rfl
theorem arcA_t (hi : i < l.length) (h : arcW l (l.getD i 0) < (arcA l i).2 ∨ (arcW l (l.getD i 0) = (arcA l i).2 ∧ l.getD i 0 < (arcA l i).1)) : arcA l (i + 1) = (l.getD i 0, arcW l (l.getD i 0)) := by rw [arcA_succ hi, arcStep, if_pos h]
theorem arcA_f (hi : i < l.length) (h : ¬ (arcW l (l.getD i 0) < (arcA l i).2 ∨ (arcW l (l.getD i 0) = (arcA l i).2 ∧ l.getD i 0 < (arcA l i).1))) : arcA l (i + 1) = arcA l i := by rw [arcA_succ hi, arcStep, if_neg h]
theorem arcA_t1 (hi : i < l.length) (h : arcW l (l.getD i 0) < (arcA l i).2 ∨ (arcW l (l.getD i 0) = (arcA l i).2 ∧ l.getD i 0 < (arcA l i).1)) : some (Value.int .i64 (l.getD i 0)) = some (Value.int .i64 (arcA l (i + 1)).1) := by rw [arcA_t hi h]
theorem arcA_t2 (hi : i < l.length) (h : arcW l (l.getD i 0) < (arcA l i).2 ∨ (arcW l (l.getD i 0) = (arcA l i).2 ∧ l.getD i 0 < (arcA l i).1)) : some (Value.int .i64 (arcW l (l.getD i 0))) = some (Value.int .i64 (arcA l (i + 1)).2) := by rw [arcA_t hi h]
theorem arcA_f1 (hi : i < l.length) (h : ¬ (arcW l (l.getD i 0) < (arcA l i).2 ∨ (arcW l (l.getD i 0) = (arcA l i).2 ∧ l.getD i 0 < (arcA l i).1))) : some (Value.int .i64 (arcA l i).1) = some (Value.int .i64 (arcA l (i + 1)).1) := by rw [arcA_f hi h]
theorem arcA_f2 (hi : i < l.length) (h : ¬ (arcW l (l.getD i 0) < (arcA l i).2 ∨ (arcW l (l.getD i 0) = (arcA l i).2 ∧ l.getD i 0 < (arcA l i).1))) : some (Value.int .i64 (arcA l i).2) = some (Value.int .i64 (arcA l (i + 1)).2) := by rw [arcA_f hi h]
theorem arcA_end (h : ¬ (l.length : Int) = 0) (hb : ∀ k, k < l.length → inT (l.getD k 0)) (hi : l.length ≤ i) : Ending.returned (.tuple #[.int .i64 (arcA l i).1, .int .i64 (arcA l i).2, .int .i64 0]) = .returned (.tuple #[.int .i64 (arcX l).1, .int .i64 (arcX l).2, .int .i64 (arcE l)]) := by
  rw [show arcA l i = arcR l by unfold arcA arcR; rw [List.take_of_length_le hi]]
  exact arc3 h (fun q => q fun x hx => by
    obtain ⟨k, hk, rfl⟩ := mem_getD (d := 0) hx
    exact hb k hk)
end
theorem arcX_all {l : List Int} (hb : ∀ x ∈ l, inT x) : (arcX l).1 = (arcR l).1 := by
  unfold arcX arcE
  by_cases h : l = []
  · subst h; decide
  · rw [if_neg h, if_pos hb, if_pos rfl]
theorem arcT_some {l : List Int} {b : Int} {j : Nat} (hj : j < l.length) : some (Value.int .i64 (arcT (l.take j) b + (b + wr (l.getD j 0 - b)))) = some (Value.int .i64 (arcT (l.take (j + 1)) b)) := by rw [arcT_step hj]

set_option maxRecDepth 20000 in
theorem rArc_c (l : List Int) (p : Option Addr) (c : Nat) (w : World) (hn : l.length < 1000000000) (hl : Ints w p l) :
  Calls Try.prog 24 #[.slice p l.length c] w fun e w' => e = .returned (.tuple #[.int .i64 (arcX l).1, .int .i64 (arcX l).2, .int .i64 (arcE l)]) ∧ St (bs w) [] w' := by
  refine enter (vs := [_]) (env := [(0, _)]) Try.func24 rfl rfl rfl rfl ?_
  refine VC.seq ?_
  refine VC.reg (VO.l (LO.as (.r rfl)) rfl <| VO.l (LO.as (.r rfl)) rfl <| VO.l (LO.as (.r rfl)) rfl <| VO.nil ?_)
  refine VE.seqN ?_
  refine VC.seq ?_
  refine VC.seq ?_
  refine VC.reg (VO.l (LO.mv (.r rfl)) rfl <| VO.l (LO.len S55 (.r rfl) rfl) rfl <| VO.l (LO.eq (.r rfl) (.r rfl)) rfl <| VO.nil ?_)
  refine VE.seqN ?_
  refine VC.cond rfl (fun h1 => ?_) (fun h1 => ?_)
  ·
    refine VC.seq ?_
    refine VC.reg (VO.l (LO.as (.r rfl)) rfl <| VO.l (LO.as (.r rfl)) rfl <| VO.l (LO.as (.r rfl)) rfl <| VO.nil ?_)
    refine VE.seqN ?_
    refine VC.ret (VE.thenR (VE.res (vs := [_, _, _]) rfl ⟨rfl, rfl, rfl, trivial⟩ (fun w hw => ?_)))
    refine ⟨?_, hw.nil⟩
    simp only [resV]
    first | exact arc1 h1 | exact arc2 h1 (fun q => absurd (q _ (getD_mem (d := 0) (show j < l.length by omega))) (by unfold inT; omega)) | exact arcA_end h1 hb (by omega)
  ·
    refine VC.skip (VE.seqN ?_)
    refine VC.seq ?_
    refine VC.seq ?_
    refine VC.reg (VO.l (LO.as (.r rfl)) rfl <| VO.nil ?_)
    refine VE.seqN ?_
    refine VC.block ?_
    refine VC.loopK (α := Nat) 0 (fun gx => [(5, .int .i64 (gx : Nat))]) [(0, _)] (fun gx => []) (fun gx => gx ≤ l.length ∧ ∀ k, k < gx → inT (l.getD k 0)) (fun gx => l.length - gx) 0 (by exact ⟨by omega, fun k hk => by omega⟩) (.cons rfl (.cons rfl .nil)) (fun _ h => h) ?_
    rintro j ⟨hj, hz⟩
    refine VC.seq ?_
    refine VC.seq ?_
    refine VC.reg (VO.l (LO.mv (.r rfl)) rfl <| VO.l (LO.mv (.r rfl)) rfl <| VO.l (LO.len S55 (.r rfl) rfl) rfl <| VO.l (LO.lt (.r rfl) (.r rfl)) rfl <| VO.nil ?_)
    refine VE.seqN ?_
    refine VC.cond rfl (fun h2 => ?_) (fun h2 => ?_)
    ·
      refine VC.skip (VE.seqN ?_)
      refine VC.seq ?_
      refine VC.block ?_
      refine VC.seq ?_
      refine VC.reg (VO.l (LO.mv (.r rfl)) rfl <| VO.l (LO.mv (.r rfl)) rfl <| VO.l (LO.ixs S55 N3 hl.some (.r rfl) (.r rfl) rfl (by omega)) rfl <| VO.l (LO.ld O3 (.r rfl) (fun w hw => cells_part (off := 0) ((hl.at (j := j) (by omega)) w hw) ⟨_, rfl⟩)) rfl <| VO.l (LO.call (xs := [_, _, _]) (vs := [_, _, _]) C49 ⟨(.r rfl), (.r rfl), (.r rfl), trivial⟩ (fun w _ => In_c _ _ _ w)) rfl <| VO.l (LO.not (.r rfl)) rfl <| VO.nil ?_)
      refine VE.seqN ?_
      refine VC.cond rfl (fun h25 => ?_) (fun h25 => ?_)
      ·
        refine VC.seq ?_
        refine VC.reg (VO.l (LO.as (.r rfl)) rfl <| VO.l (LO.as (.r rfl)) rfl <| VO.l (LO.as (.r rfl)) rfl <| VO.nil ?_)
        refine VE.seqN ?_
        refine VC.ret (VE.inR (VE.thenR (VE.thenR (VE.inR (VE.thenR (VE.res (vs := [_, _, _]) rfl ⟨rfl, rfl, rfl, trivial⟩ (fun w hw => ?_)))))))
        refine ⟨?_, hw.nil⟩
        simp only [resV]
        first | exact arc1 h1 | exact arc2 h1 (fun q => absurd (q _ (getD_mem (d := 0) (show j < l.length by omega))) (by unfold inT; omega)) | exact arcA_end h1 hb (by omega)
      ·
        refine VC.skip (VE.inN (VE.seqN ?_))
        refine VC.reg (VO.l (LO.mv (.r rfl)) rfl <| VO.l (LO.add (.r rfl) (.r rfl) (wi (by omega) (by omega))) rfl <| VO.l (LO.as (.r rfl)) rfl <| VO.nil ?_)
        refine VE.thenN fun a w ha hw => ⟨j + 1, ⟨by omega, all_step hz (by unfold inT; omega)⟩, (by omega), ha.sub (.cons rfl (.cons rfl .nil)), hw⟩
    ·
      refine VC.exit (VE.thenX (VE.thenX (VE.inX (VE.seqN ?_))))
      refine VC.seq ?_
      have hb : ∀ k, k < l.length → inT (l.getD k 0) := fun k hk => hz k (by omega)
      refine VC.reg (VO.l (LO.as (.r rfl)) rfl <| VO.l (LO.as (.r rfl)) rfl <| VO.nil ?_)
      refine VE.seqN ?_
      refine VC.seq ?_
      refine VC.seq ?_
      refine VC.reg (VO.l (LO.as (.r rfl)) rfl <| VO.nil ?_)
      refine VE.seqN ?_
      refine VC.block ?_
      refine VC.loopK (α := Nat) 0 (fun gx => [(6, .int .i64 (arcA l gx).1), (7, .int .i64 (arcA l gx).2), (8, .int .i64 (gx : Nat))]) [(0, _)] (fun gx => []) (fun gx => gx ≤ l.length) (fun gx => l.length - gx) 0 (by exact Nat.zero_le _) (.cons rfl (.cons rfl (.cons rfl (.cons rfl .nil)))) (fun _ h => h) ?_
      rintro i hi
      refine VC.seq ?_
      refine VC.seq ?_
      refine VC.reg (VO.l (LO.mv (.r rfl)) rfl <| VO.l (LO.mv (.r rfl)) rfl <| VO.l (LO.len S55 (.r rfl) rfl) rfl <| VO.l (LO.lt (.r rfl) (.r rfl)) rfl <| VO.nil ?_)
      refine VE.seqN ?_
      refine VC.cond rfl (fun h4 => ?_) (fun h4 => ?_)
      ·
        refine VC.skip (VE.seqN ?_)
        refine VC.seq ?_
        refine VC.block ?_
        refine VC.seq ?_
        refine VC.reg (VO.l (LO.as (.r rfl)) rfl <| VO.nil ?_)
        refine VE.seqN ?_
        refine VC.seq ?_
        refine VC.seq ?_
        refine VC.reg (VO.l (LO.as (.r rfl)) rfl <| VO.nil ?_)
        refine VE.seqN ?_
        refine VC.block ?_
        refine VC.loopK (α := Nat) 0 (fun gx => [(9, .int .i64 (wmx l (l.getD i 0) gx)), (10, .int .i64 (gx : Nat))]) [(0, _), (6, _), (7, _), (8, _)] (fun gx => []) (fun gx => gx ≤ l.length) (fun gx => l.length - gx) 0 (by exact Nat.zero_le _) (.cons rfl (.cons rfl (.cons rfl (.cons rfl (.cons rfl (.cons rfl .nil)))))) (fun _ h => h) ?_
        rintro k hk
        refine VC.seq ?_
        refine VC.seq ?_
        refine VC.reg (VO.l (LO.mv (.r rfl)) rfl <| VO.l (LO.mv (.r rfl)) rfl <| VO.l (LO.len S55 (.r rfl) rfl) rfl <| VO.l (LO.lt (.r rfl) (.r rfl)) rfl <| VO.nil ?_)
        refine VE.seqN ?_
        refine VC.cond rfl (fun h5 => ?_) (fun h5 => ?_)
        ·
          refine VC.skip (VE.seqN ?_)
          refine VC.seq ?_
          refine VC.block ?_
          have q1 := hb k (by omega)
          have q2 := hb i (by omega)
          unfold inT at q1 q2
          refine VC.draw mixed (LL.l (LO.mv (.r rfl)) rfl <| LL.l (LO.mv (.r rfl)) rfl <| LL.l (LO.mv (.r rfl)) rfl <| LL.l (LO.ixs S55 N3 hl.some (.r rfl) (.r rfl) rfl (by omega)) rfl <| LL.l (LO.ld O3 (.r rfl) (fun w hw => cells_part (off := 0) ((hl.at (j := k) (by omega)) w hw) ⟨_, rfl⟩)) rfl <| LL.l (LO.mv (.r rfl)) rfl <| LL.l (LO.mv (.r rfl)) rfl <| LL.l (LO.ixs S55 N3 hl.some (.r rfl) (.r rfl) rfl (by omega)) rfl <| LL.l (LO.ld O3 (.r rfl) (fun w hw => cells_part (off := 0) ((hl.at (j := i) (by omega)) w hw) ⟨_, rfl⟩)) rfl <| LL.l (LO.sub (.r rfl) (.r rfl) (wi (by omega) (by omega))) rfl <| LL.l (LO.call (xs := [_]) (vs := [_]) C50 ⟨(.r rfl), trivial⟩ (fun w _ => rWrap_c _ (by omega) (by omega) w)) rfl <| LL.l (LO.max (.r rfl) (.r rfl)) rfl <| LL.l (LO.as (.r rfl)) rfl <| LL.nil) (by kernel_rfl) ?_
          refine VE.inN (VE.seqN ?_)
          refine VC.reg (VO.l (LO.mv (.r rfl)) rfl <| VO.l (LO.add (.r rfl) (.r rfl) (wi (by omega) (by omega))) rfl <| VO.l (LO.as (.r rfl)) rfl <| VO.nil ?_)
          refine VE.thenN fun a w ha hw => ⟨k + 1, (by omega), (by omega), ha.sub (.cons (by exact wmx_s (by omega)) (.cons rfl (.cons rfl (.cons rfl (.cons rfl (.cons rfl .nil)))))), hw⟩
        ·
          refine VC.exit (VE.thenX (VE.thenX (VE.inX (VE.seqN ?_))))
          refine VC.seq ?_
          have hk2 : k = l.length := by omega
          subst hk2
          rw [wmx_all]
          refine VC.reg (VO.l (LO.mv (.r rfl)) rfl <| VO.l (LO.mv (.r rfl)) rfl <| VO.l (LO.lt (.r rfl) (.r rfl)) rfl <| VO.l (LO.mv (.r rfl)) rfl <| VO.lg rfl rfl (GD.f _) (fun hg => LO.mv (.r rfl)) rfl <| VO.lg rfl rfl (GD.f _) (fun hg => LO.mv (.r rfl)) rfl <| VO.lg rfl rfl (GD.f _) (fun hg => LO.eq (.g hg rfl) (.g hg rfl)) rfl <| VO.lg rfl rfl (GD.f _) (fun hg => LO.mv (.g hg rfl)) rfl <| VO.lg rfl rfl (GD.nt _ _) (fun hg => LO.mv (.r rfl)) rfl <| VO.lg rfl rfl (GD.nt _ _) (fun hg => LO.mv (.r rfl)) rfl <| VO.lg rfl rfl (GD.nt _ _) (fun hg => LO.ixs S55 N3 hl.some (.g hg rfl) (.g hg rfl) rfl (by omega)) rfl <| VO.lg rfl rfl (GD.nt _ _) (fun hg => LO.ld O3 (.g hg rfl) (fun w hw => cells_part (off := 0) ((hl.at (j := i) (by omega)) w hw) ⟨_, rfl⟩)) rfl <| VO.lg rfl rfl (GD.nt _ _) (fun hg => LO.mv (.r rfl)) rfl <| VO.lg rfl rfl (GD.nt _ _) (fun hg => LO.lt (.g hg rfl) (.g hg rfl)) rfl <| VO.lg rfl rfl (GD.f _) (fun hg => LO.pkA (.g hg rfl) rfl (and_e hg) (.r rfl)) rfl <| VO.l (LO.pkO (.r rfl) (.r rfl) rfl rfl) rfl <| VO.nil ?_)
          refine VE.seqN ?_
          refine VC.cond rfl (fun h65 => ?_) (fun h65 => ?_)
          ·
            refine VC.reg (VO.l (LO.mv (.r rfl)) rfl <| VO.l (LO.mv (.r rfl)) rfl <| VO.l (LO.ixs S55 N3 hl.some (.r rfl) (.r rfl) rfl (by omega)) rfl <| VO.l (LO.ld O3 (.r rfl) (fun w hw => cells_part (off := 0) ((hl.at (j := i) (by omega)) w hw) ⟨_, rfl⟩)) rfl <| VO.l (LO.mv (.r rfl)) rfl <| VO.l (LO.as (.r rfl)) rfl <| VO.l (LO.as (.r rfl)) rfl <| VO.nil ?_)
            refine VE.inN (VE.seqN ?_)
            refine VC.reg (VO.l (LO.mv (.r rfl)) rfl <| VO.l (LO.add (.r rfl) (.r rfl) (wi (by omega) (by omega))) rfl <| VO.l (LO.as (.r rfl)) rfl <| VO.nil ?_)
            have hi2 : i < l.length := by omega
            refine VE.thenN fun a w ha hw => ⟨i + 1, (by omega), (by omega), ha.sub (.cons (by first | exact arcA_t1 hi2 h65 | exact arcA_f1 hi2 h65) (.cons (by first | exact arcA_t2 hi2 h65 | exact arcA_f2 hi2 h65) (.cons rfl (.cons rfl .nil)))), hw⟩
          ·
            refine VC.skip (VE.inN (VE.seqN ?_))
            refine VC.reg (VO.l (LO.mv (.r rfl)) rfl <| VO.l (LO.add (.r rfl) (.r rfl) (wi (by omega) (by omega))) rfl <| VO.l (LO.as (.r rfl)) rfl <| VO.nil ?_)
            have hi2 : i < l.length := by omega
            refine VE.thenN fun a w ha hw => ⟨i + 1, (by omega), (by omega), ha.sub (.cons (by first | exact arcA_t1 hi2 h65 | exact arcA_f1 hi2 h65) (.cons (by first | exact arcA_t2 hi2 h65 | exact arcA_f2 hi2 h65) (.cons rfl (.cons rfl .nil)))), hw⟩
      ·
        refine VC.exit (VE.thenX (VE.thenX (VE.inX (VE.seqN ?_))))
        refine VC.seq ?_
        refine VC.reg (VO.l (LO.mv (.r rfl)) rfl <| VO.l (LO.mv (.r rfl)) rfl <| VO.l (LO.as (.r rfl)) rfl <| VO.l (LO.as (.r rfl)) rfl <| VO.l (LO.as (.r rfl)) rfl <| VO.nil ?_)
        refine VE.seqN ?_
        refine VC.ret (VE.res (vs := [_, _, _]) rfl ⟨rfl, rfl, rfl, trivial⟩ (fun w hw => ?_))
        refine ⟨?_, hw.nil⟩
        simp only [resV]
        first | exact arc1 h1 | exact arc2 h1 (fun q => absurd (q _ (getD_mem (d := 0) (show j < l.length by omega))) (by unfold inT; omega)) | exact arcA_end h1 hb (by omega)

set_option maxRecDepth 20000 in
theorem rSum_c (l : List Int) (p : Option Addr) (c : Nat) (w : World) (hn : l.length < 1000000000) (hl : Ints w p l) (hb : ∀ x ∈ l, inT x) :
  Calls Try.prog 80 #[.slice p l.length c] w fun e w' => e = .returned (.int .i64 (arcSum l)) ∧ St (bs w) [] w' := by
  have hX := arcX_all hb
  have hB := arcR_bd hb
  refine enter (vs := [_]) (env := [(0, _)]) Try.func80 rfl rfl rfl rfl ?_
  refine VC.seq ?_
  refine VC.reg (VO.l (LO.as (.r rfl)) rfl <| VO.nil ?_)
  refine VE.seqN ?_
  refine VC.seq ?_
  refine VC.reg (VO.l (LO.mv (.r rfl)) rfl <| VO.l (LO.call (xs := [_]) (vs := [_]) C24 ⟨(.r rfl), trivial⟩ (fun w hw => by have h := rArc_c l p c w hn (hl.keep w hw); rw [hX] at h; exact h)) rfl <| VO.l (LO.mv (.r rfl)) rfl <| VO.l (LO.ex (.r rfl) rfl) rfl <| VO.l (LO.ex (.r rfl) rfl) rfl <| VO.l (LO.ex (.r rfl) rfl) rfl <| VO.l (LO.as (.r rfl)) rfl <| VO.l (LO.as (.r rfl)) rfl <| VO.l (LO.as (.r rfl)) rfl <| VO.nil ?_)
  refine VE.seqN ?_
  refine VC.seq ?_
  refine VC.reg (VO.l (LO.as (.r rfl)) rfl <| VO.nil ?_)
  refine VE.seqN ?_
  refine VC.seq ?_
  refine VC.seq ?_
  refine VC.reg (VO.l (LO.as (.r rfl)) rfl <| VO.nil ?_)
  refine VE.seqN ?_
  refine VC.block ?_
  refine VC.loopK (α := Nat) 0 (fun gx => [(6, .int .i64 (arcT (l.take gx) (arcR l).1)), (7, .int .i64 (gx : Nat))]) [(0, _), (3, _)] (fun gx => []) (fun gx => gx ≤ l.length) (fun gx => l.length - gx) 0 (by exact Nat.zero_le _) (.cons rfl (.cons rfl (.cons rfl (.cons rfl .nil)))) (fun _ h => h) ?_
  rintro j hj
  refine VC.seq ?_
  refine VC.seq ?_
  refine VC.reg (VO.l (LO.mv (.r rfl)) rfl <| VO.l (LO.mv (.r rfl)) rfl <| VO.l (LO.len S55 (.r rfl) rfl) rfl <| VO.l (LO.lt (.r rfl) (.r rfl)) rfl <| VO.nil ?_)
  refine VE.seqN ?_
  refine VC.cond rfl (fun h1 => ?_) (fun h1 => ?_)
  ·
    refine VC.skip (VE.seqN ?_)
    refine VC.seq ?_
    refine VC.block ?_
    have q3 := hb _ (getD_mem (d := 0) (show j < l.length by omega))
    unfold inT at q3
    have q4 := arcT_bd (l.take j) (b := (arcR l).1) (by omega) (by omega)
    rw [List.length_take] at q4
    have q5 := wr_bd (l.getD j 0 - (arcR l).1)
    refine VC.reg (VO.l (LO.mv (.r rfl)) rfl <| VO.l (LO.mv (.r rfl)) rfl <| VO.l (LO.mv (.r rfl)) rfl <| VO.l (LO.mv (.r rfl)) rfl <| VO.l (LO.ixs S55 N3 hl.some (.r rfl) (.r rfl) rfl (by omega)) rfl <| VO.l (LO.ld O3 (.r rfl) (fun w hw => cells_part (off := 0) ((hl.at (j := j) (by omega)) w hw) ⟨_, rfl⟩)) rfl <| VO.l (LO.mv (.r rfl)) rfl <| VO.l (LO.sub (.r rfl) (.r rfl) (wi (by omega) (by omega))) rfl <| VO.l (LO.call (xs := [_]) (vs := [_]) C50 ⟨(.r rfl), trivial⟩ (fun w _ => rWrap_c _ (by omega) (by omega) w)) rfl <| VO.l (LO.add (.r rfl) (.r rfl) (wi (by omega) (by omega))) rfl <| VO.l (LO.add (.r rfl) (.r rfl) (wi (by omega) (by omega))) rfl <| VO.l (LO.as (.r rfl)) rfl <| VO.nil ?_)
    refine VE.inN (VE.seqN ?_)
    refine VC.reg (VO.l (LO.mv (.r rfl)) rfl <| VO.l (LO.add (.r rfl) (.r rfl) (wi (by omega) (by omega))) rfl <| VO.l (LO.as (.r rfl)) rfl <| VO.nil ?_)
    refine VE.thenN fun a w ha hw => ⟨j + 1, (by omega), (by omega), ha.sub (.cons (by exact arcT_some (by omega)) (.cons rfl (.cons rfl (.cons rfl .nil)))), hw⟩
  ·
    refine VC.exit (VE.thenX (VE.thenX (VE.inX (VE.seqN ?_))))
    refine VC.seq ?_
    refine VC.reg (VO.l (LO.mv (.r rfl)) rfl <| VO.l (LO.as (.r rfl)) rfl <| VO.nil ?_)
    refine VE.seqN ?_
    refine VC.ret (VE.res (vs := [_]) rfl ⟨rfl, trivial⟩ (fun w hw => ?_))
    refine ⟨?_, hw.nil⟩
    simp only [resV]
    rw [show l.take j = l from List.take_of_length_le (by omega)]
    rfl

end Go.Proofs.Ytcnlhifkablmkaa
