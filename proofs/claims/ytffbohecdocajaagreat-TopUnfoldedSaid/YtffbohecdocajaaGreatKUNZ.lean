/-
  TopUnfolded holds: speeds in truth, heard by pulses whose phases slip, are among what is left when all is unfolded. No condition.
-/
import Derived.Test.YtffbohecdocajaaGreatKUN12

set_option linter.unusedSimpArgs false
namespace Go.Proofs.YtffbohecdocajaaGreat.topUnfolded
open Go.SL Go.Proofs Go.Pulse Go.ChangeShapes Go.WideShapes Go.ChangeAt Go.RowKit
theorem over : Rows.topUnfoldedRow.holds Tryz.pinned (OpenSpec.ofChange Rows.topUnfoldedSpec) :=
  OpenClaim.holds_of_wide 4 Tryz.f4 rfl rfl rfl rfl rfl rfl rfl ⟨rfl, rfl, rfl, rfl, rfl⟩ rfl rfl rfl rfl rfl (by kernel_rfl) Tryz.func4 closed
    (of_decide_eq_true (by kernel_rfl)) (by unfold Func.isWrapper; first | (rw [if_pos (by decide +kernel)]; kernel_rfl) | (rw [if_neg (by decide +kernel)]; exact ⟨rfl, rfl⟩))
    (fun os started H enc _ => lifted os started H enc)
theorem proved : Rows.TopUnfoldedSaid :=
  over
#print axioms proved
end Go.Proofs.YtffbohecdocajaaGreat.topUnfolded
