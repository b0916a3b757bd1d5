/-
  TopRained holds: what better receivers hear, and the truth, has rates within those that follow from what was heard. No condition.
-/
import Derived.Test.YtffbohecdocajaaGreatKRA12

set_option linter.unusedSimpArgs false
namespace Go.Proofs.YtffbohecdocajaaGreat.topRained
open Go.SL Go.Proofs Go.Pulse Go.ChangeShapes Go.WideShapes Go.ChangeAt Go.RowKit
theorem over : Rows.topRainedRow.holds Tryz.pinned (OpenSpec.ofChange Rows.topRainedSpec) :=
  OpenClaim.holds_of_wide 3 Tryz.f3 rfl rfl rfl rfl rfl rfl rfl ⟨rfl, rfl, rfl, rfl, rfl⟩ rfl rfl rfl rfl rfl (by kernel_rfl) Tryz.func3 closed
    (of_decide_eq_true (by kernel_rfl)) (by unfold Func.isWrapper; first | (rw [if_pos (by decide +kernel)]; kernel_rfl) | (rw [if_neg (by decide +kernel)]; exact ⟨rfl, rfl⟩))
    (fun os started H enc _ => lifted os started H enc)
theorem proved : Rows.TopRainedSaid :=
  over
#print axioms proved
end Go.Proofs.YtffbohecdocajaaGreat.topRained
