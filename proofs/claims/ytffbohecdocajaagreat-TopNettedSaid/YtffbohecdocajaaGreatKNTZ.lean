/-
  TopNetted holds: maps of many radars have the truth, whatever the order of messages, and so have the areas in them. No condition.
-/
import Derived.Test.YtffbohecdocajaaGreatKNT13

set_option linter.unusedSimpArgs false
namespace Go.Proofs.YtffbohecdocajaaGreat.topNetted
open Go.SL Go.Proofs Go.Pulse Go.ChangeShapes Go.WideShapes Go.ChangeAt Go.RowKit
theorem over : Rows.topNettedRow.holds Tryz.pinned (OpenSpec.ofChange Rows.topNettedSpec) :=
  OpenClaim.holds_of_wide 6 Tryz.f6 rfl rfl rfl rfl rfl rfl rfl ⟨rfl, rfl, rfl, rfl, rfl⟩ rfl rfl rfl rfl rfl (by kernel_rfl) Tryz.func6 closed
    (of_decide_eq_true (by kernel_rfl)) (by unfold Func.isWrapper; first | (rw [if_pos (by decide +kernel)]; kernel_rfl) | (rw [if_neg (by decide +kernel)]; exact ⟨rfl, rfl⟩))
    (fun os started H enc _ => lifted os started H enc)
theorem proved : Rows.TopNettedSaid :=
  over
#print axioms proved
end Go.Proofs.YtffbohecdocajaaGreat.topNetted
