/-
  What the law reaches: calls of itself, variables that it names.
-/
import Derived.Test.YtffbohecdocajaaGreatKRA03
import Derived.Test.YtffbohecdocajaaGreatRows

set_option linter.unusedSimpArgs false
namespace Go.Proofs.YtffbohecdocajaaGreat.topRained
open Go
theorem cf3 : (Rows.topRainedRow.recurses == Tryz.pinned.checked.prog.recurses 3) = true := by kernel_rfl
theorem cf4 : (Rows.topRainedRow.named == Tryz.pinned.checked.prog.varsNamed 3) = true := by kernel_rfl
end Go.Proofs.YtffbohecdocajaaGreat.topRained
