/-
  What the law reaches: calls of itself, variables that it names.
-/
import Derived.Test.YtffbohecdocajaaGreatKUN03
import Derived.Test.YtffbohecdocajaaGreatRows

set_option linter.unusedSimpArgs false
namespace Go.Proofs.YtffbohecdocajaaGreat.topUnfolded
open Go
theorem cf3 : (Rows.topUnfoldedRow.recurses == Tryz.pinned.checked.prog.recurses 4) = true := by kernel_rfl
theorem cf4 : (Rows.topUnfoldedRow.named == Tryz.pinned.checked.prog.varsNamed 4) = true := by kernel_rfl
end Go.Proofs.YtffbohecdocajaaGreat.topUnfolded
