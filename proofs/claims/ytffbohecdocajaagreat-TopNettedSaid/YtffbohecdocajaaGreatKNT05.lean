/-
  What the law reaches: calls of itself, variables that it names.
-/
import Derived.Test.YtffbohecdocajaaGreatKNT04
import Derived.Test.YtffbohecdocajaaGreatRows

set_option linter.unusedSimpArgs false
namespace Go.Proofs.YtffbohecdocajaaGreat.topNetted
open Go
theorem cf3 : (Rows.topNettedRow.recurses == Tryz.pinned.checked.prog.recurses 6) = true := by kernel_rfl
theorem cf4 : (Rows.topNettedRow.named == Tryz.pinned.checked.prog.varsNamed 6) = true := by kernel_rfl
end Go.Proofs.YtffbohecdocajaaGreat.topNetted
