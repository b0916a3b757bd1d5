/-
  What the law reaches: no call into what is not followed.
-/
import Derived.Test.YtffbohecdocajaaGreatKUN02
import Derived.Test.YtffbohecdocajaaGreatRows

set_option linter.unusedSimpArgs false
namespace Go.Proofs.YtffbohecdocajaaGreat.topUnfolded
open Go
theorem cf1 : (Rows.topUnfoldedRow.inPlace == Tryz.pinned.checked.prog.inPlace 4) = true := by kernel_rfl
theorem cf2 : (Rows.topUnfoldedRow.unfollowed == Tryz.pinned.checked.prog.unfollowed 4) = true := by kernel_rfl
end Go.Proofs.YtffbohecdocajaaGreat.topUnfolded
