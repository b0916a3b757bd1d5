/-
  What the law reaches: no call into what is not followed.
-/
import Derived.Test.YtffbohecdocajaaGreatKRA02
import Derived.Test.YtffbohecdocajaaGreatRows

set_option linter.unusedSimpArgs false
namespace Go.Proofs.YtffbohecdocajaaGreat.topRained
open Go
theorem cf1 : (Rows.topRainedRow.inPlace == Tryz.pinned.checked.prog.inPlace 3) = true := by kernel_rfl
theorem cf2 : (Rows.topRainedRow.unfollowed == Tryz.pinned.checked.prog.unfollowed 3) = true := by kernel_rfl
end Go.Proofs.YtffbohecdocajaaGreat.topRained
