/-
  What the law reaches: no call into what is not followed.
-/
import Derived.Test.YtffbohecdocajaaGreatKNT03
import Derived.Test.YtffbohecdocajaaGreatRows

set_option linter.unusedSimpArgs false
namespace Go.Proofs.YtffbohecdocajaaGreat.topNetted
open Go
theorem cf1 : (Rows.topNettedRow.inPlace == Tryz.pinned.checked.prog.inPlace 6) = true := by kernel_rfl
theorem cf2 : (Rows.topNettedRow.unfollowed == Tryz.pinned.checked.prog.unfollowed 6) = true := by kernel_rfl
end Go.Proofs.YtffbohecdocajaaGreat.topNetted
