/-
  How the program is laid.
-/
import Derived.Test.YtffbohecdocajaaGreatKNT05
import Derived.Test.YtffbohecdocajaaGreatRows

set_option linter.unusedSimpArgs false
namespace Go.Proofs.YtffbohecdocajaaGreat.topNetted
open Go
theorem cf5 : laidOutB Tryz.pinned.checked.prog = true := by kernel_rfl
theorem cf6 : mapsRowed Tryz.pinned.checked.prog = true := by kernel_rfl
end Go.Proofs.YtffbohecdocajaaGreat.topNetted
