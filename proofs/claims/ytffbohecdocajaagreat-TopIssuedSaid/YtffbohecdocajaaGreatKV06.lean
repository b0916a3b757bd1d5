/-
  How the program is laid.
-/
import Derived.Test.YtffbohecdocajaaGreatKV05
import Derived.Test.YtffbohecdocajaaGreatRows

set_option linter.unusedSimpArgs false
set_option maxRecDepth 20000
set_option maxHeartbeats 8000000
namespace Go.Proofs.YtffbohecdocajaaGreat.topIssued
open Go
theorem cf5:laidOutB Tryz.pinned.checked.prog=true:=by kernel_rfl
theorem cf6:mapsRowed Tryz.pinned.checked.prog=true:=by kernel_rfl
end Go.Proofs.YtffbohecdocajaaGreat.topIssued
