/-
  What the law reaches: no call into what is not followed.
-/
import Derived.Test.YtffbohecdocajaaGreatKV03
import Derived.Test.YtffbohecdocajaaGreatRows
open Go.Proofs.YtffbohecdocajaaGreat.Rows renaming topIssuedRow→kA

set_option linter.unusedSimpArgs false
set_option maxRecDepth 20000
set_option maxHeartbeats 8000000
namespace Go.Proofs.YtffbohecdocajaaGreat.topIssued
open Go
theorem cf1:(kA.inPlace==Tryz.pinned.checked.prog.inPlace 5)=true:=by kernel_rfl
theorem cf2:(kA.unfollowed==Tryz.pinned.checked.prog.unfollowed 5)=true:=by kernel_rfl
end Go.Proofs.YtffbohecdocajaaGreat.topIssued
