/-
  What the law reaches: calls of itself, variables that it names.
-/
import Derived.Test.YtffbohecdocajaaGreatKV04
import Derived.Test.YtffbohecdocajaaGreatRows
open Go.Proofs.YtffbohecdocajaaGreat.Rows renaming topIssuedRow→kA

set_option linter.unusedSimpArgs false
set_option maxRecDepth 20000
set_option maxHeartbeats 8000000
namespace Go.Proofs.YtffbohecdocajaaGreat.topIssued
open Go
theorem cf3:(kA.recurses==Tryz.pinned.checked.prog.recurses 5)=true:=by kernel_rfl
theorem cf4:(kA.named==Tryz.pinned.checked.prog.varsNamed 5)=true:=by kernel_rfl
end Go.Proofs.YtffbohecdocajaaGreat.topIssued
