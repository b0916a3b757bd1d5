/-
  The facts of the law together.
-/
import Derived.Test.YtffbohecdocajaaGreatKUN05

set_option linter.unusedSimpArgs false
namespace Go.Proofs.YtffbohecdocajaaGreat.topUnfolded
open Go
theorem an {a b : Bool} (h : a = true) (k : b = true) : (a && b) = true := by subst h; subst k; rfl
theorem closed : joinedFacts Tryz.pinned.checked.prog 4 Tryz.f4 Rows.topUnfoldedSpec Rows.topUnfoldedRow = true := by
  unfold joinedFacts
  repeat' with_reducible apply an
  all_goals first | with_reducible exact cf1 | with_reducible exact cf2 | with_reducible exact cf3 | with_reducible exact cf4 | with_reducible exact cf5 | with_reducible exact cf6 | kernel_rfl
end Go.Proofs.YtffbohecdocajaaGreat.topUnfolded
