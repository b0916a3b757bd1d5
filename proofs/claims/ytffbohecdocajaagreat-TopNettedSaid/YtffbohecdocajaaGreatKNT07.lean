/-
  The facts of the law together.
-/
import Derived.Test.YtffbohecdocajaaGreatKNT06

set_option linter.unusedSimpArgs false
namespace Go.Proofs.YtffbohecdocajaaGreat.topNetted
open Go
theorem an {a b : Bool} (h : a = true) (k : b = true) : (a && b) = true := by subst h; subst k; rfl
theorem closed : joinedFacts Tryz.pinned.checked.prog 6 Tryz.f6 Rows.topNettedSpec Rows.topNettedRow = true := by
  unfold joinedFacts
  repeat' with_reducible apply an
  all_goals first | with_reducible exact cf1 | with_reducible exact cf2 | with_reducible exact cf3 | with_reducible exact cf4 | with_reducible exact cf5 | with_reducible exact cf6 | kernel_rfl
end Go.Proofs.YtffbohecdocajaaGreat.topNetted
