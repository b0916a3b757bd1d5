/-
  TopIssued holds: of rain that moves, in truth, each region that it meets for sure was warned. No condition.
-/
import Derived.Test.YtffbohecdocajaaGreatKV16

set_option linter.unusedSimpArgs false
namespace Go.Proofs.YtffbohecdocajaaGreat.topIssued
open Go.SL Go.Proofs Go.qO Go.Cell Go.ChangeShapes Go.WideShapes Go.ChangeAt Go.RowKit
theorem over:Rows.topIssuedRow.holds Tryz.pinned (OpenSpec.ofChange Rows.topIssuedSpec):=
 OpenClaim.holds_of_wide 5 Tryz.f5 rfl rfl rfl rfl rfl rfl rfl ⟨rfl,rfl,rfl,rfl,rfl⟩ rfl rfl rfl rfl rfl (by kernel_rfl) Tryz.func5 closed
  (of_decide_eq_true (by kernel_rfl)) (by unfold Func.isWrapper;first |(rw[if_pos (by decide+kernel)];kernel_rfl)|(rw[if_neg (by decide+kernel)];exact⟨rfl,rfl⟩))
  (fun os started H enc _=>lifted os started H enc)
theorem proved:Rows.TopIssuedSaid:=
 over
#print axioms proved
end Go.Proofs.YtffbohecdocajaaGreat.topIssued
