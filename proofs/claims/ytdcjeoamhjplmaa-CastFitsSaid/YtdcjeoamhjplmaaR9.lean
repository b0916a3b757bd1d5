/-
  What a reading says of small numbers.
-/
import Derived.Test.YtdcjeoamhjplmaaWS
import Derived.Test.YtdcjeoamhjplmaaR8
namespace Go.Proofs.Ytdcjeoamhjplmaa
open Go.SL Go.Proofs Go.Cast
set_option linter.unusedVariables false


theorem K99 : Try.prog.cellsOf 99 = 1 := by kernel_rfl
theorem kb_i8 {n : Int} (h : kb .i8 n) : -128 ≤ n ∧ n ≤ 127 := by simpa [kb, IntKind.min, IntKind.max, IntKind.signed, IntKind.bits] using h
section
variable {H : Type} {enc : TypeId × Value → H} {W : World}
theorem rd99 : RD enc Try.prog W 99 fun cs => ∃ n, cs = [.int .i8 n] ∧ kb .i8 n := RD.int Try.underlying99
end

end Go.Proofs.Ytdcjeoamhjplmaa
