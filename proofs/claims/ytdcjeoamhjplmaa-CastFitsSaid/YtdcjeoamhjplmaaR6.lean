/-
  What a reading says of two shifts.
-/
import Derived.Test.YtdcjeoamhjplmaaWK
import Derived.Test.YtdcjeoamhjplmaaR5
namespace Go.Proofs.Ytdcjeoamhjplmaa
open Go.SL Go.Proofs Go.Cast
set_option linter.unusedVariables false


theorem K57 : Try.prog.cellsOf 57 = 2 := by kernel_rfl
section
variable {H : Type} {enc : TypeId × Value → H} {W : World}
theorem rd57 : RD enc Try.prog W 57 fun cs => ∃ a b, cs = [.int .u8 a, .int .u8 b] ∧ kb .u8 a ∧ kb .u8 b := fun n cs x hx => by
  obtain ⟨css, rfl, hlen, hp⟩ := trod_cells Try.underlying57 K5 K57 hx rd5
  match css, hlen with
  | [c0, c1], _ =>
    obtain ⟨_, a, rfl, ha⟩ := hp c0 (by simp)
    obtain ⟨_, b, rfl, hb⟩ := hp c1 (by simp)
    exact ⟨a, b, rfl, ha, hb⟩
end

end Go.Proofs.Ytdcjeoamhjplmaa
