/-
  What a reading says of four cuts.
-/
import Derived.Test.YtdcjeoamhjplmaaWJ
import Derived.Test.YtdcjeoamhjplmaaR4
namespace Go.Proofs.Ytdcjeoamhjplmaa
open Go.SL Go.Proofs Go.Cast
set_option linter.unusedVariables false


theorem K51 : Try.prog.cellsOf 51 = 4 := by kernel_rfl
section
variable {H : Type} {enc : TypeId × Value → H} {W : World}
theorem rd51 : RD enc Try.prog W 51 fun cs => ∃ a b c d, cs = [.int .u32 a, .int .u32 b, .int .u32 c, .int .u32 d] ∧ kb .u32 a ∧ kb .u32 b ∧ kb .u32 c ∧ kb .u32 d := fun n cs x hx => by
  obtain ⟨css, rfl, hlen, hp⟩ := trod_cells Try.underlying51 K50 K51 hx rd50
  match css, hlen with
  | [c0, c1, c2, c3], _ =>
    obtain ⟨_, a, rfl, ha⟩ := hp c0 (by simp)
    obtain ⟨_, b, rfl, hb⟩ := hp c1 (by simp)
    obtain ⟨_, c, rfl, hc⟩ := hp c2 (by simp)
    obtain ⟨_, d, rfl, hd⟩ := hp c3 (by simp)
    exact ⟨a, b, c, d, rfl, ha, hb, hc, hd⟩
end

end Go.Proofs.Ytdcjeoamhjplmaa
