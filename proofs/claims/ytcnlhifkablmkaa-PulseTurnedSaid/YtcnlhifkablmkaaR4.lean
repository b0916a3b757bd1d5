/-
  Readings of four small numbers.
-/
import Derived.Test.YtcnlhifkablmkaaR3
namespace Go.Proofs.Ytcnlhifkablmkaa
open Go.SL Go.Proofs Go.Pulse
set_option linter.unusedVariables false


theorem kb_u16 {n : Int} (h : kb .u16 n) : 0 ≤ n ∧ n ≤ 65535 := by simpa [kb, IntKind.min, IntKind.max, IntKind.signed, IntKind.bits] using h
theorem K42 : Try.prog.cellsOf 42 = 1 := by kernel_rfl
theorem K76 : Try.prog.cellsOf 76 = 4 := by kernel_rfl
section
variable {H : Type} {enc : TypeId × Value → H} {W : World}
theorem rd42 : RD enc Try.prog W 42 fun cs => ∃ n, cs = [.int .u16 n] ∧ kb .u16 n := RD.int Try.underlying42
theorem rd76 : RD enc Try.prog W 76 fun cs => ∃ a b c d : Int, cs = [.int .u16 a, .int .u16 b, .int .u16 c, .int .u16 d] ∧ kb .u16 a ∧ kb .u16 b ∧ kb .u16 c ∧ kb .u16 d := fun n cs x hx => by
  obtain ⟨css, rfl, hlen, hp⟩ := trod_cells Try.underlying76 K42 K76 hx rd42
  match css, hlen with
  | [c0, c1, c2, c3], _ =>
    obtain ⟨_, a, rfl, ha⟩ := hp c0 (by simp)
    obtain ⟨_, b, rfl, hb⟩ := hp c1 (by simp)
    obtain ⟨_, c, rfl, hc⟩ := hp c2 (by simp)
    obtain ⟨_, d, rfl, hd⟩ := hp c3 (by simp)
    exact ⟨a, b, c, d, rfl, ha, hb, hc, hd⟩
end

end Go.Proofs.Ytcnlhifkablmkaa
