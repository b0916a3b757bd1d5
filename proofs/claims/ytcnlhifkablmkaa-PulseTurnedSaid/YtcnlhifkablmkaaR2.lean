/-
  More readings of arguments.
-/
import Derived.Test.YtcnlhifkablmkaaR
namespace Go.Proofs.Ytcnlhifkablmkaa
open Go.SL Go.Proofs Go.Pulse
set_option linter.unusedVariables false


theorem kb_u32 {n : Int} (h : kb .u32 n) : 0 ≤ n ∧ n ≤ 4294967295 := by simpa [kb, IntKind.min, IntKind.max, IntKind.signed, IntKind.bits] using h
theorem kb_u8 {n : Int} (h : kb .u8 n) : 0 ≤ n ∧ n ≤ 255 := by simpa [kb, IntKind.min, IntKind.max, IntKind.signed, IntKind.bits] using h
theorem kb_i8 {n : Int} (h : kb .i8 n) : -128 ≤ n ∧ n ≤ 127 := by simpa [kb, IntKind.min, IntKind.max, IntKind.signed, IntKind.bits] using h
theorem kb_i64 {n : Int} (h : kb .i64 n) : -9223372036854775808 ≤ n ∧ n ≤ 9223372036854775807 := by simpa [kb, IntKind.min, IntKind.max, IntKind.signed, IntKind.bits] using h
theorem K78 : Try.prog.cellsOf 78 = 2 := by kernel_rfl
theorem K4 : Try.prog.cellsOf 4 = 1 := by kernel_rfl
theorem K60 : Try.prog.cellsOf 60 = 1 := by kernel_rfl
section
variable {H : Type} {enc : TypeId × Value → H} {W : World}
theorem rd78 : RD enc Try.prog W 78 fun cs => ∃ a b : Int, cs = [.int .i64 a, .int .i64 b] := fun n cs x hx => by
  obtain ⟨css, rfl, hlen, hp⟩ := trod_cells Try.underlying78 K3 K78 hx rd3
  match css, hlen with
  | [c0, c1], _ =>
    obtain ⟨_, a, rfl, _⟩ := hp c0 (by simp)
    obtain ⟨_, b, rfl, _⟩ := hp c1 (by simp)
    exact ⟨a, b, rfl⟩
theorem rd60 : RD enc Try.prog W 60 fun cs => ∃ n, cs = [.int .u32 n] ∧ kb .u32 n := RD.int Try.underlying60
theorem rd4 : RD enc Try.prog W 4 fun cs => ∃ b, cs = [.bool b] := RD.bool Try.underlying4
theorem rd88 : RD enc Try.prog W 88 fun cs => ∃ n, cs = [.int .i8 n] ∧ kb .i8 n := RD.int Try.underlying88
end

end Go.Proofs.Ytcnlhifkablmkaa
