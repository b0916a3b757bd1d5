/-
  What a reading says of flows.
-/
import Derived.Test.YtdcjeoamhjplmaaWR
import Derived.Test.YtdcjeoamhjplmaaR7
namespace Go.Proofs.Ytdcjeoamhjplmaa
open Go.SL Go.Proofs Go.Cast
set_option linter.unusedVariables false


theorem K80 : Try.prog.cellsOf 80 = 1 := by kernel_rfl
section
variable {H : Type} {enc : TypeId × Value → H} {W : World}
def fB (f : Flow) : Prop := kb .i64 f.a ∧ kb .i64 f.b ∧ kb .i64 f.c ∧ kb .i64 f.d
theorem rd80 : RD enc Try.prog W 80 fun cs => ∃ (p : Option Addr) (cap : Nat) (l : List Flow), cs = [.slice p l.length cap] ∧ Flows W p l ∧ l.length ≤ cap ∧ ∀ f, f ∈ l → fB f := fun n cs x hx => by
  obtain ⟨p, cap, rows, rfl, h1, h2, h3⟩ := RD.slice Try.underlying80 K32 (by decide) rd32 _ _ _ hx
  obtain ⟨l, rfl, h5⟩ := rows_map (f := Flow.cells) (Q := fB) (fun r hr => by obtain ⟨f, h6, h7⟩ := (h3 r hr).2; exact ⟨f, h6, h7⟩)
  have hc := RD.cap Try.underlying80 hx
  exact ⟨p, cap, l, by simp, h2, by simpa using hc, h5⟩
end

end Go.Proofs.Ytdcjeoamhjplmaa
