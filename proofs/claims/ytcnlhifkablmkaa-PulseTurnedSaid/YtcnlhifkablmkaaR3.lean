/-
  Readings of numbers without sign.
-/
import Derived.Test.YtcnlhifkablmkaaR2
import Derived.Test.YtcnlhifkablmkaaWK
namespace Go.Proofs.Ytcnlhifkablmkaa
open Go.SL Go.Proofs Go.Pulse
set_option linter.unusedVariables false


section
variable {H : Type} {enc : TypeId × Value → H} {W : World}
theorem rd5 : RD enc Try.prog W 5 fun cs => ∃ n, cs = [.int .u8 n] ∧ kb .u8 n := RD.int Try.underlying5
theorem rd59 : RD enc Try.prog W 59 fun cs => ∃ (p : Option Addr) (cap : Nat) (l : List Int), cs = [.slice p l.length cap] ∧ l.length ≤ cap ∧ RO 1 u32C W p l ∧ ∀ x, x ∈ l → (kb .u32) x := fun n cs x hx => by
  obtain ⟨p, cap, rows, rfl, h1, h2, h3⟩ := RD.slice Try.underlying59 K60 (by decide) rd60 _ _ _ hx
  obtain ⟨l, rfl, h5⟩ := rows_map (f := u32C) (Q := (kb .u32)) (fun r hr => by obtain ⟨x, h6, h7⟩ := (h3 r hr).2; exact ⟨x, h6, h7⟩)
  exact ⟨p, cap, l, by simp, by have := RD.cap Try.underlying59 hx; simpa using this, h2, h5⟩
end

end Go.Proofs.Ytcnlhifkablmkaa
