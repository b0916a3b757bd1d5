/-
  Readings of rows of samples.
-/
import Derived.Test.YtcnlhifkablmkaaR
import Derived.Test.YtcnlhifkablmkaaWP
namespace Go.Proofs.Ytcnlhifkablmkaa
open Go.SL Go.Proofs Go.Pulse
set_option linter.unusedVariables false


theorem K48 : Try.prog.cellsOf 48 = 1 := by kernel_rfl
section
variable {H : Type} {enc : TypeId × Value → H} {W : World}
theorem rd48 : RD enc Try.prog W 48 fun cs => ∃ (p : Option Addr) (cap : Nat) (l : List SRow), cs = [.slice p l.length cap] ∧ l.length ≤ cap ∧ RO 1 rowC W p l ∧ ∀ x, x ∈ l → (fun x => x.l.length ≤ x.c ∧ RO 4 smpC W x.p x.l) x := fun n cs x hx => by
  obtain ⟨p, cap, rows, rfl, h1, h2, h3⟩ := RD.slice Try.underlying48 K28 (by decide) rd28 _ _ _ hx
  obtain ⟨l, rfl, h5⟩ := rows_map (f := rowC) (Q := (fun x => x.l.length ≤ x.c ∧ RO 4 smpC W x.p x.l)) (fun r hr => by obtain ⟨p, c, l, h6, h7, h8, _⟩ := (h3 r hr).2; exact ⟨⟨p, c, l⟩, h6, h7, h8⟩)
  exact ⟨p, cap, l, by simp, by have := RD.cap Try.underlying48 hx; simpa using this, h2, h5⟩
end

end Go.Proofs.Ytcnlhifkablmkaa
