/-
  Readings of draws.
-/
import Derived.Test.YtcnlhifkablmkaaR4
import Derived.Test.YtcnlhifkablmkaaP3
namespace Go.Proofs.Ytcnlhifkablmkaa
open Go.SL Go.Proofs Go.Pulse
set_option linter.unusedVariables false


theorem K71 : Try.prog.cellsOf 71 = 4 := by kernel_rfl
section
variable {H : Type} {enc : TypeId × Value → H} {W : World}
theorem rd71 : RD enc Try.prog W 71 fun cs => ∃ q : Q4, cs = q4C q ∧ q4Ok q := fun n cs x hx => by
  obtain ⟨css, rfl, hlen, _, hp⟩ := trod_parts Try.underlying71 (zs := [1, 1, 1, 1]) (by kernel_rfl) rfl (by kernel_rfl) hx
  match css, hlen with
  | [c0, c1, c2, c3], _ =>
    obtain ⟨_, _, h0⟩ := hp 0 _ c0 rfl rfl
    obtain ⟨_, _, h1⟩ := hp 1 _ c1 rfl rfl
    obtain ⟨_, _, h2⟩ := hp 2 _ c2 rfl rfl
    obtain ⟨_, _, h3⟩ := hp 3 _ c3 rfl rfl
    obtain ⟨a, rfl, ha⟩ := rd42 _ _ _ h0
    obtain ⟨b, rfl, hb⟩ := rd42 _ _ _ h1
    obtain ⟨c, rfl, hc⟩ := rd42 _ _ _ h2
    obtain ⟨d, rfl, hd⟩ := rd42 _ _ _ h3
    exact ⟨⟨a, b, c, d⟩, rfl, kb_u16 ha, kb_u16 hb, kb_u16 hc, kb_u16 hd⟩
theorem rd69 : RD enc Try.prog W 69 fun cs => ∃ (p : Option Addr) (cap : Nat) (l : List Q4), cs = [.slice p l.length cap] ∧ l.length ≤ cap ∧ RO 4 q4C W p l ∧ ∀ x, x ∈ l → q4Ok x := fun n cs x hx => by
  obtain ⟨p, cap, rows, rfl, h1, h2, h3⟩ := RD.slice Try.underlying69 K71 (by decide) rd71 _ _ _ hx
  obtain ⟨l, rfl, h5⟩ := rows_map (f := q4C) (Q := q4Ok) (fun r hr => by obtain ⟨x, h6, h7⟩ := (h3 r hr).2; exact ⟨x, h6, h7⟩)
  exact ⟨p, cap, l, by simp, by have := RD.cap Try.underlying69 hx; simpa using this, h2, h5⟩
end

end Go.Proofs.Ytcnlhifkablmkaa
