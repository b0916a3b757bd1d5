/-
  What a reading says of fields.
-/
import Derived.Test.YtdcjeoamhjplmaaWE
import Derived.Test.YtdcjeoamhjplmaaR
namespace Go.Proofs.Ytdcjeoamhjplmaa
open Go.SL Go.Proofs Go.Cast
set_option linter.unusedVariables false


theorem K68 : Try.prog.cellsOf 68 = 1 := by kernel_rfl
theorem K70 : Try.prog.cellsOf 70 = 6 := by kernel_rfl

section
variable {H : Type} {enc : TypeId × Value → H} {W : World}
theorem rd68 : RD enc Try.prog W 68 fun cs => ∃ (p : Option Addr) (cap : Nat) (l : List Span), cs = [.slice p l.length cap] ∧ Spans W p l := fun n cs x hx => by
  obtain ⟨p, cap, rows, rfl, h1, h2, h3⟩ := RD.slice Try.underlying68 K30 (by decide) rd30 _ _ _ hx
  obtain ⟨l, rfl, h5⟩ := rows_map (f := Span.cells) (Q := fun _ => True) (fun r hr => by obtain ⟨a, b, h6, _⟩ := (h3 r hr).2; exact ⟨⟨a, b⟩, h6, trivial⟩)
  exact ⟨p, cap, l, by simp, h2⟩
theorem rd70 : RD enc Try.prog W 70 fun cs => ∃ (f : Field) (p : Option Addr) (cap : Nat), cs = [.int .i64 f.g.x, .int .i64 f.g.y, .int .i64 f.g.size, .int .i64 f.g.wide, .int .i64 f.g.high, .slice p f.vals.length cap] ∧ Spans W p f.vals := fun n cs x hx => by
  obtain ⟨css, rfl, hlen, _, hp⟩ := trod_parts Try.underlying70 (zs := [5, 1]) (by kernel_rfl) rfl (by kernel_rfl) hx
  match css, hlen with
  | [c0, c1], _ =>
    obtain ⟨_, _, h0⟩ := hp 0 _ c0 rfl rfl
    obtain ⟨_, _, h1⟩ := hp 1 _ c1 rfl rfl
    obtain ⟨g, rfl, _⟩ := rd23 _ _ _ h0
    obtain ⟨p, cap, l, rfl, hl⟩ := rd68 _ _ _ h1
    exact ⟨⟨g, l⟩, p, cap, rfl, hl⟩
end

end Go.Proofs.Ytdcjeoamhjplmaa
