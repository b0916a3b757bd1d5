/-
  What a reading says of a way.
-/
import Derived.Test.YtdcjeoamhjplmaaWM
import Derived.Test.YtdcjeoamhjplmaaR6
namespace Go.Proofs.Ytdcjeoamhjplmaa
open Go.SL Go.Proofs Go.Cast
set_option linter.unusedVariables false


theorem K4 : Try.prog.cellsOf 4 = 1 := by kernel_rfl
theorem K73 : Try.prog.cellsOf 73 = 1 := by kernel_rfl
theorem K75 : Try.prog.cellsOf 75 = 5 := by kernel_rfl

section
variable {H : Type} {enc : TypeId × Value → H} {W : World}
theorem rd4 : RD enc Try.prog W 4 fun cs => ∃ b, cs = [.bool b] := RD.bool Try.underlying4
theorem rd73 : RD enc Try.prog W 73 fun cs => ∃ (p : Option Addr) (cap : Nat) (l : List Bool), cs = [.slice p l.length cap] ∧ Bools W p l := fun n cs x hx => by
  obtain ⟨p, cap, rows, rfl, h1, h2, h3⟩ := RD.slice Try.underlying73 K4 (by decide) rd4 _ _ _ hx
  obtain ⟨l, rfl, h5⟩ := rows_map (f := fun n => [Value.bool n]) (Q := fun _ => True) (fun r hr => by obtain ⟨b, h6⟩ := (h3 r hr).2; exact ⟨b, h6, trivial⟩)
  exact ⟨p, cap, l, by simp, h2⟩
theorem rd75 : RD enc Try.prog W 75 fun cs => ∃ (p : Option Addr) (cap : Nat) (l : List Bool) (x y e : Int) (i : Bool), cs = [.slice p l.length cap, .int .u32 x, .int .u32 y, .int .u32 e, .bool i] ∧ Bools W p l ∧ kb .u32 x ∧ kb .u32 y ∧ kb .u32 e := fun n cs x hx => by
  obtain ⟨css, rfl, hlen, _, hp⟩ := trod_parts Try.underlying75 (zs := [1, 1, 1, 1, 1]) (by kernel_rfl) rfl (by kernel_rfl) hx
  match css, hlen with
  | [c0, c1, c2, c3, c4], _ =>
    obtain ⟨_, _, h0⟩ := hp 0 _ c0 rfl rfl
    obtain ⟨_, _, h1⟩ := hp 1 _ c1 rfl rfl
    obtain ⟨_, _, h2⟩ := hp 2 _ c2 rfl rfl
    obtain ⟨_, _, h3⟩ := hp 3 _ c3 rfl rfl
    obtain ⟨_, _, h4⟩ := hp 4 _ c4 rfl rfl
    obtain ⟨p, cap, l, rfl, hl⟩ := rd73 _ _ _ h0
    obtain ⟨x, rfl, hkx⟩ := rd50 _ _ _ h1
    obtain ⟨y, rfl, hy⟩ := rd50 _ _ _ h2
    obtain ⟨e, rfl, he⟩ := rd50 _ _ _ h3
    obtain ⟨i, rfl⟩ := rd4 _ _ _ h4
    exact ⟨p, cap, l, x, y, e, i, rfl, hl, hkx, hy, he⟩
end

end Go.Proofs.Ytdcjeoamhjplmaa
