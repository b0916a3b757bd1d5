/-
  Readings of maps by numbers.
-/
import Derived.Test.YtgemekpofpoopaaKTRU07

set_option linter.unusedSimpArgs false
namespace Go.Proofs.Ytgemekpofpoopaa
open Go.SL Go.Proofs Go.Cast Go.Cell
set_option linter.unusedVariables false


theorem K5 : Try.prog.cellsOf 5 = 1 := by kernel_rfl
theorem kb_u8 {n : Int} (h : kb .u8 n) : 0 ≤ n ∧ n ≤ 255 := by simpa [kb, IntKind.min, IntKind.max, IntKind.signed, IntKind.bits] using h
section
variable {H : Type} {enc : TypeId × Value → H} {W : World}
theorem rd5 : RD enc Try.prog W 5 fun cs => ∃ n : Nat, cs = uC n ∧ n ≤ 255 := fun n cs x hx => by
  obtain ⟨m, rfl, hm⟩ := RD.int Try.underlying5 _ _ _ hx
  have := kb_u8 hm
  refine ⟨m.toNat, ?_, by omega⟩
  show _ = [Value.int .u8 ((m.toNat : Nat) : Int)]
  rw [Int.toNat_of_nonneg this.1]
theorem rd61 : RD enc Try.prog W 61 fun cs => ∃ (p : Option Addr) (cap : Nat) (l : List Nat), cs = [.slice p l.length cap] ∧ RO 1 uC W p l ∧ (∀ n, n ∈ l → n ≤ 255) ∧ l.length ≤ 9223372036854775807 := fun n cs x hx => by
  obtain ⟨p, cap, rows, rfl, h1, h2, h3⟩ := RD.slice Try.underlying61 K5 (by decide) rd5 _ _ _ hx
  obtain ⟨l, rfl, h5⟩ := rows_map (f := uC) (Q := fun n => n ≤ 255) (fun r hr => (h3 r hr).2)
  exact ⟨p, cap, l, by simp, h2, h5, by simpa using h1⟩
theorem rd63 : RD enc Try.prog W 63 fun cs => ∃ x : MapA, cs = x.cells ∧ MapI W x ∧ MapK x := fun n cs x hx => by
  obtain ⟨css, rfl, hlen,_, hp⟩ := trod_parts Try.underlying63 (zs := [1,1,1,1]) (by kernel_rfl) rfl (by kernel_rfl) hx
  match css, hlen with
  | [c0, c1, c2, c3],_ =>
    obtain ⟨_,_, h0⟩ := hp 0 _ c0 rfl rfl
    obtain ⟨_,_, h1⟩ := hp 1 _ c1 rfl rfl
    obtain ⟨_,_, h2⟩ := hp 2 _ c2 rfl rfl
    obtain ⟨_,_, h3⟩ := hp 3 _ c3 rfl rfl
    obtain ⟨a, rfl, ha⟩ := rd5 _ _ _ h0
    obtain ⟨b, rfl, hb⟩ := rd5 _ _ _ h1
    obtain ⟨p, c, l, rfl, h4, h5, h6⟩ := rd61 _ _ _ h2
    obtain ⟨q, d, m, rfl, h7, h8, h9⟩ := rd61 _ _ _ h3
    exact ⟨⟨a, b, p, c, l, q, d, m⟩, rfl, ⟨h4, h7⟩, ⟨ha, hb, h5, h8, h6, h9⟩⟩
end

end Go.Proofs.Ytgemekpofpoopaa
