/-
  Quotients, rounded down and up; rows of structs. No program stands in this text.
-/
import Derived.Test.YtcnlhifkablmkaaD
import Derived.Test.YtcnlhifkablmkaaSA
import Derived.Test.YtcnlhifkablmkaaSG
import Derived.Test.YtcnlhifkablmkaaSF
import Derived.Test.YtcnlhifkablmkaaSE
namespace Go.Pulse
set_option linter.unusedVariables false
theorem tdiv_bd (a b : Int) (hb : 0 < b) (h1 : -9223372036854775807 ≤ a) (h2 : a ≤ 9223372036854775807) : -9223372036854775807 ≤ a.tdiv b ∧ a.tdiv b ≤ 9223372036854775807 ∧ (a.tmod b < 0 → a / b = a.tdiv b - 1) ∧ (0 ≤ a.tmod b → a / b = a.tdiv b) ∧ -9223372036854775807 ≤ a / b := by
  have e := Int.mul_tdiv_add_tmod a b
  have f := Int.mul_ediv_add_emod a b
  have hm := Int.emod_nonneg a (by omega : b ≠ 0)
  have hm2 := Int.emod_lt_of_pos a hb
  rcases Int.le_total 0 a with h | h
  · have r1 := Int.tmod_nonneg b h
    have e1 : a.tdiv b = a / b := Int.tdiv_eq_ediv_of_nonneg h
    have d1 : 0 ≤ a / b := Int.ediv_nonneg h (by omega)
    have d2 : a / b ≤ a := Int.ediv_le_self b h
    refine ⟨by omega, by omega, fun q => by omega, fun _ => e1.symm, by omega⟩
  · have r1 : a.tdiv b = -((-a) / b) := by
      have := Int.neg_tdiv (a := -a) (b := b)
      rw [Int.neg_neg] at this
      rw [this, Int.tdiv_eq_ediv_of_nonneg (by omega)]
    have d1 : 0 ≤ (-a) / b := Int.ediv_nonneg (by omega) (by omega)
    have d2 : (-a) / b ≤ -a := Int.ediv_le_self b (by omega)
    have d3 := Int.mul_ediv_add_emod (-a) b
    have d4 := Int.emod_nonneg (-a) (by omega : b ≠ 0)
    have d5 := Int.emod_lt_of_pos (-a) hb
    have t1 : a.tmod b = a - b * a.tdiv b := by omega
    have key : b * a.tdiv b = -(b * ((-a) / b)) := by rw [r1, Int.mul_neg]
    refine ⟨by omega, by omega, fun q => ?_, fun q => ?_, ?_⟩
    · have h7 : 0 < (-a) % b := by omega
      have : a / b = -((-a) / b) - 1 := by
        have : a = b * (-((-a) / b) - 1) + (b - (-a) % b) := by rw [Int.mul_sub, Int.mul_neg]; omega
        have h8 := Int.ediv_emod_unique (a := a) (b := b) (r := b - (-a) % b) (q := -((-a) / b) - 1) hb
        exact (h8.2 ⟨by omega, by omega, by omega⟩).1
      omega
    · have h7 : (-a) % b = 0 := by omega
      have : a / b = -((-a) / b) := by
        have h8 := Int.ediv_emod_unique (a := a) (b := b) (r := 0) (q := -((-a) / b)) hb
        exact (h8.2 ⟨by rw [Int.mul_neg]; omega, by omega, by omega⟩).1
      omega
    · by_cases h7 : (-a) % b = 0
      · have h8 := Int.ediv_emod_unique (a := a) (b := b) (r := 0) (q := -((-a) / b)) hb
        have := (h8.2 ⟨by rw [Int.mul_neg]; omega, by omega, by omega⟩).1
        omega
      · have h8 := Int.ediv_emod_unique (a := a) (b := b) (r := b - (-a) % b) (q := -((-a) / b) - 1) hb
        have := (h8.2 ⟨by rw [Int.mul_sub, Int.mul_neg]; omega, by omega, by omega⟩).1
        have : (-a) / b ≤ 9223372036854775806 := by
          rcases Nat.lt_or_ge 1 b.toNat with h9 | h9
          · have h10 : b * ((-a) / b) ≥ 2 * ((-a) / b) := Int.mul_le_mul_of_nonneg_right (by omega) d1
            omega
          · have : b = 1 := by omega
            subst this
            omega
        omega
theorem tdiv_up (a b : Int) (hb : 0 < b) (h2 : a ≤ 9223372036854775807) : a / b ≤ 9223372036854775807 := by
  rcases Int.le_total 0 a with h | h
  · exact Int.le_trans (Int.ediv_le_self b h) h2
  · have : a / b ≤ 0 := Int.ediv_nonpos_of_nonpos_of_neg (by omega) (by omega)
    omega
/-- What 'q := a / b; if q*b > a { q-- }' comes to. -/
theorem down_bd (a b : Int) (hb : 0 < b) (h1 : -9223372036854775807 ≤ a) (h2 : a ≤ 9223372036854775807) : (-9223372036854775807 ≤ a.tdiv b ∧ a.tdiv b ≤ 9223372036854775807) ∧ (-9223372036854775807 ≤ a.tdiv b * b ∧ a.tdiv b * b ≤ 9223372036854775807) ∧ (a < a.tdiv b * b → a.tdiv b - 1 = a / b) ∧ (¬ a < a.tdiv b * b → a.tdiv b = a / b) ∧ -9223372036854775807 ≤ a / b ∧ a / b ≤ 9223372036854775807 := by
  obtain ⟨q1, q2, q3, q4, q5⟩ := tdiv_bd a b hb h1 h2
  have e := Int.mul_tdiv_add_tmod a b
  rw [Int.mul_comm] at e
  have q6 := tdiv_up a b hb h2
  have m1 : a.tmod b < b := Int.tmod_lt_of_pos a hb
  have m2 : -b < a.tmod b := by
    rcases Int.le_total 0 a with h | h
    · have := Int.tmod_nonneg b h; omega
    · have e2 : (-a).tmod b = -(a.tmod b) := Int.neg_tmod ..
      have := Int.tmod_lt_of_pos (-a) hb
      omega
  have hs : (-9223372036854775807 ≤ a.tdiv b * b ∧ a.tdiv b * b ≤ 9223372036854775807) := by
    rcases Int.le_total 0 a with h | h
    · have r1 := Int.tmod_nonneg b h
      have d1 : 0 ≤ a.tdiv b := by rw [Int.tdiv_eq_ediv_of_nonneg h]; exact Int.ediv_nonneg h (by omega)
      have := Int.mul_nonneg d1 (by omega : 0 ≤ b)
      omega
    · have r1 : a.tmod b ≤ 0 := by
        have e2 : (-a).tmod b = -(a.tmod b) := Int.neg_tmod ..
        have := Int.tmod_nonneg b (by omega : 0 ≤ -a)
        omega
      have d1 : a.tdiv b ≤ 0 := by
        have e3 : (-a).tdiv b = -(a.tdiv b) := Int.neg_tdiv ..
        have : 0 ≤ (-a).tdiv b := by rw [Int.tdiv_eq_ediv_of_nonneg (by omega)]; exact Int.ediv_nonneg (by omega) (by omega)
        omega
      have := Int.mul_nonneg (by omega : 0 ≤ -(a.tdiv b)) (by omega : 0 ≤ b)
      rw [Int.neg_mul] at this
      omega
  exact ⟨⟨q1, q2⟩, hs, fun h => (q3 (by omega) ▸ rfl), fun h => (q4 (by omega)).symm, q5, q6⟩
theorem tmod2 (a : Int) : a.tmod 2 = 0 ↔ a % 2 = 0 := by
  rw [← Int.dvd_iff_tmod_eq_zero, ← Int.dvd_iff_emod_eq_zero]
end Go.Pulse
namespace Go.SL
set_option linter.unusedVariables false
/-- Rows of what 'f' encodes. -/
def RO {α : Type} (z : Nat) (f : α → List Value) (w : World) (p : Option Addr) (l : List α) : Prop := Go.SL.Rows w z p (l.map f)
section
variable {α : Type} {z : Nat} {f : α → List Value} {w0 w : World} {p : Option Addr} {l : List α} {L : List Res} {β : Bs}
theorem RO.sm (h : RO z f w p l) : SlSome p l.length := Go.SL.Rows.some h (by simp)
theorem RO.keep (h : RO z f w0 p l) : ∀ w, St (bs w0) L w → RO z f w p l := Go.SL.Rows.keep h
theorem RO.here (h : RO z f w p l) (d : α) {j : Nat} (hj : j < l.length) : Cells w ⟨pb p, po p + j * z, none⟩ (f (l.getD j d)) :=
  Go.SL.Rows.cells h j _ (by rw [List.getElem?_map, List.getElem?_eq_getElem hj]; simp [List.getD, List.getElem?_eq_getElem hj])
theorem RO.at (h : RO z f w0 p l) (d : α) {j : Nat} (hj : j < l.length) : ∀ w, St (bs w0) L w → Cells w ⟨pb p, po p + j * z, none⟩ (f (l.getD j d)) := fun w hw => (h.keep w hw).here d hj
theorem RO.of_own (hw : St β L w) (i : Nat) {E cap : Nat} (hi : L[i]? = some (own E z p cap (l.map f))) : RO z f w p l := own_rows hw i hi
theorem RO.ofC {b : Nat} (hz : ∀ x, (f x).length = z) (h : Cells w ⟨b, 0, none⟩ (l.map f).flatten) : RO z f w (some ⟨b, 0, none⟩) l := by
  refine ⟨fun j r hr i v hv => ?_, fun q => (by cases q), fun _ a q => (by cases q; rfl)⟩
  have hz' : ∀ r ∈ l.map f, r.length = z := fun r hr => by obtain ⟨x, _, rfl⟩ := List.mem_map.1 hr; exact hz x
  have := h (j * z + i) v (flatten_row hz' hr hv)
  have e1 : (⟨b, 0, none⟩ : Addr).add (j * z + i) = ⟨b, j * z + i, none⟩ := by unfold Addr.add; split <;> simp_all
  have e2 : (⟨pb (Option.some ⟨b, 0, none⟩), po (Option.some ⟨b, 0, none⟩) + j * z, none⟩ : Addr).add i = ⟨b, j * z + i, none⟩ := by unfold Addr.add; simp only [pb, po]; split <;> simp_all
  rw [e1] at this; rw [e2]; exact this
theorem RO.ofNil {c : Option Addr} (h : l = []) (h2 : c = none) : RO z f w c l := by
  subst h; subst h2
  exact ⟨fun j r hr => by simp at hr, fun _ => rfl, fun q => absurd rfl q⟩
theorem cells_part {w : World} {b o off : Nat} {C vs : List Value} (h : Cells w ⟨b, o, none⟩ C) (hv : ∃ r, C.drop off = vs ++ r) : Cells w ⟨b, o + off, none⟩ vs := by
  obtain ⟨r, hr⟩ := hv
  intro j v hj
  have h2 : C[off + j]? = some v := by
    rw [← List.getElem?_drop, hr, List.getElem?_append_left (by
      rcases Nat.lt_or_ge j vs.length with h | h
      · exact h
      · simp [List.getElem?_eq_none h] at hj)]
    exact hj
  have := h (off + j) v h2
  have e1 : (⟨b, o, none⟩ : Addr).add (off + j) = ⟨b, o + off + j, none⟩ := by unfold Addr.add; split <;> simp_all <;> omega
  have e2 : (⟨b, o + off, none⟩ : Addr).add j = ⟨b, o + off + j, none⟩ := by unfold Addr.add; split <;> simp_all
  rw [e2, ← e1]; exact this
end
end Go.SL
