/-
  Rows that are read, of what a function encodes.
-/
import Derived.Test.YtdcjeoamhjplmaaSA
import Derived.Test.YtdcjeoamhjplmaaSG
import Derived.Test.YtdcjeoamhjplmaaSF
import Derived.Test.YtdcjeoamhjplmaaSE
namespace Go.SL
set_option linter.unusedVariables false
/-- Rows of what 'f' encodes. -/
def RO {α : Type} (z : Nat) (f : α → List Value) (w : World) (p : Option Addr) (l : List α) : Prop := Go.SL.Rows w z p (l.map f)
section
variable {α : Type} {z : Nat} {f : α → List Value} {w0 w : World} {p : Option Addr} {l : List α} {L : List Res} {β : Bs}
theorem RO.sm (h : RO z f w p l) : SlSome p l.length := Go.SL.Rows.some h (by simp)
theorem RO.keep (h : RO z f w0 p l) : ∀ w, St (bs w0) L w → RO z f w p l := Go.SL.Rows.keep h
theorem RO.here (h : RO z f w p l) (d : α) {j : Nat} (hj : j < l.length) : Cells w ⟨pb p, po p + j * z, none⟩ (f (l.getD j d)) :=
  Go.SL.Rows.cells h j _ (by rw [List.getElem?_map, List.getElem?_eq_getElem hj]; simp [List.getD, List.getElem?_eq_getElem hj])
theorem RO.at (h : RO z f w0 p l) (d : α) {j : Nat} (hj : j < l.length) : ∀ w, St (bs w0) L w → Cells w ⟨pb p, po p + j * z, none⟩ (f (l.getD j d)) := fun w hw => (h.keep w hw).here d hj
theorem RO.of_own (hw : St β L w) (i : Nat) {E cap : Nat} (hi : L[i]? = some (own E z p cap (l.map f))) : RO z f w p l := own_rows hw i hi
theorem RO.ofC {b : Nat} (hz : ∀ x, (f x).length = z) (h : Cells w ⟨b, 0, none⟩ (l.map f).flatten) : RO z f w (some ⟨b, 0, none⟩) l := by
  refine ⟨fun j r hr i v hv => ?_, fun q => (by cases q), fun _ a q => (by cases q; rfl)⟩
  have hz' : ∀ r ∈ l.map f, r.length = z := fun r hr => by obtain ⟨x, _, rfl⟩ := List.mem_map.1 hr; exact hz x
  have := h (j * z + i) v (flatten_row hz' hr hv)
  have e1 : (⟨b, 0, none⟩ : Addr).add (j * z + i) = ⟨b, j * z + i, none⟩ := by unfold Addr.add; split <;> simp_all
  have e2 : (⟨pb (Option.some ⟨b, 0, none⟩), po (Option.some ⟨b, 0, none⟩) + j * z, none⟩ : Addr).add i = ⟨b, j * z + i, none⟩ := by unfold Addr.add; simp only [pb, po]; split <;> simp_all
  rw [e1] at this; rw [e2]; exact this
theorem RO.ofNil {c : Option Addr} (h : l = []) (h2 : c = none) : RO z f w c l := by
  subst h; subst h2
  exact ⟨fun j r hr => by simp at hr, fun _ => rfl, fun q => absurd rfl q⟩
theorem cells_part {w : World} {b o off : Nat} {C vs : List Value} (h : Cells w ⟨b, o, none⟩ C) (hv : ∃ r, C.drop off = vs ++ r) : Cells w ⟨b, o + off, none⟩ vs := by
  obtain ⟨r, hr⟩ := hv
  intro j v hj
  have h2 : C[off + j]? = some v := by
    rw [← List.getElem?_drop, hr, List.getElem?_append_left (by
      rcases Nat.lt_or_ge j vs.length with h | h
      · exact h
      · simp [List.getElem?_eq_none h] at hj)]
    exact hj
  have := h (off + j) v h2
  have e1 : (⟨b, o, none⟩ : Addr).add (off + j) = ⟨b, o + off + j, none⟩ := by unfold Addr.add; split <;> simp_all <;> omega
  have e2 : (⟨b, o + off, none⟩ : Addr).add j = ⟨b, o + off + j, none⟩ := by unfold Addr.add; split <;> simp_all
  rw [e2, ← e1]; exact this
end
end Go.SL
