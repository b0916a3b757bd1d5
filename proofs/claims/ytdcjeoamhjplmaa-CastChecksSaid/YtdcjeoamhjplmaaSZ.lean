/-
  Rows of rows: a slice that is owned, whose elements are slices that are owned, too.
-/
import Derived.Test.YtdcjeoamhjplmaaSY
import Derived.Test.YtdcjeoamhjplmaaSO
namespace Go.SL
set_option linter.unusedVariables false
open Go.RowKit

/-- Some resources as one: they are only read from now on. -/
def bag (Rs : List Res) : Res where
  fp := fun k => ∃ r, r ∈ Rs ∧ r.fp k
  inv := fun w => ∀ r, r ∈ Rs → r.inv w
  loc := fun h hi r hr => r.loc (fun k hk => h k ⟨r, hr, hk⟩) (hi r hr)

section
variable {β : Bs} {L : List Res} {w : World}
theorem St.bagNil (hw : St β L w) : St β (bag [] :: L) w := by
  have : St (bs w) [bag []] w := by
    refine ⟨rfl, rfl, rfl, Nat.le_refl _, fun _ _ _ => rfl, ?_, ?_, ?_⟩
    · intro i r hr
      cases i with
      | zero => simp at hr; subst hr; exact fun r hr => by cases hr
      | succ i => simp at hr
    · intro i r hr k hk
      cases i with
      | zero => simp at hr; subst hr; obtain ⟨r, hr, _⟩ := hk; cases hr
      | succ i => simp at hr
    · intro i j r s hij hr hs
      cases i with
      | zero => cases j with | zero => exact absurd rfl hij | succ j => simp at hs
      | succ i => simp at hr
  exact hw.call this
theorem St.bagIn {r : Res} {Rs : List Res} (h : St β (r :: bag Rs :: L) w) : St β (bag (Rs ++ [r]) :: L) w := by
  have mem : ∀ {x : Res}, x ∈ Rs ++ [r] → x ∈ Rs ∨ x = r := fun hx => by
    rcases List.mem_append.1 hx with q | q
    · exact .inl q
    · exact .inr (List.mem_singleton.1 q)
  refine ⟨h.os, h.tape, h.output, h.size, h.fr, ?_, ?_, ?_⟩
  · intro i s hs
    cases i with
    | zero =>
      simp at hs; subst hs
      intro x hx
      rcases mem hx with q | rfl
      · exact h.inv 1 (bag Rs) rfl x q
      · exact h.inv 0 x rfl
    | succ i => exact h.inv (i + 2) s (by simpa using hs)
  · intro i s hs k hk
    cases i with
    | zero =>
      simp at hs; subst hs
      obtain ⟨x, hx, hk⟩ := hk
      rcases mem hx with q | rfl
      · exact h.rng 1 (bag Rs) rfl k ⟨x, q, hk⟩
      · exact h.rng 0 x rfl k hk
    | succ i => exact h.rng (i + 2) s (by simpa using hs) k hk
  · have key : ∀ (j : Nat) (s : Res), (L[j]? = some s) → ∀ k, (bag (Rs ++ [r])).fp k → ¬ s.fp k := fun j s hs k hk hk2 => by
      obtain ⟨x, hx, hk⟩ := hk
      rcases mem hx with q | rfl
      · exact h.dis 1 (j + 2) (bag Rs) s (by omega) rfl (by simpa using hs) k ⟨x, q, hk⟩ hk2
      · exact h.dis 0 (j + 2) x s (by omega) rfl (by simpa using hs) k hk hk2
    intro i j a b hij ha hb k hk hk2
    cases i with
    | zero =>
      simp at ha; subst ha
      cases j with
      | zero => exact hij rfl
      | succ j => exact key j b (by simpa using hb) k hk hk2
    | succ i =>
      cases j with
      | zero => simp at hb; subst hb; exact key i a (by simpa using ha) k hk2 hk
      | succ j => exact h.dis (i + 2) (j + 2) a b (by omega) (by simpa using ha) (by simpa using hb) k hk hk2

theorem own_inv_rows {E z cap : Nat} {p : Option Addr} {rows : List (List Value)} (h : (own E z p cap rows).inv w) : Rows w z p rows := by
  obtain ⟨h1, h2, h3, h4⟩ := h
  refine ⟨?_, fun hp => (h3 hp).1, fun _ a ha => (h4 a ha).2.1⟩
  intro j r hr k v hv
  cases p with
  | none => rw [(h3 rfl).1] at hr; simp at hr
  | some a =>
    obtain ⟨g1, g2, C, s, g3, g4, g5⟩ := h4 a rfl
    have hadd : (⟨pb (some a), po (some a) + j * z, none⟩ : Addr).add k = ⟨a.block, j * z + k, none⟩ := by
      unfold Addr.add pb po; simp only [g1]; split <;> simp_all
    rw [hadd]
    simp only [World.cell?, g3, Option.isSome_none, Bool.false_eq_true, if_false]
    have : C.toList[j * z + k]? = some v := by
      rw [g4]
      have := flatten_row h2 hr hv
      rw [List.getElem?_append_left]
      · exact this
      · rcases Nat.lt_or_ge (j * z + k) rows.flatten.length with q | q
        · exact q
        · rw [List.getElem?_eq_none q] at this; cases this
    simpa using this

/-- A row of a slice of slices. -/
structure RowA (α : Type) where
  p : Option Addr
  c : Nat
  l : List α
def RowA.z {α : Type} : RowA α := ⟨none, 0, []⟩
def rowC {α : Type} (x : RowA α) : List Value := [.slice x.p x.l.length x.c]
def bagR {α : Type} (E z : Nat) (f : α → List Value) (rs : List (RowA α)) : Res := bag (rs.map fun x => own E z x.p x.c (x.l.map f))
/-- A slice of slices that is read. -/
def RR {α : Type} (z : Nat) (f : α → List Value) (w : World) (p : Option Addr) (rs : List (RowA α)) : Prop := RO 1 rowC w p rs ∧ ∀ x, x ∈ rs → x.l.length ≤ x.c ∧ RO z f w x.p x.l
theorem RR.keep {α : Type} {z : Nat} {f : α → List Value} {w0 : World} {p : Option Addr} {rs : List (RowA α)} (h : RR z f w0 p rs) : ∀ w, St (bs w0) L w → RR z f w p rs :=
  fun w hw => ⟨h.1.keep w hw, fun x hx => ⟨(h.2 x hx).1, (h.2 x hx).2.keep w hw⟩⟩
theorem RR.of_own {α : Type} {z : Nat} {f : α → List Value} {p : Option Addr} {rs : List (RowA α)} (hw : St β L w) (i j : Nat) {E E' cap : Nat} (hi : L[i]? = some (own E 1 p cap (rs.map rowC))) (hj : L[j]? = some (bagR E' z f rs)) : RR z f w p rs :=
  ⟨RO.of_own hw i hi, fun x hx => by
    have h := hw.inv j _ hj _ (List.mem_map_of_mem (f := fun x : RowA α => own E' z x.p x.c (x.l.map f)) hx)
    refine ⟨?_, own_inv_rows h⟩
    have := h.1
    rwa [List.length_map] at this⟩
theorem St.bagRNil {α : Type} (hw : St β L w) (E z : Nat) (f : α → List Value) : St β (bagR E z f [] :: L) w := hw.bagNil
theorem St.bagRIn {α : Type} {E z : Nat} {f : α → List Value} {rs : List (RowA α)} {x : RowA α} (h : St β (own E z x.p x.c (x.l.map f) :: bagR E z f rs :: L) w) : St β (bagR E z f (rs ++ [x]) :: L) w := by
  have := h.bagIn
  unfold bagR
  rw [List.map_append]
  exact this
end
end Go.SL
