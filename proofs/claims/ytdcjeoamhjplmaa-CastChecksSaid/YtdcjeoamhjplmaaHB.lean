/-
  slices.Sort on a slice of ints that the call owns.
-/
import Derived.Test.YtdcjeoamhjplmaaH
import Derived.Test.YtdcjeoamhjplmaaWC
import Derived.Test.YtdcjeoamhjplmaaSU
namespace Go.SL
set_option linter.unusedVariables false
set_option linter.unusedSimpArgs false
open Go.RowKit Go.Sort
section
variable {P : Program} {β : Bs} {L : List Res}

theorem flat_ints (l : List Int) : (l.map fun n => [Value.int .i64 n]).flatten = l.map (Value.int .i64) := by
  induction l with
  | nil => rfl
  | cons x l ih => simp [ih]

theorem holds_own {w : World} {E cap : Nat} {a : Addr} {l : List Int} (h : (own E 1 (some a) cap (l.map fun n => [.int .i64 n])).inv w) : Holds (Value.int .i64) w a.block 0 l.toArray ∧ a = ⟨a.block, 0, none⟩ := by
  obtain ⟨h1, h2, h3, h4⟩ := h
  obtain ⟨g1, g2, C, spare, g3, g4, g5⟩ := h4 a rfl
  have ea : a = ⟨a.block, 0, none⟩ := by cases a; simp_all
  refine ⟨fun j hj => ?_, ea⟩
  rw [List.size_toArray] at hj
  refine ⟨?_, frozen_of_row w a.block _ C E g3⟩
  rw [flat_ints] at g4
  have : C.toList[0 + j]? = some (.int .i64 l[j]) := by
    rw [g4, Nat.zero_add, List.getElem?_append_left (by simpa using hj), List.getElem?_map, List.getElem?_eq_getElem hj]; rfl
  simp only [World.cell?, g3, Option.isSome_none, Bool.false_eq_true, if_false]
  rw [← Array.getElem?_toList, this]
  congr 2
  rw [getElem!_pos _ _ (by simpa using hj)]
  simp

/-- The row of an owned slice is turned in place; behind it new blocks may lie. -/
theorem own_put {w w' : World} {E cap b n : Nat} {l m : List Int} {os : Array Obj} (h : (own E 1 (some ⟨b, 0, none⟩) cap (l.map fun n => [.int .i64 n])).inv w) (hb : b < w.heap.size) (hm : m.length = l.length)
    (hw : w' = grow (putRow (Value.int .i64) (Sort.ahead w n) b 0 m.toArray) os) : St ⟨w, (own E 1 (some ⟨b, 0, none⟩) cap (l.map fun n => [.int .i64 n])).fp⟩ [own E 1 (some ⟨b, 0, none⟩) cap (m.map fun n => [.int .i64 n])] w' := by
  obtain ⟨h1, h2, h3, h4⟩ := h
  obtain ⟨g1, g2, C, spare, g3, g4, g5⟩ := h4 _ rfl
  rw [flat_ints] at g4
  have hsz : (putRow (Value.int .i64) (Sort.ahead w n) b 0 m.toArray).heap.size = w.heap.size := by rw [size_putRow]; rfl
  have hlen : l.length ≤ C.size := by
    have : C.toList.length = C.size := Array.length_toList
    rw [← this, g4]; simp
  have hnew : w'.heap[b]? = some (.cells (putCells (Value.int .i64) 0 m.toArray C) E (0, 0)) := by
    rw [hw, heap_grow_old _ _ (by rw [hsz]; exact hb)]
    have : (Sort.ahead w n).heap = w.heap := rfl
    simp only [putRow, mapBlock, this, Array.getElem?_modify, g3, if_true, Option.map_some, onCells]
  have hC : (putCells (Value.int .i64) 0 m.toArray C).toList = m.map (Value.int .i64) ++ spare := by
    refine List.ext_getElem? fun k => ?_
    have e1 : (putCells (Value.int .i64) 0 m.toArray C).toList[k]? = C.toList[k]?.map fun x => if k < m.length then .int .i64 (m.toArray[k]!) else x := by
      unfold putCells
      simp [Array.getElem?_mapIdx]
    rw [e1, g4]
    by_cases hk : k < m.length
    · rw [List.getElem?_append_left (by simp; omega), List.getElem?_append_left (by simpa using hk), List.getElem?_map, List.getElem?_map, List.getElem?_eq_getElem hk, List.getElem?_eq_getElem (show k < l.length by omega)]
      simp [hk]
    · rw [List.getElem?_append_right (by simp; omega), List.getElem?_append_right (by simpa using hk)]
      simp only [List.length_map, hm]
      rw [hm] at hk
      cases spare[k - l.length]? with
      | none => rfl
      | some v => simp only [Option.map_some]; rw [if_neg hk]
  have hfr : ∀ k, k < w.heap.size → k ≠ b → w'.heap[k]? = w.heap[k]? := by
    intro k hk hne
    rw [hw, heap_grow_old _ _ (by rw [hsz]; exact hk)]
    have : (Sort.ahead w n).heap = w.heap := rfl
    simp only [putRow, mapBlock, this, Array.getElem?_modify]
    rw [if_neg (Ne.symm hne)]
  refine ⟨by rw [hw]; rfl, by rw [hw]; rfl, by rw [hw]; rfl, by rw [hw, size_grow, hsz]; exact Nat.le_add_right _ _, ?_, ?_, ?_, ?_⟩
  · intro k hk hO
    exact hfr k hk (fun e => hO ⟨by simp, e⟩)
  · intro i r hr
    cases i with
    | zero =>
      cases hr
      refine ⟨by simp [hm] at h1 ⊢; exact h1, by intro r hr; obtain ⟨x, _, rfl⟩ := List.mem_map.1 hr; rfl, fun q => (by cases q), fun a q => ?_⟩
      cases q
      refine ⟨rfl, rfl, _, spare, hnew, by rw [flat_ints]; exact hC, ?_⟩
      rw [← g5]; simp [putCells]
    | succ i => simp at hr
  · intro i r hr k hk
    cases i with
    | zero =>
      cases hr
      have e : k = b := hk.2
      subst e
      refine ⟨.inl ⟨by simp, rfl⟩, ?_⟩
      rw [hw, size_grow, hsz]; exact Nat.lt_of_lt_of_le hb (Nat.le_add_right _ _)
    | succ i => simp at hr
  · intro i j r s hij hr hs
    cases i with
    | zero => cases j with | zero => exact absurd rfl hij | succ j => simp at hs
    | succ i => simp at hr

/-- A slice that is owned is cut to fewer elements: the rest is spare. -/
theorem St.ownCut {w : World} {E z cap : Nat} {p : Option Addr} {l m : List (List Value)} (hw : St β L w) (i : Nat) (hi : L[i]? = some (own E z p cap (l ++ m))) : St β (L.set i (own E z p cap l)) w := by
  refine hw.conv i hi (fun k hk => hk) ?_
  obtain ⟨h1, h2, h3, h4⟩ := hw.inv i _ hi
  refine ⟨by simp at h1; omega, fun r hr => h2 r (by simp [hr]), fun q => ⟨by have := (h3 q).1; simp at this; exact this.1, (h3 q).2⟩, fun a ha => ?_⟩
  obtain ⟨g1, g2, C, spare, g3, g4, g5⟩ := h4 a ha
  exact ⟨g1, g2, C, m.flatten ++ spare, g3, by rw [g4]; simp, g5⟩
theorem own_cut {w : World} {w0 : World} {O : Nat → Prop} {E z cap : Nat} {p : Option Addr} {l m : List (List Value)} (hw : St ⟨w0, O⟩ [own E z p cap (l ++ m)] w) : St ⟨w0, O⟩ [own E z p cap l] w := hw.ownCut 0 rfl

theorem ahead_drewN : ∀ (q : Nat) (w : World), w.drewN q = Go.Sort.ahead w q := fun q w => by
  first
  | rfl
  | (induction q with
     | zero => rfl
     | succ q ih => simp_all [World.drewN, World.drew, Go.Sort.ahead])

end
end Go.SL
namespace Go.Proofs.Ytdcjeoamhjplmaa
open Go.SL Go.Proofs Go.Cast Go.Sort
set_option linter.unusedVariables false
def intC (n : Int) : List Value := [.int .i64 n]
def sortL (l : List Int) : List Int := l.mergeSort fun x y => decide (x ≤ y)
theorem sortL_len (l : List Int) : (sortL l).length = l.length := List.length_mergeSort ..
/-- slices.Sort at a slice of ints that is owned. -/
theorem Sort_h {β : Bs} {L : List Res} {w : World} {p : Option Addr} {cap : Nat} {l : List Int} (i : Nat) (hw : St β L w) (hi : L[i]? = some (own 3 1 p cap (l.map intC))) (hl : l.length < 4611686018427387904) :
    Calls Try.prog 92 #[.slice p l.length cap] w fun e w' => ∃ x : Unit, True ∧ e = .returned (.tuple #[]) ∧ St ⟨w, (own 3 1 p cap (l.map intC)).fp⟩ [own 3 1 p cap ((sortL l).map intC)] w' := by
  have hinv := hw.inv i _ hi
  have hrng := hw.rng i _ hi
  cases p with
  | none =>
    have h0 : l = [] := by simpa using (hinv.2.2.1 rfl).1
    subst h0
    refine (Try.slices_Sort_int_none none cap w).mono fun e w' ⟨h1, h2⟩ => ⟨(), trivial, h1, ?_⟩
    subst h2
    rw [show sortL [] = [] from by simp [sortL]]
    exact St.one hinv (fun k hk => (hrng k hk).2)
  | some a =>
    obtain ⟨hH, ea⟩ := holds_own hinv
    have hb : a.block < w.heap.size := (hrng a.block ⟨by simp, rfl⟩).2
    rw [ea] at hinv ⊢
    refine (Try.slices_Sort_int a.block 0 cap l w hH hb hl).mono fun e w' ⟨h1, n, os, h2⟩ => ⟨(), trivial, h1, ?_⟩
    exact own_put (m := sortL l) hinv hb (sortL_len l) h2
end Go.Proofs.Ytdcjeoamhjplmaa
