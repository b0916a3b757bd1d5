/-
  Parts of sets of pixels: plain.
  Parts of sets of pixels: their first pixels, parts within parts.
  Resources in another order, ahead of a tail that stays.
  Ranges over functions inside loops: the marks of deferred calls that they leave are a list that grows.
  The entry of a range over a map; empty literals, capacities, slices up to a bound, zeros that are appended.
  A new base in the midst of a walk: all that lies there is old from now on. Whole elements stored into slices. No program stands in this text.
  Maps from int to int, and assertions about the type of what lies in an interface. No program stands in this text.
  Sheets.
  The neighbors of a pixel.
  The neighbors of a pixel, one by one.
  How parts are found pixel by pixel: plain.
  A new base at which some resources stay in hand; one of a bag by its number. No program stands in this text.
  Gaps: plain.
  Maps from keys of any kind, and keys that are structs of two cells. No program stands in this text.
  Groups, and events out of groups, in plain Lean.
  Which areas of two maps are near each other, pair by pair, in plain Lean.
  Comparisons with nil, the length of a map, one cell of a block at a place that is not a number: for a small program logic.
  Colors that run over from neighbor to neighbor, in plain Lean.
  The parts of a set as the document finds them: plain.
  Events as the document finds them: plain.
-/
import Derived.Test.YtgemekpofpoopaaKPAI01
import Derived.Laws.IdiomRangeMap

set_option linter.unusedSimpArgs false
namespace Go.Cell
set_option linter.unusedVariables false

/-- The neighbors of a pixel, as the program yields them. -/
def nb (W H p : Nat) : List Nat := (if 0 < p / W then [p - W] else []) ++ (if 0 < p % W then [p - 1] else []) ++ (if p % W + 1 < W then [p + 1] else []) ++ (if p / W + 1 < H then [p + W] else [])

theorem mem_nb {W H p r : Nat} : r ∈ nb W H p ↔ (0 < p / W ∧ r = p - W) ∨ (0 < p % W ∧ r = p - 1) ∨ (p % W + 1 < W ∧ r = p + 1) ∨ (p / W + 1 < H ∧ r = p + W) := by
  unfold nb
  simp only [List.mem_append]
  constructor
  · rintro (((h | h) | h) | h) <;> split at h <;> simp at h <;> omega
  · rintro (⟨h, e⟩ | ⟨h, e⟩ | ⟨h, e⟩ | ⟨h, e⟩)
    · left; left; left; rw [if_pos h]; simp [e]
    · left; left; right; rw [if_pos h]; simp [e]
    · left; right; rw [if_pos h]; simp [e]
    · right; rw [if_pos h]; simp [e]

theorem dm (W p : Nat) (hW : 0 < W) : p = W * (p / W) + p % W ∧ p % W < W := ⟨(Nat.div_add_mod p W).symm, Nat.mod_lt p hW⟩
theorem dm_eq {W p a b : Nat} (h : p = W * a + b) (hb : b < W) : p / W = a ∧ p % W = b := by
  subst h
  constructor
  · rw [Nat.mul_add_div (by omega), Nat.div_eq_of_lt hb, Nat.add_zero]
  · rw [Nat.mul_add_mod, Nat.mod_eq_of_lt hb]
theorem row_lt {W H p : Nat} (hp : p < W * H) : p / W < H := by
  have hW : 0 < W := by rcases Nat.eq_zero_or_pos W with q | q; subst q; simp at hp; exact q
  exact (Nat.div_lt_iff_lt_mul hW).2 (by rw [Nat.mul_comm]; exact hp)
theorem pix_lt {W H x y : Nat} (hx : x < W) (hy : y < H) : W * y + x < W * H := by
  have : W * (y + 1) ≤ W * H := Nat.mul_le_mul_left W hy
  rw [Nat.mul_add] at this
  omega

/-- Columns and rows of neighbors. -/
theorem nb_xy {W H p r : Nat} (hp : p < W * H) (hr : r ∈ nb W H p) : r < W * H ∧ ((r % W = p % W ∧ (r / W + 1 = p / W ∨ r / W = p / W + 1)) ∨ (r / W = p / W ∧ (r % W + 1 = p % W ∨ r % W = p % W + 1))) := by
  have hW : 0 < W := by rcases Nat.eq_zero_or_pos W with q | q; subst q; simp at hp; exact q
  obtain ⟨h1, h2⟩ := dm W p hW
  have hy := row_lt hp
  generalize ea : p / W = a at *
  generalize eb : p % W = b at *
  rcases mem_nb.1 hr with ⟨h, e⟩ | ⟨h, e⟩ | ⟨h, e⟩ | ⟨h, e⟩
  · obtain ⟨c, rfl⟩ : ∃ c, a = c + 1 := ⟨a - 1, by omega⟩
    have e2 : r = W * c + b := by rw [Nat.mul_add] at h1; omega
    obtain ⟨z1, z2⟩ := dm_eq e2 h2
    exact ⟨by rw [e2]; exact pix_lt h2 (by omega), .inl ⟨z2, .inl (by omega)⟩⟩
  · have e2 : r = W * a + (b - 1) := by omega
    obtain ⟨z1, z2⟩ := dm_eq e2 (by omega)
    exact ⟨by rw [e2]; exact pix_lt (by omega) hy, .inr ⟨z1, .inl (by omega)⟩⟩
  · have e2 : r = W * a + (b + 1) := by omega
    obtain ⟨z1, z2⟩ := dm_eq e2 (by omega)
    exact ⟨by rw [e2]; exact pix_lt (by omega) hy, .inr ⟨z1, .inr (by omega)⟩⟩
  · have e2 : r = W * (a + 1) + b := by rw [Nat.mul_add]; omega
    obtain ⟨z1, z2⟩ := dm_eq e2 h2
    exact ⟨by rw [e2]; exact pix_lt h2 (by omega), .inl ⟨z2, .inr (by omega)⟩⟩
theorem nb_of_xy {W H p r : Nat} (hp : p < W * H) (hr : r < W * H) (h : (r % W = p % W ∧ (r / W + 1 = p / W ∨ r / W = p / W + 1)) ∨ (r / W = p / W ∧ (r % W + 1 = p % W ∨ r % W = p % W + 1))) : r ∈ nb W H p := by
  have hW : 0 < W := by rcases Nat.eq_zero_or_pos W with q | q; subst q; simp at hp; exact q
  obtain ⟨h1, h2⟩ := dm W p hW
  obtain ⟨h3, h4⟩ := dm W r hW
  have hy := row_lt hp
  have hy2 := row_lt hr
  refine mem_nb.2 ?_
  rcases h with ⟨e, f | f⟩ | ⟨e, f | f⟩
  · left; rw [← f, Nat.mul_add] at h1; rw [e] at h3; exact ⟨by rw [← f]; exact Nat.succ_pos _, by omega⟩
  · right; right; right; rw [f, Nat.mul_add, e] at h3; exact ⟨by rw [← f]; exact hy2, by omega⟩
  · right; left; rw [e] at h3; exact ⟨by rw [← f]; exact Nat.succ_pos _, by omega⟩
  · right; right; left; rw [e] at h3; exact ⟨by rw [← f]; exact h4, by omega⟩
theorem nb_lt {W H p r : Nat} (hp : p < W * H) (hr : r ∈ nb W H p) : r < W * H := (nb_xy hp hr).1
theorem nb_symm {W H p r : Nat} (hp : p < W * H) (hr : r ∈ nb W H p) : p ∈ nb W H r := by
  obtain ⟨h1, h2⟩ := nb_xy hp hr
  exact nb_of_xy h1 hp (by omega)

/-- Two pixels of a set are joined. -/
inductive Cn (W H : Nat) (S : Nat → Bool) (p : Nat) : Nat → Prop
  | refl : S p = true → Cn W H S p p
  | step {q r : Nat} : Cn W H S p q → r ∈ nb W H q → S r = true → Cn W H S p r

section
variable {W H : Nat} {S T : Nat → Bool} {p q r : Nat}
theorem Cn.left (h : Cn W H S p q) : S p = true := by induction h with | refl h => exact h | step _ _ _ ih => exact ih
theorem Cn.right (h : Cn W H S p q) : S q = true := by cases h with | refl h => exact h | step _ _ h => exact h
theorem Cn.lt (h : Cn W H S p q) (hp : p < W * H) : q < W * H := by induction h with | refl _ => exact hp | step _ h _ ih => exact nb_lt ih h
theorem Cn.trans (h : Cn W H S p q) (k : Cn W H S q r) : Cn W H S p r := by induction k with | refl _ => exact h | step _ h2 h3 ih => exact .step ih h2 h3
theorem Cn.symm (h : Cn W H S p q) (hp : p < W * H) : Cn W H S q p := by
  induction h with
  | refl h => exact .refl h
  | step h1 h2 h3 ih => exact Cn.trans (.step (.refl h3) (nb_symm (h1.lt hp) h2) h1.right) ih
theorem Cn.mono (h : Cn W H S p q) (hp : p < W * H) (hST : ∀ r, r < W * H → S r = true → T r = true) : Cn W H T p q := by
  induction h with
  | refl h => exact .refl (hST _ hp h)
  | step h1 h2 h3 ih => exact .step ih h2 (hST _ (nb_lt (h1.lt hp) h2) h3)
/-- A closed set that has the one pixel has all. -/
theorem Cn.closed {X : Nat → Prop} (h : Cn W H S p q) (hp : X p) (hc : ∀ a b, X a → b ∈ nb W H a → S b = true → X b) : X q := by
  induction h with
  | refl _ => exact hp
  | step _ h2 h3 ih => exact hc _ _ ih h2 h3
end

/-! ### The part of a pixel -/
section
variable (W H : Nat) (S : Nat → Bool)
def grow (l : List Nat) : List Nat := (List.range (W * H)).filter fun q => decide (q ∈ l) || (S q && (nb W H q).any fun r => decide (r ∈ l))
def clo (p : Nat) : Nat → List Nat
  | 0 => [p]
  | k + 1 => grow W H S (clo p k)
/-- The part of a pixel, ascending. -/
def compL (p : Nat) : List Nat := clo W H S p (W * H)
end

section
variable {W H : Nat} {S T : Nat → Bool} {p q r : Nat}
theorem mem_grow {l : List Nat} : q ∈ grow W H S l ↔ q < W * H ∧ (q ∈ l ∨ (S q = true ∧ ∃ r, r ∈ nb W H q ∧ r ∈ l)) := by
  unfold grow
  simp only [List.mem_filter, List.mem_range, Bool.or_eq_true, decide_eq_true_eq, Bool.and_eq_true, List.any_eq_true]
theorem clo_lt (hp : p < W * H) : ∀ {k q}, q ∈ clo W H S p k → q < W * H
  | 0, q, h => by simp [clo] at h; omega
  | k + 1, q, h => (mem_grow.1 h).1
theorem clo_sound (hp : p < W * H) (hs : S p = true) : ∀ {k q}, q ∈ clo W H S p k → Cn W H S p q
  | 0, q, h => by simp [clo] at h; subst h; exact .refl hs
  | k + 1, q, h => by
    obtain ⟨h1, h2 | ⟨h2, r, h3, h4⟩⟩ := mem_grow.1 h
    · exact clo_sound hp hs h2
    · exact .step (clo_sound hp hs h4) (nb_symm h1 h3) h2
theorem clo_mono (hp : p < W * H) {k : Nat} (h : q ∈ clo W H S p k) : q ∈ clo W H S p (k + 1) := mem_grow.2 ⟨clo_lt hp h, .inl h⟩
theorem clo_nodup (hp : p < W * H) : ∀ k, (clo W H S p k).Nodup
  | 0 => by simp [clo]
  | k + 1 => by unfold clo grow; exact List.Pairwise.filter _ List.nodup_range
theorem length_le_of_subset : ∀ {l m : List Nat}, l.Nodup → (∀ x, x ∈ l → x ∈ m) → l.length ≤ m.length
  | [],_,_,_ => Nat.zero_le _
  | a :: l, m, hn, hs => by
    have h1 : a ∈ m := hs a (by simp)
    have h2 := length_le_of_subset (l := l) (m := m.erase a) (List.nodup_cons.1 hn).2 (fun x hx => (List.mem_erase_of_ne (fun e => (List.nodup_cons.1 hn).1 (by rw [← e]; exact hx))).2 (hs x (by simp [hx])))
    have h3 := List.length_erase_of_mem h1
    have h4 : 0 < m.length := List.length_pos_of_mem h1
    simp only [List.length_cons]
    omega
theorem subset_of_length {l m : List Nat} (hl : l.Nodup) (hs : ∀ x, x ∈ l → x ∈ m) (hlen : m.length ≤ l.length) (hm : m.Nodup) : ∀ x, x ∈ m → x ∈ l := by
  intro x hx
  by_cases q : x ∈ l
  · exact q
  · have := length_le_of_subset (l := x :: l) (m := m) (List.nodup_cons.2 ⟨q, hl⟩) (fun y hy => by rcases List.mem_cons.1 hy with e | e; exact e ▸ hx; exact hs y e)
    simp only [List.length_cons] at this
    omega
/-- Some round adds nothing. -/
theorem clo_stable (hp : p < W * H) : ∀ k, k ≤ (clo W H S p k).length ∨ ∃ j, j < k ∧ ∀ x, x ∈ clo W H S p (j + 1) → x ∈ clo W H S p j
  | 0 => .inl (Nat.zero_le _)
  | k + 1 => by
    rcases clo_stable hp k with h | ⟨j, h1, h2⟩
    · by_cases q : (clo W H S p (k + 1)).length ≤ (clo W H S p k).length
      · right
        exact ⟨k, by omega, subset_of_length (clo_nodup hp k) (fun x hx => clo_mono hp hx) q (clo_nodup hp (k + 1))⟩
      · left; omega
    · exact .inr ⟨j, by omega, h2⟩
theorem clo_const {j : Nat} (hp : p < W * H) (h : ∀ x, x ∈ clo W H S p (j + 1) → x ∈ clo W H S p j) : ∀ k x, x ∈ clo W H S p (j + k) → x ∈ clo W H S p j
  | 0, x, hx => hx
  | k + 1, x, hx => by
    apply h
    obtain ⟨h1, h2⟩ := mem_grow.1 (show x ∈ grow W H S (clo W H S p (j + k)) from hx)
    refine mem_grow.2 ⟨h1, ?_⟩
    rcases h2 with h2 | ⟨h2, r, h3, h4⟩
    · exact .inl (clo_const hp h k x h2)
    · exact .inr ⟨h2, r, h3, clo_const hp h k r h4⟩
theorem clo_up (hp : p < W * H) {j : Nat} : ∀ {k x}, x ∈ clo W H S p j → x ∈ clo W H S p (j + k)
  | 0, x, h => h
  | k + 1, x, h => clo_mono hp (clo_up hp h)
theorem compL_closed (hp : p < W * H) {a b : Nat} (ha : a ∈ compL W H S p) (hb : b ∈ nb W H a) (hs : S b = true) : b ∈ compL W H S p := by
  unfold compL at *
  have hstep : ∀ j, a ∈ clo W H S p j → b ∈ clo W H S p (j + 1) := fun j h => mem_grow.2 ⟨nb_lt (clo_lt hp h) hb, .inr ⟨hs, a, nb_symm (clo_lt hp h) hb, h⟩⟩
  rcases clo_stable (S := S) hp (W * H) with h | ⟨j, h1, h2⟩
  · -- all pixels are in
    have hall := subset_of_length (clo_nodup (S := S) hp (W * H)) (m := List.range (W * H)) (fun x hx => List.mem_range.2 (clo_lt hp hx)) (by simpa using h) List.nodup_range
    exact hall b (List.mem_range.2 (nb_lt (clo_lt hp ha) hb))
  · have e : W * H = j + (W * H - j) := by omega
    have ha' : a ∈ clo W H S p j := by rw [e] at ha; exact clo_const hp h2 _ a ha
    have := clo_up hp (k := W * H - j) (h2 b (hstep j ha'))
    rw [← e] at this
    exact this
theorem mem_self (hp : p < W * H) : p ∈ compL W H S p := by
  have := clo_up (S := S) hp (j := 0) (k := W * H) (x := p) (by simp [clo])
  rw [Nat.zero_add] at this
  exact this
theorem mem_compL (hp : p < W * H) (hs : S p = true) : q ∈ compL W H S p ↔ Cn W H S p q :=
  ⟨clo_sound hp hs, fun h => h.closed (X := fun x => x ∈ compL W H S p) (mem_self hp) fun a b ha hb hS => compL_closed hp ha hb hS⟩
theorem compL_sorted (hp : p < W * H) : (compL W H S p).Pairwise (· < ·) := by
  unfold compL
  obtain ⟨k, e⟩ : ∃ k, W * H = k + 1 := ⟨W * H - 1, by omega⟩
  rw [e]
  unfold clo grow
  exact List.Pairwise.filter _ List.pairwise_lt_range
theorem compL_lt (hp : p < W * H) (h : q ∈ compL W H S p) : q < W * H := clo_lt hp h
end

/-- Lists that ascend and have the same numbers are the same. -/
theorem asc_ext : ∀ {l m : List Nat}, l.Pairwise (· < ·) → m.Pairwise (· < ·) → (∀ x, x ∈ l ↔ x ∈ m) → l = m
  | [], [],_,_,_ => rfl
  | [], b :: m,_,_, h => by have := (h b).2 (by simp); simp at this
  | a :: l, [],_,_, h => by have := (h a).1 (by simp); simp at this
  | a :: l, b :: m, hl, hm, h => by
    obtain ⟨h1, h2⟩ := List.pairwise_cons.1 hl
    obtain ⟨h3, h4⟩ := List.pairwise_cons.1 hm
    have e : a = b := by
      rcases List.mem_cons.1 ((h a).1 (by simp)) with e | e
      · exact e
      · rcases List.mem_cons.1 ((h b).2 (by simp)) with f | f
        · exact f.symm
        · have := h3 a e; have := h1 b f; omega
    subst e
    congr 1
    refine asc_ext h2 h4 fun x => ?_
    have hx := h x
    simp only [List.mem_cons] at hx
    constructor
    · intro q
      rcases hx.1 (.inr q) with e | e
      · subst e; exact absurd (h1 _ q) (Nat.lt_irrefl _)
      · exact e
    · intro q
      rcases hx.2 (.inr q) with e | e
      · subst e; exact absurd (h3 _ q) (Nat.lt_irrefl _)
      · exact e
theorem compL_eq {W H : Nat} {S : Nat → Bool} {p q : Nat} (hp : p < W * H) (h : Cn W H S p q) : compL W H S q = compL W H S p :=
  asc_ext (compL_sorted (h.lt hp)) (compL_sorted hp) fun x => by
    rw [mem_compL (h.lt hp) h.right, mem_compL hp h.left]
    exact ⟨fun k => h.trans k, fun k => (h.symm hp).trans k⟩

/-! ### All parts -/
section
variable (W H : Nat) (S : Nat → Bool)
/-- The parts whose least pixel is below a number. -/
def partsTo : Nat → List (List Nat)
  | 0 => []
  | p + 1 => if (S p && !(partsTo p).any fun l => decide (p ∈ l)) = true then partsTo p ++ [compL W H S p] else partsTo p
def partsL : List (List Nat) := partsTo W H S (W * H)
end
/-- The number of the list that has a pixel, or -1. -/
def idxL : List (List Nat) → Nat → Int
  | [],_ => -1
  | l :: ls, q => if q ∈ l then 0 else if idxL ls q = -1 then -1 else idxL ls q + 1
section
variable {W H : Nat} {S : Nat → Bool} {p q r : Nat}
theorem partsTo_new (h : S p = true) (k : ∀ l, l ∈ partsTo W H S p → p ∉ l) : partsTo W H S (p + 1) = partsTo W H S p ++ [compL W H S p] := by
  rw [partsTo, if_pos]
  rw [Bool.and_eq_true, Bool.not_eq_true', List.any_eq_false]
  exact ⟨h, fun l hl => by simpa using k l hl⟩
theorem partsTo_old (h : ¬ (S p = true ∧ ∀ l, l ∈ partsTo W H S p → p ∉ l)) : partsTo W H S (p + 1) = partsTo W H S p := by
  rw [partsTo, if_neg]
  intro q
  rw [Bool.and_eq_true, Bool.not_eq_true', List.any_eq_false] at q
  exact h ⟨q.1, fun l hl => by simpa using q.2 l hl⟩
theorem mem_partsTo {l : List Nat} : ∀ {p}, l ∈ partsTo W H S p → ∃ r, r < p ∧ S r = true ∧ l = compL W H S r
  | 0, h => by simp [partsTo] at h
  | p + 1, h => by
    by_cases q : S p = true ∧ ∀ l, l ∈ partsTo W H S p → p ∉ l
    · rw [partsTo_new q.1 q.2] at h
      rcases List.mem_append.1 h with h | h
      · obtain ⟨r, h1, h2⟩ := mem_partsTo h; exact ⟨r, by omega, h2⟩
      · exact ⟨p, by omega, q.1, by simpa using h⟩
    · rw [partsTo_old q] at h
      obtain ⟨r, h1, h2⟩ := mem_partsTo h; exact ⟨r, by omega, h2⟩
/-- A part is closed. -/
theorem parts_cn {l : List Nat} (hp : p ≤ W * H) (hl : l ∈ partsTo W H S p) (ha : q ∈ l) : S q = true ∧ q < W * H ∧ (∀ x, x ∈ l ↔ Cn W H S q x) ∧ l = compL W H S q := by
  obtain ⟨r, h1, h2, rfl⟩ := mem_partsTo hl
  have hr : r < W * H := by omega
  have h3 := (mem_compL hr h2).1 ha
  have e := compL_eq hr h3
  exact ⟨h3.right, h3.lt hr, fun x => by rw [← e]; exact mem_compL (h3.lt hr) h3.right, e.symm⟩
theorem parts_all (hp : p ≤ W * H) (hq : q < p) (hs : S q = true) : ∃ l, l ∈ partsTo W H S p ∧ q ∈ l := by
  induction p with
  | zero => omega
  | succ p ih =>
    by_cases z : S p = true ∧ ∀ l, l ∈ partsTo W H S p → p ∉ l
    · rw [partsTo_new z.1 z.2]
      rcases Nat.lt_or_ge q p with h | h
      · obtain ⟨l, h1, h2⟩ := ih (by omega) h; exact ⟨l, by simp [h1], h2⟩
      · have : q = p := by omega
        subst this
        exact ⟨compL W H S q, by simp, mem_self (by omega)⟩
    · rw [partsTo_old z]
      rcases Nat.lt_or_ge q p with h | h
      · exact ih (by omega) h
      · have : q = p := by omega
        subst this
        exact Classical.byContradiction fun k => z ⟨hs, fun l h1 h2 => k ⟨l, h1, h2⟩⟩
/-- No two parts have a pixel in common. -/
theorem parts_apart (hp : p ≤ W * H) : (partsTo W H S p).Pairwise fun a b => ∀ x, x ∈ a → x ∉ b := by
  induction p with
  | zero => exact List.Pairwise.nil
  | succ p ih =>
    by_cases z : S p = true ∧ ∀ l, l ∈ partsTo W H S p → p ∉ l
    · rw [partsTo_new z.1 z.2]
      refine List.pairwise_append.2 ⟨ih (by omega), List.pairwise_singleton _ _, fun a ha b hb x hx hx2 => ?_⟩
      simp at hb; subst hb
      have h1 := (mem_compL (by omega : p < W * H) z.1).1 hx2
      obtain ⟨_, h2, h3,_⟩ := parts_cn (by omega) ha hx
      exact z.2 a ha ((h3 p).2 (h1.symm (by omega)))
    · rw [partsTo_old z]; exact ih (by omega)
theorem idx_neg : ∀ {ls : List (List Nat)}, (∀ l, l ∈ ls → q ∉ l) → idxL ls q = -1
  | [],_ => rfl
  | l :: ls, h => by
    unfold idxL
    rw [if_neg (h l (by simp)), if_pos (idx_neg fun m hm => h m (by simp [hm]))]
theorem idx_ge {q : Nat} : ∀ {ls : List (List Nat)}, -1 ≤ idxL ls q
  | [] => by simp [idxL]
  | l :: ls => by have := idx_ge (q := q) (ls := ls); unfold idxL; split <;> (try split) <;> omega
theorem idx_at : ∀ {ls : List (List Nat)} {i : Nat} {l : List Nat}, ls.Pairwise (fun a b => ∀ x, x ∈ a → x ∉ b) → ls[i]? = some l → q ∈ l → idxL ls q = i
  | [], i, l,_, h,_ => by simp at h
  | m :: ls, 0, l,_, h, hq => by simp at h; subst h; unfold idxL; rw [if_pos hq]; rfl
  | m :: ls, i + 1, l, hp, h, hq => by
    obtain ⟨h1, h2⟩ := List.pairwise_cons.1 hp
    have h3 : ls[i]? = some l := by simpa using h
    have h4 := idx_at h2 h3 hq
    have hm : q ∉ m := fun z => h1 l (List.mem_of_getElem? h3) q z hq
    unfold idxL
    rw [if_neg hm, h4, if_neg (by omega)]
    omega
theorem idx_of {q : Nat} : ∀ {ls : List (List Nat)}, 0 ≤ idxL ls q → ∃ (i : Nat) (l : List Nat), ls[i]? = some l ∧ q ∈ l ∧ idxL ls q = i
  | [], h => by simp [idxL] at h
  | m :: ls, h => by
    unfold idxL at h ⊢
    by_cases z : q ∈ m
    · rw [if_pos z]; exact ⟨0, m, rfl, z, rfl⟩
    · rw [if_neg z] at h ⊢
      by_cases y : idxL ls q = -1
      · rw [if_pos y] at h; omega
      · rw [if_neg y] at h ⊢
        obtain ⟨i, l, h1, h2, h3⟩ := idx_of (ls := ls) (q := q) (by have := idx_ge (q := q) (ls := ls); omega)
        exact ⟨i + 1, l, by simpa using h1, h2, by omega⟩
theorem idx_neg_iff {ls : List (List Nat)} : idxL ls q < 0 ↔ ∀ l, l ∈ ls → q ∉ l := by
  constructor
  · intro h l hl hq
    obtain ⟨i, hi⟩ := List.mem_iff_getElem?.1 hl
    have : ∀ {ls : List (List Nat)}, l ∈ ls → 0 ≤ idxL ls q := fun {ls} => by
      induction ls with
      | nil => intro h; cases h
      | cons m ls ih =>
        intro h
        unfold idxL
        rcases List.mem_cons.1 h with e | e
        · subst e; rw [if_pos hq]; exact Int.le_refl _
        · have := ih e; split
          · exact Int.le_refl _
          · split <;> omega
    have := this hl; omega
  · intro h; rw [idx_neg h]; omega
theorem idx_app {ls : List (List Nat)} {l : List Nat} : idxL (ls ++ [l]) q = if idxL ls q = -1 then (if q ∈ l then (ls.length : Int) else -1) else idxL ls q := by
  induction ls with
  | nil => simp [idxL]
  | cons m ls ih =>
    rw [List.cons_append, idxL, idxL, ih]
    by_cases z : q ∈ m
    · rw [if_pos z, if_pos z, if_neg (by omega)]
    · rw [if_neg z, if_neg z]
      have h0 := idx_ge (q := q) (ls := ls)
      by_cases y : idxL ls q = -1
      · rw [if_pos y, if_pos y, if_pos rfl]
        by_cases x : q ∈ l
        · rw [if_pos x, if_pos x, if_neg (by omega)]; simp only [List.length_cons]; omega
        · rw [if_neg x, if_neg x, if_pos rfl]
      · rw [if_neg y, if_neg y, if_neg (by omega)]
end
end Go.Cell

namespace Go.Cell
set_option linter.unusedVariables false
section
variable {W H : Nat} {S T : Nat → Bool} {p q r : Nat}
/-- A pixel that is in no part so far is the least one of its part. -/
theorem new_least (hp : p < W * H) (hs : S p = true) (hn : ∀ l, l ∈ partsTo W H S p → p ∉ l) (hq : q ∈ compL W H S p) : p ≤ q := by
  rcases Nat.lt_or_ge q p with h | h
  · have h1 := (mem_compL hp hs).1 hq
    obtain ⟨l, h2, h3⟩ := parts_all (Nat.le_of_lt hp) h h1.right
    obtain ⟨_,_, h4,_⟩ := parts_cn (Nat.le_of_lt hp) h2 h3
    exact absurd ((h4 p).2 (h1.symm hp)) (hn l h2)
  · exact h
theorem compL_ne (hp : p < W * H) : compL W H S p ≠ [] := fun e => by have := mem_self (S := S) hp; rw [e] at this; cases this
theorem new_head (hp : p < W * H) (hs : S p = true) (hn : ∀ l, l ∈ partsTo W H S p → p ∉ l) : (compL W H S p).headD 0 = p := by
  have h1 := fun q => new_least (q := q) hp hs hn
  have h2 := mem_self (S := S) hp
  have h3 := compL_sorted (S := S) hp
  cases e : compL W H S p with
  | nil => exact absurd e (compL_ne hp)
  | cons a l =>
    rw [e] at h1 h2 h3
    have h4 := h1 a (by simp)
    show a = p
    rcases List.mem_cons.1 h2 with f | f
    · exact f.symm
    · have := (List.pairwise_cons.1 h3).1 p f; omega
theorem headD_mem {l : List Nat} (h : l ≠ []) : l.headD 0 ∈ l := by cases l with | nil => exact absurd rfl h | cons a l => simp
/-- The parts of a smaller set, within a part of a larger one. -/
theorem partsTo_within {l : List Nat} (hTS : ∀ x, x < W * H → T x = true → S x = true) (hl : ∀ a b, a < W * H → a ∈ l → Cn W H S a b → b ∈ l) :
    ∀ {p}, p ≤ W * H → partsTo W H (fun x => T x && decide (x ∈ l)) p = (partsTo W H T p).filter fun k => decide (k.headD 0 ∈ l)
  | 0,_ => rfl
  | p + 1, hp => by
    have ih := partsTo_within hTS hl (p := p) (by omega)
    have hp' : p < W * H := by omega
    -- the same part
    have same : T p = true → p ∈ l → compL W H (fun x => T x && decide (x ∈ l)) p = compL W H T p := fun h1 h2 => by
      have h3 : (T p && decide (p ∈ l)) = true := by simp [h1, h2]
      refine asc_ext (compL_sorted hp') (compL_sorted hp') fun x => ?_
      rw [mem_compL (S := fun x => T x && decide (x ∈ l)) hp' h3, mem_compL hp' h1]
      constructor
      · exact fun k => k.mono hp' fun r _ hr => by simp at hr; exact hr.1
      · intro k
        refine (Cn.closed (X := fun y => Cn W H (fun x => T x && decide (x ∈ l)) p y ∧ Cn W H T p y) k ⟨.refl h3, .refl h1⟩ ?_).1
        rintro a b ⟨ha, ha2⟩ hb hs
        have z : Cn W H T p b := .step ha2 hb hs
        exact ⟨.step ha hb (by simp [hs]; exact hl p b hp' h2 (z.mono hp' hTS)), z⟩
    by_cases z : T p = true ∧ ∀ k, k ∈ partsTo W H T p → p ∉ k
    · rw [partsTo_new z.1 z.2, List.filter_append]
      have hh := new_head hp' z.1 z.2
      by_cases y : p ∈ l
      · rw [partsTo_new (by simp [z.1, y]) (by rw [ih]; exact fun k hk => z.2 k (List.mem_filter.1 hk).1), ih, same z.1 y, List.filter_cons, hh, if_pos (by simpa using y), List.filter_nil]
      · rw [partsTo_old (by simp [y]), ih, List.filter_cons, hh, if_neg (by simpa using y), List.filter_nil, List.append_nil]
    · rw [partsTo_old z]
      by_cases y : T p = true ∧ p ∈ l
      · rw [partsTo_old, ih]
        rintro ⟨_, h2⟩
        refine z ⟨y.1, fun k hk hm => ?_⟩
        rw [ih] at h2
        refine h2 k (List.mem_filter.2 ⟨hk, ?_⟩) hm
        obtain ⟨h3, h4, h5, h6⟩ := parts_cn (by omega) hk hm
        have hne : k ≠ [] := fun e => by rw [e] at hm; cases hm
        have h7 := (h5 _).1 (headD_mem hne)
        simp only [decide_eq_true_eq]
        exact hl p _ hp' y.2 (h7.mono hp' hTS)
      · rw [partsTo_old, ih]
        rintro ⟨h1,_⟩
        simp at h1
        exact y h1
theorem parts_within {l : List Nat} (hTS : ∀ x, x < W * H → T x = true → S x = true) (hl : l ∈ partsL W H S) : partsL W H (fun x => T x && decide (x ∈ l)) = (partsL W H T).filter fun k => decide (k.headD 0 ∈ l) :=
  partsTo_within hTS (fun a b ha hm hc => by
    obtain ⟨_,_, h3,_⟩ := parts_cn (Nat.le_refl _) hl hm
    exact (h3 b).2 hc) (Nat.le_refl _)
end
end Go.Cell

namespace Go.SL
set_option linter.unusedVariables false

theorem selKT {β : Bs} {L L1 L2 X : List Res} (is : List Nat) (hn : nodupB is = true) (h : sel L is = L1 ++ L2) (hlt : is.all (fun i => Nat.blt i L.length) = true) : ∀ w, St β (L ++ X) w → St β (L1 ++ (L2 ++ X)) w := fun w hw => by
  rw [← List.append_assoc, ← h]
  have hle : (sel L is).length = is.length := by unfold sel; exact List.length_map _
  have hb : ∀ j (hj : j < is.length), is[j] < L.length := fun j hj => Nat.le_of_ble_eq_true (List.all_eq_true.1 hlt _ (List.getElem_mem hj))
  have hfl : ∀ j (hj : j < is.length), is.getD j 0 = is[j] := fun j hj => by rw [List.getD_eq_getElem?_getD, List.getElem?_eq_getElem hj]; rfl
  refine hw.map (fun j => if j < is.length then is.getD j 0 else L.length + (j - is.length)) ?_ ?_
  · intro j l hjl hj hl
    by_cases h1 : j < is.length
    · by_cases h2 : l < is.length
      · rw [if_pos h1, if_pos h2, hfl j h1, hfl l h2]
        exact nodupB_spec hn j l h1 h2 hjl
      · rw [if_pos h1, if_neg h2, hfl j h1]
        have := hb j h1; omega
    · by_cases h2 : l < is.length
      · rw [if_neg h1, if_pos h2, hfl l h2]
        have := hb l h2; omega
      · rw [if_neg h1, if_neg h2]; omega
  · intro j r hr
    by_cases h1 : j < is.length
    · refine .inr ?_
      rw [if_pos h1, hfl j h1, List.getElem?_append_left (hb j h1)]
      rw [List.getElem?_append_left (by rw [hle]; exact h1)] at hr
      unfold sel at hr
      rw [List.getElem?_map, List.getElem?_eq_getElem h1] at hr
      simp only [Option.map_some, Option.some.injEq] at hr
      rw [List.getD_eq_getElem?_getD, List.getElem?_eq_getElem (hb j h1)] at hr
      rw [List.getElem?_eq_getElem (hb j h1), ← hr]; rfl
    · refine .inr ?_
      rw [if_neg h1, List.getElem?_append_right (by omega), show L.length + (j - is.length) - L.length = j - is.length by omega]
      rw [List.getElem?_append_right (by rw [hle]; omega), hle] at hr
      exact hr
end Go.SL

namespace Go.SL
set_option linter.unusedVariables false
open Go.RowKit
section
variable {P : Program} {ro : Option Nat} {β : Bs} {N : Nat} {ds : List Deferred} {env : Env} {L : List Res} {Q : Exit → Act → World → Prop}

/-- A range over a function, inside whatever. 'I n': behind n rounds. -/
theorem VC.rangeFuncD {α : Type} {gop : Operand} {ps : Array Tmp} {asg body : Code} {gf : FuncId} {lb : List Value} {Cap : World → Prop} {xs : List (List Value)} (F : α → List Res) (I : Nat → α → Prop) (Ix : Code → Nat → α → Prop) (x0 : α) (envb : List Value → Env)
    (hg : ev env gop = some (.func (.func gf) #[] lb.toArray)) (hf : IsFn P gf) (hseq : SeqC P gf lb Cap xs) (hF0 : ∀ w, St β L w → St β (F x0) w) (h0 : I 0 x0)
    (hps : ∀ vs, vs ∈ xs → vs.length = ps.size) (hpN : ps.toList.all (fun t => Nat.blt t N) = true)
    (hCap : ∀ n x w, I n x → (∀ (i : Nat) (r : Res), (F x)[i]? = some r → r.inv w) → (∀ k, k < β.w.heap.size → ¬ β.O k → w.heap[k]? = β.w.heap[k]?) → Cap w)
    (hasg : ∀ (n : Nat) (x : α) (vs : List Value) l T w1, I n x → xs[n]? = some vs → St β (F x ++ T) w1 → VC P (some l) ⟨w1, fpL (F x ++ T)⟩ N [] (penv ps vs ++ env) (F x ++ T) asg (AP ⟨w1, fpL (F x ++ T)⟩ N (envb vs) (F x ++ T)))
    (hbody : ∀ (n : Nat) (x : α) (vs : List Value) l T w1, I n x → xs[n]? = some vs → St β (F x ++ T) w1 → VC P (some l) ⟨w1, fpL (F x ++ T)⟩ N [] (envb vs) (F x ++ T) body (RB ⟨w1, fpL (F x ++ T)⟩ F T (I (n + 1)) (fun c => Ix c (n + 1))))
    (hdone : ∀ D x, I xs.length x → VE β N (mark D :: ds) env (F x ++ [dR D]) .normal Q)
    (hstop : ∀ D c n x, n ≤ xs.length → Ix c n x → VC P none β N (mark D :: ds) env (F x ++ [dR D]) c Q) :
    VC P none β N ds env L (.rangeFunc gop ps asg body) Q := by
  intro a w ha hw
  have hw0 := hF0 w hw
  refine wpIn_rangeFunc fun fn _ => ?_
  obtain ⟨rec, hrec⟩ : ∃ rec : LoopState → Option Code → Loop, rec = fun st pe => { state := st, pending := pe, fn, tmps := a.tmps, params := ps, assign := asg, body, defers := w.heap.size } := ⟨_, rfl⟩
  obtain ⟨D, hD⟩ : ∃ D, D = w.heap.size := ⟨_, rfl⟩
  obtain ⟨l, hl⟩ : ∃ l, l = w.heap.size + 1 := ⟨_, rfl⟩
  obtain ⟨W1, hW1⟩ : ∃ W1, (w.alloc (.deferred (some []))).alloc (.loop (rec .ready none)) = W1 := ⟨_, rfl⟩
  obtain ⟨T, hT⟩ : ∃ T : LoopState → Option Code → List Res, T = fun st pe => [blk l (.loop (rec st pe)), dR D] := ⟨_, rfl⟩
  have hTget : ∀ x st pe, (F x ++ T st pe)[(F x).length]? = some (blk l (.loop (rec st pe))) := by intro x st pe; simp [hT]
  have hTset : ∀ x st pe st' pe', (F x ++ T st pe).set (F x).length (blk l (.loop (rec st' pe'))) = F x ++ T st' pe' := by intro x st pe st' pe'; simp [hT]
  have hst1 : St β (F x0 ++ T .ready none) W1 := by
    have h1 := (hw0.alloc (.deferred (some []))).alloc (.loop (rec .ready none))
    rw [hW1, World.size_alloc] at h1
    refine h1.map (fun j => if j < (F x0).length then j + 2 else if j = (F x0).length then 0 else 1) ?_ ?_
    · intro a b hab ha hb
      simp [hT] at ha hb
      split <;> split <;> (try split) <;> (try split) <;> omega
    · intro j r hr
      right
      rw [List.getElem?_append] at hr
      by_cases q : j < (F x0).length
      · simp only [q, if_true] at hr ⊢
        simpa using hr
      · simp only [q, if_false] at hr ⊢
        by_cases e : j = (F x0).length
        · subst e; simp [hT] at hr; subst hr; simp [hl]
        · have : j = (F x0).length + 1 := by
            rcases Nat.lt_or_ge (j - (F x0).length) 2 with s | s
            · omega
            · simp only [hT] at hr; rw [List.getElem?_eq_none (by simpa using s)] at hr; cases hr
          subst this
          simp [hT] at hr; subst hr; simp [dR, hD]
  -- from the record's states to the world
  have endx : ∀ x st pe w', St β (F x ++ T st pe) w' → st ≠ .busy → ∃ w4, (Instr.endLoop l).run P w' = .ok pe w4 ∧ St β (F x ++ [dR D]) w4 := by
    intro x st pe w' hs hne
    have hrl : w'.heap[l]? = some (.loop (rec st pe)) := hs.inv _ _ (hTget x st pe)
    refine ⟨w'.putObj l (.loop { rec st pe with state := .exhausted }), ?_, ?_⟩
    · have := run_endLoop (P := P) hrl (by rw [hrec]; exact hne)
      rw [this]; congr 1; rw [hrec]
    · have h2 := hs.obj (o' := .loop { rec st pe with state := .exhausted }) _ (hTget x st pe)
      refine h2.map (fun j => if j < (F x).length then j else j + 1) ?_ ?_
      · intro a b hab ha hb
        split <;> split <;> omega
      · intro j r hr
        right
        rw [List.getElem?_append] at hr
        by_cases q : j < (F x).length
        · simp only [q, if_true] at hr ⊢
          rw [List.getElem?_set_ne (by omega), List.getElem?_append_left q]; exact hr
        · simp only [q, if_false] at hr ⊢
          have : j = (F x).length := by
            rcases Nat.lt_or_ge (j - (F x).length) 1 with s | s
            · omega
            · rw [List.getElem?_eq_none (by simpa using s)] at hr; cases hr
          subst this
          simp at hr; subst hr
          rw [List.getElem?_set_ne (by omega), List.getElem?_append_right (by omega)]
          simp [hT]
  refine ⟨l, [mark D], W1, { target := .fn (.func gf) lb.toArray, args := #[yv l] }, W1, gf, (yv l :: lb).toArray, W1, ?_, ?_, ?_, ?_, fun h => by simp [Wf, Fence.wide] at h, ?_⟩
  · rw [← hW1, hrec, hl, hD]; exact run_enterLoop_outer _ _ _ _ _
  · have e : a.eval gop = .func (.func gf) #[] lb.toArray := ha.eval hg
    simp only [resolve, e]
    simp [Deferred.ofValue, yv, Act.eval]
  · intro f' _; exact True.intro
  · simp [invoke, run_call hf]
  · refine callsIn_wf.2 ((hseq l (fun n r => ∃ x, I n x ∧ r = big β (F x ++ T .ready none) ∧ Fits β (F x ++ T .ready none)) (fun n r => ∃ c x, Ix c n x ∧ r = big β (F x ++ T .done (some c)) ∧ Fits β (F x ++ T .done (some c)))
      W1 (big β (F x0 ++ T .ready none)) ?_ ?_ ⟨x0, h0, rfl, hst1.fits⟩ ⟨hst1.inv, hst1.fr⟩ ?_).mono ?_)
    · rintro n r w' ⟨x, hI, rfl,_⟩ hinv
      exact hCap n x w' hI (fun i r hr => hinv.1 i r (by
        rw [List.getElem?_append_left]
        · exact hr
        · rcases Nat.lt_or_ge i (F x).length with q | q
          · exact q
          · simp [List.getElem?_eq_none q] at hr)) hinv.2
    · -- one round
      rintro n vs hvs r w1 ⟨x, hI, rfl, hfit⟩ hinv hb hos
      have hs1 : St β (F x ++ T .ready none) w1 := St.of_big (w1 := w1) (O := β.O) hfit ⟨hos.1.trans hst1.os, hos.2.1.trans hst1.tape, hos.2.2.1.trans hst1.output, Nat.le_trans hst1.size hos.2.2.2⟩ hinv hb
      have hrl : w1.heap[l]? = some (.loop (rec .ready none)) := hs1.inv _ _ (hTget x .ready none)
      have hlen : vs.toArray.size = ps.size := by simpa using hps vs (List.mem_of_getElem? hvs)
      have hy := run_yield (P := P) (args := vs.toArray) hrl (by rw [hrec]; exact hlen)
      refine ⟨_,_,_,_, hy, ?_⟩
      refine roundIn_of_wpIn (F := Fence.wide) (n := 0) True.intro ?_
      have hA : Ag N [] (penv ps vs ++ env) { tmps := (ps.zip vs.toArray).foldl (fun t (p, v) => t.setIfInBounds p v) a.tmps, defers := [] } := by
        have h1 := ag_zip (N := N) (ds := []) (ps.toList.zip vs) env { tmps := a.tmps, defers := [] } (fun z hz => by
          have hm : z.1 ∈ ps.toList := (List.of_mem_zip (a := z.1) (b := z.2) hz).1
          exact Nat.le_of_ble_eq_true (List.all_eq_true.1 hpN z.1 hm)) ⟨ha.size, rfl, ha.get⟩
        have e : (ps.zip vs.toArray).foldl (fun t (p, v) => t.setIfInBounds p v) a.tmps = (ps.toList.zip vs).foldl (fun t (p, v) => t.setIfInBounds p v) a.tmps := by
          rw [← Array.foldl_toList, Array.toList_zip]
        rw [e]; exact h1
      have ha1 := hasg n x vs l (T .ready none) w1 hI hvs hs1 _ w1 hA hs1.rebase
      rw [hrec]
      refine Code.wpIn_mono ?_ ha1
      rintro e a2 w2 ⟨rfl, hag, hs2⟩
      have hs2' := hs1.back hs2
      have hrl2 : w2.heap[l]? = some (.loop (rec .ready none)) := hs2.inv _ _ (hTget x .ready none)
      refine ⟨w2.putObj l (.loop { rec .ready none with state := .busy }), run_beginRound hrl2 (by rw [hrec]), ?_⟩
      have eb : ({ rec .ready none with state := .busy } : Loop) = rec .busy none := by rw [hrec]
      rw [eb]
      have hs3 := hs2'.obj (o' := .loop (rec .busy none)) _ (hTget x .ready none)
      rw [hTset] at hs3
      have hs3' := hs2.obj (o' := .loop (rec .busy none)) _ (hTget x .ready none)
      rw [hTset] at hs3'
      have hb1 := hbody n x vs l (T .busy none) _ hI hvs hs3 _ _ hag hs3.rebase
      refine Code.wpIn_mono ?_ hb1
      intro e a3 w3 hq
      have fin : ∀ y (jump : Option Code), St ⟨w2.putObj l (.loop (rec .busy none)), fpL (F x ++ T .busy none)⟩ (F y ++ T .busy none) w3 →
          ∃ w4, (Instr.endRound l jump).run P w3 = .ok (.bool jump.isNone) w4 ∧ St ⟨w1, (big β (F x ++ T .ready none)).fp⟩ [big β (F y ++ T (if jump.isNone then .ready else .done) jump)] w4 ∧ Fits β (F y ++ T (if jump.isNone then .ready else .done) jump) := by
        intro y jump hsy
        have h4 := hs3'.back hsy
        have hrl3 : w3.heap[l]? = some (.loop (rec .busy none)) := h4.inv _ _ (hTget y .busy none)
        refine ⟨_, run_endRound jump hrl3, ?_⟩
        have er : ({ rec .busy none with state := if jump.isNone then .ready else .done, pending := jump } : Loop) = rec (if jump.isNone then .ready else .done) jump := by rw [hrec]
        rw [er]
        have h5 := h4.obj (o' := .loop (rec (if jump.isNone then .ready else .done) jump)) _ (hTget y .busy none)
        rw [hTset] at h5
        exact ⟨St.to_big hs1 h5, (hs1.back h5).fits⟩
      cases e with
      | normal =>
        obtain ⟨y, hy1, hy2⟩ := hq
        obtain ⟨w4, h1, h2, h3⟩ := fin y none hy2
        exact ⟨_, w4, h1, true,_, rfl, ⟨y, hy1, rfl, h3⟩, h2⟩
      | ret =>
        obtain ⟨y, hy1, hy2⟩ := hq
        obtain ⟨w4, h1, h2, h3⟩ := fin y (some .ret) hy2
        exact ⟨_, w4, h1, false,_, rfl, ⟨_, y, hy1, rfl, h3⟩, h2⟩
      | exit id =>
        obtain ⟨y, hy1, hy2⟩ := hq
        obtain ⟨w4, h1, h2, h3⟩ := fin y (some (.exit id)) hy2
        exact ⟨_, w4, h1, false,_, rfl, ⟨_, y, hy1, rfl, h3⟩, h2⟩
      | goto t => exact hq.elim
      | panic ch => exact hq.elim
      | outgrown => exact hq.elim
    · intro k hk
      rcases hk with ⟨i, r, hr, hk⟩ | ⟨hk,_⟩
      · exact (hst1.rng i r hr k hk).2
      · exact Nat.lt_of_lt_of_le hk hst1.size
    · rintro e w' ⟨rfl, n, r', hJ, hs⟩
      have toSt : ∀ L2, r' = big β L2 → Fits β L2 → St β L2 w' := by
        rintro L2 rfl hfit
        have hb := hs.rng 0 _ rfl
        exact St.of_big (w1 := w') (O := β.O) hfit ⟨hs.os.trans hst1.os, hs.tape.trans hst1.tape, hs.output.trans hst1.output, Nat.le_trans hst1.size hs.size⟩ (hs.inv 0 _ rfl) (fun k hk => (hb k hk).2)
      have hag : Ag N (mark D :: ds) env { a with defers := [mark D] ++ a.defers } := ⟨ha.size, by simp [ha.dfr], ha.get⟩
      rcases hJ with ⟨x, hI, hr, hfit⟩ | ⟨hle, c, x, hI, hr, hfit⟩
      · obtain ⟨w4, h1, h2⟩ := endx x .ready none w' (toSt _ hr hfit) (by simp)
        exact ⟨none, w4, h1, hdone D x hI _ _ hag h2⟩
      · obtain ⟨w4, h1, h2⟩ := endx x .done (some c) w' (toSt _ hr hfit) (by simp)
        exact ⟨some c, w4, h1, hstop D c n x hle hI _ _ hag h2⟩


/-- The marks of some ranges, and what they hold. -/
def Dm (Ds : List Nat) : List Deferred := Ds.map mark
def Db (Ds : List Nat) : Res := bagD (Ds.map dR)
theorem St.db0 {w : World} (h : St β L w) : St β (Db [] :: L) w := St.bagD (Rs := []) h
/-- The new mark stands behind all others. -/
theorem St.dbAdd {w : World} {A : List Res} {D : Nat} {Ds : List Nat} (h : St β (A ++ [Db Ds] ++ [dR D]) w) : St β (A ++ [Db (D :: Ds)]) w := by
  have h1 : St β (dR D :: Db Ds :: A) w := h.perm (by
    rw [List.append_assoc]
    refine (List.perm_append_comm).trans ?_
    exact List.Perm.swap _ _ _)
  have h2 : St β (Db (D :: Ds) :: A) w := by
    have h3 := St.unfocus (A := []) (B := Ds.map dR) (r := dR D) (L := A) h1
    exact h3
  exact h2.perm (List.perm_append_comm (l₁ := [Db (D :: Ds)]) (l₂ := A))

theorem VC.rangeFuncB {α : Type} {gop : Operand} {ps : Array Tmp} {asg body : Code} {gf : FuncId} {lb : List Value} {Cap : World → Prop} {xs : List (List Value)} {Ds : List Nat} (F : α → List Res) (I : Nat → α → Prop) (Ix : Code → Nat → α → Prop) (x0 : α) (envb : List Value → Env)
    (hg : ev env gop = some (.func (.func gf) #[] lb.toArray)) (hf : IsFn P gf) (hseq : SeqC P gf lb Cap xs) (hF0 : ∀ w, St β L w → St β (F x0 ++ [Db Ds]) w) (h0 : I 0 x0)
    (hps : ∀ vs, vs ∈ xs → vs.length = ps.size) (hpN : ps.toList.all (fun t => Nat.blt t N) = true)
    (hCap : ∀ n x w, I n x → (∀ (i : Nat) (r : Res), (F x)[i]? = some r → r.inv w) → Cap w)
    (hasg : ∀ (n : Nat) (x : α) (vs : List Value) l T w1, I n x → xs[n]? = some vs → St β (F x ++ T) w1 → VC P (some l) ⟨w1, fpL (F x ++ T)⟩ N [] (penv ps vs ++ env) (F x ++ T) asg (AP ⟨w1, fpL (F x ++ T)⟩ N (envb vs) (F x ++ T)))
    (hbody : ∀ (n : Nat) (x : α) (vs : List Value) l T w1, I n x → xs[n]? = some vs → St β (F x ++ T) w1 → VC P (some l) ⟨w1, fpL (F x ++ T)⟩ N [] (envb vs) (F x ++ T) body (RB ⟨w1, fpL (F x ++ T)⟩ F T (I (n + 1)) (fun c => Ix c (n + 1))))
    (hdone : ∀ D x, I xs.length x → VE β N (Dm (D :: Ds)) env (F x ++ [Db (D :: Ds)]) .normal Q)
    (hstop : ∀ D c n x, n ≤ xs.length → Ix c n x → VC P none β N (Dm (D :: Ds)) env (F x ++ [Db (D :: Ds)]) c Q) :
    VC P none β N (Dm Ds) env L (.rangeFunc gop ps asg body) Q := by
  have as1 : ∀ (x : α) (T : List Res), (F x ++ [Db Ds]) ++ T = F x ++ ([Db Ds] ++ T) := fun x T => List.append_assoc _ _ _
  refine VC.rangeFuncD (fun x => F x ++ [Db Ds]) I Ix x0 envb hg hf hseq hF0 h0 hps hpN (fun n x w h1 h2 _ => hCap n x w h1 fun i r hr => h2 i r (by
      rw [List.getElem?_append_left (List.getElem?_eq_some_iff.1 hr).1]; exact hr)) ?_ ?_ (fun D x hI => ?_) (fun D c n x hn hI => ?_)
  · intro n x vs l T w1 h1 h2 h3
    rw [as1] at h3 ⊢
    exact hasg n x vs l _ w1 h1 h2 h3
  · intro n x vs l T w1 h1 h2 h3
    rw [as1] at h3 ⊢
    refine fun a w ha hw => Code.wpIn_mono ?_ (hbody n x vs l _ w1 h1 h2 h3 a w ha hw)
    intro e a w q
    cases e with
    | normal => obtain ⟨y, q1, q2⟩ := q; exact ⟨y, q1, by rw [as1]; exact q2⟩
    | ret => obtain ⟨y, q1, q2⟩ := q; exact ⟨y, q1, by rw [as1]; exact q2⟩
    | exit id => obtain ⟨y, q1, q2⟩ := q; exact ⟨y, q1, by rw [as1]; exact q2⟩
    | _ => exact q
  · intro a w ha hw
    exact hdone D x hI a w ha (St.dbAdd hw)
  · intro a w ha hw
    exact hstop D c n x hn hI a w ha (St.dbAdd hw)

theorem VC.rangeFuncC {α : Type} {gop : Operand} {ps : Array Tmp} {asg body : Code} {gf : FuncId} {lb : List Value} {Cap : World → Prop} {xs : List (List Value)} {Ds : List Nat} (R : List Res) (F : α → List Res) (I : Nat → α → Prop) (Ix : Code → Nat → α → Prop) (x0 : α) (envb : List Value → Env)
    (hg : ev env gop = some (.func (.func gf) #[] lb.toArray)) (hf : IsFn P gf) (hseq : SeqC P gf lb Cap xs) (hF0 : ∀ w, St β L w → St β ((F x0 ++ R) ++ [Db Ds]) w) (h0 : I 0 x0)
    (hps : ∀ vs, vs ∈ xs → vs.length = ps.size) (hpN : ps.toList.all (fun t => Nat.blt t N) = true)
    (hCap : ∀ n x w, I n x → (∀ (i : Nat) (r : Res), (F x ++ R)[i]? = some r → r.inv w) → Cap w)
    (hasg : ∀ (n : Nat) (x : α) (vs : List Value) l T w1, I n x → xs[n]? = some vs → St β ((F x ++ R) ++ T) w1 → VC P (some l) ⟨w1, fpL ((F x ++ R) ++ T)⟩ N [] (penv ps vs ++ env) ((F x ++ R) ++ T) asg (AP ⟨w1, fpL ((F x ++ R) ++ T)⟩ N (envb vs) ((F x ++ R) ++ T)))
    (hbody : ∀ (n : Nat) (x : α) (vs : List Value) l T w1, I n x → xs[n]? = some vs → St β ((F x ++ R) ++ T) w1 → VC P (some l) ⟨w1, fpL ((F x ++ R) ++ T)⟩ N [] (envb vs) ((F x ++ R) ++ T) body (RB ⟨w1, fpL ((F x ++ R) ++ T)⟩ (fun x => F x ++ R) T (I (n + 1)) (fun c => Ix c (n + 1))))
    (hdone : ∀ D x, I xs.length x → VE β N (Dm (D :: Ds)) env ((F x ++ R) ++ [Db (D :: Ds)]) .normal Q)
    (hstop : ∀ D c n x, n ≤ xs.length → Ix c n x → VC P none β N (Dm (D :: Ds)) env ((F x ++ R) ++ [Db (D :: Ds)]) c Q) :
    VC P none β N (Dm Ds) env L (.rangeFunc gop ps asg body) Q :=
  VC.rangeFuncB (fun x => F x ++ R) I Ix x0 envb hg hf hseq hF0 h0 hps hpN hCap hasg hbody hdone hstop

/-- A loop in which the marks grow. -/
theorem VC.loopD {α : Type} (n : Nat) (E : α → Env) (Ek : Env) (F : α → List Res) (Df : α → List Nat) (I : α → Prop) (μ : α → Nat) (x0 : α) {Ds : List Nat} {c : Code} (hd : Df x0 = Ds) (h0 : I x0) (hE : Sub (E x0 ++ Ek) env)
    (hF : ∀ w, St β L w → St β (F x0 ++ L.drop n) w)
    (hr : ∀ x, I x → VC P ro β N (Dm (Df x)) (E x ++ Ek) (F x ++ L.drop n) c (Exit.then (fun a w => ∃ y, I y ∧ μ y < μ x ∧ Ag N (Dm (Df y)) (E y ++ Ek) a ∧ St β (F y ++ L.drop n) w) Q)) : VC P ro β N (Dm Ds) env L (.loop c) Q := by
  intro a w ha hw
  refine wp_loop_n (fun n' a w => ∃ x, I x ∧ μ x = n' ∧ Ag N (Dm (Df x)) (E x ++ Ek) a ∧ St β (F x ++ L.drop n) w) (μ x0) ⟨x0, h0, rfl, by rw [hd]; exact ha.sub hE, hF w hw⟩ ?_
  rintro n' a w ⟨x, hI, rfl, hA, hS⟩
  refine Code.wpIn_mono ?_ (hr x hI a w hA hS)
  intro e a w q
  cases e with
  | normal => obtain ⟨y, h1, h2, h3, h4⟩ := q; exact ⟨μ y, h2, y, h1, rfl, h3, h4⟩
  | _ => exact q

theorem run_marks {fn : Func} {R : Ending → World → Prop} {tmps : Array Value} : ∀ {Ds : List Nat} {A : List Res} {w : World}, St β (Db Ds :: A) w → (∀ w', St β A w' → LeavesInM (Wf none) 0 P fn tmps R [] .returning w') → LeavesInM (Wf none) 0 P fn tmps R (Dm Ds) .returning w
  | [], A, w, h, k => k w (h.perm (List.Perm.refl _) |> fun h => h.unbagD)
  | D :: Ds, A, w, h, k => by
    have h1 : St β (dR D :: Db Ds :: A) w := St.focus (A := []) (B := Ds.map dR) (r := dR D) (L := A) h
    have hd : w.heap[D]? = some (.deferred (some [])) := h1.inv 0 _ rfl
    have hs := h1.obj (o' := .deferred none) 0 rfl
    refine ⟨by simp, .inl ⟨D,_, rfl, run_takeDeferred hd, ?_⟩⟩
    have h2 : St β (Db Ds :: A) (w.putObj D (.deferred none)) := by
      have : ([dR D] ++ (Db Ds :: A)).set 0 (blk D (.deferred none)) = blk D (.deferred none) :: Db Ds :: A := rfl
      exact (hs.map (fun j => j + 1) (fun a b hab _ _ => by omega) (fun j r hr => .inr (by simpa using hr)) : St β (Db Ds :: A) _)
    exact run_marks h2 k

/-- The end of a function that has ranged over functions. -/
theorem VE.resDm {fn : Func} {R : Ending → World → Prop} {xs : List ResultVar} {vs : List Value} {Ds : List Nat} {A : List Res} (hr : fn.results = xs.toArray) (hL : ∀ w, St β L w → St β (Db Ds :: A) w) (h : RVs P β A env xs vs)
    (k : ∀ w, St β A w → R (.returned (resV vs)) w) : VE β N (Dm Ds) env L .ret (FP P fn R) := by
  intro a w ha hw
  show LeavesInM (Wf none) 0 P fn a.tmps R a.defers .returning w
  rw [ha.dfr]
  refine run_marks (hL w hw) fun w' hw' => ?_
  exact ⟨_, run_results (ds := []) (a := { tmps := a.tmps, defers := [] }) hr ⟨ha.size, rfl, ha.get⟩ hw' h, k _ hw'⟩
theorem VC.dm0 {c : Code} (h : VC P ro β N (Dm []) env (Db [] :: L) c Q) : VC P ro β N [] env L c Q := fun a w ha hw => h a w ha hw.db0
end
end Go.SL

namespace Go.SL
set_option linter.unusedVariables false
open Go.RowKit
section
variable {P : Program} {ro : Option Nat} {β : Bs} {ds : List Deferred} {N : Nat} {env : Env} {L : List Res} {Q : Exit → Act → World → Prop}
variable {d : Option Nat} {ty : TypeId} {pos : String} {aft : Array Edge} {g : Option (Nat × Bool)}
variable {K : Value → List Res → Prop} {dd : Option Nat}

theorem HO.bs0 {T E z : Nat} (hT : IsSlice P T E) (hs : (P.info? E).map (·.size) = some z) (k : ∀ b, K (.slice (some ⟨b, 0, none⟩) 0 0) (own E z (some ⟨b, 0, none⟩) 0 [] :: L)) : HO P β env L ⟨dd, .buildSlice T 0 #[], ty, pos, aft, none⟩ K := by
  intro a w h hw
  refine .inl ⟨_, w.alloc (.cells #[] E),_,_, ?_, .inl rfl, k w.heap.size, ?_⟩
  · simp [execOp, Instr.buildSlice, run_underlying hT, run_size hs, Instr.fill, newRow]
    rw [Array.eq_empty_of_size_eq_zero (xs := Array.map (fun x => default) (Array.range 0)) (by simp)]
  · have h1 := hw.alloc (.cells #[] E)
    have := h1.conv 0 (r' := own E z (some ⟨w.heap.size, 0, none⟩) 0 []) rfl (fun k hk => hk.2) ⟨by simp, by simp, fun q => (by cases q), fun a ha => by cases ha; exact ⟨rfl, rfl, #[], [], h1.inv 0 _ rfl, rfl, by simp⟩⟩
    simpa using this
theorem LO.slH {T E z : Nat} {x j : Operand} {p : Option Addr} {n c k : Nat} {e : Int} (hT : IsSlice P T E) (hz : (P.info? E).map (·.size) = some z) (hx : OV env x (.slice p n c)) (hj : OV env j (.int .i64 e)) (he : e = (k : Int)) (hk : k ≤ c) : LO P β env L ⟨d, .slice T x none (some j) none, ty, pos, aft, g⟩ (.slice p k c) :=
  .of_run fun a w h hw => ⟨w, by
    subst he
    have h0 : ∀ q : Addr, q.add 0 = q := fun q => by simp [Addr.add]
    have h2 : p.map (fun x => x.add 0) = p := by cases p <;> simp [h0]
    simp [execOp, h x (by simp [Op.operands]) _ hx, h j (by simp [Op.operands]) _ hj, Instr.sliceAt, run_underlying hT, Instr.slice, Instr.sliceBounds, Instr.sliceBound, asIntOf, hk, run_size hz, h2], hw⟩
end
end Go.SL

namespace Go.SL
set_option linter.unusedVariables false
open Go.RowKit

section
variable {P : Program} {ro : Option Nat} {β : Bs} {N : Nat} {ds : List Deferred} {env : Env} {L : List Res} {Q : Exit → Act → World → Prop}
  {ty : TypeId} {pos : String} {aft : Array Edge} {g : Option (Nat × Bool)}

theorem VC.rebase {c : Code} (h : ∀ w1, St β L w1 → VC P ro (bs w1) N ds env [] c Q) : VC P ro β N ds env L c Q := fun a w ha hw => h w hw a w ha (St.refl w)
theorem St.based {w0 w1 w2 : World} {L L' : List Res} (h : St (bs w0) L w1) (k : St (bs w1) L' w2) : St (bs w0) [] w2 := (h.call k).nil

/-- A slice that is made, as rows of what a function encodes. -/
theorem HO.mksM {α : Type} {f : α → List Value} {z0 : α} {K : Value → List Res → Prop} {dd : Option Nat} {x y : Operand} {T E z by_ n : Nat} {zero : Value} {e : Int} (hf : zero.cells.toList = f z0) (hT : IsSlice P T E) (hE : EInfo P E z by_ zero) (hx : OV env x (.int .i64 e)) (hy : OV env y (.int .i64 e)) (he : e = (n : Int)) (hz1 : 0 < z) (hn : by_ * n ≤ 281474976710656) (hn2 : n ≤ 281474976710656)
    (k : ∀ b, K (.slice (some ⟨b, 0, none⟩) n n) (own E z (some ⟨b, 0, none⟩) n ((List.replicate n z0).map f) :: L)) : HO P β env L ⟨dd, .makeSlice T x y, ty, pos, aft, none⟩ K :=
  HO.mks hT hE hx hy he hz1 hn hn2 fun b => by
    have := k b
    rw [List.map_replicate, ← hf] at this
    exact this

/-- A whole element is stored. -/
theorem HO.stm {α : Type} {f : α → List Value} {l : List α} (i : Nat) (LF : Res → List Res) (v0 : α) {K : Value → List Res → Prop} {dd : Option Nat} {x y : Operand} {T E z cap j q : Nat} {p : Option Addr} {v : Value} {vs : List Value} (hT : (P.info? T).map (·.size) = some vs.length) (hx : OV env x (.pointer (some ⟨pb p, q, none⟩))) (hy : OV env y v)
    (hi : L[i]? = some (own E z p cap (l.map f))) (hj : j < l.length) (hq : q = po p + j * z) (hv : v.cells = vs.toArray) (hfv : f v0 = vs) (hz : vs.length = z) (h1 : allOne vs = true) (hL : ∀ R : Res, L.set i R = LF R)
    (k : K undef (LF (own E z p cap ((l.set j v0).map f)))) : HO P β env L ⟨dd, .store T x y, ty, pos, aft, none⟩ K := by
  obtain ⟨r, hr⟩ : ∃ r, (l.map f)[j]? = some r := ⟨_, List.getElem?_eq_getElem (by simpa using hj)⟩
  intro a w h hw
  have hrz : r.length = z := (hw.inv i _ hi).2.1 r (List.mem_of_getElem? hr)
  refine HO.sto i LF (o := 0) (vs := vs) (rows := l.map f) (r := r) (j := j) hT hx hy hi hr (by rw [hq]; rfl) hv (by omega) h1 hL ?_ a w h hw
  have e : (l.map f).set j (r.take 0 ++ vs ++ r.drop (0 + vs.length)) = (l.set j v0).map f := by
    rw [List.map_set, hfv, List.take_zero, List.nil_append, Nat.zero_add, hz, ← hrz, List.drop_length, List.append_nil]
  rw [e]
  exact k

theorem LO.neB {d : Option Nat} {x y : Operand} {T T2 : TypeId} {b c : Bool} (hT : P.underlying T = some .bool) (hx : OV env x (.bool b)) (hy : OV env y (.bool c)) : LO P β env L ⟨d, .binOp .neq T x y T2, ty, pos, aft, g⟩ (.bool (decide (¬ b = c))) :=
  .of_run fun a w h hw => ⟨w, by
    have key : (Op.equalIn Op.maxDepth T (.bool b) (.bool c)).run P w = .ok (b == c) w := by
      show (Op.equalIn (9999 + 1) T (.bool b) (.bool c)).run P w = _
      unfold Op.equalIn
      rw [Sem.run_bind, run_underlying hT]
      rfl
    have e : decide (¬ b = c) = !(b == c) := by cases b <;> cases c <;> rfl
    rw [e]
    simp [execOp, h x (by simp [Op.operands]) _ hx, h y (by simp [Op.operands]) _ hy, eqGuard, binOp, Op.equal, key], hw⟩
end
end Go.SL

namespace Go.SL
set_option linter.unusedVariables false
open Go.RowKit

theorem findNow_int {k : IntKind} {n : Int} : ∀ {es : List MapEntry} (i : Nat), (∀ e, e ∈ es → ∃ m, e.key = intV m) →
    (∃ j e, Instr.findNow (.int k) (intV n) es i = some (some (j, e.val)) ∧ i ≤ j ∧ es[j - i]? = some e ∧ e.key = intV n) ∨ (Instr.findNow (.int k) (intV n) es i = some none ∧ ∀ e, e ∈ es → e.key ≠ intV n)
  | [], i,_ => .inr ⟨rfl, by simp⟩
  | e :: es, i, h => by
    obtain ⟨m, hm⟩ := h e (by simp)
    simp only [Instr.findNow, hm, intV, Instr.sameNow, if_true]
    by_cases q : n = m
    · subst q
      left
      simp only [beq_self_eq_true]
      exact ⟨i, e, rfl, Nat.le_refl _, by simp, hm⟩
    · have : (n == m) = false := by simp [q]
      rw [this]
      rcases findNow_int (k := k) (n := n) (es := es) (i + 1) (fun e' he => h e' (by simp [he])) with ⟨j, e', h1, h2, h3, h4⟩ | ⟨h1, h2⟩
      · left
        refine ⟨j, e', h1, by omega, ?_, h4⟩
        rw [show j - i = (j - (i + 1)) + 1 by omega]
        simpa using h3
      · right
        refine ⟨h1, ?_⟩
        intro e' he
        rcases List.mem_cons.1 he with rfl | he
        · rw [hm]; exact fun e => q (intV_inj e).symm
        · exact h2 e' he
theorem stamps_set {es : List MapEntry} {j c : Nat} {e : MapEntry} {k v : Value} (h : Stamps es c) (hj : es[j]? = some e) : Stamps (es.set j ⟨k, v, e.born⟩) c := by
  have hm : (es.set j ⟨k, v, e.born⟩).map (·.born) = es.map (·.born) := by
    rw [List.map_set]
    refine List.ext_getElem? fun i => ?_
    by_cases q : j = i
    · subst q
      have := (List.getElem?_eq_some_iff.1 hj).1
      rw [List.getElem?_set_self (by simpa using this), List.getElem?_map, hj]; rfl
    · rw [List.getElem?_set_ne q]
  refine ⟨by rw [hm]; exact h.1, fun x hx => ?_⟩
  have : x.born ∈ (es.set j ⟨k, v, e.born⟩).map (·.born) := List.mem_map_of_mem hx
  rw [hm] at this
  obtain ⟨y, h1, h2⟩ := List.mem_map.1 this
  rw [← h2]; exact h.2 y h1
theorem stamps_push {es : List MapEntry} {c : Nat} {k v : Value} (h : Stamps es c) : Stamps (es ++ [⟨k, v, c⟩]) (c + 1) := by
  refine ⟨?_, fun x hx => ?_⟩
  · rw [List.map_append, List.nodup_append]
    refine ⟨h.1, by simp, ?_⟩
    intro a ha b hb
    obtain ⟨x, hx, rfl⟩ := List.mem_map.1 ha
    have := h.2 x hx
    simp at hb
    omega
  · rcases List.mem_append.1 hx with q | q
    · have := h.2 x q; omega
    · have := List.mem_singleton.1 q; subst this; exact Nat.lt_succ_self _
theorem modify_set {es : Array MapEntry} {j : Nat} {e : MapEntry} {f : MapEntry → MapEntry} (hj : es.toList[j]? = some e) : (es.modify j f).toList = es.toList.set j (f e) := by
  refine List.ext_getElem? fun i => ?_
  have hjl := (List.getElem?_eq_some_iff.1 hj).1
  rw [Array.toList_modify]
  by_cases q : j = i
  · subst q
    rw [List.getElem?_modify_eq, hj, List.getElem?_set_self hjl]; rfl
  · rw [List.getElem?_set_ne q]; simp [List.getElem?_modify, q]

section
variable {P : Program} {ro : Option Nat} {β : Bs} {N : Nat} {ds : List Deferred} {env : Env} {L : List Res} {Q : Exit → Act → World → Prop}
variable {d : Option Nat} {ty : TypeId} {pos : String} {aft : Array Edge} {g : Option (Nat × Bool)}
section
variable {K : Value → List Res → Prop} {dd : Option Nat}
theorem skip_of {s : Sem Unit} {w w' : World} (h : s.run P w = .ok () w') : (s.run P w).andThen (fun _ w => .ok Next.skip w) = .ok Next.skip w' := by rw [h]; rfl
end
end
end Go.SL

namespace Go.Proofs.Ytgemekpofpoopaa
open Go.SL Go.Proofs Go.Cast Go.Cell
set_option linter.unusedVariables false

theorem F128_0 : FieldAt Try.prog 128 0 0 := ⟨_,_, Try.underlying128, rfl, rfl, 5, by kernel_rfl⟩
theorem F128_1 : FieldAt Try.prog 128 1 6 := ⟨_,_, Try.underlying128, rfl, rfl, 0, by kernel_rfl⟩
theorem mixed : Try.prog.follows .mixedOrders = true := by kernel_rfl
theorem B71 : Builds Try.prog 71 [(0,1), (1,1)] [.int .i64 0, .int .i64 0] := Builds.mk fun _ => by kernel_rfl
theorem Z128 : ZeroOf Try.prog 128 (.agg #[.int .i64 0, .int .i64 0, .int .i64 0, .int .i64 0, .int .i64 0, .slice none 0 0, .int .i64 0]) := by unfold ZeroOf; kernel_rfl
theorem C73 : IsFn Try.prog 73 := ⟨_, Try.func73, by decide, rfl⟩
theorem B128 : Builds Try.prog 128 [(0,6), (6,1)] [.int .i64 0, .int .i64 0, .int .i64 0, .int .i64 0, .int .i64 0, .slice none 0 0, .int .i64 0] := Builds.mk fun _ => by kernel_rfl
theorem N128 : (Try.prog.info? 128).map (·.size) = some 7 := by kernel_rfl
theorem A128 : IsAgg Try.prog 128 7 := ⟨⟨_, Try.underlying128, rfl⟩, by kernel_rfl⟩


abbrev nC (p : Nat) : List Value := [.int .i64 (p : Int)]
abbrev iC (n : Int) : List Value := [.int .i64 n]
abbrev fieldV (g : Grid) (pv : Option Addr) (n cv : Nat) : Value := .agg #[.int .i64 g.x, .int .i64 g.y, .int .i64 g.size, .int .i64 g.wide, .int .i64 g.high, .slice pv n cv]
abbrev sheetV (g : Grid) (pv : Option Addr) (n cv : Nat) (lv : Int) : Value := .agg #[.int .i64 g.x, .int .i64 g.y, .int .i64 g.size, .int .i64 g.wide, .int .i64 g.high, .slice pv n cv, .int .i64 lv]
/-- Which pixels may be in, and which are in. -/
def mayB (vs : List Span) (lv : Int) (p : Nat) : Bool := decide (lv ≤ (vs.getD p ⟨0,0⟩).hi)
def inB (vs : List Span) (lv : Int) (p : Nat) : Bool := decide (lv ≤ (vs.getD p ⟨0,0⟩).lo)
def openE (g : Grid) (vs : List Span) (lv : Int) : Int := if fieldE 1073741824 ⟨g, vs⟩ ≠ 0 then fieldE 1073741824 ⟨g, vs⟩ else if lv < 1 ∨ 1073741824 < lv then 3 else 0
theorem oE1 {g : Grid} {vs : List Span} {lv : Int} (h : fieldE 1073741824 ⟨g, vs⟩ ≠ 0) : fieldE 1073741824 ⟨g, vs⟩ = openE g vs lv := (if_pos h).symm
theorem openOk {g : Grid} {vs : List Span} {lv : Int} (h : openE g vs lv = 0) : gridOk g ∧ (vs.length : Int) = g.wide * g.high ∧ (∀ j, j < vs.length → spanOk 1073741824 (vs.getD j ⟨0,0⟩)) ∧ 1 ≤ lv ∧ lv ≤ 1073741824 := by
  unfold openE at h
  split at h
  · rename_i q; exact absurd h q
  · rename_i q
    split at h
    · omega
    · rename_i z
      have q := Classical.not_not.1 q
      unfold fieldE at q
      split at q
      · omega
      · rename_i y
        split at q
        · omega
        · rename_i x
          refine ⟨Classical.not_not.1 y, Classical.not_not.1 x, fun j hj => ?_, by omega, by omega⟩
          have := firstE_eq q j hj
          unfold valE at this
          split at this
          · assumption
          · omega

set_option maxRecDepth 20000 in
theorem large_c (g : Grid) (vs : List Span) (pv : Option Addr) (cv : Nat) (w : World) :
  Calls Try.prog 15 #[fieldV g pv vs.length cv] w fun e w' => e = .returned (.bool (decide ((80 : Int) < vs.length))) ∧ St (bs w) [] w' := by
  refine enter (vs := [_]) (env := [(0,_)]) Try.func15 rfl rfl rfl rfl ?_
  refine VC.seq ?_
  refine VC.reg (VO.h rfl<|HO.box (C := #[_,_,_,_,_,_]) rfl rfl fun b1 => VO.l (LO.as (.r rfl)) rfl<|VO.nil ?_)
  refine VE.seqN ?_
  refine VC.seq ?_
  refine VC.reg (VO.l (LO.fa (r := 5) F26_1 (.r rfl) rfl) rfl<|VO.l (LO.ld O24 (.r rfl) (fun _ hw => cells_at hw 0 rfl ⟨_, rfl⟩)) rfl<|VO.l (LO.len S24 (.r rfl) rfl) rfl<|VO.l (LO.gt (.r rfl) (.r rfl)) rfl<|VO.l (LO.as (.r rfl)) rfl<|VO.nil ?_)
  refine VE.seqN ?_
  refine VC.ret (VE.res (vs := [_]) rfl ⟨rfl, trivial⟩ (fun w hw => ?_))
  exact ⟨rfl, hw.nil⟩

set_option maxRecDepth 20000 in
theorem may_c (g : Grid) (vs : List Span) (pv : Option Addr) (cv : Nat) (lv : Int) (p : Nat) (w : World) (hv : Spans w pv vs) (hp : p < vs.length) :
  Calls Try.prog 64 #[sheetV g pv vs.length cv lv, .int .i64 (p : Int)] w fun e w' => e = .returned (.bool (mayB vs lv p)) ∧ St (bs w) [] w' := by
  refine enter (vs := [_,_]) (env := [(0,_), (1,_)]) Try.func64 rfl rfl rfl rfl ?_
  refine VC.seq ?_
  refine VC.reg (VO.h rfl<|HO.box (C := #[_,_,_,_,_,_,_]) rfl rfl fun b1 => VO.l (LO.as (.r rfl)) rfl<|VO.nil ?_)
  refine VE.seqN ?_
  refine VC.seq ?_
  refine VC.draw mixed (LL.l (LO.fa (r := 0) F128_0 (.r rfl) rfl) rfl<|LL.l (LO.fa (r := 5) F26_1 (.r rfl) rfl) rfl<|LL.l (LO.ld O24 (.r rfl) (fun _ hw => cells_at hw 0 rfl ⟨_, rfl⟩)) rfl<|LL.l (LO.mv (.r rfl)) rfl<|LL.l (LO.ixs S24 N71 hv.some (.r rfl) (.r rfl) rfl (by omega)) rfl<|LL.l (LO.fa F71_1 (.r rfl) rfl) rfl<|LL.l (LO.ld O3 (.r rfl) (fun w hw => cells_part (off := 1) ((hv.at (j := p) (by omega)) w hw) ⟨_, rfl⟩)) rfl<|LL.l (LO.fa (r := 6) F128_1 (.r rfl) rfl) rfl<|LL.l (LO.ld O3 (.r rfl) (fun _ hw => cells_at hw 0 rfl ⟨_, rfl⟩)) rfl<|LL.l (LO.ge (.r rfl) (.r rfl)) rfl<|LL.l (LO.as (.r rfl)) rfl<|LL.nil) (by kernel_rfl) ?_
  refine VE.seqN ?_
  refine VC.ret (VE.res (vs := [_]) rfl ⟨rfl, trivial⟩ (fun w hw => ?_))
  exact ⟨rfl, hw.nil⟩

set_option maxRecDepth 20000 in
theorem in_c (g : Grid) (vs : List Span) (pv : Option Addr) (cv : Nat) (lv : Int) (p : Nat) (w : World) (hv : Spans w pv vs) (hp : p < vs.length) :
  Calls Try.prog 63 #[sheetV g pv vs.length cv lv, .int .i64 (p : Int)] w fun e w' => e = .returned (.bool (inB vs lv p)) ∧ St (bs w) [] w' := by
  refine enter (vs := [_,_]) (env := [(0,_), (1,_)]) Try.func63 rfl rfl rfl rfl ?_
  refine VC.seq ?_
  refine VC.reg (VO.h rfl<|HO.box (C := #[_,_,_,_,_,_,_]) rfl rfl fun b1 => VO.l (LO.as (.r rfl)) rfl<|VO.nil ?_)
  refine VE.seqN ?_
  refine VC.seq ?_
  refine VC.draw mixed (LL.l (LO.fa (r := 0) F128_0 (.r rfl) rfl) rfl<|LL.l (LO.fa (r := 5) F26_1 (.r rfl) rfl) rfl<|LL.l (LO.ld O24 (.r rfl) (fun _ hw => cells_at hw 0 rfl ⟨_, rfl⟩)) rfl<|LL.l (LO.mv (.r rfl)) rfl<|LL.l (LO.ixs S24 N71 hv.some (.r rfl) (.r rfl) rfl (by omega)) rfl<|LL.l (LO.fa F71_0 (.r rfl) rfl) rfl<|LL.l (LO.ld O3 (.r rfl) (fun w hw => cells_part (off := 0) ((hv.at (j := p) (by omega)) w hw) ⟨_, rfl⟩)) rfl<|LL.l (LO.fa (r := 6) F128_1 (.r rfl) rfl) rfl<|LL.l (LO.ld O3 (.r rfl) (fun _ hw => cells_at hw 0 rfl ⟨_, rfl⟩)) rfl<|LL.l (LO.ge (.r rfl) (.r rfl)) rfl<|LL.l (LO.as (.r rfl)) rfl<|LL.nil) (by kernel_rfl) ?_
  refine VE.seqN ?_
  refine VC.ret (VE.res (vs := [_]) rfl ⟨rfl, trivial⟩ (fun w hw => ?_))
  exact ⟨rfl, hw.nil⟩

set_option maxRecDepth 20000 in
theorem hull_c (a b n : Int) (w : World) :
  Calls Try.prog 101 #[.agg #[.int .i64 a, .int .i64 b], .int .i64 n] w fun e w' => e = .returned (.agg #[.int .i64 (min a n), .int .i64 (max b n)]) ∧ St (bs w) [] w' := by
  refine enter (vs := [_,_]) (env := [(0,_), (1,_)]) Try.func101 rfl rfl rfl rfl ?_
  refine VC.seq ?_
  refine VC.reg (VO.h rfl<|HO.box (C := #[_,_]) rfl rfl fun b1 => VO.h rfl<|HO.alloc (C := #[_,_]) Z71 rfl fun b2 => VO.nil ?_)
  refine VE.seqN ?_
  refine VC.seq ?_
  refine VC.reg (VO.l (LO.fa (r := 0) F71_0 (.r rfl) rfl) rfl<|VO.l (LO.ld O3 (.r rfl) (fun _ hw => cells_at hw 1 rfl ⟨_, rfl⟩)) rfl<|VO.l (LO.mv (.r rfl)) rfl<|VO.l (LO.min (.r rfl) (.r rfl)) rfl<|VO.l (LO.fa (r := 1) F71_1 (.r rfl) rfl) rfl<|VO.l (LO.ld O3 (.r rfl) (fun _ hw => cells_at hw 1 rfl ⟨_, rfl⟩)) rfl<|VO.l (LO.mv (.r rfl)) rfl<|VO.l (LO.max (.r rfl) (.r rfl)) rfl<|VO.l (LO.bd (ps := [(_,_), (_,_)]) (vs := [(_,_), (_,_)]) (C := [_,_]) B71  ⟨(.r rfl), (.r rfl), trivial⟩ rfl ⟨_, [_], [_,_], rfl, rfl, rfl, rfl, ⟨_, [_], [_,_], rfl, rfl, rfl, rfl, rfl⟩⟩) rfl<|VO.h0<|HO.st 0 (vs := [_,_]) (C' := [_,_]) (L' := [_,_]) N71 rfl rfl rfl rfl rfl rfl rfl rfl<|VO.nil ?_)
  refine VE.seqN ?_
  refine VC.ret (VE.res (vs := [_]) rfl ⟨RV.agg (vs := [_,_]) A71 rfl (cells_blk 0 rfl ⟨_, rfl⟩) rfl, trivial⟩ (fun w hw => ?_))
  exact ⟨rfl, hw.nil⟩

set_option maxRecDepth 20000 in
theorem opened_ok (g : Grid) (vs : List Span) (pv : Option Addr) (cv : Nat) (lv : Int) (w : World) (hv : Spans w pv vs) (hok : openE g vs lv = 0) :
  Calls Try.prog 57 #[fieldV g pv vs.length cv, .int .i64 lv] w fun e w' => e = .returned (.tuple #[sheetV g pv vs.length cv lv, .int .i64 0]) ∧ St (bs w) [] w' := by
  refine enter (vs := [_,_]) (env := [(0,_), (1,_)]) Try.func57 rfl rfl rfl rfl ?_
  refine VC.seq ?_
  refine VC.reg (VO.h rfl<|HO.box (C := #[_,_,_,_,_,_]) rfl rfl fun b1 => VO.h rfl<|HO.alloc (C := #[_,_,_,_,_,_,_]) Z128 rfl fun b2 => VO.l (LO.as (.r rfl)) rfl<|VO.nil ?_)
  refine VE.seqN ?_
  refine VC.seq ?_
  refine VC.seq ?_
  refine VC.reg (VO.l (LO.lda (vs := [_,_,_,_,_,_]) A26 (.r rfl) (fun _ hw => cells_at hw 1 rfl ⟨_, rfl⟩) rfl) rfl<|VO.l (LO.call (xs := [_]) (vs := [_]) C73 ⟨(.r rfl), trivial⟩ (fun w hw => bCheckField_c ⟨g, vs⟩ pv cv w (hv.keep w hw))) rfl<|VO.l (LO.as (.r rfl)) rfl<|VO.nil ?_)
  refine VE.seqN ?_
  refine VC.seq ?_
  refine VC.reg (VO.l (LO.mv (.r rfl)) rfl<|VO.l (LO.ne (.r rfl) (.r rfl)) rfl<|VO.nil ?_)
  refine VE.seqN ?_
  refine VC.cond rfl (fun h1 => ?_) (fun h1 => ?_)
  ·
    (exfalso; exact h1 (by have z := oE1 (lv := lv) h1; rw [hok] at z; exact z))
  ·
    refine VC.skip (VE.seqN ?_)
    refine VC.seq ?_
    refine VC.seq ?_
    refine VC.reg (VO.l (LO.mv (.r rfl)) rfl<|VO.l (LO.lt (.r rfl) (.r rfl)) rfl<|VO.l (LO.mv (.r rfl)) rfl<|VO.lg rfl rfl (GD.f _) (fun hg => LO.mv (.r rfl)) rfl<|VO.lg rfl rfl (GD.f _) (fun hg => LO.gt (.g hg rfl) (.r rfl)) rfl<|VO.l (LO.pkO (.r rfl) (.r rfl) rfl rfl) rfl<|VO.nil ?_)
    refine VE.seqN ?_
    refine VC.cond rfl (fun h2 => ?_) (fun h2 => ?_)
    ·
      (exfalso; have z := openOk hok; first | omega | (simp at h2; omega))
    ·
      refine VC.skip (VE.seqN ?_)
      refine VC.seq ?_
      refine VC.reg (VO.l (LO.lda (vs := [_,_,_,_,_,_]) A26 (.r rfl) (fun _ hw => cells_at hw 1 rfl ⟨_, rfl⟩) rfl) rfl<|VO.l (LO.mv (.r rfl)) rfl<|VO.l (LO.bd (ps := [(_,_), (_,_)]) (vs := [(_,_), (_,_)]) (C := [_,_,_,_,_,_,_]) B128  ⟨(.r rfl), (.r rfl), trivial⟩ rfl ⟨_, [_,_,_,_,_,_], [_,_,_,_,_,_,_], rfl, rfl, rfl, rfl, ⟨_, [_], [_,_,_,_,_,_,_], rfl, rfl, rfl, rfl, rfl⟩⟩) rfl<|VO.h0<|HO.st 0 (vs := [_,_,_,_,_,_,_]) (C' := [_,_,_,_,_,_,_]) (L' := [_,_]) N128 rfl rfl rfl rfl rfl rfl rfl rfl<|VO.l (LO.as (.r rfl)) rfl<|VO.nil ?_)
      refine VE.seqN ?_
      refine VC.ret (VE.res (vs := [_,_]) rfl ⟨RV.agg (vs := [_,_,_,_,_,_,_]) A128 rfl (cells_blk 0 rfl ⟨_, rfl⟩) rfl, rfl, trivial⟩ (fun w hw => ?_))
      exact ⟨rfl, hw.nil⟩

end Go.Proofs.Ytgemekpofpoopaa

namespace Go.Proofs.Ytgemekpofpoopaa
open Go.SL Go.Proofs Go.Cast Go.Cell
set_option linter.unusedVariables false



abbrev arF (bp bg : Nat) : Value := .func (.func 107) #[] #[.pointer (some ⟨bp, 0, none⟩), .pointer (some ⟨bg, 0, none⟩)]
abbrev gridC (g : Grid) : List Value := [.int .i64 g.x, .int .i64 g.y, .int .i64 g.size, .int .i64 g.wide, .int .i64 g.high]
structure arCap (g : Grid) (p : Nat) (bp bg : Nat) (w : World) : Prop where
  p : Cells w ⟨bp, 0, none⟩ [.int .i64 (p : Int)]
  g : Cells w ⟨bg, 0, none⟩ (gridC g)
/-- Wide and high, as numbers. -/
abbrev gW (g : Grid) : Nat := g.wide.toNat
abbrev gH (g : Grid) : Nat := g.high.toNat
theorem gWi {g : Grid} (h : gridOk g) : (gW g : Int) = g.wide ∧ (gH g : Int) = g.high ∧ 1 ≤ gW g ∧ gW g ≤ 64 ∧ 1 ≤ gH g ∧ gH g ≤ 64 := by
  obtain ⟨_,_,_, h4, h5⟩ := h; unfold gW gH; omega
theorem mod_n {g : Grid} (h : gridOk g) (p : Nat) : ((p : Int)).tmod g.wide = ((p % gW g : Nat) : Int) := by
  rw [← (gWi h).1]; rfl
theorem div_n {g : Grid} (h : gridOk g) (p : Nat) : ((p : Int)).tdiv g.wide = ((p / gW g : Nat) : Int) := by
  rw [← (gWi h).1]; rfl
theorem area_n {g : Grid} (h : gridOk g) : ((gW g * gH g : Nat) : Int) = g.wide * g.high := by rw [Int.natCast_mul, (gWi h).1, (gWi h).2.1]
theorem len_n {g : Grid} (h : gridOk g) {n : Nat} (k : (n : Int) = g.wide * g.high) : n = gW g * gH g := by rw [← area_n h] at k; omega
theorem area_le {g : Grid} (h : gridOk g) : gW g * gH g ≤ 4096 := by have := area_bd h; have := area_n h; omega
/-- A stage of a sequence: stopped ahead, or not. -/
theorem stage {J Jx : Nat → Res → Prop} {s d b : Bool} {k len : Nat} {r r' : Res} (h1 : s = false → J k r) (h2 : s = true → ∃ n, n ≤ len ∧ Jx n r) (hk : d = true → k + 1 ≤ len) (hp : (!s && d) = true → if b = true then J (k + 1) r' else Jx (k + 1) r') (hq : (!s && d) = false → r' = r) :
    ((s || (d && !b)) = false → J (k + d.toNat) r') ∧ ((s || (d && !b)) = true → ∃ n, n ≤ len ∧ Jx n r') := by
  cases s with
  | true => exact ⟨fun h => (by cases h), fun _ => by rw [hq rfl]; exact h2 rfl⟩
  | false =>
    cases d with
    | false => exact ⟨fun _ => by rw [hq rfl]; exact h1 rfl, fun h => (by cases h)⟩
    | true =>
      cases b with
      | true => exact ⟨fun _ => by have := hp rfl; rw [if_pos rfl] at this; exact this, fun h => (by cases h)⟩
      | false => exact ⟨fun h => (by cases h), fun _ => ⟨k + 1, hk rfl, by have := hp rfl; rw [if_neg (by decide)] at this; exact this⟩⟩
theorem nb_1 {W H p : Nat} (h : 0 < p / W) : (nb W H p)[0]? = some (p - W) := by unfold nb; rw [if_pos h]; rfl
theorem nb_2 {W H p : Nat} (h : 0 < p % W) : (nb W H p)[(decide (0 < p / W)).toNat]? = some (p - 1) := by
  unfold nb; rw [if_pos h]
  by_cases q : 0 < p / W
  · rw [if_pos q, decide_eq_true q]; rfl
  · rw [if_neg q, decide_eq_false q]; rfl
theorem nb_3 {W H p : Nat} (h : p % W + 1 < W) : (nb W H p)[(decide (0 < p / W)).toNat + (decide (0 < p % W)).toNat]? = some (p + 1) := by
  unfold nb; rw [if_pos h]
  by_cases q : 0 < p / W <;> by_cases z : 0 < p % W
  · rw [if_pos q, decide_eq_true q, if_pos z, decide_eq_true z]; rfl
  · rw [if_pos q, decide_eq_true q, if_neg z, decide_eq_false z]; rfl
  · rw [if_neg q, decide_eq_false q, if_pos z, decide_eq_true z]; rfl
  · rw [if_neg q, decide_eq_false q, if_neg z, decide_eq_false z]; rfl
theorem nb_len {W H p : Nat} : (nb W H p).length = (decide (0 < p / W)).toNat + (decide (0 < p % W)).toNat + (decide (p % W + 1 < W)).toNat + (decide (p / W + 1 < H)).toNat := by
  unfold nb
  simp only [List.length_append]
  have key : ∀ {c : Prop} [Decidable c] {x : Nat}, (if c then [x] else []).length = (decide c).toNat := fun {c} _ {x} => by
    by_cases q : c
    · rw [if_pos q, decide_eq_true q]; rfl
    · rw [if_neg q, decide_eq_false q]; rfl
  rw [key, key, key, key]
theorem nb_4 {W H p : Nat} (h : p / W + 1 < H) : (nb W H p)[(decide (0 < p / W)).toNat + (decide (0 < p % W)).toNat + (decide (p % W + 1 < W)).toNat]? = some (p + W) := by
  have hl := nb_len (W := W) (H := H) (p := p)
  rw [decide_eq_true h] at hl
  have hl2 : ((if 0 < p / W then [p - W] else []) ++ (if 0 < p % W then [p - 1] else []) ++ (if p % W + 1 < W then [p + 1] else []) : List Nat).length = (decide (0 < p / W)).toNat + (decide (0 < p % W)).toNat + (decide (p % W + 1 < W)).toNat := by
    have e : (nb W H p).length = ((if 0 < p / W then [p - W] else []) ++ (if 0 < p % W then [p - 1] else []) ++ (if p % W + 1 < W then [p + 1] else []) : List Nat).length + 1 := by
      unfold nb; rw [if_pos h, List.length_append]; rfl
    simp only [Bool.toNat_true] at hl
    omega
  unfold nb
  rw [if_pos h, List.getElem?_append_right (by omega), hl2, Nat.sub_self]
  rfl
theorem sub_n {g : Grid} (h : gridOk g) {p : Nat} (q : 0 < p / gW g) : (p : Int) - g.wide = ((p - gW g : Nat) : Int) := by
  have h1 := (gWi h).1
  have h2 : gW g ≤ p := by
    rcases Nat.lt_or_ge p (gW g) with z | z
    · rw [Nat.div_eq_of_lt z] at q; omega
    · exact z
  omega
theorem sub1_n {p W : Nat} (q : 0 < p % W) : (p : Int) - 1 = ((p - 1 : Nat) : Int) := by
  have : 0 < p := by
    rcases Nat.eq_zero_or_pos p with z | z
    · subst z; simp at q
    · exact z
  omega
theorem seq_stop {J Jx : Nat → Res → Prop} {xs : List (List Value)} {n : Nat} {r : Res} (h : n ≤ xs.length) (k : Jx n r) : J xs.length r ∨ ∃ n, n ≤ xs.length ∧ Jx n r := .inr ⟨n, h, k⟩
theorem seq_full {J Jx : Nat → Res → Prop} {xs : List (List Value)} {r : Res} (k : J xs.length r) : J xs.length r ∨ ∃ n, n ≤ xs.length ∧ Jx n r := .inl k
theorem seq_end {J Jx : Nat → Res → Prop} {xs : List (List Value)} {r : Res} {β : Bs} {w : World} (h : J xs.length r ∨ ∃ n, n ≤ xs.length ∧ Jx n r) (hw : St β [r] w) : ∃ n r', (J xs.length r' ∨ (n ≤ xs.length ∧ Jx n r')) ∧ St β [r'] w := by
  rcases h with h | ⟨n, h1, h2⟩
  · exact ⟨0, r, .inl h, hw⟩
  · exact ⟨n, r, .inr ⟨h1, h2⟩, hw⟩

set_option maxRecDepth 20000 in
theorem around_c (g : Grid) (p : Nat) (w : World) :
  Calls Try.prog 71 #[gridV g, .int .i64 (p : Int)] w fun e w' => ∃ y : Nat × Nat, True ∧ e = .returned (arF y.1 y.2) ∧ St (bs w) [blk y.1 (.cells #[.int .i64 (p : Int)] 3), blk y.2 (.cells (gridC g).toArray 23)] w' := by
  refine enter (vs := [_,_]) (env := [(0,_), (1,_)]) Try.func71 rfl rfl rfl rfl ?_
  refine VC.seq ?_
  refine VC.reg (VO.h rfl<|HO.box (C := #[_,_,_,_,_]) rfl rfl fun b1 => VO.h rfl<|HO.box (C := #[_]) rfl rfl fun b2 => VO.l (LO.as (.r rfl)) rfl<|VO.nil ?_)
  refine VE.seqN ?_
  refine VC.seq ?_
  refine VC.reg (VO.h rfl<|HO.lo (LO.mf (cap := [_,_]) ⟨(.r rfl), (.r rfl), trivial⟩)<|VO.h rfl<|HO.lo (LO.as (.r rfl))<|VO.nil ?_)
  refine VE.seqN ?_
  refine VC.ret (VE.res (vs := [_]) rfl ⟨rfl, trivial⟩ (fun w hw => ?_))
  exact ⟨(b2, b1), trivial, rfl, hw⟩

end Go.Proofs.Ytgemekpofpoopaa

namespace Go.Proofs.Ytgemekpofpoopaa
open Go.SL Go.Proofs Go.Cast Go.Cell
set_option linter.unusedVariables false



theorem LO.eqv {P : Program} {β : Bs} {env : Env} {L : List Res} {o : Oper} {v v' : Value} (h : LO P β env L o v) (e : v = v') : LO P β env L o v' := e ▸ h
theorem dlt {a b : Nat} {x y : Int} (h1 : x = a) (h2 : y = b) : Value.bool (decide (x < y)) = .bool (decide (a < b)) := by
  subst h1; subst h2; exact congrArg Value.bool (decide_eq_decide.2 (by omega))
theorem yg2 {P : Program} {ro : Option Nat} {β : Bs} {N : Nat} {ds : List Deferred} {env : Env} {L : List Res} {Q : Exit → Act → World → Prop} (i : Nat) {ops : Array Oper} {d j t : Nat} {want c : Bool} {ty : TypeId} {pos : String} {aft : Array Edge} {rest : List Oper} {u : Value} {fx : Operand} {xs : List Operand} {vs : List Value} {aT : Array TypeId} {l : Nat} {r : Res} {post : Bool → Res → Prop} (hj : (ops[j]?).bind (·.dst) = some t) (ht : ev1 env t = some u) (hg : GD u want c) (hd : Nat.blt d N = true)
    (hfx : c = true → OV env fx (yv l)) (hx : c = true → OVs env xs vs) (hi : L[i]? = some r)
    (hy : c = true → ∀ w, r.inv w → (∀ k, r.fp k → k < w.heap.size) → (w.os = β.w.os ∧ w.tape = β.w.tape ∧ w.output = β.w.output ∧ β.w.heap.size ≤ w.heap.size) → YieldsTo P l vs w fun e w' => ∃ b r', e = .returned (.bool b) ∧ post b r' ∧ St ⟨w, r.fp⟩ [r'] w')
    (k : ∀ b r', (c = true → post b r') → (c = false → r' = r) → VO P ro β N ds ops ((d, gv c (.bool b)) :: env) (L.set i r') rest Q) :
    VO P ro β N ds ops env L (⟨some d, .call ⟨.value fx, xs.toArray, aT⟩, ty, pos, aft, some (j, want)⟩ :: rest) Q := by
  cases c with
  | true =>
    exact VO.hg (Kx := fun v L' => ∃ b r', v = .bool b ∧ L' = L.set i r' ∧ post b r') hj ht hg (fun q => HO.yield i (hfx q) (hx q) hi (hy q) fun b r' hp => ⟨b, r', rfl, rfl, hp⟩) hd fun v L' h1 _ => by
      obtain ⟨b, r', h2, h3, h4⟩ := h1 rfl
      subst h2; subst h3
      exact k b r' (fun _ => h4) (fun q => by cases q)
  | false =>
    refine VO.hg (Kx := fun _ _ => False) hj ht hg (fun q => by cases q) hd fun v L' _ h2 => ?_
    have h3 := h2 rfl
    subst h3
    have h4 := k true r (fun q => by cases q) (fun _ => rfl)
    have h5 : L'.set i r = L' := by
      apply List.ext_getElem?
      intro n
      rw [List.getElem?_set]
      split
      · rename_i q; subst q
        split
        · exact hi.symm
        · rename_i q; simp [List.getElem?_eq_none (Nat.not_lt.1 q)] at hi
      · rfl
    rw [h5] at h4
    exact h4
theorem nS {a b : Bool} (h : (!a && b) = true) : a = false := by cases a <;> simp_all
theorem nT {a b : Bool} (h : (!a && b) = true) : b = true := by cases a <;> simp_all
theorem nN {a : Bool} (h : (!a) = true) : a = false := by cases a <;> simp_all

set_option maxRecDepth 20000 in
theorem around_seq (g : Grid) (p bp bg : Nat) (hg0 : gridOk g) (hp : p < gW g * gH g) :
  SeqC Try.prog 107 [.pointer (some ⟨bp, 0, none⟩), .pointer (some ⟨bg, 0, none⟩)] (arCap g p bp bg) ((nb (gW g) (gH g) p).map nC) := by
  intro l J Jx w r hCap hyl hJ hi0 hf0
  obtain ⟨hW, hH, hW1, hW2, hH1, hH2⟩ := gWi hg0
  have hal := area_le hg0
  have hxl : p % gW g < gW g := Nat.mod_lt _ (by omega)
  have hyl2 : p / gW g < gH g := row_lt hp
  have hdy : (0 : Int) ≤ ((p / gW g : Nat) : Int) ∧ (0 : Int) ≤ ((p % gW g : Nat) : Int) := ⟨Int.natCast_nonneg _, Int.natCast_nonneg _⟩
  obtain ⟨D1, hD1⟩ : ∃ D, D = (decide (0 < p / gW g)) := ⟨_, rfl⟩
  obtain ⟨D2, hD2⟩ : ∃ D, D = (decide (0 < p % gW g)) := ⟨_, rfl⟩
  obtain ⟨D3, hD3⟩ : ∃ D, D = (decide (p % gW g + 1 < gW g)) := ⟨_, rfl⟩
  obtain ⟨D4, hD4⟩ : ∃ D, D = (decide (p / gW g + 1 < gH g)) := ⟨_, rfl⟩
  have hlen : ((nb (gW g) (gH g) p).map nC).length = D1.toNat + D2.toNat + D3.toNat + D4.toNat := by rw [List.length_map, nb_len, hD1, hD2, hD3, hD4]
  have hk1 : D1 = true → 0 + 1 ≤ ((nb (gW g) (gH g) p).map nC).length := fun h => by rw [hlen, h]; simp only [Bool.toNat_true]; omega
  have hk2 : D2 = true → 0 + D1.toNat + 1 ≤ ((nb (gW g) (gH g) p).map nC).length := fun h => by rw [hlen, h]; simp only [Bool.toNat_true]; omega
  have hk3 : D3 = true → 0 + D1.toNat + D2.toNat + 1 ≤ ((nb (gW g) (gH g) p).map nC).length := fun h => by rw [hlen, h]; simp only [Bool.toNat_true]; omega
  refine enterO (vs := [_,_,_]) (env := [(0,_), (1,_), (2,_)]) (St.one hi0 hf0) Try.func107 rfl rfl rfl rfl ?_
  refine VC.seq ?_
  refine VC.draw mixed (LL.l (LO.ld O3 (.r rfl) (fun _ hw => sub_cells (off := 0) (hCap _ _ _ hJ (St.inv hw 0 _ rfl)).p ⟨_, rfl⟩)) rfl<|LL.l (LO.fa (r := 3) F23_3 (.r rfl) rfl) rfl<|LL.l (LO.ld O3 (.r rfl) (fun _ hw => sub_cells (off := 3) (hCap _ _ _ hJ (St.inv hw 0 _ rfl)).g ⟨_, rfl⟩)) rfl<|LL.l (LO.eqv (LO.rem (.r rfl) (.r rfl) (by omega)) (congrArg (Value.int .i64) (mod_n hg0 p))) rfl<|LL.l (LO.ld O3 (.r rfl) (fun _ hw => sub_cells (off := 0) (hCap _ _ _ hJ (St.inv hw 0 _ rfl)).p ⟨_, rfl⟩)) rfl<|LL.l (LO.fa (r := 3) F23_3 (.r rfl) rfl) rfl<|LL.l (LO.ld O3 (.r rfl) (fun _ hw => sub_cells (off := 3) (hCap _ _ _ hJ (St.inv hw 0 _ rfl)).g ⟨_, rfl⟩)) rfl<|LL.l (LO.eqv (LO.quo (.r rfl) (.r rfl) (by omega) (wi (by rw [div_n hg0]; omega) (by rw [div_n hg0]; omega))) (congrArg (Value.int .i64) (div_n hg0 p))) rfl<|LL.l (LO.as (.r rfl)) rfl<|LL.l (LO.as (.r rfl)) rfl<|LL.nil) (by kernel_rfl) ?_
  refine VE.seqN ?_
  refine VC.seq ?_
  refine VC.seq ?_
  refine VC.reg (VO.l (LO.mv (.r rfl)) rfl<|VO.l (LO.eqv (v' := .bool D1) (LO.gt (.r rfl) (.r rfl)) (by rw [hD1]; exact dlt rfl rfl)) rfl<|VO.l (LO.mv (.r rfl)) rfl<|VO.lg rfl rfl (GD.t _) (fun hg => LO.mv (.r rfl)) rfl<|VO.lg rfl rfl (GD.t _) (fun hg => LO.ld O3 (.r rfl) (fun _ hw => sub_cells (off := 0) (hCap _ _ _ hJ (St.inv hw 0 _ rfl)).p ⟨_, rfl⟩)) rfl<|VO.lg rfl rfl (GD.t _) (fun hg => LO.fa (r := 3) F23_3 (.r rfl) rfl) rfl<|VO.lg rfl rfl (GD.t _) (fun hg => LO.ld O3 (.g hg rfl) (fun _ hw => sub_cells (off := 3) (hCap _ _ _ hJ (St.inv hw 0 _ rfl)).g ⟨_, rfl⟩)) rfl<|VO.lg rfl rfl (GD.t _) (fun hg => LO.eqv (LO.sub (.g hg rfl) (.g hg rfl) (wi (by omega) (by omega))) (congrArg (Value.int .i64) (sub_n hg0 (of_decide_eq_true (hD1 ▸ hg))))) rfl<|yg2 0 (r := r) (vs := [_]) (post := fun b r' => if b = true then J (0 + 1) r' else Jx (0 + 1) r') rfl rfl (GD.t _) rfl (fun hg => .g hg rfl) (fun hg => ⟨.g hg rfl, trivial⟩) rfl (fun hg w2 hi hr hs => hyl (0) _ (by rw [List.getElem?_map, nb_1 (of_decide_eq_true (hD1 ▸ hg))]; rfl) r w2 (hJ) hi hr hs) fun b1 r1 hp1 hq1 => have hA1 := stage (J := J) (Jx := Jx) (s := false) (d := D1) (len := ((nb (gW g) (gH g) p).map nC).length) (fun _ => hJ) (fun q => by cases q) (hk1) hp1 hq1; VO.lg rfl rfl (GD.t _) (fun hg => LO.not (.g hg rfl)) rfl<|VO.l (LO.pkA (.r rfl) rfl rfl (.r rfl)) rfl<|VO.l (LO.mv (.r rfl)) rfl<|VO.lg rfl rfl (GD.f _) (fun hg => LO.mv (.r rfl)) rfl<|VO.lg rfl rfl (GD.f _) (fun hg => LO.eqv (v' := .bool D2) (LO.gt (.g hg rfl) (.r rfl)) (by rw [hD2]; exact dlt rfl rfl)) rfl<|VO.lg rfl rfl (GD.f _) (fun hg => LO.mv (.g hg rfl)) rfl<|VO.lg rfl rfl (GD.nt _ _) (fun hg => LO.mv (.r rfl)) rfl<|VO.lg rfl rfl (GD.nt _ _) (fun hg => LO.ld O3 (.r rfl) (fun _ hw => (hCap _ _ _ (hA1.1 (nS hg)) (St.inv hw 0 _ rfl)).p)) rfl<|VO.lg rfl rfl (GD.nt _ _) (fun hg => LO.eqv (LO.sub (.g hg rfl) (.r rfl) (wi (by omega) (by omega))) (congrArg (Value.int .i64) (sub1_n (of_decide_eq_true (hD2 ▸ nT hg))))) rfl<|yg2 0 (r := r1) (vs := [_]) (post := fun b r' => if b = true then J ((0 + D1.toNat) + 1) r' else Jx ((0 + D1.toNat) + 1) r') rfl rfl (GD.nt _ _) rfl (fun hg => .g hg rfl) (fun hg => ⟨.g hg rfl, trivial⟩) rfl (fun hg w2 hi hr hs => hyl ((0 + D1.toNat)) _ (by rw [hD1, List.getElem?_map, Nat.zero_add, nb_2 (of_decide_eq_true (hD2 ▸ nT hg))]; rfl) r1 w2 (hA1.1 (nS hg)) hi hr hs) fun b2 r2 hp2 hq2 => have hA2 := stage (J := J) (Jx := Jx) (s := (D1 && !b1)) (d := D2) (len := ((nb (gW g) (gH g) p).map nC).length) hA1.1 hA1.2 (hk2) hp2 hq2; VO.lg rfl rfl (GD.nt _ _) (fun hg => LO.not (.g hg rfl)) rfl<|VO.lg rfl rfl (GD.f _) (fun hg => LO.pkA (.g hg rfl) rfl (and_e hg) (.r rfl)) rfl<|VO.l (LO.pkO (.r rfl) (.r rfl) rfl rfl) rfl<|VO.l (LO.mv (.r rfl)) rfl<|VO.lg rfl rfl (GD.f _) (fun hg => LO.mv (.r rfl)) rfl<|VO.lg rfl rfl (GD.f _) (fun hg => LO.add (.g hg rfl) (.r rfl) (wi (by omega) (by omega))) rfl<|VO.lg rfl rfl (GD.f _) (fun hg => LO.fa (r := 3) F23_3 (.r rfl) rfl) rfl<|VO.lg rfl rfl (GD.f _) (fun hg => LO.ld (v := .int .i64 g.wide) O3 (.g hg rfl) (fun _ hw => sub_cells (off := 3) (hCap _ _ _ (hA2.1 (nN hg)) (St.inv hw 0 _ rfl)).g ⟨_, rfl⟩)) rfl<|VO.lg rfl rfl (GD.f _) (fun hg => LO.eqv (v' := .bool D3) (LO.lt (.g hg rfl) (.g hg rfl)) (by rw [hD3]; exact dlt rfl hW.symm)) rfl<|VO.lg rfl rfl (GD.f _) (fun hg => LO.mv (.g hg rfl)) rfl<|VO.lg rfl rfl (GD.nt _ _) (fun hg => LO.mv (.r rfl)) rfl<|VO.lg rfl rfl (GD.nt _ _) (fun hg => LO.ld O3 (.r rfl) (fun _ hw => (hCap _ _ _ (hA2.1 (nS hg)) (St.inv hw 0 _ rfl)).p)) rfl<|VO.lg rfl rfl (GD.nt _ _) (fun hg => LO.add (.g hg rfl) (.r rfl) (wi (by omega) (by omega))) rfl<|yg2 0 (r := r2) (vs := [_]) (post := fun b r' => if b = true then J ((0 + D1.toNat + D2.toNat) + 1) r' else Jx ((0 + D1.toNat + D2.toNat) + 1) r') rfl rfl (GD.nt _ _) rfl (fun hg => .g hg rfl) (fun hg => ⟨.g hg rfl, trivial⟩) rfl (fun hg w2 hi hr hs => hyl ((0 + D1.toNat + D2.toNat)) _ (by rw [hD1, hD2, List.getElem?_map, Nat.zero_add, nb_3 (of_decide_eq_true (hD3 ▸ nT hg))]; rfl) r2 w2 (hA2.1 (nS hg)) hi hr hs) fun b3 r3 hp3 hq3 => have hA3 := stage (J := J) (Jx := Jx) (s := ((D1 && !b1) || (D2 && !b2))) (d := D3) (len := ((nb (gW g) (gH g) p).map nC).length) hA2.1 hA2.2 (hk3) hp3 hq3; VO.lg rfl rfl (GD.nt _ _) (fun hg => LO.not (.g hg rfl)) rfl<|VO.lg rfl rfl (GD.f _) (fun hg => LO.pkA (.g hg rfl) rfl (and_e hg) (.r rfl)) rfl<|VO.l (LO.pkO (.r rfl) (.r rfl) rfl rfl) rfl<|VO.nil ?_)
  refine VE.seqN ?_
  refine VC.cond rfl (fun h49 => ?_) (fun h49 => ?_)
  ·
    obtain ⟨n3, hn3, hx3⟩ := hA3.2 (by simpa using h49)
    have hE := seq_stop (J := J) (xs := ((nb (gW g) (gH g) p).map nC)) hn3 hx3
    refine VC.ret (VE.thenR (VE.res (vs := []) rfl trivial (fun w hw => ?_)))
    exact ⟨rfl, seq_end hE hw⟩
  ·
    have hJ := hA3.1 (by simpa using h49)
    refine VC.skip (VE.seqN ?_)
    refine VC.seq ?_
    refine VC.reg (VO.l (LO.mv (.r rfl)) rfl<|VO.l (LO.add (.r rfl) (.r rfl) (wi (by omega) (by omega))) rfl<|VO.l (LO.fa (r := 4) F23_4 (.r rfl) rfl) rfl<|VO.l (LO.ld O3 (.r rfl) (fun _ hw => sub_cells (off := 4) (hCap _ _ _ hJ (St.inv hw 0 _ rfl)).g ⟨_, rfl⟩)) rfl<|VO.l (LO.eqv (v' := .bool D4) (LO.lt (.r rfl) (.r rfl)) (by rw [hD4]; exact dlt rfl hH.symm)) rfl<|VO.nil ?_)
    refine VE.seqN ?_
    refine VC.cond rfl (fun h54 => ?_) (fun h54 => ?_)
    ·
      refine VC.reg (VO.l (LO.mv (.r rfl)) rfl<|VO.l (LO.ld O3 (.r rfl) (fun _ hw => sub_cells (off := 0) (hCap _ _ _ hJ (St.inv hw 0 _ rfl)).p ⟨_, rfl⟩)) rfl<|VO.l (LO.fa (r := 3) F23_3 (.r rfl) rfl) rfl<|VO.l (LO.ld O3 (.r rfl) (fun _ hw => sub_cells (off := 3) (hCap _ _ _ hJ (St.inv hw 0 _ rfl)).g ⟨_, rfl⟩)) rfl<|VO.l (LO.add (.r rfl) (.r rfl) (wi (by omega) (by omega))) rfl<|VO.h rfl<|HO.yield 0 (r := r3) (vs := [_]) (post := fun b r' => if b = true then J (0 + D1.toNat + D2.toNat + D3.toNat + 1) r' else Jx (0 + D1.toNat + D2.toNat + D3.toNat + 1) r') (.r rfl) ⟨.r rfl, trivial⟩ rfl (fun w2 hi hr hs => hyl (0 + D1.toNat + D2.toNat + D3.toNat) _ (by rw [hD1, hD2, hD3, List.getElem?_map, Nat.zero_add, nb_4 (of_decide_eq_true (hD4 ▸ h54))]; show some [Value.int .i64 ((p + gW g : Nat) : Int)] = some [Value.int .i64 ((p : Int) + g.wide)]; rw [← hW]; rfl) r3 w2 hJ hi hr hs) fun b4 r4 hp4 => VO.nil ?_)
      have hE : J ((nb (gW g) (gH g) p).map nC).length r4 ∨ ∃ n, n ≤ ((nb (gW g) (gH g) p).map nC).length ∧ Jx n r4 := by
        have e4 : 0 + D1.toNat + D2.toNat + D3.toNat + 1 = ((nb (gW g) (gH g) p).map nC).length := by rw [hlen, show D4 = true from h54]; simp only [Bool.toNat_true]; omega
        rw [e4] at hp4
        cases b4 with
        | true => rw [if_pos rfl] at hp4; exact .inl hp4
        | false => rw [if_neg (by decide)] at hp4; exact .inr ⟨_, Nat.le_refl _, hp4⟩
      refine VE.resN (vs := []) rfl trivial (fun w hw => ?_)
      exact ⟨rfl, seq_end hE hw⟩
    ·
      have hE := seq_full (J := J) (Jx := Jx) (xs := ((nb (gW g) (gH g) p).map nC)) (r := r3) (by rw [hlen, show D4 = false by simpa using h54]; simp only [Bool.toNat_false, Nat.add_zero]; rw [Nat.zero_add] at hJ; exact hJ)
      refine VC.skip (VE.resN (vs := []) rfl trivial (fun w hw => ?_))
      exact ⟨rfl, seq_end hE hw⟩

end Go.Proofs.Ytgemekpofpoopaa

namespace Go.Cell
set_option linter.unusedVariables false
section
variable (W H : Nat) (S : Nat → Bool)
/-- The number of a pixel's part while the pixels of 'l' are given the next number. -/
def ofV (p : Nat) (l : List Nat) (q : Nat) : Int := if q ∈ l then ((partsTo W H S p).length : Int) else idxL (partsTo W H S p) q
def ofA (p : Nat) (l : List Nat) : List Int := (List.range (W * H)).map (ofV W H S p l)
end
section
variable {W H : Nat} {S : Nat → Bool} {p q r : Nat} {l : List Nat}
theorem ofA_len : (ofA W H S p l).length = W * H := by unfold ofA; simp
theorem ofA_get (h : q < W * H) : (ofA W H S p l)[q]? = some (ofV W H S p l q) := by
  unfold ofA; rw [List.getElem?_map, List.getElem?_range h]; rfl
theorem ofA_zero : List.replicate (W * H) (-1 : Int) = ofA W H S 0 [] := by
  refine List.ext_getElem? fun q => ?_
  by_cases h : q < W * H
  · rw [ofA_get h, List.getElem?_replicate, if_pos h]; simp [ofV, partsTo, idxL]
  · rw [List.getElem?_eq_none (by simpa using h), List.getElem?_eq_none (by rw [ofA_len]; omega)]
theorem ofA_set (hr : r < W * H) : (ofA W H S p l).set r ((partsTo W H S p).length : Int) = ofA W H S p (l ++ [r]) := by
  refine List.ext_getElem? fun q => ?_
  by_cases h : q < W * H
  · rw [ofA_get h, List.getElem?_set]
    by_cases e : r = q
    · subst e
      rw [if_pos rfl, if_pos (by rw [ofA_len]; exact h)]
      unfold ofV; rw [if_pos (by simp)]
    · rw [if_neg e, ofA_get h]
      unfold ofV
      have : (q ∈ l ++ [r]) ↔ q ∈ l := by simp; intro z; exact absurd z.symm e
      by_cases z : q ∈ l
      · rw [if_pos z, if_pos (this.2 z)]
      · rw [if_neg z, if_neg (fun y => z (this.1 y))]
  · rw [List.getElem?_eq_none (by rw [List.length_set, ofA_len]; omega), List.getElem?_eq_none (by rw [ofA_len]; omega)]
/-- A pixel that begins no new part. -/
theorem of_old (hp : p < W * H) (h : 0 ≤ ofV W H S p [] p ∨ S p = false) : partsTo W H S (p + 1) = partsTo W H S p := by
  refine partsTo_old fun ⟨h1, h2⟩ => ?_
  rcases h with h | h
  · unfold ofV at h
    rw [if_neg (by simp), idx_neg h2] at h
    omega
  · rw [h] at h1; cases h1
theorem ofA_old (h : partsTo W H S (p + 1) = partsTo W H S p) : ofA W H S (p + 1) [] = ofA W H S p [] := by unfold ofA ofV; rw [h]
/-- One that begins a new part. -/
theorem of_new (h : ¬ 0 ≤ ofV W H S p [] p) : ∀ l, l ∈ partsTo W H S p → p ∉ l := by
  unfold ofV at h
  rw [if_neg (by simp)] at h
  exact idx_neg_iff.1 (by omega)
/-- What holds of the list of a part's pixels found so far, of which so many have been looked at. -/
structure WL (W H : Nat) (S : Nat → Bool) (p : Nat) (l : List Nat) (i : Nat) : Prop where
  nod : l.Nodup
  mem : ∀ q, q ∈ l → q < W * H ∧ Cn W H S p q
  self : p ∈ l
  cl : ∀ (j q r : Nat), j < i → l[j]? = some q → r ∈ nb W H q → S r = true → r ∈ l
  le : i ≤ l.length
theorem WL.one (hp : p < W * H) (hs : S p = true) : WL W H S p [p] 0 := ⟨by simp, fun q hq => by simp at hq; subst hq; exact ⟨hp, .refl hs⟩, by simp, fun j q r hj => absurd hj (Nat.not_lt_zero _), Nat.zero_le _⟩
theorem WL.len {i : Nat} (h : WL W H S p l i) : l.length ≤ W * H := by
  have := length_le_of_subset (m := List.range (W * H)) h.nod (fun x hx => List.mem_range.2 (h.mem x hx).1)
  simpa using this
theorem WL.full (h : WL W H S p l l.length) (hp : p < W * H) (hs : S p = true) : ∀ q, q ∈ l ↔ q ∈ compL W H S p := fun q => by
  rw [mem_compL hp hs]
  refine ⟨fun z => (h.mem q z).2, fun z => ?_⟩
  refine z.closed (X := fun x => x ∈ l) h.self fun a b ha hb hS => ?_
  obtain ⟨j, hj⟩ := List.mem_iff_getElem?.1 ha
  exact h.cl j a b (List.getElem?_eq_some_iff.1 hj).1 hj hb hS
theorem ofA_next (hp : p < W * H) (hs : S p = true) (hn : ∀ l, l ∈ partsTo W H S p → p ∉ l) (h : ∀ q, q ∈ l ↔ q ∈ compL W H S p) : ofA W H S p l = ofA W H S (p + 1) [] := by
  unfold ofA
  refine List.map_congr_left fun q hq => ?_
  have hq := List.mem_range.1 hq
  have e2 : ofV W H S (p + 1) [] q = if idxL (partsTo W H S p) q = -1 then (if q ∈ compL W H S p then ((partsTo W H S p).length : Int) else -1) else idxL (partsTo W H S p) q := by
    unfold ofV
    rw [if_neg (by simp), partsTo_new hs hn, idx_app]
  rw [e2]
  unfold ofV
  by_cases z : q ∈ l
  · rw [if_pos z]
    have z2 := (h q).1 z
    have hno : ∀ m, m ∈ partsTo W H S p → q ∉ m := fun m hm hqm => by
      have h1 := (mem_compL hp hs).1 z2
      obtain ⟨_,_, h2,_⟩ := parts_cn (Nat.le_of_lt hp) hm hqm
      exact hn m hm ((h2 p).2 (h1.symm hp))
    rw [if_pos (idx_neg hno), if_pos z2]
  · rw [if_neg z]
    by_cases y : idxL (partsTo W H S p) q = -1
    · rw [if_pos y, if_neg (fun z2 => z ((h q).2 z2)), y]
    · rw [if_neg y]
/-- The neighbors of one pixel are looked at, one by one. -/
structure WN (W H : Nat) (S : Nat → Bool) (p : Nat) (l : List Nat) (q k : Nat) (m : List Nat) : Prop where
  nod : m.Nodup
  mem : ∀ z, z ∈ m → z < W * H ∧ Cn W H S p z
  pre : ∃ t, m = l ++ t
  dn : ∀ (j r : Nat), j < k → (nb W H q)[j]? = some r → S r = true → r ∈ m
theorem WN.zero {i : Nat} (h : WL W H S p l i) : WN W H S p l q 0 l := ⟨h.nod, h.mem, ⟨[], by simp⟩, fun j r hj => absurd hj (Nat.not_lt_zero _)⟩
theorem WN.len {k : Nat} {m : List Nat} (h : WN W H S p l q k m) : m.length ≤ W * H := by
  have := length_le_of_subset (m := List.range (W * H)) h.nod (fun x hx => List.mem_range.2 (h.mem x hx).1)
  simpa using this
/-- A neighbor that is not taken. -/
theorem WN.skip {k : Nat} {m : List Nat} (h : WN W H S p l q k m) (hr : (nb W H q)[k]? = some r) (hx : S r = true → r ∈ m) : WN W H S p l q (k + 1) m := by
  refine ⟨h.nod, h.mem, h.pre, fun j z hj hz hs => ?_⟩
  rcases Nat.lt_or_ge j k with y | y
  · exact h.dn j z y hz hs
  · have : j = k := by omega
    subst this
    rw [hr] at hz; cases hz
    exact hx hs
/-- One that is taken. -/
theorem WN.take {k i : Nat} {m : List Nat} (h : WN W H S p l q k m) (h0 : WL W H S p l i) (hi : l[i]? = some q) (hr : (nb W H q)[k]? = some r) (hx : r ∉ m) (hs : S r = true) : WN W H S p l q (k + 1) (m ++ [r]) := by
  have hq := h0.mem q (List.mem_of_getElem? hi)
  have hrn := List.mem_of_getElem? hr
  obtain ⟨t, ht⟩ := h.pre
  refine ⟨List.nodup_append.2 ⟨h.nod, by simp, fun a ha b hb => by simp at hb; subst hb; intro e; subst e; exact hx ha⟩, fun z hz => ?_, ⟨t ++ [r], by rw [ht, List.append_assoc]⟩, fun j z hj hz hS => ?_⟩
  · rcases List.mem_append.1 hz with y | y
    · exact h.mem z y
    · simp at y; subst y; exact ⟨nb_lt hq.1 hrn, .step hq.2 hrn hs⟩
  · rcases Nat.lt_or_ge j k with y | y
    · exact List.mem_append_left _ (h.dn j z y hz hS)
    · have : j = k := by omega
      subst this
      rw [hr] at hz; cases hz
      simp
/-- Whether a neighbor has no number yet. -/
theorem of_neg {k i : Nat} {m : List Nat} (h : WN W H S p l q k m) (h0 : WL W H S p l i) (hp : p < W * H) (hi : l[i]? = some q) (hr : (nb W H q)[k]? = some r) (hn : ∀ l, l ∈ partsTo W H S p → p ∉ l) (hs : S r = true) : ofV W H S p m r < 0 ↔ r ∉ m := by
  have hq := h0.mem q (List.mem_of_getElem? hi)
  have hrn := List.mem_of_getElem? hr
  unfold ofV
  by_cases z : r ∈ m
  · rw [if_pos z]; exact ⟨fun y => by omega, fun y => absurd z y⟩
  · rw [if_neg z]
    refine ⟨fun _ => z, fun _ => ?_⟩
    refine idx_neg_iff.2 fun x hx hrx => ?_
    obtain ⟨_,_, h2,_⟩ := parts_cn (Nat.le_of_lt hp) hx hrx
    have hc : Cn W H S p r := .step hq.2 hrn hs
    exact hn x hx ((h2 p).2 (hc.symm hp))
theorem WN.done {k i : Nat} {m : List Nat} (h : WN W H S p l q k m) (h0 : WL W H S p l i) (hi : l[i]? = some q) (hk : (nb W H q).length ≤ k) : WL W H S p m (i + 1) := by
  obtain ⟨t, ht⟩ := h.pre
  have hil := (List.getElem?_eq_some_iff.1 hi).1
  refine ⟨h.nod, h.mem, by rw [ht]; exact List.mem_append_left _ h0.self, fun j z r hj hz hr hs => ?_, by rw [ht, List.length_append]; omega⟩
  rcases Nat.lt_or_ge j i with y | y
  · rw [ht, List.getElem?_append_left (by omega)] at hz
    rw [ht]; exact List.mem_append_left _ (h0.cl j z r y hz hr hs)
  · have : j = i := by omega
    subst this
    rw [ht, List.getElem?_append_left hil, hi] at hz; cases hz
    obtain ⟨n, hn⟩ := List.mem_iff_getElem?.1 hr
    exact h.dn n r (by have := (List.getElem?_eq_some_iff.1 hn).1; omega) hn hs
end
end Go.Cell

namespace Go.SL
set_option linter.unusedVariables false
section
variable {P : Program} {ro : Option Nat} {β : Bs} {N : Nat} {ds : List Deferred} {env : Env} {L : List Res} {Q : Exit → Act → World → Prop} {w v : World}
theorem VC.rebaseO {Lk Lf : List Res} {c : Code} (h : ∀ w1, St β (Lk ++ Lf) w1 → VC P ro ⟨w1, fpL Lk⟩ N ds env Lk c Q) : VC P ro β N ds env (Lk ++ Lf) c Q := fun a w ha hw => h w hw a w ha (hw.has (List.sublist_append_left _ _))
/-- What was in hand at a base, and what lay there. -/
theorem St.fz {R rest : List Res} (h : St β (R ++ rest) w) (hs : St ⟨w, fpL R⟩ L v) : St β (L ++ rest) v := h.callG (fun k hk => hk) hs
theorem St.rightOf {A B : List Res} (h : St β (A ++ B) w) : St β B w := h.map (fun j => A.length + j) (fun a b hab _ _ => by omega) (fun j r hr => .inr (by rw [List.getElem?_append_right (by omega), show A.length + j - A.length = j by omega]; exact hr))
variable {α : Type} {f : α → Res} {as_ : List α} {a : α} {i : Nat}
theorem St.focusAt (h : St β (Go.SL.bagD (as_.map f) :: L) w) (hi : as_[i]? = some a) : St β (f a :: Go.SL.bagD ((as_.eraseIdx i).map f) :: L) w := by
  obtain ⟨hl, rfl⟩ := List.getElem?_eq_some_iff.1 hi
  have e : as_.map f = (as_.take i).map f ++ f as_[i] :: (as_.drop (i + 1)).map f := by
    rw [← List.map_cons, ← List.map_append, ← List.drop_eq_getElem_cons hl, List.take_append_drop]
  rw [e] at h
  have h2 := St.focus h
  rw [List.eraseIdx_eq_take_drop_succ, List.map_append]
  exact h2
theorem St.unfocusAt (h : St β (f a :: Go.SL.bagD ((as_.eraseIdx i).map f) :: L) w) (hl : i < as_.length) : St β (Go.SL.bagD ((as_.set i a).map f) :: L) w := by
  rw [List.eraseIdx_eq_take_drop_succ, List.map_append] at h
  have h2 := St.unfocus h
  have e : (as_.set i a).map f = (as_.take i).map f ++ f a :: (as_.drop (i + 1)).map f := by
    rw [List.set_eq_take_append_cons_drop, if_pos hl, List.map_append, List.map_cons]
  rw [e]
  exact h2
end
end Go.SL

namespace Go.Cell
set_option linter.unusedVariables false
/-- A way from 'p' to a pixel, through pixels that may be in, and how many of them are not surely in. -/
inductive Gp (W H : Nat) (M : Nat → Bool) (C : Nat → Nat) (p : Nat) : Nat → Nat → Prop
  | start : M p = true → Gp W H M C p (C p) p
  | step {c q r : Nat} : Gp W H M C p c q → r ∈ nb W H q → M r = true → Gp W H M C p (c + C r) r
/-- The gap: the least number, or -1. -/
def IsGap (W H : Nat) (M : Nat → Bool) (C : Nat → Nat) (p q : Nat) (c : Int) : Prop := (c = -1 ∧ ∀ n, ¬ Gp W H M C p n q) ∨ ∃ n : Nat, c = n ∧ Gp W H M C p n q ∧ ∀ m, Gp W H M C p m q → n ≤ m
/-- How many numbers are below 0. -/
def unset (ls : List Int) : Nat := (ls.filter fun x => decide (x < 0)).length
theorem unset_set : ∀ {ls : List Int} {r : Nat} {v : Int}, r < ls.length → ls.getD r (-1) < 0 → 0 ≤ v → unset (ls.set r v) + 1 = unset ls
  | [], r, v, h,_,_ => by simp at h
  | x :: ls, 0, v,_, hx, hv => by
    have hx : x < 0 := hx
    unfold unset
    rw [List.set_cons_zero, List.filter_cons, List.filter_cons, if_neg (by simpa using hv), if_pos (by simpa using hx)]
    rfl
  | x :: ls, r + 1, v, h, hx, hv => by
    have ih := unset_set (ls := ls) (r := r) (v := v) (by simpa using h) hx hv
    unfold unset at *
    rw [List.set_cons_succ, List.filter_cons, List.filter_cons]
    split
    · simp only [List.length_cons]; omega
    · exact ih
section
variable {W H : Nat} {M : Nat → Bool} {C : Nat → Nat} {p n q : Nat}
theorem Gp.may (h : Gp W H M C p n q) : M q = true := by cases h with | start h => exact h | step _ _ h => exact h
theorem Gp.lt (hp : p < W * H) (h : Gp W H M C p n q) : q < W * H := by induction h with | start _ => exact hp | step _ h _ ih => exact nb_lt ih h
end
/-- What holds of a number that is looked for. -/
def Pend (n : Nat) (ls : List Int) (now next : List Nat) (e t : Nat) : Prop := (0 ≤ ls.getD t (-1) ∧ ls.getD t (-1) ≤ e) ∨ (e = n ∧ t ∈ now) ∨ (e = n + 1 ∧ t ∈ next)
structure GI (W H : Nat) (M : Nat → Bool) (C : Nat → Nat) (p n : Nat) (ls : List Int) (now next : List Nat) (X : Nat → Nat → Prop) : Prop where
  len : ls.length = W * H
  set : ∀ r, r < W * H → 0 ≤ ls.getD r (-1) → ∃ d : Nat, ls.getD r (-1) = d ∧ d ≤ n ∧ Gp W H M C p d r
  neg : ∀ r, r < W * H → -1 ≤ ls.getD r (-1)
  now_ : ∀ r, r ∈ now → r < W * H ∧ Gp W H M C p n r
  nxt : ∀ r, r ∈ next → r < W * H ∧ Gp W H M C p (n + 1) r
  cl : ∀ (r t d : Nat), r < W * H → ls.getD r (-1) = d → t ∈ nb W H r → M t = true → ¬ X r t → Pend n ls now next (d + C t) t
  st : Pend n ls now next (C p) p
  bd : 5 * unset ls + now.length + next.length ≤ 5 * (W * H) + 1
def X0 : Nat → Nat → Prop := fun _ _ => False
/-- The neighbors of 'r' from the k-th one on are not looked at. -/
def XN (W H r k : Nat) : Nat → Nat → Prop := fun a t => a = r ∧ ¬ ∃ j, j < k ∧ (nb W H r)[j]? = some t
section
variable {W H : Nat} {M : Nat → Bool} {C : Nat → Nat} {p n r : Nat} {ls : List Int} {now next : List Nat} {X : Nat → Nat → Prop}
theorem getD_rep {m : Nat} {r : Nat} : (List.replicate m (-1 : Int)).getD r (-1) = -1 := by
  rw [List.getD_eq_getElem?_getD, List.getElem?_replicate]; split <;> rfl
theorem unset_rep {m : Nat} : unset (List.replicate m (-1 : Int)) = m := by
  unfold unset
  rw [List.filter_replicate]
  simp
theorem GI.init0 (hp : p < W * H) (hM : M p = true) (hC : C p = 0) : GI W H M C p 0 (List.replicate (W * H) (-1)) [p] [] X0 := by
  refine ⟨by simp, fun r _ h => by rw [getD_rep] at h; omega, fun r _ => by rw [getD_rep]; omega, fun r hr => ?_, fun r hr => (by cases hr), fun r t d _ h => by rw [getD_rep] at h; omega, .inr (.inl ⟨hC, by simp⟩), by rw [unset_rep]; simp⟩
  simp at hr; subst hr
  exact ⟨hp, hC ▸ .start hM⟩
theorem GI.init1 (hp : p < W * H) (hM : M p = true) (hC : C p = 1) : GI W H M C p 0 (List.replicate (W * H) (-1)) [] [p] X0 := by
  refine ⟨by simp, fun r _ h => by rw [getD_rep] at h; omega, fun r _ => by rw [getD_rep]; omega, fun r hr => (by cases hr), fun r hr => ?_, fun r t d _ h => by rw [getD_rep] at h; omega, .inr (.inr ⟨hC, by simp⟩), by rw [unset_rep]; simp⟩
  simp at hr; subst hr
  exact ⟨hp, by have := Gp.start (W := W) (H := H) (C := C) hM; rw [hC] at this; exact this⟩
/-- One that has a number is dropped. -/
theorem GI.skip (h : GI W H M C p n ls (now ++ [r]) next X) (hr : 0 ≤ ls.getD r (-1)) : GI W H M C p n ls now next X := by
  have hrn := h.now_ r (by simp)
  obtain ⟨d, hd, hdn,_⟩ := h.set r hrn.1 hr
  have pd : ∀ e t, Pend n ls (now ++ [r]) next e t → Pend n ls now next e t := fun e t k => by
    rcases k with k | ⟨k1, k2⟩ | k
    · exact .inl k
    · rcases List.mem_append.1 k2 with z | z
      · exact .inr (.inl ⟨k1, z⟩)
      · simp at z; subst z
        exact .inl ⟨hr, by omega⟩
    · exact .inr (.inr k)
  have hb := h.bd
  rw [List.length_append] at hb
  exact ⟨h.len, h.set, h.neg, fun a ha => h.now_ a (by simp [ha]), h.nxt, fun a t d h1 h2 h3 h4 h5 => pd _ _ (h.cl a t d h1 h2 h3 h4 h5), pd _ _ h.st, by simp at hb; omega⟩
theorem getD_set {ls : List Int} {r t : Nat} {v : Int} (hr : r < ls.length) : (ls.set r v).getD t (-1) = if r = t then v else ls.getD t (-1) := by
  rw [List.getD_eq_getElem?_getD, List.getD_eq_getElem?_getD, List.getElem?_set]
  by_cases e : r = t
  · subst e; rw [if_pos rfl, if_pos rfl, if_pos hr]; rfl
  · rw [if_neg e, if_neg e]
/-- One that has none gets this one. -/
theorem GI.put (h : GI W H M C p n ls (now ++ [r]) next X0) (hr : ls.getD r (-1) < 0) : GI W H M C p n (ls.set r n) now next (XN W H r 0) ∧ unset (ls.set r (n : Int)) + 1 = unset ls := by
  have hrn := h.now_ r (by simp)
  have hrl : r < ls.length := by rw [h.len]; exact hrn.1
  have hu := unset_set hrl hr (v := (n : Int)) (Int.natCast_nonneg _)
  have pd : ∀ e t, Pend n ls (now ++ [r]) next e t → Pend n (ls.set r n) now next e t := fun e t k => by
    unfold Pend
    rw [getD_set hrl]
    by_cases z : r = t
    · subst z
      rw [if_pos rfl]
      rcases k with ⟨k1,_⟩ | ⟨k1,_⟩ | ⟨k1,_⟩
      · omega
      · exact .inl ⟨by omega, by omega⟩
      · exact .inl ⟨by omega, by omega⟩
    · rw [if_neg z]
      rcases k with k | ⟨k1, k2⟩ | k
      · exact .inl k
      · rcases List.mem_append.1 k2 with y | y
        · exact .inr (.inl ⟨k1, y⟩)
        · simp at y; exact absurd y.symm z
      · exact .inr (.inr k)
  have hb := h.bd
  rw [List.length_append] at hb
  refine ⟨⟨by rw [List.length_set]; exact h.len, fun a ha k => ?_, fun a ha => ?_, fun a ha => h.now_ a (by simp [ha]), h.nxt, fun a t d h1 h2 h3 h4 h5 => ?_, pd _ _ h.st, by simp at hb; omega⟩, hu⟩
  · rw [getD_set hrl] at k ⊢
    by_cases z : r = a
    · subst z; rw [if_pos rfl]; exact ⟨n, rfl, Nat.le_refl _, hrn.2⟩
    · rw [if_neg z] at k ⊢; exact h.set a ha k
  · rw [getD_set hrl]
    split
    · omega
    · exact h.neg a ha
  · rw [getD_set hrl] at h2
    by_cases z : r = a
    · exfalso; exact h5 ⟨z.symm, fun ⟨j, hj,_⟩ => absurd hj (Nat.not_lt_zero _)⟩
    · rw [if_neg z] at h2; exact pd _ _ (h.cl a t d h1 h2 h3 h4 (fun f => f))
theorem xn_step {r k t a x : Nat} (ht : (nb W H r)[k]? = some t) (h : ¬ XN W H r (k + 1) a x) : ¬ XN W H r k a x ∨ (a = r ∧ x = t) := by
  by_cases z : XN W H r k a x
  · right
    obtain ⟨h1, h2⟩ := z
    refine ⟨h1, ?_⟩
    have h3 : ∃ j, j < k + 1 ∧ (nb W H r)[j]? = some x := Classical.byContradiction fun y => h ⟨h1, y⟩
    obtain ⟨j, hj, hx⟩ := h3
    have : j = k := by
      rcases Nat.lt_or_ge j k with y | y
      · exact absurd ⟨j, y, hx⟩ h2
      · omega
    subst this
    rw [ht] at hx; exact (Option.some.inj hx).symm
  · exact .inl z
/-- A neighbor is passed over. -/
theorem GI.nbSkip {k t : Nat} (h : GI W H M C p n ls now next (XN W H r k)) (hr : r < W * H) (hrd : ls.getD r (-1) = n) (ht : (nb W H r)[k]? = some t) (hx : ¬ (M t = true ∧ ls.getD t (-1) < 0)) : GI W H M C p n ls now next (XN W H r (k + 1)) := by
  refine ⟨h.len, h.set, h.neg, h.now_, h.nxt, fun a x d h1 h2 h3 h4 h5 => ?_, h.st, h.bd⟩
  rcases xn_step ht h5 with z | ⟨rfl, rfl⟩
  · exact h.cl a x d h1 h2 h3 h4 z
  · have hge : 0 ≤ ls.getD x (-1) := by
      rcases Int.lt_or_le (ls.getD x (-1)) 0 with y | y
      · exact absurd ⟨h4, y⟩ hx
      · exact y
    obtain ⟨e, he, hen,_⟩ := h.set x (nb_lt hr (List.mem_of_getElem? ht)) hge
    exact .inl ⟨hge, by rw [he]; omega⟩
/-- A neighbor that is in goes to the front, another one behind. -/
theorem GI.nbNow {k t : Nat} (h : GI W H M C p n ls now next (XN W H r k)) (hb : 5 * unset ls + now.length + next.length + 1 ≤ 5 * (W * H) + 1) (hr : r < W * H) (hrd : ls.getD r (-1) = n) (ht : (nb W H r)[k]? = some t) (hM : M t = true) (hC : C t = 0) : GI W H M C p n ls (now ++ [t]) next (XN W H r (k + 1)) := by
  obtain ⟨d, hd, hdn, hg⟩ := h.set r hr (by rw [hrd]; omega)
  have hdn2 : d = n := by rw [hrd] at hd; omega
  subst hdn2
  have hgt : Gp W H M C p d t := by have := Gp.step hg (List.mem_of_getElem? ht) hM; rw [hC] at this; exact this
  have pd : ∀ e x, Pend d ls now next e x → Pend d ls (now ++ [t]) next e x := fun e x k => by
    rcases k with k | ⟨k1, k2⟩ | k
    · exact .inl k
    · exact .inr (.inl ⟨k1, List.mem_append_left _ k2⟩)
    · exact .inr (.inr k)
  refine ⟨h.len, h.set, h.neg, fun a ha => ?_, h.nxt, fun a x e h1 h2 h3 h4 h5 => ?_, pd _ _ h.st, by rw [List.length_append]; simp; omega⟩
  · rcases List.mem_append.1 ha with z | z
    · exact h.now_ a z
    · simp at z; subst z; exact ⟨nb_lt hr (List.mem_of_getElem? ht), hgt⟩
  · rcases xn_step ht h5 with z | ⟨rfl, rfl⟩
    · exact pd _ _ (h.cl a x e h1 h2 h3 h4 z)
    · have : e = d := by rw [hrd] at h2; omega
      subst this
      exact .inr (.inl ⟨by omega, by simp⟩)
theorem GI.nbNext {k t : Nat} (h : GI W H M C p n ls now next (XN W H r k)) (hb : 5 * unset ls + now.length + next.length + 1 ≤ 5 * (W * H) + 1) (hr : r < W * H) (hrd : ls.getD r (-1) = n) (ht : (nb W H r)[k]? = some t) (hM : M t = true) (hC : C t = 1) : GI W H M C p n ls now (next ++ [t]) (XN W H r (k + 1)) := by
  obtain ⟨d, hd, hdn, hg⟩ := h.set r hr (by rw [hrd]; omega)
  have hdn2 : d = n := by rw [hrd] at hd; omega
  subst hdn2
  have hgt : Gp W H M C p (d + 1) t := by have := Gp.step hg (List.mem_of_getElem? ht) hM; rw [hC] at this; exact this
  have pd : ∀ e x, Pend d ls now next e x → Pend d ls now (next ++ [t]) e x := fun e x k => by
    rcases k with k | k | ⟨k1, k2⟩
    · exact .inl k
    · exact .inr (.inl k)
    · exact .inr (.inr ⟨k1, List.mem_append_left _ k2⟩)
  refine ⟨h.len, h.set, h.neg, h.now_, fun a ha => ?_, fun a x e h1 h2 h3 h4 h5 => ?_, pd _ _ h.st, by rw [List.length_append]; simp; omega⟩
  · rcases List.mem_append.1 ha with z | z
    · exact h.nxt a z
    · simp at z; subst z; exact ⟨nb_lt hr (List.mem_of_getElem? ht), hgt⟩
  · rcases xn_step ht h5 with z | ⟨rfl, rfl⟩
    · exact pd _ _ (h.cl a x e h1 h2 h3 h4 z)
    · have : e = d := by rw [hrd] at h2; omega
      subst this
      exact .inr (.inr ⟨by omega, by simp⟩)
theorem GI.nbDone {k : Nat} (h : GI W H M C p n ls now next (XN W H r k)) (hk : (nb W H r).length ≤ k) : GI W H M C p n ls now next X0 := by
  refine ⟨h.len, h.set, h.neg, h.now_, h.nxt, fun a x e h1 h2 h3 h4 h5 => ?_, h.st, h.bd⟩
  refine h.cl a x e h1 h2 h3 h4 fun ⟨z1, z2⟩ => ?_
  subst z1
  obtain ⟨j, hj⟩ := List.mem_iff_getElem?.1 h3
  exact z2 ⟨j, by have := (List.getElem?_eq_some_iff.1 hj).1; omega, hj⟩
/-- The next round. -/
theorem GI.swap (h : GI W H M C p n ls [] next X0) : GI W H M C p (n + 1) ls next [] X0 := by
  have pd : ∀ e x, Pend n ls [] next e x → Pend (n + 1) ls next [] e x := fun e x k => by
    rcases k with k | ⟨_, k2⟩ | ⟨k1, k2⟩
    · exact .inl k
    · cases k2
    · exact .inr (.inl ⟨k1, k2⟩)
  refine ⟨h.len, fun r h1 h2 => ?_, h.neg, h.nxt, fun r hr => (by cases hr), fun a x e h1 h2 h3 h4 h5 => pd _ _ (h.cl a x e h1 h2 h3 h4 h5), pd _ _ h.st, by have := h.bd; simp at this ⊢; omega⟩
  obtain ⟨d, hd, hn, hg⟩ := h.set r h1 h2
  exact ⟨d, hd, by omega, hg⟩
theorem GI.fin (h : GI W H M C p n ls [] [] X0) (hp : p < W * H) {c q : Nat} (hg : Gp W H M C p c q) : 0 ≤ ls.getD q (-1) ∧ ls.getD q (-1) ≤ c := by
  induction hg with
  | start _ =>
    rcases h.st with k | ⟨_, k⟩ | ⟨_, k⟩
    · exact k
    · cases k
    · cases k
  | step hq hr hM ih =>
    obtain ⟨d, hd,_,_⟩ := h.set _ (hq.lt hp) ih.1
    rcases h.cl _ _ d (hq.lt hp) hd hr hM (fun f => f) with k | ⟨_, k⟩ | ⟨_, k⟩
    · exact ⟨k.1, by omega⟩
    · cases k
    · cases k
theorem GI.gap (h : GI W H M C p n ls [] [] X0) (hp : p < W * H) {q : Nat} (hq : q < W * H) : IsGap W H M C p q (ls.getD q (-1)) := by
  rcases Int.lt_or_le (ls.getD q (-1)) 0 with z | z
  · left
    have := h.neg q hq
    exact ⟨by omega, fun n hg => by have := h.fin hp hg; omega⟩
  · right
    obtain ⟨d, hd,_, hg⟩ := h.set q hq z
    exact ⟨d, hd, hg, fun m hm => by have := h.fin hp hm; omega⟩
end
end Go.Cell

namespace Go.SL
set_option linter.unusedVariables false
open Go.RowKit

/-- What can be a key. -/
structure KeyE {α : Type} (P : Program) (K : TypeId) (kE : α → Value) : Prop where
  inj : ∀ {a b : α}, kE a = kE b → a = b
  chk : ∀ (e : Bool) (n : Nat) (a : α) (w : World), (Instr.checkKey e (n + 2) K (kE a)).run P w = .ok () w
  find : ∀ (n : α) (es : List MapEntry) (w : World), (∀ e, e ∈ es → ∃ m, e.key = kE m) →
    (∃ j e, (Instr.findKey K (kE n) es).run P w = .ok (some (j, e.val)) w ∧ es[j]? = some e ∧ e.key = kE n) ∨ ((Instr.findKey K (kE n) es).run P w = .ok none w ∧ ∀ e, e ∈ es → e.key ≠ kE n)
  bits : ∀ a : α, Instr.sameBits 10000 (kE a) (kE a) = true

section
variable {α δ : Type} {kE : α → Value} {vE : δ → Value}
/-- The entries of a map. -/
structure MapG (kE : α → Value) (vE : δ → Value) (es : List MapEntry) (M : α → Option δ) : Prop where
  ent : ∀ e, e ∈ es → ∃ n v, e.key = kE n ∧ e.val = vE v ∧ M n = some v
  mem : ∀ n v, M n = some v → ∃ e, e ∈ es ∧ e.key = kE n ∧ e.val = vE v
  nod : es.Pairwise fun a b => a.key ≠ b.key
def updG [DecidableEq α] (M : α → Option δ) (n : α) (v : δ) : α → Option δ := fun m => if m = n then some v else M m
def mapR (kE : α → Value) (vE : δ → Value) (b : Nat) (M : α → Option δ) : Res := ⟨fun k => k = b, fun w => ∃ es clock, w.heap[b]? = some (.map es clock) ∧ MapG kE vE es.toList M ∧ Stamps es.toList clock, fun h ⟨es, c, h1, h2⟩ => ⟨es, c, (h b rfl).trans h1, h2⟩⟩
variable {es : List MapEntry} {M : α → Option δ}
theorem mapG_get (hi : ∀ {a b : α}, kE a = kE b → a = b) (h : MapG kE vE es M) {e : MapEntry} {n : α} (he : e ∈ es) (hk : e.key = kE n) : ∃ v, e.val = vE v ∧ M n = some v := by
  obtain ⟨m, v, h1, h2, h3⟩ := h.ent e he
  have : m = n := hi (h1.symm.trans hk)
  subst this
  exact ⟨v, h2, h3⟩
theorem mapG_none (h : MapG kE vE es M) {n : α} (hn : ∀ e, e ∈ es → e.key ≠ kE n) : M n = none := by
  cases q : M n with
  | none => rfl
  | some v => obtain ⟨e, h1, h2,_⟩ := h.mem n v q; exact absurd h2 (hn e h1)
theorem mapG_nil : MapG kE vE [] (fun _ => none) := ⟨fun _ h => (by cases h), fun _ _ h => (by cases h), List.Pairwise.nil⟩
variable [DecidableEq α]
theorem mapG_push (h : MapG kE vE es M) {n : α} {v : δ} {c : Nat} (hn : ∀ e, e ∈ es → e.key ≠ kE n) : MapG kE vE (es ++ [⟨kE n, vE v, c⟩]) (updG M n v) := by
  refine ⟨fun e he => ?_, fun m u hm => ?_, ?_⟩
  · rcases List.mem_append.1 he with q | q
    · obtain ⟨m, u, h1, h2, h3⟩ := h.ent e q
      refine ⟨m, u, h1, h2, ?_⟩
      unfold updG
      rw [if_neg (fun z => hn e q (by rw [h1, z]))]; exact h3
    · have := List.mem_singleton.1 q; subst this
      exact ⟨n, v, rfl, rfl, if_pos rfl⟩
  · unfold updG at hm
    split at hm
    · rename_i q; cases hm; subst q; exact ⟨_, List.mem_append_right _ (List.mem_singleton.2 rfl), rfl, rfl⟩
    · obtain ⟨e, h1, h2, h3⟩ := h.mem m u hm; exact ⟨e, List.mem_append_left _ h1, h2, h3⟩
  · rw [List.pairwise_append]
    refine ⟨h.nod, by simp, fun a ha b hb => ?_⟩
    have := List.mem_singleton.1 hb; subst this
    exact hn a ha
theorem mapG_set (hinj : ∀ {a b : α}, kE a = kE b → a = b) (h : MapG kE vE es M) {j : Nat} {e : MapEntry} {n : α} {v : δ} (hj : es[j]? = some e) (hk : e.key = kE n) : MapG kE vE (es.set j ⟨kE n, vE v, e.born⟩) (updG M n v) := by
  have hjl := (List.getElem?_eq_some_iff.1 hj).1
  have hje := (List.getElem?_eq_some_iff.1 hj).2
  have hkey : ∀ i (h1 : i < (es.set j ⟨kE n, vE v, e.born⟩).length) (h2 : i < es.length), (es.set j ⟨kE n, vE v, e.born⟩)[i].key = es[i].key := fun i h1 h2 => by
    rw [List.getElem_set]
    split
    · rename_i q; subst q; rw [hje, hk]
    · rfl
  have hne : ∀ i, i < es.length → (hi : i < es.length) → i ≠ j → es[i].key ≠ kE n := fun i _ hi hij z => by
    have pw := List.pairwise_iff_getElem.1 h.nod
    rcases Nat.lt_or_gt_of_ne hij with q | q
    · exact pw i j hi hjl q (by rw [z, hje, hk])
    · exact pw j i hjl hi q (by rw [z, hje, hk])
  refine ⟨fun x hx => ?_, fun m u hm => ?_, ?_⟩
  · obtain ⟨i, hi, rfl⟩ := List.getElem_of_mem hx
    have hi2 : i < es.length := by simpa using hi
    by_cases q : j = i
    · subst q
      rw [List.getElem_set_self]
      exact ⟨n, v, rfl, rfl, if_pos rfl⟩
    · rw [List.getElem_set_ne q]
      obtain ⟨m, u, h1, h2, h3⟩ := h.ent _ (List.getElem_mem hi2)
      refine ⟨m, u, h1, h2, ?_⟩
      unfold updG
      rw [if_neg (fun z => hne i hi2 hi2 (fun y => q y.symm) (by rw [h1, z]))]; exact h3
  · unfold updG at hm
    split at hm
    · rename_i q; cases hm; subst q
      exact ⟨_, List.mem_of_getElem? (i := j) (by rw [List.getElem?_set_self hjl]), rfl, rfl⟩
    · rename_i q
      obtain ⟨x, h1, h2, h3⟩ := h.mem m u hm
      obtain ⟨i, hi, rfl⟩ := List.getElem_of_mem h1
      have hij : j ≠ i := fun z => by subst z; rw [hje, hk] at h2; exact q (hinj h2).symm
      exact ⟨_, List.mem_of_getElem? (i := i) (by rw [List.getElem?_set_ne hij, List.getElem?_eq_getElem hi]), h2, h3⟩
  · rw [List.pairwise_iff_getElem]
    intro a b ha hb hab
    rw [hkey a ha (by simpa using ha), hkey b hb (by simpa using hb)]
    exact List.pairwise_iff_getElem.1 h.nod a b _ _ hab
/-- How many entries there are. -/
theorem mapG_size {α : Type} {kE : α → Value} {M : α → Option δ} (hinj : ∀ {a b : α}, kE a = kE b → a = b) (h : MapG kE vE es M) {ks : List α} (hn : ks.Nodup) (hk : ∀ a, a ∈ ks ↔ (M a).isSome = true) : es.length = ks.length := by
  have h1 : (es.map (·.key)).Nodup := by rw [List.nodup_iff_pairwise_ne, List.pairwise_map]; exact h.nod
  have h2 : (ks.map kE).Nodup := by
    rw [List.nodup_iff_pairwise_ne, List.pairwise_map]
    exact (List.nodup_iff_pairwise_ne.1 hn).imp fun {a b} q z => q (hinj z)
  have h3 : ∀ x, x ∈ es.map (·.key) ↔ x ∈ ks.map kE := fun x => by
    constructor
    · intro hx
      obtain ⟨e, he, rfl⟩ := List.mem_map.1 hx
      obtain ⟨n, v, g1,_, g3⟩ := h.ent e he
      exact List.mem_map.2 ⟨n, (hk n).2 (by rw [g3]; rfl), g1.symm⟩
    · intro hx
      obtain ⟨n, hn, rfl⟩ := List.mem_map.1 hx
      obtain ⟨v, hv⟩ := Option.isSome_iff_exists.1 ((hk n).1 hn)
      obtain ⟨e, g1, g2,_⟩ := h.mem n v hv
      exact List.mem_map.2 ⟨e, g1, g2⟩
  have a1 := List.Nodup.length_le_of_subset h1 (fun x hx => (h3 x).1 hx)
  have a2 := List.Nodup.length_le_of_subset h2 (fun x hx => (h3 x).2 hx)
  simp only [List.length_map] at a1 a2
  omega
end

section
variable {P : Program} {ro : Option Nat} {β : Bs} {N : Nat} {ds : List Deferred} {env : Env} {L : List Res} {Q : Exit → Act → World → Prop}
variable {d : Option Nat} {ty : TypeId} {pos : String} {aft : Array Edge} {g : Option (Nat × Bool)}
variable {α δ : Type} {kE : α → Value} {vE : δ → Value}
def IsMapG (P : Program) (T : Nat) (kE : α → Value) (vE : δ → Value) (d0 : δ) : Prop := ∃ K E, P.underlying T = some (.map K E) ∧ KeyE P K kE ∧ ZeroOf P E (vE d0)
theorem run_lookup_g {T b : Nat} {M : α → Option δ} {d0 : δ} {n : α} {w : World} (c : Bool) (hT : IsMapG P T kE vE d0) (hb : (mapR kE vE b M).inv w) : (Instr.lookup T (.map (some b)) (kE n) c).run P w = .ok (if c then .tuple #[vE ((M n).getD d0), .bool (M n).isSome] else vE ((M n).getD d0)) w := by
  obtain ⟨K, E, hu, hK, hz⟩ := hT
  obtain ⟨es, clock, hb, hs,_⟩ := hb
  have hobj : (getObj b).run P w = .ok (.map es clock) w := by simp [getObj, Sem.run, hb]
  simp only [Instr.lookup, Sem.run_bind, run_underlying hu, Result.andThen_ok, hobj, Sem.run_pure, hK.chk]
  rcases hK.find n es.toList w (fun e he => by obtain ⟨m,_, h1,_⟩ := hs.ent e he; exact ⟨m, h1⟩) with ⟨j, e, h1, h3, h4⟩ | ⟨h1, h2⟩
  · rw [h1]
    obtain ⟨v, g1, g2⟩ := mapG_get hK.inj hs (List.mem_of_getElem? h3) h4
    cases c <;> simp [g1, g2]
  · rw [h1, mapG_none hs h2]
    cases c <;> simp [run_zero hz]
theorem LO.lkG {x y : Operand} {T b : Nat} {M : α → Option δ} {d0 : δ} {n : α} (hT : IsMapG P T kE vE d0) (hx : OV env x (.map (some b))) (hy : OV env y (kE n)) (hi : ∀ w, St β L w → (mapR kE vE b M).inv w) : LO P β env L ⟨d, .lookup T x y true, ty, pos, aft, g⟩ (.tuple #[vE ((M n).getD d0), .bool (M n).isSome]) :=
  .of_run fun a w h hw => ⟨w, by
    have := run_lookup_g (n := n) true hT (hi w hw)
    simp only [if_true] at this
    simp [execOp, h x (by simp [Op.operands]) _ hx, h y (by simp [Op.operands]) _ hy, this], hw⟩
theorem LO.lkG1 {x y : Operand} {T b : Nat} {M : α → Option δ} {d0 : δ} {n : α} (hT : IsMapG P T kE vE d0) (hx : OV env x (.map (some b))) (hy : OV env y (kE n)) (hi : ∀ w, St β L w → (mapR kE vE b M).inv w) : LO P β env L ⟨d, .lookup T x y false, ty, pos, aft, g⟩ (vE ((M n).getD d0)) :=
  .of_run fun a w h hw => ⟨w, by
    have := run_lookup_g (n := n) false hT (hi w hw)
    simp only [Bool.false_eq_true, if_false] at this
    simp [execOp, h x (by simp [Op.operands]) _ hx, h y (by simp [Op.operands]) _ hy, this], hw⟩
section
variable {K : Value → List Res → Prop} {dd : Option Nat}
theorem HO.mkmapG {T : Nat} (kE : α → Value) (vE : δ → Value) (k : ∀ b, K (.map (some b)) (mapR kE vE b (fun _ => none) :: L)) : HO P β env L ⟨dd, .makeMap T none, ty, pos, aft, none⟩ K := by
  intro a w h hw
  refine .inl ⟨_, w.alloc (.map #[] 0),_,_, ?_, .inl rfl, k w.heap.size, ?_⟩
  · simp only [execOp]
    rfl
  · have h1 := hw.alloc (.map #[] 0)
    have := h1.conv 0 (r' := mapR kE vE w.heap.size (fun _ => none)) rfl (fun k hk => hk) ⟨#[], 0, h1.inv 0 _ rfl, mapG_nil, by simp, by simp⟩
    simpa using this
variable [DecidableEq α]
theorem HO.mupG (i : Nat) (LF : Res → List Res) {x y z : Operand} {T b : Nat} {M : α → Option δ} {d0 : δ} (n : α) (v : δ) (hT : IsMapG P T kE vE d0) (hx : OV env x (.map (some b))) (hy : OV env y (kE n)) (hz : OV env z (vE v)) (hi : L[i]? = some (mapR kE vE b M)) (hL : ∀ R : Res, L.set i R = LF R)
    (k : K undef (LF (mapR kE vE b (updG M n v)))) : HO P β env L ⟨dd, .mapUpdate T x y z, ty, pos, aft, none⟩ K := by
  intro a w h hw
  obtain ⟨KT, E, hu, hK,_⟩ := hT
  obtain ⟨es, clock, hb, hs, hst⟩ := hw.inv i _ hi
  have hlt : i < L.length := by
    rcases Nat.lt_or_ge i L.length with q | q
    · exact q
    · simp [List.getElem?_eq_none q] at hi
  have hobj : (getObj b).run P w = .ok (.map es clock) w := by simp [getObj, Sem.run, hb]
  have hset : ∀ o, (setObj b o).run P w = .ok () (w.putObj b o) := fun o => by simp [setObj, Sem.run, hb, World.putObj]
  have ex : a.eval x = .map (some b) := by obtain ⟨u, hu, e⟩ := hx; subst e; exact h x (by simp [Op.operands]) _ hu
  have ey : a.eval y = kE n := by obtain ⟨u, hu, e⟩ := hy; subst e; exact h y (by simp [Op.operands]) _ hu
  have ez : a.eval z = vE v := by obtain ⟨u, hu, e⟩ := hz; subst e; exact h z (by simp [Op.operands]) _ hu
  have h1 : St β (L.set i (blk b (.map es clock))) w := hw.conv i hi (fun k hk => hk) hb
  have upd : ∀ es' clock', MapG kE vE es'.toList (updG M n v) → Stamps es'.toList clock' → St β (L.set i (mapR kE vE b (updG M n v))) (w.putObj b (.map es' clock')) := by
    intro es' clock' hse hst'
    have hg : (L.set i (blk b (.map es clock)))[i]? = some (blk b (.map es clock)) := by simp [hlt]
    have h2 := h1.obj (o' := .map es' clock') i hg
    rw [List.set_set] at h2
    have hg2 : (L.set i (blk b (.map es' clock')))[i]? = some (blk b (.map es' clock')) := by simp [hlt]
    have h3 := h2.conv i (r' := mapR kE vE b (updG M n v)) hg2 (fun k hk => hk) ⟨es', clock', h2.inv i _ hg2, hse, hst'⟩
    rwa [List.set_set] at h3
  rcases hK.find n es.toList w (fun e he => by obtain ⟨m,_, h1,_⟩ := hs.ent e he; exact ⟨m, h1⟩) with ⟨j, e, h1, h3, h4⟩ | ⟨h1, h2⟩
  · have hj : es[j]? = some e := by simpa using h3
    refine .inl ⟨.skip, w.putObj b (.map (es.modify j fun e => { e with key := kE n, val := vE v }) clock), undef,_, ?_, .inr ⟨rfl, rfl⟩, k, by rw [← hL]; exact upd _ _ (by rw [modify_set h3]; exact mapG_set hK.inj hs h3 h4) (by rw [modify_set h3]; exact stamps_set hst h3)⟩
    simp only [execOp, ex, ey, ez, Sem.run_bind, Sem.run_pure]
    refine skip_of ?_
    simp only [Instr.mapUpdate, Sem.run_bind, run_underlying hu, Result.andThen_ok, hobj, hK.chk]
    rw [h1]
    simp [hj, h4, Instr.keyThatStays, hK.bits]
    exact hset _
  · refine .inl ⟨.skip, w.putObj b (.map (es.push { key := kE n, val := vE v, born := clock }) (clock + 1)), undef,_, ?_, .inr ⟨rfl, rfl⟩, k, by rw [← hL]; exact upd _ _ (by rw [Array.toList_push]; exact mapG_push hs h2) (by rw [Array.toList_push]; exact stamps_push hst)⟩
    simp only [execOp, ex, ey, ez, Sem.run_bind, Sem.run_pure]
    refine skip_of ?_
    simp only [Instr.mapUpdate, Sem.run_bind, run_underlying hu, Result.andThen_ok, hobj, hK.chk]
    rw [h1]
    exact hset _
end
end

/-! ### Keys -/
section
variable {P : Program}
theorem key_int {K : TypeId} (hK : P.underlying K = some (.int .i64)) : KeyE P K intV where
  inj := intV_inj
  chk := fun e n a w => checkKey_int hK e (n + 1) _ w
  find := fun n es w h => by
    simp only [Instr.findKey, Sem.run_bind, run_underlying hK, Result.andThen_ok]
    rcases findNow_int (k := .i64) (n := n) (es := es) 0 h with ⟨j, e, h1, h2, h3, h4⟩ | ⟨h1, h2⟩
    · rw [h1]; exact .inl ⟨j, e, rfl, by simpa using h3, h4⟩
    · rw [h1]; exact .inr ⟨rfl, h2⟩
  bits := fun a => by simp [Instr.sameBits, intV]
/-- A field of one cell. -/
structure Cell1 {γ : Type} [DecidableEq γ] (P : Program) (T : TypeId) (c : γ → Value) : Prop where
  inj : ∀ {a b : γ}, c a = c b → a = b
  chk : ∀ (e : Bool) (n : Nat) (a : γ) (w : World), (Instr.checkKey e (n + 1) T (c a)).run P w = .ok () w
  eql : ∀ (d : Nat) (a b : γ) (w : World), (Op.equalIn (d + 1) T (c a) (c b)).run P w = .ok (decide (a = b)) w
  one : IsOne P T
  bits : ∀ (n : Nat) (a : γ), Instr.sameBits n (c a) (c a) = true
theorem cell1_int {T : TypeId} (hT : P.underlying T = some (.int .i64)) (h1 : IsOne P T) : Cell1 P T intV where
  inj := intV_inj
  chk := fun e n a w => checkKey_int hT e n _ w
  eql := fun d a b w => by rw [intV, intV, run_equalIn_int w d T .i64 .i64 a b hT]; rfl
  one := h1
  bits := fun n a => by cases n <;> simp [Instr.sameBits, intV]
theorem cell1_bool {T : TypeId} (hT : P.underlying T = some .bool) (h1 : IsOne P T) : Cell1 P T Value.bool where
  inj := fun h => by simpa using h
  chk := fun e n a w => by simp [Instr.checkKey, run_underlying hT]
  eql := fun d a b w => by
    simp only [Op.equalIn, Sem.run_bind, run_underlying hT, Result.andThen_ok, Sem.run_pure]
    cases a <;> cases b <;> rfl
  one := h1
  bits := fun n a => by cases n <;> simp [Instr.sameBits]
def IsS2 (P : Program) (K T0 T1 : TypeId) : Prop := ∃ F0 F1 : Field, P.underlying K = some (.struct #[F0, F1]) ∧ F0.name ≠ "_" ∧ F1.name ≠ "_" ∧ F0.offset = 0 ∧ F1.offset = 1 ∧ F0.type = T0 ∧ F1.type = T1 ∧ P.stoodInHeld K = false
variable {γ0 γ1 : Type} [DecidableEq γ0] [DecidableEq γ1] {c0 : γ0 → Value} {c1 : γ1 → Value} {K T0 T1 : TypeId}
abbrev pairV (c0 : γ0 → Value) (c1 : γ1 → Value) (x : γ0 × γ1) : Value := .agg #[c0 x.1, c1 x.2]
theorem part_one {T : TypeId} (h : IsOne P T) {cs : Array Value} {o : Nat} {v : Value} (hv : cs[o]? = some v) (w : World) : (part T cs o).run P w = .ok v w := by
  simp [part, run_isOne h, hv]
theorem pairV_eq (h0 : Cell1 P T0 c0) (h1 : Cell1 P T1 c1) (hK : IsS2 P K T0 T1) (x y : γ0 × γ1) (d : Nat) (w : World) : (Op.equalIn (d + 2) K (pairV c0 c1 x) (pairV c0 c1 y)).run P w = .ok (decide (x = y)) w := by
  obtain ⟨F0, F1, hu, n0, n1, o0, o1, t0, t1, hs⟩ := hK
  have hfs : P.fieldsOf K = #[F0, F1] := by simp [Program.fieldsOf, hu]
  rw [pairV, pairV, run_equalIn_struct w (d + 1) K _ _ (by rw [hfs]; exact hu) hs, hfs]
  simp only [Op.eqFields, n0, n1, ne_eq, not_false_eq_true, if_true, Sem.run_bind, o0, o1, t0, t1]
  rw [part_one h0.one (v := c0 x.1) rfl, Result.andThen_ok, part_one h0.one (v := c0 y.1) rfl, Result.andThen_ok, h0.eql, Result.andThen_ok]
  obtain ⟨x0, x1⟩ := x
  obtain ⟨y0, y1⟩ := y
  by_cases e0 : x0 = y0
  · subst e0
    simp only [decide_true, Bool.not_true, Bool.false_eq_true, if_false, Sem.run_bind]
    rw [part_one h1.one (v := c1 x1) rfl, Result.andThen_ok, part_one h1.one (v := c1 y1) rfl, Result.andThen_ok, h1.eql, Result.andThen_ok]
    by_cases e1 : x1 = y1
    · subst e1; simp
    · simp [e1]
  · simp [e0]
theorem findNow_struct {fs : Array Field} {k : Value} {es : List MapEntry} {i : Nat} : Instr.findNow (.struct fs) k es i = if es = [] then some none else none := by
  cases es with
  | nil => rfl
  | cons e es => simp [Instr.findNow, Instr.sameNow]
theorem findAsking_run {α : Type} [DecidableEq α] {kE : α → Value} (hinj : ∀ {a b : α}, kE a = kE b → a = b) (heq : ∀ (a b : α) (w : World), (Op.equal K (kE a) (kE b)).run P w = .ok (decide (a = b)) w) (n : α) (w : World) : ∀ (es : List MapEntry) (i : Nat), (∀ e, e ∈ es → ∃ m, e.key = kE m) →
    (∃ j e, (Instr.findAsking K (kE n) es i).run P w = .ok (some (j, e.val)) w ∧ i ≤ j ∧ es[j - i]? = some e ∧ e.key = kE n) ∨ ((Instr.findAsking K (kE n) es i).run P w = .ok none w ∧ ∀ e, e ∈ es → e.key ≠ kE n)
  | [], i,_ => .inr ⟨rfl, by simp⟩
  | e :: es, i, h => by
    obtain ⟨m, hm⟩ := h e (by simp)
    simp only [Instr.findAsking, Sem.run_bind, hm, heq, Result.andThen_ok]
    by_cases q : n = m
    · subst q
      left
      exact ⟨i, e, by simp, Nat.le_refl _, by simp, hm⟩
    · simp only [q, decide_false, Bool.false_eq_true, if_false]
      rcases findAsking_run hinj heq n w es (i + 1) (fun e' he => h e' (by simp [he])) with ⟨j, e', h1, h2, h3, h4⟩ | ⟨h1, h2⟩
      · left
        refine ⟨j, e', h1, by omega, ?_, h4⟩
        rw [show j - i = (j - (i + 1)) + 1 by omega]
        simpa using h3
      · right
        refine ⟨h1, fun e' he' => ?_⟩
        rcases List.mem_cons.1 he' with rfl | he'
        · rw [hm]; exact fun z => q (hinj z).symm
        · exact h2 e' he'
theorem key_pair (h0 : Cell1 P T0 c0) (h1 : Cell1 P T1 c1) (hK : IsS2 P K T0 T1) : KeyE P K (pairV c0 c1) where
  inj := fun {a b} h => by
    have e := Array.toList_inj.2 (Value.agg.inj h)
    simp at e
    exact Prod.ext (h0.inj e.1) (h1.inj e.2)
  chk := fun e n x w => by
    obtain ⟨F0, F1, hu, n0, n1, o0, o1, t0, t1, hs⟩ := hK
    unfold Instr.checkKey
    simp only [Sem.run_bind, run_underlying hu, Result.andThen_ok]
    rw [← Array.forIn_toList]
    simp only [List.forIn_cons, List.forIn_nil, n0, n1, ne_eq, not_false_eq_true, if_true, Sem.run_bind, o0, o1, t0, t1]
    rw [part_one h0.one (v := c0 x.1) rfl, Result.andThen_ok, h0.chk]
    simp only [Result.andThen_ok, Sem.run_pure, Sem.run_bind]
    rw [part_one h1.one (v := c1 x.2) rfl, Result.andThen_ok, h1.chk]
    rfl
  find := fun n es w h => by
    have hinj : ∀ {a b : γ0 × γ1}, pairV c0 c1 a = pairV c0 c1 b → a = b := fun {a b} h => by
      have e := Array.toList_inj.2 (Value.agg.inj h)
      simp at e
      exact Prod.ext (h0.inj e.1) (h1.inj e.2)
    have heq : ∀ (a b : γ0 × γ1) (w : World), (Op.equal K (pairV c0 c1 a) (pairV c0 c1 b)).run P w = .ok (decide (a = b)) w := fun a b w => pairV_eq h0 h1 hK a b 9998 w
    obtain ⟨F0, F1, hu,_⟩ := hK
    simp only [Instr.findKey, Sem.run_bind, run_underlying hu, Result.andThen_ok, findNow_struct]
    by_cases q : es = []
    · subst q; exact .inr ⟨rfl, by simp⟩
    · rw [if_neg q]
      rcases findAsking_run hinj heq n w es 0 h with ⟨j, e, h1, h2, h3, h4⟩ | ⟨h1, h2⟩
      · exact .inl ⟨j, e, h1, by simpa using h3, h4⟩
      · exact .inr ⟨h1, h2⟩
  bits := fun x => by simp [Instr.sameBits, h0.bits, h1.bits]
variable {ro : Option Nat} {β : Bs} {env : Env} {L : List Res} {d : Option Nat} {ty : TypeId} {pos : String} {aft : Array Edge} {g : Option (Nat × Bool)}
theorem LO.neP {x y : Operand} {yT : Nat} {a b : γ0 × γ1} (h0 : Cell1 P T0 c0) (h1 : Cell1 P T1 c1) (hK : IsS2 P K T0 T1) (hG : P.eqGuardType P.depth K = false) (hx : OV env x (pairV c0 c1 a)) (hy : OV env y (pairV c0 c1 b)) : LO P β env L ⟨d, .binOp .neq K x y yT, ty, pos, aft, g⟩ (.bool (!decide (a = b))) :=
  .of_run fun ac w h hw => ⟨w, by
    have h2 := pairV_eq h0 h1 hK a b 9998 w
    simp only [execOp, h x (by simp [Op.operands]) _ hx, h y (by simp [Op.operands]) _ hy, Sem.run_bind, run_eqGuard_agg w .neq K x y _ _ hG, Result.andThen_ok, run_neq_struct, h2, Sem.run_pure], hw⟩
end
end Go.SL

namespace Go.Proofs.Ytgemekpofpoopaa
open Go.SL
set_option linter.unusedVariables false

/-! ### Groups -/
section
variable {α : Type} [DecidableEq α]
/-- What stands for what, when each follows another one. -/
structure Frs (M : α → Option α) (ld : α → α) : Prop where
  fix : ∀ x, M (ld x) = none
  stay : ∀ x, M x = none → ld x = x
  go : ∀ x y, M x = some y → ld y = ld x
  rank : ∃ r : α → Nat, ∀ x y, M x = some y → r y < r x
inductive Eqv (J : α → α → Prop) : α → α → Prop
  | refl (x) : Eqv J x x
  | base {x y} : J x y → Eqv J x y
  | symm {x y} : Eqv J x y → Eqv J y x
  | trans {x y z} : Eqv J x y → Eqv J y z → Eqv J x z
theorem Eqv.mono {α : Type} {J K : α → α → Prop} (h : ∀ x y, J x y → K x y) {x y : α} (k : Eqv J x y) : Eqv K x y := by
  induction k with
  | refl x => exact .refl x
  | base j => exact .base (h _ _ j)
  | symm _ ih => exact ih.symm
  | trans _ _ i1 i2 => exact i1.trans i2
theorem Frs.nil {α : Type} : Frs (fun _ : α => none) id := ⟨fun _ => rfl, fun _ _ => rfl, fun _ _ h => (by cases h), ⟨fun _ => 0, fun _ _ h => (by cases h)⟩⟩
def joinM (M : α → Option α) (ld : α → α) (x y : α) : α → Option α := if ld x = ld y then M else updG M (ld y) (ld x)
def joinL (ld : α → α) (x y : α) : α → α := fun z => if ld z = ld y then ld x else ld z
theorem Frs.idem {α : Type} {M : α → Option α} {ld : α → α} (h : Frs M ld) (x : α) : ld (ld x) = ld x := h.stay _ (h.fix x)
theorem Frs.join {M : α → Option α} {ld : α → α} (h : Frs M ld) (x y : α) : Frs (joinM M ld x y) (joinL ld x y) := by
  unfold joinM
  split
  · rename_i e
    have : joinL ld x y = ld := by funext z; unfold joinL; split <;> simp_all
    rw [this]; exact h
  · rename_i e
    obtain ⟨r, hr⟩ := h.rank
    have lx := h.idem x
    have ly := h.idem y
    refine ⟨fun z => ?_, fun z hz => ?_, fun z u hz => ?_, ⟨fun z => if ld z = ld y then r z + r (ld x) + 1 else r z, fun z u hz => ?_⟩⟩
    · show updG M (ld y) (ld x) (joinL ld x y z) = none
      unfold joinL
      by_cases q : ld z = ld y
      · rw [if_pos q]; unfold updG; rw [if_neg e]; exact h.fix x
      · rw [if_neg q]; unfold updG; rw [if_neg q]; exact h.fix z
    · unfold updG at hz
      split at hz
      · cases hz
      · rename_i q
        have hs := h.stay z hz
        unfold joinL
        rw [hs, if_neg q]
    · unfold updG at hz
      split at hz
      · rename_i q
        cases hz
        subst q
        unfold joinL
        rw [lx, ly, if_neg e, if_pos rfl]
      · unfold joinL
        rw [h.go z u hz]
    · unfold updG at hz
      dsimp only
      split at hz
      · rename_i q
        cases hz
        subst q
        rw [lx, ly, if_neg e, if_pos rfl]; omega
      · have := hr z u hz
        rw [h.go z u hz]
        split <;> omega
theorem join_eqv {J : α → α → Prop} {ld : α → α} (h : ∀ a b, ld a = ld b ↔ Eqv J a b) (x y : α) (a b : α) : joinL ld x y a = joinL ld x y b ↔ Eqv (fun a b => J a b ∨ (a = x ∧ b = y)) a b := by
  have up : ∀ {a b}, ld a = ld b → Eqv (fun a b => J a b ∨ (a = x ∧ b = y)) a b := fun e => ((h _ _).1 e).mono fun _ _ j => .inl j
  have xy : Eqv (fun a b => J a b ∨ (a = x ∧ b = y)) x y := .base (.inr ⟨rfl, rfl⟩)
  constructor
  · unfold joinL
    intro e
    split at e
    · rename_i ha
      split at e
      · rename_i hb; exact up (ha.trans hb.symm)
      · exact (up ha).trans (xy.symm.trans (up e))
    · rename_i ha
      split at e
      · rename_i hb; exact (up e).trans (xy.trans (up hb).symm)
      · exact up e
  · intro k
    induction k with
    | refl x => rfl
    | base j =>
      rcases j with j | ⟨rfl, rfl⟩
      · unfold joinL; rw [(h _ _).2 (.base j)]
      · unfold joinL; rw [if_pos rfl]; split <;> rfl
    | symm _ ih => exact ih.symm
    | trans _ _ i1 i2 => exact i1.trans i2
end

theorem modify_ne {α : Type} {l : List α} {i j : Nat} {f : α → α} (h : i ≠ j) : (l.modify i f)[j]? = l[j]? := by simp [List.getElem?_modify, h]
/-! ### Events -/
structure EvM where
  kd : Int
  f : List Nat
  t : List Nat
def kindM (a b : Nat) : Int := if a = 0 then 2 else if b = 0 then 3 else if a = 1 then (if b = 1 then 4 else 5) else if b = 1 then 6 else 7
section
variable {α : Type} [DecidableEq α] {κ : Nat → α} {n t : Nat}
def isFirst (κ : Nat → α) (k : Nat) : Bool := decide (∀ j, j < k → κ j ≠ κ k)
def firsts (κ : Nat → α) (t : Nat) : List Nat := (List.range t).filter (isFirst κ)
def evF (κ : Nat → α) (n t k : Nat) : EvM := ⟨0, (List.range (min t n)).filter (fun i => decide (κ i = κ k)), (List.range (t - n)).filter (fun j => decide (κ (n + j) = κ k))⟩
def evT (κ : Nat → α) (n t : Nat) : List EvM := (firsts κ t).map (evF κ n t)
def addEv (n t : Nat) (e : EvM) : EvM := if t < n then { e with f := e.f ++ [t] } else { e with t := e.t ++ [t - n] }
theorem mem_firsts {k : Nat} : k ∈ firsts κ t ↔ k < t ∧ ∀ j, j < k → κ j ≠ κ k := by unfold firsts isFirst; rw [List.mem_filter, List.mem_range, decide_eq_true_eq]
theorem firsts_nodup : (firsts κ t).Nodup := List.Pairwise.filter _ List.nodup_range
theorem firsts_eq {i j : Nat} (hi : i ∈ firsts κ t) (hj : j ∈ firsts κ t) (e : κ i = κ j) : i = j := by
  have a := (mem_firsts.1 hi).2
  have b := (mem_firsts.1 hj).2
  rcases Nat.lt_trichotomy i j with q | q | q
  · exact absurd e (b i q)
  · exact q
  · exact absurd e.symm (a j q)
theorem firsts_succ : firsts κ (t + 1) = firsts κ t ++ if isFirst κ t then [t] else [] := by
  unfold firsts; rw [List.range_succ, List.filter_append]
  congr 1
  by_cases h : isFirst κ t = true
  · simp [h]
  · simp [h]
theorem first_of (κ : Nat → α) : ∀ k, ∃ j, j ≤ k ∧ κ j = κ k ∧ isFirst κ j = true := fun k => by
  induction k using Nat.strongRecOn with
  | _ k ih =>
    by_cases h : isFirst κ k = true
    · exact ⟨k, Nat.le_refl _, rfl, h⟩
    · unfold isFirst at h
      rw [decide_eq_true_eq] at h
      obtain ⟨j, hj⟩ := Classical.not_forall.1 h
      have hj2 : j < k ∧ κ j = κ k := by
        by_cases q : j < k
        · exact ⟨q, Classical.not_not.1 (fun z => hj (fun _ => z))⟩
        · exact absurd (fun z => absurd z q) hj
      obtain ⟨i, h1, h2, h3⟩ := ih j hj2.1
      exact ⟨i, by omega, h2.trans hj2.2, h3⟩
theorem evF_succ {k : Nat} : evF κ n (t + 1) k = if κ t = κ k then addEv n t (evF κ n t k) else evF κ n t k := by
  unfold evF addEv
  by_cases h : t < n
  · rw [show min (t + 1) n = min t n + 1 by omega, List.range_succ, List.filter_append, show min t n = t by omega, show t + 1 - n = t - n by omega]
    by_cases e : κ t = κ k
    · rw [if_pos e, if_pos h]; simp [e]
    · rw [if_neg e]; simp [e]
  · rw [show min (t + 1) n = min t n by omega, show t + 1 - n = (t - n) + 1 by omega, List.range_succ, List.filter_append]
    have : n + (t - n) = t := by omega
    by_cases e : κ t = κ k
    · rw [if_pos e, if_neg h]; simp [this, e]
    · rw [if_neg e]; simp [this, e]
/-- An area that belongs to an event. -/
theorem evT_old {p k0 : Nat} (hp : (firsts κ t)[p]? = some k0) (he : κ k0 = κ t) : firsts κ (t + 1) = firsts κ t ∧ evT κ n (t + 1) = (evT κ n t).modify p (addEv n t) := by
  have hk0 := List.mem_of_getElem? hp
  have h1 : firsts κ (t + 1) = firsts κ t := by
    have : ¬ isFirst κ t = true := fun h => by
      unfold isFirst at h; rw [decide_eq_true_eq] at h
      exact h k0 (mem_firsts.1 hk0).1 he
    rw [firsts_succ, if_neg this, List.append_nil]
  refine ⟨h1, ?_⟩
  unfold evT
  rw [h1]
  refine List.ext_getElem? fun i => ?_
  rw [List.getElem?_map]
  by_cases q : i = p
  · subst q
    rw [List.getElem?_modify_eq, List.getElem?_map, hp]
    simp only [Option.map_some]
    rw [evF_succ, if_pos he.symm]; rfl
  · rw [modify_ne (fun z => q z.symm), List.getElem?_map]
    cases hi : (firsts κ t)[i]? with
    | none => rfl
    | some k =>
      simp only [Option.map_some]
      rw [evF_succ, if_neg]
      intro e
      have : k = k0 := firsts_eq (List.mem_of_getElem? hi) hk0 (e.symm.trans he.symm)
      subst this
      exact q ((List.getElem?_inj (List.getElem?_eq_some_iff.1 hi).1 firsts_nodup).1 (hi.trans hp.symm))
/-- An area with which an event begins. -/
theorem evT_new (h : ∀ j, j < t → κ j ≠ κ t) : firsts κ (t + 1) = firsts κ t ++ [t] ∧ evT κ n (t + 1) = evT κ n t ++ [addEv n t ⟨0, [], []⟩] := by
  have h1 : firsts κ (t + 1) = firsts κ t ++ [t] := by
    have : isFirst κ t = true := decide_eq_true h
    rw [firsts_succ, if_pos this]
  refine ⟨h1, ?_⟩
  unfold evT
  rw [h1, List.map_append]
  congr 1
  · refine List.map_congr_left fun k hk => ?_
    rw [evF_succ, if_neg fun e => h k (mem_firsts.1 hk).1 e.symm]
  · rw [List.map_singleton, evF_succ, if_pos rfl]
    congr 2
    unfold evF
    congr 1
    · exact List.filter_eq_nil_iff.2 fun i hi => by have := List.mem_range.1 hi; simpa using h i (by omega)
    · exact List.filter_eq_nil_iff.2 fun i hi => by have := List.mem_range.1 hi; simpa using h (n + i) (by omega)
/-- What is known of an index of the groups by what stands for them. -/
structure KI (κ : Nat → α) (n t : Nat) (A : α → Option Nat) (l : List EvM) : Prop where
  l : l = evT κ n t
  ix : ∀ q p, A q = some p → ∃ k, (firsts κ t)[p]? = some k ∧ κ k = q
  has : ∀ j, j < t → (A (κ j)).isSome = true
theorem KI.zero : KI κ n 0 (fun _ => none) [] := ⟨rfl, fun _ _ h => (by cases h), fun j h => absurd h (Nat.not_lt_zero _)⟩
theorem KI.lt {A : α → Option Nat} {l : List EvM} (h : KI κ n t A l) {q : α} {p : Nat} (hp : A q = some p) : p < l.length := by
  obtain ⟨k, h1,_⟩ := h.ix q p hp
  rw [h.l]; unfold evT; rw [List.length_map]
  exact (List.getElem?_eq_some_iff.1 h1).1
def findA (A : α → Option Nat) (q : α) (len : Nat) : α → Option Nat := if (A q).isSome = true then A else updG A q len
def findK (A : α → Option Nat) (q : α) (len : Nat) : Nat := (A q).getD len
theorem KI.step {A : α → Option Nat} {l : List EvM} (h : KI κ n t A l) : KI κ n (t + 1) (findA A (κ t) l.length) ((if (A (κ t)).isSome = true then l else l ++ [⟨0, [], []⟩]).modify (findK A (κ t) l.length) (addEv n t)) := by
  unfold findA findK
  cases hA : A (κ t) with
  | some p =>
    obtain ⟨k0, h1, h2⟩ := h.ix _ _ hA
    obtain ⟨g1, g2⟩ := evT_old (n := n) h1 h2
    simp only [Option.isSome_some, if_true, Option.getD_some]
    refine ⟨by rw [g2, ← h.l], fun q p hq => by rw [g1]; exact h.ix q p hq, fun j hj => ?_⟩
    rcases Nat.lt_succ_iff_lt_or_eq.1 hj with q | rfl
    · exact h.has j q
    · rw [hA]; rfl
  | none =>
    have hn : ∀ j, j < t → κ j ≠ κ t := fun j hj e => by
      have := h.has j hj
      rw [e, hA] at this
      cases this
    obtain ⟨g1, g2⟩ := evT_new (n := n) hn
    have hl : l.length = (firsts κ t).length := by rw [h.l]; unfold evT; rw [List.length_map]
    simp only [Option.isSome_none, Bool.false_eq_true, if_false, Option.getD_none]
    refine ⟨?_, fun q p hq => ?_, fun j hj => ?_⟩
    · rw [g2, ← h.l]
      refine List.ext_getElem? fun i => ?_
      by_cases q : i = l.length
      · subst q
        rw [List.getElem?_modify_eq, List.getElem?_append_right (Nat.le_refl _), List.getElem?_append_right (Nat.le_refl _), Nat.sub_self]; rfl
      · rw [modify_ne (fun z => q z.symm)]
        rcases Nat.lt_or_ge i l.length with z | z
        · rw [List.getElem?_append_left z, List.getElem?_append_left z]
        · rw [List.getElem?_eq_none (by simp; omega), List.getElem?_eq_none (by simp; omega)]
    · rw [g1]
      unfold updG at hq
      split at hq
      · rename_i e
        cases hq; subst e
        exact ⟨t, by rw [hl, List.getElem?_append_right (Nat.le_refl _), Nat.sub_self]; rfl, rfl⟩
      · obtain ⟨k, h1, h2⟩ := h.ix q p hq
        exact ⟨k, by rw [List.getElem?_append_left (List.getElem?_eq_some_iff.1 h1).1]; exact h1, h2⟩
    · unfold updG
      split
      · rfl
      · rename_i e
        rcases Nat.lt_succ_iff_lt_or_eq.1 hj with q | rfl
        · exact h.has j q
        · exact absurd rfl e
/-- The events, when it is known which areas belong together. -/
def evsM (κ : Nat → α) (n m : Nat) : List EvM := (evT κ n (n + m)).map fun e => { e with kd := kindM e.f.length e.t.length }
theorem evsM_congr {β : Type} [DecidableEq β] {κ' : Nat → β} {m : Nat} (h : ∀ i j, i < n + m → j < n + m → (κ i = κ j ↔ κ' i = κ' j)) : evsM κ n m = evsM κ' n m := by
  have hf : firsts κ (n + m) = firsts κ' (n + m) := by
    unfold firsts
    refine List.filter_congr fun k hk => ?_
    have hk := List.mem_range.1 hk
    unfold isFirst
    rw [decide_eq_decide]
    exact ⟨fun g j hj e => g j hj ((h j k (by omega) hk).2 e), fun g j hj e => g j hj ((h j k (by omega) hk).1 e)⟩
  unfold evsM evT
  rw [hf]
  congr 1
  refine List.map_congr_left fun k hk => ?_
  have hk := (mem_firsts.1 hk).1
  unfold evF
  congr 1
  · refine List.filter_congr fun i hi => ?_
    have hi := List.mem_range.1 hi
    rw [decide_eq_decide]; exact h i k (by omega) hk
  · refine List.filter_congr fun i hi => ?_
    have hi := List.mem_range.1 hi
    rw [decide_eq_decide]; exact h (n + i) k (by omega) hk
end
end Go.Proofs.Ytgemekpofpoopaa

namespace Go.Proofs.Ytgemekpofpoopaa
open Go.SL
set_option linter.unusedVariables false

section
variable {W H r : Nat} {oa ob : List Int} {p v u : Nat} {a b : Bool × Int}
/-- Two pixels near each other, of two areas. -/
structure Pr (W H r : Nat) (oa ob : List Int) (p v u : Nat) (a b : Bool × Int) : Prop where
  hp : p < W * H
  hv : v ≤ p / W + r ∧ p / W ≤ v + r ∧ v < H
  hu : u ≤ p % W + r ∧ p % W ≤ u + r ∧ u < W
  ha : a = (false, oa.getD p (-1)) ∧ 0 ≤ oa.getD p (-1)
  hb : b = (true, ob.getD (v * W + u) (-1)) ∧ 0 ≤ ob.getD (v * W + u) (-1)
abbrev Bef (p v u p2 v2 u2 : Nat) : Prop := p < p2 ∨ p = p2 ∧ (v < v2 ∨ v = v2 ∧ u < u2)
structure Jw (W H r : Nat) (oa ob : List Int) (p2 v2 u2 : Nat) (a b : Bool × Int) : Prop where
  ex : ∃ p v u, Bef p v u p2 v2 u2 ∧ Pr W H r oa ob p v u a b
structure Jal (W H r : Nat) (oa ob : List Int) (a b : Bool × Int) : Prop where
  ex : ∃ p v u, Pr W H r oa ob p v u a b
structure GInv (J : Bool × Int → Bool × Int → Prop) (M : Bool × Int → Option (Bool × Int)) : Prop where
  ex : ∃ ld, Frs M ld ∧ ∀ a b, ld a = ld b ↔ Eqv J a b
theorem Eqv.iff {α : Type} [DecidableEq α] {J K : α → α → Prop} (h : ∀ a b, J a b ↔ K a b) {a b : α} : Eqv J a b ↔ Eqv K a b := ⟨fun k => k.mono fun x y => (h x y).1, fun k => k.mono fun x y => (h x y).2⟩
theorem GInv.congr {J K : Bool × Int → Bool × Int → Prop} {M : Bool × Int → Option (Bool × Int)} (g : GInv J M) (h : ∀ a b, J a b ↔ K a b) : GInv K M := by
  obtain ⟨ld, h1, h2⟩ := g.ex
  exact ⟨ld, h1, fun a b => (h2 a b).trans (Eqv.iff h)⟩
theorem GInv.zero : GInv (Jw W H r oa ob 0 0 0) (fun _ => none) := ⟨id, Frs.nil, fun a b => ⟨fun e => by cases e; exact .refl _, fun k => by
  induction k with
  | refl _ => rfl
  | base j => obtain ⟨p, v, u, h,_⟩ := j.ex; omega
  | symm _ ih => exact ih.symm
  | trans _ _ i1 i2 => exact i1.trans i2⟩⟩
theorem Jw.same {p1 v1 u1 p2 v2 u2 : Nat} (h : ∀ p v u a b, Pr W H r oa ob p v u a b → (Bef p v u p1 v1 u1 ↔ Bef p v u p2 v2 u2)) (a b : Bool × Int) : Jw W H r oa ob p1 v1 u1 a b ↔ Jw W H r oa ob p2 v2 u2 a b :=
  ⟨fun ⟨p, v, u, h1, h2⟩ => ⟨p, v, u, (h _ _ _ _ _ h2).1 h1, h2⟩, fun ⟨p, v, u, h1, h2⟩ => ⟨p, v, u, (h _ _ _ _ _ h2).2 h1, h2⟩⟩
variable {M : Bool × Int → Option (Bool × Int)}
theorem GInv.skip (g : GInv (Jw W H r oa ob p 0 0) M) (h : oa.getD p (-1) < 0) : GInv (Jw W H r oa ob (p + 1) 0 0) M := g.congr<|Jw.same fun p' v' u' a b hp => by
  have := hp.ha.2
  have : p' ≠ p := fun e => by subst e; omega
  unfold Bef; omega
theorem GInv.row (g : GInv (Jw W H r oa ob p 0 0) M) : GInv (Jw W H r oa ob p (p / W - r) 0) M := g.congr<|Jw.same fun p' v' u' a b hp => by
  have h1 := hp.hv.2.1
  have : p' = p → p / W - r ≤ v' := fun e => by subst e; omega
  unfold Bef; omega
theorem GInv.col (g : GInv (Jw W H r oa ob p v 0) M) : GInv (Jw W H r oa ob p v (p % W - r)) M := g.congr<|Jw.same fun p' v' u' a b hp => by
  have h1 := hp.hu.2.1
  have : p' = p → p % W - r ≤ u' := fun e => by subst e; omega
  unfold Bef; omega
theorem GInv.colEnd (g : GInv (Jw W H r oa ob p v u) M) (h : W ≤ u ∨ p % W + r < u) : GInv (Jw W H r oa ob p (v + 1) 0) M := g.congr<|Jw.same fun p' v' u' a b hp => by
  have h1 := hp.hu
  have : p' = p → u' < u := fun e => by subst e; omega
  unfold Bef; omega
theorem GInv.rowEnd (g : GInv (Jw W H r oa ob p v 0) M) (h : H ≤ v ∨ p / W + r < v) : GInv (Jw W H r oa ob (p + 1) 0 0) M := g.congr<|Jw.same fun p' v' u' a b hp => by
  have h1 := hp.hv
  have : p' = p → v' < v := fun e => by subst e; omega
  unfold Bef; omega
theorem GInv.all (g : GInv (Jw W H r oa ob (W * H) 0 0) M) : GInv (Jal W H r oa ob) M := g.congr fun a b => ⟨fun ⟨p, v, u,_, h⟩ => ⟨p, v, u, h⟩, fun ⟨p, v, u, h⟩ => ⟨p, v, u, .inl h.hp, h⟩⟩
theorem GInv.none_ (g : GInv (Jw W H r oa ob p v u) M) (h : ob.getD (v * W + u) (-1) < 0) : GInv (Jw W H r oa ob p v (u + 1)) M := g.congr<|Jw.same fun p' v' u' a b hp => by
  have h1 := hp.hb.2
  have : ¬ (p' = p ∧ v' = v ∧ u' = u) := fun e => by obtain ⟨rfl, rfl, rfl⟩ := e; omega
  unfold Bef; omega
theorem GInv.join {ld : Bool × Int → Bool × Int} (h1 : Frs M ld) (h2 : ∀ a b, ld a = ld b ↔ Eqv (Jw W H r oa ob p v u) a b) (hp : p < W * H) (hv : v ≤ p / W + r ∧ p / W ≤ v + r ∧ v < H) (hu : u ≤ p % W + r ∧ p % W ≤ u + r ∧ u < W) (ha : 0 ≤ oa.getD p (-1)) (hb : 0 ≤ ob.getD (v * W + u) (-1)) :
    GInv (Jw W H r oa ob p v (u + 1)) (joinM M ld (false, oa.getD p (-1)) (true, ob.getD (v * W + u) (-1))) := by
  refine ⟨_, h1.join _ _, fun a b => (join_eqv h2 _ _ a b).trans (Eqv.iff fun a b => ?_)⟩
  constructor
  · rintro (⟨p', v', u', k1, k2⟩ | ⟨rfl, rfl⟩)
    · exact ⟨p', v', u', by unfold Bef at *; omega, k2⟩
    · exact ⟨p, v, u, by unfold Bef; omega, hp, hv, hu, ⟨rfl, ha⟩, ⟨rfl, hb⟩⟩
  · rintro ⟨p', v', u', k1, k2⟩
    by_cases e : p' = p ∧ v' = v ∧ u' = u
    · obtain ⟨rfl, rfl, rfl⟩ := e
      exact .inr ⟨k2.ha.1, k2.hb.1⟩
    · exact .inl ⟨p', v', u', by unfold Bef at *; omega, k2⟩
/-- The areas of both maps, by one number. -/
def ndx (n t : Nat) : Bool × Int := if t < n then (false, (t : Int)) else (true, ((t - n : Nat) : Int))
theorem ndx_lt {n t : Nat} (h : t < n) : ndx n t = (false, (t : Int)) := if_pos h
theorem ndx_ge {n t : Nat} : ndx n (n + t) = (true, (t : Int)) := by unfold ndx; rw [if_neg (by omega), show n + t - n = t by omega]
/-- The events are those of what is near. -/
structure EvP (W H r : Nat) (oa ob : List Int) (n m : Nat) (l : List EvM) : Prop where
  ex : ∃ ld : Bool × Int → Bool × Int, (∀ a b, ld a = ld b ↔ Eqv (Jal W H r oa ob) a b) ∧ l = evsM (fun t => ld (ndx n t)) n m
end
end Go.Proofs.Ytgemekpofpoopaa

namespace Go.SL
set_option linter.unusedVariables false
open Go.RowKit
section
variable {P : Program} {β : Bs} {env : Env} {L : List Res} {d : Option Nat} {ty : TypeId} {pos : String} {aft : Array Edge} {g : Option (Nat × Bool)} {T T2 : TypeId} {x y : Operand} {u v : Value} {b : Bool} {E : Nat}
structure NilEq (P : Program) (T : TypeId) (u v : Value) (b : Bool) : Prop where
  h : ∀ w, (Op.equalIn Op.maxDepth T u v).run P w = .ok b w
theorem nilP1 {p : Addr} (hT : ∃ E, P.underlying T = some (.pointer E)) : NilEq P T (.pointer (some p)) (.pointer none) false := ⟨fun w => by
  obtain ⟨E, hE⟩ := hT
  show (Op.equalIn (9999 + 1) T (.pointer (some p)) (.pointer none)).run P w = _
  unfold Op.equalIn
  rw [Sem.run_bind, run_underlying hE]
  rfl⟩
theorem nilM {p : Option Nat} (hT : ∃ K E, P.underlying T = some (.map K E)) : NilEq P T (.map p) (.map none) p.isNone := ⟨fun w => by
  obtain ⟨K, E, hE⟩ := hT
  show (Op.equalIn (9999 + 1) T (.map p) (.map none)).run P w = _
  unfold Op.equalIn
  rw [Sem.run_bind, run_underlying hE]
  cases p <;> rfl⟩
theorem nilS {p : Option Addr} {n c : Nat} (hT : IsSlice P T E) : NilEq P T (.slice p n c) (.slice none 0 0) p.isNone := ⟨fun w => by
  show (Op.equalIn (9999 + 1) T (.slice p n c) (.slice none 0 0)).run P w = _
  unfold Op.equalIn
  rw [Sem.run_bind, run_underlying hT]
  cases p <;> rfl⟩
theorem LO.eqNil {op : BinOp} (hb : ∀ w, (binOp op T u v).run P w = .ok (.bool b) w) (hg : ∀ w, (eqGuard op T x y u v).run P w = .ok () w) (hx : OV env x u) (hy : OV env y v) : LO P β env L ⟨d, .binOp op T x y T2, ty, pos, aft, g⟩ (.bool b) :=
  .of_run fun a w h hw => ⟨w, by
    simp only [execOp, h x (by simp [Op.operands]) _ hx, h y (by simp [Op.operands]) _ hy, Sem.run_bind, Sem.run_pure, Result.andThen_ok, hb, hg], hw⟩
theorem LO.neP1 {p : Addr} (hT : ∃ E, P.underlying T = some (.pointer E)) (hx : OV env x (.pointer (some p))) (hy : OV env y (.pointer none)) : LO P β env L ⟨d, .binOp .neq T x y T2, ty, pos, aft, g⟩ (.bool true) := LO.eqNil (fun w => by simp only [binOp, Op.equal, Sem.run_bind, (nilP1 hT).h, Result.andThen_ok, Sem.run_pure]; rfl) (fun _ => rfl) hx hy
theorem LO.neM {p : Option Nat} (hT : ∃ K E, P.underlying T = some (.map K E)) (hx : OV env x (.map p)) (hy : OV env y (.map none)) : LO P β env L ⟨d, .binOp .neq T x y T2, ty, pos, aft, g⟩ (.bool p.isSome) := LO.eqNil (fun w => by simp only [binOp, Op.equal, Sem.run_bind, (nilM hT).h, Result.andThen_ok, Sem.run_pure]; cases p <;> rfl) (fun _ => rfl) hx hy
theorem LO.eqSl {p : Option Addr} {n c : Nat} (hT : IsSlice P T E) (hx : OV env x (.slice p n c)) (hy : OV env y (.slice none 0 0)) : LO P β env L ⟨d, .binOp .eql T x y T2, ty, pos, aft, g⟩ (.bool p.isNone) := LO.eqNil (fun w => by simp only [binOp, Op.equal, Sem.run_bind, (nilS hT).h, Result.andThen_ok, Sem.run_pure]) (fun _ => rfl) hx hy
theorem LO.lenM {α δ : Type} {kE : α → Value} {vE : δ → Value} {M : α → Option δ} {aT : Array TypeId} {n b : Nat} (hT : ∃ K E, P.underlying T = some (.map K E)) (hx : OV env x (.map (some b))) (ha : aT[0]? = some T) (hi : ∀ w, St β L w → (mapR kE vE b M).inv w) (hinj : ∀ {a b : α}, kE a = kE b → a = b) {ks : List α} (hn : ks.Nodup) (hk : ∀ a, a ∈ ks ↔ (M a).isSome = true) (hl : ks.length = n) : LO P β env L ⟨d, .call ⟨.builtin .len, #[x], aT⟩, ty, pos, aft, g⟩ (.int .i64 n) :=
  .of_run fun a w h hw => ⟨w, by
    obtain ⟨K, E, hE⟩ := hT
    obtain ⟨es, clock, hb, hs,_⟩ := hi w hw
    have hobj : (getObj b).run P w = .ok (.map es clock) w := by simp [getObj, Sem.run, hb]
    have hsz : es.size = n := by rw [← hl, ← mapG_size hinj hs hn hk, Array.length_toList]
    simp [execOp, resolve, invoke, builtin, h x (by simp [Op.operands, Call.operands]) _ hx, Builtin.len_, ha, run_underlying hE, goInt, hobj, hsz], hw⟩
end
theorem St.bagAdd {β : Bs} {L Rs : List Res} {r : Res} {w : World} (h : St β (r :: Go.SL.bagD Rs :: L) w) : St β (Go.SL.bagD (Rs ++ [r]) :: L) w := St.unfocus (A := Rs) (B := []) (by rw [List.append_nil]; exact h)
end Go.SL

namespace Go.Cell
set_option linter.unusedVariables false

section
variable {W H : Nat} {S : Nat → Bool} {ls : List Int} {k p q : Nat}
/-- Two pixels have a side in common. -/
def nearB (W p q : Nat) : Bool := decide ((((p % W : Nat) : Int) - ((q % W : Nat) : Int)) * (((p % W : Nat) : Int) - ((q % W : Nat) : Int)) + (((p / W : Nat) : Int) - ((q / W : Nat) : Int)) * (((p / W : Nat) : Int) - ((q / W : Nat) : Int)) = 1)
theorem sq_one {x y : Int} : x * x + y * y = 1 ↔ (x = 0 ∧ (y = 1 ∨ y = -1)) ∨ (y = 0 ∧ (x = 1 ∨ x = -1)) := by
  constructor
  · intro h
    have hx : 0 ≤ x * x := by
      rcases Int.le_total 0 x with q | q
      · exact Int.mul_nonneg q q
      · exact Int.mul_nonneg_of_nonpos_of_nonpos q q
    have hy : 0 ≤ y * y := by
      rcases Int.le_total 0 y with q | q
      · exact Int.mul_nonneg q q
      · exact Int.mul_nonneg_of_nonpos_of_nonpos q q
    have bd : ∀ z : Int, 0 ≤ z * z → z * z ≤ 1 → z = 0 ∨ z = 1 ∨ z = -1 := fun z h0 h1 => by
      rcases Int.lt_trichotomy z 0 with q | q | q
      · by_cases e : z = -1
        · exact .inr (.inr e)
        · have : 2 * 2 ≤ (-z) * (-z) := Int.mul_le_mul (by omega) (by omega) (by omega) (by omega)
          rw [Int.neg_mul_neg] at this; omega
      · exact .inl q
      · by_cases e : z = 1
        · exact .inr (.inl e)
        · have : 2 * 2 ≤ z * z := Int.mul_le_mul (by omega) (by omega) (by omega) (by omega)
          omega
    rcases bd x hx (by omega) with rfl | rfl | rfl <;> rcases bd y hy (by omega) with rfl | rfl | rfl <;> simp_all
  · rintro (⟨rfl, rfl | rfl⟩ | ⟨rfl, rfl | rfl⟩) <;> decide
theorem near_nb (hp : p < W * H) (hq : q < W * H) : nearB W p q = true ↔ q ∈ nb W H p := by
  unfold nearB
  rw [decide_eq_true_eq, sq_one]
  constructor
  · intro h; exact nb_of_xy hp hq (by omega)
  · intro h; have := (nb_xy hp h).2; omega
end
end Go.Cell

namespace Go.Cell
set_option linter.unusedVariables false
section
variable {W H : Nat} {S : Nat → Bool} {p q r : Nat} {out out0 : List Bool} {gr : Bool}
def cntF (l : List Bool) : Nat := (l.filter fun b => !b).length
theorem cntF_set : ∀ {l : List Bool} {q : Nat}, q < l.length → l.getD q false = false → cntF (l.set q true) + 1 = cntF l
  | [], q, h,_ => by simp at h
  | b :: l, 0,_, h => by
    have h : b = false := by simpa using h
    subst h; simp [cntF]
  | b :: l, q + 1, hq, h => by
    have ih := cntF_set (l := l) (q := q) (by simpa using hq) (by simpa using h)
    unfold cntF at ih ⊢
    rw [List.set_cons_succ, List.filter_cons, List.filter_cons]
    split
    · rw [List.length_cons, List.length_cons]; omega
    · exact ih
theorem getB_set {l : List Bool} {q t : Nat} (h : q < l.length) : (l.set q true).getD t false = (decide (q = t) || l.getD t false) := by
  rw [List.getD_eq_getElem?_getD, List.getD_eq_getElem?_getD, List.getElem?_set]
  by_cases e : q = t
  · subst e; simp [h]
  · simp [e]
/-- What is found so far. -/
structure DP (W H : Nat) (S : Nat → Bool) (p : Nat) (out : List Bool) : Prop where
  len : out.length = W * H
  self : out.getD p false = true
  ok : ∀ q, q < W * H → out.getD q false = true → Cn W H S p q
theorem DP.zero (hp : p < W * H) (hs : S p = true) : DP W H S p ((List.replicate (W * H) false).set p true) := by
  refine ⟨by simp, by rw [getB_set (by simpa using hp)]; simp, fun q hq h => ?_⟩
  rw [getB_set (by simpa using hp)] at h
  have hz : (List.replicate (W * H) false).getD q false = false := by
    rw [List.getD_eq_getElem?_getD, List.getElem?_replicate]; split <;> rfl
  rw [hz, Bool.or_false] at h
  have e := of_decide_eq_true h
  subst e; exact .refl hs
/-- A round: the pixels below 'q' are done, and of 'q' the neighbors below 'r'. -/
structure DR (W H : Nat) (S : Nat → Bool) (p : Nat) (out0 : List Bool) (q r : Nat) (out : List Bool) (gr : Bool) : Prop where
  dp : DP W H S p out
  lt : gr = true → cntF out < cntF out0
  le : cntF out ≤ cntF out0
  cl : gr = false → ∀ a, a < q → S a = true → out.getD a false = false → ∀ b, b ∈ nb W H a → out.getD b false = false
  cr : out.getD q false = false → ∀ b, b ∈ nb W H q → b < r → out.getD b false = false
theorem DR.zero (h : DP W H S p out) : DR W H S p out 0 0 out false := ⟨h, fun q => (by cases q), Nat.le_refl _, fun _ a ha => absurd ha (Nat.not_lt_zero _), fun _ b _ hb => absurd hb (Nat.not_lt_zero _)⟩
theorem DR.skip (h : DR W H S p out0 q 0 out gr) (hx : S q = false ∨ out.getD q false = true) : DR W H S p out0 (q + 1) 0 out gr := by
  refine ⟨h.dp, h.lt, h.le, fun hg a ha hs ho => ?_, fun _ b _ hb => absurd hb (Nat.not_lt_zero _)⟩
  rcases Nat.lt_succ_iff_lt_or_eq.1 ha with z | rfl
  · exact h.cl hg a z hs ho
  · rcases hx with z | z
    · rw [hs] at z; cases z
    · rw [ho] at z; cases z
theorem nb_rng (hq : q < W * H) (hb : r ∈ nb W H q) : q - W ≤ r ∧ r ≤ q + W ∧ r < W * H := by
  have h1 := nb_lt hq hb
  have hW : 0 < W := by
    rcases Nat.eq_zero_or_pos W with e | e
    · subst e; simp at hq
    · exact e
  have h2 := dm W q hW
  rcases mem_nb.1 hb with ⟨h, e⟩ | ⟨h, e⟩ | ⟨h, e⟩ | ⟨h, e⟩ <;> subst e <;> omega
theorem DR.enter (hq : q < W * H) (h : DR W H S p out0 q 0 out gr) : DR W H S p out0 q (q - W) out gr := ⟨h.dp, h.lt, h.le, h.cl, fun ho b hb hl => by have := nb_rng hq hb; omega⟩
theorem DR.no (h : DR W H S p out0 q r out gr) (hx : ¬ (out.getD r false = true ∧ out.getD q false = false ∧ r ∈ nb W H q)) : DR W H S p out0 q (r + 1) out gr := by
  refine ⟨h.dp, h.lt, h.le, h.cl, fun ho b hb hl => ?_⟩
  rcases Nat.lt_succ_iff_lt_or_eq.1 hl with z | rfl
  · exact h.cr ho b hb z
  · cases e : out.getD b false with
    | false => rfl
    | true => exact absurd ⟨e, ho, hb⟩ hx
theorem DR.yes (h : DR W H S p out0 q r out gr) (hq : q < W * H) (hr : r < W * H) (hs : S q = true) (h1 : out.getD r false = true) (h2 : out.getD q false = false) (hn : r ∈ nb W H q) : DR W H S p out0 q (r + 1) (out.set q true) true := by
  have hl : q < out.length := by rw [h.dp.len]; exact hq
  have hc := cntF_set hl h2
  have hle := h.le
  refine ⟨⟨by rw [List.length_set]; exact h.dp.len, by rw [getB_set hl, h.dp.self]; simp, fun a ha ho => ?_⟩, fun _ => by omega, by omega, fun g => (by cases g), fun ho => ?_⟩
  · rw [getB_set hl] at ho
    by_cases e : q = a
    · subst e
      exact .step (h.dp.ok r hr h1) (nb_symm hq hn) hs
    · rw [decide_eq_false e, Bool.false_or] at ho
      exact h.dp.ok a ha ho
  · rw [getB_set hl] at ho; simp at ho
theorem DR.next (h : DR W H S p out0 q r out gr) (hq : q < W * H) (hr : q + W < r ∨ W * H ≤ r) : DR W H S p out0 (q + 1) 0 out gr := by
  refine ⟨h.dp, h.lt, h.le, fun hg a ha hs ho => ?_, fun _ b _ hb => absurd hb (Nat.not_lt_zero _)⟩
  rcases Nat.lt_succ_iff_lt_or_eq.1 ha with z | rfl
  · exact h.cl hg a z hs ho
  · exact fun b hb => h.cr ho b hb (by have := nb_rng hq hb; omega)
theorem DP.fin (h : DP W H S p out) (hp : p < W * H) (hs : S p = true) (hc : ∀ a, a < W * H → S a = true → out.getD a false = false → ∀ b, b ∈ nb W H a → out.getD b false = false) (hq : q < W * H) : out.getD q false = decide (q ∈ compL W H S p) := by
  refine Bool.eq_iff_iff.2 ⟨fun ho => decide_eq_true ((mem_compL hp hs).2 (h.ok q hq ho)), fun hm => ?_⟩
  have hcn := (mem_compL hp hs).1 (of_decide_eq_true hm)
  have key : q < W * H ∧ out.getD q false = true := by
    refine Cn.closed (X := fun x => x < W * H ∧ out.getD x false = true) hcn ⟨hp, h.self⟩ ?_
    intro a b ha hb hsb
    have hbl := nb_lt ha.1 hb
    refine ⟨hbl, ?_⟩
    cases e : out.getD b false with
    | true => rfl
    | false =>
      have := hc b hbl hsb e a (nb_symm ha.1 hb)
      rw [ha.2] at this; cases this
  exact key.2
def setB (n : Nat) (S : Nat → Bool) : List Bool := (List.range n).map S
theorem setB_len {n : Nat} : (setB n S).length = n := by unfold setB; simp
theorem setB_get {n : Nat} (h : q < n) : (setB n S)[q]? = some (S q) := by unfold setB; rw [List.getElem?_map, List.getElem?_range h]; rfl
theorem setB_getD {n : Nat} (h : q < n) : (setB n S).getD q false = S q := by rw [List.getD_eq_getElem?_getD, setB_get h]; rfl
theorem setB_ext {n : Nat} {l : List Bool} (hl : l.length = n) (h : ∀ q, q < n → l.getD q false = S q) : l = setB n S := by
  refine List.ext_getElem? fun q => ?_
  by_cases e : q < n
  · rw [setB_get e, ← h q e, List.getD_eq_getElem?_getD, List.getElem?_eq_getElem (by omega)]; rfl
  · rw [List.getElem?_eq_none (by omega), List.getElem?_eq_none (by rw [setB_len]; omega)]
def partB (W H : Nat) (S : Nat → Bool) (p : Nat) : List Bool := setB (W * H) fun q => decide (q ∈ compL W H S p)
theorem DR.fin (h : DR W H S p out0 (W * H) r out false) (hp : p < W * H) (hs : S p = true) : out = partB W H S p :=
  setB_ext h.dp.len fun q hq => h.dp.fin hp hs (fun a ha => h.cl rfl a ha) hq
/-! ### Lists of sets -/
def listTo (b : List Bool) (k : Nat) : List Nat := (List.range k).filter fun q => b.getD q false
def listM (b : List Bool) : List Nat := listTo b b.length
theorem listTo_t {b : List Bool} {k : Nat} (h : b.getD k false = true) : listTo b (k + 1) = listTo b k ++ [k] := by unfold listTo; rw [List.range_succ, List.filter_append, List.filter_cons, if_pos h]; rfl
theorem listTo_f {b : List Bool} {k : Nat} (h : b.getD k false = false) : listTo b (k + 1) = listTo b k := by unfold listTo; rw [List.range_succ, List.filter_append, List.filter_cons, if_neg (by rw [h]; decide)]; simp
theorem listTo_len {b : List Bool} {k : Nat} : (listTo b k).length ≤ k := by unfold listTo; refine Nat.le_trans (List.length_filter_le _ _) ?_; simp
theorem sorted_filter {f : Nat → Bool} {n : Nat} : ((List.range n).filter f).Pairwise (· < ·) := List.Pairwise.filter _ (List.pairwise_lt_range)
theorem listM_part (hp : p < W * H) : listM (partB W H S p) = compL W H S p := by
  refine asc_ext sorted_filter (compL_sorted hp) fun x => ?_
  unfold listM listTo
  rw [List.mem_filter, List.mem_range]
  constructor
  · rintro ⟨h1, h2⟩
    have h1 : x < W * H := by rw [partB, setB_len] at h1; exact h1
    rw [partB, setB_getD h1] at h2
    exact of_decide_eq_true h2
  · intro h
    have h1 := compL_lt hp h
    refine ⟨by rw [partB, setB_len]; exact h1, ?_⟩
    rw [partB, setB_getD h1]; exact decide_eq_true h
/-! ### All parts -/
def doneB (W H : Nat) (S : Nat → Bool) (p : Nat) (l : List Nat) (i : Nat) : List Bool := setB (W * H) fun q => (partsTo W H S p).any (fun k => decide (q ∈ k)) || decide (q ∈ l.take i)
theorem done_zero : List.replicate (W * H) false = doneB W H S 0 [] 0 := by
  refine setB_ext (by simp) fun q hq => ?_
  rw [List.getD_eq_getElem?_getD, List.getElem?_replicate, if_pos hq]
  simp [partsTo]
theorem done_step {l : List Nat} {i x : Nat} (h : l[i]? = some x) (hx : x < W * H) : (doneB W H S p l i).set x true = doneB W H S p l (i + 1) := by
  refine setB_ext (by rw [List.length_set, doneB, setB_len]) fun q hq => ?_
  rw [getB_set (by rw [doneB, setB_len]; exact hx), doneB, setB_getD hq]
  have hi := (List.getElem?_eq_some_iff.1 h)
  obtain ⟨hil, rfl⟩ := hi
  show (_ || ((partsTo W H S p).any (fun k => decide (q ∈ k)) || decide (q ∈ l.take i))) = ((partsTo W H S p).any (fun k => decide (q ∈ k)) || decide (q ∈ l.take (i + 1)))
  rw [List.take_succ_eq_append_getElem hil]
  have hm : decide (q ∈ l.take i ++ [l[i]]) = (decide (q ∈ l.take i) || decide (l[i] = q)) := by
    rw [← Bool.decide_or]; exact decide_eq_decide.2 (by rw [List.mem_append, List.mem_singleton]; exact or_congr Iff.rfl eq_comm)
  rw [hm]
  cases decide (l[i] = q) <;> cases (partsTo W H S p).any (fun k => decide (q ∈ k)) <;> simp
theorem done_start {l : List Nat} : doneB W H S p [] 0 = doneB W H S p l 0 := by unfold doneB; simp
theorem done_old (h : partsTo W H S (p + 1) = partsTo W H S p) : doneB W H S (p + 1) [] 0 = doneB W H S p [] 0 := by unfold doneB; rw [h]
theorem done_new (hs : S p = true) (hn : ∀ l, l ∈ partsTo W H S p → p ∉ l) {l : List Nat} (e : l = compL W H S p) : doneB W H S p l l.length = doneB W H S (p + 1) [] 0 := by
  subst e
  unfold doneB
  rw [partsTo_new hs hn, List.take_length]
  refine List.map_congr_left fun q _ => ?_
  simp
theorem done_at (hp : p < W * H) : (doneB W H S p [] 0).getD p false = (partsTo W H S p).any fun k => decide (p ∈ k) := by rw [doneB, setB_getD hp]; simp
theorem done_skip (h : S p = false ∨ ((partsTo W H S p).any fun k => decide (p ∈ k)) = true) : partsTo W H S (p + 1) = partsTo W H S p := by
  refine partsTo_old fun z => ?_
  rcases h with h | h
  · rw [z.1] at h; cases h
  · obtain ⟨l, h1, h2⟩ := List.any_eq_true.1 h
    exact z.2 l h1 (of_decide_eq_true h2)
theorem done_take (h : ((partsTo W H S p).any fun k => decide (p ∈ k)) = false) : ∀ l, l ∈ partsTo W H S p → p ∉ l := fun l hl hm => by
  have := List.any_eq_false.1 h l hl
  exact this (decide_eq_true hm)
end
end Go.Cell

namespace Go.Proofs.Ytgemekpofpoopaa
open Go.SL Go.Cell
set_option linter.unusedVariables false
section
variable {n m i j k t x first : Nat} {T : Nat → Nat → Bool} {on on0 : List Bool} {gr : Bool} {J : Bool × Int → Bool × Int → Prop} {ld : Bool × Int → Bool × Int}
/-- What is joined: pairs that touch. -/
structure TJ (n m : Nat) (T : Nat → Nat → Bool) (J : Bool × Int → Bool × Int → Prop) (ld : Bool × Int → Bool × Int) : Prop where
  eq : ∀ a b, ld a = ld b ↔ Eqv J a b
  to : ∀ a b, J a b → ∃ i j : Nat, i < n ∧ j < m ∧ a = (false, (i : Int)) ∧ b = (true, (j : Int)) ∧ T i j = true
  of : ∀ i j : Nat, i < n → j < m → T i j = true → J (false, (i : Int)) (true, (j : Int))
/-- Which node stands for all. -/
abbrev kap (ld : Bool × Int → Bool × Int) (n t : Nat) : Bool × Int := ld (ndx n t)
theorem TJ.touch (h : TJ n m T J ld) (hi : i < n) (hj : j < m) (ht : T i j = true) : kap ld n i = kap ld n (n + j) := by
  unfold kap; rw [ndx_lt hi, ndx_ge]; exact (h.eq _ _).2 (.base (h.of i j hi hj ht))
structure DE (κ : Nat → Bool × Int) (n m first : Nat) (on : List Bool) : Prop where
  len : on.length = n + m
  self : on.getD first false = true
  ok : ∀ t, t < n + m → on.getD t false = true → κ t = κ first
theorem DE.zero {κ : Nat → Bool × Int} (hf : first < n + m) : DE κ n m first ((List.replicate (n + m) false).set first true) := by
  have hl : first < (List.replicate (n + m) false).length := by simpa using hf
  refine ⟨by simp, by rw [getB_set hl]; simp, fun t ht h => ?_⟩
  rw [getB_set hl] at h
  have hz : (List.replicate (n + m) false).getD t false = false := by
    rw [List.getD_eq_getElem?_getD, List.getElem?_replicate]; split <;> rfl
  rw [hz, Bool.or_false] at h
  rw [of_decide_eq_true h]
structure ER (κ : Nat → Bool × Int) (n m : Nat) (T : Nat → Nat → Bool) (first : Nat) (on0 : List Bool) (i j : Nat) (on : List Bool) (gr : Bool) : Prop where
  de : DE κ n m first on
  lt : gr = true → cntF on < cntF on0
  le : cntF on ≤ cntF on0
  cl : gr = false → ∀ a, a < i → ∀ b, b < m → T a b = true → on.getD a false = on.getD (n + b) false
  cr : gr = false → ∀ b, b < j → T i b = true → on.getD i false = on.getD (n + b) false
variable {κ : Nat → Bool × Int}
theorem ER.zero (h : DE κ n m first on) : ER κ n m T first on 0 0 on false := ⟨h, fun z => (by cases z), Nat.le_refl _, fun _ a ha => absurd ha (Nat.not_lt_zero _), fun _ b hb => absurd hb (Nat.not_lt_zero _)⟩
theorem ER.no (h : ER κ n m T first on0 i j on gr) (hx : ¬ (T i j = true ∧ on.getD i false ≠ on.getD (n + j) false)) : ER κ n m T first on0 i (j + 1) on gr := by
  refine ⟨h.de, h.lt, h.le, h.cl, fun hg b hb ht => ?_⟩
  rcases Nat.lt_succ_iff_lt_or_eq.1 hb with z | rfl
  · exact h.cr hg b z ht
  · exact Classical.byContradiction fun z => hx ⟨ht, z⟩
theorem cnt_set_le : ∀ {l : List Bool} {q : Nat}, cntF (l.set q true) ≤ cntF l := fun {l q} => by
  by_cases hq : q < l.length
  · cases e : l.getD q false with
    | false => have := cntF_set hq e; omega
    | true =>
      have : l.set q true = l := by
        refine List.ext_getElem? fun t => ?_
        rw [List.getElem?_set]
        by_cases z : q = t
        · subst z
          rw [if_pos rfl, if_pos hq]
          rw [List.getD_eq_getElem?_getD, List.getElem?_eq_getElem hq] at e
          rw [List.getElem?_eq_getElem hq]; exact congrArg some e.symm
        · rw [if_neg z]
      rw [this]; exact Nat.le_refl _
  · rw [List.set_eq_of_length_le (by omega)]; exact Nat.le_refl _
theorem ER.yes (h : ER κ n m T first on0 i j on gr) (hi : i < n) (hj : j < m) (hk : κ i = κ (n + j)) (hne : on.getD i false ≠ on.getD (n + j) false) : ER κ n m T first on0 i (j + 1) ((on.set i true).set (n + j) true) true := by
  have hl1 : i < on.length := by rw [h.de.len]; omega
  have hl2 : n + j < (on.set i true).length := by rw [List.length_set, h.de.len]; omega
  have hle := h.le
  have hlt : cntF ((on.set i true).set (n + j) true) < cntF on := by
    cases e : on.getD i false with
    | false =>
      have h1 := cntF_set hl1 e
      have h2 := cnt_set_le (l := on.set i true) (q := n + j)
      omega
    | true =>
      have e2 : on.getD (n + j) false = false := by
        cases z : on.getD (n + j) false with
        | false => rfl
        | true => exact absurd (e.trans z.symm) hne
      have e3 : (on.set i true).getD (n + j) false = false := by rw [getB_set hl1, e2, decide_eq_false (by omega)]; rfl
      have h1 := cntF_set hl2 e3
      have h2 := cnt_set_le (l := on) (q := i)
      omega
  have hone : κ i = κ first := by
    cases e : on.getD i false with
    | true => exact h.de.ok i (by omega) e
    | false =>
      have e2 : on.getD (n + j) false = true := by
        cases z : on.getD (n + j) false with
        | true => rfl
        | false => exact absurd (e.trans z.symm) hne
      rw [hk]; exact h.de.ok (n + j) (by omega) e2
  refine ⟨⟨by simp [h.de.len], by rw [getB_set hl2, getB_set hl1, h.de.self]; simp, fun t ht ho => ?_⟩, fun _ => by omega, by omega, fun z => (by cases z), fun z => (by cases z)⟩
  rw [getB_set hl2, getB_set hl1] at ho
  by_cases e1 : n + j = t
  · subst e1; rw [← hk]; exact hone
  · by_cases e2 : i = t
    · subst e2; exact hone
    · rw [decide_eq_false e1, decide_eq_false e2] at ho
      exact h.de.ok t ht (by simpa using ho)
theorem ER.next (h : ER κ n m T first on0 i m on gr) : ER κ n m T first on0 (i + 1) 0 on gr := by
  refine ⟨h.de, h.lt, h.le, fun hg a ha b hb ht => ?_, fun _ b hb => absurd hb (Nat.not_lt_zero _)⟩
  rcases Nat.lt_succ_iff_lt_or_eq.1 ha with z | rfl
  · exact h.cl hg a z b hb ht
  · exact h.cr hg b hb ht
def valD (n : Nat) (on : List Bool) (a : Bool × Int) : Bool := if a.1 = true then on.getD (n + a.2.toNat) false else if a.2.toNat < n then on.getD a.2.toNat false else false
theorem ER.fin (h : ER (kap ld n) n m T first on0 n j on false) (hT : TJ n m T J ld) (hf : first < n + m) : on = setB (n + m) fun t => decide (kap ld n t = kap ld n first) := by
  refine setB_ext h.de.len fun t ht => ?_
  have key : ∀ a b, Eqv J a b → valD n on a = valD n on b := fun a b hab => by
    induction hab with
    | refl _ => rfl
    | base hJ =>
      obtain ⟨i, j, hi, hj, rfl, rfl, htt⟩ := hT.to _ _ hJ
      have := h.cl rfl i hi j hj htt
      unfold valD
      simp only [Bool.false_eq_true, if_false, if_true, Int.toNat_natCast, if_pos hi]
      exact this
    | symm _ ih => exact ih.symm
    | trans _ _ h1 h2 => exact h1.trans h2
  have hv : ∀ t, t < n + m → valD n on (ndx n t) = on.getD t false := fun t ht => by
    unfold ndx valD
    split
    · rename_i q; simp [q]
    · rename_i q
      have e : n + (t - n) = t := by omega
      simp [e]
  refine Bool.eq_iff_iff.2 ⟨fun ho => decide_eq_true (h.de.ok t ht ho), fun hk => ?_⟩
  have := key _ _ ((hT.eq _ _).1 (of_decide_eq_true hk))
  rw [hv t ht, hv first hf] at this
  rw [this]; exact h.de.self
/-! ### One event out of a set -/
def evSet (on : List Bool) (n k : Nat) : EvM := ⟨0, (List.range (min k n)).filter (fun i => on.getD i false), (List.range (k - n)).filter (fun j => on.getD (n + j) false)⟩
theorem evSet_zero {on : List Bool} : evSet on n 0 = ⟨0, [], []⟩ := by unfold evSet; simp
theorem evSet_f {on : List Bool} (h : on.getD k false = false) : evSet on n (k + 1) = evSet on n k := by
  unfold evSet
  by_cases q : k < n
  · rw [show min (k + 1) n = k + 1 by omega, show min k n = k by omega, show k + 1 - n = k - n by omega, List.range_succ, List.filter_append, List.filter_cons, if_neg (by rw [h]; decide)]; simp
  · rw [show min (k + 1) n = min k n by omega, show k + 1 - n = (k - n) + 1 by omega, List.range_succ, List.filter_append, List.filter_cons, if_neg (by rw [show n + (k - n) = k by omega, h]; decide)]; simp
theorem evSet_t {on : List Bool} (h : on.getD k false = true) : evSet on n (k + 1) = if k < n then { evSet on n k with f := (evSet on n k).f ++ [k] } else { evSet on n k with t := (evSet on n k).t ++ [k - n] } := by
  unfold evSet
  by_cases q : k < n
  · rw [if_pos q, show min (k + 1) n = k + 1 by omega, show min k n = k by omega, show k + 1 - n = k - n by omega, List.range_succ, List.filter_append, List.filter_cons, if_pos h]; simp
  · rw [if_neg q, show min (k + 1) n = min k n by omega, show k + 1 - n = (k - n) + 1 by omega, List.range_succ (n := k - n), List.filter_append, List.filter_cons, if_pos (by rw [show n + (k - n) = k by omega]; exact h)]; simp
theorem evSet_len {on : List Bool} : (evSet on n k).f.length ≤ n ∧ (evSet on n k).t.length ≤ k - n := by
  unfold evSet
  refine ⟨Nat.le_trans (List.length_filter_le _ _) (by simp; omega), Nat.le_trans (List.length_filter_le _ _) (by simp)⟩
theorem evSet_all : evSet (setB (n + m) fun t => decide (κ t = κ first)) n (n + m) = evF κ n (n + m) first := by
  unfold evSet evF
  rw [show min (n + m) n = n by omega, show n + m - n = m by omega]
  have e1 : (List.range n).filter (fun i => (setB (n + m) fun t => decide (κ t = κ first)).getD i false) = (List.range n).filter (fun i => decide (κ i = κ first)) := List.filter_congr fun i hi => by rw [setB_getD (by have := List.mem_range.1 hi; omega)]
  have e2 : (List.range m).filter (fun j => (setB (n + m) fun t => decide (κ t = κ first)).getD (n + j) false) = (List.range m).filter (fun j => decide (κ (n + j) = κ first)) := List.filter_congr fun j hj => by rw [setB_getD (by have := List.mem_range.1 hj; omega)]
  rw [e1, e2]
/-! ### All events -/
def kdM (e : EvM) : EvM := { e with kd := kindM e.f.length e.t.length }
def evsTo (κ : Nat → Bool × Int) (n m k : Nat) : List EvM := (firsts κ k).map fun f => kdM (evF κ n (n + m) f)
theorem evsTo_all : evsTo κ n m (n + m) = evsM κ n m := by unfold evsTo evsM evT; rw [List.map_map]; rfl
theorem evsTo_zero : evsTo κ n m 0 = [] := by unfold evsTo firsts; rfl
def seenB (κ : Nat → Bool × Int) (n m k : Nat) (l : List Nat) (i : Nat) : List Bool := setB (n + m) fun t => (firsts κ k).any (fun f => decide (κ f = κ t)) || decide (t ∈ l.take i)
theorem seen_zero : List.replicate (n + m) false = seenB κ n m 0 [] 0 := by
  refine setB_ext (by simp) fun q hq => ?_
  rw [List.getD_eq_getElem?_getD, List.getElem?_replicate, if_pos hq]
  simp [firsts]
theorem setB_step {N : Nat} {f : Nat → Bool} {l : List Nat} {i x : Nat} (h : l[i]? = some x) (hx : x < N) : (setB N fun q => f q || decide (q ∈ l.take i)).set x true = setB N fun q => f q || decide (q ∈ l.take (i + 1)) := by
  refine setB_ext (by rw [List.length_set, setB_len]) fun q hq => ?_
  rw [getB_set (by rw [setB_len]; exact hx), setB_getD hq]
  obtain ⟨hil, rfl⟩ := List.getElem?_eq_some_iff.1 h
  have hm : decide (q ∈ l.take (i + 1)) = (decide (q ∈ l.take i) || decide (l[i] = q)) := by
    rw [List.take_succ_eq_append_getElem hil, ← Bool.decide_or]; exact decide_eq_decide.2 (by rw [List.mem_append, List.mem_singleton]; exact or_congr Iff.rfl eq_comm)
  rw [hm]
  cases decide (l[i] = q) <;> cases f q <;> simp
theorem seen_step {l : List Nat} (h : l[i]? = some x) (hx : x < n + m) : (seenB κ n m k l i).set x true = seenB κ n m k l (i + 1) := setB_step h hx
theorem seen_start {l : List Nat} : seenB κ n m k [] 0 = seenB κ n m k l 0 := by unfold seenB; simp
theorem seen_at (hk : k < n + m) : (seenB κ n m k [] 0).getD k false = !isFirst κ k := by
  rw [seenB, setB_getD hk]
  simp only [List.take_nil, List.not_mem_nil, decide_false, Bool.or_false]
  refine Bool.eq_iff_iff.2 ⟨fun h => ?_, fun h => ?_⟩
  · obtain ⟨f, h1, h2⟩ := List.any_eq_true.1 h
    have h1 := mem_firsts.1 h1
    unfold isFirst
    rw [decide_eq_false (fun z => z f h1.1 (of_decide_eq_true h2))]; rfl
  · unfold isFirst at h
    have h : ¬ ∀ j, j < k → κ j ≠ κ k := by simpa using h
    obtain ⟨j, hj⟩ := Classical.not_forall.1 h
    obtain ⟨hj1, hj2⟩ := Classical.not_imp.1 hj
    have hj2 := Classical.not_not.1 hj2
    obtain ⟨f, f1, f2, f3⟩ := first_of κ j
    refine List.any_eq_true.2 ⟨f, mem_firsts.2 ⟨by omega, ?_⟩, decide_eq_true (f2.trans hj2)⟩
    unfold isFirst at f3; exact of_decide_eq_true f3
theorem seen_old (h : isFirst κ k = false) : seenB κ n m (k + 1) [] 0 = seenB κ n m k [] 0 ∧ evsTo κ n m (k + 1) = evsTo κ n m k := by
  have e : firsts κ (k + 1) = firsts κ k := by rw [firsts_succ, h]; simp
  unfold seenB evsTo; rw [e]; exact ⟨rfl, rfl⟩
theorem seen_new (h : isFirst κ k = true) {l : List Nat} (hl : ∀ t, t < n + m → (t ∈ l ↔ κ t = κ k)) : seenB κ n m k l l.length = seenB κ n m (k + 1) [] 0 ∧ evsTo κ n m (k + 1) = evsTo κ n m k ++ [kdM (evF κ n (n + m) k)] := by
  have e : firsts κ (k + 1) = firsts κ k ++ [k] := by rw [firsts_succ, h]; simp
  unfold seenB evsTo
  rw [e, List.map_append, List.take_length]
  refine ⟨List.map_congr_left fun t ht => ?_, rfl⟩
  have ht := List.mem_range.1 ht
  rw [List.any_append]
  have : decide (t ∈ l) = decide (κ k = κ t) := decide_eq_decide.2 ((hl t ht).trans eq_comm)
  simp [this]
/-- What is marked behind an event. -/
def evAll (n : Nat) (e : EvM) : List Nat := e.f ++ e.t.map (n + ·)
theorem evAll_mem (ht : t < n + m) : t ∈ evAll n (evF κ n (n + m) k) ↔ κ t = κ k := by
  unfold evAll evF
  rw [List.mem_append, List.mem_map, show min (n + m) n = n by omega, show n + m - n = m by omega]
  simp only [List.mem_filter, List.mem_range, decide_eq_true_eq]
  constructor
  · rintro (⟨_, h⟩ | ⟨j, ⟨_, h⟩, rfl⟩)
    · exact h
    · exact h
  · intro h
    by_cases q : t < n
    · exact .inl ⟨q, h⟩
    · exact .inr ⟨t - n, ⟨by omega, by rw [show n + (t - n) = t by omega]; exact h⟩, by omega⟩
theorem evsTo_len : (evsTo κ n m k).length ≤ k := by unfold evsTo; rw [List.length_map]; unfold firsts; refine Nat.le_trans (List.length_filter_le _ _) ?_; simp
end
end Go.Proofs.Ytgemekpofpoopaa
