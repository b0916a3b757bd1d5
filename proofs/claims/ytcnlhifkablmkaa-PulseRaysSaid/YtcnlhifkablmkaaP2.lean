/-
  Turns that move a little.
-/
import Derived.Test.YtcnlhifkablmkaaWL
namespace Go.Proofs.Ytcnlhifkablmkaa
open Go.SL Go.Proofs Go.Pulse
set_option linter.unusedVariables false



theorem sum_le2 {α : Type} {f g : α → Int} {d : α} : ∀ {l m : List α}, m.length = l.length → (∀ i, i < l.length → f (l.getD i d) ≤ g (m.getD i d)) → (l.map f).sum ≤ (m.map g).sum
  | [], m, h, _ => by cases m with | nil => simp | cons => simp at h
  | x :: l, [], h, _ => by simp at h
  | x :: l, y :: m, h, k => by
    have h0 := k 0 (by simp)
    have h1 := sum_le2 (f := f) (g := g) (d := d) (l := l) (m := m) (by simpa using h) (fun i hi => by have := k (i + 1) (by simpa using hi); simpa using this)
    simp only [List.getD_cons_zero] at h0
    simp only [List.map_cons, List.sum_cons]
    omega
theorem sum_abs {f : Nat → Int} {B : Int} : ∀ {l : List Nat}, (∀ i ∈ l, -B ≤ f i ∧ f i ≤ B) → -(B * (l.length : Int)) ≤ (l.map f).sum ∧ (l.map f).sum ≤ B * (l.length : Int)
  | [], _ => by simp
  | x :: l, h => by
    have h1 := h x (by simp)
    have h2 := sum_abs (f := f) (B := B) (l := l) (fun y hy => h y (by simp [hy]))
    simp only [List.map_cons, List.sum_cons, List.length_cons]
    rw [show ((l.length + 1 : Nat) : Int) = (l.length : Int) + 1 by omega, Int.mul_add, Int.mul_one]
    omega
theorem sum_const {α : Type} {f g : α → Int} {c : Int} : ∀ {l : List α}, (∀ x ∈ l, f x = g x + c) → (l.map f).sum = (l.map g).sum + c * (l.length : Int)
  | [], _ => by simp
  | x :: l, h => by
    have h1 := h x (by simp)
    have h2 := sum_const (f := f) (g := g) (c := c) (l := l) (fun y hy => h y (by simp [hy]))
    simp only [List.map_cons, List.sum_cons, List.length_cons]
    rw [show ((l.length + 1 : Nat) : Int) = (l.length : Int) + 1 by omega, Int.mul_add, Int.mul_one]
    omega
theorem sum_add {α : Type} {f g : α → Int} : ∀ {l : List α}, (l.map fun x => f x + g x).sum = (l.map f).sum + (l.map g).sum
  | [] => by simp
  | x :: l => by simp only [List.map_cons, List.sum_cons]; rw [sum_add (l := l)]; omega
theorem arc_wid {I : List Nat} {d e : Nat → Int} {E : Int} (hI : I ≠ []) (he : ∀ i ∈ I, -E ≤ e i ∧ e i ≤ E) (hE : 0 ≤ E) : (arcR (I.map fun i => wr (d i + e i))).2 ≤ (arcR (I.map d)).2 + 2 * E := by
  have hs : I.map d ≠ [] := fun q => hI (List.map_eq_nil_iff.1 q)
  have hs' : (I.map fun i => wr (d i + e i)) ≠ [] := fun q => hI (List.map_eq_nil_iff.1 q)
  obtain ⟨a1, a2, a3⟩ := arcR_is hs
  obtain ⟨b1, b2, b3⟩ := arcR_is hs'
  have bW := arcW_bd (I.map fun i => wr (d i + e i)) (arcR (I.map fun i => wr (d i + e i))).1
  rw [← b2] at bW
  generalize hb : (arcR (I.map d)).1 = b at *
  generalize hW : (arcR (I.map d)).2 = W at *
  generalize hW' : (arcR (I.map fun i => wr (d i + e i))).2 = W' at *
  have hu : ∀ i ∈ I, 0 ≤ wr (d i - b) ∧ wr (d i - b) ≤ W := fun i hi => ⟨(wr_bd _).1, by rw [a2]; exact arcW_ge (List.mem_map_of_mem hi)⟩
  have hmin : ∃ m ∈ I, ∀ y ∈ I, wr (d m - b) + e m ≤ wr (d y - b) + e y := by
    have key : ∀ (J : List Nat), J ≠ [] → ∃ m ∈ J, ∀ y ∈ J, wr (d m - b) + e m ≤ wr (d y - b) + e y := by
      intro J
      induction J with
      | nil => intro h; exact absurd rfl h
      | cons x J ih =>
        intro _
        by_cases hJ : J = []
        · subst hJ; exact ⟨x, by simp, fun y hy => by rw [List.mem_singleton.1 hy]; exact Int.le_refl _⟩
        · obtain ⟨z, hz, h⟩ := ih hJ
          rcases Int.le_total (wr (d x - b) + e x) (wr (d z - b) + e z) with q | q
          · refine ⟨x, by simp, fun u hu => ?_⟩
            rcases List.mem_cons.1 hu with rfl | hu
            · exact Int.le_refl _
            · exact Int.le_trans q (h u hu)
          · refine ⟨z, List.mem_cons_of_mem _ hz, fun u hu => ?_⟩
            rcases List.mem_cons.1 hu with rfl | hu
            · exact q
            · exact h u hu
    exact key I hI
  obtain ⟨m, hm, hmin⟩ := hmin
  rcases Int.lt_or_le (W + 2 * E) 65536 with big | big
  · have h1 : arcW (I.map fun i => wr (d i + e i)) (wr (d m + e m)) ≤ W + 2 * E := by
      refine arcW_le (by have := hu m hm; omega) fun x hx => ?_
      obtain ⟨i, hi, rfl⟩ := List.mem_map.1 hx
      have k1 := hmin i hi
      have k2 := hu i hi
      have k3 := hu m hm
      have k4 := he i hi
      have k5 := he m hm
      unfold wr at *
      omega
    have := b3 _ (List.mem_map_of_mem (f := fun i => wr (d i + e i)) hm)
    omega
  · omega
/-- Turns that each move a little keep an arc that is a little wider, and their sum moves by the sum of the moves. -/
theorem arc_move {I : List Nat} {d e : Nat → Int} {E : Int} (hI : I ≠ []) (he : ∀ i ∈ I, -E ≤ e i ∧ e i ≤ E) (hE : 0 ≤ E) (hw : (arcR (I.map d)).2 + 2 * E < 32768) :
    (arcR (I.map fun i => wr (d i + e i))).2 < 32768 ∧ ∃ K : Int, arcSum (I.map fun i => wr (d i + e i)) = arcSum (I.map d) + (I.map e).sum + 65536 * K * (I.length : Int) := by
  have hlt := arc_wid (d := d) hI he hE
  have hs : I.map d ≠ [] := fun q => hI (List.map_eq_nil_iff.1 q)
  have hs' : (I.map fun i => wr (d i + e i)) ≠ [] := fun q => hI (List.map_eq_nil_iff.1 q)
  obtain ⟨a1, a2, a3⟩ := arcR_is hs
  obtain ⟨b1, b2, b3⟩ := arcR_is hs'
  unfold arcSum
  generalize hb : (arcR (I.map d)).1 = b at *
  generalize hW : (arcR (I.map d)).2 = W at *
  generalize hb' : (arcR (I.map fun i => wr (d i + e i))).1 = b' at *
  generalize hW' : (arcR (I.map fun i => wr (d i + e i))).2 = W' at *
  have hu : ∀ i ∈ I, 0 ≤ wr (d i - b) ∧ wr (d i - b) ≤ W := fun i hi => ⟨(wr_bd _).1, by rw [a2]; exact arcW_ge (List.mem_map_of_mem hi)⟩
  refine ⟨by omega, ?_⟩
  obtain ⟨j, hj, hjb⟩ := List.mem_map.1 b1
  refine ⟨(b' - (wr (d j - b) + e j) - b) / 65536, ?_⟩
  have hK : 65536 * ((b' - (wr (d j - b) + e j) - b) / 65536) = b' - (wr (d j - b) + e j) - b := by
    rw [← hjb]; unfold wr; omega
  rw [hK]
  unfold arcT
  rw [List.map_map, List.map_map, ← sum_add]
  refine sum_const fun i hi => ?_
  have k1 := hu i hi
  have k2 := hu j hj
  have k3 := he i hi
  have k4 := he j hj
  have k5 : wr (wr (d i + e i) - b') ≤ W' := by rw [b2]; exact arcW_ge (List.mem_map_of_mem (f := fun i => wr (d i + e i)) hi)
  simp only [Function.comp]
  rw [← hjb] at k5 ⊢
  unfold wr at *
  omega
theorem mean_move {s s' : List Int} {sl D K : Int} (hs : s ≠ []) (hl : s'.length = s.length) (h0 : 0 ≤ sl) (h1 : sl ≤ 8192 * (s.length : Int)) (hD : -sl ≤ D ∧ D ≤ sl) (hS : arcSum s' = arcSum s + D + 65536 * K * (s.length : Int)) : turnIn (meanS s' 0) (meanS s sl) := by
  have hs' : s' ≠ [] := fun q => hs (by rw [q] at hl; exact List.length_eq_zero_iff.1 hl.symm)
  have hn : 0 < (s.length : Int) := by cases s with | nil => exact absurd rfl hs | cons => simp
  have w1 := mean_wid (S := arcSum s) hn h0 h1
  have w2 : (arcSum s - sl) / (s.length : Int) ≤ (arcSum s + D) / (s.length : Int) := Int.ediv_le_ediv hn (by omega)
  have w3 : up (arcSum s + D) (s.length : Int) ≤ up (arcSum s + sl) (s.length : Int) := up_mono hn (by omega)
  have w4 : (arcSum s + D) / (s.length : Int) ≤ up (arcSum s + D) (s.length : Int) := div_up hn (Int.le_refl _)
  have e1 : (arcSum s' - 0) / (s.length : Int) = (arcSum s + D) / (s.length : Int) + 65536 * K := by
    rw [Int.sub_zero, hS, Int.add_mul_ediv_right _ _ (by omega)]
  have e2 : up (arcSum s' + 0) (s.length : Int) = up (arcSum s + D) (s.length : Int) + 65536 * K := by
    unfold up
    rw [Int.add_zero, hS, show -(arcSum s + D + 65536 * K * (s.length : Int)) = -(arcSum s + D) + -(65536 * K) * (s.length : Int) by rw [Int.neg_mul]; omega, Int.add_mul_ediv_right _ _ (by omega)]
    omega
  refine ⟨mean_ok (Int.le_refl 0) (fun _ => by omega), ?_⟩
  unfold meanS
  rw [if_neg hs, if_neg hs']
  dsimp only
  rw [hl, e1, e2]
  generalize (arcSum s - sl) / (s.length : Int) = A at *
  generalize (arcSum s + D) / (s.length : Int) = B at *
  generalize up (arcSum s + sl) (s.length : Int) = C at *
  generalize up (arcSum s + D) (s.length : Int) = F at *
  unfold wr
  exact ⟨(B + 32768) / 65536 - (A + 32768) / 65536, by omega, by omega, by omega⟩

end Go.Proofs.Ytcnlhifkablmkaa
