/-
  Events that are found are as histories need them, in plain Lean.
  Empty literals among blocks whose order is open.
  Ways and gaps: both directions, and ways that meet no pixel twice.
-/
import Derived.Test.YtgemekpofpoopaaKTRU02

set_option linter.unusedSimpArgs false
namespace Go.Proofs.Ytgemekpofpoopaa
open Go.SL Go.Cell
set_option linter.unusedVariables false
section
variable {α : Type} [DecidableEq α] {κ : Nat → α} {n m : Nat}
theorem evsM_mem {e : EvM} (h : e ∈ evsM κ n m) : ∃ k, k < n + m ∧ (∀ j, j < k → κ j ≠ κ k) ∧ e.kd = kindM e.f.length e.t.length ∧ e.f = (List.range n).filter (fun i => decide (κ i = κ k)) ∧ e.t = (List.range m).filter (fun j => decide (κ (n + j) = κ k)) := by
  unfold evsM evT at h
  rw [List.map_map] at h
  obtain ⟨k, hk, rfl⟩ := List.mem_map.1 h
  obtain ⟨h1, h2⟩ := mem_firsts.1 hk
  refine ⟨k, h1, h2, rfl, ?_, ?_⟩
  · show (List.range (min (n + m) n)).filter _ = _
    rw [show min (n + m) n = n by omega]
  · show (List.range (n + m - n)).filter _ = _
    rw [show n + m - n = m by omega]
theorem evsM_good : GoodEv n m (evsM κ n m) := by
  refine ⟨fun e he => ?_, fun e he => ?_, fun e he => ?_, ?_, fun i hi => ?_, fun j hj => ?_⟩
  · obtain ⟨k, h1, h2, h3, h4, h5⟩ := evsM_mem he
    refine ⟨h3, ?_⟩
    by_cases q : k < n
    · have : k ∈ e.f := by rw [h4]; exact List.mem_filter.2 ⟨List.mem_range.2 q, by simp⟩
      have := List.length_pos_of_mem this; omega
    · have : k - n ∈ e.t := by rw [h5]; exact List.mem_filter.2 ⟨List.mem_range.2 (by omega), by simp [show n + (k - n) = k by omega]⟩
      have := List.length_pos_of_mem this; omega
  · obtain ⟨k, h1, h2, h3, h4, h5⟩ := evsM_mem he
    rw [h4]
    exact ⟨sorted_filter, fun i hi => List.mem_range.1 (List.mem_filter.1 hi).1⟩
  · obtain ⟨k, h1, h2, h3, h4, h5⟩ := evsM_mem he
    rw [h5]
    exact ⟨sorted_filter, fun i hi => List.mem_range.1 (List.mem_filter.1 hi).1⟩
  · unfold evsM evT
    rw [List.map_map]
    refine List.pairwise_map.2 ((firsts_nodup (κ := κ) (t := n + m)).imp_of_mem fun {a b} ha hb hab => ?_)
    have hne : κ a ≠ κ b := fun e => hab (firsts_eq ha hb e)
    refine ⟨fun i h1 h2 => ?_, fun j h1 h2 => ?_⟩
    · have h1 := (List.mem_filter.1 h1).2
      have h2 := (List.mem_filter.1 h2).2
      exact hne ((of_decide_eq_true h1).symm.trans (of_decide_eq_true h2))
    · have h1 := (List.mem_filter.1 h1).2
      have h2 := (List.mem_filter.1 h2).2
      exact hne ((of_decide_eq_true h1).symm.trans (of_decide_eq_true h2))
  · obtain ⟨k, k1, k2, k3⟩ := first_of κ i
    have hk : k ∈ firsts κ (n + m) := mem_firsts.2 ⟨by omega, by unfold isFirst at k3; exact of_decide_eq_true k3⟩
    refine ⟨{ evF κ n (n + m) k with kd := kindM (evF κ n (n + m) k).f.length (evF κ n (n + m) k).t.length }, ?_, ?_⟩
    · unfold evsM evT; rw [List.map_map]; exact List.mem_map.2 ⟨k, hk, rfl⟩
    · exact List.mem_filter.2 ⟨List.mem_range.2 (by omega), decide_eq_true k2.symm⟩
  · obtain ⟨k, k1, k2, k3⟩ := first_of κ (n + j)
    have hk : k ∈ firsts κ (n + m) := mem_firsts.2 ⟨by omega, by unfold isFirst at k3; exact of_decide_eq_true k3⟩
    refine ⟨{ evF κ n (n + m) k with kd := kindM (evF κ n (n + m) k).f.length (evF κ n (n + m) k).t.length }, ?_, ?_⟩
    · unfold evsM evT; rw [List.map_map]; exact List.mem_map.2 ⟨k, hk, rfl⟩
    · exact List.mem_filter.2 ⟨List.mem_range.2 (by omega), decide_eq_true k2.symm⟩
end
theorem EvP.good {W H r : Nat} {oa ob : List Int} {n m : Nat} {l : List EvM} (h : EvP W H r oa ob n m l) : GoodEv n m l := by
  obtain ⟨ld,_, rfl⟩ := h.ex
  exact evsM_good
end Go.Proofs.Ytgemekpofpoopaa

namespace Go.SL
set_option linter.unusedVariables false
open Go.RowKit
section
variable {P : Program} {β : Bs} {env : Env} {L L' : List Res}
variable {ty : TypeId} {pos : String} {aft : Array Edge} {dd : Option Nat}
/-- append(x, y...), x empty and owned, y read. -/
theorem HO.appN0 {α : Type} {f : α → List Value} {m : List α} (i : Nat) (LF : Res → List Res) {K : Value → List Res → Prop} {x y : Operand} {T T' E z by_ : Nat} {aT : Array TypeId} {zero : Value} {p q : Option Addr} {n2 cap c2 : Nat} (hT : IsSlice P T E) (hT' : IsSlice P T' E) (hE : EInfo P E z by_ zero) (hx : OV env x (.slice p 0 cap)) (hy : OV env y (.slice q n2 c2))
    (hi : L[i]? = some (own E z p cap [])) (hq : ∀ w, St β L w → Go.SL.Rows w z q (m.map f)) (hz : ∀ a, (f a).length = z) (h1 : ∀ a, allOne (f a) = true) (ha0 : aT[0]? = some T) (ha1 : aT[1]? = some T') (hL : ∀ R : Res, L.set i R = LF R) (hn2 : n2 = m.length) (hs : (2 * n2 + 768) * by_ ≤ 281474976710656)
    (k : ∀ p' cap', (m ≠ [] ∨ p ≠ none → p' ≠ none) → K (.slice p' n2 cap') (LF (own E z p' cap' (m.map f)))) : HO P β env L ⟨dd, .call ⟨.builtin .append, #[x, y], aT⟩, ty, pos, aft, none⟩ K :=
  HO.appN (f := f) (l := []) (m := m) i LF hT hT' hE hx hy hi hq hz h1 ha0 ha1 hL rfl hn2 (by rw [Nat.zero_add]; exact hs) (fun p' c' h => by rw [Nat.zero_add]; exact k p' c' h)
end
end Go.SL

namespace Go.Cell
set_option linter.unusedVariables false
section
variable {W H : Nat} {M S T : Nat → Bool} {C : Nat → Nat} {p n q r : Nat}
theorem Gp.cn (h : Gp W H M C p n q) : Cn W H M p q := by
  induction h with
  | start h => exact .refl h
  | step _ h2 h3 ih => exact .step ih h2 h3
theorem Cn.gp (h : Cn W H M p q) : ∃ n, Gp W H M C p n q := by
  induction h with
  | refl h => exact ⟨_, .start h⟩
  | step _ h2 h3 ih => obtain ⟨n, k⟩ := ih; exact ⟨_, .step k h2 h3⟩
theorem Gp.zero (hC : ∀ x, C x = 0 → S x = true) (h : Gp W H M C p n q) : n = 0 → Cn W H S p q := by
  induction h with
  | start h => intro e; exact .refl (hC _ e)
  | step h1 h2 h3 ih => intro e; exact .step (ih (by omega)) h2 (hC _ (by omega))
theorem Cn.gp0 (hC : ∀ x, S x = true → C x = 0) (hp : p < W * H) (hSM : ∀ x, x < W * H → S x = true → M x = true) (h : Cn W H S p q) : Gp W H M C p 0 q := by
  induction h with
  | refl h => have k : Gp W H M C p (C p) p := .start (hSM _ hp h); rw [hC _ h] at k; exact k
  | step h1 h2 h3 ih => have k := Gp.step ih h2 (hSM _ (nb_lt (h1.lt hp) h2) h3); rw [hC _ h3] at k; exact k
theorem gap_zero {c : Int} (hC : ∀ x, C x = 0 ↔ S x = true) (hp : p < W * H) (hSM : ∀ x, x < W * H → S x = true → M x = true) (h : IsGap W H M C p q c) : c = 0 ↔ Cn W H S p q := by
  constructor
  · intro e
    rcases h with ⟨e2, h⟩ | ⟨n, e2, h1, h2⟩
    · omega
    · exact h1.zero (fun x => (hC x).1) (by omega)
  · intro k
    have g := k.gp0 (C := C) (fun x => (hC x).2) hp hSM
    rcases h with ⟨e2, h⟩ | ⟨n, e2, h1, h2⟩
    · exact absurd g (h 0)
    · have := h2 0 g; omega
theorem gap_neg {c : Int} (h : IsGap W H M C p q c) : c = -1 ↔ ¬ Cn W H M p q := by
  constructor
  · intro e k
    obtain ⟨n, g⟩ := k.gp (C := C)
    rcases h with ⟨e2, h⟩ | ⟨n, e2, h1, h2⟩
    · exact h n g
    · omega
  · intro k
    rcases h with ⟨e2, h⟩ | ⟨n, e2, h1, h2⟩
    · exact e2
    · exact absurd h1.cn k
/-- A way that meets no pixel twice. -/
theorem simple_way (hp : p < W * H) (hT : T p = true) (hTM : ∀ x, x < W * H → T x = true → M x = true) : ∀ k x, x ∈ clo W H T p k → ∃ l : List Nat, l.Nodup ∧ (∀ y, y ∈ l → y ∈ clo W H T p k) ∧ Gp W H M C p (l.map C).sum x
  | 0, x, hx => by
    have : x = p := by simpa [clo] using hx
    subst this
    exact ⟨[x], by simp, fun y hy => by have : y = x := by simpa using hy
                                        subst this; exact hx, by simpa using Gp.start (hTM _ hp hT)⟩
  | k + 1, x, hx => by
    by_cases z : x ∈ clo W H T p k
    · obtain ⟨l, h1, h2, h3⟩ := simple_way hp hT hTM k x z
      exact ⟨l, h1, fun y hy => clo_mono hp (h2 y hy), h3⟩
    · rcases mem_grow.1 hx with ⟨g1, g2 | ⟨g2, r, g3, g4⟩⟩
      · exact absurd g2 z
      · obtain ⟨l, h1, h2, h3⟩ := simple_way hp hT hTM k r g4
        refine ⟨l ++ [x], ?_, ?_, ?_⟩
        · refine List.nodup_append.2 ⟨h1, by simp, fun a ha b hb e => ?_⟩
          have : b = x := by simpa using hb
          subst this; subst e
          exact z (h2 _ ha)
        · intro y hy
          rcases List.mem_append.1 hy with q | q
          · exact clo_mono hp (h2 y q)
          · have : y = x := by simpa using q
            subst this; exact hx
        · rw [List.map_append, List.sum_append]
          have := Gp.step h3 (nb_symm g1 g3) (hTM _ g1 g2)
          simpa using this
/-- The pixels of a set that cost one. -/
def extraN (n : Nat) (T : Nat → Bool) (C : Nat → Nat) : Nat := ((List.range n).filter fun x => T x && decide (C x = 1)).length
theorem sum_one (hC : ∀ x, C x ≤ 1) : ∀ l : List Nat, (l.map C).sum = (l.filter fun x => decide (C x = 1)).length
  | [] => rfl
  | a :: l => by
    rw [List.map_cons, List.sum_cons, sum_one hC l, List.filter_cons]
    have := hC a
    by_cases h : C a = 1
    · rw [if_pos (by simpa using h), List.length_cons]; omega
    · rw [if_neg (by simpa using h)]; omega
theorem gap_le {c : Int} (hC : ∀ x, C x ≤ 1) (hp : p < W * H) (hTM : ∀ x, x < W * H → T x = true → M x = true) (h : Cn W H T p q) (hg : IsGap W H M C p q c) : c ≤ extraN (W * H) T C := by
  have hT := h.left
  obtain ⟨l, h1, h2, h3⟩ := simple_way (C := C) hp hT hTM (W * H) q ((mem_compL hp hT).2 h)
  have hs : (l.map C).sum ≤ extraN (W * H) T C := by
    rw [sum_one hC]
    refine length_le_of_subset (h1.filter _) fun x hx => ?_
    obtain ⟨k1, k2⟩ := List.mem_filter.1 hx
    have k3 := (mem_compL hp hT).1 (h2 x k1)
    exact List.mem_filter.2 ⟨List.mem_range.2 (k3.lt hp), by rw [k3.right]; simpa using k2⟩
  rcases hg with ⟨e2, h⟩ | ⟨n, e2, g1, g2⟩
  · exact absurd h3 (h _)
  · have := g2 _ h3; omega
end
end Go.Cell
