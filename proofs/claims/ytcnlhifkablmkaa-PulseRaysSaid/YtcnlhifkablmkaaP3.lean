/-
  Truths behind samples.
-/
import Derived.Test.YtcnlhifkablmkaaP2
namespace Go.Proofs.Ytcnlhifkablmkaa
open Go.SL Go.Proofs Go.Pulse
set_option linter.unusedVariables false



structure Q4 where
  a : Int
  b : Int
  c : Int
  d : Int
def z4 : Q4 := ⟨0, 0, 0, 0⟩
def q4C (q : Q4) : List Value := [.int .u16 q.a, .int .u16 q.b, .int .u16 q.c, .int .u16 q.d]
def q4Ok (q : Q4) : Prop := (0 ≤ q.a ∧ q.a ≤ 65535) ∧ (0 ≤ q.b ∧ q.b ≤ 65535) ∧ (0 ≤ q.c ∧ q.c ≤ 65535) ∧ 0 ≤ q.d ∧ q.d ≤ 65535
def offV (d n : Int) : Int := d.tmod (2 * n + 1) - n
theorem offV_bd {d n : Int} (hd : 0 ≤ d) (hn : 0 ≤ n) : -n ≤ offV d n ∧ offV d n ≤ n := by
  have := tmod_in (a := d) (b := 2 * n + 1) hd (by omega)
  unfold offV; omega
def truthV (x : Sample) (r : Recv) (q : Q4) : Sample := ⟨min 1023 (max 0 (x.h + offV q.a r.level)), wr (x.p + offV q.b r.phase), min 1023 (max 0 (x.v + offV q.c r.level)), wr (x.q + offV q.d r.phase)⟩
def pickQ (ds : List Q4) (i : Nat) : Q4 := if ds = [] then z4 else ds.getD (i % ds.length) z4
def truthL (l : List Sample) (r : Recv) (ds : List Q4) : List Sample := (List.range l.length).map fun i => truthV (l.getD i zSm) r (pickQ ds i)
theorem pickQ_ok {ds : List Q4} (h : ∀ q ∈ ds, q4Ok q) (i : Nat) : q4Ok (pickQ ds i) := by
  unfold pickQ
  by_cases e : ds = []
  · rw [if_pos e]; unfold q4Ok z4; dsimp only; omega
  · rw [if_neg e]
    have hn : 0 < ds.length := by cases ds with | nil => exact absurd rfl e | cons => simp
    exact h _ (getD_mem (Nat.mod_lt _ hn))
section
variable {l : List Sample} {r : Recv} {ds : List Q4} {t : Train}
theorem truthL_len : (truthL l r ds).length = l.length := by unfold truthL; simp
theorem truthL_get {i : Nat} (hi : i < l.length) : (truthL l r ds).getD i zSm = truthV (l.getD i zSm) r (pickQ ds i) := by
  unfold truthL
  rw [List.getD_eq_getElem?_getD, List.getElem?_map, List.getElem?_range hi]; rfl
theorem truth_ok {x : Sample} {q : Q4} (hx : smpOk x) : smpOk (truthV x r q) := by
  unfold smpOk truthV
  dsimp only
  have a := wr_bd (x.p + offV q.b r.phase)
  have b := wr_bd (x.q + offV q.d r.phase)
  omega
theorem truthL_ok (hs : ∀ x ∈ l, smpOk x) : ∀ x ∈ truthL l r ds, smpOk x := fun x hx => by
  unfold truthL at hx
  obtain ⟨i, hi, rfl⟩ := List.mem_map.1 hx
  exact truth_ok (hs _ (getD_mem (by simpa using hi)))
theorem mx_mono {x y x' y' : Int} (h : x ≤ x') (k : y ≤ y') : max 0 x * max 0 y ≤ max 0 x' * max 0 y' := Int.mul_le_mul (by omega) (by omega) (by omega) (by omega)
theorem Bet.truth {pt : Int} (hr : recvOk r) (hs : ∀ x ∈ l, smpOk x) (hq : ∀ q ∈ ds, q4Ok q) (h1 : r.nlo ≤ pt) (h2 : pt ≤ r.nhi) : Bet r ⟨0, 0, pt, pt⟩ l (truthL l r ds) := by
  have hr1 := hr
  unfold recvOk at hr1
  have key : ∀ i, i < l.length → (((truthL l r ds).getD i zSm).h ≤ (l.getD i zSm).h + r.level ∧ (l.getD i zSm).h - r.level ≤ ((truthL l r ds).getD i zSm).h) ∧ ((truthL l r ds).getD i zSm).v ≤ (l.getD i zSm).v + r.level ∧ (l.getD i zSm).v - r.level ≤ ((truthL l r ds).getD i zSm).v := fun i hi => by
    rw [truthL_get hi]
    have q := pickQ_ok hq i
    have x := hs _ (getD_mem (d := zSm) hi)
    unfold q4Ok at q
    unfold smpOk at x
    have a := offV_bd (d := (pickQ ds i).a) (n := r.level) (by omega) (by omega)
    have c := offV_bd (d := (pickQ ds i).c) (n := r.level) (by omega) (by omega)
    unfold truthV
    dsimp only
    omega
  refine ⟨hr, ?_, hs, truthL_ok hs, truthL_len, ?_, ?_, ?_, ?_, ?_, ?_, h1, h2⟩
  · unfold recvOk; dsimp only; omega
  · exact sum_le2 (d := zSm) truthL_len fun i hi => mx_mono (by have := key i hi; dsimp only; omega) (by have := key i hi; dsimp only; omega)
  · exact sum_le2 (d := zSm) truthL_len.symm fun i hi => by rw [truthL_len] at hi; exact mx_mono (by have := key i hi; dsimp only; omega) (by have := key i hi; dsimp only; omega)
  · exact sum_le2 (d := zSm) truthL_len fun i hi => mx_mono (by have := key i hi; dsimp only; omega) (by have := key i hi; dsimp only; omega)
  · exact sum_le2 (d := zSm) truthL_len.symm fun i hi => by rw [truthL_len] at hi; exact mx_mono (by have := key i hi; dsimp only; omega) (by have := key i hi; dsimp only; omega)
  · exact sum_le2 (d := zSm) truthL_len fun i hi => mx_mono (by have := key i hi; dsimp only; omega) (by have := key i hi; dsimp only; omega)
  · exact sum_le2 (d := zSm) truthL_len.symm fun i hi => by rw [truthL_len] at hi; exact mx_mono (by have := key i hi; dsimp only; omega) (by have := key i hi; dsimp only; omega)
end
theorem tele {o : Nat → Int} {a b : Nat} (hab : a ≤ b) : ∀ m : Nat, (((List.range m).filter fun i => decide (a ≤ i ∧ i < b)).map fun i => o (i + 1) - o i).sum = o (max a (min m b)) - o a
  | 0 => by simp
  | m + 1 => by
    have ih := tele (o := o) hab m
    rw [List.range_succ, List.filter_append, List.map_append, List.sum_append, ih]
    by_cases h : a ≤ m ∧ m < b
    · rw [show max a (min m b) = m by omega, show max a (min (m + 1) b) = m + 1 by omega]
      simp [h]; omega
    · rw [show max a (min (m + 1) b) = max a (min m b) by omega]
      simp [h]
def stI (k : Int) (n : Nat) (w : Int) : List Nat := (List.range (n - 1)).filter fun i => decide (stW k n i = w)
theorem map_idx {α β : Type} {f : α → β} {d : α} (l : List α) : l.map f = (List.range l.length).map fun i => f (l.getD i d) := by
  refine List.ext_getElem (by simp) fun i h1 h2 => ?_
  simp only [List.length_map] at h1
  simp [List.getD_eq_getElem?_getD, List.getElem?_eq_getElem h1]

end Go.Proofs.Ytcnlhifkablmkaa
