/-
  A truth lies within what is heard.
-/
import Derived.Test.YtcnlhifkablmkaaP3
namespace Go.Proofs.Ytcnlhifkablmkaa
open Go.SL Go.Proofs Go.Pulse
set_option linter.unusedVariables false



def turnD (l : List Sample) (i : Nat) : Int := wr ((l.getD i zSm).q - (l.getD i zSm).p)
def oV (r : Recv) (ds : List Q4) (i : Nat) : Int := offV (pickQ ds i).b r.phase
def uV (r : Recv) (ds : List Q4) (i : Nat) : Int := offV (pickQ ds i).d r.phase
section
variable {l : List Sample} {r : Recv} {ds : List Q4} {t : Train} {k w : Int}
theorem oV_bd (hr : recvOk r) (hq : ∀ q ∈ ds, q4Ok q) (i : Nat) : (-r.phase ≤ oV r ds i ∧ oV r ds i ≤ r.phase) ∧ -r.phase ≤ uV r ds i ∧ uV r ds i ≤ r.phase := by
  have q := pickQ_ok hq i
  unfold q4Ok at q
  unfold recvOk at hr
  exact ⟨offV_bd (by omega) (by omega), offV_bd (by omega) (by omega)⟩
theorem stD_truth {i : Nat} (hi : i + 1 < l.length) : stD (truthL l r ds) i = wr (stD l i + (oV r ds (i + 1) - oV r ds i)) := by
  unfold stD
  rw [truthL_get hi, truthL_get (by omega)]
  unfold truthV oV
  dsimp only
  unfold wr; omega
theorem stL_I : stL k l w = (stI k l.length w).map (stD l) := rfl
theorem stI_lt {n i : Nat} (hi : i ∈ stI k n w) : i + 1 < n := by
  have := (List.mem_filter.1 hi).1
  rw [List.mem_range] at this; omega
theorem stL_truth : stL k (truthL l r ds) w = (stI k l.length w).map fun i => wr (stD l i + (oV r ds (i + 1) - oV r ds i)) := by
  rw [stL_I, truthL_len]
  exact List.map_congr_left fun i hi => stD_truth (stI_lt hi)
theorem turnL_I : turnL l = (List.range l.length).map (turnD l) := map_idx (f := fun x : Sample => wr (x.q - x.p)) (d := zSm) l
theorem turnL_truth : turnL (truthL l r ds) = (List.range l.length).map fun i => wr (turnD l i + (uV r ds i - oV r ds i)) := by
  rw [turnL_I, truthL_len]
  refine List.map_congr_left fun i hi => ?_
  rw [List.mem_range] at hi
  unfold turnD
  rw [truthL_get hi]
  unfold truthV oV uV
  dsimp only
  unfold wr; omega
theorem stI_ab (n : Nat) (hk : k = 1 ∨ k = 2) (hw : w = 0 ∨ w = 1) : ∃ a b : Nat, a ≤ b ∧ stI k n w = (List.range (n - 1)).filter fun i => decide (a ≤ i ∧ i < b) := by
  have key : ∀ a b : Nat, a ≤ b → (∀ i, i < n - 1 → (stW k n i = w ↔ (a ≤ i ∧ i < b))) → ∃ a b : Nat, a ≤ b ∧ stI k n w = (List.range (n - 1)).filter fun i => decide (a ≤ i ∧ i < b) := fun a b hab h => ⟨a, b, hab, List.filter_congr fun i hi => by
    rw [List.mem_range] at hi
    exact decide_eq_decide.2 (h i hi)⟩
  rcases hk with rfl | rfl
  · rcases hw with rfl | rfl
    · exact key 0 n (by omega) fun i hi => by unfold stW; rw [if_pos rfl]; omega
    · exact key 0 0 (by omega) fun i hi => by unfold stW; rw [if_pos rfl]; omega
  · rcases hw with rfl | rfl
    · exact key 0 (n / 2 - 1) (by omega) fun i hi => by
        unfold stW; rw [if_neg (by decide), if_pos rfl]
        by_cases p : i + 1 = n / 2
        · rw [if_pos p]; omega
        · rw [if_neg p]
          by_cases q : n / 2 ≤ i
          · rw [if_pos q]; omega
          · rw [if_neg q]; omega
    · exact key (n / 2) n (by omega) fun i hi => by
        unfold stW; rw [if_neg (by decide), if_pos rfl]
        by_cases p : i + 1 = n / 2
        · rw [if_pos p]; omega
        · rw [if_neg p]
          by_cases q : n / 2 ≤ i
          · rw [if_pos q]; omega
          · rw [if_neg q]; omega
theorem stI_sum (hk : kndOk t.kind) (hw : w = 0 ∨ w = 1) (hr : recvOk r) (hq : ∀ q ∈ ds, q4Ok q) :
    -(slk t r (stL t.kind l w)) ≤ ((stI t.kind l.length w).map fun i => oV r ds (i + 1) - oV r ds i).sum ∧ ((stI t.kind l.length w).map fun i => oV r ds (i + 1) - oV r ds i).sum ≤ slk t r (stL t.kind l w) := by
  by_cases h3 : t.kind = 3
  · have s := sum_abs (f := fun i => oV r ds (i + 1) - oV r ds i) (B := 2 * r.phase) (l := stI t.kind l.length w) (fun i _ => by
      have a := oV_bd (ds := ds) hr hq i
      have b := oV_bd (ds := ds) hr hq (i + 1)
      omega)
    unfold slk
    rw [if_pos h3, stL_I, List.length_map]
    exact s
  · unfold kndOk at hk
    obtain ⟨a, b, hab, e⟩ := stI_ab (k := t.kind) (w := w) l.length (by omega) hw
    rw [e, tele hab]
    have p := oV_bd (ds := ds) hr hq (max a (min (l.length - 1) b))
    have q := oV_bd (ds := ds) hr hq a
    unfold slk
    rw [if_neg h3]; omega
end
theorem arc_truth {I : List Nat} {d e : Nat → Int} {f sl : Int} (hf : 0 ≤ f) (he : ∀ i ∈ I, -(2 * f) ≤ e i ∧ e i ≤ 2 * f) (h0 : 0 ≤ sl) (h1 : I.map d ≠ [] → sl ≤ 8192 * ((I.map d).length : Int)) (hS : -sl ≤ (I.map e).sum ∧ (I.map e).sum ≤ sl) (hg : tog (I.map d) f) :
    tog (I.map fun i => wr (d i + e i)) 0 ∧ turnIn (meanS (I.map fun i => wr (d i + e i)) 0) (meanS (I.map d) sl) := by
  by_cases hI : I = []
  · subst hI
    refine ⟨.inl rfl, ?_⟩
    rw [List.map_nil, List.map_nil, meanS_nil, meanS_nil]
    exact ⟨by decide, 0, by decide, by decide, by decide⟩
  · have hs : I.map d ≠ [] := fun q => hI (List.map_eq_nil_iff.1 q)
    have hw : (arcR (I.map d)).2 + 2 * (2 * f) < 32768 := by
      rcases hg with q | q
      · exact absurd q hs
      · omega
    obtain ⟨k1, K, k2⟩ := arc_move (d := d) (E := 2 * f) hI he (by omega) hw
    exact ⟨.inr (by omega), mean_move (K := K) hs (by simp) h0 (h1 hs) hS (by rw [k2, List.length_map])⟩
theorem wid_truth {I : List Nat} {d e : Nat → Int} {E : Int} (hd : ∀ i ∈ I, inT (d i)) (he : ∀ i ∈ I, -E ≤ e i ∧ e i ≤ E) (hE : 0 ≤ E) : wid (I.map fun i => wr (d i + e i)) ≤ wid (I.map d) + 2 * E ∧ wid (I.map d) ≤ wid (I.map fun i => wr (d i + e i)) + 2 * E := by
  by_cases hI : I = []
  · subst hI; simp [wid]; omega
  · have hs : I.map d ≠ [] := fun q => hI (List.map_eq_nil_iff.1 q)
    have hs' : (I.map fun i => wr (d i + e i)) ≠ [] := fun q => hI (List.map_eq_nil_iff.1 q)
    have a := arc_wid (d := d) (e := e) hI he hE
    have b := arc_wid (d := fun i => wr (d i + e i)) (e := fun i => -e i) (E := E) hI (fun i hi => by have := he i hi; omega) hE
    have c : (I.map fun i => wr (wr (d i + e i) + -e i)) = I.map d := List.map_congr_left fun i hi => by
      have := hd i hi
      unfold inT at this
      unfold wr; omega
    rw [c] at b
    unfold wid
    rw [if_neg hs, if_neg hs']
    exact ⟨a, b⟩
theorem slk0 {t : Train} {pt : Int} {s : List Int} : slk t ⟨0, 0, pt, pt⟩ s = 0 := by unfold slk; split <;> simp
theorem truth_in {t : Train} {r : Recv} {l : List Sample} {ds : List Q4} {pt : Int} (hk : kndOk t.kind) (hr : recvOk r) (hn : 0 < (l.length : Int)) (hs : ∀ x ∈ l, smpOk x) (hq : ∀ q ∈ ds, q4Ok q) (h1 : r.nlo ≤ pt) (h2 : pt ≤ r.nhi) :
    echoIn (hearX t ⟨0, 0, pt, pt⟩ (truthL l r ds)) (hearX t r l) ∧ (((hearX t ⟨0, 0, pt, pt⟩ (truthL l r ds)).kind = 1 ∨ (hearX t r l).kind = 1) ∨ ((hearX t ⟨0, 0, pt, pt⟩ (truthL l r ds)).spread - (hearX t r l).spread ≤ 4 * r.phase ∧ (hearX t r l).spread - (hearX t ⟨0, 0, pt, pt⟩ (truthL l r ds)).spread ≤ 4 * r.phase)) := by
  have B := Bet.truth (ds := ds) hr hs hq h1 h2
  have P := B.pow0 hn
  have pb := pow_bd hr hn hs
  have hr1 := hr
  unfold recvOk at hr1
  have st : ∀ w : Int, ∀ i ∈ stI t.kind l.length w, -(2 * r.phase) ≤ oV r ds (i + 1) - oV r ds i ∧ oV r ds (i + 1) - oV r ds i ≤ 2 * r.phase := fun w i _ => by
    have a := oV_bd (ds := ds) hr hq i
    have b := oV_bd (ds := ds) hr hq (i + 1)
    omega
  have sp : spreadL t (truthL l r ds) - spreadL t l ≤ 4 * r.phase ∧ spreadL t l - spreadL t (truthL l r ds) ≤ 4 * r.phase := by
    have w0 := wid_truth (d := stD l) (e := fun i => oV r ds (i + 1) - oV r ds i) (fun i _ => wr_bd _) (st 0) (by omega)
    have w1 := wid_truth (d := stD l) (e := fun i => oV r ds (i + 1) - oV r ds i) (fun i _ => wr_bd _) (st 1) (by omega)
    unfold spreadL
    rw [stL_truth, stL_truth, stL_I, stL_I]
    omega
  unfold echoIn
  rw [hearX_pow, hearX_pow]
  by_cases hz : (pow0 r l).lo = 0
  · rw [hearX_1 hz]; exact ⟨⟨P, .inl rfl⟩, .inl (.inr rfl)⟩
  · have hz' : ¬ (pow0 ⟨0, 0, pt, pt⟩ (truthL l r ds)).lo = 0 := by have := P.2.1; omega
    have R := B.ratio hn (by omega)
    have M := B.mtch
    by_cases g : goodT t r l
    · have A0 := arc_truth (d := stD l) (e := fun i => oV r ds (i + 1) - oV r ds i) (f := r.phase) (by omega) (st 0) (slk_bd (t := t) (s := stL t.kind l 0) hr).1 (slk_bd (t := t) (s := stL t.kind l 0) hr).2 (stI_sum (l := l) hk (.inl rfl) hr hq) g.2.1
      have A1 := arc_truth (d := stD l) (e := fun i => oV r ds (i + 1) - oV r ds i) (f := r.phase) (by omega) (st 1) (slk_bd (t := t) (s := stL t.kind l 1) hr).1 (slk_bd (t := t) (s := stL t.kind l 1) hr).2 (stI_sum (l := l) hk (.inr rfl) hr hq) g.2.2
      have gT := g.1
      have bT := slkT_bd (l := l) hr
      rw [turnL_I] at gT bT
      have eT : ∀ i ∈ List.range l.length, -(2 * r.phase) ≤ uV r ds i - oV r ds i ∧ uV r ds i - oV r ds i ≤ 2 * r.phase := fun i _ => by
        have a := oV_bd (ds := ds) hr hq i
        omega
      have sT := sum_abs (f := fun i => uV r ds i - oV r ds i) eT
      rw [List.length_range] at sT
      have AT := arc_truth (d := turnD l) (e := fun i => uV r ds i - oV r ds i) (f := r.phase) (by omega) eT bT.1 bT.2 sT gT
      rw [← stL_truth] at A0 A1
      rw [← turnL_truth] at AT
      have g' : goodT t ⟨0, 0, pt, pt⟩ (truthL l r ds) := ⟨AT.1, A0.1, A1.1⟩
      rw [hearX_3 hz g, hearX_3 hz' g', slk0, slk0, show 2 * (Recv.mk 0 0 pt pt).phase * ((truthL l r ds).length : Int) = 0 by simp, turnL_I (l := l)]
      exact ⟨⟨P, .inr ⟨(show ¬ (3 : Int) = 1 by decide), R, M, .inr ⟨rfl, A0.2, A1.2, AT.2⟩⟩⟩, .inr sp⟩
    · rw [hearX_2 hz g]
      by_cases g' : goodT t ⟨0, 0, pt, pt⟩ (truthL l r ds)
      · rw [hearX_3 hz' g']; exact ⟨⟨P, .inr ⟨(show ¬ (3 : Int) = 1 by decide), R, M, .inl rfl⟩⟩, .inr sp⟩
      · rw [hearX_2 hz' g']; exact ⟨⟨P, .inr ⟨(show ¬ (2 : Int) = 1 by decide), R, M, .inl rfl⟩⟩, .inr sp⟩

end Go.Proofs.Ytcnlhifkablmkaa
