/-
  Clouds that are moved.
-/
import Derived.Test.YtdcjeoamhjplmaaWJ
import Derived.Test.YtdcjeoamhjplmaaSB
namespace Go.Proofs.Ytdcjeoamhjplmaa
open Go.SL Go.Proofs Go.Cast
set_option linter.unusedVariables false



/-- The larger grid, and where a pixel lies on it. -/
def hG (d : Draft) : Grid := ⟨0, 0, 1000, (dG d).wide + 3, (dG d).high + 3⟩
def phi0 (d : Draft) (q : Int) : Int := q.tdiv (dG d).wide * (hG d).wide + q.tmod (dG d).wide
def phi (d : Draft) (dx dy q : Int) : Int := (q.tdiv (dG d).wide + dy) * (hG d).wide + q.tmod (dG d).wide + dx
def mC (d : Draft) (s m : List Int) : Cloud := ⟨s, m, dF d, (dC d).grow⟩
theorem phi0_eq {d : Draft} : phi0 d = phi d 0 0 := by funext q; unfold phi0 phi; simp
theorem mv_step {f : Int → Int} {l la : List Int} {i : Nat} {mi : Int} (h : l[i]? = some mi) (ha : la = (l.take i).map f) : la ++ [f mi] = (l.take (i + 1)).map f := by
  rw [take_at h, List.map_append, ha]; rfl
theorem mul_h {a b : Int} (h1 : 1 ≤ a) (h2 : a ≤ 8) (h3 : 1 ≤ b) (h4 : b ≤ 8) : 16 ≤ (a + 3) * (b + 3) ∧ (a + 3) * (b + 3) ≤ 121 := by
  constructor
  · have := Int.mul_le_mul (show 4 ≤ a + 3 by omega) (show 4 ≤ b + 3 by omega) (by omega) (by omega); omega
  · have := Int.mul_le_mul (show a + 3 ≤ 11 by omega) (show b + 3 ≤ 11 by omega) (by omega) (by omega); omega
/-- A place that is in the grid, and in a list. -/
def At (g : Grid) (l : List Int) (x y : Int) : Prop := (0 ≤ x ∧ x ≤ g.wide - 1) ∧ (0 ≤ y ∧ y ≤ g.high - 1) ∧ y * g.wide + x ∈ l
section
variable {g : Grid} {c : Cloud} {p t : Int}
theorem state_all (hf : flowOk c.flow) (hr1 : 0 ≤ c.grow) (hr2 : c.grow ≤ 10000) (ht : 0 ≤ t) (hs1 : memB c.sure (-1) = false) : stateOf g c p t = 2 ↔ ∀ v u, (comeLo c.flow.c c.grow t ≤ v ∧ v ≤ comeHi c.flow.d c.grow t) → (comeLo c.flow.a c.grow t ≤ u ∧ u ≤ comeHi c.flow.b c.grow t) → At g c.sure (p.tmod g.wide - u) (p.tdiv g.wide - v) := by
  have e1 : stateOf g c p t = 2 ↔ (srcs g c p t).all (memB c.sure) = true := by
    unfold stateOf; split
    · simp_all
    · rename_i h; constructor
      · intro k; split at k <;> omega
      · intro k; exact absurd k h
  rw [e1, ← all_iff hf hr1 hr2 ht hs1]
  have ok : ∀ v u, okA g c p v u = true ↔ At g c.sure (p.tmod g.wide - u) (p.tdiv g.wide - v) := fun v u => by
    unfold okA inG At memB; simp only [Bool.and_eq_true, decide_eq_true_eq]; exact and_assoc
  obtain ⟨⟨hfa, hfb, hfc⟩, hfd, hfe, hff⟩ := hf
  have b1 := come_far (f := c.flow.a) (c := c) (by omega) (by omega) hr1 hr2 ht
  have b2 := come_far (f := c.flow.b) (c := c) (by omega) (by omega) hr1 hr2 ht
  have b3 := come_far (f := c.flow.c) (c := c) (by omega) (by omega) hr1 hr2 ht
  have b4 := come_far (f := c.flow.d) (c := c) (by omega) (by omega) hr1 hr2 ht
  constructor
  · intro k v u hv hu
    exact (ok v u).1 (k v (by omega) (by omega) (lead_iff.2 hv) u (by omega) (by omega) (lead_iff.2 hu))
  · intro k v h1 h2 h3 u h4 h5 h6
    exact (ok v u).2 (k v u (lead_iff.1 h3) (lead_iff.1 h6))
theorem state_some (hf : flowOk c.flow) (hr1 : 0 ≤ c.grow) (hr2 : c.grow ≤ 10000) (ht : 0 ≤ t) (hm1 : memB c.may (-1) = false) : (srcs g c p t).any (memB c.may) = true ↔ ∃ v u, (comeLo c.flow.c c.grow t ≤ v ∧ v ≤ comeHi c.flow.d c.grow t) ∧ (comeLo c.flow.a c.grow t ≤ u ∧ u ≤ comeHi c.flow.b c.grow t) ∧ At g c.may (p.tmod g.wide - u) (p.tdiv g.wide - v) := by
  rw [← any_iff hf hr1 hr2 ht hm1]
  have ok : ∀ v u, okM g c p v u = true ↔ At g c.may (p.tmod g.wide - u) (p.tdiv g.wide - v) := fun v u => by
    unfold okM inG At memB; simp only [Bool.and_eq_true, decide_eq_true_eq]; exact and_assoc
  obtain ⟨⟨hfa, hfb, hfc⟩, hfd, hfe, hff⟩ := hf
  have b1 := come_far (f := c.flow.a) (c := c) (by omega) (by omega) hr1 hr2 ht
  have b2 := come_far (f := c.flow.b) (c := c) (by omega) (by omega) hr1 hr2 ht
  have b3 := come_far (f := c.flow.c) (c := c) (by omega) (by omega) hr1 hr2 ht
  have b4 := come_far (f := c.flow.d) (c := c) (by omega) (by omega) hr1 hr2 ht
  constructor
  · rintro ⟨v, h1, h2, h3, u, h4, h5, h6, h7⟩
    exact ⟨v, u, lead_iff.1 h3, lead_iff.1 h6, (ok v u).1 h7⟩
  · rintro ⟨v, u, hv, hu, h⟩
    exact ⟨v, by omega, by omega, lead_iff.2 hv, u, by omega, by omega, lead_iff.2 hu, (ok v u).2 h⟩
/-- Two states are equal if all that they ask is. -/
theorem state_cg {g' : Grid} {c' : Cloud} {p' t' : Int} (h1 : stateOf g c p t = 2 ↔ stateOf g' c' p' t' = 2) (h2 : (srcs g c p t).any (memB c.may) = true ↔ (srcs g' c' p' t').any (memB c'.may) = true) : stateOf g c p t = stateOf g' c' p' t' := by
  by_cases q : stateOf g c p t = 2
  · rw [q, h1.1 q]
  · have q' : ¬ stateOf g' c' p' t' = 2 := fun k => q (h1.2 k)
    unfold stateOf at *
    by_cases r : (srcs g c p t).all (memB c.sure) = true
    · rw [if_pos r] at q; exact absurd rfl q
    · by_cases r' : (srcs g' c' p' t').all (memB c'.sure) = true
      · rw [if_pos r'] at q'; exact absurd rfl q'
      · rw [if_neg r, if_neg r']
        by_cases s : (srcs g c p t).any (memB c.may) = true
        · rw [if_pos s, if_pos (h2.1 s)]
        · rw [if_neg s, if_neg (fun k => s (h2.2 k))]
end
section
variable {d : Draft} {dx dy q p t : Int}
theorem dmem_bd (hd : dOk d) (hc : cloudE (dG d) (dC d) = 0) {l : List Int} {n : Int} (f : n ∈ l → n ∈ (dC d).may) (h : n ∈ l) : (0 ≤ n ∧ n < dW d * dH d) ∧ (0 ≤ n.tmod (dG d).wide ∧ n.tmod (dG d).wide < dW d) ∧ 0 ≤ n.tdiv (dG d).wide ∧ n.tdiv (dG d).wide < dH d := by
  have h1 := (sure_may hc).2 n (f h)
  have e : (dG d).wide * (dG d).high = dW d * dH d := rfl
  have h2 := tmod_bd (g := dG d) (p := n) (dG_ok hd) h1.1 (by omega)
  exact ⟨⟨h1.1, by omega⟩, h2⟩
theorem phi_div (hw : 1 ≤ dW d) (hx : 0 ≤ q.tmod (dG d).wide ∧ q.tmod (dG d).wide < dW d) (hy : 0 ≤ q.tdiv (dG d).wide) (h1 : 0 ≤ dx) (h2 : dx ≤ 3) (h3 : 0 ≤ dy) : (phi d dx dy q).tmod (hG d).wide = q.tmod (dG d).wide + dx ∧ (phi d dx dy q).tdiv (hG d).wide = q.tdiv (dG d).wide + dy := by
  have hwd : (hG d).wide = dW d + 3 := rfl
  have h0 : 0 ≤ (q.tdiv (dG d).wide + dy) * (hG d).wide := Int.mul_nonneg (by omega) (by omega)
  have hn : 0 ≤ phi d dx dy q := by unfold phi; omega
  have e : phi d dx dy q = (q.tmod (dG d).wide + dx) + (hG d).wide * (q.tdiv (dG d).wide + dy) := by unfold phi; rw [Int.mul_comm]; omega
  rw [Int.tmod_eq_emod_of_nonneg hn, Int.tdiv_eq_ediv_of_nonneg hn, e, Int.add_mul_emod_self_left, Int.add_mul_ediv_left _ _ (by omega), Int.emod_eq_of_lt (by omega) (by omega), Int.ediv_eq_zero_of_lt (by omega) (by omega)]
  omega
theorem phi_bd (hd : dOk d) (h1 : 0 ≤ dx) (h2 : dx ≤ 3) (h3 : 0 ≤ dy) (h4 : dy ≤ 3) (hq1 : 0 ≤ q) (hq2 : q < dW d * dH d) : 0 ≤ phi d dx dy q ∧ phi d dx dy q < (dW d + 3) * (dH d + 3) := by
  have hw := dW_bd hd.1.1
  have hx := tmod_bd (g := dG d) (p := q) (dG_ok hd) hq1 hq2
  have hgw : (dG d).wide = dW d := rfl
  have hgh : (dG d).high = dH d := rfl
  have hwd : (hG d).wide = dW d + 3 := rfl
  have h0 : 0 ≤ (q.tdiv (dG d).wide + dy) * (hG d).wide := Int.mul_nonneg (by omega) (by omega)
  have h5 : (q.tdiv (dG d).wide + dy) * (hG d).wide ≤ (dH d + 2) * (dW d + 3) := by rw [hwd]; exact Int.mul_le_mul_of_nonneg_right (by omega) (by omega)
  have h6 : (dW d + 3) * (dH d + 3) = (dH d + 2) * (dW d + 3) + (dW d + 3) := by rw [Int.mul_comm, show dH d + 3 = (dH d + 2) + 1 by omega, Int.add_mul, Int.one_mul]
  unfold phi; omega
theorem phi_lt (hd : dOk d) (h1 : 0 ≤ dx) (h2 : dx ≤ 3) (h3 : 0 ≤ dy) {r : Int} (hq1 : 0 ≤ q) (hqr : q < r) (hr : r < dW d * dH d) : phi d dx dy q < phi d dx dy r := by
  have hw := dW_bd hd.1.1
  have hx := tmod_bd (g := dG d) (p := q) (dG_ok hd) hq1 (by show q < dW d * dH d; omega)
  have hy := tmod_bd (g := dG d) (p := r) (dG_ok hd) (by omega) hr
  have hgw : (dG d).wide = dW d := rfl
  have hwd : (hG d).wide = dW d + 3 := rfl
  have e1 := Int.mul_tdiv_add_tmod q (dG d).wide
  have e2 := Int.mul_tdiv_add_tmod r (dG d).wide
  unfold phi
  rw [hwd]
  generalize q.tdiv (dG d).wide = a at *
  generalize r.tdiv (dG d).wide = b at *
  rw [hgw] at *
  have hab : a ≤ b := by
    rcases Int.lt_or_le b a with k | k
    · have : dW d * (b + 1) ≤ dW d * a := Int.mul_le_mul_of_nonneg_left (by omega) (by omega)
      rw [Int.mul_add, Int.mul_one] at this; omega
    · exact k
  rcases Int.lt_or_eq_of_le hab with k | k
  · have : (a + dy + 1) * (dW d + 3) ≤ (b + dy) * (dW d + 3) := Int.mul_le_mul_of_nonneg_right (by omega) (by omega)
    rw [Int.add_mul, Int.one_mul] at this; omega
  · rw [k] at e1 ⊢; omega
theorem map_asc {f : Int → Int} : ∀ {l : List Int}, Asc l → (∀ a b, a ∈ l → b ∈ l → a < b → f a < f b) → Asc (l.map f)
  | [], _, _ => List.Pairwise.nil
  | x :: l, h, k => by
    obtain ⟨h1, h2⟩ := List.pairwise_cons.1 h
    refine List.pairwise_cons.2 ⟨fun y hy => ?_, map_asc h2 fun a b ha hb => k a b (by simp [ha]) (by simp [hb])⟩
    obtain ⟨z, hz, rfl⟩ := List.mem_map.1 hy
    exact k x z (by simp) (by simp [hz]) (h1 z hz)
theorem mC_ok (hd : dOk d) (hc : cloudE (dG d) (dC d) = 0) (h1 : 0 ≤ dx) (h2 : dx ≤ 3) (h3 : 0 ≤ dy) (h4 : dy ≤ 3) : cloudE (hG d) (mC d ((dC d).sure.map (phi d dx dy)) ((dC d).may.map (phi d dx dy))) = 0 := by
  have hw := dW_bd hd.1.1
  have hh := dH_bd hd.2.1.1
  have hs := sure_may hc
  have hgr := dgrow_bd hd.2.2.2.2.2.2.1
  have hne : (dC d).may ≠ [] := fun q => by unfold cloudE at hc; rw [if_neg (fun r => r (dG_ok hd)), if_neg (fun r => r (@dF_ok d)), if_neg (fun r => r hgr), if_pos q] at hc; omega
  refine cloud_okI ?_ (@dF_ok d) hgr (fun q => hne (List.map_eq_nil_iff.1 q)) (fun n hn => ?_) ?_ ?_ (fun n hn => ?_)
  · unfold gridOk hG dG; dsimp only; omega
  · obtain ⟨q, hq, rfl⟩ := List.mem_map.1 hn
    have hb := hs.2 q hq
    have := phi_bd hd h1 h2 h3 h4 hb.1 (by have e : (dG d).wide * (dG d).high = dW d * dH d := rfl; omega)
    show _ ∧ _ ≤ (dW d + 3) * (dH d + 3) - 1
    omega
  · exact map_asc (mayTo_asc _) fun a b ha hb hab => phi_lt hd h1 h2 h3 (hs.2 a ha).1 hab (by have := (hs.2 b hb).2; have e : (dG d).wide * (dG d).high = dW d * dH d := rfl; omega)
  · exact map_asc (sureTo_asc _) fun a b ha hb hab => phi_lt hd h1 h2 h3 (hs.2 a (hs.1 a ha)).1 hab (by have := (hs.2 b (hs.1 b hb)).2; have e : (dG d).wide * (dG d).high = dW d * dH d := rfl; omega)
  · obtain ⟨q, hq, rfl⟩ := List.mem_map.1 hn
    exact List.mem_map.2 ⟨q, hs.1 q hq, rfl⟩
theorem At_moved (hd : dOk d) (h1 : 0 ≤ dx) (h2 : dx ≤ 3) (h3 : 0 ≤ dy) (h4 : dy ≤ 3) {l : List Int} (hl : ∀ n, n ∈ l → 0 ≤ n ∧ n < dW d * dH d) {x y : Int} : At (dG d) l x y ↔ At (hG d) (l.map (phi d dx dy)) (x + dx) (y + dy) := by
  have hw := dW_bd hd.1.1
  have hh := dH_bd hd.2.1.1
  have hgw : (dG d).wide = dW d := rfl
  have hgh : (dG d).high = dH d := rfl
  have hwd : (hG d).wide = dW d + 3 := rfl
  have hhd : (hG d).high = dH d + 3 := rfl
  constructor
  · rintro ⟨hx, hy, hm⟩
    refine ⟨by omega, by omega, List.mem_map.2 ⟨_, hm, ?_⟩⟩
    have h0 : 0 ≤ y * (dG d).wide := Int.mul_nonneg (by omega) (by omega)
    have hn : 0 ≤ y * (dG d).wide + x := by omega
    unfold phi
    rw [Int.tmod_eq_emod_of_nonneg hn, Int.tdiv_eq_ediv_of_nonneg hn, Int.add_comm (y * (dG d).wide) x, Int.mul_comm y, Int.add_mul_emod_self_left, Int.add_mul_ediv_left _ _ (by omega), Int.emod_eq_of_lt (by omega) (by omega), Int.ediv_eq_zero_of_lt (by omega) (by omega)]
    rw [show (0 + y + dy) = y + dy by omega]; omega
  · rintro ⟨hx, hy, hm⟩
    obtain ⟨q, hq, e⟩ := List.mem_map.1 hm
    have hb := hl q hq
    have hqx := tmod_bd (g := dG d) (p := q) (dG_ok hd) hb.1 hb.2
    have hp := phi_div (q := q) (dx := dx) (dy := dy) hw.1 (by omega) hqx.2.1 h1 h2 h3
    have h0 : 0 ≤ (y + dy) * (hG d).wide := Int.mul_nonneg (by omega) (by omega)
    have hn : 0 ≤ (y + dy) * (hG d).wide + (x + dx) := by omega
    rw [e, Int.tmod_eq_emod_of_nonneg hn, Int.tdiv_eq_ediv_of_nonneg hn, Int.add_comm ((y + dy) * (hG d).wide) (x + dx), Int.mul_comm (y + dy), Int.add_mul_emod_self_left, Int.add_mul_ediv_left _ _ (by omega), Int.emod_eq_of_lt (by omega) (by omega), Int.ediv_eq_zero_of_lt (by omega) (by omega)] at hp
    have ex : x = q.tmod (dG d).wide := by omega
    have ey : y = q.tdiv (dG d).wide := by omega
    refine ⟨by omega, by omega, ?_⟩
    have e2 := Int.mul_tdiv_add_tmod q (dG d).wide
    rw [ex, ey, Int.mul_comm, e2]; exact hq
theorem moved (hd : dOk d) (hc : cloudE (dG d) (dC d) = 0) (h1 : 0 ≤ dx) (h2 : dx ≤ 3) (h3 : 0 ≤ dy) (h4 : dy ≤ 3) (ht1 : 0 ≤ t) (ht2 : t ≤ 7200) (hp1 : 0 ≤ p) (hp2 : p < dW d * dH d) : stateOf (dG d) (dC d) p t = stateOf (hG d) (mC d ((dC d).sure.map (phi d dx dy)) ((dC d).may.map (phi d dx dy))) (phi d dx dy p) t := by
  have hw := dW_bd hd.1.1
  have hs := sure_may hc
  have hk := mC_ok hd hc h1 h2 h3 h4
  have o1 := cloudE_ok hc
  have o2 := cloudE_ok hk
  have n1 := cloudE_neg hc
  have n2 := cloudE_neg hk
  have e : (dG d).wide * (dG d).high = dW d * dH d := rfl
  have hpx := tmod_bd (g := dG d) (p := p) (dG_ok hd) hp1 hp2
  have hgw : (dG d).wide = dW d := rfl
  have hp := phi_div (q := p) (dx := dx) (dy := dy) hw.1 (by omega) hpx.2.1 h1 h2 h3
  have A1 : ∀ {x y : Int}, At (dG d) (dC d).sure x y ↔ At (hG d) ((dC d).sure.map (phi d dx dy)) (x + dx) (y + dy) := At_moved hd h1 h2 h3 h4 (fun n hn => ⟨(hs.2 n (hs.1 n hn)).1, by have := (hs.2 n (hs.1 n hn)).2; omega⟩)
  have A2 : ∀ {x y : Int}, At (dG d) (dC d).may x y ↔ At (hG d) ((dC d).may.map (phi d dx dy)) (x + dx) (y + dy) := At_moved hd h1 h2 h3 h4 (fun n hn => ⟨(hs.2 n hn).1, by have := (hs.2 n hn).2; omega⟩)
  refine state_cg ?_ ?_
  · rw [state_all o1.1 o1.2.1 o1.2.2 ht1 n1.1, state_all o2.1 o2.2.1 o2.2.2 ht1 n2.1]
    refine forall_congr' fun v => forall_congr' fun u => imp_congr Iff.rfl (imp_congr Iff.rfl ?_)
    rw [A1, hp.1, hp.2, show p.tmod (dG d).wide - u + dx = p.tmod (dG d).wide + dx - u by omega, show p.tdiv (dG d).wide - v + dy = p.tdiv (dG d).wide + dy - v by omega]
    exact Iff.rfl
  · rw [state_some o1.1 o1.2.1 o1.2.2 ht1 n1.2, state_some o2.1 o2.2.1 o2.2.2 ht1 n2.2]
    refine exists_congr fun v => exists_congr fun u => and_congr Iff.rfl (and_congr Iff.rfl ?_)
    rw [A2, hp.1, hp.2, show p.tmod (dG d).wide - u + dx = p.tmod (dG d).wide + dx - u by omega, show p.tdiv (dG d).wide - v + dy = p.tdiv (dG d).wide + dy - v by omega]
    exact Iff.rfl
theorem At_self (hd : dOk d) (hp1 : 0 ≤ p) (hp2 : p < dW d * dH d) {l : List Int} : At (dG d) l (p.tmod (dG d).wide - 0) (p.tdiv (dG d).wide - 0) ↔ p ∈ l := by
  have hpx := tmod_bd (g := dG d) (p := p) (dG_ok hd) hp1 hp2
  have e2 := Int.mul_tdiv_add_tmod p (dG d).wide
  unfold At
  rw [Int.sub_zero, Int.sub_zero, Int.mul_comm, e2]
  exact ⟨fun h => h.2.2, fun h => ⟨by omega, by omega, h⟩⟩
theorem come_0 {f grow : Int} : comeLo f grow 0 = 0 ∧ comeHi f grow 0 = 0 := by unfold comeLo comeHi; rw [Int.mul_zero, Int.mul_zero]; decide
theorem state_at0 (hd : dOk d) (hc : cloudE (dG d) (dC d) = 0) (hp1 : 0 ≤ p) (hp2 : p < dW d * dH d) : stateOf (dG d) (dC d) p 0 = if memB (dC d).sure p = true then 2 else if memB (dC d).may p = true then 1 else 0 := by
  have o1 := cloudE_ok hc
  have n1 := cloudE_neg hc
  have z1 := (@come_0 (dC d).flow.a (dC d).grow).1
  have z2 := (@come_0 (dC d).flow.b (dC d).grow).2
  have z3 := (@come_0 (dC d).flow.c (dC d).grow).1
  have z4 := (@come_0 (dC d).flow.d (dC d).grow).2
  have s2 := state_all (g := dG d) (p := p) o1.1 o1.2.1 o1.2.2 (Int.le_refl 0) n1.1
  have s1 := state_some (g := dG d) (p := p) o1.1 o1.2.1 o1.2.2 (Int.le_refl 0) n1.2
  rw [z1, z2, z3, z4] at s2 s1
  have s2' : stateOf (dG d) (dC d) p 0 = 2 ↔ p ∈ (dC d).sure := by
    rw [s2]
    constructor
    · intro k; exact (At_self hd hp1 hp2).1 (k 0 0 (by omega) (by omega))
    · intro k v u hv hu
      have : v = 0 := by omega
      have : u = 0 := by omega
      subst v; subst u; exact (At_self hd hp1 hp2).2 k
  have s1' : (srcs (dG d) (dC d) p 0).any (memB (dC d).may) = true ↔ p ∈ (dC d).may := by
    rw [s1]
    constructor
    · rintro ⟨v, u, hv, hu, k⟩
      have : v = 0 := by omega
      have : u = 0 := by omega
      subst v; subst u; exact (At_self hd hp1 hp2).1 k
    · intro k; exact ⟨0, 0, by omega, by omega, (At_self hd hp1 hp2).2 k⟩
  by_cases q : p ∈ (dC d).sure
  · rw [s2'.2 q, if_pos (by simpa [memB] using q)]
  · rw [if_neg (by simpa [memB] using q)]
    have q2 : ¬ stateOf (dG d) (dC d) p 0 = 2 := fun k => q (s2'.1 k)
    unfold stateOf at q2 ⊢
    by_cases r : (srcs (dG d) (dC d) p 0).all (memB (dC d).sure) = true
    · rw [if_pos r] at q2; exact absurd rfl q2
    · rw [if_neg r]
      by_cases s : p ∈ (dC d).may
      · rw [if_pos (s1'.2 s), if_pos (by simpa [memB] using s)]
      · rw [if_neg (fun k => s (s1'.1 k)), if_neg (by simpa [memB] using s)]
end

set_option maxRecDepth 20000 in
theorem CastMoved_c (d : Draft) (pp : Option Addr) (cp : Nat) (z0 z1 ld : Int) (w : World) (hd : dOk d) (hp : Byts w pp d.pix) (hb1 : 0 ≤ z0) (hb2 : z0 ≤ 255) (hb3 : 0 ≤ z1) (hb4 : z1 ≤ 255) (hl1 : 0 ≤ ld) (hl2 : ld ≤ 255) :
  Calls Try.prog 5 #[.agg #[.int .u8 d.wide, .int .u8 d.high, .slice pp d.pix.length cp, .int .i32 d.x0, .int .i32 d.x1, .int .i32 d.y0, .int .i32 d.y1, .int .u16 d.grow], .agg #[.int .u8 z0, .int .u8 z1], .int .u8 ld] w fun e w' => e = .returned (.bool true) ∧ St (bs w) [] w' := by
  have hdk := hd
  obtain ⟨⟨hd1, hd2⟩, ⟨hd3, hd4⟩, ⟨hd5, hd6⟩, ⟨hd7, hd8⟩, ⟨hd9, hd10⟩, ⟨hd11, hd12⟩, hd13, hd14⟩ := hd
  have hd := hdk
  have hw8 : 1 ≤ dW d ∧ dW d ≤ 8 := dW_bd hd1
  have hh8 : 1 ≤ dH d ∧ dH d ≤ 8 := dH_bd hd3
  have har := mul8 hw8.1 hw8.2 hh8.1 hh8.2
  have hld := tmod_pos hl1 (n := 121) (by decide)
  have hbx := tmod_pos hb1 (n := 4) (by decide)
  have hby := tmod_pos hb3 (n := 4) (by decide)
  have hgd : (dG d).wide * (dG d).high = dW d * dH d := rfl
  have hgw : (dG d).wide = dW d := rfl
  have hgh : (dG d).high = dH d := rfl
  refine enter (vs := [_, _, _]) (env := [(0, _), (1, _), (2, _)]) Try.func5 rfl rfl rfl rfl ?_
  refine VC.seq ?_
  refine VC.reg (VO.h rfl <| HO.box (C := #[_, _, _, _, _, _, _, _]) rfl rfl fun b1 => VO.h rfl <| HO.box (C := #[_, _]) rfl rfl fun b2 => VO.l (LO.as (.r rfl)) rfl <| VO.nil ?_)
  refine VE.seqN ?_
  refine VC.seq ?_
  refine VC.reg (VO.l (LO.lda (vs := [_, _, _, _, _, _, _, _]) A49 (.r rfl) (fun _ hw => cells_at hw 1 rfl ⟨_, rfl⟩) rfl) rfl <| VO.h rfl <| HO.callx (xs := [_]) (vs := [_]) C20 ⟨(.r rfl), trivial⟩ (fun w hw => made_c d pp cp w hd (hp.keep w hw)) fun x _ => VO.h rfl <| HO.lo (LO.mv (.r rfl)) <| VO.h rfl <| HO.lo (LO.ex (.r rfl) rfl) <| VO.h rfl <| HO.lo (LO.ex (.r rfl) rfl) <| VO.h rfl <| HO.lo (LO.ex (.r rfl) rfl) <| VO.h rfl <| HO.alloc (C := #[_, _, _, _, _]) Z23 rfl fun b5 => VO.h rfl <| HO.alloc (C := #[_, _, _, _, _, _, _]) Z34 rfl fun b6 => VO.h0 <| HO.st 1 (vs := [_, _, _, _, _]) (C' := [_, _, _, _, _]) (L' := [_, _, _, _, _, _]) N23 rfl rfl rfl rfl rfl rfl rfl rfl <| VO.h0 <| HO.st 0 (vs := [_, _, _, _, _, _, _]) (C' := [_, _, _, _, _, _, _]) (L' := [_, _, _, _, _, _]) N34 rfl rfl rfl rfl rfl rfl rfl rfl <| VO.h rfl <| HO.lo (LO.as (.r rfl)) <| VO.nil ?_)
  refine VE.seqN ?_
  refine VC.seq ?_
  refine VC.seq ?_
  refine VC.reg (VO.l (LO.mv (.r rfl)) rfl <| VO.l (LO.not (.r rfl)) rfl <| VO.nil ?_)
  refine VE.seqN ?_
  refine VC.cond rfl (fun h1 => ?_) (fun h1 => ?_)
  ·
    refine VC.seq ?_
    refine VC.reg (VO.l (LO.call (xs := []) (vs := []) C14 trivial (fun w _ => works_c w)) rfl <| VO.l (LO.as (.r rfl)) rfl <| VO.nil ?_)
    refine VE.seqN ?_
    refine VC.ret (VE.thenR (VE.res (vs := [_]) rfl ⟨rfl, trivial⟩ (fun w hw => ?_)))
    exact ⟨rfl, hw.nil⟩
  ·
    have h1 : (0 : Int) < ((dC d).may.length : Int) := Classical.not_not.1 h1
    have hcl0 := dC_ok hdk (by omega)
    have hE := at1E hcl0 (t := ld.tmod 121) (by omega) (by omega)
    have hLn := at1len hE (by show 0 ≤ dW d * dH d; omega)
    have hsm := sure_may hcl0
    refine VC.skip (VE.seqN ?_)
    refine VC.seq ?_
    refine VC.draw mixed (LL.l (LO.mv (.r rfl)) rfl <| LL.l (LO.cv ⟨_, Try.underlying5⟩ Try.underlying3 (.r rfl) (wi (by omega) (by omega))) rfl <| LL.l (LO.rem (.r rfl) (.r rfl) (by omega)) rfl <| LL.l (LO.ixa (j := 0) (r := 0) Try.underlying57 N5 (.r rfl) (.r rfl) rfl (by decide) rfl) rfl <| LL.l (LO.ld O5 (.r rfl) (fun _ hw => cells_at hw 4 rfl ⟨_, rfl⟩)) rfl <| LL.l (LO.cv ⟨_, Try.underlying5⟩ Try.underlying3 (.r rfl) (wi (by omega) (by omega))) rfl <| LL.l (LO.rem (.r rfl) (.r rfl) (by omega)) rfl <| LL.l (LO.ixa (j := 1) (r := 1) Try.underlying57 N5 (.r rfl) (.r rfl) rfl (by decide) rfl) rfl <| LL.l (LO.ld O5 (.r rfl) (fun _ hw => cells_at hw 4 rfl ⟨_, rfl⟩)) rfl <| LL.l (LO.cv ⟨_, Try.underlying5⟩ Try.underlying3 (.r rfl) (wi (by omega) (by omega))) rfl <| LL.l (LO.rem (.r rfl) (.r rfl) (by omega)) rfl <| LL.l (LO.as (.r rfl)) rfl <| LL.l (LO.as (.r rfl)) rfl <| LL.l (LO.as (.r rfl)) rfl <| LL.nil) (by kernel_rfl) ?_
    refine VE.seqN ?_
    refine VC.seq ?_
    refine VC.reg (VO.l (LO.lda (vs := [_, _, _, _, _]) A23 (.r rfl) (fun _ hw => cells_at hw 1 rfl ⟨_, rfl⟩) rfl) rfl <| VO.h rfl <| HO.alloc (C := #[_, _, _, _, _]) Z23 rfl fun b9 => VO.h0 <| HO.st 0 (vs := [_, _, _, _, _]) (C' := [_, _, _, _, _]) (L' := [_, _, _, _, _, _, _]) N23 rfl rfl rfl rfl rfl rfl rfl rfl <| VO.nil ?_)
    refine VE.seqN ?_
    refine VC.seq ?_
    refine VC.drawH [[0, 1, 2, 3, 4, 5, 6], [1, 2, 3, 4, 5, 6], [1, 2, 3, 4, 5, 6]] [some 0, some 0, some 0, some 1, some 1, some 1, some 0, none, some 1, none] mixed (by kernel_rfl) rfl (LX.l (fun _ hJ => LO.fa (r := 3) F23_3 (.r rfl) rfl) rfl <| LX.l (fun _ hJ => LO.ld O3 (.r rfl) (fun _ hw => cells_at (hJ _ hw) 2 rfl ⟨_, rfl⟩)) rfl <| LX.l (fun _ hJ => LO.add (.r rfl) (.r rfl) (wi (e := (dG d).wide + 3) (by omega) (by omega))) rfl <| LX.l (fun _ hJ => LO.fa (r := 4) F23_4 (.r rfl) rfl) rfl <| LX.l (fun _ hJ => LO.ld O3 (.r rfl) (fun _ hw => cells_at (hJ _ hw) 1 rfl ⟨_, rfl⟩)) rfl <| LX.l (fun _ hJ => LO.add (.r rfl) (.r rfl) (wi (e := (dG d).high + 3) (by omega) (by omega))) rfl <| LX.l (fun _ hJ => LO.fa (r := 3) F23_3 (.r rfl) rfl) rfl <| LX.s <| LX.l (fun _ hJ => LO.fa (r := 4) F23_4 (.r rfl) rfl) rfl <| LX.s <| LX.nil) (HX.s <| HX.s <| HX.s <| HX.s <| HX.s <| HX.s <| HX.s <| HX.h0 <| HO.st 0 (vs := [_]) (C' := [_, _, _, _, _]) (L' := [_, _, _, _, _, _, _]) N3 rfl rfl rfl rfl rfl rfl rfl rfl <| ⟨fun _ hw => hw.sel [1, 2, 3, 4, 5, 6] rfl, HX.s <| HX.h0 <| HO.st 0 (vs := [_]) (C' := [_, _, _, _, _]) (L' := [_, _, _, _, _, _, _]) N3 rfl rfl rfl rfl rfl rfl rfl rfl <| ⟨fun _ hw => hw.sel [1, 2, 3, 4, 5, 6] rfl, HX.nil ?_⟩⟩)
    refine VE.seqN ?_
    refine VC.seq ?_
    refine VC.drawB [⟨2, 14, fun b => .pointer (some ⟨b, 0, none⟩), 34, #[.slice none 0 0, .slice none 0 0, .int .i64 0, .int .i64 0, .int .i64 0, .int .i64 0, .int .i64 0]⟩, ⟨3, 15, fun b => .pointer (some ⟨b, 0, none⟩), 34, #[.slice none 0 0, .slice none 0 0, .int .i64 0, .int .i64 0, .int .i64 0, .int .i64 0, .int .i64 0]⟩] [[0, 1, 2, 3, 4, 5, 6], [0, 1, 2, 3, 4, 5, 6], [0, 1, 2, 3, 4, 5, 6], [0, 1, 2, 3, 4, 5, 6], [0, 1, 2, 3, 4, 5, 6]] [some 2, some 3, none, none, none, none] mixed (by kernel_rfl) rfl (LX.l (fun _ hJ => LO.lda (vs := [_, _, _, _, _, _, _]) A34 (.r rfl) (fun _ hw => cells_at (hJ _ hw) 1 rfl ⟨_, rfl⟩) rfl) rfl <| LX.l (fun _ hJ => LO.lda (vs := [_, _, _, _, _, _, _]) A34 (.r rfl) (fun _ hw => cells_at (hJ _ hw) 1 rfl ⟨_, rfl⟩) rfl) rfl <| LX.s <| LX.s <| LX.s <| LX.s <| LX.nil) (⟨⟨rfl, _, rfl, FO.alloc Z34 rfl⟩, ⟨⟨rfl, _, rfl, FO.alloc Z34 rfl⟩, trivial⟩⟩) (HY.s <| HY.s <| HY.f rfl fun b19 => ⟨selJ (L1 := [_, _, _, _, _, _, _]) [1, 2, 3, 4, 5, 6, 7] rfl rfl rfl, HY.f rfl fun b20 => ⟨selJ (L1 := [_, _, _, _, _, _, _]) [2, 3, 4, 5, 6, 7, 8] rfl rfl rfl, HY.h0 rfl fun X => HO.st 1 (vs := [_, _, _, _, _, _, _]) (C' := [_, _, _, _, _, _, _]) (L' := [_, _, _, _, _, _, _, _, _] ++ X) N34 rfl rfl rfl rfl rfl rfl rfl rfl <| ⟨[_, _, _, _, _, _, _, _, _], rfl, selJ (L1 := [_, _, _, _, _, _, _]) [2, 3, 4, 5, 6, 7, 8] rfl rfl rfl, HY.h0 rfl fun X => HO.st 0 (vs := [_, _, _, _, _, _, _]) (C' := [_, _, _, _, _, _, _]) (L' := [_, _, _, _, _, _, _, _, _] ++ X) N34 rfl rfl rfl rfl rfl rfl rfl rfl <| ⟨[_, _, _, _, _, _, _, _, _], rfl, selJ (L1 := [_, _, _, _, _, _, _]) [2, 3, 4, 5, 6, 7, 8] rfl rfl rfl, HY.nil ?_⟩⟩⟩⟩)
    refine VE.seqN ?_
    refine VC.weak (env' := [(7, _), (8, _), (10, _), (11, _), (12, _), (13, _), (14, _), (15, _)]) (.cons rfl (.cons rfl (.cons rfl (.cons rfl (.cons rfl (.cons rfl (.cons rfl (.cons rfl .nil)))))))) (fun _ h => h) ?_
    refine VC.seq ?_
    refine VC.reg (VO.l (LO.fa (r := 0) F34_0 (.r rfl) rfl) rfl <| VO.h0 <| HO.st 1 (vs := [_]) (C' := [_, _, _, _, _, _, _]) (L' := [_, _, _, _, _, _, _, _, _]) N28 rfl rfl rfl rfl rfl rfl rfl rfl <| VO.l (LO.fa (r := 1) F34_1 (.r rfl) rfl) rfl <| VO.h0 <| HO.st 1 (vs := [_]) (C' := [_, _, _, _, _, _, _]) (L' := [_, _, _, _, _, _, _, _, _]) N28 rfl rfl rfl rfl rfl rfl rfl rfl <| VO.l (LO.fa (r := 0) F34_0 (.r rfl) rfl) rfl <| VO.h0 <| HO.st 0 (vs := [_]) (C' := [_, _, _, _, _, _, _]) (L' := [_, _, _, _, _, _, _, _, _]) N28 rfl rfl rfl rfl rfl rfl rfl rfl <| VO.l (LO.fa (r := 1) F34_1 (.r rfl) rfl) rfl <| VO.h0 <| HO.st 0 (vs := [_]) (C' := [_, _, _, _, _, _, _]) (L' := [_, _, _, _, _, _, _, _, _]) N28 rfl rfl rfl rfl rfl rfl rfl rfl <| VO.nil ?_)
    refine VE.seqN ?_
    refine VC.seq ?_
    refine VC.seq ?_
    refine VC.reg (VO.l (LO.as (.r rfl)) rfl <| VO.nil ?_)
    refine VE.seqN ?_
    refine VC.block ?_
    refine VC.perm [1, 0, 2, 3, 4, 5, 6, 7, 8] rfl ?_
    refine VC.loopK (α := Nat × (List Int) × (List Int) × (Option Addr) × Nat × (Option Addr) × Nat) 2 (fun gx => [(16, .int .i64 (gx.1 : Nat))]) [(7, _), (8, _), (10, _), (11, _), (12, _), (13, _), (14, _), (15, _)] (fun gx => [blk b19 (.cells #[.slice none 0 0, .slice gx.2.2.2.1 gx.2.1.length gx.2.2.2.2.1, .int .i64 (dC d).flow.a, .int .i64 (dC d).flow.b, .int .i64 (dC d).flow.c, .int .i64 (dC d).flow.d, .int .i64 (dC d).grow] 34), blk b20 (.cells #[.slice none 0 0, .slice gx.2.2.2.2.2.1 gx.2.2.1.length gx.2.2.2.2.2.2, .int .i64 (dC d).flow.a, .int .i64 (dC d).flow.b, .int .i64 (dC d).flow.c, .int .i64 (dC d).flow.d, .int .i64 (dC d).grow] 34), own 3 1 gx.2.2.2.1 gx.2.2.2.2.1 (gx.2.1.map fun n => [.int .i64 n]), own 3 1 gx.2.2.2.2.2.1 gx.2.2.2.2.2.2 (gx.2.2.1.map fun n => [.int .i64 n])]) (fun gx => (gx.1 ≤ (dC d).may.length ∧ gx.2.1.length ≤ gx.1 ∧ gx.2.2.1.length ≤ gx.1) ∧ gx.2.1 = ((dC d).may.take gx.1).map (phi0 d) ∧ gx.2.2.1 = ((dC d).may.take gx.1).map (phi d (z0.tmod 4) (z1.tmod 4))) (fun gx => (dC d).may.length - gx.1) (0, [], [], none, 0, none, 0) (by exact ⟨⟨Nat.zero_le _, Nat.le_refl _, Nat.le_refl _⟩, rfl, rfl⟩) (.cons rfl (.cons rfl (.cons rfl (.cons rfl (.cons rfl (.cons rfl (.cons rfl (.cons rfl (.cons rfl .nil))))))))) (fun _ h => (((h.ownNil 3 1).ownNil 3 1)).sel [2, 3, 0, 1, 4, 5, 6, 7, 8, 9, 10] rfl) ?_
    rintro ⟨i, ma, mb, pa, ca, pb1, cb⟩ ⟨hk0, hma, hmb⟩
    show VC _ _ _ _ _ ([(16, .int .i64 (i : Nat))] ++ _) ([blk b19 (.cells #[.slice none 0 0, .slice pa ma.length ca, .int .i64 (dC d).flow.a, .int .i64 (dC d).flow.b, .int .i64 (dC d).flow.c, .int .i64 (dC d).flow.d, .int .i64 (dC d).grow] 34), blk b20 (.cells #[.slice none 0 0, .slice pb1 mb.length cb, .int .i64 (dC d).flow.a, .int .i64 (dC d).flow.b, .int .i64 (dC d).flow.c, .int .i64 (dC d).flow.d, .int .i64 (dC d).grow] 34), own 3 1 pa ca (ma.map fun n => [.int .i64 n]), own 3 1 pb1 cb (mb.map fun n => [.int .i64 n])] ++ _) _ _
    obtain ⟨hk, hk1, hk2⟩ : i ≤ (dC d).may.length ∧ ma.length ≤ i ∧ mb.length ≤ i := hk0
    have hma : ma = ((dC d).may.take i).map (phi0 d) := hma
    have hmb : mb = ((dC d).may.take i).map (phi d (z0.tmod 4) (z1.tmod 4)) := hmb
    have hlb := dC_len d
    refine VC.seq ?_
    refine VC.seq ?_
    refine VC.reg (VO.l (LO.mv (.r rfl)) rfl <| VO.l (LO.fa (r := 1) F34_1 (.r rfl) rfl) rfl <| VO.l (LO.ld O28 (.r rfl) (fun _ hw => cells_at hw 5 rfl ⟨_, rfl⟩)) rfl <| VO.l (LO.len S28 (.r rfl) rfl) rfl <| VO.l (LO.lt (.r rfl) (.r rfl)) rfl <| VO.nil ?_)
    refine VE.seqN ?_
    refine VC.cond rfl (fun h2 => ?_) (fun h2 => ?_)
    ·
      obtain ⟨mi, hmi⟩ : ∃ mi, (dC d).may[i]? = some mi := ⟨_, List.getElem?_eq_getElem (by omega)⟩
      have hil : i < (dC d).may.length := (List.getElem?_eq_some_iff.1 hmi).1
      have hmx := dmem_bd hdk hcl0 id (List.mem_of_getElem? hmi)
      have hr0 := row_bd (v := mi.tdiv (dG d).wide) (w := (dG d).wide + 3) (by omega) (by omega) (by omega) (by omega)
      have hr1 := row_bd (v := mi.tdiv (dG d).wide + z1.tmod 4) (w := (dG d).wide + 3) (by omega) (by omega) (by omega) (by omega)
      refine VC.skip (VE.seqN ?_)
      refine VC.seq ?_
      refine VC.block ?_
      refine VC.seq ?_
      refine VC.draw mixed (LL.l (LO.fa (r := 1) F34_1 (.r rfl) rfl) rfl <| LL.l (LO.ld O28 (.r rfl) (fun _ hw => cells_at hw 5 rfl ⟨_, rfl⟩)) rfl <| LL.l (LO.mv (.r rfl)) rfl <| LL.l (LO.ixo S28 N3 (fun _ hw => (own_rows hw 8 rfl).some (by simp)) (.r rfl) (.r rfl) rfl hil) rfl <| LL.l (LO.ld O3 (.r rfl) (fun w hw => cells_part (off := 0) (own_cell hw 8 rfl hmi) ⟨_, rfl⟩)) rfl <| LL.l (LO.fa (r := 3) F23_3 (.r rfl) rfl) rfl <| LL.l (LO.ld O3 (.r rfl) (fun _ hw => cells_at hw 6 rfl ⟨_, rfl⟩)) rfl <| LL.l (LO.rem (.r rfl) (.r rfl) (by omega)) rfl <| LL.l (LO.fa (r := 1) F34_1 (.r rfl) rfl) rfl <| LL.l (LO.ld O28 (.r rfl) (fun _ hw => cells_at hw 5 rfl ⟨_, rfl⟩)) rfl <| LL.l (LO.mv (.r rfl)) rfl <| LL.l (LO.ixo S28 N3 (fun _ hw => (own_rows hw 8 rfl).some (by simp)) (.r rfl) (.r rfl) rfl hil) rfl <| LL.l (LO.ld O3 (.r rfl) (fun w hw => cells_part (off := 0) (own_cell hw 8 rfl hmi) ⟨_, rfl⟩)) rfl <| LL.l (LO.fa (r := 3) F23_3 (.r rfl) rfl) rfl <| LL.l (LO.ld O3 (.r rfl) (fun _ hw => cells_at hw 6 rfl ⟨_, rfl⟩)) rfl <| LL.l (LO.quo (.r rfl) (.r rfl) (by omega) (wi (by omega) (by omega))) rfl <| LL.l (LO.as (.r rfl)) rfl <| LL.l (LO.as (.r rfl)) rfl <| LL.nil) (by kernel_rfl) ?_
      refine VE.seqN ?_
      refine VC.drawB [⟨8, 100, fun b => .slice (some ⟨b, 0, none⟩) 1 1, 3, #[_]⟩, ⟨22, 114, fun b => .slice (some ⟨b, 0, none⟩) 1 1, 3, #[_]⟩] [[0, 1, 2, 3, 4, 5, 6, 7, 8, 9, 10], [0, 1, 2, 3, 4, 5, 6, 7, 8, 9, 10], [0, 1, 3, 4, 5, 6, 7, 8, 9, 10], [0, 1, 3, 4, 5, 6, 7, 8, 9, 10], [0, 1, 4, 5, 6, 7, 8, 9, 10], [1, 4, 5, 6, 7, 8, 9, 10], [4, 5, 6, 7, 8, 9, 10]] [some 3, some 3, some 3, some 3, some 3, some 3, some 3, some 3, none, none, some 3, some 3, some 2, some 2, some 2, some 2, some 2, some 2, some 2, some 2, some 2, some 2, none, none, some 4, none, some 5, none] mixed (by kernel_rfl) rfl (LX.l (fun _ hJ => LO.fa (r := 1) F34_1 (.r rfl) rfl) rfl <| LX.l (fun _ hJ => LO.ld O28 (.r rfl) (fun _ hw => cells_at (hJ _ hw) 0 rfl ⟨_, rfl⟩)) rfl <| LX.l (fun _ hJ => LO.mv (.r rfl)) rfl <| LX.l (fun _ hJ => LO.fa (r := 3) F23_3 (.r rfl) rfl) rfl <| LX.l (fun _ hJ => LO.ld O3 (.r rfl) (fun _ hw => cells_at (hJ _ hw) 3 rfl ⟨_, rfl⟩)) rfl <| LX.l (fun _ hJ => LO.mul (.r rfl) (.r rfl) (wi (by omega) (by omega))) rfl <| LX.l (fun _ hJ => LO.mv (.r rfl)) rfl <| LX.l (fun _ hJ => LO.add (.r rfl) (.r rfl) (wi (by omega) (by omega))) rfl <| LX.s <| LX.s <| LX.l (fun _ hJ => LO.fa (r := 1) F34_1 (.r rfl) rfl) rfl <| LX.l (fun _ hJ => LO.ld O28 (.r rfl) (fun _ hw => cells_at (hJ _ hw) 1 rfl ⟨_, rfl⟩)) rfl <| LX.l (fun _ hJ => LO.mv (.r rfl)) rfl <| LX.l (fun _ hJ => LO.mv (.r rfl)) rfl <| LX.l (fun _ hJ => LO.add (.r rfl) (.r rfl) (wi (by omega) (by omega))) rfl <| LX.l (fun _ hJ => LO.fa (r := 3) F23_3 (.r rfl) rfl) rfl <| LX.l (fun _ hJ => LO.ld O3 (.r rfl) (fun _ hw => cells_at (hJ _ hw) 3 rfl ⟨_, rfl⟩)) rfl <| LX.l (fun _ hJ => LO.mul (.r rfl) (.r rfl) (wi (by omega) (by omega))) rfl <| LX.l (fun _ hJ => LO.mv (.r rfl)) rfl <| LX.l (fun _ hJ => LO.add (.r rfl) (.r rfl) (wi (by omega) (by omega))) rfl <| LX.l (fun _ hJ => LO.mv (.r rfl)) rfl <| LX.l (fun _ hJ => LO.add (.r rfl) (.r rfl) (wi (by omega) (by omega))) rfl <| LX.s <| LX.s <| LX.l (fun _ hJ => LO.fa (r := 1) F34_1 (.r rfl) rfl) rfl <| LX.s <| LX.l (fun _ hJ => LO.fa (r := 1) F34_1 (.r rfl) rfl) rfl <| LX.s <| LX.nil) (⟨⟨rfl, _, rfl, FO.bs (ps := [(_, _)]) (vs := [(_, _)]) (Z := [_]) (C := [_]) S28 Z3 N3 ⟨(.r rfl), trivial⟩ rfl rfl rfl rfl ⟨_, [_], [_], rfl, rfl, rfl, rfl, rfl⟩⟩, ⟨⟨rfl, _, rfl, FO.bs (ps := [(_, _)]) (vs := [(_, _)]) (Z := [_]) (C := [_]) S28 Z3 N3 ⟨(.r rfl), trivial⟩ rfl rfl rfl rfl ⟨_, [_], [_], rfl, rfl, rfl, rfl, rfl⟩⟩, trivial⟩⟩) (HY.s <| HY.s <| HY.s <| HY.s <| HY.s <| HY.s <| HY.s <| HY.s <| HY.f rfl fun b35 => ⟨selJ (L1 := [_, _, _, _, _, _, _, _, _, _, _]) [1, 2, 3, 4, 5, 6, 7, 8, 9, 10, 11] rfl rfl rfl, HY.h rfl rfl fun X => HO.appT (phi0 d mi) 3 0 (fun R => [_, _, _, R, _, _, _, _, _, _, _, _] ++ X) S28 S28 I3 (.r rfl) (.r rfl) rfl rfl rfl rfl rfl rfl rfl (fun _ => rfl) rfl (by omega) fun p9 c9 => ⟨[_, _, _, _, _, _, _, _, _, _, _, _], rfl, selJ (L1 := [_, _, _, _, _, _, _, _, _, _]) [1, 2, 4, 5, 6, 7, 8, 9, 10, 11] rfl rfl rfl, HY.s <| HY.s <| HY.s <| HY.s <| HY.s <| HY.s <| HY.s <| HY.s <| HY.s <| HY.s <| HY.s <| HY.s <| HY.f rfl fun b36 => ⟨selJ (L1 := [_, _, _, _, _, _, _, _, _, _]) [2, 3, 5, 6, 7, 8, 9, 10, 11, 12] rfl rfl rfl, HY.h rfl rfl fun X => HO.appT (phi d (z0.tmod 4) (z1.tmod 4) mi) 5 0 (fun R => [_, _, _, _, _, R, _, _, _, _, _, _, _] ++ X) S28 S28 I3 (.r rfl) (.r rfl) rfl rfl rfl rfl rfl rfl rfl (fun _ => rfl) rfl (by omega) fun p23 c23 => ⟨[_, _, _, _, _, _, _, _, _, _, _, _, _], rfl, selJ (L1 := [_, _, _, _, _, _, _, _, _]) [2, 3, 6, 7, 8, 9, 10, 11, 12] rfl rfl rfl, HY.s <| HY.h0 rfl fun X => HO.st 2 (vs := [_]) (C' := [_, _, _, _, _, _, _]) (L' := [_, _, _, _, _, _, _, _, _, _, _, _, _] ++ X) N28 rfl rfl rfl rfl rfl rfl rfl rfl <| ⟨[_, _, _, _, _, _, _, _, _, _, _, _, _], rfl, selJ (L1 := [_, _, _, _, _, _, _, _]) [3, 6, 7, 8, 9, 10, 11, 12] rfl rfl rfl, HY.s <| HY.h0 rfl fun X => HO.st 3 (vs := [_]) (C' := [_, _, _, _, _, _, _]) (L' := [_, _, _, _, _, _, _, _, _, _, _, _, _] ++ X) N28 rfl rfl rfl rfl rfl rfl rfl rfl <| ⟨[_, _, _, _, _, _, _, _, _, _, _, _, _], rfl, selJ (L1 := [_, _, _, _, _, _, _]) [6, 7, 8, 9, 10, 11, 12] rfl rfl rfl, HY.nil ?_⟩⟩⟩⟩⟩⟩)
      refine VE.inN (VE.seqN ?_)
      refine VC.weak (env' := [(7, _), (8, _), (10, _), (11, _), (12, _), (13, _), (14, _), (15, _), (16, _)]) (.cons rfl (.cons rfl (.cons rfl (.cons rfl (.cons rfl (.cons rfl (.cons rfl (.cons rfl (.cons rfl .nil))))))))) (fun _ h => h) ?_
      refine VC.reg (VO.l (LO.mv (.r rfl)) rfl <| VO.l (LO.add (.r rfl) (.r rfl) (wi (by omega) (by omega))) rfl <| VO.l (LO.as (.r rfl)) rfl <| VO.nil ?_)
      refine VE.thenN fun a w ha hw => ⟨(i + 1, ma ++ [phi0 d mi], mb ++ [phi d (z0.tmod 4) (z1.tmod 4) mi], _, _, _, _), ⟨by simp <;> omega, mv_step hmi hma, mv_step hmi hmb⟩, (by dsimp only; omega), ha.sub (.cons rfl (.cons rfl (.cons rfl (.cons rfl (.cons rfl (.cons rfl (.cons rfl (.cons rfl (.cons rfl .nil))))))))), hw.sel [2, 3, 4, 5, 6, 7, 8, 9, 10, 11, 12] rfl⟩
    ·
      have hi1 : i = (dC d).may.length := by omega
      subst hi1
      rw [List.take_of_length_le (Nat.le_refl _)] at hma hmb
      refine VC.exit (VE.thenX (VE.thenX (VE.inX (VE.seqN ?_))))
      refine VC.seq ?_
      refine VC.seq ?_
      refine VC.reg (VO.l (LO.as (.r rfl)) rfl <| VO.nil ?_)
      refine VE.seqN ?_
      refine VC.block ?_
      refine VC.loopK (α := Nat × (List Int) × (List Int) × (Option Addr) × Nat × (Option Addr) × Nat) 2 (fun gx => [(19, .int .i64 (gx.1 : Nat))]) [(7, _), (8, _), (10, _), (11, _), (12, _), (13, _), (14, _), (15, _)] (fun gx => [blk b19 (.cells #[.slice gx.2.2.2.1 gx.2.1.length gx.2.2.2.2.1, .slice pa ma.length ca, .int .i64 (dC d).flow.a, .int .i64 (dC d).flow.b, .int .i64 (dC d).flow.c, .int .i64 (dC d).flow.d, .int .i64 (dC d).grow] 34), blk b20 (.cells #[.slice gx.2.2.2.2.2.1 gx.2.2.1.length gx.2.2.2.2.2.2, .slice pb1 mb.length cb, .int .i64 (dC d).flow.a, .int .i64 (dC d).flow.b, .int .i64 (dC d).flow.c, .int .i64 (dC d).flow.d, .int .i64 (dC d).grow] 34), own 3 1 gx.2.2.2.1 gx.2.2.2.2.1 (gx.2.1.map fun n => [.int .i64 n]), own 3 1 gx.2.2.2.2.2.1 gx.2.2.2.2.2.2 (gx.2.2.1.map fun n => [.int .i64 n])]) (fun gx => (gx.1 ≤ (dC d).sure.length ∧ gx.2.1.length ≤ gx.1 ∧ gx.2.2.1.length ≤ gx.1) ∧ gx.2.1 = ((dC d).sure.take gx.1).map (phi0 d) ∧ gx.2.2.1 = ((dC d).sure.take gx.1).map (phi d (z0.tmod 4) (z1.tmod 4))) (fun gx => (dC d).sure.length - gx.1) (0, [], [], none, 0, none, 0) (by exact ⟨⟨Nat.zero_le _, Nat.le_refl _, Nat.le_refl _⟩, rfl, rfl⟩) (.cons rfl (.cons rfl (.cons rfl (.cons rfl (.cons rfl (.cons rfl (.cons rfl (.cons rfl (.cons rfl .nil))))))))) (fun _ h => (((h.ownNil 3 1).ownNil 3 1)).sel [2, 3, 0, 1, 4, 5, 6, 7, 8, 9, 10, 11, 12] rfl) ?_
      rintro ⟨i, sa, sb, qa, da, qb, db⟩ ⟨hk0, hsa, hsb⟩
      show VC _ _ _ _ _ ([(19, .int .i64 (i : Nat))] ++ _) ([blk b19 (.cells #[.slice qa sa.length da, .slice pa ma.length ca, .int .i64 (dC d).flow.a, .int .i64 (dC d).flow.b, .int .i64 (dC d).flow.c, .int .i64 (dC d).flow.d, .int .i64 (dC d).grow] 34), blk b20 (.cells #[.slice qb sb.length db, .slice pb1 mb.length cb, .int .i64 (dC d).flow.a, .int .i64 (dC d).flow.b, .int .i64 (dC d).flow.c, .int .i64 (dC d).flow.d, .int .i64 (dC d).grow] 34), own 3 1 qa da (sa.map fun n => [.int .i64 n]), own 3 1 qb db (sb.map fun n => [.int .i64 n])] ++ _) _ _
      obtain ⟨hk, hk1, hk2⟩ : i ≤ (dC d).sure.length ∧ sa.length ≤ i ∧ sb.length ≤ i := hk0
      have hsa : sa = ((dC d).sure.take i).map (phi0 d) := hsa
      have hsb : sb = ((dC d).sure.take i).map (phi d (z0.tmod 4) (z1.tmod 4)) := hsb
      have hlb := dC_len d
      refine VC.seq ?_
      refine VC.seq ?_
      refine VC.reg (VO.l (LO.mv (.r rfl)) rfl <| VO.l (LO.fa (r := 0) F34_0 (.r rfl) rfl) rfl <| VO.l (LO.ld O28 (.r rfl) (fun _ hw => cells_at hw 7 rfl ⟨_, rfl⟩)) rfl <| VO.l (LO.len S28 (.r rfl) rfl) rfl <| VO.l (LO.lt (.r rfl) (.r rfl)) rfl <| VO.nil ?_)
      refine VE.seqN ?_
      refine VC.cond rfl (fun h3 => ?_) (fun h3 => ?_)
      ·
        obtain ⟨mi, hmi⟩ : ∃ mi, (dC d).sure[i]? = some mi := ⟨_, List.getElem?_eq_getElem (by omega)⟩
        have hil : i < (dC d).sure.length := (List.getElem?_eq_some_iff.1 hmi).1
        have hmx := dmem_bd hdk hcl0 (hsm.1 _) (List.mem_of_getElem? hmi)
        have hr0 := row_bd (v := mi.tdiv (dG d).wide) (w := (dG d).wide + 3) (by omega) (by omega) (by omega) (by omega)
        have hr1 := row_bd (v := mi.tdiv (dG d).wide + z1.tmod 4) (w := (dG d).wide + 3) (by omega) (by omega) (by omega) (by omega)
        refine VC.skip (VE.seqN ?_)
        refine VC.seq ?_
        refine VC.block ?_
        refine VC.seq ?_
        refine VC.draw mixed (LL.l (LO.fa (r := 0) F34_0 (.r rfl) rfl) rfl <| LL.l (LO.ld O28 (.r rfl) (fun _ hw => cells_at hw 7 rfl ⟨_, rfl⟩)) rfl <| LL.l (LO.mv (.r rfl)) rfl <| LL.l (LO.ixo S28 N3 (fun _ hw => (own_rows hw 9 rfl).some (by simp)) (.r rfl) (.r rfl) rfl hil) rfl <| LL.l (LO.ld O3 (.r rfl) (fun w hw => cells_part (off := 0) (own_cell hw 9 rfl hmi) ⟨_, rfl⟩)) rfl <| LL.l (LO.fa (r := 3) F23_3 (.r rfl) rfl) rfl <| LL.l (LO.ld O3 (.r rfl) (fun _ hw => cells_at hw 8 rfl ⟨_, rfl⟩)) rfl <| LL.l (LO.rem (.r rfl) (.r rfl) (by omega)) rfl <| LL.l (LO.fa (r := 0) F34_0 (.r rfl) rfl) rfl <| LL.l (LO.ld O28 (.r rfl) (fun _ hw => cells_at hw 7 rfl ⟨_, rfl⟩)) rfl <| LL.l (LO.mv (.r rfl)) rfl <| LL.l (LO.ixo S28 N3 (fun _ hw => (own_rows hw 9 rfl).some (by simp)) (.r rfl) (.r rfl) rfl hil) rfl <| LL.l (LO.ld O3 (.r rfl) (fun w hw => cells_part (off := 0) (own_cell hw 9 rfl hmi) ⟨_, rfl⟩)) rfl <| LL.l (LO.fa (r := 3) F23_3 (.r rfl) rfl) rfl <| LL.l (LO.ld O3 (.r rfl) (fun _ hw => cells_at hw 8 rfl ⟨_, rfl⟩)) rfl <| LL.l (LO.quo (.r rfl) (.r rfl) (by omega) (wi (by omega) (by omega))) rfl <| LL.l (LO.as (.r rfl)) rfl <| LL.l (LO.as (.r rfl)) rfl <| LL.nil) (by kernel_rfl) ?_
        refine VE.seqN ?_
        refine VC.drawB [⟨8, 149, fun b => .slice (some ⟨b, 0, none⟩) 1 1, 3, #[_]⟩, ⟨22, 163, fun b => .slice (some ⟨b, 0, none⟩) 1 1, 3, #[_]⟩] [[0, 1, 2, 3, 4, 5, 6, 7, 8, 9, 10, 11, 12], [0, 1, 2, 3, 4, 5, 6, 7, 8, 9, 10, 11, 12], [0, 1, 3, 4, 5, 6, 7, 8, 9, 10, 11, 12], [0, 1, 3, 4, 5, 6, 7, 8, 9, 10, 11, 12], [0, 1, 4, 5, 6, 7, 8, 9, 10, 11, 12], [1, 4, 5, 6, 7, 8, 9, 10, 11, 12], [4, 5, 6, 7, 8, 9, 10, 11, 12]] [some 3, some 3, some 3, some 3, some 3, some 3, some 3, some 3, none, none, some 3, some 3, some 2, some 2, some 2, some 2, some 2, some 2, some 2, some 2, some 2, some 2, none, none, some 4, none, some 5, none] mixed (by kernel_rfl) rfl (LX.l (fun _ hJ => LO.fa (r := 0) F34_0 (.r rfl) rfl) rfl <| LX.l (fun _ hJ => LO.ld O28 (.r rfl) (fun _ hw => cells_at (hJ _ hw) 0 rfl ⟨_, rfl⟩)) rfl <| LX.l (fun _ hJ => LO.mv (.r rfl)) rfl <| LX.l (fun _ hJ => LO.fa (r := 3) F23_3 (.r rfl) rfl) rfl <| LX.l (fun _ hJ => LO.ld O3 (.r rfl) (fun _ hw => cells_at (hJ _ hw) 5 rfl ⟨_, rfl⟩)) rfl <| LX.l (fun _ hJ => LO.mul (.r rfl) (.r rfl) (wi (by omega) (by omega))) rfl <| LX.l (fun _ hJ => LO.mv (.r rfl)) rfl <| LX.l (fun _ hJ => LO.add (.r rfl) (.r rfl) (wi (by omega) (by omega))) rfl <| LX.s <| LX.s <| LX.l (fun _ hJ => LO.fa (r := 0) F34_0 (.r rfl) rfl) rfl <| LX.l (fun _ hJ => LO.ld O28 (.r rfl) (fun _ hw => cells_at (hJ _ hw) 1 rfl ⟨_, rfl⟩)) rfl <| LX.l (fun _ hJ => LO.mv (.r rfl)) rfl <| LX.l (fun _ hJ => LO.mv (.r rfl)) rfl <| LX.l (fun _ hJ => LO.add (.r rfl) (.r rfl) (wi (by omega) (by omega))) rfl <| LX.l (fun _ hJ => LO.fa (r := 3) F23_3 (.r rfl) rfl) rfl <| LX.l (fun _ hJ => LO.ld O3 (.r rfl) (fun _ hw => cells_at (hJ _ hw) 5 rfl ⟨_, rfl⟩)) rfl <| LX.l (fun _ hJ => LO.mul (.r rfl) (.r rfl) (wi (by omega) (by omega))) rfl <| LX.l (fun _ hJ => LO.mv (.r rfl)) rfl <| LX.l (fun _ hJ => LO.add (.r rfl) (.r rfl) (wi (by omega) (by omega))) rfl <| LX.l (fun _ hJ => LO.mv (.r rfl)) rfl <| LX.l (fun _ hJ => LO.add (.r rfl) (.r rfl) (wi (by omega) (by omega))) rfl <| LX.s <| LX.s <| LX.l (fun _ hJ => LO.fa (r := 0) F34_0 (.r rfl) rfl) rfl <| LX.s <| LX.l (fun _ hJ => LO.fa (r := 0) F34_0 (.r rfl) rfl) rfl <| LX.s <| LX.nil) (⟨⟨rfl, _, rfl, FO.bs (ps := [(_, _)]) (vs := [(_, _)]) (Z := [_]) (C := [_]) S28 Z3 N3 ⟨(.r rfl), trivial⟩ rfl rfl rfl rfl ⟨_, [_], [_], rfl, rfl, rfl, rfl, rfl⟩⟩, ⟨⟨rfl, _, rfl, FO.bs (ps := [(_, _)]) (vs := [(_, _)]) (Z := [_]) (C := [_]) S28 Z3 N3 ⟨(.r rfl), trivial⟩ rfl rfl rfl rfl ⟨_, [_], [_], rfl, rfl, rfl, rfl, rfl⟩⟩, trivial⟩⟩) (HY.s <| HY.s <| HY.s <| HY.s <| HY.s <| HY.s <| HY.s <| HY.s <| HY.f rfl fun b47 => ⟨selJ (L1 := [_, _, _, _, _, _, _, _, _, _, _, _, _]) [1, 2, 3, 4, 5, 6, 7, 8, 9, 10, 11, 12, 13] rfl rfl rfl, HY.h rfl rfl fun X => HO.appT (phi0 d mi) 3 0 (fun R => [_, _, _, R, _, _, _, _, _, _, _, _, _, _] ++ X) S28 S28 I3 (.r rfl) (.r rfl) rfl rfl rfl rfl rfl rfl rfl (fun _ => rfl) rfl (by omega) fun p9 c9 => ⟨[_, _, _, _, _, _, _, _, _, _, _, _, _, _], rfl, selJ (L1 := [_, _, _, _, _, _, _, _, _, _, _, _]) [1, 2, 4, 5, 6, 7, 8, 9, 10, 11, 12, 13] rfl rfl rfl, HY.s <| HY.s <| HY.s <| HY.s <| HY.s <| HY.s <| HY.s <| HY.s <| HY.s <| HY.s <| HY.s <| HY.s <| HY.f rfl fun b48 => ⟨selJ (L1 := [_, _, _, _, _, _, _, _, _, _, _, _]) [2, 3, 5, 6, 7, 8, 9, 10, 11, 12, 13, 14] rfl rfl rfl, HY.h rfl rfl fun X => HO.appT (phi d (z0.tmod 4) (z1.tmod 4) mi) 5 0 (fun R => [_, _, _, _, _, R, _, _, _, _, _, _, _, _, _] ++ X) S28 S28 I3 (.r rfl) (.r rfl) rfl rfl rfl rfl rfl rfl rfl (fun _ => rfl) rfl (by omega) fun p23 c23 => ⟨[_, _, _, _, _, _, _, _, _, _, _, _, _, _, _], rfl, selJ (L1 := [_, _, _, _, _, _, _, _, _, _, _]) [2, 3, 6, 7, 8, 9, 10, 11, 12, 13, 14] rfl rfl rfl, HY.s <| HY.h0 rfl fun X => HO.st 2 (vs := [_]) (C' := [_, _, _, _, _, _, _]) (L' := [_, _, _, _, _, _, _, _, _, _, _, _, _, _, _] ++ X) N28 rfl rfl rfl rfl rfl rfl rfl rfl <| ⟨[_, _, _, _, _, _, _, _, _, _, _, _, _, _, _], rfl, selJ (L1 := [_, _, _, _, _, _, _, _, _, _]) [3, 6, 7, 8, 9, 10, 11, 12, 13, 14] rfl rfl rfl, HY.s <| HY.h0 rfl fun X => HO.st 3 (vs := [_]) (C' := [_, _, _, _, _, _, _]) (L' := [_, _, _, _, _, _, _, _, _, _, _, _, _, _, _] ++ X) N28 rfl rfl rfl rfl rfl rfl rfl rfl <| ⟨[_, _, _, _, _, _, _, _, _, _, _, _, _, _, _], rfl, selJ (L1 := [_, _, _, _, _, _, _, _, _]) [6, 7, 8, 9, 10, 11, 12, 13, 14] rfl rfl rfl, HY.nil ?_⟩⟩⟩⟩⟩⟩)
        refine VE.inN (VE.seqN ?_)
        refine VC.weak (env' := [(7, _), (8, _), (10, _), (11, _), (12, _), (13, _), (14, _), (15, _), (19, _)]) (.cons rfl (.cons rfl (.cons rfl (.cons rfl (.cons rfl (.cons rfl (.cons rfl (.cons rfl (.cons rfl .nil))))))))) (fun _ h => h) ?_
        refine VC.reg (VO.l (LO.mv (.r rfl)) rfl <| VO.l (LO.add (.r rfl) (.r rfl) (wi (by omega) (by omega))) rfl <| VO.l (LO.as (.r rfl)) rfl <| VO.nil ?_)
        refine VE.thenN fun a w ha hw => ⟨(i + 1, sa ++ [phi0 d mi], sb ++ [phi d (z0.tmod 4) (z1.tmod 4) mi], _, _, _, _), ⟨by simp <;> omega, mv_step hmi hsa, mv_step hmi hsb⟩, (by dsimp only; omega), ha.sub (.cons rfl (.cons rfl (.cons rfl (.cons rfl (.cons rfl (.cons rfl (.cons rfl (.cons rfl (.cons rfl .nil))))))))), hw.sel [2, 3, 4, 5, 6, 7, 8, 9, 10, 11, 12, 13, 14] rfl⟩
      ·
        have hi2 : i = (dC d).sure.length := by omega
        subst hi2
        rw [List.take_of_length_le (Nat.le_refl _)] at hsa hsb
        have hlA : sa.length < 1000000000000 ∧ ma.length < 1000000000000 := by rw [hsa, hma, List.length_map, List.length_map]; exact dC_len d
        have hlB : sb.length < 1000000000000 ∧ mb.length < 1000000000000 := by rw [hsb, hmb, List.length_map, List.length_map]; exact dC_len d
        have hcA : cloudE (hG d) (mC d sa ma) = 0 := by rw [hsa, hma, phi0_eq]; exact mC_ok hdk hcl0 (by omega) (by omega) (by omega) (by omega)
        have hcB : cloudE (hG d) (mC d sb mb) = 0 := by rw [hsb, hmb]; exact mC_ok hdk hcl0 hbx.1 (by omega) hby.1 (by omega)
        have hEA := at1E hcA (t := ld.tmod 121) (by omega) (by omega)
        have hEB := at1E hcB (t := ld.tmod 121) (by omega) (by omega)
        have hE0 := at1E hcl0 (t := 0) (by omega) (by omega)
        have hrh := mul_h (a := dW d) (b := dH d) (by omega) (by omega) (by omega) (by omega)
        have hrh2 : ((dG d).wide + 3) * ((dG d).high + 3) = (dW d + 3) * (dH d + 3) := rfl
        have hLA := at1len hEA (by show 0 ≤ (dW d + 3) * (dH d + 3); omega)
        have hLB := at1len hEB (by show 0 ≤ (dW d + 3) * (dH d + 3); omega)
        have hL0 := at1len hE0 (by show 0 ≤ dW d * dH d; omega)
        refine VC.exit (VE.thenX (VE.thenX (VE.inX (VE.seqN ?_))))
        refine VC.seq ?_
        refine VC.reg (VO.l (LO.lda (vs := [_, _, _, _, _]) A23 (.r rfl) (fun _ hw => cells_at hw 8 rfl ⟨_, rfl⟩) rfl) rfl <| VO.l (LO.lda (vs := [_, _, _, _, _, _, _]) A34 (.r rfl) (fun _ hw => cells_at hw 7 rfl ⟨_, rfl⟩) rfl) rfl <| VO.h rfl <| HO.bs (ps := [(_, _)]) (vs := [(_, _)]) (Z := [_, _, _, _, _, _, _]) (C := [_, _, _, _, _, _, _]) S24 Z34 N34 ⟨(.r rfl), trivial⟩ rfl rfl rfl rfl ⟨_, [_, _, _, _, _, _, _], [_, _, _, _, _, _, _], rfl, rfl, rfl, rfl, rfl⟩ fun b51 => VO.l (LO.mv (.r rfl)) rfl <| VO.h rfl <| HO.callx (xs := [_, _, _]) (vs := [_, _, _]) C17 ⟨(.r rfl), (.r rfl), (.r rfl), trivial⟩ (fun w hw => At_c (dG d) [cpD d x] (some ⟨_, 0, none⟩) 1 (ld.tmod 121) w (by show 1 < _; decide) (cloudsOne (cells_at hw 0 rfl ⟨[], rfl⟩) (own_rows hw 10 rfl) (own_rows hw 11 rfl) (dC_len d).1 (dC_len d).2)) fun y1 _ => VO.h rfl <| HO.lo (LO.mv (.r rfl)) <| VO.h rfl <| HO.lo (LO.ex (.r rfl) rfl) <| VO.h rfl <| HO.lo (LO.ex (.r rfl) rfl) <| VO.h rfl <| HO.lo (LO.as (.r rfl)) <| VO.h rfl <| HO.lo (LO.as (.r rfl)) <| VO.nil ?_)
        refine VE.seqN ?_
        refine VC.seq ?_
        refine VC.reg (VO.l (LO.lda (vs := [_, _, _, _, _]) A23 (.r rfl) (fun _ hw => cells_at hw 8 rfl ⟨_, rfl⟩) rfl) rfl <| VO.l (LO.lda (vs := [_, _, _, _, _, _, _]) A34 (.r rfl) (fun _ hw => cells_at hw 2 rfl ⟨_, rfl⟩) rfl) rfl <| VO.h rfl <| HO.bs (ps := [(_, _)]) (vs := [(_, _)]) (Z := [_, _, _, _, _, _, _]) (C := [_, _, _, _, _, _, _]) S24 Z34 N34 ⟨(.r rfl), trivial⟩ rfl rfl rfl rfl ⟨_, [_, _, _, _, _, _, _], [_, _, _, _, _, _, _], rfl, rfl, rfl, rfl, rfl⟩ fun b53 => VO.l (LO.mv (.r rfl)) rfl <| VO.h rfl <| HO.callx (xs := [_, _, _]) (vs := [_, _, _]) C17 ⟨(.r rfl), (.r rfl), (.r rfl), trivial⟩ (fun w hw => At_c (hG d) [⟨mC d sa ma, qa, da, pa, ca⟩] (some ⟨_, 0, none⟩) 1 (ld.tmod 121) w (by show 1 < _; decide) (cloudsOne (cells_at hw 0 rfl ⟨[], rfl⟩) (own_rows hw 5 rfl) (own_rows hw 7 rfl) hlA.1 hlA.2)) fun y2 _ => VO.h rfl <| HO.lo (LO.mv (.r rfl)) <| VO.h rfl <| HO.lo (LO.ex (.r rfl) rfl) <| VO.h rfl <| HO.lo (LO.ex (.r rfl) rfl) <| VO.h rfl <| HO.lo (LO.as (.r rfl)) <| VO.h rfl <| HO.lo (LO.as (.r rfl)) <| VO.nil ?_)
        refine VE.seqN ?_
        refine VC.seq ?_
        refine VC.reg (VO.l (LO.lda (vs := [_, _, _, _, _]) A23 (.r rfl) (fun _ hw => cells_at hw 10 rfl ⟨_, rfl⟩) rfl) rfl <| VO.l (LO.lda (vs := [_, _, _, _, _, _, _]) A34 (.r rfl) (fun _ hw => cells_at hw 5 rfl ⟨_, rfl⟩) rfl) rfl <| VO.h rfl <| HO.bs (ps := [(_, _)]) (vs := [(_, _)]) (Z := [_, _, _, _, _, _, _]) (C := [_, _, _, _, _, _, _]) S24 Z34 N34 ⟨(.r rfl), trivial⟩ rfl rfl rfl rfl ⟨_, [_, _, _, _, _, _, _], [_, _, _, _, _, _, _], rfl, rfl, rfl, rfl, rfl⟩ fun b55 => VO.l (LO.mv (.r rfl)) rfl <| VO.h rfl <| HO.callx (xs := [_, _, _]) (vs := [_, _, _]) C17 ⟨(.r rfl), (.r rfl), (.r rfl), trivial⟩ (fun w hw => At_c (hG d) [⟨mC d sb mb, qb, db, pb1, cb⟩] (some ⟨_, 0, none⟩) 1 (ld.tmod 121) w (by show 1 < _; decide) (cloudsOne (cells_at hw 0 rfl ⟨[], rfl⟩) (own_rows hw 8 rfl) (own_rows hw 10 rfl) hlB.1 hlB.2)) fun y3 _ => VO.h rfl <| HO.lo (LO.mv (.r rfl)) <| VO.h rfl <| HO.lo (LO.ex (.r rfl) rfl) <| VO.h rfl <| HO.lo (LO.ex (.r rfl) rfl) <| VO.h rfl <| HO.lo (LO.as (.r rfl)) <| VO.h rfl <| HO.lo (LO.as (.r rfl)) <| VO.nil ?_)
        refine VE.seqN ?_
        refine VC.weak (env' := [(7, _), (8, _), (11, _), (12, _), (13, _), (22, _), (23, _), (24, _), (25, _), (26, _), (27, _)]) (.cons rfl (.cons rfl (.cons rfl (.cons rfl (.cons rfl (.cons rfl (.cons rfl (.cons rfl (.cons rfl (.cons rfl (.cons rfl .nil))))))))))) (fun _ h => h) ?_
        refine VC.seq ?_
        refine VC.reg (VO.l (LO.lda (vs := [_, _, _, _, _]) A23 (.r rfl) (fun _ hw => cells_at hw 14 rfl ⟨_, rfl⟩) rfl) rfl <| VO.l (LO.lda (vs := [_, _, _, _, _, _, _]) A34 (.r rfl) (fun _ hw => cells_at hw 13 rfl ⟨_, rfl⟩) rfl) rfl <| VO.h rfl <| HO.bs (ps := [(_, _)]) (vs := [(_, _)]) (Z := [_, _, _, _, _, _, _]) (C := [_, _, _, _, _, _, _]) S24 Z34 N34 ⟨(.r rfl), trivial⟩ rfl rfl rfl rfl ⟨_, [_, _, _, _, _, _, _], [_, _, _, _, _, _, _], rfl, rfl, rfl, rfl, rfl⟩ fun b57 => VO.h rfl <| HO.callx (xs := [_, _, _]) (vs := [_, _, _]) C17 ⟨(.r rfl), (.r rfl), (.r rfl), trivial⟩ (fun w hw => At_c (dG d) [cpD d x] (some ⟨_, 0, none⟩) 1 0 w (by show 1 < _; decide) (cloudsOne (cells_at hw 0 rfl ⟨[], rfl⟩) (own_rows hw 16 rfl) (own_rows hw 17 rfl) (dC_len d).1 (dC_len d).2)) fun y4 _ => VO.h rfl <| HO.lo (LO.mv (.r rfl)) <| VO.h rfl <| HO.lo (LO.ex (.r rfl) rfl) <| VO.h rfl <| HO.lo (LO.ex (.r rfl) rfl) <| VO.h rfl <| HO.lo (LO.as (.r rfl)) <| VO.h rfl <| HO.lo (LO.as (.r rfl)) <| VO.nil ?_)
        refine VE.seqN ?_
        refine VC.seq ?_
        refine VC.seq ?_
        refine VC.reg (VO.l (LO.mv (.r rfl)) rfl <| VO.l (LO.ne (.r rfl) (.r rfl)) rfl <| VO.l (LO.mv (.r rfl)) rfl <| VO.lg rfl rfl (GD.f _) (fun hg => LO.mv (.r rfl)) rfl <| VO.lg rfl rfl (GD.f _) (fun hg => LO.ne (.g hg rfl) (.r rfl)) rfl <| VO.l (LO.pkO (.r rfl) (.r rfl) rfl rfl) rfl <| VO.l (LO.mv (.r rfl)) rfl <| VO.lg rfl rfl (GD.f _) (fun hg => LO.mv (.r rfl)) rfl <| VO.lg rfl rfl (GD.f _) (fun hg => LO.ne (.g hg rfl) (.r rfl)) rfl <| VO.l (LO.pkO (.r rfl) (.r rfl) rfl rfl) rfl <| VO.l (LO.mv (.r rfl)) rfl <| VO.lg rfl rfl (GD.f _) (fun hg => LO.mv (.r rfl)) rfl <| VO.lg rfl rfl (GD.f _) (fun hg => LO.ne (.g hg rfl) (.r rfl)) rfl <| VO.l (LO.pkO (.r rfl) (.r rfl) rfl rfl) rfl <| VO.l (LO.mv (.r rfl)) rfl <| VO.lg rfl rfl (GD.f _) (fun hg => LO.mv (.r rfl)) rfl <| VO.lg rfl rfl (GD.f _) (fun hg => LO.len S28 (.g hg rfl) rfl) rfl <| VO.lg rfl rfl (GD.f _) (fun hg => LO.fa (r := 3) F23_3 (.r rfl) rfl) rfl <| VO.lg rfl rfl (GD.f _) (fun hg => LO.ld O3 (.g hg rfl) (fun _ hw => cells_at hw 16 rfl ⟨_, rfl⟩)) rfl <| VO.lg rfl rfl (GD.f _) (fun hg => LO.fa (r := 4) F23_4 (.r rfl) rfl) rfl <| VO.lg rfl rfl (GD.f _) (fun hg => LO.ld O3 (.g hg rfl) (fun _ hw => cells_at hw 16 rfl ⟨_, rfl⟩)) rfl <| VO.lg rfl rfl (GD.f _) (fun hg => LO.mul (.g hg rfl) (.g hg rfl) (wi (by omega) (by omega))) rfl <| VO.lg rfl rfl (GD.f _) (fun hg => LO.ne (.g hg rfl) (.g hg rfl)) rfl <| VO.l (LO.pkO (.r rfl) (.r rfl) rfl rfl) rfl <| VO.l (LO.mv (.r rfl)) rfl <| VO.lg rfl rfl (GD.f _) (fun hg => LO.mv (.r rfl)) rfl <| VO.lg rfl rfl (GD.f _) (fun hg => LO.len S28 (.g hg rfl) rfl) rfl <| VO.lg rfl rfl (GD.f _) (fun hg => LO.fa (r := 3) F23_3 (.r rfl) rfl) rfl <| VO.lg rfl rfl (GD.f _) (fun hg => LO.ld O3 (.g hg rfl) (fun _ hw => cells_at hw 14 rfl ⟨_, rfl⟩)) rfl <| VO.lg rfl rfl (GD.f _) (fun hg => LO.fa (r := 4) F23_4 (.r rfl) rfl) rfl <| VO.lg rfl rfl (GD.f _) (fun hg => LO.ld O3 (.g hg rfl) (fun _ hw => cells_at hw 14 rfl ⟨_, rfl⟩)) rfl <| VO.lg rfl rfl (GD.f _) (fun hg => LO.mul (.g hg rfl) (.g hg rfl) (wi (by omega) (by omega))) rfl <| VO.lg rfl rfl (GD.f _) (fun hg => LO.ne (.g hg rfl) (.g hg rfl)) rfl <| VO.l (LO.pkO (.r rfl) (.r rfl) rfl rfl) rfl <| VO.l (LO.mv (.r rfl)) rfl <| VO.lg rfl rfl (GD.f _) (fun hg => LO.mv (.r rfl)) rfl <| VO.lg rfl rfl (GD.f _) (fun hg => LO.len S28 (.g hg rfl) rfl) rfl <| VO.lg rfl rfl (GD.f _) (fun hg => LO.mv (.r rfl)) rfl <| VO.lg rfl rfl (GD.f _) (fun hg => LO.len S28 (.g hg rfl) rfl) rfl <| VO.lg rfl rfl (GD.f _) (fun hg => LO.ne (.g hg rfl) (.g hg rfl)) rfl <| VO.l (LO.pkO (.r rfl) (.r rfl) rfl rfl) rfl <| VO.l (LO.mv (.r rfl)) rfl <| VO.lg rfl rfl (GD.f _) (fun hg => LO.mv (.r rfl)) rfl <| VO.lg rfl rfl (GD.f _) (fun hg => LO.len S28 (.g hg rfl) rfl) rfl <| VO.lg rfl rfl (GD.f _) (fun hg => LO.mv (.r rfl)) rfl <| VO.lg rfl rfl (GD.f _) (fun hg => LO.len S28 (.g hg rfl) rfl) rfl <| VO.lg rfl rfl (GD.f _) (fun hg => LO.ne (.g hg rfl) (.g hg rfl)) rfl <| VO.l (LO.pkO (.r rfl) (.r rfl) rfl rfl) rfl <| VO.nil ?_)
        refine VE.seqN ?_
        refine VC.weak (env' := [(7, _), (8, _), (11, _), (12, _), (13, _), (22, _), (24, _), (26, _), (28, _), (245, _)]) (.cons rfl (.cons rfl (.cons rfl (.cons rfl (.cons rfl (.cons rfl (.cons rfl (.cons rfl (.cons rfl (.cons rfl .nil)))))))))) (fun _ h => h) ?_
        refine VC.cond rfl (fun h4 => ?_) (fun h4 => ?_)
        ·
          (exfalso; (rcases h4 with ((((((q | q) | q) | q) | q) | q) | q) | q; exact q hE; exact q hEA; exact q hEB; exact q hE0; exact q hLn; exact q hLA; exact q (hLB.trans hLA.symm); exact q (hL0.trans hLn.symm)))
        ·
          refine VC.skip (VE.seqN ?_)
          refine VC.seq ?_
          refine VC.seq ?_
          refine VC.reg (VO.l (LO.as (.r rfl)) rfl <| VO.nil ?_)
          refine VE.seqN ?_
          refine VC.block ?_
          refine VC.loopK (α := Nat) 0 (fun gx => [(30, .int .i64 (gx : Nat))]) [(7, _), (8, _), (11, _), (12, _), (13, _), (22, _), (24, _), (26, _), (28, _)] (fun gx => []) (fun gx => (gx : Int) ≤ dW d * dH d) (fun gx => (dW d * dH d).toNat - gx) 0 (by omega) (.cons rfl (.cons rfl (.cons rfl (.cons rfl (.cons rfl (.cons rfl (.cons rfl (.cons rfl (.cons rfl (.cons rfl .nil)))))))))) (fun _ h => h) ?_
          rintro k hk
          refine VC.seq ?_
          refine VC.seq ?_
          refine VC.reg (VO.l (LO.mv (.r rfl)) rfl <| VO.l (LO.mv (.r rfl)) rfl <| VO.l (LO.len S28 (.r rfl) rfl) rfl <| VO.l (LO.lt (.r rfl) (.r rfl)) rfl <| VO.nil ?_)
          refine VE.seqN ?_
          refine VC.cond rfl (fun h5 => ?_) (fun h5 => ?_)
          ·
            have hkn : k < (dW d * dH d).toNat := by omega
            have hq1 := at1L hE (n := k) hkn
            have hk1 := (List.getElem?_eq_some_iff.1 hq1).1
            have hpk := tmod_bd (g := dG d) (p := (k : Nat)) (dG_ok hdk) (by omega) (by show (k : Int) < dW d * dH d; omega)
            have hq4 := at1L hE0 (n := k) hkn
            have hr0 := row_bd (v := (k : Int).tdiv (dG d).wide) (w := (dG d).wide + 3) (by omega) (by omega) (by omega) (by omega)
            have hr1 := row_bd (v := (k : Int).tdiv (dG d).wide + z1.tmod 4) (w := (dG d).wide + 3) (by omega) (by omega) (by omega) (by omega)
            have hk4 := (List.getElem?_eq_some_iff.1 hq4).1
            have hba := phi_bd (d := d) (q := (k : Nat)) hdk (dx := 0) (dy := 0) (by omega) (by omega) (by omega) (by omega) (by omega) (by omega)
            have hbb := phi_bd (d := d) (q := (k : Nat)) hdk (dx := z0.tmod 4) (dy := z1.tmod 4) (by omega) (by omega) (by omega) (by omega) (by omega) (by omega)
            obtain ⟨ia, hia0⟩ := Int.eq_ofNat_of_zero_le hba.1
            obtain ⟨ib, hib⟩ := Int.eq_ofNat_of_zero_le hbb.1
            have hia : (k : Int).tdiv (dG d).wide * (hG d).wide + (k : Int).tmod (dG d).wide = (ia : Nat) := by rw [← hia0]; exact congrFun phi0_eq _
            have hq2 := at1L hEA (n := ia) (by show ia < ((dW d + 3) * (dH d + 3)).toNat; omega)
            have hq3 := at1L hEB (n := ib) (by show ib < ((dW d + 3) * (dH d + 3)).toNat; omega)
            have hk2 := (List.getElem?_eq_some_iff.1 hq2).1
            have hk3 := (List.getElem?_eq_some_iff.1 hq3).1
            have hm2 : stateOf (dG d) (dC d) (k : Nat) (ld.tmod 121) = stateOf (hG d) (mC d sa ma) (ia : Nat) (ld.tmod 121) := by rw [← hia0, hsa, hma, phi0_eq]; exact moved hdk hcl0 (by omega) (by omega) (by omega) (by omega) hld.1 (by omega) (by omega) (by omega)
            have hm3 : stateOf (dG d) (dC d) (k : Nat) (ld.tmod 121) = stateOf (hG d) (mC d sb mb) (ib : Nat) (ld.tmod 121) := by rw [← hib, hsb, hmb]; exact moved hdk hcl0 hbx.1 (by omega) hby.1 (by omega) hld.1 (by omega) (by omega) (by omega)
            have hm4 := state_at0 hdk hcl0 (p := (k : Nat)) (by omega) (by omega)
            refine VC.skip (VE.seqN ?_)
            refine VC.seq ?_
            refine VC.block ?_
            refine VC.seq ?_
            refine VC.draw mixed (LL.l (LO.mv (.r rfl)) rfl <| LL.l (LO.fa (r := 3) F23_3 (.r rfl) rfl) rfl <| LL.l (LO.ld O3 (.r rfl) (fun _ hw => cells_at hw 16 rfl ⟨_, rfl⟩)) rfl <| LL.l (LO.rem (.r rfl) (.r rfl) (by omega)) rfl <| LL.l (LO.mv (.r rfl)) rfl <| LL.l (LO.fa (r := 3) F23_3 (.r rfl) rfl) rfl <| LL.l (LO.ld O3 (.r rfl) (fun _ hw => cells_at hw 16 rfl ⟨_, rfl⟩)) rfl <| LL.l (LO.quo (.r rfl) (.r rfl) (by omega) (wi (by omega) (by omega))) rfl <| LL.l (LO.as (.r rfl)) rfl <| LL.l (LO.as (.r rfl)) rfl <| LL.nil) (by kernel_rfl) ?_
            refine VE.seqN ?_
            refine VC.seq ?_
            refine VC.seq ?_
            refine VC.draw mixed (LL.l (LO.mv (.r rfl)) rfl <| LL.l (LO.mv (.r rfl)) rfl <| LL.l (LO.ixo S28 N3 (fun _ hw => (own_rows hw 6 rfl).some (by simp)) (.r rfl) (.r rfl) rfl hk1) rfl <| LL.l (LO.ld O3 (.r rfl) (fun w hw => cells_part (off := 0) (own_cell hw 6 rfl hq1) ⟨_, rfl⟩)) rfl <| LL.l (LO.mv (.r rfl)) rfl <| LL.l (LO.mv (.r rfl)) rfl <| LL.l (LO.fa (r := 3) F23_3 (.r rfl) rfl) rfl <| LL.l (LO.ld O3 (.r rfl) (fun _ hw => cells_at hw 14 rfl ⟨_, rfl⟩)) rfl <| LL.l (LO.mul (.r rfl) (.r rfl) (wi (by omega) (by omega))) rfl <| LL.l (LO.mv (.r rfl)) rfl <| LL.l (LO.add (.r rfl) (.r rfl) (wi (by omega) (by omega))) rfl <| LL.l (LO.ixo S28 N3 (fun _ hw => (own_rows hw 4 rfl).some (by simp)) (.r rfl) (.r rfl) hia hk2) rfl <| LL.l (LO.ld O3 (.r rfl) (fun w hw => cells_part (off := 0) (own_cell hw 4 rfl hq2) ⟨_, rfl⟩)) rfl <| LL.l (LO.ne (.r rfl) (.r rfl)) rfl <| LL.l (LO.mv (.r rfl)) rfl <| LL.lg rfl rfl (GD.f _) (fun hg => LO.mv (.r rfl)) rfl <| LL.lg rfl rfl (GD.f _) (fun hg => LO.mv (.r rfl)) rfl <| LL.lg rfl rfl (GD.f _) (fun hg => LO.ixo S28 N3 (fun _ hw => (own_rows hw 6 rfl).some (by simp)) (.g hg rfl) (.g hg rfl) rfl hk1) rfl <| LL.lg rfl rfl (GD.f _) (fun hg => LO.ld O3 (.g hg rfl) (fun w hw => cells_part (off := 0) (own_cell hw 6 rfl hq1) ⟨_, rfl⟩)) rfl <| LL.lg rfl rfl (GD.f _) (fun hg => LO.mv (.r rfl)) rfl <| LL.lg rfl rfl (GD.f _) (fun hg => LO.mv (.r rfl)) rfl <| LL.lg rfl rfl (GD.f _) (fun hg => LO.mv (.r rfl)) rfl <| LL.lg rfl rfl (GD.f _) (fun hg => LO.add (.g hg rfl) (.g hg rfl) (wi (by omega) (by omega))) rfl <| LL.lg rfl rfl (GD.f _) (fun hg => LO.fa (r := 3) F23_3 (.r rfl) rfl) rfl <| LL.lg rfl rfl (GD.f _) (fun hg => LO.ld O3 (.g hg rfl) (fun _ hw => cells_at hw 14 rfl ⟨_, rfl⟩)) rfl <| LL.lg rfl rfl (GD.f _) (fun hg => LO.mul (.g hg rfl) (.g hg rfl) (wi (by omega) (by omega))) rfl <| LL.lg rfl rfl (GD.f _) (fun hg => LO.mv (.r rfl)) rfl <| LL.lg rfl rfl (GD.f _) (fun hg => LO.add (.g hg rfl) (.g hg rfl) (wi (by omega) (by omega))) rfl <| LL.lg rfl rfl (GD.f _) (fun hg => LO.mv (.r rfl)) rfl <| LL.lg rfl rfl (GD.f _) (fun hg => LO.add (.g hg rfl) (.g hg rfl) (wi (by omega) (by omega))) rfl <| LL.lg rfl rfl (GD.f _) (fun hg => LO.ixo S28 N3 (fun _ hw => (own_rows hw 2 rfl).some (by simp)) (.g hg rfl) (.g hg rfl) hib hk3) rfl <| LL.lg rfl rfl (GD.f _) (fun hg => LO.ld O3 (.g hg rfl) (fun w hw => cells_part (off := 0) (own_cell hw 2 rfl hq3) ⟨_, rfl⟩)) rfl <| LL.lg rfl rfl (GD.f _) (fun hg => LO.ne (.g hg rfl) (.g hg rfl)) rfl <| LL.l (LO.pkO (.r rfl) (.r rfl) rfl rfl) rfl <| LL.nil) (by kernel_rfl) ?_
            refine VE.seqN ?_
            refine VC.weak (env' := [(7, _), (8, _), (11, _), (12, _), (13, _), (22, _), (24, _), (26, _), (28, _), (30, _), (293, _)]) (.cons rfl (.cons rfl (.cons rfl (.cons rfl (.cons rfl (.cons rfl (.cons rfl (.cons rfl (.cons rfl (.cons rfl (.cons rfl .nil))))))))))) (fun _ h => h) ?_
            refine VC.cond rfl (fun h6 => ?_) (fun h6 => ?_)
            ·
              (exfalso; (rcases h6 with q | q; exact q hm2; exact q hm3))
            ·
              refine VC.skip (VE.seqN ?_)
              refine VC.seq ?_
              refine VC.reg (VO.l (LO.as (.r rfl)) rfl <| VO.nil ?_)
              refine VE.seqN ?_
              refine VC.seq ?_
              refine VC.seq ?_
              refine VC.reg (VO.l (LO.fa (r := 1) F34_1 (.r rfl) rfl) rfl <| VO.l (LO.ld O28 (.r rfl) (fun _ hw => cells_at hw 15 rfl ⟨_, rfl⟩)) rfl <| VO.l (LO.mv (.r rfl)) rfl <| VO.l (LO.call (xs := [_, _]) (vs := [_, _]) C22 ⟨(.r rfl), (.r rfl), trivial⟩ (fun w hw => has_c _ (dC d).may _ _ w (dC_len d).2 (own_rows hw 18 rfl))) rfl <| VO.nil ?_)
              refine VE.seqN ?_
              refine VC.cond rfl (fun h7 => ?_) (fun h7 => ?_)
              ·
                refine VC.reg (VO.l (LO.as (.r rfl)) rfl <| VO.nil ?_)
                refine VE.seqN ?_
                refine VC.seq ?_
                refine VC.seq ?_
                refine VC.reg (VO.l (LO.fa (r := 0) F34_0 (.r rfl) rfl) rfl <| VO.l (LO.ld O28 (.r rfl) (fun _ hw => cells_at hw 15 rfl ⟨_, rfl⟩)) rfl <| VO.l (LO.mv (.r rfl)) rfl <| VO.l (LO.call (xs := [_, _]) (vs := [_, _]) C22 ⟨(.r rfl), (.r rfl), trivial⟩ (fun w hw => has_c _ (dC d).sure _ _ w (dC_len d).1 (own_rows hw 17 rfl))) rfl <| VO.nil ?_)
                refine VE.seqN ?_
                refine VC.cond rfl (fun h8 => ?_) (fun h8 => ?_)
                ·
                  refine VC.reg (VO.l (LO.as (.r rfl)) rfl <| VO.nil ?_)
                  refine VE.seqN ?_
                  refine VC.seq ?_
                  refine VC.reg (VO.l (LO.mv (.r rfl)) rfl <| VO.l (LO.mv (.r rfl)) rfl <| VO.l (LO.ixo S28 N3 (fun _ hw => (own_rows hw 0 rfl).some (by simp)) (.r rfl) (.r rfl) rfl hk4) rfl <| VO.l (LO.ld O3 (.r rfl) (fun w hw => cells_part (off := 0) (own_cell hw 0 rfl hq4) ⟨_, rfl⟩)) rfl <| VO.l (LO.mv (.r rfl)) rfl <| VO.l (LO.ne (.r rfl) (.r rfl)) rfl <| VO.nil ?_)
                  refine VE.seqN ?_
                  refine VC.cond rfl (fun h9 => ?_) (fun h9 => ?_)
                  ·
                    (exfalso; (apply h9; rw [hm4]; first | rw [if_pos h8] | (rw [if_neg h8, if_pos h7]) | (rw [if_neg h8, if_neg h7])))
                  ·
                    refine VC.skip (VE.inN (VE.seqN ?_))
                    refine VC.reg (VO.l (LO.mv (.r rfl)) rfl <| VO.l (LO.add (.r rfl) (.r rfl) (wi (by omega) (by omega))) rfl <| VO.l (LO.as (.r rfl)) rfl <| VO.nil ?_)
                    refine VE.thenN fun a w ha hw => ⟨k + 1, (by omega), (by omega), ha.sub (.cons rfl (.cons rfl (.cons rfl (.cons rfl (.cons rfl (.cons rfl (.cons rfl (.cons rfl (.cons rfl (.cons rfl .nil)))))))))), hw⟩
                ·
                  refine VC.skip (VE.seqN ?_)
                  refine VC.seq ?_
                  refine VC.reg (VO.l (LO.mv (.r rfl)) rfl <| VO.l (LO.mv (.r rfl)) rfl <| VO.l (LO.ixo S28 N3 (fun _ hw => (own_rows hw 0 rfl).some (by simp)) (.r rfl) (.r rfl) rfl hk4) rfl <| VO.l (LO.ld O3 (.r rfl) (fun w hw => cells_part (off := 0) (own_cell hw 0 rfl hq4) ⟨_, rfl⟩)) rfl <| VO.l (LO.mv (.r rfl)) rfl <| VO.l (LO.ne (.r rfl) (.r rfl)) rfl <| VO.nil ?_)
                  refine VE.seqN ?_
                  refine VC.cond rfl (fun h9 => ?_) (fun h9 => ?_)
                  ·
                    (exfalso; (apply h9; rw [hm4]; first | rw [if_pos h8] | (rw [if_neg h8, if_pos h7]) | (rw [if_neg h8, if_neg h7])))
                  ·
                    refine VC.skip (VE.inN (VE.seqN ?_))
                    refine VC.reg (VO.l (LO.mv (.r rfl)) rfl <| VO.l (LO.add (.r rfl) (.r rfl) (wi (by omega) (by omega))) rfl <| VO.l (LO.as (.r rfl)) rfl <| VO.nil ?_)
                    refine VE.thenN fun a w ha hw => ⟨k + 1, (by omega), (by omega), ha.sub (.cons rfl (.cons rfl (.cons rfl (.cons rfl (.cons rfl (.cons rfl (.cons rfl (.cons rfl (.cons rfl (.cons rfl .nil)))))))))), hw⟩
              ·
                refine VC.skip (VE.seqN ?_)
                refine VC.seq ?_
                refine VC.seq ?_
                refine VC.reg (VO.l (LO.fa (r := 0) F34_0 (.r rfl) rfl) rfl <| VO.l (LO.ld O28 (.r rfl) (fun _ hw => cells_at hw 15 rfl ⟨_, rfl⟩)) rfl <| VO.l (LO.mv (.r rfl)) rfl <| VO.l (LO.call (xs := [_, _]) (vs := [_, _]) C22 ⟨(.r rfl), (.r rfl), trivial⟩ (fun w hw => has_c _ (dC d).sure _ _ w (dC_len d).1 (own_rows hw 17 rfl))) rfl <| VO.nil ?_)
                refine VE.seqN ?_
                refine VC.cond rfl (fun h8 => ?_) (fun h8 => ?_)
                ·
                  refine VC.reg (VO.l (LO.as (.r rfl)) rfl <| VO.nil ?_)
                  refine VE.seqN ?_
                  refine VC.seq ?_
                  refine VC.reg (VO.l (LO.mv (.r rfl)) rfl <| VO.l (LO.mv (.r rfl)) rfl <| VO.l (LO.ixo S28 N3 (fun _ hw => (own_rows hw 0 rfl).some (by simp)) (.r rfl) (.r rfl) rfl hk4) rfl <| VO.l (LO.ld O3 (.r rfl) (fun w hw => cells_part (off := 0) (own_cell hw 0 rfl hq4) ⟨_, rfl⟩)) rfl <| VO.l (LO.mv (.r rfl)) rfl <| VO.l (LO.ne (.r rfl) (.r rfl)) rfl <| VO.nil ?_)
                  refine VE.seqN ?_
                  refine VC.cond rfl (fun h9 => ?_) (fun h9 => ?_)
                  ·
                    (exfalso; (apply h9; rw [hm4]; first | rw [if_pos h8] | (rw [if_neg h8, if_pos h7]) | (rw [if_neg h8, if_neg h7])))
                  ·
                    refine VC.skip (VE.inN (VE.seqN ?_))
                    refine VC.reg (VO.l (LO.mv (.r rfl)) rfl <| VO.l (LO.add (.r rfl) (.r rfl) (wi (by omega) (by omega))) rfl <| VO.l (LO.as (.r rfl)) rfl <| VO.nil ?_)
                    refine VE.thenN fun a w ha hw => ⟨k + 1, (by omega), (by omega), ha.sub (.cons rfl (.cons rfl (.cons rfl (.cons rfl (.cons rfl (.cons rfl (.cons rfl (.cons rfl (.cons rfl (.cons rfl .nil)))))))))), hw⟩
                ·
                  refine VC.skip (VE.seqN ?_)
                  refine VC.seq ?_
                  refine VC.reg (VO.l (LO.mv (.r rfl)) rfl <| VO.l (LO.mv (.r rfl)) rfl <| VO.l (LO.ixo S28 N3 (fun _ hw => (own_rows hw 0 rfl).some (by simp)) (.r rfl) (.r rfl) rfl hk4) rfl <| VO.l (LO.ld O3 (.r rfl) (fun w hw => cells_part (off := 0) (own_cell hw 0 rfl hq4) ⟨_, rfl⟩)) rfl <| VO.l (LO.mv (.r rfl)) rfl <| VO.l (LO.ne (.r rfl) (.r rfl)) rfl <| VO.nil ?_)
                  refine VE.seqN ?_
                  refine VC.cond rfl (fun h9 => ?_) (fun h9 => ?_)
                  ·
                    (exfalso; (apply h9; rw [hm4]; first | rw [if_pos h8] | (rw [if_neg h8, if_pos h7]) | (rw [if_neg h8, if_neg h7])))
                  ·
                    refine VC.skip (VE.inN (VE.seqN ?_))
                    refine VC.reg (VO.l (LO.mv (.r rfl)) rfl <| VO.l (LO.add (.r rfl) (.r rfl) (wi (by omega) (by omega))) rfl <| VO.l (LO.as (.r rfl)) rfl <| VO.nil ?_)
                    refine VE.thenN fun a w ha hw => ⟨k + 1, (by omega), (by omega), ha.sub (.cons rfl (.cons rfl (.cons rfl (.cons rfl (.cons rfl (.cons rfl (.cons rfl (.cons rfl (.cons rfl (.cons rfl .nil)))))))))), hw⟩
          ·
            refine VC.exit (VE.thenX (VE.thenX (VE.inX (VE.seqN ?_))))
            refine VC.seq ?_
            refine VC.reg (VO.l (LO.call (xs := []) (vs := []) C14 trivial (fun w _ => works_c w)) rfl <| VO.l (LO.as (.r rfl)) rfl <| VO.nil ?_)
            refine VE.seqN ?_
            refine VC.ret (VE.res (vs := [_]) rfl ⟨rfl, trivial⟩ (fun w hw => ?_))
            exact ⟨rfl, hw.nil⟩

end Go.Proofs.Ytdcjeoamhjplmaa
