/-
  What a better hearing has within another: the plain part.
-/
import Derived.Test.YtcnlhifkablmkaaWK
namespace Go.Proofs.Ytcnlhifkablmkaa
open Go.SL Go.Proofs Go.Pulse
set_option linter.unusedVariables false



section
variable {a b n m S sl : Int}
theorem div_mono2 (hm : 0 < m) (hmn : m ≤ n) (hb : 0 ≤ b) (hab : a ≤ b) : a / n ≤ b / m := by
  have h1 : a / n ≤ b / n := Int.ediv_le_ediv (by omega) hab
  have h2 : 0 ≤ b / n := Int.ediv_nonneg hb (by omega)
  have h3 := Int.mul_ediv_add_emod b n
  have h6 := Int.emod_nonneg b (show n ≠ 0 by omega)
  have h4 : b / n * m ≤ b / n * n := Int.mul_le_mul_of_nonneg_left hmn h2
  rw [Int.mul_comm (b / n) n] at h4
  have h5 := Int.le_ediv_of_mul_le hm (show b / n * m ≤ b by omega)
  omega
theorem up_le {u : Int} (hn : 0 < n) (h : a ≤ u * n) : up a n ≤ u := by
  unfold up
  have := Int.le_ediv_of_mul_le (c := n) (a := -u) (b := -a) hn (by rw [Int.neg_mul]; omega)
  omega
theorem le_up_mul (hm : 0 < m) : b ≤ up b m * m := by
  unfold up
  have h1 := Int.mul_ediv_add_emod (-b) m
  have h2 := Int.emod_nonneg (-b) (show m ≠ 0 by omega)
  rw [Int.neg_mul, Int.mul_comm]; omega
theorem up_nn (hm : 0 < m) (hb : 0 ≤ b) : 0 ≤ up b m := by
  unfold up
  have := Int.ediv_le_ediv hm (show -b ≤ 0 by omega)
  rw [Int.zero_ediv] at this; omega
theorem up_mono2 (hm : 0 < m) (hmn : m ≤ n) (hb : 0 ≤ b) (hab : a ≤ b) : up a n ≤ up b m := by
  refine up_le (by omega) ?_
  have h1 := le_up_mul (b := b) hm
  have h2 := Int.mul_le_mul_of_nonneg_left hmn (up_nn hm hb)
  omega
theorem div_le_up2 (hm : 0 < m) (hmn : m ≤ n) (hb : 0 ≤ b) (hab : a ≤ b) : a / n ≤ up b m := by
  have h1 := div_mono2 hm hmn hb hab
  have h2 := div_up (n := m) hm (Int.le_refl b)
  omega
theorem mean_wid (hn : 0 < n) (h0 : 0 ≤ sl) (h1 : sl ≤ 8192 * n) : (S - sl) / n ≤ up (S + sl) n ∧ up (S + sl) n - (S - sl) / n ≤ 16386 := by
  refine ⟨div_up hn (by omega), ?_⟩
  have e1 := Int.mul_ediv_add_emod (S - sl) n
  have e2 := Int.emod_lt_of_pos (S - sl) hn
  have e3 := Int.mul_ediv_add_emod (-(S + sl)) n
  have e4 := Int.emod_lt_of_pos (-(S + sl)) hn
  have e5 := Int.emod_nonneg (S - sl) (show n ≠ 0 by omega)
  have e6 := Int.emod_nonneg (-(S + sl)) (show n ≠ 0 by omega)
  have k : n * (up (S + sl) n - (S - sl) / n) < n * 16387 := by
    unfold up
    rw [Int.mul_sub, Int.mul_neg]; omega
  have := Int.lt_of_mul_lt_mul_left k (by omega)
  omega
end
def inSp (x s : Span) : Prop := x.lo ≤ x.hi ∧ s.lo ≤ x.lo ∧ x.hi ≤ s.hi
def turnIn (x s : Span) : Prop := turnS x ∧ ∃ k : Int, (-2 ≤ k ∧ k ≤ 2) ∧ s.lo ≤ x.lo + k * 65536 ∧ x.hi + k * 65536 ≤ s.hi
def echoIn (x o : Echo) : Prop := inSp x.power o.power ∧ (o.kind = 1 ∨ (¬ x.kind = 1 ∧ inSp x.ratio o.ratio ∧ inSp x.mtch o.mtch ∧ (o.kind = 2 ∨ (x.kind = 3 ∧ turnIn x.s0 o.s0 ∧ turnIn x.s1 o.s1 ∧ turnIn x.turn o.turn))))
theorem meanS_nil (sl : Int) : meanS [] sl = zs := rfl
theorem mean_ok {s : List Int} {sl : Int} (h0 : 0 ≤ sl) (h1 : s ≠ [] → sl ≤ 8192 * (s.length : Int)) : turnS (meanS s sl) := by
  by_cases h : s = []
  · subst h; rw [meanS_nil]; decide
  · have hn : 0 < (s.length : Int) := by cases s with | nil => exact absurd rfl h | cons => simp
    have w1 := mean_wid (S := arcSum s) hn h0 (h1 h)
    unfold meanS turnS
    rw [if_neg h]
    dsimp only
    have w2 := wr_bd ((arcSum s - sl) / (s.length : Int) + 32768)
    omega
theorem mean_in {s : List Int} {sl sl' : Int} (h0 : 0 ≤ sl') (h2 : sl' ≤ sl) (h1 : s ≠ [] → sl ≤ 8192 * (s.length : Int)) : turnIn (meanS s sl') (meanS s sl) := by
  by_cases h : s = []
  · subst h; rw [meanS_nil, meanS_nil]; exact ⟨by decide, 0, by decide, by decide, by decide⟩
  · have hn : 0 < (s.length : Int) := by cases s with | nil => exact absurd rfl h | cons => simp
    have w1 := mean_wid (S := arcSum s) hn (show 0 ≤ sl by omega) (h1 h)
    have w2 : (arcSum s - sl) / (s.length : Int) ≤ (arcSum s - sl') / (s.length : Int) := Int.ediv_le_ediv hn (by omega)
    have w3 : up (arcSum s + sl') (s.length : Int) ≤ up (arcSum s + sl) (s.length : Int) := up_mono hn (by omega)
    have w4 : (arcSum s - sl') / (s.length : Int) ≤ up (arcSum s + sl') (s.length : Int) := div_up hn (by omega)
    refine ⟨mean_ok h0 (fun q => by have := h1 q; omega), ?_⟩
    unfold meanS
    rw [if_neg h, if_neg h]
    dsimp only
    generalize (arcSum s - sl) / (s.length : Int) = A at *
    generalize (arcSum s - sl') / (s.length : Int) = B at *
    generalize up (arcSum s + sl) (s.length : Int) = C at *
    generalize up (arcSum s + sl') (s.length : Int) = D at *
    unfold wr
    exact ⟨(B + 32768) / 65536 - (A + 32768) / 65536, by omega, by omega, by omega⟩
/-- Two hearings of which the second lies within the first, as far as sums go. -/
structure Bet (r r' : Recv) (l l' : List Sample) : Prop where
  hr : recvOk r
  hr' : recvOk r'
  hs : ∀ x ∈ l, smpOk x
  hs' : ∀ x ∈ l', smpOk x
  len : l'.length = l.length
  H1 : sumH (-r.level) l ≤ sumH (-r'.level) l'
  H2 : sumH r'.level l' ≤ sumH r.level l
  V1 : sumV (-r.level) l ≤ sumV (-r'.level) l'
  V2 : sumV r'.level l' ≤ sumV r.level l
  X1 : sumX (-r.level) l ≤ sumX (-r'.level) l'
  X2 : sumX r'.level l' ≤ sumX r.level l
  n1 : r.nlo ≤ r'.nlo
  n2 : r'.nhi ≤ r.nhi
theorem prX_le {a c m n : Int} (h : m ≤ n) : max 0 (a + m) * max 0 (c + m) ≤ max 0 (a + n) * max 0 (c + n) := Int.mul_le_mul (by omega) (by omega) (by omega) (by omega)
theorem Bet.own {r : Recv} {l : List Sample} (hr : recvOk r) (hs : ∀ x ∈ l, smpOk x) : sumH (-r.level) l ≤ sumH r.level l ∧ sumV (-r.level) l ≤ sumV r.level l ∧ sumX (-r.level) l ≤ sumX r.level l := by
  unfold recvOk at hr
  exact ⟨sum_le (fun x _ => sq_le (by omega)), sum_le (fun x _ => sq_le (by omega)), sum_le (fun x _ => prX_le (by omega))⟩
theorem Bet.recv {r r' : Recv} {l : List Sample} (hr : recvOk r) (hr' : recvOk r') (hs : ∀ x ∈ l, smpOk x) (h : r'.level ≤ r.level) (n1 : r.nlo ≤ r'.nlo) (n2 : r'.nhi ≤ r.nhi) : Bet r r' l l :=
  ⟨hr, hr', hs, hs, rfl, sum_le (fun x _ => sq_le (by omega)), sum_le (fun x _ => sq_le (by omega)), sum_le (fun x _ => sq_le (by omega)), sum_le (fun x _ => sq_le (by omega)), sum_le (fun x _ => prX_le (by omega)), sum_le (fun x _ => prX_le (by omega)), n1, n2⟩
theorem sh_bd {a b : Int} (ha : 0 ≤ a) (hb : 0 ≤ b) : (0 ≤ shareD a b ∧ shareD a b ≤ 1000) ∧ 0 ≤ shareU a b ∧ shareU a b ≤ 1000 := by
  have h1 : 0 ≤ 1000 * a * a := Int.mul_nonneg (by omega) ha
  unfold shareD shareU
  by_cases h : b = 0
  · rw [if_pos h, if_pos h]; omega
  · rw [if_neg h, if_neg h]
    have := Int.ediv_nonneg h1 hb
    have := up_nn (m := b) (b := 1000 * a * a) (by omega) h1
    omega
theorem sq3 {a b : Int} (ha : 0 ≤ a) (h : a ≤ b) : 1000 * a * a ≤ 1000 * b * b ∧ 0 ≤ 1000 * b * b := ⟨Int.mul_le_mul (by omega) h ha (by omega), Int.mul_nonneg (by omega) (by omega)⟩
theorem shD_mono {a a' b b' : Int} (ha : 0 ≤ a) (h : a ≤ a') (hb : 0 ≤ b') (hbb : b' ≤ b) (hz : b' = 0 → a' = 0) : shareD a b ≤ shareD a' b' := by
  by_cases q : b' = 0
  · have e : a = 0 := by have := hz q; omega
    subst e
    have := (sh_bd (a := a') (b := b') (by omega) hb).1.1
    have e2 : shareD 0 b = 0 := by
      unfold shareD
      by_cases k : b = 0
      · rw [if_pos k]
      · rw [if_neg k, show (1000 : Int) * 0 * 0 = 0 from rfl, Int.zero_ediv]; rfl
    omega
  · unfold shareD
    rw [if_neg q, if_neg (by omega)]
    have h2 := sq3 ha h
    have := div_mono2 (n := b) (m := b') (by omega) hbb h2.2 h2.1
    omega
theorem shU_mono {a a' b b' : Int} (ha : 0 ≤ a') (h : a' ≤ a) (hb : 0 ≤ b) (hbb : b ≤ b') : shareU a' b' ≤ shareU a b := by
  by_cases q : b = 0
  · have := (sh_bd (a := a') (b := b') ha (by omega)).2.2
    rw [show shareU a b = 1000 from if_pos q]; exact this
  · unfold shareU
    rw [if_neg q, if_neg (by omega)]
    have h2 := sq3 ha h
    have := up_mono2 (n := b') (m := b) (by omega) hbb h2.2 h2.1
    omega
theorem sh_le {a a' b b' : Int} (ha : 0 ≤ a) (h : a ≤ a') (hb : 0 ≤ b') (hbb : b' ≤ b) : shareD a b ≤ shareU a' b' := by
  by_cases q : b' = 0
  · rw [show shareU a' b' = 1000 from if_pos q]; exact (sh_bd ha (by omega)).1.2
  · unfold shareD shareU
    rw [if_neg q, if_neg (by omega)]
    have h2 := sq3 ha h
    have := div_le_up2 (n := b) (m := b') (by omega) hbb h2.2 h2.1
    omega
section
variable {r r' : Recv} {l l' : List Sample}
theorem sums_nn (hr : recvOk r) (hs : ∀ x ∈ l, smpOk x) : (0 ≤ sumH (-r.level) l ∧ 0 ≤ sumH r.level l) ∧ (0 ≤ sumV (-r.level) l ∧ 0 ≤ sumV r.level l) ∧ 0 ≤ sumX (-r.level) l ∧ 0 ≤ sumX r.level l := by
  unfold recvOk at hr
  have a1 := sumH_bd (m := -r.level) (l := l) (by omega) (by omega) hs
  have a2 := sumH_bd (m := r.level) (l := l) (by omega) (by omega) hs
  have a3 := sumV_bd (m := -r.level) (l := l) (by omega) (by omega) hs
  have a4 := sumV_bd (m := r.level) (l := l) (by omega) (by omega) hs
  have a5 := sumX_bd (m := -r.level) (l := l) (by omega) (by omega) hs
  have a6 := sumX_bd (m := r.level) (l := l) (by omega) (by omega) hs
  omega
theorem sumX_z (hr : recvOk r) (hs : ∀ x ∈ l, smpOk x) (h : sumH r.level l * sumV r.level l = 0) : sumX (-r.level) l = 0 := by
  have c : sumX (-r.level) l * sumX (-r.level) l ≤ sumH (-r.level) l * sumV (-r.level) l := (cauchy (fun x : Sample => max 0 (x.h + -r.level)) (fun x => max 0 (x.v + -r.level)) l).1
  have o := Bet.own hr hs
  have z := sums_nn hr hs
  have d : sumH (-r.level) l * sumV (-r.level) l ≤ sumH r.level l * sumV r.level l := Int.mul_le_mul o.1 o.2.1 z.2.1.1 z.1.2
  rcases Int.lt_or_le 0 (sumX (-r.level) l) with q | q
  · have := Int.mul_pos q q; omega
  · omega
theorem mtch_bd (hr : recvOk r) (hs : ∀ x ∈ l, smpOk x) : inS (mtchS r l) 0 1000 := by
  have z := sums_nn hr hs
  have o := Bet.own hr hs
  have m1 := Int.mul_nonneg z.1.1 z.2.1.1
  have m2 : sumH (-r.level) l * sumV (-r.level) l ≤ sumH r.level l * sumV r.level l := Int.mul_le_mul o.1 o.2.1 z.2.1.1 z.1.2
  have b1 := sh_bd (a := sumX (-r.level) l) (b := sumH r.level l * sumV r.level l) z.2.2.1 (by omega)
  have b2 := sh_bd (a := sumX r.level l) (b := sumH (-r.level) l * sumV (-r.level) l) z.2.2.2 m1
  have b3 := sh_le z.2.2.1 o.2.2 m1 m2
  unfold inS mtchS
  dsimp only
  omega
theorem ratio_bd (hr : recvOk r) (hn : 0 < (l.length : Int)) (hs : ∀ x ∈ l, smpOk x) (hz : 0 < (pow0 r l).lo) : inS (ratioS (pow0 r l) (pow1 r l)) 0 1000000 := by
  have p := pow_bd hr hn hs
  have d := div_le_up2 (a := 1000 * (pow1 r l).lo) (b := 1000 * (pow1 r l).hi) (n := (pow0 r l).hi) (m := (pow0 r l).lo) hz (by omega) (by omega) (by omega)
  have e := Int.ediv_nonneg (a := 1000 * (pow1 r l).lo) (b := (pow0 r l).hi) (by omega) (by omega)
  unfold inS ratioS
  dsimp only
  omega
theorem Bet.mtch (B : Bet r r' l l') : inSp (mtchS r' l') (mtchS r l) := by
  have z := sums_nn B.hr B.hs
  have z' := sums_nn B.hr' B.hs'
  have m1 : sumH r'.level l' * sumV r'.level l' ≤ sumH r.level l * sumV r.level l := Int.mul_le_mul B.H2 B.V2 z'.2.1.2 z.1.2
  have m2 : sumH (-r.level) l * sumV (-r.level) l ≤ sumH (-r'.level) l' * sumV (-r'.level) l' := Int.mul_le_mul B.H1 B.V1 z.2.1.1 z'.1.1
  have m3 := Int.mul_nonneg z'.1.2 z'.2.1.2
  have m4 := Int.mul_nonneg z.1.1 z.2.1.1
  have s1 := shD_mono z.2.2.1 B.X1 m3 m1 (sumX_z B.hr' B.hs')
  have s2 := shU_mono z'.2.2.2 B.X2 m4 m2
  have s3 := (mtch_bd B.hr' B.hs').2.1
  unfold inSp
  exact ⟨s3, s1, s2⟩
theorem Bet.pow0 (B : Bet r r' l l') (hn : 0 < (l.length : Int)) : inSp (pow0 r' l') (pow0 r l) := by
  have p := pow_bd B.hr' (by rw [B.len]; exact hn) B.hs'
  have a := Int.ediv_le_ediv hn B.H1
  have b := up_mono hn B.H2
  have n1 := B.n1; have n2 := B.n2
  refine ⟨p.2.1, ?_, ?_⟩
  · unfold Go.Pulse.pow0 powS; dsimp only; rw [B.len]; omega
  · unfold Go.Pulse.pow0 powS; dsimp only; rw [B.len]; omega
theorem Bet.pow1 (B : Bet r r' l l') (hn : 0 < (l.length : Int)) : inSp (pow1 r' l') (pow1 r l) := by
  have p := pow_bd B.hr' (by rw [B.len]; exact hn) B.hs'
  have a := Int.ediv_le_ediv hn B.V1
  have b := up_mono hn B.V2
  have n1 := B.n1; have n2 := B.n2
  refine ⟨p.2.2.2.1, ?_, ?_⟩
  · unfold Go.Pulse.pow1 powS; dsimp only; rw [B.len]; omega
  · unfold Go.Pulse.pow1 powS; dsimp only; rw [B.len]; omega
theorem Bet.ratio (B : Bet r r' l l') (hn : 0 < (l.length : Int)) (hz : 0 < (Go.Pulse.pow0 r l).lo) : inSp (ratioS (Go.Pulse.pow0 r' l') (Go.Pulse.pow1 r' l')) (ratioS (Go.Pulse.pow0 r l) (Go.Pulse.pow1 r l)) := by
  have p := pow_bd B.hr hn B.hs
  have p' := pow_bd B.hr' (by rw [B.len]; exact hn) B.hs'
  obtain ⟨i1, i2, i3⟩ := B.pow0 hn
  obtain ⟨j1, j2, j3⟩ := B.pow1 hn
  have d1 := div_mono2 (a := 1000 * (Go.Pulse.pow1 r l).lo) (b := 1000 * (Go.Pulse.pow1 r' l').lo) (n := (Go.Pulse.pow0 r l).hi) (m := (Go.Pulse.pow0 r' l').hi) (by omega) (by omega) (by omega) (by omega)
  have u1 := up_mono2 (a := 1000 * (Go.Pulse.pow1 r' l').hi) (b := 1000 * (Go.Pulse.pow1 r l).hi) (n := (Go.Pulse.pow0 r' l').lo) (m := (Go.Pulse.pow0 r l).lo) (by omega) (by omega) (by omega) (by omega)
  have o := (ratio_bd B.hr' (by rw [B.len]; exact hn) B.hs' (by omega)).2.1
  refine ⟨o, ?_, ?_⟩
  · unfold ratioS; dsimp only; omega
  · unfold ratioS; dsimp only; omega
end
section
variable {t : Train} {r : Recv} {l : List Sample}
theorem slk_bd {s : List Int} (hr : recvOk r) : 0 ≤ slk t r s ∧ (s ≠ [] → slk t r s ≤ 8192 * (s.length : Int)) := by
  unfold recvOk at hr
  have p := prod_bd (x := 2 * r.phase) (y := (s.length : Int)) (A := 8192) (B := (s.length : Int)) (by omega) (by omega) (by omega) (Int.le_refl _)
  refine ⟨?_, fun h => ?_⟩
  · unfold slk; split <;> omega
  · have hn : 0 < (s.length : Int) := by cases s with | nil => exact absurd rfl h | cons => simp
    unfold slk; split <;> omega
theorem slkT_bd (hr : recvOk r) : 0 ≤ 2 * r.phase * (l.length : Int) ∧ (turnL l ≠ [] → 2 * r.phase * (l.length : Int) ≤ 8192 * ((turnL l).length : Int)) := by
  unfold recvOk at hr
  have p := prod_bd (x := 2 * r.phase) (y := (l.length : Int)) (A := 8192) (B := (l.length : Int)) (by omega) (by omega) (by omega) (Int.le_refl _)
  rw [show (turnL l).length = l.length from List.length_map ..]
  exact ⟨p.1, fun _ => p.2⟩
theorem spread_bd : 0 ≤ spreadL t l ∧ spreadL t l ≤ 65535 := by
  have a := wid_bd (stL_inT t.kind l 0)
  have b := wid_bd (stL_inT t.kind l 1)
  unfold spreadL; omega
theorem hear_ok (hr : recvOk r) (hn : 0 < (l.length : Int)) (hs : ∀ x ∈ l, smpOk x) : echoE (hearX t r l) = 0 := by
  have p := pow_bd hr hn hs
  have sb := spread_bd (t := t) (l := l)
  have pw : inS (pow0 r l) 0 1073741824 := by unfold inS; omega
  unfold hearX
  by_cases hz : (pow0 r l).lo = 0
  · rw [if_pos hz]
    generalize pow0 r l = q at *
    obtain ⟨a, b⟩ := q
    dsimp only at hz
    subst hz
    unfold echoE
    rw [if_pos (.inl rfl), if_pos ⟨pw, .inl ⟨rfl, rfl⟩⟩]
  · rw [if_neg hz]
    have rb := ratio_bd hr hn hs (by omega)
    have mb := mtch_bd hr hs
    by_cases g : goodT t r l
    · rw [if_neg (fun q => q g)]
      unfold echoE
      rw [if_pos (.inr (.inr rfl)), if_pos ⟨pw, .inr ⟨.inr rfl, by dsimp only; omega, rb, mb, sb, .inr ⟨rfl, mean_ok (slk_bd hr).1 (slk_bd hr).2, mean_ok (slk_bd hr).1 (slk_bd hr).2, mean_ok (slkT_bd hr).1 (slkT_bd hr).2⟩⟩⟩]
    · rw [if_pos g]
      unfold echoE
      rw [if_pos (.inr (.inl rfl)), if_pos ⟨pw, .inr ⟨.inl rfl, by dsimp only; omega, rb, mb, sb, .inl ⟨rfl, rfl, rfl, rfl⟩⟩⟩]
end

section
variable {t : Train} {r r' : Recv} {l : List Sample}
theorem hear_0 (h : hearE t r l = 0) : (kndOk t.kind ∧ trainOk t) ∧ recvOk r ∧ (l.length : Int) = t.count ∧ ∀ x ∈ l, smpOk x := by
  unfold hearE at h
  by_cases a : trainE t = 0
  · rw [if_neg (fun q => q a)] at h
    by_cases b : recvE r = 0
    · rw [if_neg (fun q => q b)] at h
      by_cases c : (l.length : Int) = t.count
      · rw [if_neg (fun q => q c)] at h
        by_cases d : ∀ x ∈ l, smpOk x
        · exact ⟨train_of (fun q => q a), recv_of (fun q => q b), c, d⟩
        · rw [if_neg d] at h; exact absurd h (by decide)
      · rw [if_pos c] at h; exact absurd h (by decide)
    · rw [if_pos b] at h; exact absurd h b
  · rw [if_pos a] at h; exact absurd h a
theorem hear_R (h : hearE t r l = 0) : hearR t r l = hearX t r l := if_pos h
theorem hearX_1 (hz : (pow0 r l).lo = 0) : hearX t r l = { zE with kind := 1, power := pow0 r l } := if_pos hz
theorem hearX_2 (hz : ¬ (pow0 r l).lo = 0) (g : ¬ goodT t r l) : hearX t r l = { zE with kind := 2, power := pow0 r l, spread := spreadL t l, ratio := ratioS (pow0 r l) (pow1 r l), mtch := mtchS r l } := by unfold hearX; rw [if_neg hz, if_pos g]
theorem hearX_3 (hz : ¬ (pow0 r l).lo = 0) (g : goodT t r l) : hearX t r l = ⟨3, pow0 r l, meanS (stL t.kind l 0) (slk t r (stL t.kind l 0)), meanS (stL t.kind l 1) (slk t r (stL t.kind l 1)), spreadL t l, ratioS (pow0 r l) (pow1 r l), mtchS r l, meanS (turnL l) (2 * r.phase * l.length)⟩ := by unfold hearX; rw [if_neg hz, if_neg (fun q => q g)]
theorem hearX_pow : (hearX t r l).power = pow0 r l := by
  by_cases hz : (pow0 r l).lo = 0
  · rw [hearX_1 hz]
  · by_cases g : goodT t r l
    · rw [hearX_3 hz g]
    · rw [hearX_2 hz g]
theorem tog_mono {s : List Int} {p q : Int} (h : tog s p) (k : q ≤ p) : tog s q := by
  rcases h with h | h
  · exact .inl h
  · exact .inr (by omega)
theorem slk_mono {s : List Int} (k : r'.phase ≤ r.phase) : slk t r' s ≤ slk t r s := by
  unfold slk
  split
  · exact Int.mul_le_mul_of_nonneg_right (by omega) (by omega)
  · omega
theorem better_in (hr : recvOk r) (hr' : recvOk r') (hn : 0 < (l.length : Int)) (hs : ∀ x ∈ l, smpOk x) (lev : r'.level ≤ r.level) (ph : r'.phase ≤ r.phase) (n1 : r.nlo ≤ r'.nlo) (n2 : r'.nhi ≤ r.nhi) :
    echoIn (hearX t r' l) (hearX t r l) ∧ ((hearX t r l).kind = 1 ∨ (hearX t r' l).spread = (hearX t r l).spread) := by
  have B := Bet.recv hr hr' hs lev n1 n2
  have P := B.pow0 hn
  have pb := pow_bd hr hn hs
  unfold echoIn
  rw [hearX_pow, hearX_pow]
  by_cases hz : (pow0 r l).lo = 0
  · rw [hearX_1 hz]; exact ⟨⟨P, .inl rfl⟩, .inl rfl⟩
  · have hz' : ¬ (pow0 r' l).lo = 0 := by have := P.2.1; omega
    have R := B.ratio hn (by omega)
    have M := B.mtch
    by_cases g : goodT t r l
    · have g' : goodT t r' l := ⟨tog_mono g.1 ph, tog_mono g.2.1 ph, tog_mono g.2.2 ph⟩
      rw [hearX_3 hz g, hearX_3 hz' g']
      have tt : 2 * r'.phase * (l.length : Int) ≤ 2 * r.phase * (l.length : Int) := Int.mul_le_mul_of_nonneg_right (by omega) (by omega)
      exact ⟨⟨P, .inr ⟨(show ¬ (3 : Int) = 1 by decide), R, M, .inr ⟨rfl, mean_in (slk_bd hr').1 (slk_mono ph) (slk_bd hr).2, mean_in (slk_bd hr').1 (slk_mono ph) (slk_bd hr).2, mean_in (slkT_bd hr').1 tt (slkT_bd hr).2⟩⟩⟩, .inr rfl⟩
    · rw [hearX_2 hz g]
      by_cases g' : goodT t r' l
      · rw [hearX_3 hz' g']; exact ⟨⟨P, .inr ⟨(show ¬ (3 : Int) = 1 by decide), R, M, .inl rfl⟩⟩, .inr rfl⟩
      · rw [hearX_2 hz' g']; exact ⟨⟨P, .inr ⟨(show ¬ (2 : Int) = 1 by decide), R, M, .inl rfl⟩⟩, .inr rfl⟩
end
def rB (r : Recv) (d0 d1 d2 d3 : Int) : Recv := ⟨max 0 (r.level - d0), max 0 (r.phase - d1), min r.nhi (r.nlo + d2), max (min r.nhi (r.nlo + d2)) (r.nhi - d3)⟩
theorem better {t : Train} {r : Recv} {l : List Sample} {d0 d1 d2 d3 : Int} (h : hearE t r l = 0) (h0 : 0 ≤ d0) (h1 : 0 ≤ d1) (h2 : 0 ≤ d2) (h3 : 0 ≤ d3) :
    hearE t (rB r d0 d1 d2 d3) l = 0 ∧ echoE (hearR t (rB r d0 d1 d2 d3) l) = 0 ∧ echoE (hearR t r l) = 0 ∧ echoIn (hearR t (rB r d0 d1 d2 d3) l) (hearR t r l) ∧ ((hearR t r l).kind = 1 ∨ (hearR t (rB r d0 d1 d2 d3) l).spread = (hearR t r l).spread) := by
  obtain ⟨hb, hr, hc, hs⟩ := hear_0 h
  have hr1 := hr
  unfold recvOk at hr1
  have hr' : recvOk (rB r d0 d1 d2 d3) := by unfold recvOk rB; dsimp only; omega
  have e := rhE hb hr' (fun q => q hc) hs
  have ht := hb.2
  unfold trainOk at ht
  have hn : 0 < (l.length : Int) := by omega
  rw [hear_R e, hear_R h]
  exact ⟨e, hear_ok hr' hn hs, hear_ok hr hn hs, better_in hr hr' hn hs (by unfold rB; dsimp only; omega) (by unfold rB; dsimp only; omega) (by unfold rB; dsimp only; omega) (by unfold rB; dsimp only; omega)⟩

end Go.Proofs.Ytcnlhifkablmkaa
