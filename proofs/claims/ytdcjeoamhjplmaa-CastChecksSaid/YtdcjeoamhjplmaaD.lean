/-
  The data of layer 9 and what its functions come to, in plain words: no program stands in this text.
-/
namespace Go.Cast

structure Grid where
  x : Int
  y : Int
  size : Int
  wide : Int
  high : Int

structure Flow where
  a : Int
  b : Int
  c : Int
  d : Int
  deriving DecidableEq

structure Cloud where
  sure : List Int
  may : List Int
  flow : Flow
  grow : Int

def gridOk (g : Grid) : Prop := (-1048576 ≤ g.x ∧ g.x ≤ 1048576) ∧ (-1048576 ≤ g.y ∧ g.y ≤ 1048576) ∧ (1 ≤ g.size ∧ g.size ≤ 10000) ∧ (1 ≤ g.wide ∧ g.wide ≤ 64) ∧ (1 ≤ g.high ∧ g.high ≤ 64)
instance (g : Grid) : Decidable (gridOk g) := by unfold gridOk; exact inferInstance
def flowOk (f : Flow) : Prop := (-100000 ≤ f.a ∧ f.a ≤ f.b ∧ f.b ≤ 100000) ∧ (-100000 ≤ f.c ∧ f.c ≤ f.d ∧ f.d ≤ 100000)
instance (f : Flow) : Decidable (flowOk f) := by unfold flowOk; exact inferInstance
def gridE (g : Grid) : Int := if gridOk g then 0 else 3
def flowE (f : Flow) : Int := if flowOk f then 0 else 3

/-- The first that is not 0. -/
def firstE (f : Nat → Int) : Nat → Int
  | 0 => 0
  | n + 1 => if firstE f n ≠ 0 then firstE f n else f n
theorem firstE_zero {f : Nat → Int} : ∀ {n : Nat}, (∀ k, k < n → f k = 0) → firstE f n = 0
  | 0, _ => rfl
  | n + 1, h => by
    have := firstE_zero (f := f) (n := n) (fun k hk => h k (by omega))
    simp [firstE, this, h n (by omega)]
theorem firstE_at {f : Nat → Int} {i : Nat} (h : ∀ k, k < i → f k = 0) (hi : f i ≠ 0) : ∀ {n : Nat}, i < n → firstE f n = f i
  | 0, hn => by omega
  | n + 1, hn => by
    by_cases e : i = n
    · subst e; simp [firstE, firstE_zero h]
    · have := firstE_at h hi (n := n) (by omega)
      simp [firstE, this, hi]
theorem firstE_eq {f : Nat → Int} : ∀ {n : Nat}, firstE f n = 0 → ∀ k, k < n → f k = 0
  | 0, _, k, hk => by omega
  | n + 1, h, k, hk => by
    unfold firstE at h
    split at h
    · rename_i q; exact absurd h q
    · rename_i q
      simp only [ne_eq, Classical.not_not] at q
      by_cases e : k = n
      · subst e; exact h
      · exact firstE_eq q k (by omega)

def mayE (g : Grid) (l : List Int) (i : Nat) : Int := if ¬ (0 ≤ l.getD i 0 ∧ l.getD i 0 ≤ g.wide * g.high - 1) then 4 else if 0 < i ∧ l.getD i 0 ≤ l.getD (i - 1) 0 then 12 else 0
def sureE (m l : List Int) (i : Nat) : Int := if 0 < i ∧ l.getD i 0 ≤ l.getD (i - 1) 0 then 12 else if l.getD i 0 ∉ m then 11 else 0
def cloudE (g : Grid) (c : Cloud) : Int :=
  if ¬ gridOk g then 3 else if ¬ flowOk c.flow then 3 else if ¬ (0 ≤ c.grow ∧ c.grow ≤ 10000) then 3 else if c.may = [] then 18
  else if firstE (mayE g c.may) c.may.length ≠ 0 then firstE (mayE g c.may) c.may.length else firstE (sureE c.may c.sure) c.sure.length

def memB (l : List Int) (n : Int) : Bool := decide (n ∈ l)

theorem tdiv_bd (a b : Int) (hb : 0 < b) (h1 : -9223372036854775807 ≤ a) (h2 : a ≤ 9223372036854775807) : -9223372036854775807 ≤ a.tdiv b ∧ a.tdiv b ≤ 9223372036854775807 ∧ (a.tmod b < 0 → a / b = a.tdiv b - 1) ∧ (0 ≤ a.tmod b → a / b = a.tdiv b) ∧ -9223372036854775807 ≤ a / b := by
  have e := Int.mul_tdiv_add_tmod a b
  have f := Int.mul_ediv_add_emod a b
  have hm := Int.emod_nonneg a (by omega : b ≠ 0)
  have hm2 := Int.emod_lt_of_pos a hb
  rcases Int.le_total 0 a with h | h
  · have r1 := Int.tmod_nonneg b h
    have e1 : a.tdiv b = a / b := Int.tdiv_eq_ediv_of_nonneg h
    have d1 : 0 ≤ a / b := Int.ediv_nonneg h (by omega)
    have d2 : a / b ≤ a := Int.ediv_le_self b h
    refine ⟨by omega, by omega, fun q => by omega, fun _ => e1.symm, by omega⟩
  · have r1 : a.tdiv b = -((-a) / b) := by
      have := Int.neg_tdiv (a := -a) (b := b)
      rw [Int.neg_neg] at this
      rw [this, Int.tdiv_eq_ediv_of_nonneg (by omega)]
    have d1 : 0 ≤ (-a) / b := Int.ediv_nonneg (by omega) (by omega)
    have d2 : (-a) / b ≤ -a := Int.ediv_le_self b (by omega)
    have d3 := Int.mul_ediv_add_emod (-a) b
    have d4 := Int.emod_nonneg (-a) (by omega : b ≠ 0)
    have d5 := Int.emod_lt_of_pos (-a) hb
    have t1 : a.tmod b = a - b * a.tdiv b := by omega
    have key : b * a.tdiv b = -(b * ((-a) / b)) := by rw [r1, Int.mul_neg]
    refine ⟨by omega, by omega, fun q => ?_, fun q => ?_, ?_⟩
    · have h7 : 0 < (-a) % b := by omega
      have : a / b = -((-a) / b) - 1 := by
        have : a = b * (-((-a) / b) - 1) + (b - (-a) % b) := by rw [Int.mul_sub, Int.mul_neg]; omega
        have h8 := Int.ediv_emod_unique (a := a) (b := b) (r := b - (-a) % b) (q := -((-a) / b) - 1) hb
        exact (h8.2 ⟨by omega, by omega, by omega⟩).1
      omega
    · have h7 : (-a) % b = 0 := by omega
      have : a / b = -((-a) / b) := by
        have h8 := Int.ediv_emod_unique (a := a) (b := b) (r := 0) (q := -((-a) / b)) hb
        exact (h8.2 ⟨by rw [Int.mul_neg]; omega, by omega, by omega⟩).1
      omega
    · by_cases h7 : (-a) % b = 0
      · have h8 := Int.ediv_emod_unique (a := a) (b := b) (r := 0) (q := -((-a) / b)) hb
        have := (h8.2 ⟨by rw [Int.mul_neg]; omega, by omega, by omega⟩).1
        omega
      · have h8 := Int.ediv_emod_unique (a := a) (b := b) (r := b - (-a) % b) (q := -((-a) / b) - 1) hb
        have := (h8.2 ⟨by rw [Int.mul_sub, Int.mul_neg]; omega, by omega, by omega⟩).1
        have : (-a) / b ≤ 9223372036854775806 := by
          rcases Nat.lt_or_ge 1 b.toNat with h9 | h9
          · have h10 : b * ((-a) / b) ≥ 2 * ((-a) / b) := Int.mul_le_mul_of_nonneg_right (by omega) d1
            omega
          · have : b = 1 := by omega
            subst this
            omega
        omega
/-- The quotient, rounded down, is no greater than the greatest number is. -/
theorem gridOk_of {g : Grid} (h : ¬ gridE g ≠ 0) : gridOk g := by
  unfold gridE at h
  by_cases q : gridOk g
  · exact q
  · simp [q] at h
theorem flowOk_of {f : Flow} (h : ¬ flowE f ≠ 0) : flowOk f := by
  unfold flowE at h
  by_cases q : flowOk f
  · exact q
  · simp [q] at h
theorem area_bd {g : Grid} (h : gridOk g) : 1 ≤ g.wide * g.high ∧ g.wide * g.high ≤ 4096 := by
  obtain ⟨_, _, _, ⟨h1, h2⟩, h3, h4⟩ := h
  constructor
  · have := Int.mul_le_mul h1 h3 (by omega) (by omega); omega
  · have := Int.mul_le_mul h2 h4 (by omega) (by omega); omega

theorem step_zero {f : Nat → Int} {j : Nat} (hz : ∀ k, k < j → f k = 0) (h : f j = 0) : ∀ k, k < j + 1 → f k = 0 := by
  intro k hk
  rcases Nat.lt_or_ge k j with q | q
  · exact hz k q
  · have : k = j := by omega
    subst this; exact h
theorem mayE_zero {g : Grid} {l : List Int} {j : Nat} (h6 : ¬¬(0 ≤ l.getD j 0 ∧ l.getD j 0 ≤ g.wide * g.high - 1)) (h7 : ¬((0 : Int) < (j : Int) ∧ l.getD j 0 ≤ l.getD (j - 1) 0)) : mayE g l j = 0 := by
  unfold mayE
  rw [if_neg h6, if_neg (by omega)]
theorem sureE_zero {m l : List Int} {j : Nat} (h7 : ¬((0 : Int) < (j : Int) ∧ l.getD j 0 ≤ l.getD (j - 1) 0)) (h8 : ¬¬(memB m (l.getD j 0) = true)) : sureE m l j = 0 := by
  unfold sureE
  rw [if_neg (by omega), if_neg (by simpa [memB] using h8)]
section
variable {g : Grid} {c : Cloud}
theorem cE1 (h : ¬ gridE g = 0) : gridE g = cloudE g c := by
  unfold cloudE
  by_cases q : gridOk g
  · exact absurd (if_pos q) h
  · rw [if_pos q]; exact if_neg q
theorem cE2 (hg : gridOk g) (h : ¬ flowE c.flow = 0) : flowE c.flow = cloudE g c := by
  unfold cloudE
  by_cases q : flowOk c.flow
  · exact absurd (if_pos q) h
  · rw [if_neg (by simpa using hg), if_pos q]; exact if_neg q
theorem cE3 (hg : gridOk g) (hf : flowOk c.flow) (h : ¬ (0 ≤ c.grow ∧ c.grow ≤ 10000)) : 3 = cloudE g c := by
  unfold cloudE
  rw [if_neg (by simpa using hg), if_neg (by simpa using hf), if_pos h]
theorem cE4 (hg : gridOk g) (hf : flowOk c.flow) (hr : ¬¬ (0 ≤ c.grow ∧ c.grow ≤ 10000)) (h : (c.may.length : Int) = 0) : 18 = cloudE g c := by
  unfold cloudE
  rw [if_neg (by simpa using hg), if_neg (by simpa using hf), if_neg hr, if_pos (List.length_eq_zero_iff.1 (by omega))]
theorem cE0 (hg : gridOk g) (hf : flowOk c.flow) (hr : ¬¬ (0 ≤ c.grow ∧ c.grow ≤ 10000)) (h : ¬ (c.may.length : Int) = 0) : cloudE g c = if firstE (mayE g c.may) c.may.length ≠ 0 then firstE (mayE g c.may) c.may.length else firstE (sureE c.may c.sure) c.sure.length := by
  unfold cloudE
  rw [if_neg (by simpa using hg), if_neg (by simpa using hf), if_neg hr, if_neg (fun q => h (by rw [q]; rfl))]
theorem cE5 (hg : gridOk g) (hf : flowOk c.flow) (hr : ¬¬ (0 ≤ c.grow ∧ c.grow ≤ 10000)) (h : ¬ (c.may.length : Int) = 0) {j : Nat} (hz : ∀ k, k < j → mayE g c.may k = 0) (hj : (j : Int) < c.may.length) (h6 : ¬(0 ≤ c.may.getD j 0 ∧ c.may.getD j 0 ≤ g.wide * g.high - 1)) : 4 = cloudE g c := by
  have e : mayE g c.may j = 4 := by unfold mayE; rw [if_pos h6]
  have := firstE_at hz (by omega) (n := c.may.length) (by omega)
  rw [cE0 hg hf hr h, this, e, if_pos (by omega)]
theorem cE6 (hg : gridOk g) (hf : flowOk c.flow) (hr : ¬¬ (0 ≤ c.grow ∧ c.grow ≤ 10000)) (h : ¬ (c.may.length : Int) = 0) {j : Nat} (hz : ∀ k, k < j → mayE g c.may k = 0) (hj : (j : Int) < c.may.length) (h6 : ¬¬(0 ≤ c.may.getD j 0 ∧ c.may.getD j 0 ≤ g.wide * g.high - 1)) (h7 : (0 : Int) < (j : Int) ∧ c.may.getD j 0 ≤ c.may.getD (j - 1) 0) : 12 = cloudE g c := by
  have e : mayE g c.may j = 12 := by unfold mayE; rw [if_neg h6, if_pos (by omega)]
  have := firstE_at hz (by omega) (n := c.may.length) (by omega)
  rw [cE0 hg hf hr h, this, e, if_pos (by omega)]
theorem cE7 (hg : gridOk g) (hf : flowOk c.flow) (hr : ¬¬ (0 ≤ c.grow ∧ c.grow ≤ 10000)) (h : ¬ (c.may.length : Int) = 0) (hm : firstE (mayE g c.may) c.may.length = 0) {j : Nat} (hz : ∀ k, k < j → sureE c.may c.sure k = 0) (hj : (j : Int) < c.sure.length) (h7 : (0 : Int) < (j : Int) ∧ c.sure.getD j 0 ≤ c.sure.getD (j - 1) 0) : 12 = cloudE g c := by
  have e : sureE c.may c.sure j = 12 := by unfold sureE; rw [if_pos (by omega)]
  have := firstE_at hz (by omega) (n := c.sure.length) (by omega)
  rw [cE0 hg hf hr h, this, e, if_neg (by omega)]
theorem cE8 (hg : gridOk g) (hf : flowOk c.flow) (hr : ¬¬ (0 ≤ c.grow ∧ c.grow ≤ 10000)) (h : ¬ (c.may.length : Int) = 0) (hm : firstE (mayE g c.may) c.may.length = 0) {j : Nat} (hz : ∀ k, k < j → sureE c.may c.sure k = 0) (hj : (j : Int) < c.sure.length) (h7 : ¬((0 : Int) < (j : Int) ∧ c.sure.getD j 0 ≤ c.sure.getD (j - 1) 0)) (h8 : ¬ (memB c.may (c.sure.getD j 0) = true)) : 11 = cloudE g c := by
  have e : sureE c.may c.sure j = 11 := by unfold sureE; rw [if_neg (by omega), if_pos (by simpa [memB] using h8)]
  have := firstE_at hz (by omega) (n := c.sure.length) (by omega)
  rw [cE0 hg hf hr h, this, e, if_neg (by omega)]
theorem cE9 (hg : gridOk g) (hf : flowOk c.flow) (hr : ¬¬ (0 ≤ c.grow ∧ c.grow ≤ 10000)) (h : ¬ (c.may.length : Int) = 0) (hm : firstE (mayE g c.may) c.may.length = 0) {j : Nat} (hz : ∀ k, k < j → sureE c.may c.sure k = 0) (hj : ¬ (j : Int) < c.sure.length) : 0 = cloudE g c := by
  rw [cE0 hg hf hr h, firstE_zero (n := c.sure.length) (fun k hk => hz k (by omega)), if_neg (by omega)]
end

theorem tdiv_up (a b : Int) (hb : 0 < b) (h2 : a ≤ 9223372036854775807) : a / b ≤ 9223372036854775807 := by
  rcases Int.le_total 0 a with h | h
  · exact Int.le_trans (Int.ediv_le_self b h) h2
  · have : a / b ≤ 0 := Int.ediv_nonpos_of_nonpos_of_neg (by omega) (by omega)
    omega

theorem memB_step (l : List Int) {j : Nat} (h : j < l.length) : memB (l.take (j + 1)) = fun n => decide (n = l.getD j 0) || memB (l.take j) n := by
  funext n
  have e : l.take (j + 1) = l.take j ++ [l[j]] := by simp
  simp only [memB, e, List.mem_append, List.mem_singleton, List.getD_eq_getElem?_getD, List.getElem?_eq_getElem h, Option.getD_some]
  by_cases q : n = l[j] <;> by_cases r : n ∈ l.take j <;> simp [q, r]
theorem mul_bd {a t : Int} (h1 : -110000 ≤ a) (h2 : a ≤ 110000) (h3 : 0 ≤ t) (h4 : t ≤ 7200) : -792000000 ≤ a * t ∧ a * t ≤ 792000000 := by
  constructor
  · have : -110000 * t ≤ a * t := Int.mul_le_mul_of_nonneg_right h1 h3
    omega
  · have : a * t ≤ 110000 * t := Int.mul_le_mul_of_nonneg_right h2 h3
    omega
/-- From the least to the greatest number of columns, or rows, by which something can have come. -/
def comeLo (lo grow t : Int) : Int := ((lo - grow) * t - 1000000) / 1000000 + 1
def comeHi (hi grow t : Int) : Int := -(-((hi + grow) * t + 1000000) / 1000000) - 1
theorem come_bd {f grow t : Int} (h1 : -100000 ≤ f) (h2 : f ≤ 100000) (h3 : 0 ≤ grow) (h4 : grow ≤ 10000) (h5 : 0 ≤ t) (h6 : t ≤ 7200) : (-1000 ≤ comeLo f grow t ∧ comeLo f grow t ≤ 1000) ∧ (-1000 ≤ comeHi f grow t ∧ comeHi f grow t ≤ 1000) := by
  have m1 := mul_bd (a := f - grow) (t := t) (by omega) (by omega) h5 h6
  have m2 := mul_bd (a := f + grow) (t := t) (by omega) (by omega) h5 h6
  unfold comeLo comeHi
  omega
theorem row_bd {v w : Int} (h1 : 0 ≤ v) (h2 : v ≤ 64) (h3 : 1 ≤ w) (h4 : w ≤ 64) : 0 ≤ v * w ∧ v * w ≤ 4096 := by
  constructor
  · exact Int.mul_nonneg h1 (by omega)
  · have := Int.mul_le_mul h2 h4 (by omega) (by omega); omega
/-! The columns and rows from which something can have come, in the grid, and whether there are others. -/
def sx0 (g : Grid) (c : Cloud) (p t : Int) : Int := max 0 (p.tmod g.wide - comeHi c.flow.b c.grow t)
def sx1 (g : Grid) (c : Cloud) (p t : Int) : Int := min (g.wide - 1) (p.tmod g.wide - comeLo c.flow.a c.grow t)
def sy0 (g : Grid) (c : Cloud) (p t : Int) : Int := max 0 (p.tdiv g.wide - comeHi c.flow.d c.grow t)
def sy1 (g : Grid) (c : Cloud) (p t : Int) : Int := min (g.high - 1) (p.tdiv g.wide - comeLo c.flow.c c.grow t)
def sout (g : Grid) (c : Cloud) (p t : Int) : Bool := ((decide (p.tmod g.wide - comeHi c.flow.b c.grow t < 0) || decide (g.wide ≤ p.tmod g.wide - comeLo c.flow.a c.grow t)) || decide (p.tdiv g.wide - comeHi c.flow.d c.grow t < 0)) || decide (g.high ≤ p.tdiv g.wide - comeLo c.flow.c c.grow t)
def snx (g : Grid) (c : Cloud) (p t : Int) : Nat := (sx1 g c p t + 1 - sx0 g c p t).toNat
def sny (g : Grid) (c : Cloud) (p t : Int) : Nat := (sy1 g c p t + 1 - sy0 g c p t).toNat
/-- The sources of a pixel at a lead, in the order in which they are yielded. -/
def srcs (g : Grid) (c : Cloud) (p t : Int) : List Int :=
  (if sout g c p t then [-1] else []) ++ (List.range (sny g c p t * snx g c p t)).map fun k => (sy0 g c p t + (k / snx g c p t : Nat)) * g.wide + (sx0 g c p t + (k % snx g c p t : Nat))
theorem srcs_length (g : Grid) (c : Cloud) (p t : Int) : (srcs g c p t).length = (sout g c p t).toNat + sny g c p t * snx g c p t := by
  unfold srcs; cases sout g c p t <;> simp <;> omega
theorem srcs_out {g : Grid} {c : Cloud} {p t : Int} (h : sout g c p t = true) : (srcs g c p t)[0]? = some (-1) := by
  simp [srcs, h]
theorem srcs_at {g : Grid} {c : Cloud} {p t : Int} {i j : Nat} (hi : i < sny g c p t) (hj : j < snx g c p t) : (srcs g c p t)[(sout g c p t).toNat + i * snx g c p t + j]? = some ((sy0 g c p t + (i : Int)) * g.wide + (sx0 g c p t + (j : Int))) := by
  have hk : i * snx g c p t + j < sny g c p t * snx g c p t := by
    have : (i + 1) * snx g c p t ≤ sny g c p t * snx g c p t := Nat.mul_le_mul_right _ hi
    rw [Nat.add_mul] at this; omega
  have hd : (i * snx g c p t + j) / snx g c p t = i := by
    rw [Nat.mul_comm, Nat.mul_add_div (by omega), Nat.div_eq_of_lt hj]; omega
  have hm : (i * snx g c p t + j) % snx g c p t = j := by
    rw [Nat.mul_comm, Nat.mul_add_mod, Nat.mod_eq_of_lt hj]
  unfold srcs
  generalize hn : snx g c p t = nx at *
  generalize hm2 : sny g c p t = ny at *
  cases sout g c p t
  · simp only [Bool.false_eq_true, if_false, List.nil_append, Bool.toNat_false, Nat.zero_add]
    rw [List.getElem?_map, List.getElem?_range hk]
    simp only [Option.map_some, hd, hm]
  · simp only [if_true, Bool.toNat_true]
    rw [show 1 + i * nx + j = (i * nx + j) + 1 by omega, List.singleton_append, List.getElem?_cons_succ, List.getElem?_map, List.getElem?_range hk]
    simp only [Option.map_some, hd, hm]
end Go.Cast
