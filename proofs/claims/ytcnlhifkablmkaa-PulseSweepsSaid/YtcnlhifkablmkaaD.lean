/-
  The data of layer 2 and what its functions come to, in plain words: no program stands in this text.
-/
namespace Go.Pulse
set_option linter.unusedVariables false

structure Span where
  lo : Int
  hi : Int
  deriving DecidableEq
structure Train where
  lam : Int
  kind : Int
  first : Int
  second : Int
  count : Int
structure Recv where
  level : Int
  phase : Int
  nlo : Int
  nhi : Int
structure Sample where
  h : Int
  p : Int
  v : Int
  q : Int
structure Echo where
  kind : Int
  power : Span
  s0 : Span
  s1 : Span
  spread : Int
  ratio : Span
  mtch : Span
  turn : Span
  deriving DecidableEq
def zs : Span := ⟨0, 0⟩
def zE : Echo := ⟨0, zs, zs, zs, 0, zs, zs, zs⟩
def zSm : Sample := ⟨0, 0, 0, 0⟩
def Echo.ints (x : Echo) : List Int := [x.kind, x.power.lo, x.power.hi, x.s0.lo, x.s0.hi, x.s1.lo, x.s1.hi, x.spread, x.ratio.lo, x.ratio.hi, x.mtch.lo, x.mtch.hi, x.turn.lo, x.turn.hi]
theorem Echo.ints_inj {x y : Echo} : x.ints = y.ints ↔ x = y := by
  constructor
  · intro h
    obtain ⟨a, ⟨b, c⟩, ⟨d, e⟩, ⟨f, g⟩, i, ⟨j, k⟩, ⟨l, m⟩, ⟨n, o⟩⟩ := x
    obtain ⟨a', ⟨b', c'⟩, ⟨d', e'⟩, ⟨f', g'⟩, i', ⟨j', k'⟩, ⟨l', m'⟩, ⟨n', o'⟩⟩ := y
    simp only [Echo.ints, List.cons.injEq, and_true] at h
    obtain ⟨rfl, rfl, rfl, rfl, rfl, rfl, rfl, rfl, rfl, rfl, rfl, rfl, rfl, rfl⟩ := h
    rfl
  · rintro rfl; rfl

/-! ### What is valid -/
def trainOk (t : Train) : Prop := (10000 ≤ t.lam ∧ t.lam ≤ 1000000) ∧ (200 ≤ t.first ∧ t.first ≤ 5000) ∧ t.count ≤ 64 ∧
  ((t.kind = 1 ∧ t.second = 0 ∧ 2 ≤ t.count) ∨ (t.kind = 2 ∧ t.count % 2 = 0 ∧ (200 ≤ t.second ∧ t.second ≤ 5000) ∧ t.first < t.second ∧ 4 ≤ t.count) ∨ (t.kind = 3 ∧ (200 ≤ t.second ∧ t.second ≤ 5000) ∧ t.first < t.second ∧ 3 ≤ t.count))
instance (t : Train) : Decidable (trainOk t) := by unfold trainOk; exact inferInstance
def kndOk (k : Int) : Prop := k = 1 ∨ k = 2 ∨ k = 3
instance (k : Int) : Decidable (kndOk k) := by unfold kndOk; exact inferInstance
def trainE (t : Train) : Int := if kndOk t.kind then (if trainOk t then 0 else 3) else 2
def recvOk (r : Recv) : Prop := (0 ≤ r.level ∧ r.level ≤ 64) ∧ (0 ≤ r.phase ∧ r.phase ≤ 4096) ∧ 0 ≤ r.nlo ∧ r.nlo ≤ r.nhi ∧ r.nhi ≤ 1048576
instance (r : Recv) : Decidable (recvOk r) := by unfold recvOk; exact inferInstance
def recvE (r : Recv) : Int := if recvOk r then 0 else 3
def inS (s : Span) (lo hi : Int) : Prop := lo ≤ s.lo ∧ s.lo ≤ s.hi ∧ s.hi ≤ hi
instance (s : Span) (lo hi : Int) : Decidable (inS s lo hi) := by unfold inS; exact inferInstance
def turnS (s : Span) : Prop := (-32768 ≤ s.lo ∧ s.lo ≤ 32767) ∧ s.lo ≤ s.hi ∧ s.hi ≤ s.lo + 65535
instance (s : Span) : Decidable (turnS s) := by unfold turnS; exact inferInstance
def echoOk (x : Echo) : Prop := inS x.power 0 1073741824 ∧
  ((x.kind = 1 ∧ x = { zE with kind := 1, power := ⟨0, x.power.hi⟩ }) ∨
   ((x.kind = 2 ∨ x.kind = 3) ∧ 0 < x.power.lo ∧ inS x.ratio 0 1000000 ∧ inS x.mtch 0 1000 ∧ (0 ≤ x.spread ∧ x.spread ≤ 65535) ∧
     ((x.kind = 2 ∧ x.s0 = zs ∧ x.s1 = zs ∧ x.turn = zs) ∨ (x.kind = 3 ∧ turnS x.s0 ∧ turnS x.s1 ∧ turnS x.turn))))
instance (x : Echo) : Decidable (echoOk x) := by unfold echoOk; exact inferInstance
def echoE (x : Echo) : Int := if kndOk x.kind then (if echoOk x then 0 else 3) else 2
def smpOk (x : Sample) : Prop := (0 ≤ x.h ∧ x.h ≤ 1023) ∧ (0 ≤ x.v ∧ x.v ≤ 1023) ∧ (0 ≤ x.p ∧ x.p ≤ 65535) ∧ (0 ≤ x.q ∧ x.q ≤ 65535)
instance (x : Sample) : Decidable (smpOk x) := by unfold smpOk; exact inferInstance

/-! ### Numbers on a circle -/
def wr (a : Int) : Int := a % 65536
def up (a b : Int) : Int := -(-a / b)
def arcW (l : List Int) (d : Int) : Int := (l.map fun x => wr (x - d)).foldl max 0
def arcStep (l : List Int) (s : Int × Int) (d : Int) : Int × Int := if arcW l d < s.2 ∨ (arcW l d = s.2 ∧ d < s.1) then (d, arcW l d) else s
def arcR (l : List Int) : Int × Int := l.foldl (arcStep l) (0, 65536)
def arcT (l : List Int) (b : Int) : Int := (l.map fun d => b + wr (d - b)).sum
def arcSum (l : List Int) : Int := arcT l (arcR l).1
def tog (l : List Int) (phase : Int) : Prop := l = [] ∨ (arcR l).2 + 4 * phase < 32768
instance (l : List Int) (p : Int) : Decidable (tog l p) := by unfold tog; exact inferInstance
def meanS (l : List Int) (slack : Int) : Span :=
  if l = [] then zs else
    let lo := (arcSum l - slack) / (l.length : Int)
    let hi := up (arcSum l + slack) (l.length : Int)
    ⟨wr (lo + 32768) - 32768, wr (lo + 32768) - 32768 + hi - lo⟩
def wid (l : List Int) : Int := if l = [] then 0 else (arcR l).2

/-! ### Echoes -/
def sq (m a : Int) : Int := max 0 (a + m) * max 0 (a + m)
def sumH (m : Int) (l : List Sample) : Int := (l.map fun x => sq m x.h).sum
def sumV (m : Int) (l : List Sample) : Int := (l.map fun x => sq m x.v).sum
def sumX (m : Int) (l : List Sample) : Int := (l.map fun x => max 0 (x.h + m) * max 0 (x.v + m)).sum
def powS (r : Recv) (a b n : Int) : Span := ⟨max 0 (a / n - r.nhi), max 0 (up b n - r.nlo)⟩
def ratioS (p q : Span) : Span := ⟨min 1000000 (1000 * q.lo / p.hi), min 1000000 (up (1000 * q.hi) p.lo)⟩
def shareD (a b : Int) : Int := if b = 0 then 0 else min 1000 (1000 * a * a / b)
def shareU (a b : Int) : Int := if b = 0 then 1000 else min 1000 (up (1000 * a * a) b)
def stW (kind : Int) (n i : Nat) : Int := if kind = 1 then 0 else if kind = 2 then (if i + 1 = n / 2 then 2 else if n / 2 ≤ i then 1 else 0) else ((i % 2 : Nat) : Int)
def stD (l : List Sample) (i : Nat) : Int := wr ((l.getD (i + 1) zSm).p - (l.getD i zSm).p)
def stP (kind : Int) (l : List Sample) (w : Int) (m : Nat) : List Int := ((List.range m).filter fun i => decide (stW kind l.length i = w)).map (stD l)
def stL (kind : Int) (l : List Sample) (w : Int) : List Int := stP kind l w (l.length - 1)
def turnL (l : List Sample) : List Int := l.map fun x => wr (x.q - x.p)
def slk (t : Train) (r : Recv) (s : List Int) : Int := if t.kind = 3 then 2 * r.phase * s.length else 2 * r.phase
def pow0 (r : Recv) (l : List Sample) : Span := powS r (sumH (-r.level) l) (sumH r.level l) l.length
def pow1 (r : Recv) (l : List Sample) : Span := powS r (sumV (-r.level) l) (sumV r.level l) l.length
def mtchS (r : Recv) (l : List Sample) : Span := ⟨shareD (sumX (-r.level) l) (sumH r.level l * sumV r.level l), shareU (sumX r.level l) (sumH (-r.level) l * sumV (-r.level) l)⟩
def goodT (t : Train) (r : Recv) (l : List Sample) : Prop := tog (turnL l) r.phase ∧ tog (stL t.kind l 0) r.phase ∧ tog (stL t.kind l 1) r.phase
instance (t : Train) (r : Recv) (l : List Sample) : Decidable (goodT t r l) := by unfold goodT; exact inferInstance
def spreadL (t : Train) (l : List Sample) : Int := max (max 0 (wid (stL t.kind l 0))) (wid (stL t.kind l 1))
def hearX (t : Train) (r : Recv) (l : List Sample) : Echo :=
  if (pow0 r l).lo = 0 then { zE with kind := 1, power := pow0 r l }
  else if ¬ goodT t r l then { zE with kind := 2, power := pow0 r l, spread := spreadL t l, ratio := ratioS (pow0 r l) (pow1 r l), mtch := mtchS r l }
  else ⟨3, pow0 r l, meanS (stL t.kind l 0) (slk t r (stL t.kind l 0)), meanS (stL t.kind l 1) (slk t r (stL t.kind l 1)), spreadL t l, ratioS (pow0 r l) (pow1 r l), mtchS r l, meanS (turnL l) (2 * r.phase * l.length)⟩
def hearE (t : Train) (r : Recv) (l : List Sample) : Int :=
  if trainE t ≠ 0 then trainE t else if recvE r ≠ 0 then recvE r else if (l.length : Int) ≠ t.count then 11 else if ∀ x ∈ l, smpOk x then 0 else 3
def hearR (t : Train) (r : Recv) (l : List Sample) : Echo := if hearE t r l = 0 then hearX t r l else zE

/-- The first that is not 0. -/
def firstE (f : Nat → Int) : Nat → Int
  | 0 => 0
  | n + 1 => if firstE f n ≠ 0 then firstE f n else f n
theorem firstE_zero {f : Nat → Int} : ∀ {n : Nat}, (∀ k, k < n → f k = 0) → firstE f n = 0
  | 0, _ => rfl
  | n + 1, h => by
    have := firstE_zero (f := f) (n := n) (fun k hk => h k (by omega))
    simp [firstE, this, h n (by omega)]
theorem firstE_at {f : Nat → Int} {i : Nat} (h : ∀ k, k < i → f k = 0) (hi : f i ≠ 0) : ∀ {n : Nat}, i < n → firstE f n = f i
  | 0, hn => by omega
  | n + 1, hn => by
    by_cases e : i = n
    · subst e; simp [firstE, firstE_zero h]
    · have := firstE_at h hi (n := n) (by omega)
      simp [firstE, this, hi]
theorem firstE_eq {f : Nat → Int} : ∀ {n : Nat}, firstE f n = 0 → ∀ k, k < n → f k = 0
  | 0, _, k, hk => by omega
  | n + 1, h, k, hk => by
    unfold firstE at h
    split at h
    · rename_i q; exact absurd h q
    · rename_i q
      simp only [ne_eq, Classical.not_not] at q
      by_cases e : k = n
      · subst e; exact h
      · exact firstE_eq q k (by omega)

/-! ### What is proved of them -/
theorem wr_bd (a : Int) : 0 ≤ wr a ∧ wr a ≤ 65535 := by unfold wr; omega
theorem foldl_max_le (l : List Int) : ∀ a, a ≤ l.foldl max a := by
  induction l with
  | nil => intro a; exact Int.le_refl _
  | cons x l ih => intro a; exact Int.le_trans (Int.le_max_left a x) (ih _)
theorem foldl_max_mem {l : List Int} : ∀ {a x : Int}, x ∈ l → x ≤ l.foldl max a := by
  induction l with
  | nil => intro a x h; cases h
  | cons y l ih =>
    intro a x h
    rcases List.mem_cons.1 h with rfl | h
    · exact Int.le_trans (Int.le_max_right a x) (foldl_max_le l _)
    · exact ih h
theorem foldl_max_eq {l : List Int} : ∀ {a : Int}, l.foldl max a = a ∨ l.foldl max a ∈ l := by
  induction l with
  | nil => intro a; exact .inl rfl
  | cons y l ih =>
    intro a
    show l.foldl max (max a y) = a ∨ l.foldl max (max a y) ∈ _
    rcases ih (a := max a y) with h | h
    · rw [h]
      rcases Int.le_total a y with q | q
      · rw [Int.max_eq_right q]; exact .inr (by simp)
      · exact .inl (Int.max_eq_left q)
    · exact .inr (List.mem_cons_of_mem _ h)
theorem arcW_ge {l : List Int} {d x : Int} (h : x ∈ l) : wr (x - d) ≤ arcW l d := foldl_max_mem (List.mem_map_of_mem h)
theorem arcW_bd (l : List Int) (d : Int) : 0 ≤ arcW l d ∧ arcW l d ≤ 65535 := by
  refine ⟨foldl_max_le _ _, ?_⟩
  rcases foldl_max_eq (l := l.map fun x => wr (x - d)) (a := 0) with h | h
  · unfold arcW; rw [h]; decide
  · obtain ⟨x, _, e⟩ := List.mem_map.1 h
    unfold arcW; rw [← e]; exact (wr_bd _).2
theorem arcW_is {l : List Int} {d m : Int} (h0 : 0 ≤ m) (h1 : ∀ x ∈ l, wr (x - d) ≤ m) (h2 : m = 0 ∨ ∃ x ∈ l, wr (x - d) = m) : arcW l d = m := by
  refine Int.le_antisymm ?_ ?_
  · rcases foldl_max_eq (l := l.map fun x => wr (x - d)) (a := 0) with h | h
    · unfold arcW; rw [h]; exact h0
    · obtain ⟨x, hx, e⟩ := List.mem_map.1 h
      unfold arcW; rw [← e]; exact h1 x hx
  · rcases h2 with rfl | ⟨x, hx, e⟩
    · exact (arcW_bd l d).1
    · rw [← e]; exact arcW_ge hx
/-- What an arc is: the narrowest one, and of those the one with the least base. -/
def ArcP (l : List Int) (b w : Int) : Prop := b ∈ l ∧ w = arcW l b ∧ ∀ x ∈ l, w < arcW l x ∨ (w = arcW l x ∧ b ≤ x)
theorem ArcP.uniq {l : List Int} {b w b' w' : Int} (h : ArcP l b w) (k : ArcP l b' w') : b = b' ∧ w = w' := by
  obtain ⟨h1, h2, h3⟩ := h
  obtain ⟨k1, k2, k3⟩ := k
  have := h3 _ k1
  have := k3 _ h1
  omega
/-- The same for the numbers that have been looked at. -/
def ArcQ (l m : List Int) (b w : Int) : Prop := (m = [] ∧ b = 0 ∧ w = 65536) ∨ (b ∈ m ∧ w = arcW l b ∧ ∀ x ∈ m, w < arcW l x ∨ (w = arcW l x ∧ b ≤ x))
theorem ArcQ.step {l m : List Int} {s : Int × Int} {d : Int} (h : ArcQ l m s.1 s.2) : ArcQ l (m ++ [d]) (arcStep l s d).1 (arcStep l s d).2 := by
  have hb := arcW_bd l d
  right
  unfold arcStep
  rcases h with ⟨rfl, h1, h2⟩ | ⟨h1, h2, h3⟩
  · rw [if_pos (by omega)]
    refine ⟨by simp, rfl, fun x hx => ?_⟩
    simp at hx; subst hx; exact .inr ⟨rfl, Int.le_refl _⟩
  · split
    · rename_i q
      refine ⟨by simp, rfl, fun x hx => ?_⟩
      rcases List.mem_append.1 hx with hx | hx
      · have := h3 x hx
        dsimp only
        omega
      · simp at hx; subst hx; exact .inr ⟨rfl, Int.le_refl _⟩
    · rename_i q
      refine ⟨by simp [h1], h2, fun x hx => ?_⟩
      rcases List.mem_append.1 hx with hx | hx
      · exact h3 x hx
      · simp at hx; subst hx; omega
theorem ArcQ.fold {l : List Int} : ∀ (m m0 : List Int) (s : Int × Int), ArcQ l m0 s.1 s.2 → ArcQ l (m0 ++ m) (m.foldl (arcStep l) s).1 (m.foldl (arcStep l) s).2
  | [], m0, s, h => by simpa using h
  | d :: m, m0, s, h => by
    have := ArcQ.fold m (m0 ++ [d]) (arcStep l s d) h.step
    simpa using this
theorem arcR_is {l : List Int} (h : l ≠ []) : ArcP l (arcR l).1 (arcR l).2 := by
  have := ArcQ.fold (l := l) l [] (0, 65536) (.inl ⟨rfl, rfl, rfl⟩)
  rw [List.nil_append] at this
  rcases this with ⟨q, _⟩ | q
  · exact absurd q h
  · exact q
theorem arcR_eq {l : List Int} {b w : Int} (h : ArcP l b w) : arcR l = (b, w) := by
  have := (arcR_is (l := l) (fun q => by rw [q] at h; cases h.1)).uniq h
  exact Prod.ext this.1 this.2
theorem arcR_mem {l : List Int} {m : List Int} (hm : ∀ x, x ∈ m ↔ x ∈ l) : ∀ d, arcW l d = arcW m d := fun d => by
  refine arcW_is (arcW_bd m d).1 (fun x hx => arcW_ge ((hm x).2 hx)) ?_
  rcases foldl_max_eq (l := m.map fun x => wr (x - d)) (a := 0) with h | h
  · exact .inl h
  · obtain ⟨x, hx, e⟩ := List.mem_map.1 h
    exact .inr ⟨x, (hm x).1 hx, e⟩

/-- The width from a member of an ascending list on: what lies ahead of it decides. -/
theorem arcW_asc {s : List Int} (hs : s.Pairwise (· < ·)) (hb : ∀ x ∈ s, 0 ≤ x ∧ x ≤ 65535) {i : Nat} (hi : i < s.length) :
    arcW s s[i] = wr (s[(i + s.length - 1) % s.length]'(Nat.mod_lt _ (by omega)) - s[i]) := by
  have hlt : ∀ {a b : Nat} (ha : a < s.length) (hb' : b < s.length), a < b → s[a] < s[b] := fun ha hb' hab => List.pairwise_iff_getElem.1 hs _ _ ha hb' hab
  have hle : ∀ {a b : Nat} (ha : a < s.length) (hb' : b < s.length), a ≤ b → s[a] ≤ s[b] := fun {a b} ha hb' hab => by
    rcases Nat.lt_or_eq_of_le hab with q | q
    · exact Int.le_of_lt (hlt ha hb' q)
    · subst q; exact Int.le_refl _
  have hbi := hb _ (List.getElem_mem hi)
  by_cases h0 : i = 0
  · subst h0
    have e : (0 + s.length - 1) % s.length = s.length - 1 := by rw [Nat.zero_add]; exact Nat.mod_eq_of_lt (by omega)
    have hl : s.length - 1 < s.length := by omega
    have hbl := hb _ (List.getElem_mem hl)
    have hge := hle hi hl (by omega)
    simp only [e]
    refine arcW_is (wr_bd _).1 (fun x hx => ?_) (.inr ⟨_, List.getElem_mem hl, rfl⟩)
    obtain ⟨k, hk, rfl⟩ := List.mem_iff_getElem.1 hx
    have h1 := hle hk hl (by omega)
    have h2 := hle hi hk (by omega)
    have h3 := hb _ (List.getElem_mem hk)
    unfold wr; omega
  · have e : (i + s.length - 1) % s.length = i - 1 := by
      rw [show i + s.length - 1 = i - 1 + s.length by omega, Nat.add_mod_right, Nat.mod_eq_of_lt (by omega)]
    have hl : i - 1 < s.length := by omega
    have hbl := hb _ (List.getElem_mem hl)
    have hlt1 := hlt hl hi (by omega)
    simp only [e]
    refine arcW_is (wr_bd _).1 (fun x hx => ?_) (.inr ⟨_, List.getElem_mem hl, rfl⟩)
    obtain ⟨k, hk, rfl⟩ := List.mem_iff_getElem.1 hx
    have h3 := hb _ (List.getElem_mem hk)
    rcases Nat.lt_or_ge k i with q | q
    · have h1 := hle hk hl (by omega)
      have h4 := hlt hk hi q
      unfold wr; omega
    · have h1 := hle hi hk q
      unfold wr; omega

/-- Of ascending numbers the first of those with the least width. -/
def ascStep (s : List Int) (st : Int × Int) (d : Int) : Int × Int := if arcW s d < st.2 then (d, arcW s d) else st
theorem asc_fold {s : List Int} (hs : s.Pairwise (· < ·)) (n : Nat) (hn : n ≤ s.length) : (s.take n).foldl (ascStep s) (0, 65536) = (s.take n).foldl (arcStep s) (0, 65536) := by
  induction n with
  | zero => rfl
  | succ n ih =>
    have hlt : n < s.length := by omega
    have ih := ih (by omega)
    rw [List.take_add_one, List.getElem?_eq_getElem hlt]
    simp only [Option.toList_some, List.foldl_append, List.foldl_cons, List.foldl_nil]
    rw [ih]
    have hq := ArcQ.fold (l := s) (s.take n) [] (0, 65536) (.inl ⟨rfl, rfl, rfl⟩)
    rw [List.nil_append] at hq
    generalize (s.take n).foldl (arcStep s) (0, 65536) = st at hq
    have hb := arcW_bd s s[n]
    unfold ascStep arcStep
    by_cases h1 : arcW s s[n] < st.2
    · rw [if_pos h1, if_pos (.inl h1)]
    · rw [if_neg h1]
      rw [if_neg]
      rintro (q | ⟨q1, q2⟩)
      · exact h1 q
      · rcases hq with ⟨_, _, k⟩ | ⟨k, _⟩
        · omega
        · obtain ⟨j, hj, e⟩ := List.mem_iff_getElem.1 k
          rw [List.length_take] at hj
          rw [List.getElem_take] at e
          have := List.pairwise_iff_getElem.1 hs j n (by omega) hlt (by omega)
          omega
theorem asc_arc {s l : List Int} (hs : s.Pairwise (· < ·)) (hm : ∀ x, x ∈ s ↔ x ∈ l) : s.foldl (ascStep s) (0, 65536) = arcR l := by
  have h1 := asc_fold hs s.length (Nat.le_refl _)
  rw [List.take_length] at h1
  rw [h1]
  by_cases h0 : l = []
  · subst h0
    have : s = [] := by
      cases s with
      | nil => rfl
      | cons x s => have := (hm x).1 (by simp); cases this
    subst this; rfl
  · have hs0 : s ≠ [] := by
      cases l with
      | nil => exact absurd rfl h0
      | cons x l => intro q; have := (hm x).2 (by simp); rw [q] at this; cases this
    have h2 : ArcP s (s.foldl (arcStep s) (0, 65536)).1 (s.foldl (arcStep s) (0, 65536)).2 := arcR_is hs0
    obtain ⟨a1, a2, a3⟩ := h2
    refine (arcR_eq ⟨(hm _).1 a1, ?_, fun x hx => ?_⟩).symm
    · rw [a2]; exact (arcR_mem hm _).symm
    · have := a3 x ((hm x).2 hx)
      rw [arcR_mem hm x]; exact this
end Go.Pulse
