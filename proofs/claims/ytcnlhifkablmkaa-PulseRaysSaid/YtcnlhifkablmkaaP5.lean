/-
  Turned samples: the plain part of PulseTurned.
-/
import Derived.Test.YtcnlhifkablmkaaWN
namespace Go.Proofs.Ytcnlhifkablmkaa
open Go.SL Go.Proofs Go.Pulse
set_option linter.unusedVariables false



def rotL (k : Int) (l : List Int) : List Int := l.map fun d => wr (d + k)
def mirL (l : List Int) : List Int := l.map fun d => wr (-d)
/-- Spans that are the same but for whole turns. -/
def eqS (a b : Span) : Prop := a.lo ≤ a.hi ∧ ∃ K : Int, (-2 ≤ K ∧ K ≤ 2) ∧ a.lo + K * 65536 = b.lo ∧ a.hi + K * 65536 = b.hi
section
variable {l : List Int} {k : Int}
theorem wr_rot (x d k : Int) : wr (wr (x + k) - wr (d + k)) = wr (x - d) := by unfold wr; omega
theorem wr_mir (x d : Int) : wr (wr (-x) - wr (-d)) = wr (d - x) := by unfold wr; omega
theorem arcW_rot (d : Int) : arcW (rotL k l) (wr (d + k)) = arcW l d := by
  unfold arcW rotL; rw [List.map_map]; congr 1; exact List.map_congr_left fun x _ => wr_rot x d k
theorem rot_ne (h : l ≠ []) : rotL k l ≠ [] := fun q => h (List.map_eq_nil_iff.1 q)
theorem mir_ne (h : l ≠ []) : mirL l ≠ [] := fun q => h (List.map_eq_nil_iff.1 q)
theorem rot_wid (h : l ≠ []) : (arcR (rotL k l)).2 = (arcR l).2 ∧ ((arcR l).2 < 32768 → (arcR (rotL k l)).1 = wr ((arcR l).1 + k)) := by
  obtain ⟨a1, a2, a3⟩ := arcR_is h
  obtain ⟨b1, b2, b3⟩ := arcR_is (rot_ne (k := k) h)
  obtain ⟨c, hc, hcb⟩ := List.mem_map.1 b1
  have h1 := a3 c hc
  have h2 := b3 (wr ((arcR l).1 + k)) (List.mem_map_of_mem (f := fun d => wr (d + k)) a1)
  rw [arcW_rot] at h2
  have h3 := b2
  rw [← hcb, arcW_rot] at h3
  have e : (arcR (rotL k l)).2 = (arcR l).2 := by omega
  refine ⟨e, fun hw => ?_⟩
  have h4 := arcW_ge (d := (arcR l).1) hc
  have h5 := arcW_ge (d := c) a1
  rw [← hcb]
  unfold wr at *
  omega
theorem rot_sum (h : l ≠ []) (hw : (arcR l).2 < 32768) : arcSum (rotL k l) = arcSum l + (wr ((arcR l).1 + k) - (arcR l).1) * (l.length : Int) := by
  unfold arcSum arcT
  rw [(rot_wid (k := k) h).2 hw]
  unfold rotL
  rw [List.map_map]
  refine sum_const fun x hx => ?_
  simp only [Function.comp]
  rw [wr_rot]; omega
theorem mean_shift {s s' : List Int} {sl J : Int} (hs : s ≠ []) (hl : s'.length = s.length) (hS : arcSum s' = arcSum s + J * (s.length : Int)) :
    ∃ A B : Int, meanS s sl = ⟨wr (A + 32768) - 32768, wr (A + 32768) - 32768 + B - A⟩ ∧ meanS s' sl = ⟨wr (A + J + 32768) - 32768, wr (A + J + 32768) - 32768 + B - A⟩ ∧ A = (arcSum s - sl) / (s.length : Int) ∧ B = up (arcSum s + sl) (s.length : Int) := by
  have hs' : s' ≠ [] := fun q => hs (by rw [q] at hl; exact List.length_eq_zero_iff.1 hl.symm)
  have hn : 0 < (s.length : Int) := by cases s with | nil => exact absurd rfl hs | cons => simp
  refine ⟨_, _, by unfold meanS; rw [if_neg hs], ?_, rfl, rfl⟩
  unfold meanS
  rw [if_neg hs']
  dsimp only
  have e1 : (arcSum s' - sl) / (s'.length : Int) = (arcSum s - sl) / (s.length : Int) + J := by
    rw [hl, hS, show arcSum s + J * (s.length : Int) - sl = arcSum s - sl + J * (s.length : Int) by omega, Int.add_mul_ediv_right _ _ (by omega)]
  have e2 : up (arcSum s' + sl) (s'.length : Int) = up (arcSum s + sl) (s.length : Int) + J := by
    unfold up
    rw [hl, hS, show -(arcSum s + J * (s.length : Int) + sl) = -(arcSum s + sl) + -J * (s.length : Int) by rw [Int.neg_mul]; omega, Int.add_mul_ediv_right _ _ (by omega)]
    omega
  rw [e1, e2]
  congr 1
  omega
theorem rot_mean {sl : Int} (h : l ≠ []) (hw : (arcR l).2 < 32768) (h0 : 0 ≤ sl) (h1 : sl ≤ 8192 * (l.length : Int)) (k0 : 0 ≤ k) (k1 : k ≤ 65535) :
    eqS (meanS (rotL k l) sl) ⟨(meanS l sl).lo + k, (meanS l sl).hi + k⟩ := by
  have hn : 0 < (l.length : Int) := by cases l with | nil => exact absurd rfl h | cons => simp
  obtain ⟨A, B, e1, e2, e3, e4⟩ := mean_shift (sl := sl) h (show (rotL k l).length = l.length from List.length_map ..) (rot_sum (k := k) h hw)
  have w1 := mean_wid (S := arcSum l) hn h0 h1
  rw [← e3, ← e4] at w1
  rw [e1, show meanS (rotL k l) sl = _ from e2]
  generalize (arcR l).1 = b
  refine ⟨by dsimp only; omega, ?_⟩
  dsimp only
  refine ⟨((wr (A + 32768) - 32768) + k - (wr (A + (wr (b + k) - b) + 32768) - 32768)) / 65536, ?_⟩
  unfold wr
  omega
theorem mir_mir (hT : ∀ x ∈ l, inT x) : mirL (mirL l) = l := by
  unfold mirL
  rw [List.map_map]
  refine (List.map_congr_left fun x hx => ?_).trans (List.map_id l)
  have := hT x hx
  unfold inT at this
  simp only [Function.comp, id]
  unfold wr; omega
theorem mir_inT : ∀ x ∈ mirL l, inT x := fun x hx => by
  unfold mirL at hx
  obtain ⟨y, _, rfl⟩ := List.mem_map.1 hx
  exact wr_bd _
theorem mir_end (h : l ≠ []) : ∃ e ∈ l, wr (e - (arcR l).1) = (arcR l).2 ∧ arcW (mirL l) (wr (-e)) ≤ (arcR l).2 := by
  obtain ⟨a1, a2, a3⟩ := arcR_is h
  have bd := arcW_bd l (arcR l).1
  rw [← a2] at bd
  have key : ∃ e ∈ l, wr (e - (arcR l).1) = (arcR l).2 := by
    rcases foldl_max_eq (l := l.map fun x => wr (x - (arcR l).1)) (a := 0) with q | q
    · refine ⟨_, a1, ?_⟩
      rw [a2]; unfold arcW; rw [q]; unfold wr; omega
    · obtain ⟨e, he, hq⟩ := List.mem_map.1 q
      exact ⟨e, he, by rw [a2]; exact hq⟩
  obtain ⟨e, he, hq⟩ := key
  refine ⟨e, he, hq, ?_⟩
  refine arcW_le bd.1 fun x hx => ?_
  obtain ⟨y, hy, rfl⟩ := List.mem_map.1 hx
  rw [wr_mir]
  have h1 := arcW_ge (d := (arcR l).1) hy
  rw [← a2] at h1
  unfold wr at *
  omega
theorem mir_wid (h : l ≠ []) (hT : ∀ x ∈ l, inT x) : (arcR (mirL l)).2 = (arcR l).2 := by
  have key : ∀ {l : List Int}, l ≠ [] → (arcR (mirL l)).2 ≤ (arcR l).2 := fun {l} h => by
    obtain ⟨e, he, _, h2⟩ := mir_end h
    obtain ⟨b1, b2, b3⟩ := arcR_is (mir_ne h)
    have := b3 (wr (-e)) (List.mem_map_of_mem (f := fun d => wr (-d)) he)
    omega
  have h1 := key h
  have h2 := key (mir_ne h)
  rw [mir_mir hT] at h2
  omega
theorem mir_base (h : l ≠ []) (hT : ∀ x ∈ l, inT x) (hw : (arcR l).2 < 32768) : ∃ e ∈ l, wr (e - (arcR l).1) = (arcR l).2 ∧ (arcR (mirL l)).1 = wr (-e) := by
  obtain ⟨e, he, hq, h2⟩ := mir_end h
  refine ⟨e, he, hq, ?_⟩
  obtain ⟨b1, b2, b3⟩ := arcR_is (mir_ne h)
  have hm : wr (-e) ∈ mirL l := List.mem_map_of_mem (f := fun d => wr (-d)) he
  have h3 := b3 (wr (-e)) hm
  have ew := mir_wid h hT
  have h4 := arcW_ge (d := wr (-e)) b1
  have h5 := arcW_ge (d := (arcR (mirL l)).1) hm
  rw [← b2] at h5
  have h6 := mir_inT _ b1
  have h7 := wr_bd (-e)
  unfold inT at h6
  generalize wr (-e) = c at *
  generalize (arcR (mirL l)).1 = b' at *
  unfold wr at h4 h5
  omega
theorem mir_sum (h : l ≠ []) (hT : ∀ x ∈ l, inT x) (hw : (arcR l).2 < 32768) : ∃ K : Int, arcSum (mirL l) = 65536 * K * (l.length : Int) - arcSum l := by
  obtain ⟨a1, a2, a3⟩ := arcR_is h
  obtain ⟨e, he, hq, hb⟩ := mir_base h hT hw
  refine ⟨(wr (-e) + (arcR l).2 + (arcR l).1) / 65536, ?_⟩
  have hK : 65536 * ((wr (-e) + (arcR l).2 + (arcR l).1) / 65536) = wr (-e) + (arcR l).2 + (arcR l).1 := by
    rw [← hq]; unfold wr; omega
  rw [hK]
  have e1 : arcSum (mirL l) = (l.map fun x => -((arcR l).1 + wr (x - (arcR l).1))).sum + (wr (-e) + (arcR l).2 + (arcR l).1) * (l.length : Int) := by
    unfold arcSum arcT
    rw [hb]
    unfold mirL
    rw [List.map_map]
    refine sum_const fun x hx => ?_
    simp only [Function.comp]
    rw [wr_mir]
    have h1 := arcW_ge (d := (arcR l).1) hx
    rw [← a2] at h1
    unfold wr at *
    omega
  rw [e1]
  have e2 : ∀ (m : List Int) (f : Int → Int), (m.map fun x => -(f x)).sum = -((m.map f).sum) := fun m f => by
    induction m with
    | nil => rfl
    | cons x m ih => simp only [List.map_cons, List.sum_cons, ih]; omega
  rw [e2]
  show _ = _ - arcSum l
  unfold arcSum arcT
  omega
theorem mir_mean {sl : Int} (h : l ≠ []) (hT : ∀ x ∈ l, inT x) (hw : (arcR l).2 < 32768) (h0 : 0 ≤ sl) (h1 : sl ≤ 8192 * (l.length : Int)) :
    eqS (meanS (mirL l) sl) ⟨-(meanS l sl).hi, -(meanS l sl).lo⟩ := by
  have hn : 0 < (l.length : Int) := by cases l with | nil => exact absurd rfl h | cons => simp
  obtain ⟨K, hK⟩ := mir_sum h hT hw
  have w1 := mean_wid (S := arcSum l) hn h0 h1
  have hl : (mirL l).length = l.length := List.length_map ..
  have e1 : (arcSum (mirL l) - sl) / ((mirL l).length : Int) = 65536 * K - up (arcSum l + sl) (l.length : Int) := by
    unfold up
    rw [hl, hK, show 65536 * K * (l.length : Int) - arcSum l - sl = -(arcSum l + sl) + 65536 * K * (l.length : Int) by omega, Int.add_mul_ediv_right _ _ (by omega)]
    omega
  have e2 : up (arcSum (mirL l) + sl) ((mirL l).length : Int) = 65536 * K - (arcSum l - sl) / (l.length : Int) := by
    unfold up
    rw [hl, hK, show -(65536 * K * (l.length : Int) - arcSum l + sl) = (arcSum l - sl) + -(65536 * K) * (l.length : Int) by rw [Int.neg_mul]; omega, Int.add_mul_ediv_right _ _ (by omega)]
    omega
  unfold meanS
  rw [if_neg h, if_neg (mir_ne h)]
  dsimp only
  rw [e1, e2]
  generalize (arcSum l - sl) / (l.length : Int) = A at *
  generalize up (arcSum l + sl) (l.length : Int) = B at *
  refine ⟨by dsimp only; omega, ?_⟩
  dsimp only
  refine ⟨(-(wr (A + 32768) - 32768 + B - A) - (wr (65536 * K - B + 32768) - 32768)) / 65536, ?_⟩
  unfold wr
  omega
end

/-! ### Samples that are turned -/
def mvL (f : Nat → Sample → Sample) (l : List Sample) : List Sample := (List.range l.length).map fun i => f i (l.getD i zSm)
def fA (m : Int) (i : Nat) (x : Sample) : Sample := ⟨x.h, wr (x.p + m), x.v, wr (x.q + m)⟩
def fB (m : Int) (i : Nat) (x : Sample) : Sample := ⟨x.h, wr (x.p + i * m), x.v, wr (x.q + i * m)⟩
def fC (i : Nat) (x : Sample) : Sample := ⟨x.h, wr (-x.p), x.v, wr (-x.q)⟩
theorem mv_step {f : Nat → Sample → Sample} {l : List Sample} {i : Nat} : (List.range (i + 1)).map (fun k => f k (l.getD k zSm)) = (List.range i).map (fun k => f k (l.getD k zSm)) ++ [f i (l.getD i zSm)] := by
  rw [List.range_succ, List.map_append]; rfl
section
variable {f : Nat → Sample → Sample} {l : List Sample} {r : Recv} {t : Train}
theorem mv_len : (mvL f l).length = l.length := by unfold mvL; simp
theorem mv_get {i : Nat} (hi : i < l.length) : (mvL f l).getD i zSm = f i (l.getD i zSm) := by
  unfold mvL
  rw [List.getD_eq_getElem?_getD, List.getElem?_map, List.getElem?_range hi]
  rfl
/-- What keeps the magnitudes. -/
def Keeps (f : Nat → Sample → Sample) : Prop := ∀ i x, (f i x).h = x.h ∧ (f i x).v = x.v ∧ (0 ≤ (f i x).p ∧ (f i x).p ≤ 65535) ∧ 0 ≤ (f i x).q ∧ (f i x).q ≤ 65535
theorem kA (m : Int) : Keeps (fA m) := fun i x => ⟨rfl, rfl, wr_bd _, wr_bd _⟩
theorem kB (m : Int) : Keeps (fB m) := fun i x => ⟨rfl, rfl, wr_bd _, wr_bd _⟩
theorem kC : Keeps fC := fun i x => ⟨rfl, rfl, wr_bd _, wr_bd _⟩
theorem mv_map {g : Sample → Int} (h : ∀ i x, g (f i x) = g x) : (mvL f l).map g = l.map g := by
  unfold mvL
  rw [List.map_map, map_idx (f := g) (d := zSm) l]
  exact List.map_congr_left fun i _ => h i _
theorem mv_ok (hk : Keeps f) (hs : ∀ x ∈ l, smpOk x) : ∀ x ∈ mvL f l, smpOk x := fun x hx => by
  unfold mvL at hx
  obtain ⟨i, hi, rfl⟩ := List.mem_map.1 hx
  rw [List.mem_range] at hi
  have h1 := hs _ (getD_mem (d := zSm) hi)
  obtain ⟨e1, e2, e3, e4⟩ := hk i (l.getD i zSm)
  unfold smpOk at h1 ⊢
  rw [e1, e2]
  exact ⟨h1.1, h1.2.1, e3, e4⟩
theorem mv_pow (hk : Keeps f) : pow0 r (mvL f l) = pow0 r l ∧ pow1 r (mvL f l) = pow1 r l ∧ mtchS r (mvL f l) = mtchS r l := by
  have a : ∀ m, sumH m (mvL f l) = sumH m l := fun m => by unfold sumH; rw [mv_map (g := fun x => sq m x.h) fun i x => by rw [(hk i x).1]]
  have b : ∀ m, sumV m (mvL f l) = sumV m l := fun m => by unfold sumV; rw [mv_map (g := fun x => sq m x.v) fun i x => by rw [(hk i x).2.1]]
  have c : ∀ m, sumX m (mvL f l) = sumX m l := fun m => by unfold sumX; rw [mv_map (g := fun x => max 0 (x.h + m) * max 0 (x.v + m)) fun i x => by rw [(hk i x).1, (hk i x).2.1]]
  unfold pow0 pow1 mtchS
  rw [a, a, b, b, c, c, mv_len]
  exact ⟨rfl, rfl, rfl⟩
theorem mv_st {g : Int → Int} {k w : Int} (h : ∀ i x y, wr ((f (i + 1) y).p - (f i x).p) = g (wr (y.p - x.p))) : stL k (mvL f l) w = (stL k l w).map g := by
  rw [stL_I, stL_I, mv_len, List.map_map]
  refine List.map_congr_left fun i hi => ?_
  have := stI_lt hi
  unfold stD
  rw [mv_get this, mv_get (by omega), h]
  rfl
theorem mv_turn {g : Int → Int} (h : ∀ i x, wr ((f i x).q - (f i x).p) = g (wr (x.q - x.p))) : turnL (mvL f l) = (turnL l).map g := by
  rw [turnL_I, turnL_I, mv_len, List.map_map]
  refine List.map_congr_left fun i hi => ?_
  rw [List.mem_range] at hi
  unfold turnD
  rw [mv_get hi, h]
  rfl
theorem stA {m k w : Int} : stL k (mvL (fA m) l) w = stL k l w := (mv_st (g := id) fun i x y => by unfold fA; dsimp only [id]; unfold wr; omega).trans (List.map_id _)
theorem tuA {m : Int} : turnL (mvL (fA m) l) = turnL l := (mv_turn (g := id) fun i x => by unfold fA; dsimp only [id]; unfold wr; omega).trans (List.map_id _)
theorem stB {m k w : Int} : stL k (mvL (fB m) l) w = rotL m (stL k l w) := mv_st (g := fun d => wr (d + m)) fun i x y => by
  unfold fB; dsimp only
  rw [show ((i + 1 : Nat) : Int) * m = (i : Int) * m + m by rw [Int.natCast_add, Int.add_mul]; simp]
  generalize (i : Int) * m = z
  unfold wr; omega
theorem tuB {m : Int} : turnL (mvL (fB m) l) = turnL l := (mv_turn (g := id) fun i x => by
  unfold fB; dsimp only [id]
  generalize (i : Int) * m = z
  unfold wr; omega).trans (List.map_id _)
theorem stC {k w : Int} : stL k (mvL fC l) w = mirL (stL k l w) := mv_st (g := fun d => wr (-d)) fun i x y => by unfold fC; dsimp only; unfold wr; omega
theorem tuC : turnL (mvL fC l) = mirL (turnL l) := mv_turn (g := fun d => wr (-d)) fun i x => by unfold fC; dsimp only; unfold wr; omega
theorem tog_rot {s : List Int} {k p : Int} : tog (rotL k s) p ↔ tog s p := by
  unfold tog
  by_cases h : s = []
  · subst h; simp [rotL]
  · rw [(rot_wid h).1]; simp [h, rot_ne h]
theorem tog_mir {s : List Int} {p : Int} (hT : ∀ x ∈ s, inT x) : tog (mirL s) p ↔ tog s p := by
  unfold tog
  by_cases h : s = []
  · subst h; simp [mirL]
  · rw [mir_wid h hT]; simp [h, mir_ne h]
theorem wid_rot {s : List Int} {k : Int} : wid (rotL k s) = wid s := by
  unfold wid
  by_cases h : s = []
  · subst h; rfl
  · rw [if_neg h, if_neg (rot_ne h), (rot_wid h).1]
theorem wid_mir {s : List Int} (hT : ∀ x ∈ s, inT x) : wid (mirL s) = wid s := by
  unfold wid
  by_cases h : s = []
  · subst h; rfl
  · rw [if_neg h, if_neg (mir_ne h), mir_wid h hT]
theorem stL_ne (hb : kndOk t.kind ∧ trainOk t) (hc : (l.length : Int) = t.count) : stL t.kind l 0 ≠ [] ∧ (t.kind ≠ 1 → stL t.kind l 1 ≠ []) ∧ (t.kind = 1 → stL t.kind l 1 = []) := by
  obtain ⟨hk, ht⟩ := hb
  unfold kndOk at hk
  unfold trainOk at ht
  have mem : ∀ (i : Nat) (w : Int), i + 1 < l.length → stW t.kind l.length i = w → stL t.kind l w ≠ [] := fun i w hi hw q => by
    rw [stL_I, List.map_eq_nil_iff] at q
    have : i ∈ stI t.kind l.length w := List.mem_filter.2 ⟨List.mem_range.2 (by omega), by simp [hw]⟩
    rw [q] at this; cases this
  refine ⟨mem 0 0 (by omega) ?_, fun h => ?_, fun h => ?_⟩
  · unfold stW
    rcases hk with h | h | h
    · rw [if_pos h]
    · rw [if_neg (by omega), if_pos h, if_neg (by omega), if_neg (by omega)]
    · rw [if_neg (by omega), if_neg (by omega)]; rfl
  · rcases hk with h | h | h
    · contradiction
    · refine mem (l.length / 2) 1 (by omega) ?_
      unfold stW
      rw [if_neg (by omega), if_pos h, if_neg (by omega), if_pos (by omega)]
    · refine mem 1 1 (by omega) ?_
      unfold stW
      rw [if_neg (by omega), if_neg (by omega)]; rfl
  · rw [stL_I, List.map_eq_nil_iff]
    unfold stI
    refine List.filter_eq_nil_iff.2 fun i _ => ?_
    unfold stW
    rw [if_pos h]; simp
end

def clr (x : Echo) : Echo := { x with s0 := zs, s1 := zs, turn := zs }
/-- What turned samples are heard as. -/
structure TurnedP (t : Train) (x a b c : Echo) (run : Int) : Prop where
  a : a = x
  kb : b.kind = x.kind
  kc : c.kind = x.kind
  tb : b.turn = x.turn
  eb : clr b = clr x
  ec : clr c = clr x
  ok : x.kind = 3 → turnS x.s0 ∧ turnS x.s1 ∧ turnS x.turn ∧ turnS b.s0 ∧ turnS b.s1 ∧ turnS c.s0 ∧ turnS c.s1 ∧ turnS c.turn
  b0 : x.kind = 3 → eqS b.s0 ⟨x.s0.lo + run, x.s0.hi + run⟩
  c0 : x.kind = 3 → eqS c.s0 ⟨-x.s0.hi, -x.s0.lo⟩
  one : x.kind = 3 → t.kind = 1 → b.s1 = x.s1 ∧ c.s1 = x.s1
  b1 : x.kind = 3 → t.kind ≠ 1 → eqS b.s1 ⟨x.s1.lo + run, x.s1.hi + run⟩
  c1 : x.kind = 3 → t.kind ≠ 1 → eqS c.s1 ⟨-x.s1.hi, -x.s1.lo⟩
  ct : x.kind = 3 → eqS c.turn ⟨-x.turn.hi, -x.turn.lo⟩
theorem slk_len {t : Train} {r : Recv} {s s' : List Int} (h : s'.length = s.length) : slk t r s' = slk t r s := by unfold slk; rw [h]
theorem slk_bd5 {t : Train} {r : Recv} {s : List Int} (hr : recvOk r) (hs : s ≠ []) : 0 ≤ slk t r s ∧ slk t r s ≤ 8192 * (s.length : Int) := by
  have hn : 0 < (s.length : Int) := by cases s with | nil => exact absurd rfl hs | cons => simp
  unfold recvOk at hr
  unfold slk
  by_cases h3 : t.kind = 3
  · rw [if_pos h3]
    exact ⟨Int.mul_nonneg (by omega) (by omega), Int.mul_le_mul_of_nonneg_right (by omega) (by omega)⟩
  · rw [if_neg h3]; omega
theorem turned_all {t : Train} {r : Recv} {l : List Sample} {more run : Int} (h : hearE t r l = 0) (k0 : 0 ≤ run) (k1 : run ≤ 65535) :
    hearE t r (mvL (fA more) l) = 0 ∧ hearE t r (mvL (fB run) l) = 0 ∧ hearE t r (mvL fC l) = 0 ∧
    TurnedP t (hearR t r l) (hearR t r (mvL (fA more) l)) (hearR t r (mvL (fB run) l)) (hearR t r (mvL fC l)) run := by
  obtain ⟨hb, hr, hc, hs⟩ := hear_0 h
  have hE : ∀ {f : Nat → Sample → Sample}, Keeps f → hearE t r (mvL f l) = 0 := fun hk => rhE hb hr (fun q => q (by rw [mv_len]; exact hc)) (mv_ok hk hs)
  refine ⟨hE (kA _), hE (kB _), hE kC, ?_⟩
  rw [hear_R h, hear_R (hE (kA _)), hear_R (hE (kB _)), hear_R (hE kC)]
  have ht := hb.2
  unfold trainOk at ht
  have hn : 0 < (l.length : Int) := by omega
  obtain ⟨A1, A2, A3⟩ := mv_pow (l := l) (r := r) (kA more)
  obtain ⟨B1, B2, B3⟩ := mv_pow (l := l) (r := r) (kB run)
  obtain ⟨C1, C2, C3⟩ := mv_pow (l := l) (r := r) kC
  have gA : goodT t r (mvL (fA more) l) ↔ goodT t r l := by unfold goodT; rw [tuA, stA, stA]
  have gB : goodT t r (mvL (fB run) l) ↔ goodT t r l := by unfold goodT; rw [tuB, stB, stB, tog_rot, tog_rot]
  have gC : goodT t r (mvL fC l) ↔ goodT t r l := by unfold goodT; rw [tuC, stC, stC, tog_mir (turnL_inT l), tog_mir (stL_inT _ l _), tog_mir (stL_inT _ l _)]
  have sA : spreadL t (mvL (fA more) l) = spreadL t l := by unfold spreadL; rw [stA, stA]
  have sB : spreadL t (mvL (fB run) l) = spreadL t l := by unfold spreadL; rw [stB, stB, wid_rot, wid_rot]
  have sC : spreadL t (mvL fC l) = spreadL t l := by unfold spreadL; rw [stC, stC, wid_mir (stL_inT _ l _), wid_mir (stL_inT _ l _)]
  have hA : hearX t r (mvL (fA more) l) = hearX t r l := by
    unfold hearX
    simp only [A1, A2, A3, gA, sA, stA, tuA, mv_len]
  by_cases hz : (pow0 r l).lo = 0
  · have eb := hearX_1 (t := t) (r := r) (l := mvL (fB run) l) (by rw [B1]; exact hz)
    have ec := hearX_1 (t := t) (r := r) (l := mvL fC l) (by rw [C1]; exact hz)
    have ex := hearX_1 (t := t) hz
    rw [B1] at eb
    rw [C1] at ec
    rw [hA, eb, ec, ex]
    have no : ∀ {p : Prop}, ({ zE with kind := 1, power := pow0 r l } : Echo).kind = 3 → p := fun q => absurd (show (1 : Int) = 3 from q) (by decide)
    exact ⟨rfl, rfl, rfl, rfl, rfl, rfl, no, no, no, no, no, no, no⟩
  · by_cases g : goodT t r l
    · have eb := hearX_3 (t := t) (r := r) (l := mvL (fB run) l) (by rw [B1]; exact hz) (gB.2 g)
      have ec := hearX_3 (t := t) (r := r) (l := mvL fC l) (by rw [C1]; exact hz) (gC.2 g)
      have ex := hearX_3 hz g
      rw [B1, B2, B3, sB, stB, stB, tuB, mv_len] at eb
      rw [C1, C2, C3, sC, stC, stC, tuC, mv_len] at ec
      rw [hA, eb, ec, ex]
      obtain ⟨n0, n1, n2⟩ := stL_ne hb hc
      have ntu : turnL l ≠ [] := fun q => by
        have : (turnL l).length = l.length := List.length_map ..
        rw [q] at this; simp at this; omega
      have ltu : ((turnL l).length : Int) = l.length := by
        have : (turnL l).length = l.length := List.length_map ..
        rw [this]
      obtain ⟨g1, g2, g3⟩ := g
      have hr2 := hr
      unfold recvOk at hr2
      have w0 : (arcR (stL t.kind l 0)).2 < 32768 := by have := g2.resolve_left n0; omega
      have w1 : stL t.kind l 1 ≠ [] → (arcR (stL t.kind l 1)).2 < 32768 := fun q => by have := g3.resolve_left q; omega
      have wt : (arcR (turnL l)).2 < 32768 := by have := g1.resolve_left ntu; omega
      have rl : ∀ s : List Int, slk t r (rotL run s) = slk t r s := fun s => slk_len (List.length_map ..)
      have ml : ∀ s : List Int, slk t r (mirL s) = slk t r s := fun s => slk_len (List.length_map ..)
      have s0 := slk_bd5 (t := t) hr n0
      have st0 : 0 ≤ 2 * r.phase * (l.length : Int) := Int.mul_nonneg (by omega) (by omega)
      have st1 : 2 * r.phase * (l.length : Int) ≤ 8192 * ((turnL l).length : Int) := by rw [ltu]; exact Int.mul_le_mul_of_nonneg_right (by omega) (by omega)
      have mok : ∀ s : List Int, turnS (meanS s (slk t r s)) := fun s => by
        by_cases q : s = []
        · subst q; rw [meanS_nil]; decide
        · have := slk_bd5 (t := t) hr q
          exact mean_ok this.1 (fun _ => this.2)
      rw [rl, rl, ml, ml]
      have mokr : ∀ s : List Int, turnS (meanS (rotL run s) (slk t r s)) := fun s => by rw [← rl]; exact mok _
      have mokm : ∀ s : List Int, turnS (meanS (mirL s) (slk t r s)) := fun s => by rw [← ml]; exact mok _
      refine ⟨rfl, rfl, rfl, rfl, rfl, rfl, fun _ => ⟨mok _, mok _, mean_ok st0 fun _ => st1, mokr _, mokr _, mokm _, mokm _, mean_ok st0 fun _ => ?_⟩, fun _ => rot_mean n0 w0 s0.1 s0.2 k0 k1, fun _ => mir_mean n0 (stL_inT _ l _) w0 s0.1 s0.2, fun _ h1 => ?_, fun _ h1 => ?_, fun _ h1 => ?_, fun _ => mir_mean ntu (turnL_inT l) wt st0 st1⟩
      · rw [show (mirL (turnL l)).length = (turnL l).length from List.length_map ..]; exact st1
      · rw [n2 h1]; exact ⟨rfl, rfl⟩
      · have s1 := slk_bd5 (t := t) hr (n1 h1)
        exact rot_mean (n1 h1) (w1 (n1 h1)) s1.1 s1.2 k0 k1
      · have s1 := slk_bd5 (t := t) hr (n1 h1)
        exact mir_mean (n1 h1) (stL_inT _ l _) (w1 (n1 h1)) s1.1 s1.2
    · have eb := hearX_2 (t := t) (r := r) (l := mvL (fB run) l) (by rw [B1]; exact hz) (fun q => g (gB.1 q))
      have ec := hearX_2 (t := t) (r := r) (l := mvL fC l) (by rw [C1]; exact hz) (fun q => g (gC.1 q))
      have ex := hearX_2 hz g
      rw [B1, B2, B3, sB] at eb
      rw [C1, C2, C3, sC] at ec
      rw [hA, eb, ec, ex]
      have no : ∀ {p : Prop}, (2 : Int) = 3 → p := fun q => absurd q (by decide)
      exact ⟨rfl, rfl, rfl, rfl, rfl, rfl, no, no, no, no, no, no, no⟩

end Go.Proofs.Ytcnlhifkablmkaa
