/-
  The histories of areas, map by map, in plain Lean.
  The histories of areas: what a further map makes of them, in plain Lean.
  The histories of areas: those that begin with a map, in plain Lean.
  Events that are found are as histories need them, in plain Lean.
  Empty literals among blocks whose order is open.
  What a reading says of the statements' arguments.
-/
import Derived.Test.YtgemekpofpoopaaKPAI02

set_option linter.unusedSimpArgs false
namespace Go.Proofs.Ytgemekpofpoopaa
open Go.SL Go.Cell
set_option linter.unusedVariables false
def zEv : EvM := ⟨0, [], []⟩
/-- The event in front of a map that has an area, and the one behind it. -/
def bef (es : List EvM) (j : Nat) : EvM := (es.find? fun e => decide (j ∈ e.t)).getD zEv
def beh (es : List EvM) (i : Nat) : EvM := (es.find? fun e => decide (i ∈ e.f)).getD zEv
structure GoodEv (n m : Nat) (es : List EvM) : Prop where
  kd : ∀ e, e ∈ es → e.kd = kindM e.f.length e.t.length ∧ 0 < e.f.length + e.t.length
  fs : ∀ e, e ∈ es → e.f.Pairwise (· < ·) ∧ ∀ i, i ∈ e.f → i < n
  ts : ∀ e, e ∈ es → e.t.Pairwise (· < ·) ∧ ∀ j, j ∈ e.t → j < m
  apart : es.Pairwise fun a b => (∀ i, i ∈ a.f → i ∉ b.f) ∧ ∀ j, j ∈ a.t → j ∉ b.t
  allF : ∀ i, i < n → ∃ e, e ∈ es ∧ i ∈ e.f
  allT : ∀ j, j < m → ∃ e, e ∈ es ∧ j ∈ e.t
section
variable {n m i j k : Nat} {es es' : List EvM} {e : EvM}
theorem kind_one {a b : Nat} (h : kindM a b = 4) : a = 1 ∧ b = 1 := by
  unfold kindM at h
  repeat' split at h
  all_goals first | omega | (exact absurd h (by decide))
theorem kind_rng (a b : Nat) : 2 ≤ kindM a b ∧ kindM a b ≤ 7 := by
  unfold kindM
  by_cases h1 : a = 0 <;> by_cases h2 : b = 0 <;> by_cases h3 : a = 1 <;> by_cases h4 : b = 1 <;> simp [h1, h2, h3, h4]
theorem one_list {l : List Nat} (h : l.length = 1) : l = [l.headD 0] := by
  cases l with
  | nil => simp at h
  | cons a l => cases l with
    | nil => rfl
    | cons b l => simp at h
theorem GoodEv.kept (h : GoodEv n m es) (he : e ∈ es) (hk : e.kd = 4) : e.f = [e.f.headD 0] ∧ e.t = [e.t.headD 0] := by
  rw [(h.kd e he).1] at hk
  exact ⟨one_list (kind_one hk).1, one_list (kind_one hk).2⟩
theorem GoodEv.uniqF (h : GoodEv n m es) {a b : EvM} (ha : a ∈ es) (hb : b ∈ es) (h1 : i ∈ a.f) (h2 : i ∈ b.f) : a = b := by
  obtain ⟨x, hx, rfl⟩ := List.mem_iff_getElem.1 ha
  obtain ⟨y, hy, rfl⟩ := List.mem_iff_getElem.1 hb
  have hp := List.pairwise_iff_getElem.1 h.apart
  rcases Nat.lt_trichotomy x y with z | z | z
  · exact absurd h2 ((hp x y hx hy z).1 i h1)
  · subst z; rfl
  · exact absurd h1 ((hp y x hy hx z).1 i h2)
theorem GoodEv.uniqT (h : GoodEv n m es) {a b : EvM} (ha : a ∈ es) (hb : b ∈ es) (h1 : j ∈ a.t) (h2 : j ∈ b.t) : a = b := by
  obtain ⟨x, hx, rfl⟩ := List.mem_iff_getElem.1 ha
  obtain ⟨y, hy, rfl⟩ := List.mem_iff_getElem.1 hb
  have hp := List.pairwise_iff_getElem.1 h.apart
  rcases Nat.lt_trichotomy x y with z | z | z
  · exact absurd h2 ((hp x y hx hy z).2 j h1)
  · subst z; rfl
  · exact absurd h1 ((hp y x hy hx z).2 j h2)
theorem find_uniq {P : EvM → Bool} (he : e ∈ es) (hp : P e = true) (hu : ∀ a, a ∈ es → P a = true → a = e) : es.find? P = some e := by
  cases h : es.find? P with
  | none => exact absurd hp (by simpa using List.find?_eq_none.1 h e he)
  | some a => rw [hu a (List.mem_of_find?_eq_some h) (List.find?_some h)]
theorem GoodEv.beh_eq (h : GoodEv n m es) (he : e ∈ es) (hi : i ∈ e.f) : beh es i = e := by
  unfold beh; rw [find_uniq he (decide_eq_true hi) fun a ha hp => h.uniqF ha he (of_decide_eq_true hp) hi]; rfl
theorem GoodEv.bef_eq (h : GoodEv n m es) (he : e ∈ es) (hj : j ∈ e.t) : bef es j = e := by
  unfold bef; rw [find_uniq he (decide_eq_true hj) fun a ha hp => h.uniqT ha he (of_decide_eq_true hp) hj]; rfl
theorem GoodEv.beh_mem (h : GoodEv n m es) (hi : i < n) : beh es i ∈ es ∧ i ∈ (beh es i).f := by
  obtain ⟨e, he, hie⟩ := h.allF i hi
  rw [h.beh_eq he hie]; exact ⟨he, hie⟩
theorem GoodEv.bef_mem (h : GoodEv n m es) (hj : j < m) : bef es j ∈ es ∧ j ∈ (bef es j).t := by
  obtain ⟨e, he, hje⟩ := h.allT j hj
  rw [h.bef_eq he hje]; exact ⟨he, hje⟩
theorem beh_none (h : ∀ e, e ∈ es → i ∉ e.f) : beh es i = zEv := by
  unfold beh; rw [List.find?_eq_none.2 fun e he => by simpa using h e he]; rfl
theorem beh_app : beh (es ++ [e]) i = if (∃ a, a ∈ es ∧ i ∈ a.f) then beh es i else if i ∈ e.f then e else zEv := by
  unfold beh
  rw [List.find?_append]
  split
  · rename_i h
    obtain ⟨a, ha, hi⟩ := h
    cases hq : es.find? (fun e => decide (i ∈ e.f)) with
    | none => exact absurd (decide_eq_true hi) (by simpa using List.find?_eq_none.1 hq a ha)
    | some b => rfl
  · rename_i h
    rw [List.find?_eq_none.2 fun a ha => by simpa using fun hi => h ⟨a, ha, hi⟩]
    split
    · rename_i q; simp [q]
    · rename_i q; simp [q]
end
/-- A history. -/
structure TkM where
  bg : Int
  fr : Nat
  ar : List Nat
  en : Int
  pa : List Nat
  ch : List Nat
def TkM.last (t : TkM) : Nat := t.ar.getD (t.ar.length - 1) 0
def TkM.up (t : TkM) : Nat := t.fr + t.ar.length
/-- What an event makes of a history that ends in front of it. -/
def chE (e : EvM) (t : TkM) : TkM := if e.kd = 4 then { t with ar := t.ar ++ [e.t.headD 0] } else { t with en := e.kd }
def chgB (N : Nat) (es : List EvM) (t : TkM) : TkM := if t.up = N then chE (beh es t.last) t else t
def cut (e : EvM) (j : Nat) : EvM := { e with f := e.f.take j }
section
variable {N n i j k k0 a : Nat} {es es' : List EvM} {e : EvM} {t : TkM} {tk tk0 : List TkM} {of of0 : Nat × Nat → Option Nat}
theorem chE_z (h : t.en = 0) : chE zEv t = t := by
  unfold chE; rw [if_neg (by decide)]; cases t; simp [zEv] at h ⊢; exact h.symm
/-- What holds of the histories of 'N' maps. -/
structure TK0 (N : Nat) (tk : List TkM) (of : Nat × Nat → Option Nat) : Prop where
  ofi : ∀ n i k, of (n, i) = some k ↔ ∃ t, tk[k]? = some t ∧ t.fr ≤ n ∧ t.ar[n - t.fr]? = some i
  pos : ∀ t, t ∈ tk → 0 < t.ar.length ∧ t.up ≤ N
  en : ∀ t, t ∈ tk → t.up = N → t.en = 0
theorem tk_last (h : 0 < t.ar.length) : t.ar[t.ar.length - 1]? = some t.last := by
  unfold TkM.last; rw [List.getD_eq_getElem?_getD, List.getElem?_eq_getElem (by omega)]; rfl
theorem TK0.lt (h : TK0 N tk of) {n i : Nat} (hs : of (n, i) = some k) : n < N ∧ k < tk.length := by
  obtain ⟨t, h1, h2, h3⟩ := (h.ofi n i k).1 hs
  have h4 := (h.pos t (List.mem_of_getElem? h1)).2
  unfold TkM.up at h4
  have h5 := (List.getElem?_eq_some_iff.1 h3).1
  exact ⟨by omega, (List.getElem?_eq_some_iff.1 h1).1⟩
/-- The history that ends with an area of the last map. -/
theorem TK0.at (h : TK0 (N + 1) tk of) (hk : of (N, a) = some k0) : ∃ t, tk[k0]? = some t ∧ t.up = N + 1 ∧ t.last = a := by
  obtain ⟨t, h1, h2, h3⟩ := (h.ofi N a k0).1 hk
  have h4 := h.pos t (List.mem_of_getElem? h1)
  unfold TkM.up at h4
  have h5 := (List.getElem?_eq_some_iff.1 h3).1
  have e : N - t.fr = t.ar.length - 1 := by omega
  refine ⟨t, h1, by unfold TkM.up; omega, ?_⟩
  rw [e, tk_last h4.1] at h3
  exact Option.some.inj h3
theorem TK0.only (h : TK0 (N + 1) tk of) (hk : of (N, a) = some k0) (hi : tk[i]? = some t) (hu : t.up = N + 1) (hl : t.last = a) : i = k0 := by
  have hp := h.pos t (List.mem_of_getElem? hi)
  have : of (N, a) = some i := (h.ofi N a i).2 ⟨t, hi, by unfold TkM.up at hu; omega, by
    have e : N - t.fr = t.ar.length - 1 := by unfold TkM.up at hu; omega
    rw [e, tk_last hp.1, hl]⟩
  rw [hk] at this
  exact (Option.some.inj this).symm
theorem cut_zero (h : ∀ t, t ∈ tk → t.up = N → t.en = 0) : tk.map (chgB N (es ++ [cut e 0])) = tk.map (chgB N es) := by
  refine List.map_congr_left fun t ht => ?_
  unfold chgB
  split
  · rw [beh_app]
    split
    · rfl
    · rename_i q
      rw [if_neg (by simp [cut]), beh_none fun a ha hi => q ⟨a, ha, hi⟩]
  · rfl
theorem cut_all : cut e e.f.length = e := by unfold cut; rw [List.take_length]
theorem chg_nil (h : ∀ t, t ∈ tk → t.up = N → t.en = 0) : tk.map (chgB N []) = tk := by
  conv => rhs; rw [← List.map_id tk]
  refine List.map_congr_left fun t ht => ?_
  unfold chgB
  split
  · rename_i q; rw [beh_none (by simp)]; exact chE_z (h t ht q)
  · rfl
/-- One more area of an event. -/
theorem chg_step (h : TK0 (N + 1) tk of) (hk : of (N, a) = some k0) (ha : e.f[j]? = some a) (hn : e.f.Nodup) (hes : ∀ x, x ∈ es → a ∉ x.f) :
    (tk.map (chgB (N + 1) (es ++ [cut e j]))).modify k0 (chE e) = tk.map (chgB (N + 1) (es ++ [cut e (j + 1)])) := by
  refine List.ext_getElem? fun i => ?_
  rw [List.getElem?_modify, List.getElem?_map, List.getElem?_map]
  cases ht : tk[i]? with
  | none => by_cases q : k0 = i <;> simp [q]
  | some t =>
    obtain ⟨hj, rfl⟩ := List.getElem?_eq_some_iff.1 ha
    have htake : ∀ x, x ∈ (cut e (j + 1)).f ↔ x ∈ (cut e j).f ∨ x = e.f[j] := fun x => by
      unfold cut
      show x ∈ e.f.take (j + 1) ↔ x ∈ e.f.take j ∨ _
      rw [List.take_succ_eq_append_getElem hj, List.mem_append, List.mem_singleton]
    have hnot : e.f[j] ∉ (cut e j).f := fun hm => by
      obtain ⟨x, hx, hx2⟩ := List.mem_iff_getElem.1 hm
      have hx3 : x < j := by
        have : x < (e.f.take j).length := hx
        rw [List.length_take] at this; omega
      have hx4 : e.f[x]'(by omega) = e.f[j] := by
        rw [← hx2]
        have hx' : x < (e.f.take j).length := hx
        have : (e.f.take j)[x]'hx' = e.f[x]'(by omega) := List.getElem_take
        exact this.symm
      exact List.pairwise_iff_getElem.1 hn x j (by omega) hj hx3 hx4
    simp only [Option.map_some]
    by_cases q : k0 = i
    · subst q
      obtain ⟨t', h1, h2, h3⟩ := h.at hk
      rw [ht] at h1; cases h1
      have he0 := h.en t (List.mem_of_getElem? ht) h2
      have hes' : ¬ ∃ x, x ∈ es ∧ e.f[j] ∈ x.f := fun ⟨x, hx, hx2⟩ => hes x hx hx2
      have b1 : beh (es ++ [cut e j]) t.last = zEv := by rw [h3, beh_app, if_neg hes', if_neg hnot]
      have b2 : beh (es ++ [cut e (j + 1)]) t.last = cut e (j + 1) := by rw [h3, beh_app, if_neg hes', if_pos ((htake _).2 (.inr rfl))]
      have e1 : chgB (N + 1) (es ++ [cut e j]) t = t := by unfold chgB; rw [if_pos h2, b1, chE_z he0]
      have e2 : chgB (N + 1) (es ++ [cut e (j + 1)]) t = chE e t := by unfold chgB; rw [if_pos h2, b2]; rfl
      simp only [if_true, e1, e2]; rfl
    · simp only [q, if_false]
      have key : chgB (N + 1) (es ++ [cut e j]) t = chgB (N + 1) (es ++ [cut e (j + 1)]) t := by
        unfold chgB
        split
        · rename_i hu
          have hla : t.last ≠ e.f[j] := fun z => q (h.only hk ht hu z).symm
          rw [beh_app, beh_app]
          split
          · rfl
          · by_cases z : t.last ∈ (cut e j).f
            · rw [if_pos z, if_pos ((htake _).2 (.inl z))]; rfl
            · rw [if_neg z, if_neg fun y => ((htake _).1 y).elim z hla]
        · rfl
      rw [key]; rfl
/-! ### Which history has an area -/
def ofC (N : Nat) (es : List EvM) (of0 : Nat × Nat → Option Nat) (x : Nat × Nat) : Option Nat :=
  if x.1 = N + 1 then ((es.find? fun e => decide (e.kd = 4) && decide (x.2 ∈ e.t)).bind fun e => of0 (N, e.f.headD 0)) else of0 x
theorem ofC_nil (h : TK0 (N + 1) tk of) : ofC N [] of = of := by
  funext x
  unfold ofC
  split
  · rename_i q
    cases hz : of x with
    | none => rfl
    | some k => have := (h.lt (n := x.1) (i := x.2) hz).1; omega
  · rfl
theorem ofC_old {i : Nat} : ofC N es of0 (N, i) = of0 (N, i) := if_neg (Nat.ne_of_lt (Nat.lt_succ_self N))
theorem ofC_skip (h : e.kd ≠ 4) : ofC N (es ++ [e]) of0 = ofC N es of0 := by
  funext x
  unfold ofC
  split
  · rw [List.find?_append]; simp [h]
  · rfl
theorem ofC_take {b : Nat} (hk : e.kd = 4) (hb : e.t = [b]) (h0 : of0 (N, e.f.headD 0) = some k0) (hes : ∀ x, x ∈ es → b ∉ x.t) : updG (ofC N es of0) (N + 1, b) k0 = ofC N (es ++ [e]) of0 := by
  funext x
  obtain ⟨x1, x2⟩ := x
  unfold updG ofC
  by_cases q : x1 = N + 1
  · subst q
    simp only [if_true]
    rw [List.find?_append]
    by_cases z : x2 = b
    · subst z
      rw [if_pos rfl, List.find?_eq_none.2 fun a ha => by simp [hes a ha]]
      simp [hk, hb, h0]
      simp [← h0]
    · rw [if_neg (by simp [z])]
      cases hq : es.find? (fun e => decide (e.kd = 4) && decide (x2 ∈ e.t)) with
      | some a => rfl
      | none => simp [hb, z]
  · rw [if_neg (by simp [q]), if_neg q, if_neg q]
end
end Go.Proofs.Ytgemekpofpoopaa

namespace Go.Proofs.Ytgemekpofpoopaa
open Go.SL Go.Cell
set_option linter.unusedVariables false
def zT : TkM := ⟨0,0, [], 0, [], []⟩
def newB (N : Nat) (evs : List EvM) (j : Nat) : Bool := decide (N = 0 ∨ (bef evs j).kd ≠ 4)
def trB (N : Nat) (evs : List EvM) (ps : List Nat) (j : Nat) : TkM := ⟨if N = 0 then 1 else (bef evs j).kd, N, [j], 0, ps, []⟩
def addCh (tk : List TkM) (ps : List Nat) (n : Nat) : List TkM := tk.mapIdx fun p t => if p ∈ ps then { t with ch := t.ch ++ [n] } else t
def parB (tk : List TkM) (N : Nat) (f : List Nat) : List Nat := (List.range tk.length).filter fun p => decide ((tk.getD p zT).up = N ∧ (tk.getD p zT).last ∈ f)
def parOf (tk : List TkM) (N : Nat) (evs : List EvM) (j : Nat) : List Nat := if N = 0 then [] else parB tk N (bef evs j).f
def lnkT (evss : List (List EvM)) (x y : TkM) : Bool := decide (x.up = y.fr ∧ 0 < y.fr ∧ x.last ∈ (bef (evss.getD y.fr []) (y.ar.headD 0)).f)
structure TInvQ (evss : List (List EvM)) (ms : List Nat) (j : Nat) (tk : List TkM) (of : Nat × Nat → Option Nat) : Prop where
  base : TK0 ms.length tk of
  len : evss.length = ms.length
  tot : ∀ n i, n < ms.length → i < ms.getD n 0 → (n + 1 < ms.length ∨ i < j ∨ newB n (evss.getD n []) i = false) → ∃ k, of (n, i) = some k
  hd : ∀ t, t ∈ tk → t.fr + 1 = ms.length → t.ar.headD 0 < j
  rng : ∀ t, t ∈ tk → ∀ (j a : Nat), t.ar[j]? = some a → a < ms.getD (t.fr + j) 0
  bg : ∀ t, t ∈ tk → (t.fr = 0 ∧ t.bg = 1) ∨ (0 < t.fr ∧ t.bg = (bef (evss.getD t.fr []) (t.ar.headD 0)).kd ∧ t.bg ≠ 4)
  step : ∀ t, t ∈ tk → ∀ (j a b : Nat), t.ar[j]? = some a → t.ar[j + 1]? = some b → (beh (evss.getD (t.fr + j + 1) []) a).kd = 4 ∧ (beh (evss.getD (t.fr + j + 1) []) a).t = [b]
  en : ∀ t, t ∈ tk → t.en = (if t.up = ms.length then 0 else (beh (evss.getD t.up []) t.last).kd) ∧ t.en ≠ 4
  ord : tk.Pairwise fun a b => a.fr < b.fr ∨ a.fr = b.fr ∧ a.ar.headD 0 < b.ar.headD 0
  pa : ∀ (k : Nat) (t : TkM), tk[k]? = some t → t.pa = (List.range tk.length).filter fun i => lnkT evss (tk.getD i zT) t
  ch : ∀ (k : Nat) (t : TkM), tk[k]? = some t → t.ch = (List.range tk.length).filter fun i => lnkT evss t (tk.getD i zT)
structure TInv (evss : List (List EvM)) (ms : List Nat) (tk : List TkM) (of : Nat × Nat → Option Nat) : Prop where
  q : TInvQ evss ms (ms.getD (ms.length - 1) 0) tk of
theorem TInv.zero : TInv [] [] [] (fun _ => none) := ⟨⟨⟨fun n i k => by simp, by simp, by simp⟩, rfl, fun n i h => absurd h (Nat.not_lt_zero _), by simp, by simp, by simp, by simp, by simp, by simp, fun k t h => by simp at h, fun k t h => by simp at h⟩⟩
section
variable {evss : List (List EvM)} {ms : List Nat} {evs : List EvM} {N m j k : Nat} {tk : List TkM} {of : Nat × Nat → Option Nat} {t : TkM}
theorem getD_app1 {α : Type} {l : List α} {x d : α} {i : Nat} (h : i < l.length) : (l ++ [x]).getD i d = l.getD i d := by
  rw [List.getD_eq_getElem?_getD, List.getD_eq_getElem?_getD, List.getElem?_append_left h]
theorem getD_app2 {α : Type} {l : List α} {x d : α} : (l ++ [x]).getD l.length d = x := by
  rw [List.getD_eq_getElem?_getD, List.getElem?_append_right (Nat.le_refl _), Nat.sub_self]; rfl
theorem getD_of {α : Type} {l : List α} {d x : α} {i : Nat} (h : l[i]? = some x) : l.getD i d = x := by rw [List.getD_eq_getElem?_getD, h]; rfl
theorem head_app {l : List Nat} {b : Nat} (h : 0 < l.length) : (l ++ [b]).headD 0 = l.headD 0 := by cases l with | nil => simp at h | cons a l => rfl
theorem head_at {l : List Nat} (h : 0 < l.length) : l[0]? = some (l.headD 0) := by cases l with | nil => simp at h | cons a l => rfl
/-- A history behind the change of a map. -/
theorem chg_cases (N : Nat) (evs : List EvM) (t : TkM) : (t.up ≠ N ∧ chgB N evs t = t) ∨ (t.up = N ∧ (beh evs t.last).kd = 4 ∧ chgB N evs t = { t with ar := t.ar ++ [(beh evs t.last).t.headD 0] }) ∨ (t.up = N ∧ (beh evs t.last).kd ≠ 4 ∧ chgB N evs t = { t with en := (beh evs t.last).kd }) := by
  unfold chgB chE
  by_cases h : t.up = N
  · rw [if_pos h]
    by_cases k : (beh evs t.last).kd = 4
    · rw [if_pos k]; exact .inr (.inl ⟨h, k, rfl⟩)
    · rw [if_neg k]; exact .inr (.inr ⟨h, k, rfl⟩)
  · rw [if_neg h]; exact .inl ⟨h, rfl⟩
theorem chg_fr : (chgB N evs t).fr = t.fr ∧ (chgB N evs t).bg = t.bg ∧ (chgB N evs t).pa = t.pa ∧ (chgB N evs t).ch = t.ch := by
  rcases chg_cases N evs t with ⟨_, e⟩ | ⟨_,_, e⟩ | ⟨_,_, e⟩ <;> rw [e] <;> exact ⟨rfl, rfl, rfl, rfl⟩
theorem chg_head (h : 0 < t.ar.length) : (chgB N evs t).ar.headD 0 = t.ar.headD 0 := by
  rcases chg_cases N evs t with ⟨_, e⟩ | ⟨_,_, e⟩ | ⟨_,_, e⟩ <;> rw [e]
  exact head_app h
/-- The first map. -/
theorem TInvQ.first (h : TInv [] [] tk of) : TInvQ [[]] [m] 0 tk of := by
  have hq := h.q
  have e : tk = [] := by
    cases tk with
    | nil => rfl
    | cons t l => have z := hq.base.pos t (by simp); unfold TkM.up at z; rw [List.length_nil] at z; omega
  subst e
  have ho : ∀ n i, of (n, i) = none := fun n i => by
    cases z : of (n, i) with
    | none => rfl
    | some k => have := (hq.base.lt z).1; simp at this
  exact ⟨⟨fun n i k => by rw [ho]; simp, by simp, by simp⟩, rfl, fun n i h1 h2 h3 => by
    have h1 : n = 0 := by simpa using h1
    subst h1
    rcases h3 with z | z | z
    · simp at z
    · omega
    · simp [newB] at z, by simp, by simp, by simp, by simp, by simp, by simp, fun k t h => by simp at h, fun k t h => by simp at h⟩
/-- A further map: what its events change. -/
theorem TInvQ.change (h : TInv evss ms tk of) (hN : ms.length = N + 1) (hg : GoodEv (ms.getD N 0) m evs) : TInvQ (evss ++ [evs]) (ms ++ [m]) 0 (tk.map (chgB (N + 1) evs)) (ofC N evs of) := by
  have hq := h.q
  have hb := hq.base
  rw [hN] at hb
  have hel : evss.length = N + 1 := by rw [hq.len, hN]
  have hE1 : ∀ n, n < N + 1 → (evss ++ [evs]).getD n [] = evss.getD n [] := fun n hn => getD_app1 (by omega)
  have hE2 : (evss ++ [evs]).getD (N + 1) [] = evs := by rw [← hel]; exact getD_app2
  have hM1 : ∀ n, n < N + 1 → (ms ++ [m]).getD n 0 = ms.getD n 0 := fun n hn => getD_app1 (by omega)
  have hM2 : (ms ++ [m]).getD (N + 1) 0 = m := by rw [← hN]; exact getD_app2
  have hln : (ms ++ [m]).length = N + 2 := by rw [List.length_append, hN]; rfl
  have hlast : ∀ t, t ∈ tk → t.up = N + 1 → t.last < ms.getD N 0 := fun t ht hu => by
    have h1 := hq.rng t ht _ _ (tk_last (hb.pos t ht).1)
    have h2 := (hb.pos t ht).1
    unfold TkM.up at hu
    rwa [show t.fr + (t.ar.length - 1) = N by omega] at h1
  have hkept : ∀ t, t ∈ tk → t.up = N + 1 → (beh evs t.last).kd = 4 → beh evs t.last ∈ evs ∧ (beh evs t.last).f = [t.last] ∧ (beh evs t.last).t = [(beh evs t.last).t.headD 0] ∧ (beh evs t.last).t.headD 0 < m := fun t ht hu hk => by
    obtain ⟨h1, h2⟩ := hg.beh_mem (hlast t ht hu)
    obtain ⟨h3, h4⟩ := hg.kept h1 hk
    refine ⟨h1, ?_, h4, (hg.ts _ h1).2 _ (by rw [h4]; simp)⟩
    have h5 : t.last ∈ [(beh evs t.last).f.headD 0] := by rw [← h3]; exact h2
    exact h3.trans (congrArg (fun x => [x]) (List.mem_singleton.1 h5).symm)
  have hget : ∀ {k t}, (tk.map (chgB (N + 1) evs))[k]? = some t → ∃ t0, tk[k]? = some t0 ∧ t = chgB (N + 1) evs t0 := fun {k t} hk => by
    rw [List.getElem?_map] at hk
    cases z : tk[k]? with
    | none => rw [z] at hk; cases hk
    | some t0 => rw [z] at hk; exact ⟨t0, z, (Option.some.inj hk).symm⟩
  have hmem : ∀ {t}, t ∈ tk.map (chgB (N + 1) evs) → ∃ t0, t0 ∈ tk ∧ t = chgB (N + 1) evs t0 := fun {t} ht => by
    obtain ⟨t0, h1, h2⟩ := List.mem_map.1 ht; exact ⟨t0, h1, h2.symm⟩
  refine ⟨⟨fun n i k => ?_, fun t ht => ?_, fun t ht hu => ?_⟩, by rw [List.length_append, hln, hel]; rfl, fun n i hn hi hc => ?_, fun t ht hf => ?_, fun t ht => ?_, fun t ht => ?_, fun t ht => ?_, fun t ht => ?_, ?_, fun k t hk => ?_, fun k t hk => ?_⟩
  · -- which history has an area
    unfold ofC
    by_cases q : n = N + 1
    · subst q
      simp only [if_true]
      constructor
      · intro hs
        obtain ⟨e, he1, he2⟩ := Option.bind_eq_some_iff.1 hs
        have hem := List.mem_of_find?_eq_some he1
        have hp := List.find?_some he1
        simp only [Bool.and_eq_true, decide_eq_true_eq] at hp
        obtain ⟨hk3, hk4⟩ := hg.kept hem hp.1
        obtain ⟨t, t1, t2, t3⟩ := hb.at he2
        have hbe : beh evs t.last = e := hg.beh_eq hem (by rw [t3, hk3]; simp)
        have hbi : e.t.headD 0 = i := by have := hp.2; rw [hk4] at this; exact (List.mem_singleton.1 this).symm
        refine ⟨chgB (N + 1) evs t, by rw [List.getElem?_map, t1]; rfl, ?_, ?_⟩
        · rw [chg_fr.1]; unfold TkM.up at t2; omega
        · rcases chg_cases (N + 1) evs t with ⟨z,_⟩ | ⟨_,_, z⟩ | ⟨_, z,_⟩
          · exact absurd t2 z
          · rw [z, hbe, hbi]
            show (t.ar ++ [i])[N + 1 - t.fr]? = some i
            rw [List.getElem?_append_right (by unfold TkM.up at t2; omega), show N + 1 - t.fr - t.ar.length = 0 by unfold TkM.up at t2; omega]; rfl
          · rw [hbe] at z; exact absurd hp.1 z
      · rintro ⟨t, h1, h2, h3⟩
        obtain ⟨t0, h4, rfl⟩ := hget h1
        have hp := hb.pos t0 (List.mem_of_getElem? h4)
        have h5 := (List.getElem?_eq_some_iff.1 h3).1
        rw [chg_fr.1] at h2 h3 h5
        rcases chg_cases (N + 1) evs t0 with ⟨z1, z⟩ | ⟨z1, z2, z⟩ | ⟨z1, z2, z⟩
        · rw [z] at h5; unfold TkM.up at hp; omega
        · rw [z] at h3
          have h3 : (t0.ar ++ [(beh evs t0.last).t.headD 0])[N + 1 - t0.fr]? = some i := h3
          rw [List.getElem?_append_right (by unfold TkM.up at z1; omega), show N + 1 - t0.fr - t0.ar.length = 0 by unfold TkM.up at z1; omega] at h3
          have h3 : (beh evs t0.last).t.headD 0 = i := Option.some.inj h3
          obtain ⟨k1, k2, k3, k4⟩ := hkept t0 (List.mem_of_getElem? h4) z1 z2
          rw [find_uniq (e := beh evs t0.last) k1 (by rw [z2, k3, h3]; simp) (fun a ha hp => by
            simp only [Bool.and_eq_true, decide_eq_true_eq] at hp
            exact hg.uniqT ha k1 hp.2 (by rw [k3, h3]; simp))]
          show of (N, (beh evs t0.last).f.headD 0) = some k
          rw [k2]
          show of (N, t0.last) = some k
          refine (hb.ofi N t0.last k).2 ⟨t0, h4, by unfold TkM.up at z1; omega, ?_⟩
          rw [show N - t0.fr = t0.ar.length - 1 by unfold TkM.up at z1; omega]
          exact tk_last hp.1
        · rw [z] at h5
          have h5 : N + 1 - t0.fr < t0.ar.length := h5
          unfold TkM.up at z1; omega
    · rw [if_neg q]
      constructor
      · intro hs
        have hlt := (hb.lt hs).1
        obtain ⟨t, h1, h2, h3⟩ := (hb.ofi n i k).1 hs
        refine ⟨chgB (N + 1) evs t, by rw [List.getElem?_map, h1]; rfl, by rw [chg_fr.1]; exact h2, ?_⟩
        rw [chg_fr.1]
        rcases chg_cases (N + 1) evs t with ⟨_, z⟩ | ⟨_,_, z⟩ | ⟨_,_, z⟩ <;> rw [z]
        · exact h3
        · show (t.ar ++ _)[n - t.fr]? = some i
          rw [List.getElem?_append_left (List.getElem?_eq_some_iff.1 h3).1]; exact h3
        · exact h3
      · rintro ⟨t, h1, h2, h3⟩
        obtain ⟨t0, h4, rfl⟩ := hget h1
        rw [chg_fr.1] at h2 h3
        refine (hb.ofi n i k).2 ⟨t0, h4, h2, ?_⟩
        rcases chg_cases (N + 1) evs t0 with ⟨_, z⟩ | ⟨z1,_, z⟩ | ⟨_,_, z⟩ <;> rw [z] at h3
        · exact h3
        · have h3 : (t0.ar ++ [(beh evs t0.last).t.headD 0])[n - t0.fr]? = some i := h3
          have h5 := (List.getElem?_eq_some_iff.1 h3).1
          rw [List.length_append] at h5
          simp only [List.length_singleton] at h5
          unfold TkM.up at z1
          rwa [List.getElem?_append_left (by omega)] at h3
        · exact h3
  · obtain ⟨t0, h1, rfl⟩ := hmem ht
    have hp := hb.pos t0 h1
    rw [hln]
    rcases chg_cases (N + 1) evs t0 with ⟨_, z⟩ | ⟨z1,_, z⟩ | ⟨_,_, z⟩ <;> rw [z]
    · exact ⟨hp.1, by omega⟩
    · refine ⟨by show 0 < (t0.ar ++ _).length; rw [List.length_append]; omega, ?_⟩
      show t0.fr + (t0.ar ++ _).length ≤ N + 2
      unfold TkM.up at z1; rw [List.length_append, List.length_singleton]; omega
    · exact ⟨hp.1, by show t0.up ≤ N + 2; omega⟩
  · obtain ⟨t0, h1, rfl⟩ := hmem ht
    have hp := hb.pos t0 h1
    rw [hln] at hu
    rcases chg_cases (N + 1) evs t0 with ⟨_, z⟩ | ⟨z1,_, z⟩ | ⟨_,_, z⟩ <;> rw [z] at hu ⊢
    · omega
    · exact hb.en t0 h1 z1
    · have hu : t0.up = N + 2 := hu
      omega
  · rw [hln] at hn hc
    by_cases q : n = N + 1
    · subst q
      rw [hM2] at hi
      rcases hc with z | z | z
      · omega
      · omega
      · rw [hE2] at z
        unfold newB at z
        have z : (bef evs i).kd = 4 := by simpa using z
        obtain ⟨h1, h2⟩ := hg.bef_mem hi
        obtain ⟨h3, h4⟩ := hg.kept h1 z
        have h5 := (hg.fs _ h1).2 ((bef evs i).f.headD 0) (by rw [h3]; simp)
        obtain ⟨k, hk⟩ := hq.tot N _ (by omega) h5 (.inr (.inl (by rw [hN]; exact h5)))
        refine ⟨k, ?_⟩
        unfold ofC
        simp only [if_true]
        rw [find_uniq (e := bef evs i) h1 (by simp [z, h2]) (fun a ha hp => by
          simp only [Bool.and_eq_true, decide_eq_true_eq] at hp
          exact hg.uniqT ha h1 hp.2 h2)]
        exact hk
    · rw [hM1 n (by omega)] at hi
      obtain ⟨k, hk⟩ := hq.tot n i (by omega) hi (by
        rw [hN]
        by_cases y : n + 1 < N + 1
        · exact .inl y
        · have : n = N := by omega
          subst this
          exact .inr (.inl hi))
      refine ⟨k, ?_⟩
      unfold ofC; rw [if_neg q]; exact hk
  · obtain ⟨t0, h1, rfl⟩ := hmem ht
    rw [hln, chg_fr.1] at hf
    have hp := hb.pos t0 h1
    unfold TkM.up at hp; omega
  · obtain ⟨t0, h1, rfl⟩ := hmem ht
    intro j a hj
    have hp := hb.pos t0 h1
    have old : ∀ j a, t0.ar[j]? = some a → a < (ms ++ [m]).getD (t0.fr + j) 0 := fun j a hj => by
      have := (List.getElem?_eq_some_iff.1 hj).1
      unfold TkM.up at hp
      rw [hM1 _ (by omega)]; exact hq.rng t0 h1 j a hj
    rw [chg_fr.1]
    rcases chg_cases (N + 1) evs t0 with ⟨_, z⟩ | ⟨z1, z2, z⟩ | ⟨_,_, z⟩ <;> rw [z] at hj
    · exact old j a hj
    · have hj : (t0.ar ++ [(beh evs t0.last).t.headD 0])[j]? = some a := hj
      by_cases y : j < t0.ar.length
      · rw [List.getElem?_append_left y] at hj; exact old j a hj
      · have h5 := (List.getElem?_eq_some_iff.1 hj).1
        rw [List.length_append, List.length_singleton] at h5
        rw [List.getElem?_append_right (by omega), show j - t0.ar.length = 0 by omega] at hj
        have hj : (beh evs t0.last).t.headD 0 = a := Option.some.inj hj
        unfold TkM.up at z1
        rw [show t0.fr + j = N + 1 by omega, hM2, ← hj]
        exact (hkept t0 h1 z1 z2).2.2.2
    · exact old j a hj
  · obtain ⟨t0, h1, rfl⟩ := hmem ht
    have hp := hb.pos t0 h1
    rw [chg_fr.1, chg_fr.2.1, chg_head hp.1]
    unfold TkM.up at hp
    rw [hE1 _ (by omega)]
    exact hq.bg t0 h1
  · obtain ⟨t0, h1, rfl⟩ := hmem ht
    intro j a b ha hb'
    have hp := hb.pos t0 h1
    have old : ∀ j a b, t0.ar[j]? = some a → t0.ar[j + 1]? = some b → (beh ((evss ++ [evs]).getD (t0.fr + j + 1) []) a).kd = 4 ∧ (beh ((evss ++ [evs]).getD (t0.fr + j + 1) []) a).t = [b] := fun j a b ha hb' => by
      have := (List.getElem?_eq_some_iff.1 hb').1
      unfold TkM.up at hp
      rw [hE1 _ (by omega)]; exact hq.step t0 h1 j a b ha hb'
    rw [chg_fr.1]
    rcases chg_cases (N + 1) evs t0 with ⟨_, z⟩ | ⟨z1, z2, z⟩ | ⟨_,_, z⟩ <;> rw [z] at ha hb'
    · exact old j a b ha hb'
    · have ha : (t0.ar ++ [(beh evs t0.last).t.headD 0])[j]? = some a := ha
      have hb' : (t0.ar ++ [(beh evs t0.last).t.headD 0])[j + 1]? = some b := hb'
      by_cases y : j + 1 < t0.ar.length
      · rw [List.getElem?_append_left (by omega)] at ha hb'; exact old j a b ha hb'
      · have h5 := (List.getElem?_eq_some_iff.1 hb').1
        rw [List.length_append, List.length_singleton] at h5
        rw [List.getElem?_append_right (by omega), show j + 1 - t0.ar.length = 0 by omega] at hb'
        rw [List.getElem?_append_left (by omega), show j = t0.ar.length - 1 by omega, tk_last hp.1] at ha
        have hb' : (beh evs t0.last).t.headD 0 = b := Option.some.inj hb'
        have ha : t0.last = a := Option.some.inj ha
        obtain ⟨k1, k2, k3, k4⟩ := hkept t0 h1 z1 z2
        unfold TkM.up at z1
        rw [show t0.fr + j + 1 = N + 1 by omega, hE2, ← ha, ← hb']
        exact ⟨z2, k3⟩
    · exact old j a b ha hb'
  · obtain ⟨t0, h1, rfl⟩ := hmem ht
    have hp := hb.pos t0 h1
    obtain ⟨e1, e2⟩ := hq.en t0 h1
    rw [hN] at e1
    rw [hln]
    rcases chg_cases (N + 1) evs t0 with ⟨z1, z⟩ | ⟨z1, z2, z⟩ | ⟨z1, z2, z⟩ <;> rw [z]
    · rw [if_neg z1] at e1
      rw [if_neg (by omega), hE1 _ (by omega)]
      exact ⟨e1, e2⟩
    · rw [if_pos z1] at e1
      have : ({ t0 with ar := t0.ar ++ [(beh evs t0.last).t.headD 0] } : TkM).up = N + 2 := by
        show t0.fr + (t0.ar ++ _).length = _
        unfold TkM.up at z1; rw [List.length_append, List.length_singleton]; omega
      rw [if_pos this]; exact ⟨e1, e2⟩
    · have : ({ t0 with en := (beh evs t0.last).kd } : TkM).up = N + 1 := z1
      rw [if_neg (by omega), this, hE2]
      exact ⟨rfl, z2⟩
  · refine List.pairwise_map.2 (hq.ord.imp_of_mem fun {a b} ha hb' hab => ?_)
    rw [chg_fr.1, chg_fr.1, chg_head (hb.pos a ha).1, chg_head (hb.pos b hb').1]; exact hab
  all_goals
    obtain ⟨t0, h4, rfl⟩ := hget hk
    have h1 := List.mem_of_getElem? h4
    have hln1 : ∀ x y, x ∈ tk → y ∈ tk → lnkT (evss ++ [evs]) (chgB (N + 1) evs x) (chgB (N + 1) evs y) = lnkT evss x y := fun x y hx hy => by
      have px := hb.pos x hx
      have py := hb.pos y hy
      unfold lnkT
      rw [chg_fr.1, chg_head py.1]
      have hy2 : y.fr < N + 1 := by unfold TkM.up at py; omega
      rw [hE1 _ hy2]
      refine decide_eq_decide.2 ?_
      rcases chg_cases (N + 1) evs x with ⟨_, z⟩ | ⟨z1,_, z⟩ | ⟨z1,_, z⟩ <;> rw [z]
      · have : ({ x with ar := x.ar ++ [(beh evs x.last).t.headD 0] } : TkM).up = N + 2 := by
          show x.fr + (x.ar ++ _).length = _
          unfold TkM.up at z1; rw [List.length_append, List.length_singleton]; omega
        constructor
        · rintro ⟨c,_⟩; omega
        · rintro ⟨c,_⟩; omega
      · exact Iff.rfl
    have hgd : ∀ i, i < tk.length → (tk.map (chgB (N + 1) evs)).getD i zT = chgB (N + 1) evs (tk.getD i zT) ∧ tk.getD i zT ∈ tk := fun i hi => by
      have e : tk[i]? = some tk[i] := List.getElem?_eq_getElem hi
      rw [getD_of (x := chgB (N + 1) evs tk[i]) (by rw [List.getElem?_map, e]; rfl), getD_of e]
      exact ⟨rfl, List.getElem_mem hi⟩
  · rw [chg_fr.2.2.1, hq.pa k t0 h4, List.length_map]
    refine List.filter_congr fun i hi => ?_
    obtain ⟨g1, g2⟩ := hgd i (List.mem_range.1 hi)
    rw [g1, hln1 _ _ g2 h1]
  · rw [chg_fr.2.2.2, hq.ch k t0 h4, List.length_map]
    refine List.filter_congr fun i hi => ?_
    obtain ⟨g1, g2⟩ := hgd i (List.mem_range.1 hi)
    rw [g1, hln1 _ _ h1 g2]
end
end Go.Proofs.Ytgemekpofpoopaa

namespace Go.Proofs.Ytgemekpofpoopaa
open Go.SL Go.Cell
set_option linter.unusedVariables false
section
variable {E : List (List EvM)} {Ms : List Nat} {N j k n : Nat} {tk : List TkM} {of : Nat × Nat → Option Nat} {t x : TkM} {ps : List Nat}
def adj (ps : List Nat) (K p : Nat) (t : TkM) : TkM := if p ∈ ps then { t with ch := t.ch ++ [K] } else t
theorem adj_same {K p : Nat} : (adj ps K p t).fr = t.fr ∧ (adj ps K p t).ar = t.ar ∧ (adj ps K p t).bg = t.bg ∧ (adj ps K p t).en = t.en ∧ (adj ps K p t).pa = t.pa ∧ (adj ps K p t).up = t.up ∧ (adj ps K p t).last = t.last := by
  unfold adj; split <;> exact ⟨rfl, rfl, rfl, rfl, rfl, rfl, rfl⟩
theorem addCh_len {l : List TkM} {n : Nat} : (addCh l ps n).length = l.length := by unfold addCh; rw [List.length_mapIdx]
theorem addCh_get {l : List TkM} {n : Nat} : (addCh l ps n)[k]? = (l[k]?).map (adj ps n k) := by unfold addCh adj; rw [List.getElem?_mapIdx]
theorem parOf_lt {evs : List EvM} (h : k ∈ parOf tk N evs j) : k < tk.length := by
  unfold parOf parB at h
  split at h
  · simp at h
  · exact List.mem_range.1 (List.mem_filter.1 h).1
theorem born_get (hps : ∀ p, p ∈ ps → p < tk.length) (h : (addCh (tk ++ [x]) ps tk.length)[k]? = some t) : (∃ t0, tk[k]? = some t0 ∧ t = adj ps tk.length k t0) ∨ (k = tk.length ∧ t = x) := by
  rw [addCh_get] at h
  by_cases q : k < tk.length
  · rw [List.getElem?_append_left q, List.getElem?_eq_getElem q] at h
    exact .inl ⟨tk[k], List.getElem?_eq_getElem q, (Option.some.inj h).symm⟩
  · by_cases z : k = tk.length
    · subst z
      rw [List.getElem?_append_right (Nat.le_refl _), Nat.sub_self] at h
      refine .inr ⟨rfl, ?_⟩
      have h := (Option.some.inj h).symm
      rw [h]; unfold adj; rw [if_neg fun y => absurd (hps _ y) (Nat.lt_irrefl _)]
    · rw [List.getElem?_eq_none (by rw [List.length_append, List.length_singleton]; omega)] at h; cases h
theorem born_old (h : tk[k]? = some t) : (addCh (tk ++ [x]) ps tk.length)[k]? = some (adj ps tk.length k t) := by
  rw [addCh_get, List.getElem?_append_left (List.getElem?_eq_some_iff.1 h).1, h]; rfl
theorem born_new (hps : ∀ p, p ∈ ps → p < tk.length) : (addCh (tk ++ [x]) ps tk.length)[tk.length]? = some x := by
  rw [addCh_get, List.getElem?_append_right (Nat.le_refl _), Nat.sub_self]
  show some (adj ps tk.length tk.length x) = _
  unfold adj; rw [if_neg fun y => absurd (hps _ y) (Nat.lt_irrefl _)]
def birthM (N : Nat) (evs : List EvM) (s : List TkM × (Nat × Nat → Option Nat)) (j : Nat) : List TkM × (Nat × Nat → Option Nat) :=
  if newB N evs j = true then (addCh (s.1 ++ [trB N evs (parOf s.1 N evs j) j]) (parOf s.1 N evs j) s.1.length, updG s.2 (N, j) s.1.length) else s
def birthsM (N : Nat) (evs : List EvM) (s : List TkM × (Nat × Nat → Option Nat)) : Nat → List TkM × (Nat × Nat → Option Nat)
  | 0 => s
  | k + 1 => birthM N evs (birthsM N evs s k) k
/-- No area of the last map that has not been looked at has a new history. -/
theorem TInvQ.free (h : TInvQ E Ms j tk of) (hN : Ms.length = N + 1) (hg : 0 < N → GoodEv (Ms.getD (N - 1) 0) (Ms.getD N 0) (E.getD N [])) (hn : newB N (E.getD N []) j = true) : of (N, j) = none := by
  cases z : of (N, j) with
  | none => rfl
  | some k =>
    obtain ⟨t, t1, t2, t3⟩ := (h.base.ofi N j k).1 z
    have tm := List.mem_of_getElem? t1
    exfalso
    by_cases q : t.fr = N
    · have h1 := h.hd t tm (by omega)
      rw [q, Nat.sub_self] at t3
      have := head_at (h.base.pos t tm).1
      rw [t3] at this
      have := Option.some.inj this
      omega
    · obtain ⟨a, ha⟩ : ∃ a, t.ar[N - t.fr - 1]? = some a := ⟨_, List.getElem?_eq_getElem (by have := (List.getElem?_eq_some_iff.1 t3).1; omega)⟩
      have hs := h.step t tm (N - t.fr - 1) a j ha (by rw [show N - t.fr - 1 + 1 = N - t.fr by omega]; exact t3)
      rw [show t.fr + (N - t.fr - 1) + 1 = N by omega] at hs
      have hr := h.rng t tm _ _ ha
      rw [show t.fr + (N - t.fr - 1) = N - 1 by omega] at hr
      have hg := hg (by omega)
      obtain ⟨g1, g2⟩ := hg.beh_mem hr
      have hb : bef (E.getD N []) j = beh (E.getD N []) a := hg.bef_eq g1 (by rw [hs.2]; simp)
      unfold newB at hn
      have hn := of_decide_eq_true hn
      rw [hb] at hn
      rcases hn with y | y
      · omega
      · exact y hs.1
theorem TInvQ.skip (h : TInvQ E Ms j tk of) (hN : Ms.length = N + 1) (hn : ¬ newB N (E.getD N []) j = true) : TInvQ E Ms (j + 1) tk of := by
  refine ⟨h.base, h.len, fun n i h1 h2 h3 => h.tot n i h1 h2 ?_, fun t ht hf => Nat.lt_succ_of_lt (h.hd t ht hf), h.rng, h.bg, h.step, h.en, h.ord, h.pa, h.ch⟩
  rcases h3 with z | z | z
  · exact .inl z
  · rcases Nat.lt_succ_iff_lt_or_eq.1 z with y | y
    · exact .inr (.inl y)
    · subst y
      by_cases q : n + 1 < Ms.length
      · exact .inl q
      · have : n = N := by omega
        subst this
        exact .inr (.inr (by simpa using hn))
  · exact .inr (.inr z)
theorem TInvQ.born (h : TInvQ E Ms j tk of) (hN : Ms.length = N + 1) (hj : j < Ms.getD N 0) (hg : 0 < N → GoodEv (Ms.getD (N - 1) 0) (Ms.getD N 0) (E.getD N [])) (hn : newB N (E.getD N []) j = true) :
    TInvQ E Ms (j + 1) (addCh (tk ++ [trB N (E.getD N []) (parOf tk N (E.getD N []) j) j]) (parOf tk N (E.getD N []) j) tk.length) (updG of (N, j) tk.length) := by
  have hfree := h.free hN hg hn
  obtain ⟨ps, hps0⟩ : ∃ ps, ps = parOf tk N (E.getD N []) j := ⟨_, rfl⟩
  rw [← hps0]
  have hps : ∀ p, p ∈ ps → p < tk.length := fun p hp => parOf_lt (hps0 ▸ hp)
  obtain ⟨x, hx⟩ : ∃ x, x = trB N (E.getD N []) ps j := ⟨_, rfl⟩
  rw [← hx]
  have xfr : x.fr = N := by rw [hx]; rfl
  have xar : x.ar = [j] := by rw [hx]; rfl
  have xen : x.en = 0 := by rw [hx]; rfl
  have xpa : x.pa = ps := by rw [hx]; rfl
  have xch : x.ch = [] := by rw [hx]; rfl
  have xup : x.up = N + 1 := by unfold TkM.up; rw [xfr, xar]; rfl
  have xbg : x.bg = if N = 0 then 1 else (bef (E.getD N []) j).kd := by rw [hx]; rfl
  have hb := h.base
  rw [hN] at hb
  have hfr : ∀ t, t ∈ tk → t.fr ≤ N := fun t ht => by have := hb.pos t ht; unfold TkM.up at this; omega
  have hmem : ∀ {t}, t ∈ addCh (tk ++ [x]) ps tk.length → (∃ t0 k, t0 ∈ tk ∧ t = adj ps tk.length k t0) ∨ t = x := fun {t} ht => by
    obtain ⟨k, hk⟩ := List.mem_iff_getElem?.1 ht
    rcases born_get hps hk with ⟨t0, h1, h2⟩ | ⟨_, h2⟩
    · exact .inl ⟨t0, k, List.mem_of_getElem? h1, h2⟩
    · exact .inr h2
  have hlenA : (addCh (tk ++ [x]) ps tk.length).length = tk.length + 1 := by rw [addCh_len, List.length_append]; rfl
  have hgd : ∀ i, i < tk.length → (addCh (tk ++ [x]) ps tk.length).getD i zT = adj ps tk.length i (tk.getD i zT) ∧ tk.getD i zT ∈ tk := fun i hi => by
    have e : tk[i]? = some tk[i] := List.getElem?_eq_getElem hi
    rw [getD_of (born_old e), getD_of e]; exact ⟨rfl, List.getElem_mem hi⟩
  have hgx : (addCh (tk ++ [x]) ps tk.length).getD tk.length zT = x := getD_of (born_new hps)
  have ladj : ∀ a b K p r, lnkT E (adj ps K p a) (adj ps K r b) = lnkT E a b := fun a b K p r => by
    unfold lnkT
    obtain ⟨a1, a2,_,_,_, a6, a7⟩ := adj_same (ps := ps) (K := K) (p := p) (t := a)
    obtain ⟨b1, b2,_,_,_,_,_⟩ := adj_same (ps := ps) (K := K) (p := r) (t := b)
    rw [a6, a7, b1, b2]
  have ladj2 : ∀ a b K r, lnkT E a (adj ps K r b) = lnkT E a b := fun a b K r => by
    unfold lnkT
    obtain ⟨b1, b2,_,_,_,_,_⟩ := adj_same (ps := ps) (K := K) (p := r) (t := b)
    rw [b1, b2]
  have ladj1 : ∀ a b K p, lnkT E (adj ps K p a) b = lnkT E a b := fun a b K p => by
    unfold lnkT
    obtain ⟨a1, a2,_,_,_, a6, a7⟩ := adj_same (ps := ps) (K := K) (p := p) (t := a)
    rw [a6, a7]
  have lx1 : ∀ t, t.fr ≤ N → lnkT E x t = false := fun t ht => by
    unfold lnkT; rw [xup]; exact decide_eq_false fun z => by omega
  have lx2 : ∀ t, lnkT E t x = decide (0 < N ∧ t.up = N ∧ t.last ∈ (bef (E.getD N []) j).f) := fun t => by
    unfold lnkT; rw [xfr, xar]
    exact decide_eq_decide.2 ⟨fun ⟨a, b, c⟩ => ⟨b, a, c⟩, fun ⟨a, b, c⟩ => ⟨b, a, c⟩⟩
  have hpsm : ∀ p, p < tk.length → (p ∈ ps ↔ (0 < N ∧ (tk.getD p zT).up = N ∧ (tk.getD p zT).last ∈ (bef (E.getD N []) j).f)) := fun p hp => by
    rw [hps0]; unfold parOf parB
    split
    · rename_i q; subst q; simp
    · rename_i q
      rw [List.mem_filter, List.mem_range, decide_eq_true_eq]
      exact ⟨fun ⟨_, a⟩ => ⟨by omega, a⟩, fun ⟨_, a⟩ => ⟨hp, a⟩⟩
  refine ⟨⟨fun n i k => ?_, fun t ht => ?_, fun t ht hu => ?_⟩, h.len, fun n i h1 h2 h3 => ?_, fun t ht hf => ?_, fun t ht => ?_, fun t ht => ?_, fun t ht => ?_, fun t ht => ?_, ?_, fun k t hk => ?_, fun k t hk => ?_⟩
  · unfold updG
    by_cases q : (n, i) = (N, j)
    · rw [if_pos q]
      have q1 : n = N := congrArg Prod.fst q
      have q2 : i = j := congrArg Prod.snd q
      subst q1; subst q2
      constructor
      · intro hs
        have hs := Option.some.inj hs
        subst hs
        exact ⟨x, born_new hps, by omega, by rw [xfr, xar, Nat.sub_self]; rfl⟩
      · rintro ⟨t, t1, t2, t3⟩
        rcases born_get hps t1 with ⟨t0, g1, rfl⟩ | ⟨g1,_⟩
        · obtain ⟨a1, a2,_⟩ := adj_same (ps := ps) (K := tk.length) (p := k) (t := t0)
          rw [a1] at t2 t3; rw [a2] at t3
          have := (hb.ofi n i k).2 ⟨t0, g1, t2, t3⟩
          rw [hfree] at this; cases this
        · rw [g1]
    · rw [if_neg q]
      constructor
      · intro hs
        obtain ⟨t, t1, t2, t3⟩ := (hb.ofi n i k).1 hs
        obtain ⟨a1, a2,_⟩ := adj_same (ps := ps) (K := tk.length) (p := k) (t := t)
        exact ⟨_, born_old t1, by rw [a1]; exact t2, by rw [a1, a2]; exact t3⟩
      · rintro ⟨t, t1, t2, t3⟩
        rcases born_get hps t1 with ⟨t0, g1, rfl⟩ | ⟨_, rfl⟩
        · obtain ⟨a1, a2,_⟩ := adj_same (ps := ps) (K := tk.length) (p := k) (t := t0)
          rw [a1] at t2 t3; rw [a2] at t3
          exact (hb.ofi n i k).2 ⟨t0, g1, t2, t3⟩
        · exfalso
          rw [xfr] at t2 t3; rw [xar] at t3
          have h4 := (List.getElem?_eq_some_iff.1 t3).1
          simp only [List.length_singleton] at h4
          have h5 : n = N := by omega
          subst h5
          rw [Nat.sub_self] at t3
          have h6 : j = i := Option.some.inj t3
          subst h6
          exact q rfl
  · rw [hN]
    rcases hmem ht with ⟨t0, k, g1, rfl⟩ | rfl
    · obtain ⟨a1, a2,_,_,_, a6,_⟩ := adj_same (ps := ps) (K := tk.length) (p := k) (t := t0)
      rw [a2, a6]; exact hb.pos t0 g1
    · rw [xar, xup]; exact ⟨by simp, Nat.le_refl _⟩
  · rw [hN] at hu
    rcases hmem ht with ⟨t0, k, g1, rfl⟩ | rfl
    · obtain ⟨a1, a2,_, a4,_, a6,_⟩ := adj_same (ps := ps) (K := tk.length) (p := k) (t := t0)
      rw [a4]; rw [a6] at hu; exact hb.en t0 g1 hu
    · exact xen
  · unfold updG
    by_cases q : (n, i) = (N, j)
    · rw [if_pos q]; exact ⟨_, rfl⟩
    · rw [if_neg q]
      refine h.tot n i h1 h2 ?_
      rcases h3 with z | z | z
      · exact .inl z
      · rcases Nat.lt_succ_iff_lt_or_eq.1 z with y | y
        · exact .inr (.inl y)
        · subst y
          by_cases w : n + 1 < Ms.length
          · exact .inl w
          · exact absurd (by rw [show n = N by omega]) q
      · exact .inr (.inr z)
  · rcases hmem ht with ⟨t0, k, g1, rfl⟩ | rfl
    · obtain ⟨a1, a2,_⟩ := adj_same (ps := ps) (K := tk.length) (p := k) (t := t0)
      rw [a2]; rw [a1] at hf; exact Nat.lt_succ_of_lt (h.hd t0 g1 hf)
    · rw [xar]; exact Nat.lt_succ_self _
  · rcases hmem ht with ⟨t0, k, g1, rfl⟩ | rfl
    · obtain ⟨a1, a2,_⟩ := adj_same (ps := ps) (K := tk.length) (p := k) (t := t0)
      rw [a1, a2]; exact h.rng t0 g1
    · intro r a ha
      rw [xar] at ha
      have h4 := (List.getElem?_eq_some_iff.1 ha).1
      simp only [List.length_singleton] at h4
      have h5 : r = 0 := by omega
      subst h5
      have h6 : j = a := Option.some.inj ha
      rw [xfr, Nat.add_zero, ← h6]; exact hj
  · rcases hmem ht with ⟨t0, k, g1, rfl⟩ | rfl
    · obtain ⟨a1, a2, a3,_⟩ := adj_same (ps := ps) (K := tk.length) (p := k) (t := t0)
      rw [a1, a2, a3]; exact h.bg t0 g1
    · rw [xfr, xar, xbg]
      by_cases q : N = 0
      · rw [if_pos q]; exact .inl ⟨q, rfl⟩
      · rw [if_neg q]
        unfold newB at hn
        refine .inr ⟨by omega, rfl, ?_⟩
        rcases of_decide_eq_true hn with y | y
        · exact absurd y q
        · exact y
  · rcases hmem ht with ⟨t0, k, g1, rfl⟩ | rfl
    · obtain ⟨a1, a2,_⟩ := adj_same (ps := ps) (K := tk.length) (p := k) (t := t0)
      rw [a1, a2]; exact h.step t0 g1
    · intro r a b ha hb'
      rw [xar] at hb'
      have h4 := (List.getElem?_eq_some_iff.1 hb').1
      simp at h4
  · rcases hmem ht with ⟨t0, k, g1, rfl⟩ | rfl
    · obtain ⟨_,_,_, a4,_, a6, a7⟩ := adj_same (ps := ps) (K := tk.length) (p := k) (t := t0)
      rw [a4, a6, a7]; exact h.en t0 g1
    · rw [xen, xup, hN, if_pos rfl]; exact ⟨rfl, by decide⟩
  · refine List.pairwise_iff_getElem.2 fun a b ha hb' hab => ?_
    have ea := born_get hps (List.getElem?_eq_getElem ha)
    have eb := born_get hps (List.getElem?_eq_getElem hb')
    rcases ea with ⟨t0, g1, g2⟩ | ⟨g1,_⟩
    · obtain ⟨a1, a2,_⟩ := adj_same (ps := ps) (K := tk.length) (p := a) (t := t0)
      rw [g2, a1, a2]
      rcases eb with ⟨t2, g3, g4⟩ | ⟨_, g4⟩
      · obtain ⟨b1, b2,_⟩ := adj_same (ps := ps) (K := tk.length) (p := b) (t := t2)
        rw [g4, b1, b2]
        obtain ⟨q1, rfl⟩ := List.getElem?_eq_some_iff.1 g1
        obtain ⟨q2, rfl⟩ := List.getElem?_eq_some_iff.1 g3
        exact List.pairwise_iff_getElem.1 h.ord a b q1 q2 hab
      · rw [g4, xfr, xar]
        have tm := List.mem_of_getElem? g1
        have := hfr t0 tm
        by_cases q : t0.fr = N
        · exact .inr ⟨q, h.hd t0 tm (by omega)⟩
        · exact .inl (by omega)
    · rw [hlenA] at hb'; omega
  · rw [hlenA, List.range_succ, List.filter_append]
    rcases born_get hps hk with ⟨t0, g1, rfl⟩ | ⟨g1, rfl⟩
    · have tm := List.mem_of_getElem? g1
      obtain ⟨_,_,_,_, a5,_,_⟩ := adj_same (ps := ps) (K := tk.length) (p := k) (t := t0)
      rw [a5, h.pa k t0 g1, List.filter_cons, hgx, ladj2, lx1 _ (hfr t0 tm)]
      simp only [Bool.false_eq_true, if_false, List.filter_nil, List.append_nil]
      refine List.filter_congr fun i hi => ?_
      rw [(hgd i (List.mem_range.1 hi)).1, ladj]
    · rw [List.filter_cons, hgx, lx2, decide_eq_false (fun z => by omega)]
      simp only [Bool.false_eq_true, if_false, List.filter_nil, List.append_nil]
      refine (xpa.trans hps0).trans ?_
      unfold parOf parB
      by_cases q : N = 0
      · rw [if_pos q]
        refine (List.filter_eq_nil_iff.2 fun i hi => ?_).symm
        rw [lx2, decide_eq_false (fun z => by omega)]; decide
      · rw [if_neg q]
        refine List.filter_congr fun i hi => ?_
        rw [(hgd i (List.mem_range.1 hi)).1, ladj1, lx2]
        exact decide_eq_decide.2 ⟨fun z => ⟨by omega, z⟩, fun z => z.2⟩
  · rw [hlenA, List.range_succ, List.filter_append]
    rcases born_get hps hk with ⟨t0, g1, rfl⟩ | ⟨g1, rfl⟩
    · have tm := List.mem_of_getElem? g1
      have hkl := (List.getElem?_eq_some_iff.1 g1).1
      rw [List.filter_cons, hgx, ladj1, lx2]
      have e1 : (List.range tk.length).filter (fun i => lnkT E (adj ps tk.length k t0) ((addCh (tk ++ [x]) ps tk.length).getD i zT)) = t0.ch := by
        rw [h.ch k t0 g1]
        refine List.filter_congr fun i hi => ?_
        rw [(hgd i (List.mem_range.1 hi)).1, ladj]
      rw [e1]
      have e2 := hpsm k hkl
      rw [getD_of g1] at e2
      unfold adj
      by_cases q : k ∈ ps
      · rw [if_pos q, decide_eq_true (e2.1 q)]; rfl
      · rw [if_neg q, decide_eq_false (fun z => q (e2.2 z))]; simp
    · rw [List.filter_cons, hgx, lx1 _ (by omega), xch]
      simp only [Bool.false_eq_true, if_false, List.filter_nil, List.append_nil]
      refine (List.filter_eq_nil_iff.2 fun i hi => ?_).symm
      obtain ⟨g3, g4⟩ := hgd i (List.mem_range.1 hi)
      rw [g3, ladj2, lx1 _ (hfr _ g4)]; decide
theorem TInvQ.birth (h : TInvQ E Ms j tk of) (hN : Ms.length = N + 1) (hj : j < Ms.getD N 0) (hg : 0 < N → GoodEv (Ms.getD (N - 1) 0) (Ms.getD N 0) (E.getD N [])) : TInvQ E Ms (j + 1) (birthM N (E.getD N []) (tk, of) j).1 (birthM N (E.getD N []) (tk, of) j).2 := by
  unfold birthM
  by_cases q : newB N (E.getD N []) j = true
  · rw [if_pos q]; exact h.born hN hj hg q
  · rw [if_neg q]; exact h.skip hN q
theorem TInvQ.births (h : TInvQ E Ms 0 tk of) (hN : Ms.length = N + 1) (hg : 0 < N → GoodEv (Ms.getD (N - 1) 0) (Ms.getD N 0) (E.getD N [])) : ∀ k, k ≤ Ms.getD N 0 → TInvQ E Ms k (birthsM N (E.getD N []) (tk, of) k).1 (birthsM N (E.getD N []) (tk, of) k).2
  | 0,_ => h
  | k + 1, hk => (TInvQ.births h hN hg k (by omega)).birth hN (by omega) hg
theorem TInvQ.done (h : TInvQ E Ms (Ms.getD N 0) tk of) (hN : Ms.length = N + 1) : TInv E Ms tk of := ⟨by rw [hN]; exact h⟩
/-- From whom a new history comes. -/
theorem TInvQ.parents (h : TInvQ E Ms j tk of) (hN : Ms.length = n + 2) (hg : GoodEv (Ms.getD n 0) (Ms.getD (n + 1) 0) (E.getD (n + 1) [])) {e : EvM} (he : e ∈ E.getD (n + 1) []) (hk : e.kd ≠ 4) :
    (∀ i, i ∈ e.f → ∃ k, of (n, i) = some k ∧ k < tk.length) ∧ (e.f.map fun i => (of (n, i)).getD 0).Nodup ∧ ∀ x, x ∈ (e.f.map fun i => (of (n, i)).getD 0) ↔ x ∈ parB tk (n + 1) e.f := by
  have hb := h.base
  rw [hN] at hb
  have tot : ∀ i, i ∈ e.f → ∃ k, of (n, i) = some k ∧ k < tk.length := fun i hi => by
    obtain ⟨k, z⟩ := h.tot n i (by omega) ((hg.fs e he).2 i hi) (.inl (by omega))
    exact ⟨k, z, (h.base.lt z).2⟩
  have key : ∀ i k, i ∈ e.f → of (n, i) = some k → ∃ t, tk[k]? = some t ∧ t.up = n + 1 ∧ t.last = i := fun i k hi hs => by
    obtain ⟨t, t1, t2, t3⟩ := (hb.ofi n i k).1 hs
    have tm := List.mem_of_getElem? t1
    have hp := hb.pos t tm
    have hl := (List.getElem?_eq_some_iff.1 t3).1
    unfold TkM.up at hp
    by_cases q : t.fr + t.ar.length = n + 2
    · exfalso
      obtain ⟨b, hb'⟩ : ∃ b, t.ar[n - t.fr + 1]? = some b := ⟨_, List.getElem?_eq_getElem (by omega)⟩
      have hs := h.step t tm _ _ _ t3 hb'
      rw [show t.fr + (n - t.fr) + 1 = n + 1 by omega, hg.beh_eq he hi] at hs
      exact hk hs.1
    · refine ⟨t, t1, by unfold TkM.up; omega, ?_⟩
      rw [show n - t.fr = t.ar.length - 1 by omega, tk_last hp.1] at t3
      exact Option.some.inj t3
  refine ⟨tot, ?_, fun x => ?_⟩
  · refine List.pairwise_map.2 ((hg.fs e he).1.imp_of_mem fun {a b} ha hb' hab z => ?_)
    obtain ⟨ka, h1,_⟩ := tot a ha
    obtain ⟨kb, h2,_⟩ := tot b hb'
    rw [h1, h2] at z
    have z : ka = kb := z
    subst z
    obtain ⟨t, t1,_, t3⟩ := key a ka ha h1
    obtain ⟨t', t4,_, t6⟩ := key b ka hb' h2
    rw [t1] at t4
    have := Option.some.inj t4
    subst this
    omega
  · unfold parB
    rw [List.mem_map, List.mem_filter, List.mem_range, decide_eq_true_eq]
    constructor
    · rintro ⟨i, hi, rfl⟩
      obtain ⟨k, h1, h2⟩ := tot i hi
      obtain ⟨t, t1, t2, t3⟩ := key i k hi h1
      rw [h1]
      refine ⟨h2, ?_⟩
      show (tk.getD k zT).up = n + 1 ∧ (tk.getD k zT).last ∈ e.f
      rw [getD_of t1]
      exact ⟨t2, by rw [t3]; exact hi⟩
    · rintro ⟨h1, h2, h3⟩
      have e1 : tk[x]? = some tk[x] := List.getElem?_eq_getElem h1
      rw [getD_of e1] at h2 h3
      refine ⟨_, h3, ?_⟩
      have hp := hb.pos tk[x] (List.getElem_mem h1)
      have : of (n, tk[x].last) = some x := (hb.ofi n _ x).2 ⟨tk[x], e1, by unfold TkM.up at h2; omega, by
        rw [show n - tk[x].fr = tk[x].ar.length - 1 by unfold TkM.up at h2; omega]; exact tk_last hp.1⟩
      rw [this]; rfl
end
end Go.Proofs.Ytgemekpofpoopaa

namespace Go.Proofs.Ytgemekpofpoopaa
open Go.SL Go.Cell
set_option linter.unusedVariables false
section
variable {α : Type} [DecidableEq α] {κ : Nat → α} {n m : Nat}
theorem evsM_mem {e : EvM} (h : e ∈ evsM κ n m) : ∃ k, k < n + m ∧ (∀ j, j < k → κ j ≠ κ k) ∧ e.kd = kindM e.f.length e.t.length ∧ e.f = (List.range n).filter (fun i => decide (κ i = κ k)) ∧ e.t = (List.range m).filter (fun j => decide (κ (n + j) = κ k)) := by
  unfold evsM evT at h
  rw [List.map_map] at h
  obtain ⟨k, hk, rfl⟩ := List.mem_map.1 h
  obtain ⟨h1, h2⟩ := mem_firsts.1 hk
  refine ⟨k, h1, h2, rfl, ?_, ?_⟩
  · show (List.range (min (n + m) n)).filter _ = _
    rw [show min (n + m) n = n by omega]
  · show (List.range (n + m - n)).filter _ = _
    rw [show n + m - n = m by omega]
theorem evsM_good : GoodEv n m (evsM κ n m) := by
  refine ⟨fun e he => ?_, fun e he => ?_, fun e he => ?_, ?_, fun i hi => ?_, fun j hj => ?_⟩
  · obtain ⟨k, h1, h2, h3, h4, h5⟩ := evsM_mem he
    refine ⟨h3, ?_⟩
    by_cases q : k < n
    · have : k ∈ e.f := by rw [h4]; exact List.mem_filter.2 ⟨List.mem_range.2 q, by simp⟩
      have := List.length_pos_of_mem this; omega
    · have : k - n ∈ e.t := by rw [h5]; exact List.mem_filter.2 ⟨List.mem_range.2 (by omega), by simp [show n + (k - n) = k by omega]⟩
      have := List.length_pos_of_mem this; omega
  · obtain ⟨k, h1, h2, h3, h4, h5⟩ := evsM_mem he
    rw [h4]
    exact ⟨sorted_filter, fun i hi => List.mem_range.1 (List.mem_filter.1 hi).1⟩
  · obtain ⟨k, h1, h2, h3, h4, h5⟩ := evsM_mem he
    rw [h5]
    exact ⟨sorted_filter, fun i hi => List.mem_range.1 (List.mem_filter.1 hi).1⟩
  · unfold evsM evT
    rw [List.map_map]
    refine List.pairwise_map.2 ((firsts_nodup (κ := κ) (t := n + m)).imp_of_mem fun {a b} ha hb hab => ?_)
    have hne : κ a ≠ κ b := fun e => hab (firsts_eq ha hb e)
    refine ⟨fun i h1 h2 => ?_, fun j h1 h2 => ?_⟩
    · have h1 := (List.mem_filter.1 h1).2
      have h2 := (List.mem_filter.1 h2).2
      exact hne ((of_decide_eq_true h1).symm.trans (of_decide_eq_true h2))
    · have h1 := (List.mem_filter.1 h1).2
      have h2 := (List.mem_filter.1 h2).2
      exact hne ((of_decide_eq_true h1).symm.trans (of_decide_eq_true h2))
  · obtain ⟨k, k1, k2, k3⟩ := first_of κ i
    have hk : k ∈ firsts κ (n + m) := mem_firsts.2 ⟨by omega, by unfold isFirst at k3; exact of_decide_eq_true k3⟩
    refine ⟨{ evF κ n (n + m) k with kd := kindM (evF κ n (n + m) k).f.length (evF κ n (n + m) k).t.length }, ?_, ?_⟩
    · unfold evsM evT; rw [List.map_map]; exact List.mem_map.2 ⟨k, hk, rfl⟩
    · exact List.mem_filter.2 ⟨List.mem_range.2 (by omega), decide_eq_true k2.symm⟩
  · obtain ⟨k, k1, k2, k3⟩ := first_of κ (n + j)
    have hk : k ∈ firsts κ (n + m) := mem_firsts.2 ⟨by omega, by unfold isFirst at k3; exact of_decide_eq_true k3⟩
    refine ⟨{ evF κ n (n + m) k with kd := kindM (evF κ n (n + m) k).f.length (evF κ n (n + m) k).t.length }, ?_, ?_⟩
    · unfold evsM evT; rw [List.map_map]; exact List.mem_map.2 ⟨k, hk, rfl⟩
    · exact List.mem_filter.2 ⟨List.mem_range.2 (by omega), decide_eq_true k2.symm⟩
end
theorem EvP.good {W H r : Nat} {oa ob : List Int} {n m : Nat} {l : List EvM} (h : EvP W H r oa ob n m l) : GoodEv n m l := by
  obtain ⟨ld,_, rfl⟩ := h.ex
  exact evsM_good
end Go.Proofs.Ytgemekpofpoopaa

namespace Go.SL
set_option linter.unusedVariables false
open Go.RowKit
section
variable {P : Program} {β : Bs} {env : Env} {L L' : List Res}
variable {ty : TypeId} {pos : String} {aft : Array Edge} {dd : Option Nat}
/-- append(x, y...), x empty and owned, y read. -/
theorem HO.appN0 {α : Type} {f : α → List Value} {m : List α} (i : Nat) (LF : Res → List Res) {K : Value → List Res → Prop} {x y : Operand} {T T' E z by_ : Nat} {aT : Array TypeId} {zero : Value} {p q : Option Addr} {n2 cap c2 : Nat} (hT : IsSlice P T E) (hT' : IsSlice P T' E) (hE : EInfo P E z by_ zero) (hx : OV env x (.slice p 0 cap)) (hy : OV env y (.slice q n2 c2))
    (hi : L[i]? = some (own E z p cap [])) (hq : ∀ w, St β L w → Go.SL.Rows w z q (m.map f)) (hz : ∀ a, (f a).length = z) (h1 : ∀ a, allOne (f a) = true) (ha0 : aT[0]? = some T) (ha1 : aT[1]? = some T') (hL : ∀ R : Res, L.set i R = LF R) (hn2 : n2 = m.length) (hs : (2 * n2 + 768) * by_ ≤ 281474976710656)
    (k : ∀ p' cap', (m ≠ [] ∨ p ≠ none → p' ≠ none) → K (.slice p' n2 cap') (LF (own E z p' cap' (m.map f)))) : HO P β env L ⟨dd, .call ⟨.builtin .append, #[x, y], aT⟩, ty, pos, aft, none⟩ K :=
  HO.appN (f := f) (l := []) (m := m) i LF hT hT' hE hx hy hi hq hz h1 ha0 ha1 hL rfl hn2 (by rw [Nat.zero_add]; exact hs) (fun p' c' h => by rw [Nat.zero_add]; exact k p' c' h)
end
end Go.SL

namespace Go.Proofs.Ytgemekpofpoopaa
open Go.SL Go.Proofs Go.Cast Go.Cell
set_option linter.unusedVariables false


theorem K71 : Try.prog.cellsOf 71 = 2 := by kernel_rfl
section
variable {H : Type} {enc : TypeId × Value → H} {W : World}
theorem rd3 : RD enc Try.prog W 3 fun cs => ∃ n, cs = [.int .i64 n] ∧ kb .i64 n := RD.int Try.underlying3
theorem rd23 : RD enc Try.prog W 23 fun cs => ∃ g : Grid, cs = gridC g := fun n cs x hx => by
  obtain ⟨css, rfl, hlen,_, hp⟩ := trod_parts Try.underlying23 (zs := [1,1,1,1,1]) (by kernel_rfl) rfl (by kernel_rfl) hx
  match css, hlen with
  | [c0, c1, c2, c3, c4],_ =>
    obtain ⟨_,_, h0⟩ := hp 0 _ c0 rfl rfl
    obtain ⟨_,_, h1⟩ := hp 1 _ c1 rfl rfl
    obtain ⟨_,_, h2⟩ := hp 2 _ c2 rfl rfl
    obtain ⟨_,_, h3⟩ := hp 3 _ c3 rfl rfl
    obtain ⟨_,_, h4⟩ := hp 4 _ c4 rfl rfl
    obtain ⟨a, rfl, ha⟩ := rd3 _ _ _ h0
    obtain ⟨b, rfl, hb⟩ := rd3 _ _ _ h1
    obtain ⟨c, rfl, hc⟩ := rd3 _ _ _ h2
    obtain ⟨d, rfl, hd⟩ := rd3 _ _ _ h3
    obtain ⟨e, rfl, he⟩ := rd3 _ _ _ h4
    exact ⟨⟨a, b, c, d, e⟩, rfl⟩
theorem rd71 : RD enc Try.prog W 71 fun cs => ∃ s : Span, cs = s.cells ∧ True := fun n cs x hx => by
  obtain ⟨css, rfl, hlen,_, hp⟩ := trod_parts Try.underlying71 (zs := [1,1]) (by kernel_rfl) rfl (by kernel_rfl) hx
  match css, hlen with
  | [c0, c1],_ =>
    obtain ⟨_,_, h0⟩ := hp 0 _ c0 rfl rfl
    obtain ⟨_,_, h1⟩ := hp 1 _ c1 rfl rfl
    obtain ⟨a, rfl, ha⟩ := rd3 _ _ _ h0
    obtain ⟨b, rfl, hb⟩ := rd3 _ _ _ h1
    exact ⟨⟨a, b⟩, rfl, trivial⟩
theorem rd24 : RD enc Try.prog W 24 fun cs => ∃ (p : Option Addr) (cap : Nat) (l : List Span), cs = [.slice p l.length cap] ∧ Spans W p l := fun n cs x hx => by
  obtain ⟨p, cap, rows, rfl, h1, h2, h3⟩ := RD.slice Try.underlying24 K71 (by decide) rd71 _ _ _ hx
  obtain ⟨l, rfl, h5⟩ := rows_map (f := Span.cells) (Q := fun _ => True) (fun r hr => by obtain ⟨x, h6, h7⟩ := (h3 r hr).2; exact ⟨x, h6, h7⟩)
  exact ⟨p, cap, l, by simp, h2⟩
theorem rd26 : RD enc Try.prog W 26 fun cs => ∃ (g : Grid) (p : Option Addr) (cap : Nat) (l : List Span), cs = gridC g ++ [.slice p l.length cap] ∧ Spans W p l := fun n cs x hx => by
  obtain ⟨css, rfl, hlen,_, hp⟩ := trod_parts Try.underlying26 (zs := [5,1]) (by kernel_rfl) rfl (by kernel_rfl) hx
  match css, hlen with
  | [c0, c1],_ =>
    obtain ⟨_,_, h0⟩ := hp 0 _ c0 rfl rfl
    obtain ⟨_,_, h1⟩ := hp 1 _ c1 rfl rfl
    obtain ⟨g, rfl⟩ := rd23 _ _ _ h0
    obtain ⟨p, cap, l, rfl, hl⟩ := rd24 _ _ _ h1
    exact ⟨g, p, cap, l, rfl, hl⟩
end

end Go.Proofs.Ytgemekpofpoopaa
