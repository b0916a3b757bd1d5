/-
  A drawn region in which new blocks are laid whose order is open, whose chain may hold operations that have a declared value, and such as have a guard whose answer is known.
  Resources in another order, ahead of a tail that stays.
-/
import Derived.Test.YtdjflomhaljljaaKCNT03

namespace Go.SL
set_option linter.unusedVariables false
open Go.RowKit
/-- The operation is wanted: it has no guard, or one whose answer is known. -/
def GdK (ops : Array Oper) (env : Env) (o : Oper) : Prop := o.guard = none ∨ ∃ j want t, o.guard = some (j, want) ∧ (ops[j]?).bind (·.dst) = some t ∧ ev1 env t = some (.bool want)
def HYE (P : Program) (β : Bs) (N : Nat) (ds : List Deferred) (J : Nat → List Res) (Q : Exit → Act → World → Prop) (FT : List FS) (D : List Nat) (OPS : Array Oper) : Nat → Nat → List Oper → List (Option Nat) → Env → List Res → Prop
  | _,_, [],_, env, L => VE β N ds env L .normal Q
  | m, i, o :: r, some _ :: ms, env, L => HYE P β N ds J Q FT D OPS m (i + 1) r ms env L
  | m, i, o :: r, none :: ms, env, L =>
    (∃ s, isF FT i = some s ∧ ∀ b, (∀ w, St β (s.res b :: L) w → St β (J (m + 1)) w) ∧ HYE P β N ds J Q FT D OPS (m + 1) (i + 1) r ms ((s.d, s.val b) :: env) (s.res b :: L)) ∨
    (isF FT i = none ∧ GdK OPS env o ∧ (∀ d, o.dst = some d → d < N) ∧ ∀ X, HO P β env (L ++ X) o fun v L'' => (D.contains i = true → ∀ d, o.dst = some d → ev1 env d = some v) ∧ ∃ L', L'' = L' ++ X ∧ (∀ w, St β L' w → St β (J (m + 1)) w) ∧ HYE P β N ds J Q FT D OPS (m + 1) (i + 1) r ms (putE o v env) L')
  | _,_,_ :: _, [],_,_ => False

section
variable {P : Program} {ro : Option Nat} {β : Bs} {ds : List Deferred} {N : Nat} {J : Nat → List Res} {Q : Exit → Act → World → Prop} {FT : List FS} {D : List Nat} {OPS : Array Oper} {env : Env} {L : List Res}
theorem HYE.nil {m i : Nat} {ms : List (Option Nat)} (h : VE β N ds env L .normal Q) : HYE P β N ds J Q FT D OPS m i [] ms env L := h
theorem HYE.s {m i k : Nat} {o : Oper} {rest : List Oper} {ms : List (Option Nat)} (h : HYE P β N ds J Q FT D OPS m (i + 1) rest ms env L) : HYE P β N ds J Q FT D OPS m i (o :: rest) (some k :: ms) env L := h
theorem HYE.f {m i : Nat} {o : Oper} {rest : List Oper} {ms : List (Option Nat)} {s : FS} (hs : isF FT i = some s) (h : ∀ b, (∀ w, St β (s.res b :: L) w → St β (J (m + 1)) w) ∧ HYE P β N ds J Q FT D OPS (m + 1) (i + 1) rest ms ((s.d, s.val b) :: env) (s.res b :: L)) : HYE P β N ds J Q FT D OPS m i (o :: rest) (none :: ms) env L := .inl ⟨s, hs, h⟩
theorem HYE.h {m i d : Nat} {op : Op} {ty : TypeId} {pos : String} {aft : Array Edge} {rest : List Oper} {ms : List (Option Nat)} (hs : isF FT i = none) (hD : D.contains i = false) (hd : Nat.blt d N = true)
    (h : ∀ X, HO P β env (L ++ X) ⟨some d, op, ty, pos, aft, none⟩ fun v L'' => ∃ L', L'' = L' ++ X ∧ (∀ w, St β L' w → St β (J (m + 1)) w) ∧ HYE P β N ds J Q FT D OPS (m + 1) (i + 1) rest ms ((d, v) :: env) L') : HYE P β N ds J Q FT D OPS m i (⟨some d, op, ty, pos, aft, none⟩ :: rest) (none :: ms) env L :=
  .inr ⟨hs, .inl rfl, (fun d' hd' => by cases hd'; exact Nat.le_of_ble_eq_true hd), fun X => (h X).mono fun v L'' q => ⟨fun e => (by rw [hD] at e; cases e), q⟩⟩
theorem HYE.d {m i d : Nat} {op : Op} {ty : TypeId} {pos : String} {aft : Array Edge} {rest : List Oper} {ms : List (Option Nat)} (hs : isF FT i = none) (hd : Nat.blt d N = true)
    (h : ∀ X, HO P β env (L ++ X) ⟨some d, op, ty, pos, aft, none⟩ fun v L'' => ev1 env d = some v ∧ ∃ L', L'' = L' ++ X ∧ (∀ w, St β L' w → St β (J (m + 1)) w) ∧ HYE P β N ds J Q FT D OPS (m + 1) (i + 1) rest ms ((d, v) :: env) L') : HYE P β N ds J Q FT D OPS m i (⟨some d, op, ty, pos, aft, none⟩ :: rest) (none :: ms) env L :=
  .inr ⟨hs, .inl rfl, (fun d' hd' => by cases hd'; exact Nat.le_of_ble_eq_true hd), fun X => (h X).mono fun v L'' q => ⟨fun _ d' hd' => by cases hd'; exact q.1, q.2⟩⟩
theorem HYE.h0 {m i : Nat} {op : Op} {ty : TypeId} {pos : String} {aft : Array Edge} {rest : List Oper} {ms : List (Option Nat)} (hs : isF FT i = none)
    (h : ∀ X, HO P β env (L ++ X) ⟨none, op, ty, pos, aft, none⟩ fun v L'' => ∃ L', L'' = L' ++ X ∧ (∀ w, St β L' w → St β (J (m + 1)) w) ∧ HYE P β N ds J Q FT D OPS (m + 1) (i + 1) rest ms env L') : HYE P β N ds J Q FT D OPS m i (⟨none, op, ty, pos, aft, none⟩ :: rest) (none :: ms) env L :=
  .inr ⟨hs, .inl rfl, (fun d' hd' => by cases hd'), fun X => (h X).mono fun v L'' q => ⟨fun _ d' hd' => (by cases hd'), q⟩⟩
theorem HYE.hG {m i d j tt : Nat} {want : Bool} {op : Op} {ty : TypeId} {pos : String} {aft : Array Edge} {rest : List Oper} {ms : List (Option Nat)} (hs : isF FT i = none) (hD : D.contains i = false) (hd : Nat.blt d N = true) (hj : (OPS[j]?).bind (·.dst) = some tt) (ht : ev1 env tt = some (.bool want))
    (h : ∀ X, HO P β env (L ++ X) ⟨some d, op, ty, pos, aft, none⟩ fun v L'' => ∃ L', L'' = L' ++ X ∧ (∀ w, St β L' w → St β (J (m + 1)) w) ∧ HYE P β N ds J Q FT D OPS (m + 1) (i + 1) rest ms ((d, v) :: env) L') : HYE P β N ds J Q FT D OPS m i (⟨some d, op, ty, pos, aft, some (j, want)⟩ :: rest) (none :: ms) env L :=
  .inr ⟨hs, .inr ⟨j, want, tt, rfl, hj, ht⟩, (fun d' hd' => by cases hd'; exact Nat.le_of_ble_eq_true hd), fun X => HO.mono (o := ⟨some d, op, ty, pos, aft, some (j, want)⟩) (h X) fun v L'' q => ⟨fun e => (by rw [hD] at e; cases e), q⟩⟩
theorem HYE.dG {m i d j tt : Nat} {want : Bool} {op : Op} {ty : TypeId} {pos : String} {aft : Array Edge} {rest : List Oper} {ms : List (Option Nat)} (hs : isF FT i = none) (hd : Nat.blt d N = true) (hj : (OPS[j]?).bind (·.dst) = some tt) (ht : ev1 env tt = some (.bool want))
    (h : ∀ X, HO P β env (L ++ X) ⟨some d, op, ty, pos, aft, none⟩ fun v L'' => ev1 env d = some v ∧ ∃ L', L'' = L' ++ X ∧ (∀ w, St β L' w → St β (J (m + 1)) w) ∧ HYE P β N ds J Q FT D OPS (m + 1) (i + 1) rest ms ((d, v) :: env) L') : HYE P β N ds J Q FT D OPS m i (⟨some d, op, ty, pos, aft, some (j, want)⟩ :: rest) (none :: ms) env L :=
  .inr ⟨hs, .inr ⟨j, want, tt, rfl, hj, ht⟩, (fun d' hd' => by cases hd'; exact Nat.le_of_ble_eq_true hd), fun X => HO.mono (o := ⟨some d, op, ty, pos, aft, some (j, want)⟩) (h X) fun v L'' q => ⟨fun _ d' hd' => by cases hd'; exact q.1, q.2⟩⟩
theorem HYE.drop {l : List Oper} {ms : List (Option Nat)} {m p : Nat} : ∀ (k : Nat), HYE P β N ds J Q FT D OPS m p (l.drop p) (ms.drop p) env L → p + k ≤ l.length → (∀ i, p ≤ i → i < p + k → isLight ms i = true) → HYE P β N ds J Q FT D OPS m (p + k) (l.drop (p + k)) (ms.drop (p + k)) env L
  | 0, h,_,_ => h
  | k + 1, h, hk, hl => by
    have ih := HYE.drop k h (by omega) (fun i a b => hl i a (by omega))
    have hlt : p + k < l.length := by omega
    have hli := hl (p + k) (by omega) (by omega)
    rw [List.drop_eq_getElem_cons hlt] at ih
    cases q : ms[p + k]? with
    | none => simp [isLight, q] at hli
    | some x =>
      have hml : p + k < ms.length := (List.getElem?_eq_some_iff.1 q).1
      rw [List.drop_eq_getElem_cons hml] at ih
      have e : ms[p + k] = x := (List.getElem?_eq_some_iff.1 q).2
      rw [e] at ih
      cases x with
      | none => simp [isLight, q] at hli
      | some y => exact ih


structure HzE (P : Program) (β : Bs) (N : Nat) (ds : List Deferred) (J : Nat → List Res) (Q : Exit → Act → World → Prop) (FT : List FS) (D : List Nat) (l : List Oper) (ms : List (Option Nat)) (V : Nat → Value) (env : Env) (listed : Array Bool) (p : Nat) (eh : Env) (L : List Res) (E : List (FS × Nat)) (a : Act) (w : World) : Prop where
  lsz : listed.size = l.length
  size : a.tmps.size = N
  dfr : a.defers = ds
  st : St β (L ++ E.map fun x => x.1.res x.2) w
  hJ : ∀ w, St β L w → St β (J (rank ms p)) w
  hp : p ≤ l.length
  hy : HYE P β N ds J Q FT D l.toArray (rank ms p) p (l.drop p) (ms.drop p) (eh ++ envK l (mD D 0 ms) V env l.length) L
  eE : ∀ x, x ∈ E → x.1 ∈ FT ∧ p ≤ x.1.i
  en : (E.map fun x => x.1.i).Nodup
  hd : ∀ i, i < l.length → isHeavy ms i = true → (listed[i]? = some true ↔ i < p ∨ ∃ x, x ∈ E ∧ x.1.i = i)
  closed : ∀ j, listed[j]? = some true → ∀ i, i ∈ (clOf l).getD j [] → listed[i]? = some true
  sl : ∀ x, x ∈ E → a.tmps[x.1.d]? = some (x.1.val x.2)
  eh1 : ∀ t v, ev1 eh t = some v → a.tmps[t]? = some v
  eh2 : ∀ t, ev1 eh t = none → ∀ i, i < p → isHeavy ms i = true → dstIs l i t = false
  eh3 : ∀ t, ev1 eh t ≠ none → ∃ i, i < p ∧ isHeavy ms i = true ∧ dstIs l i t = true
  top : ∀ t k, ev1 eh t = none → (∀ s, s ∈ FT → s.d ≠ t) → k < l.length → isLight ms k = true → dstIs l k t = true → listed[k]? = some true → (∀ k', k' < l.length → isLight ms k' = true → dstIs l k' t = true → listed[k']? = some true → k' ≤ k) → a.tmps[t]? = some (V k)
  base : ∀ t, ev1 eh t = none → (∀ s, s ∈ FT → s.d ≠ t) → (∀ k, k < l.length → isLight ms k = true → dstIs l k t = true → listed[k]? ≠ some true) → ∀ v, ev1 env t = some v → a.tmps[t]? = some v
  de : ∀ i t, D.contains i = true → i < p → dstIs l i t = true → ev1 eh t = some (V i)

/-- The next of the chain was laid early: the chain goes on. -/
theorem HzE.catch {l : List Oper} {ms : List (Option Nat)} {js : List (List Nat)} {V : Nat → Value} {listed : Array Bool} {p : Nat} {eh : Env} {E : List (FS × Nat)} {a : Act} {w : World} (hc : ChkD l ms js FT D)
    (h : HzE P β N ds J Q FT D l ms V env listed p eh L E a w) {x : FS × Nat} (hx : x ∈ E) (hl : ∀ k, p ≤ k → k < x.1.i → isLight ms k = true) :
    ∃ eh' L' E', HzE P β N ds J Q FT D l ms V env listed (x.1.i + 1) eh' L' E' a w ∧ E'.length < E.length := by
  obtain ⟨hxF, hpx⟩ := h.eE x hx
  obtain ⟨hil, hhv, hdx⟩ := hc.fi x.1 hxF
  have hy := HYE.drop (x.1.i - p) h.hy (by omega) (fun k a b => hl k a (by omega))
  rw [show p + (x.1.i - p) = x.1.i by omega] at hy
  have hml : x.1.i < ms.length := by rw [hc.len]; exact hil
  have e2 : ms[x.1.i] = none := by
    have := hhv
    unfold isHeavy at this
    rw [List.getElem?_eq_getElem hml] at this
    cases q : ms[x.1.i] with
    | none => rfl
    | some y => rw [q] at this; cases this
  rw [List.drop_eq_getElem_cons hil, List.drop_eq_getElem_cons hml, e2] at hy
  have hF := isF_mem hc.ni hxF
  rcases hy with ⟨s, hs, hb⟩ | ⟨hn,_⟩
  · rw [hF] at hs
    cases hs
    obtain ⟨hb1, hb2⟩ := hb x.2
    obtain ⟨E1, E2, rfl⟩ := List.append_of_mem hx
    have hrk : rank ms x.1.i = rank ms p := rank_lights hpx (by omega) hl
    have hrk1 : rank ms (x.1.i + 1) = rank ms p + 1 := by rw [rank_succ hml, e2, hrk]; simp
    have hnd := h.en
    simp only [List.map_append, List.map_cons] at hnd
    have hne : ∀ y, y ∈ E1 ++ E2 → y.1.i ≠ x.1.i := fun y hy e => by
      have h2 := (List.nodup_append.1 hnd)
      rcases List.mem_append.1 hy with q | q
      · exact h2.2.2 _ (List.mem_map.2 ⟨y, q, rfl⟩) _ (by simp) e
      · exact (List.nodup_cons.1 h2.2.1).1 (List.mem_map.2 ⟨y, q, e⟩)
    have gt : ∀ y, y ∈ E1 ++ E2 → x.1.i + 1 ≤ y.1.i := fun y hy => by
      have hyE : y ∈ E1 ++ x :: E2 := by rcases List.mem_append.1 hy with q | q <;> simp [q]
      obtain ⟨hyF, hpy⟩ := h.eE y hyE
      have h1 := hne y hy
      rcases Nat.lt_or_ge y.1.i x.1.i with q | q
      · have h2 := hl y.1.i hpy q
        rcases light_or_heavy hc.len (hc.fi y.1 hyF).1 with ⟨_, b,_⟩ | ⟨b,_,_⟩
        · rw [(hc.fi y.1 hyF).2.1] at b; cases b
        · rw [b] at h2; cases h2
      · omega
    have hdi : ∀ t, dstIs l x.1.i t = Nat.beq x.1.d t := fun t => by
      unfold dstIs at hdx ⊢
      rw [List.getElem?_eq_getElem hil] at hdx ⊢
      cases q : (l[x.1.i]).dst with
      | none => simp [q] at hdx
      | some d' => simp only [q] at hdx ⊢; rw [Nat.eq_of_beq_eq_true hdx]
    refine ⟨(x.1.d, x.1.val x.2) :: eh, x.1.res x.2 :: L, E1 ++ E2, ⟨h.lsz, h.size, h.dfr, ?_, ?_, by omega, ?_, ?_, ?_, ?_, h.closed, ?_, ?_, ?_, ?_, ?_, ?_, ?_⟩, by simp⟩
    · refine h.st.of_perm ?_
      simp only [List.map_append, List.map_cons, List.cons_append, ← List.append_assoc]
      exact List.perm_middle
    · rw [hrk1]; exact hb1
    · rw [hrk1]; exact hb2
    · intro y hy
      have hyE : y ∈ E1 ++ x :: E2 := by rcases List.mem_append.1 hy with q | q <;> simp [q]
      exact ⟨(h.eE y hyE).1, gt y hy⟩
    · have h2 := (List.nodup_append.1 hnd)
      rw [List.map_append]
      refine List.nodup_append.2 ⟨h2.1, (List.nodup_cons.1 h2.2.1).2, fun a ha b hb => h2.2.2 a ha b (by simp [hb])⟩
    · intro i hi hh
      rw [h.hd i hi hh]
      constructor
      · rintro (q | ⟨y, hy, e⟩)
        · exact .inl (by omega)
        · by_cases r : y.1.i = x.1.i
          · exact .inl (by omega)
          · refine .inr ⟨y, ?_, e⟩
            rcases List.mem_append.1 hy with q | q
            · simp [q]
            · rcases List.mem_cons.1 q with rfl | q
              · exact absurd rfl r
              · simp [q]
      · rintro (q | ⟨y, hy, e⟩)
        · by_cases r : i = x.1.i
          · exact .inr ⟨x, by simp, r.symm⟩
          · left
            rcases Nat.lt_or_ge i p with s | s
            · exact s
            · have := hl i s (by omega)
              rcases light_or_heavy hc.len hi with ⟨_, b,_⟩ | ⟨b,_,_⟩
              · rw [b] at hh; cases hh
              · rw [b] at this; cases this
        · exact .inr ⟨y, by rcases List.mem_append.1 hy with q | q <;> simp [q], e⟩
    · intro y hy
      exact h.sl y (by rcases List.mem_append.1 hy with q | q <;> simp [q])
    · intro t v hv
      by_cases e : t = x.1.d
      · subst e
        rw [ev1_cons_eq] at hv
        cases hv
        exact h.sl x hx
      · rw [ev1_cons_ne e] at hv; exact h.eh1 t v hv
    · intro t hn i hi hh
      have e : t ≠ x.1.d := fun e => by subst e; rw [ev1_cons_eq] at hn; cases hn
      rw [ev1_cons_ne e] at hn
      by_cases r : i = x.1.i
      · rw [r, hdi]; exact beqne' e
      · refine h.eh2 t hn i ?_ hh
        rcases Nat.lt_or_ge i p with s | s
        · exact s
        · have := hl i s (by omega)
          rcases light_or_heavy hc.len (show i < l.length by omega) with ⟨_, b,_⟩ | ⟨b,_,_⟩
          · rw [b] at hh; cases hh
          · rw [b] at this; cases this
    · intro t hn
      by_cases e : t = x.1.d
      · subst e; exact ⟨x.1.i, by omega, hhv, hdx⟩
      · rw [ev1_cons_ne e] at hn
        obtain ⟨i, a, b, c⟩ := h.eh3 t hn
        exact ⟨i, by omega, b, c⟩
    · intro t k hn hs
      have e : t ≠ x.1.d := fun e => hs x.1 hxF e.symm
      rw [ev1_cons_ne e] at hn
      exact h.top t k hn hs
    · intro t hn hs
      have e : t ≠ x.1.d := fun e => hs x.1 hxF e.symm
      rw [ev1_cons_ne e] at hn
      exact h.base t hn hs
    · intro i t hi hip hd
      obtain ⟨g1, g2, g3, d, g4, g5⟩ := hc.dd i hi
      have e : t ≠ x.1.d := fun e => by
        have := hc.uq hi hd hil (by rw [e]; exact hdx)
        rw [← this, hF] at g3; cases g3
      rw [ev1_cons_ne e]
      refine h.de i t hi ?_ hd
      rcases Nat.lt_or_ge i p with s | s
      · exact s
      · exfalso
        have hne : i ≠ x.1.i := fun e => by rw [e, hF] at g3; cases g3
        have := hl i s (by omega)
        rcases light_or_heavy hc.len g1 with ⟨_, b,_⟩ | ⟨b,_,_⟩
        · rw [b] at g2; cases g2
        · rw [b] at this; cases this
  · rw [hF] at hn; cases hn

theorem HzE.norm {l : List Oper} {ms : List (Option Nat)} {js : List (List Nat)} {V : Nat → Value} {listed : Array Bool} {a : Act} {w : World} (hc : ChkD l ms js FT D) : ∀ (n : Nat) {p : Nat} {eh : Env} {L : List Res} {E : List (FS × Nat)}, E.length = n →
    HzE P β N ds J Q FT D l ms V env listed p eh L E a w → ∃ p' eh' L' E', HzE P β N ds J Q FT D l ms V env listed p' eh' L' E' a w ∧ Nrm l ms listed p' := by
  intro n
  induction n using Nat.strongRecOn with
  | _ n ih =>
    intro p eh L E hn h
    by_cases q : Nrm l ms listed p
    · exact ⟨p, eh, L, E, h, q⟩
    · unfold Nrm at q
      simp only [Classical.not_forall] at q
      obtain ⟨i, h1, h2, h3, h4, h5⟩ := q
      have h5 := Classical.not_not.1 h5
      rcases (h.hd i h2 h3).1 h5 with r | ⟨x, hx, e⟩
      · omega
      · subst e
        obtain ⟨eh', L', E', hz, hlt⟩ := h.catch hc hx h4
        exact ih E'.length (by omega) rfl hz

set_option maxHeartbeats 2000000 in
theorem HzE.step {l : List Oper} {ms : List (Option Nat)} {js : List (List Nat)} {L0 : List Res} {V : Nat → Value} {listed : Array Bool} {p : Nat} {eh : Env} {E : List (FS × Nat)} {a : Act} {w : World} {Q' : Exit → Act → World → Prop} (hc : ChkD l ms js FT D) (hJe : J = fun m => sel L0 (js.getD m []))
    (hV : ∀ k o m, l[k]? = some o → ms[k]? = some (some m) → ∃ d, o.dst = some d ∧ d < N ∧ ∀ L, (∀ w, St β L w → St β (J m) w) → OpOk P β l.toArray L o (envK l (mD D 0 ms) V env k) (V k))
    (hF : ∀ s, s ∈ FT → s.d < N ∧ ∃ o, l[s.i]? = some o ∧ FO P (envK l (mD D 0 ms) V env l.length) o s)
    (h : HzE P β N ds J Q FT D l ms V env listed p eh L E a w) (hn : Nrm l ms listed p) {i : Nat} (hi : i ∈ Region.ready .any l.toArray listed) {K : Act → World → Prop}
    (hK : ∀ p' eh' L' E' a' w', HzE P β N ds J Q FT D l ms V env (listed.setIfInBounds i true) p' eh' L' E' a' w' → K a' w') : wpOpIn (Wf ro) 0 P l.toArray Q' i K a w := by
  have hlen := hc.len
  simp only [Region.ready, List.mem_filter, List.mem_range, Bool.and_eq_true, Bool.not_eq_true'] at hi
  obtain ⟨hin, hnl, hready⟩ := hi
  have hil : i < l.length := by simpa using hin
  have hiz : i < listed.size := by rw [h.lsz]; exact hil
  obtain ⟨o, ho⟩ : ∃ o, l[i]? = some o := ⟨l[i], by simp [hil]⟩
  have hnot : listed[i]? ≠ some true := by
    intro e
    have : listed.getD i true = true := by simp [e]
    rw [this] at hnl; cases hnl
  have hdone : ∀ e, e ∈ o.after.toList → Region.binds .any e = true → listed[e.on]? = some true := by
    intro e he hb
    have h1 : (o.after.all fun e => !Region.binds .any e || listed.getD e.on false) = true := by simpa [ho] using hready
    have h2 := (Array.all_eq_true_iff_forall_mem.1 h1) e (by simpa using he)
    simp only [hb, Bool.not_true, Bool.false_or] at h2
    cases q : listed[e.on]? with
    | none => simp [q] at h2
    | some b => simp [q] at h2; rw [h2]
  obtain ⟨c1, c2, c3, c4, c5, c6⟩ := hc.ops i o ho
  have hcl : ∀ j, j ∈ (clOf l).getD i [] → listed[j]? = some true := by
    intro j hj
    obtain ⟨e, he, hb, hx⟩ := c2 j hj
    rcases hx with rfl | hx
    · exact hdone e he hb
    · exact h.closed _ (hdone e he hb) j hx
  have closed' : ∀ j, (listed.setIfInBounds i true)[j]? = some true → ∀ k, k ∈ (clOf l).getD j [] → (listed.setIfInBounds i true)[k]? = some true := by
    intro j hj k hk
    rw [get_set_true hiz] at hj ⊢
    rcases hj with rfl | hj
    · exact .inr (hcl k hk)
    · exact .inr (h.closed j hj k hk)
  have ho' : l.toArray[i]? = some o := by simpa using ho
  have dstI : ∀ d, o.dst = some d → ∀ t, dstIs l i t = Nat.beq d t := by
    intro d hd t; simp [dstIs, ho, hd]
  have hEl : ∀ x, x ∈ E → listed[x.1.i]? = some true := fun x hx => (h.hd _ (hc.fi x.1 (h.eE x hx).1).1 (hc.fi x.1 (h.eE x hx).1).2.1).2 (.inr ⟨x, hx, rfl⟩)
  have before : ∀ t, t ∈ readsOf l.toArray o → ∀ k, k < l.length → dstIs l k t = true → ahead ms k i = true → listed[k]? = some true := fun t ht k hk hw ha => by
    rcases (c6 t ht).1 k hk hw with ⟨_, q,_⟩ | ⟨_, q,_⟩
    · exact hcl k q
    · exact hcl k (q ha)
  have behind : ∀ t, t ∈ readsOf l.toArray o → ∀ k, k < l.length → D.contains k = false → dstIs l k t = true → ahead ms i k = true → listed[k]? ≠ some true := fun t ht k hk hD hw ha hl => by
    rcases (c6 t ht).1 k hk hw with ⟨q,_⟩ | ⟨_,_, q⟩
    · rw [hD] at q; cases q
    · exact hnot (h.closed k hl i (q ha))
  have declared : ∀ t, t ∈ readsOf l.toArray o → ∀ k, k < l.length → D.contains k = true → dstIs l k t = true → ev1 eh t = some (V k) ∧ k < i := fun t ht k hk hD hw => by
    rcases (c6 t ht).1 k hk hw with ⟨_, q, q2⟩ | ⟨q,_⟩
    · obtain ⟨g1, g2, g3,_⟩ := hc.dd k hD
      refine ⟨h.de k t hD ?_ hw, q2⟩
      rcases (h.hd k hk g2).1 (hcl k q) with r | ⟨x, hx, e⟩
      · exact r
      · rw [← e, isF_mem hc.ni (h.eE x hx).1] at g3; cases g3
    · rw [hD] at q; cases q
  unfold wpOpIn
  simp only [ho']
  rcases light_or_heavy hlen hil with ⟨hli, hhv, m, hm⟩ | ⟨hli, hhv, hm⟩
  · -- a light one
    obtain ⟨d, hd, hdN, hok⟩ := hV i o m ho hm
    have hfn : isF FT i = none := by
      cases q : isF FT i with
      | none => rfl
      | some s =>
        obtain ⟨h1, h2⟩ := isF_some q
        have := (hc.fi s h1).2.1
        rw [h2, hhv] at this; cases this
    have hnd : ∀ s, s ∈ FT → s.d ≠ d := (c5 d hd).2 hfn
    have hstage : rank ms p ≤ m := by
      rcases Nat.lt_or_ge m (rank ms p) with q | q
      · exfalso
        obtain ⟨j, hjp, hjh, hjr⟩ := rank_find (ms := ms) (m := m) p (by rw [hlen]; exact h.hp) q
        have hjl : j < l.length := Nat.lt_of_lt_of_le hjp h.hp
        rcases c4 m hm j hjl hjh with r | r
        · omega
        · exact hnot (h.closed j ((h.hd j hjl hjh).2 (.inl hjp)) i r)
      · exact q
    have hJm : ∀ w, St β (L ++ E.map fun x => x.1.res x.2) w → St β (J m) w := by
      intro w hw
      have h1 : St β L w := by
        have hw2 := hw.of_perm (List.perm_append_comm (l₁ := L) (l₂ := E.map fun x => x.1.res x.2))
        exact St.callG (L1 := E.map fun x => x.1.res x.2) (L2 := L) (R := []) (O := fun _ => False) hw2 (fun _ f => f.elim) (St.refl w)
      have := h.hJ w h1
      rw [hJe] at this ⊢
      exact J_mono hc.jn hc.js hstage this
    have hno : ev1 eh d = none := by
      cases q : ev1 eh d with
      | none => rfl
      | some v =>
        exfalso
        obtain ⟨k, hkp, hkh, hkd⟩ := h.eh3 d (by rw [q]; simp)
        have hkl : k < l.length := Nat.lt_of_lt_of_le hkp h.hp
        have hnl : isLight ms k = false := by
          rcases light_or_heavy hlen hkl with ⟨_, b,_⟩ | ⟨a,_,_⟩
          · rw [b] at hkh; cases hkh
          · exact a
        obtain ⟨_,_,_,_, g5,_⟩ := hc.ops k l[k] (by simp [hkl])
        have hkd' : l[k].dst = some d := by
          simp only [dstIs, List.getElem?_eq_getElem hkl] at hkd
          cases r : l[k].dst with
          | none => simp [r] at hkd
          | some d' => simp only [r] at hkd; rw [Nat.eq_of_beq_eq_true hkd]
        exact hnot (h.closed k ((h.hd k hkl hkh).2 (.inl hkp)) i ((g5 d hkd').1 i hil (by rw [dstI d hd]; exact Nat.beq_refl _) (by simp [ahead, hli, hnl])))
    have fin : ∀ w', St β (L ++ E.map fun x => x.1.res x.2) w' → HzE P β N ds J Q FT D l ms V env (listed.setIfInBounds i true) p eh L E (a.put (some d) (V i)) w' := by
      intro w' hs
      refine ⟨by simp [h.lsz], by simp [Act.put, h.size], h.dfr, hs, h.hJ, h.hp, h.hy, h.eE, h.en, ?_, closed', ?_, ?_, h.eh2, h.eh3, ?_, ?_, ?_⟩
      · intro k hk hkh
        rw [get_set_true hiz, ← h.hd k hk hkh]
        have : k ≠ i := fun e => by subst e; rw [hhv] at hkh; cases hkh
        simp [this]
      · intro x hx
        have e : x.1.d ≠ d := hnd x.1 (h.eE x hx).1
        simp only [Act.put]
        rw [Array.getElem?_setIfInBounds_ne (Ne.symm e)]
        exact h.sl x hx
      · intro t v hv
        have e : t ≠ d := fun e => by subst e; rw [hno] at hv; cases hv
        simp only [Act.put]
        rw [Array.getElem?_setIfInBounds_ne (Ne.symm e)]
        exact h.eh1 t v hv
      · intro t k hn hns hk hkl hkd hdn hmax
        by_cases e : t = d
        · subst e
          have hki : k = i := by
            have g := hmax i hil hli (by rw [dstI t hd]; exact Nat.beq_refl _) ((get_set_true hiz).2 (.inl rfl))
            rcases Nat.lt_or_ge i k with q | q
            · exfalso
              have hl' : listed[k]? = some true := by
                rcases (get_set_true hiz).1 hdn with e | e
                · omega
                · exact e
              obtain ⟨_,_,_,_, g5,_⟩ := hc.ops k l[k] (by simp [hk])
              have hkd' : l[k].dst = some t := by
                simp only [dstIs, List.getElem?_eq_getElem hk] at hkd
                cases r : l[k].dst with
                | none => simp [r] at hkd
                | some d' => simp only [r] at hkd; rw [Nat.eq_of_beq_eq_true hkd]
              exact hnot (h.closed k hl' i ((g5 t hkd').1 i hil (by rw [dstI t hd]; exact Nat.beq_refl _) (by simp only [ahead, hli, hkl, if_true]; exact Nat.ble_eq_true_of_le q)))
            · omega
          subst hki
          simp [Act.put, h.size, hdN]
        · have hki : k ≠ i := fun q => by subst q; rw [dstI d hd, beqne' e] at hkd; cases hkd
          simp only [Act.put]
          rw [Array.getElem?_setIfInBounds_ne (Ne.symm e)]
          refine h.top t k hn hns hk hkl hkd ?_ fun k' a b c d => hmax k' a b c ((get_set_true hiz).2 (.inr d))
          rcases (get_set_true hiz).1 hdn with q | q
          · exact absurd q hki
          · exact q
      · intro t hn hns hnone v hv
        have e : t ≠ d := fun q => by subst q; exact hnone i hil hli (by rw [dstI t hd]; exact Nat.beq_refl _) ((get_set_true hiz).2 (.inl rfl))
        simp only [Act.put]
        rw [Array.getElem?_setIfInBounds_ne (Ne.symm e)]
        exact h.base t hn hns (fun k a b c d => hnone k a b c ((get_set_true hiz).2 (.inr d))) v hv
      · exact h.de
    have rd : ∀ t, t ∈ readsOf l.toArray o → ∀ u, ev1 (envK l (mD D 0 ms) V env i) t = some u → a.tmps[t]? = some u := by
      intro t ht u hu
      by_cases hex : ∃ k, k < l.length ∧ D.contains k = true ∧ dstIs l k t = true
      · obtain ⟨k, hk, hD, hw⟩ := hex
        obtain ⟨d1, d2⟩ := declared t ht k hk hD hw
        have hm := h.eh1 t _ d1
        rcases ev1_envK l (mD D 0 ms) V env t u i hu with ⟨k', h1, h2, h3, h4, h5⟩ | ⟨h1, h2⟩
        · have := hc.uq hD hw (k := k') (by omega) h3
          subst this; rw [← h4]; exact hm
        · have := h1 k d2 (light_mD.2 (.inr ⟨by omega, hD⟩))
          rw [hw] at this; cases this
      have hnD : ∀ k, k < l.length → dstIs l k t = true → D.contains k = false := fun k hk hw => by
        cases q : D.contains k with
        | false => rfl
        | true => exact absurd ⟨k, hk, q, hw⟩ hex
      have hns : ∀ s, s ∈ FT → s.d ≠ t := (c6 t ht).2.1 (.inl hli)
      have hno : ev1 eh t = none := by
        cases q : ev1 eh t with
        | none => rfl
        | some v =>
          exfalso
          obtain ⟨k, hkp, hkh, hkd⟩ := h.eh3 t (by rw [q]; simp)
          have hkl : k < l.length := Nat.lt_of_lt_of_le hkp h.hp
          have hnl : isLight ms k = false := by
            rcases light_or_heavy hlen hkl with ⟨_, b,_⟩ | ⟨a,_,_⟩
            · rw [b] at hkh; cases hkh
            · exact a
          exact behind t ht k hkl (hnD k hkl hkd) hkd (by simp [ahead, hli, hnl]) ((h.hd k hkl hkh).2 (.inl hkp))
      have late : ∀ k', k' < l.length → isLight ms k' = true → dstIs l k' t = true → listed[k']? = some true → k' < i := by
        intro k' hk' hl' hd' hdn
        rcases Nat.lt_trichotomy k' i with q | q | q
        · exact q
        · subst q; exact absurd hdn hnot
        · exact absurd hdn (behind t ht k' hk' (hnD k' hk' hd') hd' (by simp only [ahead, hli, hl', if_true]; exact Nat.ble_eq_true_of_le q))
      rcases ev1_envK l (mD D 0 ms) V env t u i hu with ⟨k, h1, h2, h3, h4, h5⟩ | ⟨h1, h2⟩
      · rw [← h4]
        have h2' : isLight ms k = true := by
          rcases light_mD.1 h2 with q | ⟨_, q⟩
          · exact q
          · rw [hnD k (by omega) h3] at q; cases q
        refine h.top t k hno hns (by omega) h2' h3 (before t ht k (by omega) h3 (by simp only [ahead, hli, h2', if_true]; exact Nat.ble_eq_true_of_le h1)) fun k' a b c d => ?_
        rcases Nat.lt_or_ge k k' with q | q
        · have := h5 k' q (late k' a b c d) (light_mD.2 (.inl b))
          rw [c] at this; cases this
        · exact q
      · refine h.base t hno hns (fun k a b c d => ?_) u h2
        have := h1 k (late k a b c d) (light_mD.2 (.inl b))
        rw [c] at this; cases this
    have opr : ∀ x, x ∈ o.op.operands → ∀ u, ev (envK l (mD D 0 ms) V env i) x = some u → a.eval x = u := by
      intro x hx u hu
      cases x with
      | tmp t =>
        have := rd t (List.mem_append_left _ (List.mem_filterMap.2 ⟨.tmp t, by simpa using hx, rfl⟩)) u hu
        simp [Act.eval, this]
      | const c => simpa [ev, Act.eval] using hu
      | global g => simpa [ev, Act.eval] using hu
      | func f => simpa [ev, Act.eval] using hu
    have hok' := hok _ hJm
    generalize hVi : V i = vi at hok' fin
    rcases hok' with ⟨hg, hlo⟩ | ⟨j, want, t, u, c, v', hg, hj, ht, hgd, hlo, rfl⟩
    · rw [if_pos (by simp [Region.wanted, hg])]
      exact (hlo a w opr h.st).wp (ro := ro) (Q := Q') (K := K) fun w' hs => by rw [hd]; exact hK _ _ _ _ _ _ (fin w' hs)
    · have ht' : a.tmps[t]? = some u := rd t (List.mem_append_right _ (by rw [hg]; show t ∈ ((l.toArray[j]?).bind (·.dst)).toList; rw [hj]; simp)) u ht
      have hy : yielded l.toArray a.tmps j = vb u := by
        unfold yielded; rw [hj]; simp only [Option.bind_some, ht']; cases u <;> rfl
      simp only [Region.wanted, hg, hy]
      cases c with
      | true =>
        have hu := hgd.1 rfl
        subst hu
        simp only [vb, beq_self_eq_true, if_true]
        exact (hlo rfl a w opr h.st).wp (ro := ro) (Q := Q') (K := K) fun w' hs => by
          rw [hd]
          have := fin w' hs
          rw [show gv true v' = v' from rfl] at this
          exact hK _ _ _ _ _ _ this
      | false =>
        have hu := hgd.2 rfl
        have hne := vb_ne hu
        simp only [hne, Bool.false_eq_true, if_false]
        have := fin w h.st
        rw [show gv false v' = undef from rfl] at this
        rw [hd]
        exact ⟨fun _ _ => True.intro, hK _ _ _ _ _ _ this⟩
  · have hpi : p ≤ i := by
      rcases Nat.lt_or_ge i p with q | q
      · exact absurd ((h.hd i hil hhv).2 (.inl q)) hnot
      · exact q
    -- what the heavy ones read
    have rd : ∀ t, t ∈ readsOf l.toArray o → ∀ u, ev1 (eh ++ envK l (mD D 0 ms) V env l.length) t = some u → (ev1 eh t = none → ∀ s, s ∈ FT → s.d ≠ t) → a.tmps[t]? = some u := by
      intro t ht u hu hns
      rw [ev1_append] at hu
      cases q : ev1 eh t with
      | some v => rw [q] at hu; simp only [Option.some.injEq] at hu; subst hu; exact h.eh1 t v q
      | none =>
        rw [q] at hu
        simp only at hu
        have hnD : ∀ k, k < l.length → dstIs l k t = true → D.contains k = false := fun k hk hw => by
          cases r : D.contains k with
          | false => rfl
          | true => have := (declared t ht k hk r hw).1; rw [q] at this; cases this
        rcases ev1_envK l (mD D 0 ms) V env t u l.length hu with ⟨k, h1, h2, h3, h4, h5⟩ | ⟨h1, h2⟩
        · rw [← h4]
          have h2' : isLight ms k = true := by
            rcases light_mD.1 h2 with r | ⟨_, r⟩
            · exact r
            · rw [hnD k h1 h3] at r; cases r
          refine h.top t k q (hns q) h1 h2' h3 (before t ht k h1 h3 (by simp [ahead, hli, h2'])) fun k' a b c d => ?_
          rcases Nat.lt_or_ge k k' with r | r
          · have := h5 k' r a (light_mD.2 (.inl b))
            rw [c] at this; cases this
          · exact r
        · refine h.base t q (hns q) (fun k a b c d => ?_) u h2
          have := h1 k a (light_mD.2 (.inl b))
          rw [c] at this; cases this
    cases hf : isF FT i with
    | some s =>
      -- a new block
      obtain ⟨hsF, hsi⟩ := isF_some hf
      obtain ⟨hdN, o2, ho2, hfo⟩ := hF s hsF
      rw [hsi, ho] at ho2
      cases ho2
      obtain ⟨hdst, hg, hrun⟩ := hfo
      rw [if_pos (by simp [Region.wanted, hg])]
      have opr : ∀ x, x ∈ o.op.operands → ∀ u, ev (envK l (mD D 0 ms) V env l.length) x = some u → a.eval x = u := by
        intro x hx u hu
        cases x with
        | tmp t =>
          have ht : t ∈ readsOf l.toArray o := List.mem_append_left _ (List.mem_filterMap.2 ⟨.tmp t, by simpa using hx, rfl⟩)
          have hno : ev1 eh t = none := by
            cases q : ev1 eh t with
            | none => rfl
            | some v =>
              obtain ⟨k, hkp, hkh, hkd⟩ := h.eh3 t (by rw [q]; simp)
              have := (c6 t ht).2.2.1 (by rw [hf]; simp) k (Nat.lt_of_lt_of_le hkp h.hp) hkh
              rw [hkd] at this; cases this
          have := rd t ht u (by rw [ev1_append, hno]; exact hu) (fun _ => (c6 t ht).2.1 (.inr (by rw [hf]; simp)))
          simp [Act.eval, this]
        | const c => simpa [ev, Act.eval] using hu
        | global g => simpa [ev, Act.eval] using hu
        | func f => simpa [ev, Act.eval] using hu
      have hrun' := hrun a w opr
      have hho : HO P β (envK l (mD D 0 ms) V env l.length) (L ++ E.map fun x => x.1.res x.2) o fun v L' => ∃ b, v = s.val b ∧ L' = s.res b :: (L ++ E.map fun x => x.1.res x.2) := by
        intro a w hx hw
        exact .inl ⟨_,_,_,_, hrun a w hx, .inl rfl, ⟨w.heap.size, rfl, rfl⟩, hw.alloc _⟩
      refine hho.wp (ro := ro) (Q := Q') opr h.st fun v L' w' hk hst => ?_
      obtain ⟨b, rfl, rfl⟩ := hk
      have hfresh : ∀ x, x ∈ E → x.1.i ≠ i := fun x hx e => hnot (by rw [← e]; exact hEl x hx)
      have hold : ∀ t, ev1 eh t ≠ none → t ≠ s.d := fun t hne e => by
        obtain ⟨k, hkp, hkh, hkd⟩ := h.eh3 t hne
        have hkl : k < l.length := Nat.lt_of_lt_of_le hkp h.hp
        have hki : k ≠ i := by omega
        have hkd' : l[k].dst = some t := by
          simp only [dstIs, List.getElem?_eq_getElem hkl] at hkd
          cases r : l[k].dst with
          | none => simp [r] at hkd
          | some d' => simp only [r] at hkd; rw [Nat.eq_of_beq_eq_true hkd]
        cases q : isF FT k with
        | none => exact ((hc.ops k l[k] (by simp [hkl])).2.2.2.2.1 t hkd').2 q s hsF e.symm
        | some s2 =>
          obtain ⟨g1, g2⟩ := isF_some q
          have hd2 := (hc.fi s2 g1).2.2
          rw [g2] at hd2
          simp only [dstIs, List.getElem?_eq_getElem hkl, hkd'] at hd2
          have e2 : t = s2.d := Nat.eq_of_beq_eq_true hd2
          have := inj_of_nodup hc.nd g1 hsF (by show s2.d = s.d; rw [← e2, e])
          rw [this] at g2; omega
      refine hK p eh L ((s, b) :: E) _ w' ⟨by simp [h.lsz], by rw [hdst]; simp [Act.put, h.size], by rw [hdst]; exact h.dfr, ?_, h.hJ, h.hp, h.hy, ?_, ?_, ?_, closed', ?_, ?_, h.eh2, h.eh3, ?_, ?_, h.de⟩
      · exact hst.of_perm (by simpa using (List.perm_middle (a := s.res b) (l₁ := L) (l₂ := E.map fun x => x.1.res x.2)).symm)
      · intro x hx
        rcases List.mem_cons.1 hx with rfl | hx
        · exact ⟨hsF, by show p ≤ s.i; omega⟩
        · exact h.eE x hx
      · rw [List.map_cons, List.nodup_cons]
        refine ⟨fun hm => ?_, h.en⟩
        obtain ⟨x, hx, e⟩ := List.mem_map.1 hm
        exact hfresh x hx (by rw [e]; exact hsi)
      · intro k hk hkh
        rw [get_set_true hiz, h.hd k hk hkh]
        constructor
        · rintro (rfl | q | ⟨x, hx, e⟩)
          · exact .inr ⟨(s, b), by simp, hsi⟩
          · exact .inl q
          · exact .inr ⟨x, by simp [hx], e⟩
        · rintro (q | ⟨x, hx, e⟩)
          · exact .inr (.inl q)
          · rcases List.mem_cons.1 hx with rfl | hx
            · left; rw [← e]; exact hsi
            · exact .inr (.inr ⟨x, hx, e⟩)
      · intro x hx
        rw [hdst]
        rcases List.mem_cons.1 hx with rfl | hx
        · simp [Act.put, h.size, hdN]
        · have hne : x.1.d ≠ s.d := fun e => by
            have := inj_of_nodup hc.nd (h.eE x hx).1 hsF e
            exact hfresh x hx (by rw [this]; exact hsi)
          simp only [Act.put]
          rw [Array.getElem?_setIfInBounds_ne (Ne.symm hne)]
          exact h.sl x hx
      · intro t v hv
        rw [hdst]
        have e : t ≠ s.d := hold t (by rw [hv]; simp)
        simp only [Act.put]
        rw [Array.getElem?_setIfInBounds_ne (Ne.symm e)]
        exact h.eh1 t v hv
      · intro t k hn hns hk hkl hkd hdn hmax
        have hki : k ≠ i := fun e => by subst e; rw [hli] at hkl; cases hkl
        rw [hdst]
        simp only [Act.put]
        rw [Array.getElem?_setIfInBounds_ne (hns s hsF)]
        refine h.top t k hn hns hk hkl hkd ?_ fun k' a b c d => hmax k' a b c ((get_set_true hiz).2 (.inr d))
        rcases (get_set_true hiz).1 hdn with q | q
        · exact absurd q hki
        · exact q
      · intro t hn hns hnone v hv
        rw [hdst]
        simp only [Act.put]
        rw [Array.getElem?_setIfInBounds_ne (hns s hsF)]
        exact h.base t hn hns (fun k a b c d => hnone k a b c ((get_set_true hiz).2 (.inr d))) v hv
    | none =>
      -- the next of the chain
      have hall : ∀ k, k < i → isHeavy ms k = true → listed[k]? = some true := fun k hk hh => hcl k (c3 hhv hf k hk hh)
      have hlights : ∀ k, p ≤ k → k < i → isLight ms k = true := by
        -- the first heavy one behind p would be laid
        refine Classical.byContradiction fun hcon => ?_
        simp only [Classical.not_forall] at hcon
        obtain ⟨k, hk1, hk2, hk3⟩ := hcon
        have hmin : ∃ j, (p ≤ j ∧ j < i ∧ isLight ms j = false) ∧ ∀ j', p ≤ j' → j' < j → isLight ms j' = true := by
          have : ∀ n j, j = n → p ≤ j → j < i → isLight ms j = false → ∃ j, (p ≤ j ∧ j < i ∧ isLight ms j = false) ∧ ∀ j', p ≤ j' → j' < j → isLight ms j' = true := by
            intro n
            induction n using Nat.strongRecOn with
            | _ n ih =>
              rintro j rfl h1 h2 h3
              by_cases q : ∀ j', p ≤ j' → j' < j → isLight ms j' = true
              · exact ⟨j, ⟨h1, h2, h3⟩, q⟩
              · simp only [Classical.not_forall] at q
                obtain ⟨j', q1, q2, q3⟩ := q
                exact ih j' q2 j' rfl q1 (by omega) (by simpa using q3)
          exact this k k rfl hk1 hk2 (by simpa using hk3)
        obtain ⟨j, ⟨j1, j2, j3⟩, j4⟩ := hmin
        have hjl : j < l.length := by omega
        have hjh : isHeavy ms j = true := by
          rcases light_or_heavy hlen hjl with ⟨a,_,_⟩ | ⟨_, b,_⟩
          · rw [a] at j3; cases j3
          · exact b
        exact hn j j1 hjl hjh j4 (hall j j2 hjh)
      have hy := HYE.drop (i - p) h.hy (by omega) (fun k a b => hlights k a (by omega))
      rw [show p + (i - p) = i by omega] at hy
      have hml : i < ms.length := by omega
      have e1 : l[i] = o := by simpa [List.getElem?_eq_getElem hil] using ho
      have e2 : ms[i] = none := by simpa [List.getElem?_eq_getElem hml] using hm
      rw [List.drop_eq_getElem_cons hil, List.drop_eq_getElem_cons hml, e1, e2] at hy
      have hrk : rank ms i = rank ms p := rank_lights hpi (by omega) hlights
      have hrk1 : rank ms (i + 1) = rank ms p + 1 := by rw [rank_succ hml, e2, hrk]; simp
      rcases hy with ⟨s, hs,_⟩ | ⟨_, hg, hdN, hho⟩
      · rw [hf] at hs; cases hs
      have hnsE : ∀ t, t ∈ readsOf l.toArray o → ev1 eh t = none → ∀ s, s ∈ FT → s.d ≠ t := fun t ht hno s hs e => by
        have h1 := (c6 t ht).2.2.2 s hs e
        obtain ⟨g1, g2, g3⟩ := hc.fi s hs
        rw [e] at g3
        have h2 : s.i < p := by
          rcases Nat.lt_or_ge s.i p with q | q
          · exact q
          · have := hlights s.i q h1
            rcases light_or_heavy hlen g1 with ⟨_, b,_⟩ | ⟨b,_,_⟩
            · rw [b] at g2; cases g2
            · rw [b] at this; cases this
        have := h.eh2 t hno s.i h2 g2
        rw [g3] at this; cases this
      have opr : ∀ x, x ∈ o.op.operands → ∀ u, ev (eh ++ envK l (mD D 0 ms) V env l.length) x = some u → a.eval x = u := by
        intro x hx u hu
        cases x with
        | tmp t =>
          have ht : t ∈ readsOf l.toArray o := List.mem_append_left _ (List.mem_filterMap.2 ⟨.tmp t, by simpa using hx, rfl⟩)
          have := rd t ht u hu (hnsE t ht)
          simp [Act.eval, this]
        | const c => simpa [ev, Act.eval] using hu
        | global g => simpa [ev, Act.eval] using hu
        | func f => simpa [ev, Act.eval] using hu
      rw [if_pos (by
        rcases hg with hg | ⟨j, want, t, hg, hj, ht⟩
        · simp [Region.wanted, hg]
        · have hm : t ∈ readsOf l.toArray o := List.mem_append_right _ (by rw [hg]; show t ∈ ((l.toArray[j]?).bind (·.dst)).toList; rw [hj]; simp)
          have ht' : a.tmps[t]? = some (.bool want) := rd t hm _ ht (hnsE t hm)
          have hy : yielded l.toArray a.tmps j = some want := by unfold yielded; rw [hj]; simp only [Option.bind_some, ht']
          simp [Region.wanted, hg, hy])]
      refine ((hho (E.map fun x => x.1.res x.2)).wp (ro := ro) (Q := Q') opr h.st fun v L'' w' hk hs => ?_)
      obtain ⟨hkD, L', rfl, hk1, hk2⟩ := hk
      have envE : putE o v (eh ++ envK l (mD D 0 ms) V env l.length) = putE o v eh ++ envK l (mD D 0 ms) V env l.length := by
        unfold putE; cases o.dst <;> rfl
      have hnd : ∀ d, o.dst = some d → ∀ s, s ∈ FT → s.d ≠ d := fun d hd => (c5 d hd).2 hf
      have hgt : ∀ x, x ∈ E → i + 1 ≤ x.1.i := fun x hx => by
        have h1 := (h.eE x hx).2
        have hne : x.1.i ≠ i := fun e => hnot (by rw [← e]; exact hEl x hx)
        rcases Nat.lt_or_ge x.1.i i with q | q
        · have := hlights x.1.i h1 q
          obtain ⟨g1, g2,_⟩ := hc.fi x.1 (h.eE x hx).1
          rcases light_or_heavy hlen g1 with ⟨_, b,_⟩ | ⟨b,_,_⟩
          · rw [b] at g2; cases g2
          · rw [b] at this; cases this
        · omega
      refine hK (i + 1) (putE o v eh) L' E _ w' ⟨by simp [h.lsz], ?_, (by cases o.dst <;> exact h.dfr), hs, ?_, by omega, ?_, fun x hx => ⟨(h.eE x hx).1, hgt x hx⟩, h.en, ?_, closed', ?_, ?_, ?_, ?_, ?_, ?_, ?_⟩
      · cases q : o.dst with
        | none => exact h.size
        | some d => simp [Act.put, h.size]
      · rw [hrk1, ← hrk]; exact hrk ▸ hk1
      · rw [hrk1, ← envE]; exact hk2
      · intro k hk hkh
        rw [get_set_true hiz, h.hd k hk hkh]
        constructor
        · rintro (rfl | q | q)
          · exact .inl (by omega)
          · exact .inl (by omega)
          · exact .inr q
        · rintro (q | q)
          · by_cases r : k = i
            · exact .inl r
            · right; left
              rcases Nat.lt_or_ge k p with s | s
              · exact s
              · have := hlights k s (by omega)
                rcases light_or_heavy hlen hk with ⟨_, b,_⟩ | ⟨b,_,_⟩
                · rw [b] at hkh; cases hkh
                · rw [b] at this; cases this
          · exact .inr (.inr q)
      · intro x hx
        cases q : o.dst with
        | none => exact h.sl x hx
        | some d =>
          have e : x.1.d ≠ d := hnd d q x.1 (h.eE x hx).1
          simp only [Act.put]
          rw [Array.getElem?_setIfInBounds_ne (Ne.symm e)]
          exact h.sl x hx
      · intro t u hu
        unfold putE at hu
        cases q : o.dst with
        | none => simp only [q] at hu; exact h.eh1 t u hu
        | some d =>
          simp only [q] at hu
          by_cases e : t = d
          · subst e
            rw [ev1_cons_eq] at hu
            cases hu
            simp [Act.put, h.size, hdN t q]
          · rw [ev1_cons_ne e] at hu
            simp only [Act.put]
            rw [Array.getElem?_setIfInBounds_ne (Ne.symm e)]
            exact h.eh1 t u hu
      · intro t hn k hk hkh
        unfold putE at hn
        have hn' : ev1 eh t = none := by
          cases q : o.dst with
          | none => simpa only [q] using hn
          | some d =>
            simp only [q] at hn
            by_cases e : t = d
            · subst e; rw [ev1_cons_eq] at hn; cases hn
            · rwa [ev1_cons_ne e] at hn
        by_cases r : k = i
        · subst r
          cases q : o.dst with
          | none => simp [dstIs, ho, q]
          | some d =>
            rw [dstI d q]
            refine beqne' fun e => ?_
            subst e
            simp only [q] at hn
            rw [ev1_cons_eq] at hn
            cases hn
        · refine h.eh2 t hn' k ?_ hkh
          rcases Nat.lt_or_ge k p with s | s
          · exact s
          · exfalso
            have := hlights k s (by omega)
            rcases light_or_heavy hlen (k := k) (by omega) with ⟨_, b,_⟩ | ⟨b,_,_⟩
            · rw [b] at hkh; cases hkh
            · rw [b] at this; cases this
      · intro t hn
        unfold putE at hn
        cases q : o.dst with
        | none =>
          simp only [q] at hn
          obtain ⟨k, a, b, c⟩ := h.eh3 t hn
          exact ⟨k, by omega, b, c⟩
        | some d =>
          simp only [q] at hn
          by_cases e : t = d
          · subst e
            exact ⟨i, by omega, hhv, by rw [dstI t q]; exact Nat.beq_refl _⟩
          · rw [ev1_cons_ne e] at hn
            obtain ⟨k, a, b, c⟩ := h.eh3 t hn
            exact ⟨k, by omega, b, c⟩
      · intro t k hn hns hk hkl hkd hdn hmax
        have hki : k ≠ i := fun e => by subst e; rw [hli] at hkl; cases hkl
        unfold putE at hn
        have hn' : ev1 eh t = none ∧ ∀ d, o.dst = some d → t ≠ d := by
          cases q : o.dst with
          | none => exact ⟨by simpa only [q] using hn, by simp⟩
          | some d =>
            simp only [q] at hn
            by_cases e : t = d
            · subst e; rw [ev1_cons_eq] at hn; cases hn
            · exact ⟨by rwa [ev1_cons_ne e] at hn, fun d' hd' => by cases hd'; exact e⟩
        have hdn' : listed[k]? = some true := by
          rcases (get_set_true hiz).1 hdn with q | q
          · exact absurd q hki
          · exact q
        have := h.top t k hn'.1 hns hk hkl hkd hdn' fun k' a b c d => hmax k' a b c ((get_set_true hiz).2 (.inr d))
        cases q : o.dst with
        | none => exact this
        | some d =>
          simp only [Act.put]
          rw [Array.getElem?_setIfInBounds_ne (Ne.symm (hn'.2 d q))]
          exact this
      · intro t hn hns hnone u hu
        unfold putE at hn
        have hn' : ev1 eh t = none ∧ ∀ d, o.dst = some d → t ≠ d := by
          cases q : o.dst with
          | none => exact ⟨by simpa only [q] using hn, by simp⟩
          | some d =>
            simp only [q] at hn
            by_cases e : t = d
            · subst e; rw [ev1_cons_eq] at hn; cases hn
            · exact ⟨by rwa [ev1_cons_ne e] at hn, fun d' hd' => by cases hd'; exact e⟩
        have := h.base t hn'.1 hns (fun k a b c d => hnone k a b c ((get_set_true hiz).2 (.inr d))) u hu
        cases q : o.dst with
        | none => exact this
        | some d =>
          simp only [Act.put]
          rw [Array.getElem?_setIfInBounds_ne (Ne.symm (hn'.2 d q))]
          exact this
      · intro k t hD hk hw
        by_cases r : k = i
        · subst r
          have hdt : o.dst = some t := by
            simp only [dstIs, ho] at hw
            cases q : o.dst with
            | none => simp [q] at hw
            | some d => simp only [q] at hw; rw [Nat.eq_of_beq_eq_true hw]
          have hv := hkD hD t hdt
          unfold putE
          rw [hdt]
          simp only
          rw [ev1_cons_eq]
          rw [ev1_append] at hv
          cases q : ev1 eh t with
          | some u =>
            obtain ⟨k', a, b, c⟩ := h.eh3 t (by rw [q]; simp)
            have := hc.uq hD hw (k := k') (by omega) c
            omega
          | none =>
            rw [q] at hv
            simp only at hv
            rcases ev1_envK l (mD D 0 ms) V env t v l.length hv with ⟨k', h1, h2, h3, h4, h5⟩ | ⟨h1, h2⟩
            · have := hc.uq hD hw (k := k') h1 h3
              rw [← this, h4]
            · have := h1 k hil (light_mD.2 (.inr ⟨hml, hD⟩))
              rw [hw] at this; cases this
        · have hkp : k < p := by
            rcases Nat.lt_or_ge k p with s | s
            · exact s
            · exfalso
              have := hlights k s (by omega)
              obtain ⟨g1, g2,_⟩ := hc.dd k hD
              rcases light_or_heavy hlen g1 with ⟨_, b,_⟩ | ⟨b,_,_⟩
              · rw [b] at g2; cases g2
              · rw [b] at this; cases this
          have hm := h.de k t hD hkp hw
          unfold putE
          cases q : o.dst with
          | none => exact hm
          | some d =>
            have e : t ≠ d := fun e => r (hc.uq hD hw hil (by rw [dstI d q, e]; exact Nat.beq_refl _)).symm
            simp only
            rw [ev1_cons_ne e]; exact hm

theorem HzE.end_ {l : List Oper} {ms : List (Option Nat)} {js : List (List Nat)} {V : Nat → Value} {listed : Array Bool} {p : Nat} {eh : Env} {E : List (FS × Nat)} {a : Act} {w : World} (hc : ChkD l ms js FT D)
    (h : HzE P β N ds J Q FT D l ms V env listed p eh L E a w) (hn : Nrm l ms listed p) (hall : ∀ k, k < l.length → listed[k]? = some true) : Q .normal a w := by
  have hlen := hc.len
  have hl : ∀ k, p ≤ k → k < l.length → isLight ms k = true := by
    have : ∀ n k, k = n → p ≤ k → k < l.length → isLight ms k = true := by
      intro n
      induction n using Nat.strongRecOn with
      | _ n ih =>
        rintro k rfl h1 h2
        rcases light_or_heavy hlen h2 with ⟨a,_,_⟩ | ⟨_, b,_⟩
        · exact a
        · exact absurd (hall k h2) (hn k h1 h2 b fun j j1 j2 => ih j j2 j rfl j1 (by omega))
    exact fun k => this k k rfl
  have hE : E = [] := by
    cases E with
    | nil => rfl
    | cons x E =>
      exfalso
      obtain ⟨h1, h2⟩ := h.eE x (by simp)
      obtain ⟨g1, g2,_⟩ := hc.fi x.1 h1
      have := hl x.1.i h2 g1
      rcases light_or_heavy hlen g1 with ⟨_, b,_⟩ | ⟨b,_,_⟩
      · rw [b] at g2; cases g2
      · rw [b] at this; cases this
  subst hE
  have hx := HYE.drop (l.length - p) h.hy (by have := h.hp; omega) (fun k a b => hl k a (by have := h.hp; omega))
  rw [show p + (l.length - p) = l.length by have := h.hp; omega] at hx
  rw [List.drop_length] at hx
  have hst := h.st
  rw [List.map_nil, List.append_nil] at hst
  refine hx a w ⟨h.size, h.dfr, fun t u hu => ?_⟩ hst
  rw [ev1_append] at hu
  cases q : ev1 eh t with
  | some v => rw [q] at hu; simp only [Option.some.injEq] at hu; subst hu; exact h.eh1 t v q
  | none =>
    rw [q] at hu
    simp only at hu
    have hns : ∀ s, s ∈ FT → s.d ≠ t := fun s hs e => by
      obtain ⟨g1, g2, g3⟩ := hc.fi s hs
      rw [e] at g3
      have h2 : s.i < p := by
        rcases Nat.lt_or_ge s.i p with r | r
        · exact r
        · have := hl s.i r g1
          rcases light_or_heavy hlen g1 with ⟨_, b,_⟩ | ⟨b,_,_⟩
          · rw [b] at g2; cases g2
          · rw [b] at this; cases this
      have := h.eh2 t q s.i h2 g2
      rw [g3] at this; cases this
    have hnD : ∀ k, k < l.length → dstIs l k t = true → D.contains k = false := fun k hk hw => by
      cases r : D.contains k with
      | false => rfl
      | true =>
        obtain ⟨g1, g2,_⟩ := hc.dd k r
        have hkp : k < p := by
          rcases (h.hd k hk g2).1 (hall k hk) with s | ⟨x, hx,_⟩
          · exact s
          · cases hx
        have := h.de k t r hkp hw
        rw [q] at this; cases this
    rcases ev1_envK l (mD D 0 ms) V env t u l.length hu with ⟨k, h1, h2, h3, h4, h5⟩ | ⟨h1, h2⟩
    · rw [← h4]
      have h2' : isLight ms k = true := by
        rcases light_mD.1 h2 with r | ⟨_, r⟩
        · exact r
        · rw [hnD k h1 h3] at r; cases r
      refine h.top t k q hns h1 h2' h3 (hall k h1) fun k' a b c d => ?_
      rcases Nat.lt_or_ge k k' with r | r
      · have := h5 k' r a (light_mD.2 (.inl b))
        rw [c] at this; cases this
      · exact r
    · refine h.base t q hns (fun k a b c d => ?_) u h2
      have := h1 k a (light_mD.2 (.inl b))
      rw [c] at this; cases this

set_option maxHeartbeats 1000000 in
theorem VC.drawG (FT : List FS) (D : List Nat) (js : List (List Nat)) (ms : List (Option Nat)) {env' : Env} {id : Nat} {l : List Oper} (hm : P.follows .mixedOrders = true) (hc : chkD l ms js (FT.map fun s => (s.i, s.d)) D = true) (h0 : js.getD 0 [] = List.range L.length)
    (h : LXD P β N l.toArray (fun m => sel L (js.getD m [])) D 0 l ms env env') (hF : FOk P N l env' FT) (k : HYE P β N ds (fun m => sel L (js.getD m [])) Q FT D l.toArray 0 0 l ms env' L) :
    VC P ro β N ds env L (.region id l.toArray true) Q := by
  intro a w ha hw
  obtain ⟨V, hV1, hV2⟩ := h.vals
  have hC := ChkD.of hc
  subst hV1
  refine wpIn_region_any hm ?_
  have key : ∀ fuel listed p eh L' E a w, HzE P β N ds (fun m => sel L (js.getD m [])) Q FT D l ms V env listed p eh L' E a w → (∀ k, k < l.length → listed[k]? ≠ some true → 0 < fuel) → ((List.range l.length).filter fun k => !(listed[k]? == some true)).length ≤ fuel → wpAnyIn (Wf ro) 0 P .any l.toArray Q fuel listed a w := by
    intro fuel
    induction fuel with
    | zero =>
      intro listed p eh L' E a w hI0 hz _
      obtain ⟨p', eh', L'', E', hI, hn⟩ := hI0.norm hC _ rfl
      have hall : ∀ k, k < l.length → listed[k]? = some true := fun k hk => Classical.byContradiction fun hn => by have := hz k hk hn; omega
      refine ⟨?_, hI.end_ hC hn hall⟩
      simp only [Region.ready, List.filter_eq_nil_iff, List.mem_range, Bool.and_eq_true, Bool.not_eq_true', not_and]
      intro i hi hf
      have := hall i (by simpa using hi)
      simp [this] at hf
    | succ fuel ih =>
      intro listed p eh L' E a w hI0 hz hcnt
      obtain ⟨p', eh', L'', E', hI, hn⟩ := hI0.norm hC _ rfl
      refine ⟨fun hr => hI.end_ hC hn (ready_all hI.lsz (fun k o ho => (hC.ops k o ho).1) hr), fun i hi => ?_⟩
      refine hI.step hC rfl hV2 hF.mem hn hi fun p' eh' L'' E' a' w' hI' => ih _ _ _ _ _ _ _ hI' ?_ ?_
      · intro k hk hn
        rcases Nat.eq_zero_or_pos fuel with e | e
        · exfalso
          subst e
          simp only [Region.ready, List.mem_filter, List.mem_range, Bool.and_eq_true, Bool.not_eq_true'] at hi
          have hil : i < l.length := by simpa using hi.1
          have hiz : i < listed.size := by rw [hI.lsz]; exact hil
          rw [Ne, get_set_true hiz, not_or] at hn
          have hni : listed[i]? ≠ some true := fun e => by have h2 := hi.2.1; simp [e] at h2
          have m1 : i ∈ (List.range l.length).filter fun k => !(listed[k]? == some true) := by simp [hil, hni]
          have m2 : k ∈ (List.range l.length).filter fun k => !(listed[k]? == some true) := by simp [hk, hn.2]
          match hf : (List.range l.length).filter fun k => !(listed[k]? == some true), hcnt with
          | [],_ => rw [hf] at m1; simp at m1
          | [x],_ => rw [hf] at m1 m2; simp at m1 m2; exact hn.1 (by omega)
          | _ :: _ :: _, hcnt => simp at hcnt
        · exact e
      · simp only [Region.ready, List.mem_filter, List.mem_range, Bool.and_eq_true, Bool.not_eq_true'] at hi
        have hil : i < l.length := by simpa using hi.1
        have hiz : i < listed.size := by rw [hI.lsz]; exact hil
        have hni : listed[i]? ≠ some true := fun e => by have h2 := hi.2.1; simp [e] at h2
        have hlt2 : ((List.range l.length).filter fun k => !((listed.setIfInBounds i true)[k]? == some true)).length < ((List.range l.length).filter fun k => !(listed[k]? == some true)).length := by
          refine filter_lt (i := i) ?_ (by simp [hil]) ?_ ?_
          · intro k hk
            simp only [Bool.not_eq_true', beq_eq_false_iff_ne, ne_eq] at hk ⊢
            exact fun e => hk ((get_set_true hiz).2 (.inr e))
          · simpa using hni
          · simp [hiz]
        omega
  have hnone : ∀ j : Nat, (Array.replicate l.toArray.size false)[j]? ≠ some true := by
    intro j hj
    simp [Array.getElem?_replicate] at hj
  refine key _ _ 0 [] L [] _ _ ⟨by simp, ha.size, ha.dfr, (by rw [List.map_nil, List.append_nil]; exact hw.drew _), ?_, Nat.zero_le _, ?_, by simp, by simp, ?_, ?_, by simp, ?_, ?_, ?_, ?_, ?_, ?_⟩ ?_ ?_
  · intro w hw
    have : rank ms 0 = 0 := by simp [rank]
    rw [this]
    simp only [h0]
    refine hw.sel _ ?_
    have := hC.jn 0
    rwa [h0] at this
  · simpa [rank] using k
  · intro i _ _
    exact ⟨fun e => absurd e (hnone i), fun q => by rcases q with q | ⟨x, hx,_⟩; omega; cases hx⟩
  · intro j hj; exact absurd hj (hnone j)
  · intro t v hv; simp [ev1] at hv
  · intro t _ i hi; omega
  · intro t ht; simp [ev1] at ht
  · intro t k _ _ _ _ _ hl; exact absurd hl (hnone k)
  · intro t _ _ _ v hv; exact ha.get t v hv
  · intro i t _ hi; omega
  · intro k hk _
    simpa using Nat.lt_of_le_of_lt (Nat.zero_le _) hk
  · refine Nat.le_trans (List.length_filter_le _ _) ?_
    simp


end
end Go.SL

namespace Go.SL
set_option linter.unusedVariables false

theorem selKT {β : Bs} {L L1 L2 X : List Res} (is : List Nat) (hn : nodupB is = true) (h : sel L is = L1 ++ L2) (hlt : is.all (fun i => Nat.blt i L.length) = true) : ∀ w, St β (L ++ X) w → St β (L1 ++ (L2 ++ X)) w := fun w hw => by
  rw [← List.append_assoc, ← h]
  have hle : (sel L is).length = is.length := by unfold sel; exact List.length_map _
  have hb : ∀ j (hj : j < is.length), is[j] < L.length := fun j hj => Nat.le_of_ble_eq_true (List.all_eq_true.1 hlt _ (List.getElem_mem hj))
  have hfl : ∀ j (hj : j < is.length), is.getD j 0 = is[j] := fun j hj => by rw [List.getD_eq_getElem?_getD, List.getElem?_eq_getElem hj]; rfl
  refine hw.map (fun j => if j < is.length then is.getD j 0 else L.length + (j - is.length)) ?_ ?_
  · intro j l hjl hj hl
    by_cases h1 : j < is.length
    · by_cases h2 : l < is.length
      · rw [if_pos h1, if_pos h2, hfl j h1, hfl l h2]
        exact nodupB_spec hn j l h1 h2 hjl
      · rw [if_pos h1, if_neg h2, hfl j h1]
        have := hb j h1; omega
    · by_cases h2 : l < is.length
      · rw [if_neg h1, if_pos h2, hfl l h2]
        have := hb l h2; omega
      · rw [if_neg h1, if_neg h2]; omega
  · intro j r hr
    by_cases h1 : j < is.length
    · refine .inr ?_
      rw [if_pos h1, hfl j h1, List.getElem?_append_left (hb j h1)]
      rw [List.getElem?_append_left (by rw [hle]; exact h1)] at hr
      unfold sel at hr
      rw [List.getElem?_map, List.getElem?_eq_getElem h1] at hr
      simp only [Option.map_some, Option.some.injEq] at hr
      rw [List.getD_eq_getElem?_getD, List.getElem?_eq_getElem (hb j h1)] at hr
      rw [List.getElem?_eq_getElem (hb j h1), ← hr]; rfl
    · refine .inr ?_
      rw [if_neg h1, List.getElem?_append_right (by omega), show L.length + (j - is.length) - L.length = j - is.length by omega]
      rw [List.getElem?_append_right (by rw [hle]; omega), hle] at hr
      exact hr
theorem LXD.dg {P : Program} {β : Bs} {N : Nat} {ops : Array Oper} {J : Nat → List Res} {D : List Nat} {env env' : Env} {i d : Nat} {op : Op} {ty : TypeId} {pos : String} {aft : Array Edge} {q : Nat × Bool} {rest : List Oper} {ms : List (Option Nat)} (v : Value) (hD : D.contains i = true) (k : LXD P β N ops J D (i + 1) rest ms ((d, v) :: env) env') : LXD P β N ops J D i (⟨some d, op, ty, pos, aft, some q⟩ :: rest) (none :: ms) env env' := .inr ⟨hD, d, v, rfl, k⟩
end Go.SL
