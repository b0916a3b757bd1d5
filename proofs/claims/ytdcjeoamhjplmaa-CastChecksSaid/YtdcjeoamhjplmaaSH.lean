/-
  Regions whose order is drawn and that make or write memory: the operations that do so stand in one chain; the others may come at any time that the edges allow.
-/
import Derived.Test.YtdcjeoamhjplmaaSD
namespace Go.SL
set_option linter.unusedVariables false
open Go.RowKit

def emp : Res := ⟨fun _ => False, fun _ => True, fun _ _ => True.intro⟩
def sel (L : List Res) (is : List Nat) : List Res := is.map fun i => L.getD i emp

section
variable {P : Program} {ro : Option Nat} {β : Bs} {ds : List Deferred} {N : Nat} {L L' : List Res} {Q : Exit → Act → World → Prop}

theorem St.map {w : World} (f : Nat → Nat) (h : St β L w) (hf : ∀ j l, j ≠ l → j < L'.length → l < L'.length → f j ≠ f l) (hg : ∀ j r, L'[j]? = some r → r = emp ∨ L[f j]? = some r) : St β L' w := by
  have lt : ∀ (j : Nat) (r : Res), L'[j]? = some r → j < L'.length := fun j r hr => by
    rcases Nat.lt_or_ge j L'.length with q | q
    · exact q
    · simp [List.getElem?_eq_none q] at hr
  refine ⟨h.os, h.tape, h.output, h.size, h.fr, ?_, ?_, ?_⟩
  · intro j r hr
    rcases hg j r hr with rfl | hr'
    · exact True.intro
    · exact h.inv _ r hr'
  · intro j r hr k hk
    rcases hg j r hr with rfl | hr'
    · exact hk.elim
    · exact h.rng _ r hr' k hk
  · intro j l r s hjl hr hs k hk hk'
    rcases hg j r hr with rfl | hr'
    · exact hk
    · rcases hg l s hs with rfl | hs'
      · exact hk'
      · exact h.dis _ _ r s (hf j l hjl (lt j r hr) (lt l s hs)) hr' hs' k hk hk'

def nodupB : List Nat → Bool
  | [] => true
  | x :: xs => !xs.contains x && nodupB xs
theorem nodupB_spec : ∀ {l : List Nat}, nodupB l = true → ∀ (i j : Nat) (hi : i < l.length) (hj : j < l.length), i ≠ j → l[i] ≠ l[j]
  | [], _, i, j, hi, _, _ => by simp at hi
  | x :: xs, h, i, j, hi, hj, hij => by
    simp only [nodupB, Bool.and_eq_true, Bool.not_eq_true'] at h
    have hx : ∀ k (hk : k < xs.length), xs[k] ≠ x := fun k hk e => by
      have : xs.contains x = true := by simp only [List.contains_iff_mem]; exact e ▸ List.getElem_mem hk
      rw [h.1] at this; cases this
    cases i with
    | zero =>
      cases j with
      | zero => exact absurd rfl hij
      | succ j => simp at hj ⊢; exact (hx j hj).symm
    | succ i =>
      cases j with
      | zero => simp at hi ⊢; exact hx i hi
      | succ j => simp at hi hj ⊢; exact nodupB_spec h.2 i j hi hj (by omega)

/-- A choice of the resources. -/
theorem St.sel {w : World} (is : List Nat) (h : St β L w) (hn : nodupB is = true) : St β (sel L is) w := by
  refine h.map (fun j => is.getD j 0) ?_ ?_
  · intro j l hjl hj hl e
    simp [Go.SL.sel] at hj hl
    have := nodupB_spec hn j l hj hl hjl
    simp [List.getD, List.getElem?_eq_getElem hj, List.getElem?_eq_getElem hl] at e
    exact this e
  · intro j r hr
    simp only [Go.SL.sel, List.getElem?_map] at hr
    cases q : is[j]? with
    | none => simp [q] at hr
    | some i =>
      simp only [q, Option.map_some, Option.some.injEq] at hr
      simp only [List.getD, q, Option.getD_some]
      cases q' : L[i]? with
      | none => simp [List.getD, q'] at hr; exact .inl hr.symm
      | some r' => simp [List.getD, q'] at hr; subst hr; exact .inr rfl

/-- Of a choice a narrower one. -/
theorem St.sel_sub {w : World} {is js : List Nat} (h : St β (Go.SL.sel L is) w) (hn : nodupB js = true) (hs : js.all is.contains = true) : St β (Go.SL.sel L js) w := by
  have hidx : ∀ j, j < js.length → ∃ i, i < is.length ∧ is[i]? = js[j]? := by
    intro j hj
    have := List.all_eq_true.1 hs js[j] (List.getElem_mem hj)
    have hm : js[j] ∈ is := by simpa using this
    obtain ⟨i, hi, e⟩ := List.getElem_of_mem hm
    exact ⟨i, hi, by simp [hi, hj, e]⟩
  let f : Nat → Nat := fun j => if hj : j < js.length then (hidx j hj).choose else 0
  have hf : ∀ j, j < js.length → f j < is.length ∧ is[f j]? = js[j]? := by
    intro j hj
    have := (hidx j hj).choose_spec
    simp only [f, hj, dif_pos]
    exact this
  refine h.map f ?_ ?_
  · intro j l hjl hj hl e
    simp [Go.SL.sel] at hj hl
    have h1 := (hf j hj).2
    have h2 := (hf l hl).2
    rw [e, h2] at h1
    have := nodupB_spec hn j l hj hl hjl
    simp [List.getElem?_eq_getElem hj, List.getElem?_eq_getElem hl] at h1
    exact this h1.symm
  · intro j r hr
    have hj : j < js.length := by
      rcases Nat.lt_or_ge j js.length with q | q
      · exact q
      · simp [Go.SL.sel, List.getElem?_eq_none q] at hr
    right
    simp only [Go.SL.sel, List.getElem?_map] at hr ⊢
    rw [(hf j hj).2]
    exact hr
end

/-! ### The light ones, the heavy ones -/
/-- 'ms': of each operation: none: it is one of the chain; some m: it may come behind the first m of the chain, no later. 'J m': what stays of the resources behind the first m. -/
def LX (P : Program) (β : Bs) (N : Nat) (ops : Array Oper) (J : Nat → List Res) : List Oper → List (Option Nat) → Env → Env → Prop
  | [], _, env, env' => env = env'
  | o :: r, none :: ms, env, env' => LX P β N ops J r ms env env'
  | o :: r, some m :: ms, env, env' => ∃ d v, o.dst = some d ∧ d < N ∧ (∀ L, (∀ w, St β L w → St β (J m) w) → OpOk P β ops L o env v) ∧ LX P β N ops J r ms ((d, v) :: env) env'
  | _ :: _, [], _, _ => False

def putE (o : Oper) (v : Value) (env : Env) : Env := match o.dst with | some d => (d, v) :: env | none => env

def HX (P : Program) (β : Bs) (N : Nat) (ds : List Deferred) (J : Nat → List Res) (Q : Exit → Act → World → Prop) : Nat → List Oper → List (Option Nat) → Env → List Res → Prop
  | _, [], _, env, L => VE β N ds env L .normal Q
  | m, o :: r, some _ :: ms, env, L => HX P β N ds J Q m r ms env L
  | m, o :: r, none :: ms, env, L => o.guard = none ∧ (∀ d, o.dst = some d → d < N) ∧ HO P β env L o fun v L' => (∀ w, St β L' w → St β (J (m + 1)) w) ∧ HX P β N ds J Q (m + 1) r ms (putE o v env) L'
  | _, _ :: _, [], _, _ => False

section
variable {P : Program} {ro : Option Nat} {β : Bs} {ds : List Deferred} {N : Nat} {ops : Array Oper} {J : Nat → List Res} {Q : Exit → Act → World → Prop} {env env' : Env} {L : List Res}

theorem LX.nil {ms : List (Option Nat)} : LX P β N ops J [] ms env env := rfl
theorem LX.s {o : Oper} {rest : List Oper} {ms : List (Option Nat)} (k : LX P β N ops J rest ms env env') : LX P β N ops J (o :: rest) (none :: ms) env env' := k
theorem LX.l {m : Nat} {ms : List (Option Nat)} {d : Nat} {op : Op} {ty : TypeId} {pos : String} {aft : Array Edge} {rest : List Oper} {v : Value} (h : ∀ L, (∀ w, St β L w → St β (J m) w) → LO P β env L ⟨some d, op, ty, pos, aft, none⟩ v) (hd : Nat.blt d N = true)
    (k : LX P β N ops J rest ms ((d, v) :: env) env') : LX P β N ops J (⟨some d, op, ty, pos, aft, none⟩ :: rest) (some m :: ms) env env' :=
  ⟨d, v, rfl, Nat.le_of_ble_eq_true hd, fun L hL => .inl ⟨rfl, h L hL⟩, k⟩
theorem LX.lg {m : Nat} {ms : List (Option Nat)} {d j t : Nat} {want c : Bool} {op : Op} {ty : TypeId} {pos : String} {aft : Array Edge} {rest : List Oper} {v u : Value} (hj : (ops[j]?).bind (·.dst) = some t) (ht : ev1 env t = some u) (hg : GD u want c)
    (h : c = true → ∀ L, (∀ w, St β L w → St β (J m) w) → LO P β env L ⟨some d, op, ty, pos, aft, some (j, want)⟩ v) (hd : Nat.blt d N = true)
    (k : LX P β N ops J rest ms ((d, gv c v) :: env) env') : LX P β N ops J (⟨some d, op, ty, pos, aft, some (j, want)⟩ :: rest) (some m :: ms) env env' :=
  ⟨d, gv c v, rfl, Nat.le_of_ble_eq_true hd, fun L hL => .inr ⟨j, want, t, u, c, v, rfl, hj, ht, hg, fun hc => h hc L hL, rfl⟩, k⟩

theorem HX.nil {m : Nat} {ms : List (Option Nat)} (h : VE β N ds env L .normal Q) : HX P β N ds J Q m [] ms env L := h
theorem HX.s {m i : Nat} {o : Oper} {rest : List Oper} {ms : List (Option Nat)} (k : HX P β N ds J Q m rest ms env L) : HX P β N ds J Q m (o :: rest) (some i :: ms) env L := k
theorem HX.h {m : Nat} {ms : List (Option Nat)} {d : Nat} {op : Op} {ty : TypeId} {pos : String} {aft : Array Edge} {rest : List Oper} (hd : Nat.blt d N = true)
    (h : HO P β env L ⟨some d, op, ty, pos, aft, none⟩ fun v L' => (∀ w, St β L' w → St β (J (m + 1)) w) ∧ HX P β N ds J Q (m + 1) rest ms ((d, v) :: env) L') : HX P β N ds J Q m (⟨some d, op, ty, pos, aft, none⟩ :: rest) (none :: ms) env L :=
  ⟨rfl, fun d' e => by cases e; exact Nat.le_of_ble_eq_true hd, h⟩
theorem HX.h0 {m : Nat} {ms : List (Option Nat)} {op : Op} {ty : TypeId} {pos : String} {aft : Array Edge} {rest : List Oper}
    (h : HO P β env L ⟨none, op, ty, pos, aft, none⟩ fun v L' => (∀ w, St β L' w → St β (J (m + 1)) w) ∧ HX P β N ds J Q (m + 1) rest ms env L') : HX P β N ds J Q m (⟨none, op, ty, pos, aft, none⟩ :: rest) (none :: ms) env L :=
  ⟨rfl, fun d' e => (by cases e), h⟩
end

def isLight (ms : List (Option Nat)) (i : Nat) : Bool := match ms[i]? with | some (some _) => true | _ => false
def isHeavy (ms : List (Option Nat)) (i : Nat) : Bool := match ms[i]? with | some none => true | _ => false
/-- How many of the chain stand before i. -/
def rank (ms : List (Option Nat)) (i : Nat) : Nat := ((ms.take i).filter fun x => x.isNone).length
/-- i stands ahead of k where each of the light ones stands ahead of the chain. -/
def ahead (ms : List (Option Nat)) (i k : Nat) : Bool :=
  if isLight ms i then (if isLight ms k then Nat.blt i k else true) else (if isLight ms k then false else Nat.blt i k)

def chkH (l : List Oper) (ms : List (Option Nat)) (js : List (List Nat)) : Bool :=
  let cl := clOf l
  let n := l.length
  Nat.beq ms.length n && js.all nodupB && ((idxs js.length).all fun m => (js.getD (m + 1) []).all (js.getD m []).contains) &&
  (idxs n).all fun k =>
    match l[k]? with
    | none => false
    | some o =>
      o.after.toList.all (fun e => !Region.binds .any e || Nat.blt e.on k) &&
      (cl.getD k []).all (fun i => o.after.toList.any fun e => Region.binds .any e && (Nat.beq e.on i || (cl.getD e.on []).contains i)) &&
      o.after.toList.all (fun e => !Region.binds .any e || (cl.getD k []).contains e.on) &&
      (isLight ms k || (idxs n).all fun i => !isHeavy ms i || !Nat.blt i k || (cl.getD k []).contains i) &&
      (match ms.getD k none with | some m => (idxs n).all fun i => !isHeavy ms i || Nat.blt (rank ms i) m || (cl.getD i []).contains k | none => true) &&
      (match o.dst with
       | none => !isLight ms k
       | some d => (idxs n).all fun i => !dstIs l i d || !ahead ms i k || (cl.getD k []).contains i) &&
      (readsOf l.toArray o).all fun t => (idxs n).all fun i => !dstIs l i t || ((!ahead ms i k || (cl.getD k []).contains i) && (!ahead ms k i || (cl.getD i []).contains k))
/-! ### What the light ones lay, in the text's order -/
def envK (l : List Oper) (ms : List (Option Nat)) (V : Nat → Value) (env : Env) : Nat → Env
  | 0 => env
  | k + 1 => if isLight ms k then (match (l[k]?).bind (·.dst) with | some d => (d, V k) :: envK l ms V env k | none => envK l ms V env k) else envK l ms V env k

theorem isLight_cons {x : Option Nat} {ms : List (Option Nat)} {k : Nat} : isLight (x :: ms) (k + 1) = isLight ms k := by simp [isLight]

theorem envK_cons (o : Oper) (l : List Oper) (x : Option Nat) (ms : List (Option Nat)) (V : Nat → Value) (env env1 : Env) (h : envK (o :: l) (x :: ms) V env 1 = env1) : ∀ k, envK (o :: l) (x :: ms) V env (k + 1) = envK l ms (fun j => V (j + 1)) env1 k
  | 0 => by rw [h]; rfl
  | k + 1 => by
    have ih := envK_cons o l x ms V env env1 h k
    show (if isLight (x :: ms) (k + 1) then _ else _) = _
    rw [isLight_cons, ih]
    simp only [List.getElem?_cons_succ]
    rfl

section
variable {P : Program} {ro : Option Nat} {β : Bs} {ds : List Deferred} {N : Nat} {ops : Array Oper} {J : Nat → List Res} {Q : Exit → Act → World → Prop}

def shiftV (v : Value) (V : Nat → Value) : Nat → Value
  | 0 => v
  | j + 1 => V j

theorem LX.vals : ∀ {l : List Oper} {ms : List (Option Nat)} {env env' : Env}, LX P β N ops J l ms env env' →
    ∃ V : Nat → Value, env' = envK l ms V env l.length ∧ ∀ k o m, l[k]? = some o → ms[k]? = some (some m) → ∃ d, o.dst = some d ∧ d < N ∧ ∀ L, (∀ w, St β L w → St β (J m) w) → OpOk P β ops L o (envK l ms V env k) (V k)
  | [], ms, env, env', h => ⟨fun _ => undef, h.symm, by simp⟩
  | o :: r, none :: ms, env, env', h => by
    obtain ⟨V, h1, h2⟩ := LX.vals (l := r) (ms := ms) h
    have e : envK (o :: r) (none :: ms) (shiftV undef V) env 1 = env := by simp [envK, isLight]
    have ec := envK_cons o r none ms (shiftV undef V) env env e
    refine ⟨shiftV undef V, ?_, ?_⟩
    · simp only [List.length_cons]; rw [ec]; exact h1
    · intro k o' m hk hm
      cases k with
      | zero => simp at hm
      | succ k =>
        simp only [List.getElem?_cons_succ] at hk hm
        rw [ec]
        exact h2 k o' m hk hm
  | o :: r, some m0 :: ms, env, env', ⟨d, v, hd, hN, hok, hr⟩ => by
    obtain ⟨V, h1, h2⟩ := LX.vals (l := r) (ms := ms) hr
    have e : envK (o :: r) (some m0 :: ms) (shiftV v V) env 1 = (d, v) :: env := by simp [envK, isLight, hd, shiftV]
    have ec := envK_cons o r (some m0) ms (shiftV v V) env _ e
    refine ⟨shiftV v V, ?_, ?_⟩
    · simp only [List.length_cons]; rw [ec]; exact h1
    · intro k o' m hk hm
      cases k with
      | zero =>
        simp at hk hm
        subst hk; subst hm
        exact ⟨d, hd, hN, fun L hL => hok L hL⟩
      | succ k =>
        simp only [List.getElem?_cons_succ] at hk hm
        rw [ec]
        exact h2 k o' m hk hm

theorem ev1_envK (l : List Oper) (ms : List (Option Nat)) (V : Nat → Value) (env : Env) (t : Nat) (u : Value) : ∀ k, ev1 (envK l ms V env k) t = some u →
    (∃ i, i < k ∧ isLight ms i = true ∧ dstIs l i t = true ∧ V i = u ∧ ∀ i', i < i' → i' < k → isLight ms i' = true → dstIs l i' t = false) ∨
    ((∀ i, i < k → isLight ms i = true → dstIs l i t = false) ∧ ev1 env t = some u)
  | 0, h => .inr ⟨fun i hi => by omega, h⟩
  | k + 1, h => by
    by_cases hl : isLight ms k = true
    · cases hd : (l[k]?).bind (·.dst) with
      | none =>
        have hdk : ∀ t, dstIs l k t = false := by
          intro t
          unfold dstIs
          cases q : l[k]? with
          | none => rfl
          | some o => simp [q] at hd; simp [hd]
        simp only [envK, hl, if_true, hd] at h
        rcases ev1_envK l ms V env t u k h with ⟨i, h1, h2, h3, h4, h5⟩ | ⟨h1, h2⟩
        · refine .inl ⟨i, by omega, h2, h3, h4, fun i' a b c => ?_⟩
          by_cases q : i' = k
          · subst q; exact hdk t
          · exact h5 i' a (by omega) c
        · refine .inr ⟨fun i a b => ?_, h2⟩
          by_cases q : i = k
          · subst q; exact hdk t
          · exact h1 i (by omega) b
      | some d =>
        have hdk : ∀ t, dstIs l k t = Nat.beq d t := by
          intro t
          unfold dstIs
          cases q : l[k]? with
          | none => simp [q] at hd
          | some o => simp [q] at hd; simp [hd]
        simp only [envK, hl, if_true, hd] at h
        by_cases e : t = d
        · subst e
          rw [ev1_cons_eq] at h
          exact .inl ⟨k, by omega, hl, by rw [hdk]; exact Nat.beq_refl _, by simpa using h, fun i' a b => by omega⟩
        · rw [ev1_cons_ne e] at h
          have hne : Nat.beq d t = false := by
            cases q : Nat.beq d t
            · rfl
            · exact absurd (Nat.eq_of_beq_eq_true q).symm e
          rcases ev1_envK l ms V env t u k h with ⟨i, h1, h2, h3, h4, h5⟩ | ⟨h1, h2⟩
          · refine .inl ⟨i, by omega, h2, h3, h4, fun i' a b c => ?_⟩
            by_cases q : i' = k
            · subst q; rw [hdk]; exact hne
            · exact h5 i' a (by omega) c
          · refine .inr ⟨fun i a b => ?_, h2⟩
            by_cases q : i = k
            · subst q; rw [hdk]; exact hne
            · exact h1 i (by omega) b
    · simp only [envK, hl, Bool.false_eq_true, if_false] at h
      rcases ev1_envK l ms V env t u k h with ⟨i, h1, h2, h3, h4, h5⟩ | ⟨h1, h2⟩
      · refine .inl ⟨i, by omega, h2, h3, h4, fun i' a b c => ?_⟩
        by_cases q : i' = k
        · subst q; exact absurd c hl
        · exact h5 i' a (by omega) c
      · refine .inr ⟨fun i a b => ?_, h2⟩
        by_cases q : i = k
        · subst q; exact absurd b hl
        · exact h1 i (by omega) b

theorem ev1_append (e e' : Env) (t : Nat) : ev1 (e ++ e') t = match ev1 e t with | some v => some v | none => ev1 e' t := by
  induction e with
  | nil => rfl
  | cons x e ih =>
    obtain ⟨j, v⟩ := x
    by_cases h : t = j
    · subst h; simp [ev1_cons_eq]
    · simp [ev1_cons_ne h, ih]

/-- The chain goes on behind light ones. -/
theorem HX.drop {l : List Oper} {ms : List (Option Nat)} {m : Nat} {env : Env} {L : List Res} {p : Nat} : ∀ (k : Nat), HX P β N ds J Q m (l.drop p) (ms.drop p) env L → p + k ≤ l.length → (∀ i, p ≤ i → i < p + k → isLight ms i = true) → HX P β N ds J Q m (l.drop (p + k)) (ms.drop (p + k)) env L
  | 0, h, _, _ => h
  | k + 1, h, hle, hl => by
    have ih := HX.drop k h (by omega) (fun i a b => hl i a (by omega))
    have hlt : p + k < l.length := by omega
    have hm := hl (p + k) (by omega) (by omega)
    unfold isLight at hm
    cases q : ms[p + k]? with
    | none => simp [q] at hm
    | some x =>
      cases x with
      | none => simp [q] at hm
      | some y =>
        have hml : p + k < ms.length := by
          rcases Nat.lt_or_ge (p + k) ms.length with r | r
          · exact r
          · simp [List.getElem?_eq_none r] at q
        have e1 : ms[p + k] = some y := by simpa [List.getElem?_eq_getElem hml] using q
        rw [List.drop_eq_getElem_cons hlt, List.drop_eq_getElem_cons hml, e1] at ih
        exact ih

structure Hv (P : Program) (β : Bs) (N : Nat) (ds : List Deferred) (J : Nat → List Res) (Q : Exit → Act → World → Prop) (l : List Oper) (ms : List (Option Nat)) (V : Nat → Value) (env : Env) (listed : Array Bool) (p : Nat) (eh : Env) (L : List Res) (a : Act) (w : World) : Prop where
  lsz : listed.size = l.length
  size : a.tmps.size = N
  dfr : a.defers = ds
  st : St β L w
  hJ : ∀ w, St β L w → St β (J (rank ms p)) w
  hp : p ≤ l.length
  hx : HX P β N ds J Q (rank ms p) (l.drop p) (ms.drop p) (eh ++ envK l ms V env l.length) L
  hd : ∀ i, i < l.length → isHeavy ms i = true → (listed[i]? = some true ↔ i < p)
  closed : ∀ j, listed[j]? = some true → ∀ i, i ∈ (clOf l).getD j [] → listed[i]? = some true
  eh1 : ∀ t v, ev1 eh t = some v → a.tmps[t]? = some v
  eh2 : ∀ t, ev1 eh t = none → ∀ i, i < p → isHeavy ms i = true → dstIs l i t = false
  eh3 : ∀ t, ev1 eh t ≠ none → ∃ i, i < p ∧ isHeavy ms i = true ∧ dstIs l i t = true
  top : ∀ t k, ev1 eh t = none → k < l.length → isLight ms k = true → dstIs l k t = true → listed[k]? = some true → (∀ k', k' < l.length → isLight ms k' = true → dstIs l k' t = true → listed[k']? = some true → k' ≤ k) → a.tmps[t]? = some (V k)
  base : ∀ t, ev1 eh t = none → (∀ k, k < l.length → isLight ms k = true → dstIs l k t = true → listed[k]? ≠ some true) → ∀ v, ev1 env t = some v → a.tmps[t]? = some v

theorem chkH_spec {l : List Oper} {ms : List (Option Nat)} {js : List (List Nat)} (h : chkH l ms js = true) :
    ms.length = l.length ∧ (∀ m, nodupB (js.getD m []) = true) ∧ (∀ m, (js.getD (m + 1) []).all (js.getD m []).contains = true) ∧
    ∀ k o, l[k]? = some o →
      (∀ e, e ∈ o.after.toList → Region.binds .any e = true → e.on < k) ∧
      (∀ i, i ∈ (clOf l).getD k [] → ∃ e, e ∈ o.after.toList ∧ Region.binds .any e = true ∧ (e.on = i ∨ i ∈ (clOf l).getD e.on [])) ∧
      (isLight ms k = false → ∀ i, i < k → isHeavy ms i = true → i ∈ (clOf l).getD k []) ∧
      (∀ m, ms[k]? = some (some m) → ∀ i, i < l.length → isHeavy ms i = true → rank ms i < m ∨ k ∈ (clOf l).getD i []) ∧
      (∀ d, o.dst = some d → ∀ i, i < l.length → dstIs l i d = true → ahead ms i k = true → i ∈ (clOf l).getD k []) ∧
      (∀ t, t ∈ readsOf l.toArray o → ∀ i, i < l.length → dstIs l i t = true → (ahead ms i k = true → i ∈ (clOf l).getD k []) ∧ (ahead ms k i = true → k ∈ (clOf l).getD i [])) := by
  unfold chkH at h
  simp only [Bool.and_eq_true] at h
  obtain ⟨⟨⟨h1, h2⟩, h3⟩, h4⟩ := h
  refine ⟨Nat.eq_of_beq_eq_true h1, ?_, ?_, ?_⟩
  · intro m
    cases q : js[m]? with
    | none => simp [List.getD, q, nodupB]
    | some x => simp only [List.getD, q, Option.getD_some]; exact List.all_eq_true.1 h2 x (List.mem_of_getElem? q)
  · intro m
    rcases Nat.lt_or_ge m js.length with q | q
    · exact List.all_eq_true.1 h3 m (by simpa [idxs] using q)
    · have : js[m + 1]? = none := by simp; omega
      simp [List.getD, this]
  · intro k o hk
    have hlt : k < l.length := by
      rcases Nat.lt_or_ge k l.length with q | q
      · exact q
      · simp [List.getElem?_eq_none q] at hk
    have h5 := List.all_eq_true.1 h4 k (by simpa [idxs] using hlt)
    simp only [hk, Bool.and_eq_true] at h5
    obtain ⟨⟨⟨⟨⟨⟨a1, a2⟩, a3⟩, a4⟩, a5⟩, a6⟩, a7⟩ := h5
    refine ⟨?_, ?_, ?_, ?_, ?_, ?_⟩
    · intro e he hb
      have := List.all_eq_true.1 a1 e he
      simp only [hb, Bool.not_true, Bool.false_or] at this
      exact Nat.le_of_ble_eq_true this
    · intro i hi
      have := List.all_eq_true.1 a2 i hi
      obtain ⟨e, he, hx⟩ := List.any_eq_true.1 this
      simp only [Bool.and_eq_true, Bool.or_eq_true] at hx
      exact ⟨e, he, hx.1, hx.2.imp Nat.eq_of_beq_eq_true (by simp)⟩
    · intro hl i hi hh
      simp only [hl, Bool.false_or] at a4
      have := List.all_eq_true.1 a4 i (by simp [idxs]; omega)
      have hb : Nat.blt i k = true := Nat.ble_eq_true_of_le hi
      simpa [hh, hb] using this
    · intro m hm i hi hh
      have e : ms.getD k none = some m := by simp [List.getD, hm]
      rw [e] at a5
      have := List.all_eq_true.1 a5 i (by simpa [idxs] using hi)
      simp only [hh, Bool.not_true, Bool.false_or, Bool.or_eq_true] at this
      exact this.imp (fun q => Nat.le_of_ble_eq_true q) (by simp)
    · intro d hd i hi hw ha
      simp only [hd] at a6
      have := List.all_eq_true.1 a6 i (by simpa [idxs] using hi)
      simpa [hw, ha] using this
    · intro t ht i hi hw
      have := List.all_eq_true.1 (List.all_eq_true.1 a7 t ht) i (by simpa [idxs] using hi)
      simp only [hw, Bool.not_true, Bool.false_or, Bool.and_eq_true] at this
      exact ⟨fun q => by simpa [q] using this.1, fun q => by simpa [q] using this.2⟩

theorem light_or_heavy {l : List Oper} {ms : List (Option Nat)} (hlen : ms.length = l.length) {k : Nat} (hk : k < l.length) : (isLight ms k = true ∧ isHeavy ms k = false ∧ ∃ m, ms[k]? = some (some m)) ∨ (isLight ms k = false ∧ isHeavy ms k = true ∧ ms[k]? = some none) := by
  have : k < ms.length := by omega
  cases q : ms[k] with
  | none => right; simp [isLight, isHeavy, this, q]
  | some m => left; simp [isLight, isHeavy, this, q]

theorem rank_succ {ms : List (Option Nat)} {k : Nat} (hk : k < ms.length) : rank ms (k + 1) = rank ms k + (if ms[k].isNone then 1 else 0) := by
  unfold rank
  rw [List.take_succ_eq_append_getElem hk, List.filter_append, List.length_append]
  congr 1
  simp only [List.filter_cons, List.filter_nil]
  split <;> rfl

theorem rank_mono {ms : List (Option Nat)} {p : Nat} (hp : p ≤ ms.length) : ∀ q, q ≤ p → rank ms q ≤ rank ms p := by
  induction p with
  | zero => intro q hq; have : q = 0 := by omega
            subst this; exact Nat.le_refl _
  | succ p ih =>
    intro q hq
    by_cases e : q = p + 1
    · subst e; exact Nat.le_refl _
    · have := ih (by omega) q (by omega)
      rw [rank_succ (by omega)]; omega

theorem rank_find {ms : List (Option Nat)} {m : Nat} : ∀ p, p ≤ ms.length → m < rank ms p → ∃ i, i < p ∧ isHeavy ms i = true ∧ rank ms i = m
  | 0, _, h => by simp [rank] at h
  | p + 1, hp, h => by
    by_cases c : m < rank ms p
    · obtain ⟨i, h1, h2, h3⟩ := rank_find p (by omega) c
      exact ⟨i, by omega, h2, h3⟩
    · rw [rank_succ (by omega)] at h
      cases q : ms[p] with
      | none => exact ⟨p, by omega, by simp [isHeavy, (by omega : p < ms.length), q], by simp [q] at h; omega⟩
      | some x => simp [q] at h; omega

/-- What the checks of a region come to: from 'q' on the heavy ones are a chain. -/
def ChkS (l : List Oper) (ms : List (Option Nat)) (js : List (List Nat)) (q : Nat) : Prop :=
    ms.length = l.length ∧ (∀ m, nodupB (js.getD m []) = true) ∧ (∀ m, (js.getD (m + 1) []).all (js.getD m []).contains = true) ∧
    ∀ k o, l[k]? = some o →
      (∀ e, e ∈ o.after.toList → Region.binds .any e = true → e.on < k) ∧
      (∀ i, i ∈ (clOf l).getD k [] → ∃ e, e ∈ o.after.toList ∧ Region.binds .any e = true ∧ (e.on = i ∨ i ∈ (clOf l).getD e.on [])) ∧
      (isLight ms k = false → ∀ i, q ≤ i → i < k → isHeavy ms i = true → i ∈ (clOf l).getD k []) ∧
      (∀ m, ms[k]? = some (some m) → ∀ i, i < l.length → isHeavy ms i = true → rank ms i < m ∨ k ∈ (clOf l).getD i []) ∧
      (∀ d, o.dst = some d → ∀ i, i < l.length → dstIs l i d = true → ahead ms i k = true → i ∈ (clOf l).getD k []) ∧
      (∀ t, t ∈ readsOf l.toArray o → ∀ i, i < l.length → dstIs l i t = true → (ahead ms i k = true → i ∈ (clOf l).getD k []) ∧ (ahead ms k i = true → k ∈ (clOf l).getD i []))
theorem ChkS.of {l : List Oper} {ms : List (Option Nat)} {js : List (List Nat)} (h : chkH l ms js = true) : ChkS l ms js 0 := by
  obtain ⟨h1, h2, h3, h4⟩ := chkH_spec h
  exact ⟨h1, h2, h3, fun k o hk => ⟨(h4 k o hk).1, (h4 k o hk).2.1, fun a i _ => (h4 k o hk).2.2.1 a i, (h4 k o hk).2.2.2⟩⟩

theorem J_mono {L0 : List Res} {js : List (List Nat)} (hn : ∀ m, nodupB (js.getD m []) = true) (hs : ∀ m, (js.getD (m + 1) []).all (js.getD m []).contains = true) {w : World} : ∀ {m m' : Nat}, m ≤ m' → St β (sel L0 (js.getD m [])) w → St β (sel L0 (js.getD m' [])) w
  | m, m', h, hw => by
    induction m' with
    | zero => have : m = 0 := by omega
              subst this; exact hw
    | succ m' ih =>
      by_cases e : m = m' + 1
      · subst e; exact hw
      · exact (ih (by omega)).sel_sub (hn _) (hs _)

theorem Hv.reads {l : List Oper} {ms : List (Option Nat)} {js : List (List Nat)} {V : Nat → Value} {env : Env} {listed : Array Bool} {p : Nat} {eh : Env} {L : List Res} {a : Act} {w : World} {q : Nat} (hc : ChkS l ms js q)
    (h : Hv P β N ds J Q l ms V env listed p eh L a w) {i : Nat} {o : Oper} (ho : l[i]? = some o) (hnot : listed[i]? ≠ some true) (hdone : ∀ j, j ∈ (clOf l).getD i [] → listed[j]? = some true) {t : Nat} (ht : t ∈ readsOf l.toArray o) {u : Value} :
    (isLight ms i = true → ev1 (envK l ms V env i) t = some u → a.tmps[t]? = some u) ∧ (isLight ms i = false → ev1 (eh ++ envK l ms V env l.length) t = some u → a.tmps[t]? = some u) := by
  obtain ⟨hlen, hjn, hjs, hops⟩ := hc
  obtain ⟨c1, c2, c3, c4, c5, c6⟩ := hops i o ho
  have hil : i < l.length := by
    rcases Nat.lt_or_ge i l.length with q | q
    · exact q
    · simp [List.getElem?_eq_none q] at ho
  -- a light one that is ahead of i and writes t is done; one that is behind i is not
  have before : ∀ k, k < l.length → dstIs l k t = true → ahead ms k i = true → listed[k]? = some true := fun k hk hw ha => hdone k ((c6 t ht k hk hw).1 ha)
  have behind : ∀ k, k < l.length → dstIs l k t = true → ahead ms i k = true → listed[k]? ≠ some true := fun k hk hw ha hl => hnot (h.closed k hl i ((c6 t ht k hk hw).2 ha))
  refine ⟨fun hli hu => ?_, fun hhi hu => ?_⟩
  · have hno : ev1 eh t = none := by
      cases q : ev1 eh t with
      | none => rfl
      | some v =>
        exfalso
        obtain ⟨k, hkp, hkh, hkd⟩ := h.eh3 t (by rw [q]; simp)
        have hkl : k < l.length := Nat.lt_of_lt_of_le hkp h.hp
        have hnl : isLight ms k = false := by
          rcases light_or_heavy hlen hkl with ⟨_, b, _⟩ | ⟨a, _, _⟩
          · rw [b] at hkh; cases hkh
          · exact a
        exact behind k hkl hkd (by simp [ahead, hli, hnl]) ((h.hd k hkl hkh).2 hkp)
    have late : ∀ k', k' < l.length → isLight ms k' = true → dstIs l k' t = true → listed[k']? = some true → k' < i := by
      intro k' hk' hl' hd' hdn
      rcases Nat.lt_trichotomy k' i with q | q | q
      · exact q
      · subst q; exact absurd hdn hnot
      · exact absurd hdn (behind k' hk' hd' (by simp only [ahead, hli, hl', if_true]; exact Nat.ble_eq_true_of_le q))
    rcases ev1_envK l ms V env t u i hu with ⟨k, h1, h2, h3, h4, h5⟩ | ⟨h1, h2⟩
    · rw [← h4]
      refine h.top t k hno (by omega) h2 h3 (before k (by omega) h3 (by simp only [ahead, hli, h2, if_true]; exact Nat.ble_eq_true_of_le h1)) fun k' a b c d => ?_
      rcases Nat.lt_or_ge k k' with q | q
      · have := h5 k' q (late k' a b c d) b
        rw [c] at this; cases this
      · exact q
    · refine h.base t hno (fun k a b c d => ?_) u h2
      have := h1 k (late k a b c d) b
      rw [c] at this; cases this
  · rw [ev1_append] at hu
    cases q : ev1 eh t with
    | some v => rw [q] at hu; simp only [Option.some.injEq] at hu; subst hu; exact h.eh1 t v q
    | none =>
      rw [q] at hu
      simp only at hu
      rcases ev1_envK l ms V env t u l.length hu with ⟨k, h1, h2, h3, h4, h5⟩ | ⟨h1, h2⟩
      · rw [← h4]
        refine h.top t k q h1 h2 h3 (before k h1 h3 (by simp [ahead, hhi, h2])) fun k' a b c d => ?_
        rcases Nat.lt_or_ge k k' with r | r
        · have := h5 k' r a b
          rw [c] at this; cases this
        · exact r
      · refine h.base t q (fun k a b c d => ?_) u h2
        have := h1 k a b
        rw [c] at this; cases this

set_option maxHeartbeats 2000000 in
theorem Hv.step {l : List Oper} {ms : List (Option Nat)} {js : List (List Nat)} {L0 : List Res} {V : Nat → Value} {env : Env} {listed : Array Bool} {p : Nat} {eh : Env} {L : List Res} {a : Act} {w : World} {Q' : Exit → Act → World → Prop} {q0 : Nat} (hc : ChkS l ms js q0) (hq0 : q0 ≤ p) (hJe : J = fun m => sel L0 (js.getD m []))
    (hV : ∀ k o m, l[k]? = some o → ms[k]? = some (some m) → ∃ d, o.dst = some d ∧ d < N ∧ ∀ L, (∀ w, St β L w → St β (J m) w) → OpOk P β l.toArray L o (envK l ms V env k) (V k))
    (h : Hv P β N ds J Q l ms V env listed p eh L a w) {i : Nat} (hi : i ∈ Region.ready .any l.toArray listed) {K : Act → World → Prop}
    (hK : ∀ p' eh' L' a' w', q0 ≤ p' → Hv P β N ds J Q l ms V env (listed.setIfInBounds i true) p' eh' L' a' w' → K a' w') : wpOpIn (Wf ro) 0 P l.toArray Q' i K a w := by
  obtain ⟨hlen, hjn, hjs, hops⟩ := hc
  simp only [Region.ready, List.mem_filter, List.mem_range, Bool.and_eq_true, Bool.not_eq_true'] at hi
  obtain ⟨hin, hnl, hready⟩ := hi
  have hil : i < l.length := by simpa using hin
  have hiz : i < listed.size := by rw [h.lsz]; exact hil
  obtain ⟨o, ho⟩ : ∃ o, l[i]? = some o := ⟨l[i], by simp [hil]⟩
  have hnot : listed[i]? ≠ some true := by
    intro e
    have : listed.getD i true = true := by simp [e]
    rw [this] at hnl; cases hnl
  have hdone : ∀ e, e ∈ o.after.toList → Region.binds .any e = true → listed[e.on]? = some true := by
    intro e he hb
    have h1 : (o.after.all fun e => !Region.binds .any e || listed.getD e.on false) = true := by simpa [ho] using hready
    have h2 := (Array.all_eq_true_iff_forall_mem.1 h1) e (by simpa using he)
    simp only [hb, Bool.not_true, Bool.false_or] at h2
    cases q : listed[e.on]? with
    | none => simp [q] at h2
    | some b => simp [q] at h2; rw [h2]
  obtain ⟨c1, c2, c3, c4, c5, c6⟩ := hops i o ho
  have hcl : ∀ j, j ∈ (clOf l).getD i [] → listed[j]? = some true := by
    intro j hj
    obtain ⟨e, he, hb, hx⟩ := c2 j hj
    rcases hx with rfl | hx
    · exact hdone e he hb
    · exact h.closed _ (hdone e he hb) j hx
  have closed' : ∀ j, (listed.setIfInBounds i true)[j]? = some true → ∀ k, k ∈ (clOf l).getD j [] → (listed.setIfInBounds i true)[k]? = some true := by
    intro j hj k hk
    rw [get_set_true hiz] at hj ⊢
    rcases hj with rfl | hj
    · exact .inr (hcl k hk)
    · exact .inr (h.closed j hj k hk)
  have ho' : l.toArray[i]? = some o := by simpa using ho
  have dstI : ∀ d, o.dst = some d → ∀ t, dstIs l i t = Nat.beq d t := by
    intro d hd t; simp [dstIs, ho, hd]
  have beqne : ∀ {d t : Nat}, t ≠ d → Nat.beq d t = false := by
    intro d t e
    cases q : Nat.beq d t
    · rfl
    · exact absurd (Nat.eq_of_beq_eq_true q).symm e
  unfold wpOpIn
  simp only [ho']
  rcases light_or_heavy hlen hil with ⟨hli, hhv, m, hm⟩ | ⟨hli, hhv, hm⟩
  · -- a light one
    obtain ⟨d, hd, hdN, hok⟩ := hV i o m ho hm
    have hstage : rank ms p ≤ m := by
      rcases Nat.lt_or_ge m (rank ms p) with q | q
      · exfalso
        obtain ⟨j, hjp, hjh, hjr⟩ := rank_find (ms := ms) (m := m) p (by rw [hlen]; exact h.hp) q
        have hjl : j < l.length := Nat.lt_of_lt_of_le hjp h.hp
        rcases c4 m hm j hjl hjh with r | r
        · omega
        · exact hnot (h.closed j ((h.hd j hjl hjh).2 hjp) i r)
      · exact q
    have hJm : ∀ w, St β L w → St β (J m) w := by
      intro w hw
      have := h.hJ w hw
      rw [hJe] at this ⊢
      exact J_mono hjn hjs hstage this
    have hno : ev1 eh d = none := by
      cases q : ev1 eh d with
      | none => rfl
      | some v =>
        exfalso
        obtain ⟨k, hkp, hkh, hkd⟩ := h.eh3 d (by rw [q]; simp)
        have hkl : k < l.length := Nat.lt_of_lt_of_le hkp h.hp
        have hnl : isLight ms k = false := by
          rcases light_or_heavy hlen hkl with ⟨_, b, _⟩ | ⟨a, _, _⟩
          · rw [b] at hkh; cases hkh
          · exact a
        obtain ⟨_, _, _, _, g5, _⟩ := hops k l[k] (by simp [hkl])
        have hkd' : l[k].dst = some d := by
          simp only [dstIs, List.getElem?_eq_getElem hkl] at hkd
          cases r : l[k].dst with
          | none => simp [r] at hkd
          | some d' => simp only [r] at hkd; rw [Nat.eq_of_beq_eq_true hkd]
        exact hnot (h.closed k ((h.hd k hkl hkh).2 hkp) i (g5 d hkd' i hil (by rw [dstI d hd]; exact Nat.beq_refl _) (by simp [ahead, hli, hnl])))
    have fin : ∀ w', St β L w' → Hv P β N ds J Q l ms V env (listed.setIfInBounds i true) p eh L (a.put (some d) (V i)) w' := by
      intro w' hs
      refine ⟨by simp [h.lsz], by simp [Act.put, h.size], h.dfr, hs, h.hJ, h.hp, h.hx, ?_, closed', ?_, h.eh2, h.eh3, ?_, ?_⟩
      · intro k hk hkh
        rw [get_set_true hiz, ← h.hd k hk hkh]
        have : k ≠ i := fun e => by subst e; rw [hhv] at hkh; cases hkh
        simp [this]
      · intro t v hv
        have e : t ≠ d := fun e => by subst e; rw [hno] at hv; cases hv
        simp only [Act.put]
        rw [Array.getElem?_setIfInBounds_ne (Ne.symm e)]
        exact h.eh1 t v hv
      · intro t k hn hk hkl hkd hdn hmax
        by_cases e : t = d
        · subst e
          have hki : k = i := by
            have g := hmax i hil hli (by rw [dstI t hd]; exact Nat.beq_refl _) ((get_set_true hiz).2 (.inl rfl))
            rcases Nat.lt_or_ge i k with q | q
            · exfalso
              have hl' : listed[k]? = some true := by
                rcases (get_set_true hiz).1 hdn with e | e
                · omega
                · exact e
              obtain ⟨_, _, _, _, g5, _⟩ := hops k l[k] (by simp [hk])
              have hkd' : l[k].dst = some t := by
                simp only [dstIs, List.getElem?_eq_getElem hk] at hkd
                cases r : l[k].dst with
                | none => simp [r] at hkd
                | some d' => simp only [r] at hkd; rw [Nat.eq_of_beq_eq_true hkd]
              exact hnot (h.closed k hl' i (g5 t hkd' i hil (by rw [dstI t hd]; exact Nat.beq_refl _) (by simp only [ahead, hli, hkl, if_true]; exact Nat.ble_eq_true_of_le q)))
            · omega
          subst hki
          simp [Act.put, h.size, hdN]
        · have hki : k ≠ i := fun q => by subst q; rw [dstI d hd, beqne e] at hkd; cases hkd
          simp only [Act.put]
          rw [Array.getElem?_setIfInBounds_ne (Ne.symm e)]
          refine h.top t k hn hk hkl hkd ?_ fun k' a b c d => hmax k' a b c ((get_set_true hiz).2 (.inr d))
          rcases (get_set_true hiz).1 hdn with q | q
          · exact absurd q hki
          · exact q
      · intro t hn hnone v hv
        have e : t ≠ d := fun q => by subst q; exact hnone i hil hli (by rw [dstI t hd]; exact Nat.beq_refl _) ((get_set_true hiz).2 (.inl rfl))
        simp only [Act.put]
        rw [Array.getElem?_setIfInBounds_ne (Ne.symm e)]
        exact h.base t hn (fun k a b c d => hnone k a b c ((get_set_true hiz).2 (.inr d))) v hv
    have rd : ∀ t, t ∈ readsOf l.toArray o → ∀ u, ev1 (envK l ms V env i) t = some u → a.tmps[t]? = some u := fun t ht u hu => (h.reads ⟨hlen, hjn, hjs, hops⟩ ho hnot hcl ht).1 hli hu
    have opr : ∀ x, x ∈ o.op.operands → ∀ u, ev (envK l ms V env i) x = some u → a.eval x = u := by
      intro x hx u hu
      cases x with
      | tmp t =>
        have := rd t (List.mem_append_left _ (List.mem_filterMap.2 ⟨.tmp t, by simpa using hx, rfl⟩)) u hu
        simp [Act.eval, this]
      | const c => simpa [ev, Act.eval] using hu
      | global g => simpa [ev, Act.eval] using hu
      | func f => simpa [ev, Act.eval] using hu
    have hok' := hok L hJm
    generalize hVi : V i = vi at hok' fin
    rcases hok' with ⟨hg, hlo⟩ | ⟨j, want, t, u, c, v', hg, hj, ht, hgd, hlo, rfl⟩
    · rw [if_pos (by simp [Region.wanted, hg])]
      exact (hlo a w opr h.st).wp (ro := ro) (Q := Q') (K := K) fun w' hs => by rw [hd]; exact hK _ _ _ _ _ hq0 (fin w' hs)
    · have ht' : a.tmps[t]? = some u := rd t (List.mem_append_right _ (by rw [hg]; show t ∈ ((l.toArray[j]?).bind (·.dst)).toList; rw [hj]; simp)) u ht
      have hy : yielded l.toArray a.tmps j = vb u := by
        unfold yielded; rw [hj]; simp only [Option.bind_some, ht']; cases u <;> rfl
      simp only [Region.wanted, hg, hy]
      cases c with
      | true =>
        have hu := hgd.1 rfl
        subst hu
        simp only [vb, beq_self_eq_true, if_true]
        exact (hlo rfl a w opr h.st).wp (ro := ro) (Q := Q') (K := K) fun w' hs => by
          rw [hd]
          have := fin w' hs
          rw [show gv true v' = v' from rfl] at this
          exact hK _ _ _ _ _ hq0 this
      | false =>
        have hu := hgd.2 rfl
        have hne := vb_ne hu
        simp only [hne, Bool.false_eq_true, if_false]
        have := fin w h.st
        rw [show gv false v' = undef from rfl] at this
        rw [hd]
        exact ⟨fun _ _ => True.intro, hK _ _ _ _ _ hq0 this⟩
  · -- the next of the chain
    have hpi : p ≤ i := by
      rcases Nat.lt_or_ge i p with q | q
      · exact absurd ((h.hd i hil hhv).2 q) hnot
      · exact q
    have hlights : ∀ k, p ≤ k → k < p + (i - p) → isLight ms k = true := by
      intro k hk hki
      have hkl : k < l.length := by omega
      rcases light_or_heavy hlen hkl with ⟨a, _, _⟩ | ⟨_, b, _⟩
      · exact a
      · exfalso
        have := hcl k (c3 hli k (by omega) (by omega) b)
        have := (h.hd k hkl b).1 this
        omega
    have hx := HX.drop (i - p) h.hx (by omega) hlights
    rw [show p + (i - p) = i by omega] at hx
    have hml : i < ms.length := by omega
    have e1 : l[i] = o := by simpa [List.getElem?_eq_getElem hil] using ho
    have e2 : ms[i] = none := by simpa [List.getElem?_eq_getElem hml] using hm
    rw [List.drop_eq_getElem_cons hil, List.drop_eq_getElem_cons hml, e1, e2] at hx
    obtain ⟨hg, hdN, hho⟩ := hx
    have hrk : rank ms p = rank ms i := by
      have : ∀ k, p + k ≤ i → rank ms (p + k) = rank ms p := by
        intro k
        induction k with
        | zero => intro _; rfl
        | succ k ih =>
          intro hk
          have hlk := hlights (p + k) (by omega) (by omega)
          have hkl : p + k < ms.length := by omega
          rw [show p + (k + 1) = (p + k) + 1 by omega, rank_succ hkl, ih (by omega)]
          cases r : ms[p + k] with
          | none => simp [isLight, hkl, r] at hlk
          | some x => simp
      have := this (i - p) (by omega)
      rw [show p + (i - p) = i by omega] at this
      exact this.symm
    have hrk1 : rank ms (i + 1) = rank ms p + 1 := by
      rw [rank_succ hml, e2, hrk]; simp
    have rd : ∀ t, t ∈ readsOf l.toArray o → ∀ u, ev1 (eh ++ envK l ms V env l.length) t = some u → a.tmps[t]? = some u := fun t ht u hu => (h.reads ⟨hlen, hjn, hjs, hops⟩ ho hnot hcl ht).2 hli hu
    have opr : ∀ x, x ∈ o.op.operands → ∀ u, ev (eh ++ envK l ms V env l.length) x = some u → a.eval x = u := by
      intro x hx u hu
      cases x with
      | tmp t =>
        have := rd t (List.mem_append_left _ (List.mem_filterMap.2 ⟨.tmp t, by simpa using hx, rfl⟩)) u hu
        simp [Act.eval, this]
      | const c => simpa [ev, Act.eval] using hu
      | global g => simpa [ev, Act.eval] using hu
      | func f => simpa [ev, Act.eval] using hu
    rw [if_pos (by simp [Region.wanted, hg])]
    refine (hho.wp (ro := ro) (Q := Q') opr h.st fun v L' w' hk hs => hK (i + 1) (putE o v eh) L' _ w' (by omega) ?_)
    obtain ⟨hk1, hk2⟩ := hk
    have envE : putE o v (eh ++ envK l ms V env l.length) = putE o v eh ++ envK l ms V env l.length := by
      unfold putE; cases o.dst <;> rfl
    refine ⟨by simp [h.lsz], ?_, (by cases o.dst <;> exact h.dfr), hs, ?_, by omega, ?_, ?_, closed', ?_, ?_, ?_, ?_, ?_⟩
    · cases q : o.dst with
      | none => exact h.size
      | some d => simp [Act.put, h.size]
    · rw [hrk1]; exact hk1
    · rw [hrk1, ← envE]; exact hk2
    · intro k hk hkh
      rw [get_set_true hiz, h.hd k hk hkh]
      refine ⟨fun q => by omega, fun q => ?_⟩
      by_cases r : k = i
      · exact .inl r
      · right
        rcases Nat.lt_or_ge k p with s | s
        · exact s
        · exfalso
          have := hlights k s (by omega)
          rcases light_or_heavy hlen hk with ⟨_, b, _⟩ | ⟨b, _, _⟩
          · rw [b] at hkh; cases hkh
          · rw [b] at this; cases this
    · intro t u hu
      unfold putE at hu
      cases q : o.dst with
      | none => simp only [q] at hu; exact h.eh1 t u hu
      | some d =>
        simp only [q] at hu
        by_cases e : t = d
        · subst e
          rw [ev1_cons_eq] at hu
          cases hu
          simp [Act.put, h.size, hdN t q]
        · rw [ev1_cons_ne e] at hu
          simp only [Act.put]
          rw [Array.getElem?_setIfInBounds_ne (Ne.symm e)]
          exact h.eh1 t u hu
    · intro t hn k hk hkh
      unfold putE at hn
      have hn' : ev1 eh t = none := by
        cases q : o.dst with
        | none => simpa only [q] using hn
        | some d =>
          simp only [q] at hn
          by_cases e : t = d
          · subst e; rw [ev1_cons_eq] at hn; cases hn
          · rwa [ev1_cons_ne e] at hn
      by_cases r : k = i
      · subst r
        cases q : o.dst with
        | none => simp [dstIs, ho, q]
        | some d =>
          rw [dstI d q]
          refine beqne fun e => ?_
          subst e
          simp only [q] at hn
          rw [ev1_cons_eq] at hn
          cases hn
      · refine h.eh2 t hn' k ?_ hkh
        rcases Nat.lt_or_ge k p with s | s
        · exact s
        · exfalso
          have := hlights k s (by omega)
          rcases light_or_heavy hlen (k := k) (by omega) with ⟨_, b, _⟩ | ⟨b, _, _⟩
          · rw [b] at hkh; cases hkh
          · rw [b] at this; cases this
    · intro t hn
      unfold putE at hn
      cases q : o.dst with
      | none =>
        simp only [q] at hn
        obtain ⟨k, a, b, c⟩ := h.eh3 t hn
        exact ⟨k, by omega, b, c⟩
      | some d =>
        simp only [q] at hn
        by_cases e : t = d
        · subst e
          exact ⟨i, by omega, hhv, by rw [dstI t q]; exact Nat.beq_refl _⟩
        · rw [ev1_cons_ne e] at hn
          obtain ⟨k, a, b, c⟩ := h.eh3 t hn
          exact ⟨k, by omega, b, c⟩
    · intro t k hn hk hkl hkd hdn hmax
      have hki : k ≠ i := fun e => by subst e; rw [hli] at hkl; cases hkl
      unfold putE at hn
      have hn' : ev1 eh t = none ∧ ∀ d, o.dst = some d → t ≠ d := by
        cases q : o.dst with
        | none => exact ⟨by simpa only [q] using hn, by simp⟩
        | some d =>
          simp only [q] at hn
          by_cases e : t = d
          · subst e; rw [ev1_cons_eq] at hn; cases hn
          · exact ⟨by rwa [ev1_cons_ne e] at hn, fun d' hd' => by cases hd'; exact e⟩
      have hdn' : listed[k]? = some true := by
        rcases (get_set_true hiz).1 hdn with q | q
        · exact absurd q hki
        · exact q
      have := h.top t k hn'.1 hk hkl hkd hdn' fun k' a b c d => hmax k' a b c ((get_set_true hiz).2 (.inr d))
      cases q : o.dst with
      | none => exact this
      | some d =>
        simp only [Act.put]
        rw [Array.getElem?_setIfInBounds_ne (Ne.symm (hn'.2 d q))]
        exact this
    · intro t hn hnone u hu
      unfold putE at hn
      have hn' : ev1 eh t = none ∧ ∀ d, o.dst = some d → t ≠ d := by
        cases q : o.dst with
        | none => exact ⟨by simpa only [q] using hn, by simp⟩
        | some d =>
          simp only [q] at hn
          by_cases e : t = d
          · subst e; rw [ev1_cons_eq] at hn; cases hn
          · exact ⟨by rwa [ev1_cons_ne e] at hn, fun d' hd' => by cases hd'; exact e⟩
      have := h.base t hn'.1 (fun k a b c d => hnone k a b c ((get_set_true hiz).2 (.inr d))) u hu
      cases q : o.dst with
      | none => exact this
      | some d =>
        simp only [Act.put]
        rw [Array.getElem?_setIfInBounds_ne (Ne.symm (hn'.2 d q))]
        exact this

theorem Hv.end_ {l : List Oper} {ms : List (Option Nat)} {V : Nat → Value} {env : Env} {listed : Array Bool} {p : Nat} {eh : Env} {L : List Res} {a : Act} {w : World} (hlen : ms.length = l.length)
    (h : Hv P β N ds J Q l ms V env listed p eh L a w) (hall : ∀ k, k < l.length → listed[k]? = some true) : Q .normal a w := by
  have hl : ∀ k, p ≤ k → k < p + (l.length - p) → isLight ms k = true := by
    intro k hk hkl
    rcases light_or_heavy hlen (k := k) (by omega) with ⟨a, _, _⟩ | ⟨_, b, _⟩
    · exact a
    · have := (h.hd k (by omega) b).1 (hall k (by omega)); omega
  have hx := HX.drop (l.length - p) h.hx (by have := h.hp; omega) hl
  rw [show p + (l.length - p) = l.length by have := h.hp; omega] at hx
  rw [List.drop_length] at hx
  refine hx a w ⟨h.size, h.dfr, fun t u hu => ?_⟩ h.st
  rw [ev1_append] at hu
  cases q : ev1 eh t with
  | some v => rw [q] at hu; simp only [Option.some.injEq] at hu; subst hu; exact h.eh1 t v q
  | none =>
    rw [q] at hu
    simp only at hu
    rcases ev1_envK l ms V env t u l.length hu with ⟨k, h1, h2, h3, h4, h5⟩ | ⟨h1, h2⟩
    · rw [← h4]
      refine h.top t k q h1 h2 h3 (hall k h1) fun k' a b c d => ?_
      rcases Nat.lt_or_ge k k' with r | r
      · have := h5 k' r a b
        rw [c] at this; cases this
      · exact r
    · refine h.base t q (fun k a b c d => ?_) u h2
      have := h1 k a b
      rw [c] at this; cases this

theorem ready_all {l : List Oper} {listed : Array Bool} (hsz : listed.size = l.length) (hed : ∀ k o, l[k]? = some o → ∀ e, e ∈ o.after.toList → Region.binds .any e = true → e.on < k) (hr : Region.ready .any l.toArray listed = []) : ∀ k, k < l.length → listed[k]? = some true := by
  have : ∀ n k, k = n → k < l.length → listed[k]? = some true := by
    intro n
    induction n using Nat.strongRecOn with
    | _ n ihn =>
      rintro k rfl hk
      refine Classical.byContradiction fun hn => ?_
      have hnm : k ∉ Region.ready .any l.toArray listed := by rw [hr]; simp
      apply hnm
      simp only [Region.ready, List.mem_filter, List.mem_range, Bool.and_eq_true, Bool.not_eq_true']
      refine ⟨by simpa using hk, ?_, ?_⟩
      · cases q : listed[k]? with
        | none =>
          have : k < listed.size := by rw [hsz]; exact hk
          simp [this] at q
        | some b => cases b with
          | true => exact absurd q hn
          | false => simp [q]
      · have hok : l.toArray[k]? = some l[k] := by simp [hk]
        simp only [hok, Option.map_some, Option.getD_some]
        refine Array.all_eq_true_iff_forall_mem.2 fun e he => ?_
        cases hb : Region.binds .any e with
        | false => rfl
        | true =>
          have hlt := hed k l[k] (by simp [hk]) e (by simpa using he) hb
          have := ihn e.on hlt e.on rfl (by omega)
          simp [this]
  exact fun k hk => this k k rfl hk

theorem any_of_Hv {js : List (List Nat)} {ms : List (Option Nat)} {env : Env} {L : List Res} {l : List Oper} {V : Nat → Value} {q0 : Nat} (hc : ChkS l ms js q0)
    (hV2 : ∀ k o m, l[k]? = some o → ms[k]? = some (some m) → ∃ d, o.dst = some d ∧ d < N ∧ ∀ L', (∀ w, St β L' w → St β (sel L (js.getD m [])) w) → OpOk P β l.toArray L' o (envK l ms V env k) (V k)) :
    ∀ fuel listed p eh L' a w, q0 ≤ p → Hv P β N ds (fun m => sel L (js.getD m [])) Q l ms V env listed p eh L' a w → (∀ k, k < l.length → listed[k]? ≠ some true → 0 < fuel) → ((List.range l.length).filter fun k => !(listed[k]? == some true)).length ≤ fuel → wpAnyIn (Wf ro) 0 P .any l.toArray Q fuel listed a w := by
  obtain ⟨hlen, hjn, hjs, hops⟩ := hc
  have key : ∀ fuel listed p eh L' a w, q0 ≤ p → Hv P β N ds (fun m => sel L (js.getD m [])) Q l ms V env listed p eh L' a w → (∀ k, k < l.length → listed[k]? ≠ some true → 0 < fuel) → ((List.range l.length).filter fun k => !(listed[k]? == some true)).length ≤ fuel → wpAnyIn (Wf ro) 0 P .any l.toArray Q fuel listed a w := by
    intro fuel
    induction fuel with
    | zero =>
      intro listed p eh L' a w hq hI h0 _
      have hall : ∀ k, k < l.length → listed[k]? = some true := fun k hk => Classical.byContradiction fun hn => by have := h0 k hk hn; omega
      refine ⟨?_, hI.end_ hlen hall⟩
      simp only [Region.ready, List.filter_eq_nil_iff, List.mem_range, Bool.and_eq_true, Bool.not_eq_true', not_and]
      intro i hi hf
      have := hall i (by simpa using hi)
      simp [this] at hf
    | succ fuel ih =>
      intro listed p eh L' a w hq hI h0 hcnt
      refine ⟨fun hr => hI.end_ hlen (ready_all hI.lsz (fun k o ho => (hops k o ho).1) hr), fun i hi => ?_⟩
      refine hI.step ⟨hlen, hjn, hjs, hops⟩ hq rfl hV2 hi fun p' eh' L'' a' w' hq' hI' => ih _ _ _ _ _ _ hq' hI' ?_ ?_
      · intro k hk hn
        rcases Nat.eq_zero_or_pos fuel with e | e
        · exfalso
          subst e
          simp only [Region.ready, List.mem_filter, List.mem_range, Bool.and_eq_true, Bool.not_eq_true'] at hi
          have hil : i < l.length := by simpa using hi.1
          have hiz : i < listed.size := by rw [hI.lsz]; exact hil
          rw [Ne, get_set_true hiz, not_or] at hn
          have hni : listed[i]? ≠ some true := fun e => by have h2 := hi.2.1; simp [e] at h2
          have m1 : i ∈ (List.range l.length).filter fun k => !(listed[k]? == some true) := by simp [hil, hni]
          have m2 : k ∈ (List.range l.length).filter fun k => !(listed[k]? == some true) := by simp [hk, hn.2]
          match hf : (List.range l.length).filter fun k => !(listed[k]? == some true), hcnt with
          | [], _ => rw [hf] at m1; simp at m1
          | [x], _ => rw [hf] at m1 m2; simp at m1 m2; exact hn.1 (by omega)
          | _ :: _ :: _, hcnt => simp at hcnt
        · exact e
      · simp only [Region.ready, List.mem_filter, List.mem_range, Bool.and_eq_true, Bool.not_eq_true'] at hi
        have hil : i < l.length := by simpa using hi.1
        have hiz : i < listed.size := by rw [hI.lsz]; exact hil
        have hni : listed[i]? ≠ some true := fun e => by have h2 := hi.2.1; simp [e] at h2
        have hlt : ((List.range l.length).filter fun k => !((listed.setIfInBounds i true)[k]? == some true)).length < ((List.range l.length).filter fun k => !(listed[k]? == some true)).length := by
          refine filter_lt (i := i) ?_ (by simp [hil]) ?_ ?_
          · intro k hk
            simp only [Bool.not_eq_true', beq_eq_false_iff_ne, ne_eq] at hk ⊢
            exact fun e => hk ((get_set_true hiz).2 (.inr e))
          · simpa using hni
          · simp [hiz]
        omega
  exact key

set_option maxHeartbeats 1000000 in
/-- A region whose order is drawn and that holds a chain of operations that make or write memory. -/
theorem VC.drawH (js : List (List Nat)) (ms : List (Option Nat)) {env env' : Env} {L : List Res} {id : Nat} {l : List Oper} (hm : P.follows .mixedOrders = true) (hc : chkH l ms js = true) (h0 : js.getD 0 [] = List.range L.length)
    (h : LX P β N l.toArray (fun m => sel L (js.getD m [])) l ms env env') (k : HX P β N ds (fun m => sel L (js.getD m [])) Q 0 l ms env' L) :
    VC P ro β N ds env L (.region id l.toArray true) Q := by
  intro a w ha hw
  obtain ⟨V, hV1, hV2⟩ := h.vals
  obtain ⟨hlen, hjn, hjs, hops⟩ := chkH_spec hc
  subst hV1
  refine wpIn_region_any hm ?_
  have key : ∀ fuel listed p eh L' a w, Hv P β N ds (fun m => sel L (js.getD m [])) Q l ms V env listed p eh L' a w → (∀ k, k < l.length → listed[k]? ≠ some true → 0 < fuel) → ((List.range l.length).filter fun k => !(listed[k]? == some true)).length ≤ fuel → wpAnyIn (Wf ro) 0 P .any l.toArray Q fuel listed a w := by
    intro fuel
    induction fuel with
    | zero =>
      intro listed p eh L' a w hI h0 _
      have hall : ∀ k, k < l.length → listed[k]? = some true := fun k hk => Classical.byContradiction fun hn => by have := h0 k hk hn; omega
      refine ⟨?_, hI.end_ hlen hall⟩
      simp only [Region.ready, List.filter_eq_nil_iff, List.mem_range, Bool.and_eq_true, Bool.not_eq_true', not_and]
      intro i hi hf
      have := hall i (by simpa using hi)
      simp [this] at hf
    | succ fuel ih =>
      intro listed p eh L' a w hI h0 hcnt
      refine ⟨fun hr => hI.end_ hlen (ready_all hI.lsz (fun k o ho => (hops k o ho).1) hr), fun i hi => ?_⟩
      refine hI.step (ChkS.of hc) (Nat.zero_le _) rfl hV2 hi fun p' eh' L'' a' w' _ hI' => ih _ _ _ _ _ _ hI' ?_ ?_
      · intro k hk hn
        rcases Nat.eq_zero_or_pos fuel with e | e
        · exfalso
          subst e
          simp only [Region.ready, List.mem_filter, List.mem_range, Bool.and_eq_true, Bool.not_eq_true'] at hi
          have hil : i < l.length := by simpa using hi.1
          have hiz : i < listed.size := by rw [hI.lsz]; exact hil
          rw [Ne, get_set_true hiz, not_or] at hn
          have hni : listed[i]? ≠ some true := fun e => by have h2 := hi.2.1; simp [e] at h2
          have m1 : i ∈ (List.range l.length).filter fun k => !(listed[k]? == some true) := by simp [hil, hni]
          have m2 : k ∈ (List.range l.length).filter fun k => !(listed[k]? == some true) := by simp [hk, hn.2]
          match hf : (List.range l.length).filter fun k => !(listed[k]? == some true), hcnt with
          | [], _ => rw [hf] at m1; simp at m1
          | [x], _ => rw [hf] at m1 m2; simp at m1 m2; exact hn.1 (by omega)
          | _ :: _ :: _, hcnt => simp at hcnt
        · exact e
      · simp only [Region.ready, List.mem_filter, List.mem_range, Bool.and_eq_true, Bool.not_eq_true'] at hi
        have hil : i < l.length := by simpa using hi.1
        have hiz : i < listed.size := by rw [hI.lsz]; exact hil
        have hni : listed[i]? ≠ some true := fun e => by have h2 := hi.2.1; simp [e] at h2
        have hlt : ((List.range l.length).filter fun k => !((listed.setIfInBounds i true)[k]? == some true)).length < ((List.range l.length).filter fun k => !(listed[k]? == some true)).length := by
          refine filter_lt (i := i) ?_ (by simp [hil]) ?_ ?_
          · intro k hk
            simp only [Bool.not_eq_true', beq_eq_false_iff_ne, ne_eq] at hk ⊢
            exact fun e => hk ((get_set_true hiz).2 (.inr e))
          · simpa using hni
          · simp [hiz]
        omega
  have hnone : ∀ j : Nat, (Array.replicate l.toArray.size false)[j]? ≠ some true := by
    intro j hj
    simp [Array.getElem?_replicate] at hj
  refine key _ _ 0 [] L _ _ ⟨by simp, ha.size, ha.dfr, hw.drew _, ?_, by omega, ?_, ?_, ?_, ?_, ?_, ?_, ?_, ?_⟩ ?_ ?_
  · intro w hw
    have : rank ms 0 = 0 := by simp [rank]
    rw [this]
    simp only [h0]
    refine hw.sel _ ?_
    have := hjn 0
    rwa [h0] at this
  · simpa [rank] using k
  · intro i _ _
    exact ⟨fun e => absurd e (hnone i), fun e => by omega⟩
  · intro j hj; exact absurd hj (hnone j)
  · intro t v hv; simp [ev1] at hv
  · intro t _ i hi; omega
  · intro t ht; simp [ev1] at ht
  · intro t k _ _ _ _ hl; exact absurd hl (hnone k)
  · intro t _ _ v hv; exact ha.get t v hv
  · intro k hk _
    simpa using Nat.lt_of_le_of_lt (Nat.zero_le _) hk
  · refine Nat.le_trans (List.length_filter_le _ _) ?_
    simp
end
end Go.SL
