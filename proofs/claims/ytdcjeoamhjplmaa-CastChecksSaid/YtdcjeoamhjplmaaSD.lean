/-
  Regions whose order is drawn: whatever order the edges allow, operations that leave the resources as they are give what they give in the text's order.
-/
import Derived.Test.YtdcjeoamhjplmaaSL
namespace Go.SL
set_option linter.unusedVariables false
open Go.RowKit

/-- What one operation gives, with the slots as 'env' says. -/
def OpOk (P : Program) (β : Bs) (ops : Array Oper) (L : List Res) (o : Oper) (env : Env) (v : Value) : Prop :=
  (o.guard = none ∧ LO P β env L o v) ∨
  (∃ j want t u c v', o.guard = some (j, want) ∧ (ops[j]?).bind (·.dst) = some t ∧ ev1 env t = some u ∧ GD u want c ∧ (c = true → LO P β env L o v') ∧ v = gv c v')

def LL (P : Program) (β : Bs) (N : Nat) (ops : Array Oper) (L : List Res) : List Oper → Env → Env → Prop
  | [], env, env' => env = env'
  | o :: r, env, env' => ∃ d v, o.dst = some d ∧ d < N ∧ OpOk P β ops L o env v ∧ LL P β N ops L r ((d, v) :: env) env'

section
variable {P : Program} {ro : Option Nat} {β : Bs} {ds : List Deferred} {N : Nat} {ops : Array Oper} {L : List Res} {env env' : Env}

theorem LL.nil : LL P β N ops L [] env env := rfl
theorem LL.l {d : Nat} {op : Op} {ty : TypeId} {pos : String} {aft : Array Edge} {rest : List Oper} {v : Value} (h : LO P β env L ⟨some d, op, ty, pos, aft, none⟩ v) (hd : Nat.blt d N = true)
    (k : LL P β N ops L rest ((d, v) :: env) env') : LL P β N ops L (⟨some d, op, ty, pos, aft, none⟩ :: rest) env env' :=
  ⟨d, v, rfl, Nat.le_of_ble_eq_true hd, .inl ⟨rfl, h⟩, k⟩
theorem LL.lg {d j t : Nat} {want c : Bool} {op : Op} {ty : TypeId} {pos : String} {aft : Array Edge} {rest : List Oper} {v u : Value} (hj : (ops[j]?).bind (·.dst) = some t) (ht : ev1 env t = some u) (hg : GD u want c)
    (h : c = true → LO P β env L ⟨some d, op, ty, pos, aft, some (j, want)⟩ v) (hd : Nat.blt d N = true)
    (k : LL P β N ops L rest ((d, gv c v) :: env) env') : LL P β N ops L (⟨some d, op, ty, pos, aft, some (j, want)⟩ :: rest) env env' :=
  ⟨d, gv c v, rfl, Nat.le_of_ble_eq_true hd, .inr ⟨j, want, t, u, c, v, rfl, hj, ht, hg, h, rfl⟩, k⟩
end

/-! ### Which operation comes before which -/
/-- A number more, if it is not there yet. -/
def insN (x : Nat) (s : List Nat) : List Nat := bif s.any (Nat.beq x) then s else x :: s
def clStep (acc : List (List Nat)) (o : Oper) : List (List Nat) :=
  acc ++ [(o.after.toList.flatMap fun e => if Region.binds .any e then e.on :: acc.getD e.on [] else []).foldr insN []]
def clOf (ops : List Oper) : List (List Nat) := ops.foldl clStep []

def readsOf (ops : Array Oper) (o : Oper) : List Nat :=
  (o.op.operands.toList.filterMap fun | .tmp t => some t | _ => none) ++ (match o.guard with | some (j, _) => (((ops[j]?).bind (·.dst)).toList) | none => [])

def idxs (n : Nat) : List Nat := List.range n
def dstIs (l : List Oper) (i t : Nat) : Bool := match l[i]? with | some o => (match o.dst with | some d => Nat.beq d t | none => false) | none => false

/-- The edges are closed in 'cl'; writers of a slot are in order; a reader and a writer of a slot are in order. -/
def chk (l : List Oper) : Bool :=
  let cl := clOf l
  let n := l.length
  (idxs n).all fun k =>
    match l[k]? with
    | none => false
    | some o =>
      o.after.toList.all (fun e => !Region.binds .any e || Nat.blt e.on k) &&
      (cl.getD k []).all (fun i => o.after.toList.any fun e => Region.binds .any e && (Nat.beq e.on i || (cl.getD e.on []).contains i)) &&
      o.after.toList.all (fun e => !Region.binds .any e || (cl.getD k []).contains e.on) &&
      (match o.dst with
       | none => false
       | some d => (idxs n).all fun i => !dstIs l i d || !Nat.blt i k || (cl.getD k []).contains i) &&
      (readsOf l.toArray o).all fun t => (idxs n).all fun i => !dstIs l i t || (if Nat.blt i k then (cl.getD k []).contains i else if Nat.blt k i then (cl.getD i []).contains k else true)

section
variable {P : Program} {ro : Option Nat} {β : Bs} {ds : List Deferred} {N : Nat} {L : List Res}

/-- The pairs that the operations lay, in the text's order. -/
theorem LL.pairs {ops : Array Oper} : ∀ {l : List Oper} {env env' : Env}, LL P β N ops L l env env' →
    ∃ vs : List (Nat × Value), vs.length = l.length ∧ env' = vs.reverse ++ env ∧ ∀ k o, l[k]? = some o → ∃ d v, vs[k]? = some (d, v) ∧ o.dst = some d ∧ d < N ∧ OpOk P β ops L o ((vs.take k).reverse ++ env) v
  | [], env, env', h => ⟨[], rfl, by simpa using h.symm, by simp⟩
  | o :: r, env, env', ⟨d, v, hd, hN, hok, hr⟩ => by
    obtain ⟨vs, h1, h2, h3⟩ := LL.pairs hr
    refine ⟨(d, v) :: vs, by simp [h1], by simp [h2], ?_⟩
    intro k o' hk
    cases k with
    | zero => simp at hk; subst hk; exact ⟨d, v, by simp, hd, hN, by simpa using hok⟩
    | succ k =>
      simp at hk
      obtain ⟨d', v', g1, g2, g3, g4⟩ := h3 k o' hk
      exact ⟨d', v', by simpa using g1, g2, g3, by simpa using g4⟩

/-- What a slot holds behind the first 'k' pairs. -/
theorem ev1_text (vs : List (Nat × Value)) (env : Env) (t : Nat) (u : Value) : ∀ k, ev1 ((vs.take k).reverse ++ env) t = some u →
    (∃ i v, i < k ∧ vs[i]? = some (t, v) ∧ v = u ∧ ∀ i' x, i < i' → i' < k → vs[i']? = some x → x.1 ≠ t) ∨ ((∀ i x, i < k → vs[i]? = some x → x.1 ≠ t) ∧ ev1 env t = some u)
  | 0, h => .inr ⟨fun i x hi => by omega, by simpa using h⟩
  | k + 1, h => by
    cases hk : vs[k]? with
    | none =>
      have hl : vs.length ≤ k := by simpa using hk
      have e : vs.take (k + 1) = vs.take k := by rw [List.take_of_length_le (by omega), List.take_of_length_le hl]
      rw [e] at h
      rcases ev1_text vs env t u k h with ⟨i, v, h1, h2, h3, h4⟩ | ⟨h1, h2⟩
      · exact .inl ⟨i, v, by omega, h2, h3, fun i' x a b c => h4 i' x a (by
          rcases Nat.lt_or_ge i' k with q | q
          · exact q
          · have : i' = k := by omega
            subst this; rw [hk] at c; cases c) c⟩
      · exact .inr ⟨fun i x a b => h1 i x (by
          rcases Nat.lt_or_ge i k with q | q
          · exact q
          · have : i = k := by omega
            subst this; rw [hk] at b; cases b) b, h2⟩
    | some x =>
      obtain ⟨d, v⟩ := x
      have e : vs.take (k + 1) = vs.take k ++ [(d, v)] := by
        have hl : k < vs.length := by
          rcases Nat.lt_or_ge k vs.length with q | q
          · exact q
          · simp [List.getElem?_eq_none q] at hk
        rw [List.take_succ_eq_append_getElem hl]
        have : vs[k] = (d, v) := by simpa [List.getElem?_eq_getElem hl] using hk
        rw [this]
      rw [e, List.reverse_append, List.append_assoc] at h
      by_cases hd : t = d
      · subst hd
        simp only [List.reverse_singleton, List.singleton_append] at h
        rw [ev1_cons_eq] at h
        exact .inl ⟨k, v, by omega, hk, by simpa using h, fun i' x a b => by omega⟩
      · simp only [List.reverse_singleton, List.singleton_append] at h
        rw [ev1_cons_ne hd] at h
        rcases ev1_text vs env t u k h with ⟨i, v', h1, h2, h3, h4⟩ | ⟨h1, h2⟩
        · refine .inl ⟨i, v', by omega, h2, h3, fun i' x a b c => ?_⟩
          by_cases q : i' = k
          · subst q; rw [hk] at c; cases c; exact fun e => hd e.symm
          · exact h4 i' x a (by omega) c
        · refine .inr ⟨fun i x a b => ?_, h2⟩
          by_cases q : i = k
          · subst q; rw [hk] at b; cases b; exact fun e => hd e.symm
          · exact h1 i x (by omega) b

structure DrInv (N : Nat) (ds : List Deferred) (β : Bs) (L : List Res) (cl : List (List Nat)) (vs : List (Nat × Value)) (env : Env) (listed : Array Bool) (a : Act) (w : World) : Prop where
  lsz : listed.size = vs.length
  size : a.tmps.size = N
  dfr : a.defers = ds
  st : St β L w
  closed : ∀ j, listed[j]? = some true → ∀ i, i ∈ cl.getD j [] → listed[i]? = some true
  top : ∀ t k v, vs[k]? = some (t, v) → listed[k]? = some true → (∀ (k' : Nat) (x : Nat × Value), vs[k']? = some x → x.1 = t → listed[k']? = some true → k' ≤ k) → a.tmps[t]? = some v
  base : ∀ t, (∀ (k : Nat) (x : Nat × Value), vs[k]? = some x → x.1 = t → listed[k]? ≠ some true) → ∀ v, ev1 env t = some v → a.tmps[t]? = some v

theorem DrInv.end_ {cl : List (List Nat)} {vs : List (Nat × Value)} {env : Env} {listed : Array Bool} {a : Act} {w : World} (h : DrInv N ds β L cl vs env listed a w) (hall : ∀ k, k < vs.length → listed[k]? = some true) : Ag N ds (vs.reverse ++ env) a := by
  refine ⟨h.size, h.dfr, fun t u hu => ?_⟩
  have hu' : ev1 ((vs.take vs.length).reverse ++ env) t = some u := by simpa using hu
  have lt_of : ∀ {k : Nat} {x : Nat × Value}, vs[k]? = some x → k < vs.length := fun {k x} hx => by
    rcases Nat.lt_or_ge k vs.length with q | q
    · exact q
    · simp [List.getElem?_eq_none q] at hx
  rcases ev1_text vs env t u vs.length hu' with ⟨i, v, h1, h2, rfl, h4⟩ | ⟨h1, h2⟩
  · refine h.top t i v h2 (hall i h1) fun k' x hx hxt _ => ?_
    rcases Nat.lt_or_ge i k' with q | q
    · exact absurd hxt (h4 k' x q (lt_of hx) hx)
    · exact q
  · exact h.base t (fun k x hx hxt => absurd hxt (h1 k x (lt_of hx) hx)) u h2

theorem chk_spec {l : List Oper} (h : chk l = true) {k : Nat} {o : Oper} (hk : l[k]? = some o) :
    (∀ e, e ∈ o.after.toList → Region.binds .any e = true → e.on < k) ∧
    (∀ i, i ∈ (clOf l).getD k [] → ∃ e, e ∈ o.after.toList ∧ Region.binds .any e = true ∧ (e.on = i ∨ i ∈ (clOf l).getD e.on [])) ∧
    (∀ e, e ∈ o.after.toList → Region.binds .any e = true → e.on ∈ (clOf l).getD k []) ∧
    (∃ d, o.dst = some d ∧ ∀ i, i < k → dstIs l i d = true → i ∈ (clOf l).getD k []) ∧
    (∀ t, t ∈ readsOf l.toArray o → ∀ i, i < l.length → dstIs l i t = true → (i < k → i ∈ (clOf l).getD k []) ∧ (k < i → k ∈ (clOf l).getD i [])) := by
  have hlt : k < l.length := by
    rcases Nat.lt_or_ge k l.length with q | q
    · exact q
    · simp [List.getElem?_eq_none q] at hk
  have h1 := List.all_eq_true.1 h k (by simpa [idxs] using hlt)
  simp only [hk, Bool.and_eq_true] at h1
  obtain ⟨⟨⟨⟨a1, a2⟩, a3⟩, a4⟩, a5⟩ := h1
  refine ⟨?_, ?_, ?_, ?_, ?_⟩
  · intro e he hb
    have := List.all_eq_true.1 a1 e he
    simp only [hb, Bool.not_true, Bool.false_or] at this
    exact Nat.le_of_ble_eq_true this
  · intro i hi
    have := List.all_eq_true.1 a2 i hi
    obtain ⟨e, he, hx⟩ := List.any_eq_true.1 this
    simp only [Bool.and_eq_true, Bool.or_eq_true] at hx
    exact ⟨e, he, hx.1, hx.2.imp Nat.eq_of_beq_eq_true (by simp)⟩
  · intro e he hb
    have := List.all_eq_true.1 a3 e he
    simpa [hb] using this
  · cases hd : o.dst with
    | none => simp [hd] at a4
    | some d =>
      simp only [hd] at a4
      refine ⟨d, rfl, fun i hi hw => ?_⟩
      have := List.all_eq_true.1 a4 i (by simp [idxs]; omega)
      have hb : Nat.blt i k = true := Nat.ble_eq_true_of_le hi
      simpa [hw, hb] using this
  · intro t ht i hil hw
    have := List.all_eq_true.1 (List.all_eq_true.1 a5 t ht) i (by simpa [idxs] using hil)
    simp only [hw, Bool.not_true, Bool.false_or] at this
    refine ⟨fun hi => ?_, fun hi => ?_⟩
    · have hb : Nat.blt i k = true := Nat.ble_eq_true_of_le hi
      simpa [hb] using this
    · have hb : Nat.blt k i = true := Nat.ble_eq_true_of_le hi
      have hb' : Nat.blt i k = false := by
        cases q : Nat.blt i k
        · rfl
        · have := Nat.le_of_ble_eq_true q; omega
      simpa [hb, hb'] using this

theorem filter_lt {p q : Nat → Bool} {i : Nat} (h : ∀ k, p k = true → q k = true) : ∀ {l : List Nat}, i ∈ l → q i = true → p i = false → (l.filter p).length < (l.filter q).length
  | [], hi, _, _ => by simp at hi
  | x :: l, hi, hq, hp => by
    have le : ∀ l : List Nat, (l.filter p).length ≤ (l.filter q).length := by
      intro l
      induction l with
      | nil => simp
      | cons y l ih =>
        simp only [List.filter_cons]
        by_cases hy : p y = true
        · simp [hy, h y hy]; omega
        · simp only [Bool.not_eq_true] at hy
          rw [if_neg (by simp [hy])]
          split
          · simp only [List.length_cons]; omega
          · exact ih
    simp only [List.filter_cons]
    rcases List.mem_cons.1 hi with rfl | hi
    · rw [if_neg (by simp [hp]), if_pos hq]
      have := le l
      simp; omega
    · have ih := filter_lt h hi hq hp
      by_cases hy : p x = true
      · simp [hy, h x hy]; omega
      · simp only [Bool.not_eq_true] at hy
        rw [if_neg (by simp [hy])]
        split
        · simp only [List.length_cons]; omega
        · exact ih

theorem get_set_true {listed : Array Bool} {i j : Nat} (hi : i < listed.size) : (listed.setIfInBounds i true)[j]? = some true ↔ j = i ∨ listed[j]? = some true := by
  by_cases e : j = i
  · subst e; simp [hi]
  · rw [Array.getElem?_setIfInBounds_ne (Ne.symm e)]; simp [e]

/-- One operation more. -/
theorem DrInv.step {l : List Oper} {Q : Exit → Act → World → Prop} {vs : List (Nat × Value)} {env : Env} {listed : Array Bool} {a : Act} {w : World} (hc : chk l = true) (hlen : vs.length = l.length)
    (hp : ∀ k o, l[k]? = some o → ∃ d v, vs[k]? = some (d, v) ∧ o.dst = some d ∧ d < N ∧ OpOk P β l.toArray L o ((vs.take k).reverse ++ env) v)
    (h : DrInv N ds β L (clOf l) vs env listed a w) {i : Nat} (hi : i ∈ Region.ready .any l.toArray listed) {K : Act → World → Prop}
    (hK : ∀ a' w', DrInv N ds β L (clOf l) vs env (listed.setIfInBounds i true) a' w' → K a' w') : wpOpIn (Wf ro) 0 P l.toArray Q i K a w := by
  simp only [Region.ready, List.mem_filter, List.mem_range, Bool.and_eq_true, Bool.not_eq_true'] at hi
  obtain ⟨hin, hnl, hready⟩ := hi
  have hil : i < l.length := by simpa using hin
  have hiz : i < listed.size := by rw [h.lsz, hlen]; exact hil
  obtain ⟨o, ho⟩ : ∃ o, l[i]? = some o := ⟨l[i], by simp [hil]⟩
  have hnot : listed[i]? ≠ some true := by
    intro e
    have : listed.getD i true = true := by simp [e]
    rw [this] at hnl; cases hnl
  have hdone : ∀ e, e ∈ o.after.toList → Region.binds .any e = true → listed[e.on]? = some true := by
    intro e he hb
    have h1 : (o.after.all fun e => !Region.binds .any e || listed.getD e.on false) = true := by simpa [ho] using hready
    have h2 := (Array.all_eq_true_iff_forall_mem.1 h1) e (by simpa using he)
    simp only [hb, Bool.not_true, Bool.false_or] at h2
    cases q : listed[e.on]? with
    | none => simp [q] at h2
    | some b => simp [q] at h2; rw [h2]
  obtain ⟨c1, c2, c3, ⟨d, hd, c4⟩, c5⟩ := chk_spec hc ho
  have hcl : ∀ j, j ∈ (clOf l).getD i [] → listed[j]? = some true := by
    intro j hj
    obtain ⟨e, he, hb, hx⟩ := c2 j hj
    rcases hx with rfl | hx
    · exact hdone e he hb
    · exact h.closed _ (hdone e he hb) j hx
  obtain ⟨d', v, hv, hd', hdN, hok⟩ := hp i o ho
  have : d' = d := by rw [hd] at hd'; exact (Option.some.inj hd').symm
  subst this
  have dst_of : ∀ {k : Nat} {x : Nat × Value}, vs[k]? = some x → k < l.length ∧ dstIs l k x.1 = true := by
    intro k x hx
    have hk : k < l.length := by
      rcases Nat.lt_or_ge k l.length with q | q
      · exact q
      · rw [List.getElem?_eq_none (by omega)] at hx; cases hx
    obtain ⟨d2, v2, g1, g2, _⟩ := hp k l[k] (by simp [hk])
    rw [hx] at g1
    cases g1
    exact ⟨hk, by simp [dstIs, hk, g2]⟩
  have reads : ∀ t, t ∈ readsOf l.toArray o → ∀ u, ev1 ((vs.take i).reverse ++ env) t = some u → a.tmps[t]? = some u := by
    intro t ht u hu
    have late : ∀ (k' : Nat) (x : Nat × Value), vs[k']? = some x → x.1 = t → listed[k']? = some true → k' < i := by
      intro k' x hx hxt hl
      obtain ⟨hk, hw⟩ := dst_of hx
      rw [hxt] at hw
      rcases Nat.lt_trichotomy k' i with q | q | q
      · exact q
      · subst q; exact absurd hl hnot
      · exact absurd (h.closed k' hl i ((c5 t ht k' hk hw).2 q)) hnot
    rcases ev1_text vs env t u i hu with ⟨k, v', h1, h2, rfl, h4⟩ | ⟨h1, h2⟩
    · obtain ⟨hk, hw⟩ := dst_of h2
      refine h.top t k v' h2 (hcl k ((c5 t ht k hk hw).1 h1)) fun k' x hx hxt hl => ?_
      rcases Nat.lt_or_ge k k' with q | q
      · exact absurd hxt (h4 k' x q (late k' x hx hxt hl) hx)
      · exact q
    · exact h.base t (fun k x hx hxt hl => h1 k x (late k x hx hxt hl) hx hxt) u h2
  have fin : ∀ w', St β L w' → DrInv N ds β L (clOf l) vs env (listed.setIfInBounds i true) (a.put (some d') v) w' := by
    intro w' hs
    refine ⟨by simp [h.lsz], by simp [Act.put, h.size], h.dfr, hs, ?_, ?_, ?_⟩
    · intro j hj k hk
      rw [get_set_true hiz] at hj ⊢
      rcases hj with rfl | hj
      · exact .inr (hcl k hk)
      · exact .inr (h.closed j hj k hk)
    · intro t k u hk hl hmax
      by_cases e : t = d'
      · subst e
        have hki : k = i := by
          have g := hmax i (t, v) hv rfl ((get_set_true hiz).2 (.inl rfl))
          rcases Nat.lt_or_ge i k with q | q
          · exfalso
            obtain ⟨hkl, hw⟩ := dst_of hk
            have hl' : listed[k]? = some true := by
              rcases (get_set_true hiz).1 hl with e | e
              · omega
              · exact e
            obtain ⟨_, _, _, ⟨d3, hd3, c4'⟩, _⟩ := chk_spec hc (k := k) (o := l[k]) (by simp [hkl])
            have hdk : d3 = t := by
              simp only [dstIs, List.getElem?_eq_getElem hkl, hd3] at hw
              exact Nat.eq_of_beq_eq_true hw
            have hwi : dstIs l i d3 = true := by have := (dst_of hv).2; rw [hdk]; exact this
            exact hnot (h.closed k hl' i (c4' i q hwi))
          · omega
        subst hki
        rw [hv] at hk
        cases hk
        simp [Act.put, h.size, hdN]
      · have hki : k ≠ i := fun q => by subst q; rw [hv] at hk; cases hk; exact e rfl
        simp only [Act.put]
        rw [Array.getElem?_setIfInBounds_ne (Ne.symm e)]
        refine h.top t k u hk ?_ fun k' x hx hxt hl' => hmax k' x hx hxt ((get_set_true hiz).2 (.inr hl'))
        rcases (get_set_true hiz).1 hl with q | q
        · exact absurd q hki
        · exact q
    · intro t hno u hu
      have e : t ≠ d' := fun q => hno i (d', v) hv q.symm ((get_set_true hiz).2 (.inl rfl))
      simp only [Act.put]
      rw [Array.getElem?_setIfInBounds_ne (Ne.symm e)]
      exact h.base t (fun k x hx hxt hl => hno k x hx hxt ((get_set_true hiz).2 (.inr hl))) u hu
  unfold wpOpIn
  have ho' : l.toArray[i]? = some o := by simpa using ho
  simp only [ho']
  have opr : ∀ x, x ∈ o.op.operands → ∀ u, ev ((vs.take i).reverse ++ env) x = some u → a.eval x = u := by
    intro x hx u hu
    cases x with
    | tmp t =>
      have := reads t (List.mem_append_left _ (List.mem_filterMap.2 ⟨.tmp t, by simpa using hx, rfl⟩)) u hu
      simp [Act.eval, this]
    | const c => simpa [ev, Act.eval] using hu
    | global g => simpa [ev, Act.eval] using hu
    | func f => simpa [ev, Act.eval] using hu
  rcases hok with ⟨hg, hlo⟩ | ⟨j, want, t, u, c, v', hg, hj, ht, hgd, hlo, rfl⟩
  · rw [if_pos (by simp [Region.wanted, hg])]
    have := (hlo a w opr h.st).wp (ro := ro) (Q := Q) (K := K) fun w' hs => by rw [hd]; exact hK _ _ (fin w' hs)
    exact this
  · have ht' : a.tmps[t]? = some u := reads t (List.mem_append_right _ (by rw [hg]; show t ∈ ((l.toArray[j]?).bind (·.dst)).toList; rw [hj]; simp)) u ht
    have hy : yielded l.toArray a.tmps j = vb u := by
      unfold yielded; rw [hj]; simp only [Option.bind_some, ht']; cases u <;> rfl
    simp only [Region.wanted, hg, hy]
    cases c with
    | true =>
      have hu := hgd.1 rfl
      subst hu
      simp only [vb, beq_self_eq_true, if_true]
      have := (hlo rfl a w opr h.st).wp (ro := ro) (Q := Q) (K := K) fun w' hs => by
        rw [hd]
        have := fin w' hs
        rw [show gv true v' = v' from rfl] at this
        exact hK _ _ this
      exact this
    | false =>
      have hu := hgd.2 rfl
      have hne := vb_ne hu
      simp only [hne, Bool.false_eq_true, if_false]
      have := fin w h.st
      rw [show gv false v' = undef from rfl] at this
      rw [hd]
      exact ⟨fun _ _ => True.intro, hK _ _ this⟩

/-- A region whose order is drawn. -/
theorem VC.draw {env env' : Env} {id : Nat} {l : List Oper} {Q : Exit → Act → World → Prop} (hm : P.follows .mixedOrders = true) (h : LL P β N l.toArray L l env env') (hc : chk l = true) (k : VE β N ds env' L .normal Q) :
    VC P ro β N ds env L (.region id l.toArray true) Q := by
  intro a w ha hw
  obtain ⟨vs, h1, rfl, h3⟩ := h.pairs
  refine wpIn_region_any hm ?_
  have key : ∀ fuel listed a w, DrInv N ds β L (clOf l) vs env listed a w → (∀ k, k < vs.length → listed[k]? ≠ some true → 0 < fuel) → ((List.range vs.length).filter fun k => !(listed[k]? == some true)).length ≤ fuel → wpAnyIn (Wf ro) 0 P .any l.toArray Q fuel listed a w := by
    intro fuel
    induction fuel with
    | zero =>
      intro listed a w hI h0 _
      have hall : ∀ k, k < vs.length → listed[k]? = some true := fun k hk => Classical.byContradiction fun hn => by have := h0 k hk hn; omega
      refine ⟨?_, k _ _ (hI.end_ hall) hI.st⟩
      simp only [Region.ready, List.filter_eq_nil_iff, List.mem_range, Bool.and_eq_true, Bool.not_eq_true', not_and]
      intro i hi hf
      have := hall i (by rw [h1]; simpa using hi)
      simp [this] at hf
    | succ fuel ih =>
      intro listed a w hI h0 hcnt
      refine ⟨fun hr => ?_, fun i hi => ?_⟩
      · refine k _ _ (hI.end_ ?_) hI.st
        have : ∀ n k, k = n → k < vs.length → listed[k]? = some true := by
          intro n
          induction n using Nat.strongRecOn with
          | _ n ihn =>
            rintro k rfl hk
            refine Classical.byContradiction fun hn => ?_
            have hkl : k < l.length := by omega
            have hnm : k ∉ Region.ready .any l.toArray listed := by rw [hr]; simp
            apply hnm
            simp only [Region.ready, List.mem_filter, List.mem_range, Bool.and_eq_true, Bool.not_eq_true']
            refine ⟨by simpa using hkl, ?_, ?_⟩
            · cases q : listed[k]? with
              | none =>
                have : k < listed.size := by rw [hI.lsz]; exact hk
                simp [this] at q
              | some b => cases b with
                | true => exact absurd q hn
                | false => simp [q]
            · have hok : l.toArray[k]? = some l[k] := by simp [hkl]
              simp only [hok, Option.map_some, Option.getD_some]
              refine Array.all_eq_true_iff_forall_mem.2 fun e he => ?_
              cases hb : Region.binds .any e with
              | false => rfl
              | true =>
                have hlt := (chk_spec hc (k := k) (o := l[k]) (by simp [hkl])).1 e (by simpa using he) hb
                have := ihn e.on hlt e.on rfl (by omega)
                simp [this]
        exact fun k hk => this k k rfl hk
      · refine hI.step hc h1 h3 hi fun a' w' hI' => ih _ _ _ hI' ?_ ?_
        · intro k hk hn
          rcases Nat.eq_zero_or_pos fuel with e | e
          · exfalso
            subst e
            simp only [Region.ready, List.mem_filter, List.mem_range, Bool.and_eq_true, Bool.not_eq_true'] at hi
            have hiz : i < listed.size := by rw [hI.lsz, h1]; simpa using hi.1
            rw [Ne, get_set_true hiz, not_or] at hn
            have hni : listed[i]? ≠ some true := fun e => by have h2 := hi.2.1; simp [e] at h2
            have hil : i < vs.length := by rw [h1]; simpa using hi.1
            have m1 : i ∈ (List.range vs.length).filter fun k => !(listed[k]? == some true) := by simp [hil, hni]
            have m2 : k ∈ (List.range vs.length).filter fun k => !(listed[k]? == some true) := by simp [hk, hn.2]
            match hf : (List.range vs.length).filter fun k => !(listed[k]? == some true), hcnt with
            | [], _ => rw [hf] at m1; simp at m1
            | [x], _ => rw [hf] at m1 m2; simp at m1 m2; exact hn.1 (by omega)
            | _ :: _ :: _, hcnt => simp at hcnt
          · exact e
        · simp only [Region.ready, List.mem_filter, List.mem_range, Bool.and_eq_true, Bool.not_eq_true'] at hi
          have hiz : i < listed.size := by rw [hI.lsz, h1]; simpa using hi.1
          have hni : listed[i]? ≠ some true := fun e => by have h2 := hi.2.1; simp [e] at h2
          have hil : i < vs.length := by rw [h1]; simpa using hi.1
          have hlt : ((List.range vs.length).filter fun k => !((listed.setIfInBounds i true)[k]? == some true)).length < ((List.range vs.length).filter fun k => !(listed[k]? == some true)).length := by
            refine filter_lt (i := i) ?_ (by simp [hil]) ?_ ?_
            · intro k hk
              simp only [Bool.not_eq_true', beq_eq_false_iff_ne, ne_eq] at hk ⊢
              exact fun e => hk ((get_set_true hiz).2 (.inr e))
            · simpa using hni
            · simp [hiz]
          omega
  refine key _ _ _ _ ⟨by simp [h1], ha.size, ha.dfr, hw.drew _, ?_, ?_, ?_⟩ ?_ ?_
  · intro j hj
    simp [Array.getElem?_replicate] at hj
  · intro t k v hk hl
    simp [Array.getElem?_replicate] at hl
  · intro t _ v hv
    exact ha.get t v hv
  · intro k hk _
    rw [h1] at hk
    simpa using Nat.lt_of_le_of_lt (Nat.zero_le _) hk
  · refine Nat.le_trans (List.length_filter_le _ _) ?_
    simp [h1]
end
end Go.SL
