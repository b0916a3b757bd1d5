/-
  A drawn region whose heavy operations stand in an order that is partly open: each of their orders is walked.
-/
import Derived.Test.YtdcjeoamhjplmaaSB
namespace Go.SL
set_option linter.unusedVariables false
set_option linter.unusedSimpArgs false
open Go.RowKit

def readyH (l : List Oper) (ms : List (Option Nat)) (S : List Nat) : List Nat :=
  (idxs l.length).filter fun i => isHeavy ms i && !S.contains i && ((clOf l).getD i []).all fun j => !isHeavy ms j || S.contains j

/-- The operation is wanted: it has no guard, or one whose answer is known. -/
def GdOk (l : List Oper) (env : Env) (o : Oper) : Prop := o.guard = none ∨ ∃ j want t, o.guard = some (j, want) ∧ (l[j]?).bind (·.dst) = some t ∧ ev1 env t = some (.bool want)
def HE (P : Program) (β : Bs) (N : Nat) (ds : List Deferred) (L0 : List Res) (Q : Exit → Act → World → Prop) (l : List Oper) (ms : List (Option Nat)) : Nat → List Nat → Env → List Res → Prop
  | 0, _, _, _ => False
  | n + 1, S, env, L => (readyH l ms S = [] → VE β N ds env L .normal Q) ∧ ∀ i, i ∈ readyH l ms S → ∃ o, l[i]? = some o ∧ GdOk l env o ∧ (∀ d, o.dst = some d → d < N) ∧ HO P β env L o fun v L' => (∀ w, St β L' w → St β L0 w) ∧ HE P β N ds L0 Q l ms n (i :: S) (putE o v env) L'

def chkE (l : List Oper) (ms : List (Option Nat)) : Bool :=
  let cl := clOf l
  let n := l.length
  Nat.beq ms.length n &&
  (idxs n).all fun k =>
    match l[k]? with
    | none => false
    | some o =>
      o.after.toList.all (fun e => !Region.binds .any e || Nat.blt e.on k) &&
      (cl.getD k []).all (fun i => o.after.toList.any fun e => Region.binds .any e && (Nat.beq e.on i || (cl.getD e.on []).contains i)) &&
      (match o.dst with
       | none => !isLight ms k
       | some d => (idxs n).all fun i => !dstIs l i d || !ahead ms i k || (cl.getD k []).contains i) &&
      ((readsOf l.toArray o).all fun t => (idxs n).all fun i => !dstIs l i t || ((!ahead ms i k || (cl.getD k []).contains i) && (!ahead ms k i || (cl.getD i []).contains k)))

structure ChkE (l : List Oper) (ms : List (Option Nat)) : Prop where
  len : ms.length = l.length
  ops : ∀ k o, l[k]? = some o →
      (∀ e, e ∈ o.after.toList → Region.binds .any e = true → e.on < k) ∧
      (∀ i, i ∈ (clOf l).getD k [] → ∃ e, e ∈ o.after.toList ∧ Region.binds .any e = true ∧ (e.on = i ∨ i ∈ (clOf l).getD e.on [])) ∧
      (∀ d, o.dst = some d → ∀ i, i < l.length → dstIs l i d = true → ahead ms i k = true → i ∈ (clOf l).getD k []) ∧
      (∀ t, t ∈ readsOf l.toArray o → ∀ i, i < l.length → dstIs l i t = true → (ahead ms i k = true → i ∈ (clOf l).getD k []) ∧ (ahead ms k i = true → k ∈ (clOf l).getD i []))

theorem ChkE.of {l : List Oper} {ms : List (Option Nat)} (h : chkE l ms = true) : ChkE l ms := by
  unfold chkE at h
  simp only [Bool.and_eq_true] at h
  obtain ⟨h1, h2⟩ := h
  refine ⟨Nat.eq_of_beq_eq_true h1, fun k o ho => ?_⟩
  have hk : k < l.length := (List.getElem?_eq_some_iff.1 ho).1
  have h3 := List.all_eq_true.1 h2 k (by simpa [idxs] using hk)
  rw [ho] at h3
  simp only [Bool.and_eq_true] at h3
  obtain ⟨⟨⟨a, b⟩, c⟩, d⟩ := h3
  refine ⟨fun e he hb => ?_, fun i hi => ?_, fun dd hdd i hi hdi hah => ?_, fun t ht i hi hdi => ?_⟩
  · have := List.all_eq_true.1 a e he
    rw [hb] at this
    simpa [Nat.blt_eq] using this
  · have := List.all_eq_true.1 b i hi
    obtain ⟨e, he, hh⟩ := List.any_eq_true.1 this
    simp only [Bool.and_eq_true, Bool.or_eq_true] at hh
    refine ⟨e, he, hh.1, ?_⟩
    rcases hh.2 with q | q
    · exact .inl (Nat.eq_of_beq_eq_true q)
    · exact .inr (by simpa using q)
  · rw [hdd] at c
    have := List.all_eq_true.1 c i (by simpa [idxs] using hi)
    simp only [hdi, hah, Bool.not_true, Bool.false_or] at this
    simpa using this
  · have h4 := List.all_eq_true.1 d t ht
    have := List.all_eq_true.1 h4 i (by simpa [idxs] using hi)
    simp only [hdi, Bool.not_true, Bool.false_or, Bool.and_eq_true] at this
    refine ⟨fun q => ?_, fun q => ?_⟩
    · have h5 := this.1; rw [q] at h5; simpa using h5
    · have h5 := this.2; rw [q] at h5; simpa using h5

structure Hx (P : Program) (β : Bs) (N : Nat) (ds : List Deferred) (L0 : List Res) (Q : Exit → Act → World → Prop) (l : List Oper) (ms : List (Option Nat)) (V : Nat → Value) (env : Env) (listed : Array Bool) (n : Nat) (S : List Nat) (eh : Env) (L : List Res) (a : Act) (w : World) : Prop where
  lsz : listed.size = l.length
  size : a.tmps.size = N
  dfr : a.defers = ds
  st : St β L w
  hJ : ∀ w, St β L w → St β L0 w
  hy : HE P β N ds L0 Q l ms n S (eh ++ envK l ms V env l.length) L
  hS : ∀ i, i ∈ S → i < l.length ∧ isHeavy ms i = true
  hd : ∀ i, i < l.length → isHeavy ms i = true → (listed[i]? = some true ↔ i ∈ S)
  closed : ∀ j, listed[j]? = some true → ∀ i, i ∈ (clOf l).getD j [] → listed[i]? = some true
  eh1 : ∀ t v, ev1 eh t = some v → a.tmps[t]? = some v
  eh2 : ∀ t, ev1 eh t = none → ∀ i, i ∈ S → dstIs l i t = false
  eh3 : ∀ t, ev1 eh t ≠ none → ∃ i, i ∈ S ∧ dstIs l i t = true
  top : ∀ t k, ev1 eh t = none → k < l.length → isLight ms k = true → dstIs l k t = true → listed[k]? = some true → (∀ k', k' < l.length → isLight ms k' = true → dstIs l k' t = true → listed[k']? = some true → k' ≤ k) → a.tmps[t]? = some (V k)
  base : ∀ t, ev1 eh t = none → (∀ k, k < l.length → isLight ms k = true → dstIs l k t = true → listed[k]? ≠ some true) → ∀ v, ev1 env t = some v → a.tmps[t]? = some v

section
variable {P : Program} {ro : Option Nat} {β : Bs} {ds : List Deferred} {N : Nat} {Q : Exit → Act → World → Prop} {env : Env} {L L0 : List Res}
set_option maxHeartbeats 2000000 in
theorem Hx.step {l : List Oper} {ms : List (Option Nat)} {V : Nat → Value} {listed : Array Bool} {n : Nat} {S : List Nat} {eh : Env} {a : Act} {w : World} {Q' : Exit → Act → World → Prop} (hc : ChkE l ms)
    (hV : ∀ k o m, l[k]? = some o → ms[k]? = some (some m) → ∃ d, o.dst = some d ∧ d < N ∧ ∀ L, (∀ w, St β L w → St β L0 w) → OpOk P β l.toArray L o (envK l ms V env k) (V k))
    (h : Hx P β N ds L0 Q l ms V env listed n S eh L a w) {i : Nat} (hi : i ∈ Region.ready .any l.toArray listed) {K : Act → World → Prop}
    (hK : ∀ n' S' eh' L' a' w', Hx P β N ds L0 Q l ms V env (listed.setIfInBounds i true) n' S' eh' L' a' w' → K a' w') : wpOpIn (Wf ro) 0 P l.toArray Q' i K a w := by
  have hlen := hc.len
  simp only [Region.ready, List.mem_filter, List.mem_range, Bool.and_eq_true, Bool.not_eq_true'] at hi
  obtain ⟨hin, hnl, hready⟩ := hi
  have hil : i < l.length := by simpa using hin
  have hiz : i < listed.size := by rw [h.lsz]; exact hil
  obtain ⟨o, ho⟩ : ∃ o, l[i]? = some o := ⟨l[i], by simp [hil]⟩
  have hnot : listed[i]? ≠ some true := by
    intro e
    have : listed.getD i true = true := by simp [e]
    rw [this] at hnl; cases hnl
  have hdone : ∀ e, e ∈ o.after.toList → Region.binds .any e = true → listed[e.on]? = some true := by
    intro e he hb
    have h1 : (o.after.all fun e => !Region.binds .any e || listed.getD e.on false) = true := by simpa [ho] using hready
    have h2 := (Array.all_eq_true_iff_forall_mem.1 h1) e (by simpa using he)
    simp only [hb, Bool.not_true, Bool.false_or] at h2
    cases q : listed[e.on]? with
    | none => simp [q] at h2
    | some b => simp [q] at h2; rw [h2]
  obtain ⟨c1, c2, c5, c6⟩ := hc.ops i o ho
  have hcl : ∀ j, j ∈ (clOf l).getD i [] → listed[j]? = some true := by
    intro j hj
    obtain ⟨e, he, hb, hx⟩ := c2 j hj
    rcases hx with rfl | hx
    · exact hdone e he hb
    · exact h.closed _ (hdone e he hb) j hx
  have closed' : ∀ j, (listed.setIfInBounds i true)[j]? = some true → ∀ k, k ∈ (clOf l).getD j [] → (listed.setIfInBounds i true)[k]? = some true := by
    intro j hj k hk
    rw [get_set_true hiz] at hj ⊢
    rcases hj with rfl | hj
    · exact .inr (hcl k hk)
    · exact .inr (h.closed j hj k hk)
  have ho' : l.toArray[i]? = some o := by simpa using ho
  have dstI : ∀ d, o.dst = some d → ∀ t, dstIs l i t = Nat.beq d t := by
    intro d hd t; simp [dstIs, ho, hd]
  have before : ∀ t, t ∈ readsOf l.toArray o → ∀ k, k < l.length → dstIs l k t = true → ahead ms k i = true → listed[k]? = some true := fun t ht k hk hw ha => hcl k ((c6 t ht k hk hw).1 ha)
  have behind : ∀ t, t ∈ readsOf l.toArray o → ∀ k, k < l.length → dstIs l k t = true → ahead ms i k = true → listed[k]? ≠ some true := fun t ht k hk hw ha hl => hnot (h.closed k hl i ((c6 t ht k hk hw).2 ha))
  have lightNo : ∀ k, k < l.length → isHeavy ms k = true → isLight ms k = false := fun k hkl hkh => by
    rcases light_or_heavy hlen hkl with ⟨_, b, _⟩ | ⟨a, _, _⟩
    · rw [b] at hkh; cases hkh
    · exact a
  have dstK : ∀ k d (hkl : k < l.length), dstIs l k d = true → l[k].dst = some d := fun k d hkl hkd => by
    simp only [dstIs, List.getElem?_eq_getElem hkl] at hkd
    cases r : l[k].dst with
    | none => simp [r] at hkd
    | some d' => simp only [r] at hkd; rw [Nat.eq_of_beq_eq_true hkd]
  unfold wpOpIn
  simp only [ho']
  rcases light_or_heavy hlen hil with ⟨hli, hhv, m, hm⟩ | ⟨hli, hhv, hm⟩
  · -- a light one
    obtain ⟨d, hd, hdN, hok⟩ := hV i o m ho hm
    have hno : ev1 eh d = none := by
      cases q : ev1 eh d with
      | none => rfl
      | some v =>
        exfalso
        obtain ⟨k, hkS, hkd⟩ := h.eh3 d (by rw [q]; simp)
        obtain ⟨hkl, hkh⟩ := h.hS k hkS
        obtain ⟨_, _, g5, _⟩ := hc.ops k l[k] (by simp [hkl])
        exact hnot (h.closed k ((h.hd k hkl hkh).2 hkS) i (g5 d (dstK k d hkl hkd) i hil (by rw [dstI d hd]; exact Nat.beq_refl _) (by simp [ahead, hli, lightNo k hkl hkh])))
    have fin : ∀ w', St β L w' → Hx P β N ds L0 Q l ms V env (listed.setIfInBounds i true) n S eh L (a.put (some d) (V i)) w' := by
      intro w' hs
      refine ⟨by simp [h.lsz], by simp [Act.put, h.size], h.dfr, hs, h.hJ, h.hy, h.hS, ?_, closed', ?_, h.eh2, h.eh3, ?_, ?_⟩
      · intro k hk hkh
        rw [get_set_true hiz, ← h.hd k hk hkh]
        have : k ≠ i := fun e => by subst e; rw [hhv] at hkh; cases hkh
        simp [this]
      · intro t v hv
        have e : t ≠ d := fun e => by subst e; rw [hno] at hv; cases hv
        simp only [Act.put]
        rw [Array.getElem?_setIfInBounds_ne (Ne.symm e)]
        exact h.eh1 t v hv
      · intro t k hn hk hkl hkd hdn hmax
        by_cases e : t = d
        · subst e
          have hki : k = i := by
            have g := hmax i hil hli (by rw [dstI t hd]; exact Nat.beq_refl _) ((get_set_true hiz).2 (.inl rfl))
            rcases Nat.lt_or_ge i k with q | q
            · exfalso
              have hl' : listed[k]? = some true := by
                rcases (get_set_true hiz).1 hdn with e | e
                · omega
                · exact e
              obtain ⟨_, _, g5, _⟩ := hc.ops k l[k] (by simp [hk])
              exact hnot (h.closed k hl' i (g5 t (dstK k t hk hkd) i hil (by rw [dstI t hd]; exact Nat.beq_refl _) (by simp only [ahead, hli, hkl, if_true]; exact Nat.ble_eq_true_of_le q)))
            · omega
          subst hki
          simp [Act.put, h.size, hdN]
        · have hki : k ≠ i := fun q => by subst q; rw [dstI d hd, beqne' e] at hkd; cases hkd
          simp only [Act.put]
          rw [Array.getElem?_setIfInBounds_ne (Ne.symm e)]
          refine h.top t k hn hk hkl hkd ?_ fun k' a b c d => hmax k' a b c ((get_set_true hiz).2 (.inr d))
          rcases (get_set_true hiz).1 hdn with q | q
          · exact absurd q hki
          · exact q
      · intro t hn hnone v hv
        have e : t ≠ d := fun q => by subst q; exact hnone i hil hli (by rw [dstI t hd]; exact Nat.beq_refl _) ((get_set_true hiz).2 (.inl rfl))
        simp only [Act.put]
        rw [Array.getElem?_setIfInBounds_ne (Ne.symm e)]
        exact h.base t hn (fun k a b c d => hnone k a b c ((get_set_true hiz).2 (.inr d))) v hv
    have rd : ∀ t, t ∈ readsOf l.toArray o → ∀ u, ev1 (envK l ms V env i) t = some u → a.tmps[t]? = some u := by
      intro t ht u hu
      have hno : ev1 eh t = none := by
        cases q : ev1 eh t with
        | none => rfl
        | some v =>
          exfalso
          obtain ⟨k, hkS, hkd⟩ := h.eh3 t (by rw [q]; simp)
          obtain ⟨hkl, hkh⟩ := h.hS k hkS
          exact behind t ht k hkl hkd (by simp [ahead, hli, lightNo k hkl hkh]) ((h.hd k hkl hkh).2 hkS)
      have late : ∀ k', k' < l.length → isLight ms k' = true → dstIs l k' t = true → listed[k']? = some true → k' < i := by
        intro k' hk' hl' hd' hdn
        rcases Nat.lt_trichotomy k' i with q | q | q
        · exact q
        · subst q; exact absurd hdn hnot
        · exact absurd hdn (behind t ht k' hk' hd' (by simp only [ahead, hli, hl', if_true]; exact Nat.ble_eq_true_of_le q))
      rcases ev1_envK l ms V env t u i hu with ⟨k, h1, h2, h3, h4, h5⟩ | ⟨h1, h2⟩
      · rw [← h4]
        refine h.top t k hno (by omega) h2 h3 (before t ht k (by omega) h3 (by simp only [ahead, hli, h2, if_true]; exact Nat.ble_eq_true_of_le h1)) fun k' a b c d => ?_
        rcases Nat.lt_or_ge k k' with q | q
        · have := h5 k' q (late k' a b c d) b
          rw [c] at this; cases this
        · exact q
      · refine h.base t hno (fun k a b c d => ?_) u h2
        have := h1 k (late k a b c d) b
        rw [c] at this; cases this
    have opr : ∀ x, x ∈ o.op.operands → ∀ u, ev (envK l ms V env i) x = some u → a.eval x = u := by
      intro x hx u hu
      cases x with
      | tmp t =>
        have := rd t (List.mem_append_left _ (List.mem_filterMap.2 ⟨.tmp t, by simpa using hx, rfl⟩)) u hu
        simp [Act.eval, this]
      | const c => simpa [ev, Act.eval] using hu
      | global g => simpa [ev, Act.eval] using hu
      | func f => simpa [ev, Act.eval] using hu
    have hok' := hok _ h.hJ
    generalize hVi : V i = vi at hok' fin
    rcases hok' with ⟨hg, hlo⟩ | ⟨j, want, t, u, c, v', hg, hj, ht, hgd, hlo, rfl⟩
    · rw [if_pos (by simp [Region.wanted, hg])]
      exact (hlo a w opr h.st).wp (ro := ro) (Q := Q') (K := K) fun w' hs => by rw [hd]; exact hK _ _ _ _ _ _ (fin w' hs)
    · have ht' : a.tmps[t]? = some u := rd t (List.mem_append_right _ (by rw [hg]; show t ∈ ((l.toArray[j]?).bind (·.dst)).toList; rw [hj]; simp)) u ht
      have hy : yielded l.toArray a.tmps j = vb u := by
        unfold yielded; rw [hj]; simp only [Option.bind_some, ht']; cases u <;> rfl
      simp only [Region.wanted, hg, hy]
      cases c with
      | true =>
        have hu := hgd.1 rfl
        subst hu
        simp only [vb, beq_self_eq_true, if_true]
        exact (hlo rfl a w opr h.st).wp (ro := ro) (Q := Q') (K := K) fun w' hs => by
          rw [hd]
          have := fin w' hs
          rw [show gv true v' = v' from rfl] at this
          exact hK _ _ _ _ _ _ this
      | false =>
        have hu := hgd.2 rfl
        have hne := vb_ne hu
        simp only [hne, Bool.false_eq_true, if_false]
        have := fin w h.st
        rw [show gv false v' = undef from rfl] at this
        rw [hd]
        exact ⟨fun _ _ => True.intro, hK _ _ _ _ _ _ this⟩
  · -- a heavy one
    have hiS : i ∉ S := fun q => hnot ((h.hd i hil hhv).2 q)
    have hri : i ∈ readyH l ms S := by
      unfold readyH
      refine List.mem_filter.2 ⟨by simpa [idxs] using hil, ?_⟩
      simp only [Bool.and_eq_true, Bool.not_eq_true', List.all_eq_true, Bool.or_eq_true]
      refine ⟨⟨hhv, by simpa using hiS⟩, fun j hj => ?_⟩
      cases q : isHeavy ms j with
      | false => exact .inl rfl
      | true =>
        right
        have hl := hcl j hj
        have hjl : j < l.length := by
          have : j < listed.size := by
            rcases Nat.lt_or_ge j listed.size with r | r
            · exact r
            · rw [Array.getElem?_eq_none r] at hl; cases hl
          rwa [h.lsz] at this
        simpa using (h.hd j hjl q).1 hl
    have hy := h.hy
    cases n with
    | zero => exact hy.elim
    | succ n =>
    obtain ⟨o2, ho2, hg, hdN, hho⟩ := hy.2 i hri
    rw [ho] at ho2
    cases ho2
    have rd : ∀ t, t ∈ readsOf l.toArray o → ∀ u, ev1 (eh ++ envK l ms V env l.length) t = some u → a.tmps[t]? = some u := by
      intro t ht u hu
      rw [ev1_append] at hu
      cases q : ev1 eh t with
      | some v => rw [q] at hu; simp only [Option.some.injEq] at hu; subst hu; exact h.eh1 t v q
      | none =>
        rw [q] at hu
        simp only at hu
        rcases ev1_envK l ms V env t u l.length hu with ⟨k, h1, h2, h3, h4, h5⟩ | ⟨h1, h2⟩
        · rw [← h4]
          refine h.top t k q h1 h2 h3 (before t ht k h1 h3 (by simp [ahead, hli, h2])) fun k' a b c d => ?_
          rcases Nat.lt_or_ge k k' with r | r
          · have := h5 k' r a b
            rw [c] at this; cases this
          · exact r
        · refine h.base t q (fun k a b c d => ?_) u h2
          have := h1 k a b
          rw [c] at this; cases this
    have opr : ∀ x, x ∈ o.op.operands → ∀ u, ev (eh ++ envK l ms V env l.length) x = some u → a.eval x = u := by
      intro x hx u hu
      cases x with
      | tmp t =>
        have ht : t ∈ readsOf l.toArray o := List.mem_append_left _ (List.mem_filterMap.2 ⟨.tmp t, by simpa using hx, rfl⟩)
        have := rd t ht u hu
        simp [Act.eval, this]
      | const c => simpa [ev, Act.eval] using hu
      | global g => simpa [ev, Act.eval] using hu
      | func f => simpa [ev, Act.eval] using hu
    rw [if_pos (by
      rcases hg with hg | ⟨j, want, t, hg, hj, ht⟩
      · simp [Region.wanted, hg]
      · have hj' : (l.toArray[j]?).bind (·.dst) = some t := by simpa using hj
        have ht' : a.tmps[t]? = some (.bool want) := rd t (List.mem_append_right _ (by rw [hg]; show t ∈ ((l.toArray[j]?).bind (·.dst)).toList; rw [hj']; simp)) _ ht
        have hy : yielded l.toArray a.tmps j = some want := by
          unfold yielded; rw [hj']; simp only [Option.bind_some, ht']
        simp [Region.wanted, hg, hy, vb])]
    refine (hho.wp (ro := ro) (Q := Q') opr h.st fun v L' w' hk hs => ?_)
    obtain ⟨hk1, hk2⟩ := hk
    have envE : putE o v (eh ++ envK l ms V env l.length) = putE o v eh ++ envK l ms V env l.length := by
      unfold putE; cases o.dst <;> rfl
    have hev : ∀ t, ev1 (putE o v eh) t = none → ev1 eh t = none ∧ ∀ d, o.dst = some d → t ≠ d := by
      intro t hn
      unfold putE at hn
      cases q : o.dst with
      | none => exact ⟨by simpa only [q] using hn, by simp⟩
      | some d =>
        simp only [q] at hn
        by_cases e : t = d
        · subst e; rw [ev1_cons_eq] at hn; cases hn
        · exact ⟨by rwa [ev1_cons_ne e] at hn, fun d' hd' => by cases hd'; exact e⟩
    refine hK n (i :: S) (putE o v eh) L' _ w' ⟨by simp [h.lsz], ?_, (by cases o.dst <;> exact h.dfr), hs, hk1, by rw [← envE]; exact hk2, ?_, ?_, closed', ?_, ?_, ?_, ?_, ?_⟩
    · cases q : o.dst with
      | none => exact h.size
      | some d => simp [Act.put, h.size]
    · intro k hk
      rcases List.mem_cons.1 hk with rfl | hk
      · exact ⟨hil, hhv⟩
      · exact h.hS k hk
    · intro k hk hkh
      rw [get_set_true hiz, h.hd k hk hkh, List.mem_cons]
    · intro t u hu
      unfold putE at hu
      cases q : o.dst with
      | none => simp only [q] at hu; exact h.eh1 t u hu
      | some d =>
        simp only [q] at hu
        by_cases e : t = d
        · subst e
          rw [ev1_cons_eq] at hu
          cases hu
          simp [Act.put, h.size, hdN t q]
        · rw [ev1_cons_ne e] at hu
          simp only [Act.put]
          rw [Array.getElem?_setIfInBounds_ne (Ne.symm e)]
          exact h.eh1 t u hu
    · intro t hn k hk
      obtain ⟨hn', hne⟩ := hev t hn
      rcases List.mem_cons.1 hk with rfl | hk
      · cases q : o.dst with
        | none => simp [dstIs, ho, q]
        | some d => rw [dstI d q]; exact beqne' (hne d q)
      · exact h.eh2 t hn' k hk
    · intro t hn
      unfold putE at hn
      cases q : o.dst with
      | none =>
        simp only [q] at hn
        obtain ⟨k, a, b⟩ := h.eh3 t hn
        exact ⟨k, by simp [a], b⟩
      | some d =>
        simp only [q] at hn
        by_cases e : t = d
        · subst e
          exact ⟨i, by simp, by rw [dstI t q]; exact Nat.beq_refl _⟩
        · rw [ev1_cons_ne e] at hn
          obtain ⟨k, a, b⟩ := h.eh3 t hn
          exact ⟨k, by simp [a], b⟩
    · intro t k hn hk hkl hkd hdn hmax
      have hki : k ≠ i := fun e => by subst e; rw [hli] at hkl; cases hkl
      have hn' := hev t hn
      have hdn' : listed[k]? = some true := by
        rcases (get_set_true hiz).1 hdn with q | q
        · exact absurd q hki
        · exact q
      have := h.top t k hn'.1 hk hkl hkd hdn' fun k' a b c d => hmax k' a b c ((get_set_true hiz).2 (.inr d))
      cases q : o.dst with
      | none => exact this
      | some d =>
        simp only [Act.put]
        rw [Array.getElem?_setIfInBounds_ne (Ne.symm (hn'.2 d q))]
        exact this
    · intro t hn hnone u hu
      have hn' := hev t hn
      have := h.base t hn'.1 (fun k a b c d => hnone k a b c ((get_set_true hiz).2 (.inr d))) u hu
      cases q : o.dst with
      | none => exact this
      | some d =>
        simp only [Act.put]
        rw [Array.getElem?_setIfInBounds_ne (Ne.symm (hn'.2 d q))]
        exact this

theorem Hx.end_ {l : List Oper} {ms : List (Option Nat)} {V : Nat → Value} {listed : Array Bool} {n : Nat} {S : List Nat} {eh : Env} {a : Act} {w : World} (hc : ChkE l ms)
    (h : Hx P β N ds L0 Q l ms V env listed n S eh L a w) (hall : ∀ k, k < l.length → listed[k]? = some true) : Q .normal a w := by
  have hr : readyH l ms S = [] := by
    unfold readyH
    refine List.filter_eq_nil_iff.2 fun i hi q => ?_
    simp only [Bool.and_eq_true, Bool.not_eq_true'] at q
    have hil : i < l.length := by simpa [idxs] using hi
    have := (h.hd i hil q.1.1).1 (hall i hil)
    have h2 := q.1.2
    simp [this] at h2
  have hy := h.hy
  cases n with
  | zero => exact hy.elim
  | succ n =>
  refine hy.1 hr a w ⟨h.size, h.dfr, fun t u hu => ?_⟩ h.st
  rw [ev1_append] at hu
  cases q : ev1 eh t with
  | some v => rw [q] at hu; simp only [Option.some.injEq] at hu; subst hu; exact h.eh1 t v q
  | none =>
    rw [q] at hu
    simp only at hu
    rcases ev1_envK l ms V env t u l.length hu with ⟨k, h1, h2, h3, h4, h5⟩ | ⟨h1, h2⟩
    · rw [← h4]
      refine h.top t k q h1 h2 h3 (hall k h1) fun k' a b c d => ?_
      rcases Nat.lt_or_ge k k' with r | r
      · have := h5 k' r a b
        rw [c] at this; cases this
      · exact r
    · refine h.base t q (fun k a b c d => ?_) u h2
      have := h1 k a b
      rw [c] at this; cases this

set_option maxHeartbeats 1000000 in
theorem VC.drawE (n : Nat) (ms : List (Option Nat)) {env' : Env} {id : Nat} {l : List Oper} (hm : P.follows .mixedOrders = true) (hc : chkE l ms = true)
    (h : LX P β N l.toArray (fun _ => L) l ms env env') (k : HE P β N ds L Q l ms n [] env' L) :
    VC P ro β N ds env L (.region id l.toArray true) Q := by
  intro a w ha hw
  obtain ⟨V, hV1, hV2⟩ := h.vals
  have hC := ChkE.of hc
  subst hV1
  refine wpIn_region_any hm ?_
  have key : ∀ fuel listed n S eh L' a w, Hx P β N ds L Q l ms V env listed n S eh L' a w → (∀ k, k < l.length → listed[k]? ≠ some true → 0 < fuel) → ((List.range l.length).filter fun k => !(listed[k]? == some true)).length ≤ fuel → wpAnyIn (Wf ro) 0 P .any l.toArray Q fuel listed a w := by
    intro fuel
    induction fuel with
    | zero =>
      intro listed n S eh L' a w hI hz _
      have hall : ∀ k, k < l.length → listed[k]? = some true := fun k hk => Classical.byContradiction fun hn => by have := hz k hk hn; omega
      refine ⟨?_, hI.end_ hC hall⟩
      simp only [Region.ready, List.filter_eq_nil_iff, List.mem_range, Bool.and_eq_true, Bool.not_eq_true', not_and]
      intro i hi hf
      have := hall i (by simpa using hi)
      simp [this] at hf
    | succ fuel ih =>
      intro listed n S eh L' a w hI hz hcnt
      refine ⟨fun hr => hI.end_ hC (ready_all hI.lsz (fun k o ho => (hC.ops k o ho).1) hr), fun i hi => ?_⟩
      refine hI.step hC hV2 hi fun n' S' eh' L'' a' w' hI' => ih _ _ _ _ _ _ _ hI' ?_ ?_
      · intro k hk hn
        rcases Nat.eq_zero_or_pos fuel with e | e
        · exfalso
          subst e
          simp only [Region.ready, List.mem_filter, List.mem_range, Bool.and_eq_true, Bool.not_eq_true'] at hi
          have hil : i < l.length := by simpa using hi.1
          have hiz : i < listed.size := by rw [hI.lsz]; exact hil
          rw [Ne, get_set_true hiz, not_or] at hn
          have hni : listed[i]? ≠ some true := fun e => by have h2 := hi.2.1; simp [e] at h2
          have m1 : i ∈ (List.range l.length).filter fun k => !(listed[k]? == some true) := by simp [hil, hni]
          have m2 : k ∈ (List.range l.length).filter fun k => !(listed[k]? == some true) := by simp [hk, hn.2]
          match hf : (List.range l.length).filter fun k => !(listed[k]? == some true), hcnt with
          | [], _ => rw [hf] at m1; simp at m1
          | [x], _ => rw [hf] at m1 m2; simp at m1 m2; exact hn.1 (by omega)
          | _ :: _ :: _, hcnt => simp at hcnt
        · exact e
      · simp only [Region.ready, List.mem_filter, List.mem_range, Bool.and_eq_true, Bool.not_eq_true'] at hi
        have hil : i < l.length := by simpa using hi.1
        have hiz : i < listed.size := by rw [hI.lsz]; exact hil
        have hni : listed[i]? ≠ some true := fun e => by have h2 := hi.2.1; simp [e] at h2
        have hlt2 : ((List.range l.length).filter fun k => !((listed.setIfInBounds i true)[k]? == some true)).length < ((List.range l.length).filter fun k => !(listed[k]? == some true)).length := by
          refine filter_lt (i := i) ?_ (by simp [hil]) ?_ ?_
          · intro k hk
            simp only [Bool.not_eq_true', beq_eq_false_iff_ne, ne_eq] at hk ⊢
            exact fun e => hk ((get_set_true hiz).2 (.inr e))
          · simpa using hni
          · simp [hiz]
        omega
  have hnone : ∀ j : Nat, (Array.replicate l.toArray.size false)[j]? ≠ some true := by
    intro j hj
    simp [Array.getElem?_replicate] at hj
  refine key _ _ n [] [] L _ _ ⟨by simp, ha.size, ha.dfr, hw.drew _, fun _ h => h, k, by simp, ?_, ?_, ?_, ?_, ?_, ?_, ?_⟩ ?_ ?_
  · intro i _ _
    exact ⟨fun e => absurd e (hnone i), fun q => by cases q⟩
  · intro j hj; exact absurd hj (hnone j)
  · intro t v hv; simp [ev1] at hv
  · intro t _ i hi; cases hi
  · intro t ht; simp [ev1] at ht
  · intro t k _ _ _ _ hl; exact absurd hl (hnone k)
  · intro t _ _ v hv; exact ha.get t v hv
  · intro k hk _
    simpa using Nat.lt_of_le_of_lt (Nat.zero_le _) hk
  · refine Nat.le_trans (List.length_filter_le _ _) ?_
    simp

def HEo (P : Program) (β : Bs) (N : Nat) (ds : List Deferred) (L0 : List Res) (Q : Exit → Act → World → Prop) (l : List Oper) (ms : List (Option Nat)) (n : Nat) (S : List Nat) (env : Env) (L : List Res) (i : Nat) : Prop :=
  ∃ o, l[i]? = some o ∧ GdOk l env o ∧ (∀ d, o.dst = some d → d < N) ∧ HO P β env L o fun v L' => (∀ w, St β L' w → St β L0 w) ∧ HE P β N ds L0 Q l ms n (i :: S) (putE o v env) L'
def AllP (p : Nat → Prop) : List Nat → Prop
  | [] => True
  | x :: r => p x ∧ AllP p r
theorem AllP.mem {p : Nat → Prop} : ∀ {xs : List Nat}, AllP p xs → ∀ i, i ∈ xs → p i
  | x :: r, h, i, hi => by
    rcases List.mem_cons.1 hi with rfl | hi
    · exact h.1
    · exact h.2.mem i hi
section
variable {l : List Oper} {ms : List (Option Nat)} {n : Nat} {S : List Nat}
theorem HE.mk (xs : List Nat) (hx : readyH l ms S = xs) (hne : xs.isEmpty = false) (h : AllP (HEo P β N ds L0 Q l ms n S env L) xs) : HE P β N ds L0 Q l ms (n + 1) S env L := by
  subst hx
  exact ⟨fun e => (by rw [e] at hne; cases hne), fun i hi => h.mem i hi⟩
theorem HE.fin (hx : readyH l ms S = []) (h : VE β N ds env L .normal Q) : HE P β N ds L0 Q l ms (n + 1) S env L := ⟨fun _ => h, fun i hi => by rw [hx] at hi; cases hi⟩
theorem HEo.op {i d : Nat} {op : Op} {ty : TypeId} {pos : String} {aft : Array Edge} (ho : l[i]? = some ⟨some d, op, ty, pos, aft, none⟩) (hd : Nat.blt d N = true) (h : HO P β env L ⟨some d, op, ty, pos, aft, none⟩ fun v L' => (∀ w, St β L' w → St β L0 w) ∧ HE P β N ds L0 Q l ms n (i :: S) ((d, v) :: env) L') : HEo P β N ds L0 Q l ms n S env L i :=
  ⟨_, ho, .inl rfl, (fun d' e => by cases e; exact Nat.le_of_ble_eq_true hd), h⟩
theorem HEo.opG {i d j tt : Nat} {op : Op} {ty : TypeId} {pos : String} {aft : Array Edge} {want : Bool} (ho : l[i]? = some ⟨some d, op, ty, pos, aft, some (j, want)⟩) (hd : Nat.blt d N = true) (hj : (l[j]?).bind (·.dst) = some tt) (ht : ev1 env tt = some (.bool want)) (h : HO P β env L ⟨some d, op, ty, pos, aft, none⟩ fun v L' => (∀ w, St β L' w → St β L0 w) ∧ HE P β N ds L0 Q l ms n (i :: S) ((d, v) :: env) L') : HEo P β N ds L0 Q l ms n S env L i :=
  ⟨_, ho, .inr ⟨j, want, tt, rfl, hj, ht⟩, (fun d' e => by cases e; exact Nat.le_of_ble_eq_true hd), h⟩
theorem HEo.op0 {i : Nat} {op : Op} {ty : TypeId} {pos : String} {aft : Array Edge} (ho : l[i]? = some ⟨none, op, ty, pos, aft, none⟩) (h : HO P β env L ⟨none, op, ty, pos, aft, none⟩ fun v L' => (∀ w, St β L' w → St β L0 w) ∧ HE P β N ds L0 Q l ms n (i :: S) env L') : HEo P β N ds L0 Q l ms n S env L i :=
  ⟨_, ho, .inl rfl, (fun d' e => by simp at e), h⟩
end
theorem selK {L1 : List Res} (is : List Nat) (hn : nodupB is = true) (h : sel L is = L1) : ∀ w, St β L w → St β L1 w := fun w hw => by rw [← h]; exact hw.sel is hn
/-- The same; all the orders come together behind the region. -/
theorem VC.drawF {G : Type} (EF : G → Env) (EK : Env) (LF : G → List Res) (LK : List Res) (I : G → Prop) (n : Nat) (ms : List (Option Nat)) {env' : Env} {id : Nat} {l : List Oper} (hm : P.follows .mixedOrders = true) (hc : chkE l ms = true)
    (h : LX P β N l.toArray (fun _ => L) l ms env env') (k : (∀ y, I y → VE β N ds (EF y ++ EK) (LF y ++ LK) .normal Q) → HE P β N ds L Q l ms n [] env' L) (hf : ∀ y, I y → VE β N ds (EF y ++ EK) (LF y ++ LK) .normal Q) :
    VC P ro β N ds env L (.region id l.toArray true) Q := VC.drawE n ms hm hc h (k hf)
end
end Go.SL
