/-
  Rows of rows: a slice that is owned, whose elements are slices that are owned, too.
  A drawn region whose heavy operations stand in an order that is partly open: each of their orders is walked.
  A range over a function whose order is open; a range over a map that is not written meanwhile.
  The entry of a range over a map; empty literals, capacities, slices up to a bound, zeros that are appended.
  Empty literals among blocks whose order is open.
  Resources in any order, bags of resources that lie apart, and calls that are handed several of them. No program stands in this text.
  Stores into a slice that is owned, and values of interfaces. No program stands in this text.
  Sets of strings: maps from string to bool whose values are all true.
  The rest of an owned slice is cleared; calls that are handed resources from anywhere. No program stands in this text.
  Slices that are made, shifts and lowest bits. No program stands in this text.
  A new base in the midst of a walk: all that lies there is old from now on. Whole elements stored into slices. No program stands in this text.
  Calls of methods through interfaces. No program stands in this text.
  Parts of a function's code, by the way to them. No program stands in this text.
-/
import Derived.Test.YtdjflomhaljljaaKGRE02
import Derived.Laws.IdiomRangeMap

namespace Go.SL
set_option linter.unusedVariables false
open Go.RowKit

/-- Some resources as one: they are only read from now on. -/
def bag (Rs : List Res) : Res where
  fp := fun k => ∃ r, r ∈ Rs ∧ r.fp k
  inv := fun w => ∀ r, r ∈ Rs → r.inv w
  loc := fun h hi r hr => r.loc (fun k hk => h k ⟨r, hr, hk⟩) (hi r hr)

section
variable {β : Bs} {L : List Res} {w : World}
theorem St.bagNil (hw : St β L w) : St β (bag [] :: L) w := by
  have : St (bs w) [bag []] w := by
    refine ⟨rfl, rfl, rfl, Nat.le_refl _, fun _ _ _ => rfl, ?_, ?_, ?_⟩
    · intro i r hr
      cases i with
      | zero => simp at hr; subst hr; exact fun r hr => by cases hr
      | succ i => simp at hr
    · intro i r hr k hk
      cases i with
      | zero => simp at hr; subst hr; obtain ⟨r, hr, _⟩ := hk; cases hr
      | succ i => simp at hr
    · intro i j r s hij hr hs
      cases i with
      | zero => cases j with | zero => exact absurd rfl hij | succ j => simp at hs
      | succ i => simp at hr
  exact hw.call this
theorem St.bagIn {r : Res} {Rs : List Res} (h : St β (r :: bag Rs :: L) w) : St β (bag (Rs ++ [r]) :: L) w := by
  have mem : ∀ {x : Res}, x ∈ Rs ++ [r] → x ∈ Rs ∨ x = r := fun hx => by
    rcases List.mem_append.1 hx with q | q
    · exact .inl q
    · exact .inr (List.mem_singleton.1 q)
  refine ⟨h.os, h.tape, h.output, h.size, h.fr, ?_, ?_, ?_⟩
  · intro i s hs
    cases i with
    | zero =>
      simp at hs; subst hs
      intro x hx
      rcases mem hx with q | rfl
      · exact h.inv 1 (bag Rs) rfl x q
      · exact h.inv 0 x rfl
    | succ i => exact h.inv (i + 2) s (by simpa using hs)
  · intro i s hs k hk
    cases i with
    | zero =>
      simp at hs; subst hs
      obtain ⟨x, hx, hk⟩ := hk
      rcases mem hx with q | rfl
      · exact h.rng 1 (bag Rs) rfl k ⟨x, q, hk⟩
      · exact h.rng 0 x rfl k hk
    | succ i => exact h.rng (i + 2) s (by simpa using hs) k hk
  · have key : ∀ (j : Nat) (s : Res), (L[j]? = some s) → ∀ k, (bag (Rs ++ [r])).fp k → ¬ s.fp k := fun j s hs k hk hk2 => by
      obtain ⟨x, hx, hk⟩ := hk
      rcases mem hx with q | rfl
      · exact h.dis 1 (j + 2) (bag Rs) s (by omega) rfl (by simpa using hs) k ⟨x, q, hk⟩ hk2
      · exact h.dis 0 (j + 2) x s (by omega) rfl (by simpa using hs) k hk hk2
    intro i j a b hij ha hb k hk hk2
    cases i with
    | zero =>
      simp at ha; subst ha
      cases j with
      | zero => exact hij rfl
      | succ j => exact key j b (by simpa using hb) k hk hk2
    | succ i =>
      cases j with
      | zero => simp at hb; subst hb; exact key i a (by simpa using ha) k hk2 hk
      | succ j => exact h.dis (i + 2) (j + 2) a b (by omega) (by simpa using ha) (by simpa using hb) k hk hk2

theorem own_inv_rows {E z cap : Nat} {p : Option Addr} {rows : List (List Value)} (h : (own E z p cap rows).inv w) : Rows w z p rows := by
  obtain ⟨h1, h2, h3, h4⟩ := h
  refine ⟨?_, fun hp => (h3 hp).1, fun _ a ha => (h4 a ha).2.1⟩
  intro j r hr k v hv
  cases p with
  | none => rw [(h3 rfl).1] at hr; simp at hr
  | some a =>
    obtain ⟨g1, g2, C, s, g3, g4, g5⟩ := h4 a rfl
    have hadd : (⟨pb (some a), po (some a) + j * z, none⟩ : Addr).add k = ⟨a.block, j * z + k, none⟩ := by
      unfold Addr.add pb po; simp only [g1]; split <;> simp_all
    rw [hadd]
    simp only [World.cell?, g3, Option.isSome_none, Bool.false_eq_true, if_false]
    have : C.toList[j * z + k]? = some v := by
      rw [g4]
      have := flatten_row h2 hr hv
      rw [List.getElem?_append_left]
      · exact this
      · rcases Nat.lt_or_ge (j * z + k) rows.flatten.length with q | q
        · exact q
        · rw [List.getElem?_eq_none q] at this; cases this
    simpa using this

/-- A row of a slice of slices. -/
structure RowA (α : Type) where
  p : Option Addr
  c : Nat
  l : List α
def RowA.z {α : Type} : RowA α := ⟨none, 0, []⟩
def rowC {α : Type} (x : RowA α) : List Value := [.slice x.p x.l.length x.c]
def bagR {α : Type} (E z : Nat) (f : α → List Value) (rs : List (RowA α)) : Res := bag (rs.map fun x => own E z x.p x.c (x.l.map f))
/-- A slice of slices that is read. -/
def RR {α : Type} (z : Nat) (f : α → List Value) (w : World) (p : Option Addr) (rs : List (RowA α)) : Prop := RO 1 rowC w p rs ∧ ∀ x, x ∈ rs → x.l.length ≤ x.c ∧ RO z f w x.p x.l
theorem RR.keep {α : Type} {z : Nat} {f : α → List Value} {w0 : World} {p : Option Addr} {rs : List (RowA α)} (h : RR z f w0 p rs) : ∀ w, St (bs w0) L w → RR z f w p rs :=
  fun w hw => ⟨h.1.keep w hw, fun x hx => ⟨(h.2 x hx).1, (h.2 x hx).2.keep w hw⟩⟩
theorem RR.of_own {α : Type} {z : Nat} {f : α → List Value} {p : Option Addr} {rs : List (RowA α)} (hw : St β L w) (i j : Nat) {E E' cap : Nat} (hi : L[i]? = some (own E 1 p cap (rs.map rowC))) (hj : L[j]? = some (bagR E' z f rs)) : RR z f w p rs :=
  ⟨RO.of_own hw i hi, fun x hx => by
    have h := hw.inv j _ hj _ (List.mem_map_of_mem (f := fun x : RowA α => own E' z x.p x.c (x.l.map f)) hx)
    refine ⟨?_, own_inv_rows h⟩
    have := h.1
    rwa [List.length_map] at this⟩
theorem St.bagRNil {α : Type} (hw : St β L w) (E z : Nat) (f : α → List Value) : St β (bagR E z f [] :: L) w := hw.bagNil
theorem St.bagRIn {α : Type} {E z : Nat} {f : α → List Value} {rs : List (RowA α)} {x : RowA α} (h : St β (own E z x.p x.c (x.l.map f) :: bagR E z f rs :: L) w) : St β (bagR E z f (rs ++ [x]) :: L) w := by
  have := h.bagIn
  unfold bagR
  rw [List.map_append]
  exact this
end
end Go.SL

namespace Go.SL
set_option linter.unusedVariables false
set_option linter.unusedSimpArgs false
open Go.RowKit

def readyH (l : List Oper) (ms : List (Option Nat)) (S : List Nat) : List Nat :=
  (idxs l.length).filter fun i => isHeavy ms i && !S.contains i && ((clOf l).getD i []).all fun j => !isHeavy ms j || S.contains j

/-- The operation is wanted: it has no guard, or one whose answer is known. -/
def GdOk (l : List Oper) (env : Env) (o : Oper) : Prop := o.guard = none ∨ ∃ j want t, o.guard = some (j, want) ∧ (l[j]?).bind (·.dst) = some t ∧ ev1 env t = some (.bool want)
def HE (P : Program) (β : Bs) (N : Nat) (ds : List Deferred) (L0 : List Res) (Q : Exit → Act → World → Prop) (l : List Oper) (ms : List (Option Nat)) : Nat → List Nat → Env → List Res → Prop
  | 0, _, _, _ => False
  | n + 1, S, env, L => (readyH l ms S = [] → VE β N ds env L .normal Q) ∧ ∀ i, i ∈ readyH l ms S → ∃ o, l[i]? = some o ∧ GdOk l env o ∧ (∀ d, o.dst = some d → d < N) ∧ HO P β env L o fun v L' => (∀ w, St β L' w → St β L0 w) ∧ HE P β N ds L0 Q l ms n (i :: S) (putE o v env) L'

def chkE (l : List Oper) (ms : List (Option Nat)) : Bool :=
  let cl := clOf l
  let n := l.length
  Nat.beq ms.length n &&
  (idxs n).all fun k =>
    match l[k]? with
    | none => false
    | some o =>
      o.after.toList.all (fun e => !Region.binds .any e || Nat.blt e.on k) &&
      (cl.getD k []).all (fun i => o.after.toList.any fun e => Region.binds .any e && (Nat.beq e.on i || (cl.getD e.on []).contains i)) &&
      (match o.dst with
       | none => !isLight ms k
       | some d => (idxs n).all fun i => !dstIs l i d || !ahead ms i k || (cl.getD k []).contains i) &&
      ((readsOf l.toArray o).all fun t => (idxs n).all fun i => !dstIs l i t || ((!ahead ms i k || (cl.getD k []).contains i) && (!ahead ms k i || (cl.getD i []).contains k)))

structure ChkE (l : List Oper) (ms : List (Option Nat)) : Prop where
  len : ms.length = l.length
  ops : ∀ k o, l[k]? = some o →
      (∀ e, e ∈ o.after.toList → Region.binds .any e = true → e.on < k) ∧
      (∀ i, i ∈ (clOf l).getD k [] → ∃ e, e ∈ o.after.toList ∧ Region.binds .any e = true ∧ (e.on = i ∨ i ∈ (clOf l).getD e.on [])) ∧
      (∀ d, o.dst = some d → ∀ i, i < l.length → dstIs l i d = true → ahead ms i k = true → i ∈ (clOf l).getD k []) ∧
      (∀ t, t ∈ readsOf l.toArray o → ∀ i, i < l.length → dstIs l i t = true → (ahead ms i k = true → i ∈ (clOf l).getD k []) ∧ (ahead ms k i = true → k ∈ (clOf l).getD i []))

theorem ChkE.of {l : List Oper} {ms : List (Option Nat)} (h : chkE l ms = true) : ChkE l ms := by
  unfold chkE at h
  simp only [Bool.and_eq_true] at h
  obtain ⟨h1, h2⟩ := h
  refine ⟨Nat.eq_of_beq_eq_true h1, fun k o ho => ?_⟩
  have hk : k < l.length := (List.getElem?_eq_some_iff.1 ho).1
  have h3 := List.all_eq_true.1 h2 k (by simpa [idxs] using hk)
  rw [ho] at h3
  simp only [Bool.and_eq_true] at h3
  obtain ⟨⟨⟨a, b⟩, c⟩, d⟩ := h3
  refine ⟨fun e he hb => ?_, fun i hi => ?_, fun dd hdd i hi hdi hah => ?_, fun t ht i hi hdi => ?_⟩
  · have := List.all_eq_true.1 a e he
    rw [hb] at this
    simpa [Nat.blt_eq] using this
  · have := List.all_eq_true.1 b i hi
    obtain ⟨e, he, hh⟩ := List.any_eq_true.1 this
    simp only [Bool.and_eq_true, Bool.or_eq_true] at hh
    refine ⟨e, he, hh.1, ?_⟩
    rcases hh.2 with q | q
    · exact .inl (Nat.eq_of_beq_eq_true q)
    · exact .inr (by simpa using q)
  · rw [hdd] at c
    have := List.all_eq_true.1 c i (by simpa [idxs] using hi)
    simp only [hdi, hah, Bool.not_true, Bool.false_or] at this
    simpa using this
  · have h4 := List.all_eq_true.1 d t ht
    have := List.all_eq_true.1 h4 i (by simpa [idxs] using hi)
    simp only [hdi, Bool.not_true, Bool.false_or, Bool.and_eq_true] at this
    refine ⟨fun q => ?_, fun q => ?_⟩
    · have h5 := this.1; rw [q] at h5; simpa using h5
    · have h5 := this.2; rw [q] at h5; simpa using h5

structure Hx (P : Program) (β : Bs) (N : Nat) (ds : List Deferred) (L0 : List Res) (Q : Exit → Act → World → Prop) (l : List Oper) (ms : List (Option Nat)) (V : Nat → Value) (env : Env) (listed : Array Bool) (n : Nat) (S : List Nat) (eh : Env) (L : List Res) (a : Act) (w : World) : Prop where
  lsz : listed.size = l.length
  size : a.tmps.size = N
  dfr : a.defers = ds
  st : St β L w
  hJ : ∀ w, St β L w → St β L0 w
  hy : HE P β N ds L0 Q l ms n S (eh ++ envK l ms V env l.length) L
  hS : ∀ i, i ∈ S → i < l.length ∧ isHeavy ms i = true
  hd : ∀ i, i < l.length → isHeavy ms i = true → (listed[i]? = some true ↔ i ∈ S)
  closed : ∀ j, listed[j]? = some true → ∀ i, i ∈ (clOf l).getD j [] → listed[i]? = some true
  eh1 : ∀ t v, ev1 eh t = some v → a.tmps[t]? = some v
  eh2 : ∀ t, ev1 eh t = none → ∀ i, i ∈ S → dstIs l i t = false
  eh3 : ∀ t, ev1 eh t ≠ none → ∃ i, i ∈ S ∧ dstIs l i t = true
  top : ∀ t k, ev1 eh t = none → k < l.length → isLight ms k = true → dstIs l k t = true → listed[k]? = some true → (∀ k', k' < l.length → isLight ms k' = true → dstIs l k' t = true → listed[k']? = some true → k' ≤ k) → a.tmps[t]? = some (V k)
  base : ∀ t, ev1 eh t = none → (∀ k, k < l.length → isLight ms k = true → dstIs l k t = true → listed[k]? ≠ some true) → ∀ v, ev1 env t = some v → a.tmps[t]? = some v

section
variable {P : Program} {ro : Option Nat} {β : Bs} {ds : List Deferred} {N : Nat} {Q : Exit → Act → World → Prop} {env : Env} {L L0 : List Res}
set_option maxHeartbeats 2000000 in
theorem Hx.step {l : List Oper} {ms : List (Option Nat)} {V : Nat → Value} {listed : Array Bool} {n : Nat} {S : List Nat} {eh : Env} {a : Act} {w : World} {Q' : Exit → Act → World → Prop} (hc : ChkE l ms)
    (hV : ∀ k o m, l[k]? = some o → ms[k]? = some (some m) → ∃ d, o.dst = some d ∧ d < N ∧ ∀ L, (∀ w, St β L w → St β L0 w) → OpOk P β l.toArray L o (envK l ms V env k) (V k))
    (h : Hx P β N ds L0 Q l ms V env listed n S eh L a w) {i : Nat} (hi : i ∈ Region.ready .any l.toArray listed) {K : Act → World → Prop}
    (hK : ∀ n' S' eh' L' a' w', Hx P β N ds L0 Q l ms V env (listed.setIfInBounds i true) n' S' eh' L' a' w' → K a' w') : wpOpIn (Wf ro) 0 P l.toArray Q' i K a w := by
  have hlen := hc.len
  simp only [Region.ready, List.mem_filter, List.mem_range, Bool.and_eq_true, Bool.not_eq_true'] at hi
  obtain ⟨hin, hnl, hready⟩ := hi
  have hil : i < l.length := by simpa using hin
  have hiz : i < listed.size := by rw [h.lsz]; exact hil
  obtain ⟨o, ho⟩ : ∃ o, l[i]? = some o := ⟨l[i], by simp [hil]⟩
  have hnot : listed[i]? ≠ some true := by
    intro e
    have : listed.getD i true = true := by simp [e]
    rw [this] at hnl; cases hnl
  have hdone : ∀ e, e ∈ o.after.toList → Region.binds .any e = true → listed[e.on]? = some true := by
    intro e he hb
    have h1 : (o.after.all fun e => !Region.binds .any e || listed.getD e.on false) = true := by simpa [ho] using hready
    have h2 := (Array.all_eq_true_iff_forall_mem.1 h1) e (by simpa using he)
    simp only [hb, Bool.not_true, Bool.false_or] at h2
    cases q : listed[e.on]? with
    | none => simp [q] at h2
    | some b => simp [q] at h2; rw [h2]
  obtain ⟨c1, c2, c5, c6⟩ := hc.ops i o ho
  have hcl : ∀ j, j ∈ (clOf l).getD i [] → listed[j]? = some true := by
    intro j hj
    obtain ⟨e, he, hb, hx⟩ := c2 j hj
    rcases hx with rfl | hx
    · exact hdone e he hb
    · exact h.closed _ (hdone e he hb) j hx
  have closed' : ∀ j, (listed.setIfInBounds i true)[j]? = some true → ∀ k, k ∈ (clOf l).getD j [] → (listed.setIfInBounds i true)[k]? = some true := by
    intro j hj k hk
    rw [get_set_true hiz] at hj ⊢
    rcases hj with rfl | hj
    · exact .inr (hcl k hk)
    · exact .inr (h.closed j hj k hk)
  have ho' : l.toArray[i]? = some o := by simpa using ho
  have dstI : ∀ d, o.dst = some d → ∀ t, dstIs l i t = Nat.beq d t := by
    intro d hd t; simp [dstIs, ho, hd]
  have before : ∀ t, t ∈ readsOf l.toArray o → ∀ k, k < l.length → dstIs l k t = true → ahead ms k i = true → listed[k]? = some true := fun t ht k hk hw ha => hcl k ((c6 t ht k hk hw).1 ha)
  have behind : ∀ t, t ∈ readsOf l.toArray o → ∀ k, k < l.length → dstIs l k t = true → ahead ms i k = true → listed[k]? ≠ some true := fun t ht k hk hw ha hl => hnot (h.closed k hl i ((c6 t ht k hk hw).2 ha))
  have lightNo : ∀ k, k < l.length → isHeavy ms k = true → isLight ms k = false := fun k hkl hkh => by
    rcases light_or_heavy hlen hkl with ⟨_, b, _⟩ | ⟨a, _, _⟩
    · rw [b] at hkh; cases hkh
    · exact a
  have dstK : ∀ k d (hkl : k < l.length), dstIs l k d = true → l[k].dst = some d := fun k d hkl hkd => by
    simp only [dstIs, List.getElem?_eq_getElem hkl] at hkd
    cases r : l[k].dst with
    | none => simp [r] at hkd
    | some d' => simp only [r] at hkd; rw [Nat.eq_of_beq_eq_true hkd]
  unfold wpOpIn
  simp only [ho']
  rcases light_or_heavy hlen hil with ⟨hli, hhv, m, hm⟩ | ⟨hli, hhv, hm⟩
  · -- a light one
    obtain ⟨d, hd, hdN, hok⟩ := hV i o m ho hm
    have hno : ev1 eh d = none := by
      cases q : ev1 eh d with
      | none => rfl
      | some v =>
        exfalso
        obtain ⟨k, hkS, hkd⟩ := h.eh3 d (by rw [q]; simp)
        obtain ⟨hkl, hkh⟩ := h.hS k hkS
        obtain ⟨_, _, g5, _⟩ := hc.ops k l[k] (by simp [hkl])
        exact hnot (h.closed k ((h.hd k hkl hkh).2 hkS) i (g5 d (dstK k d hkl hkd) i hil (by rw [dstI d hd]; exact Nat.beq_refl _) (by simp [ahead, hli, lightNo k hkl hkh])))
    have fin : ∀ w', St β L w' → Hx P β N ds L0 Q l ms V env (listed.setIfInBounds i true) n S eh L (a.put (some d) (V i)) w' := by
      intro w' hs
      refine ⟨by simp [h.lsz], by simp [Act.put, h.size], h.dfr, hs, h.hJ, h.hy, h.hS, ?_, closed', ?_, h.eh2, h.eh3, ?_, ?_⟩
      · intro k hk hkh
        rw [get_set_true hiz, ← h.hd k hk hkh]
        have : k ≠ i := fun e => by subst e; rw [hhv] at hkh; cases hkh
        simp [this]
      · intro t v hv
        have e : t ≠ d := fun e => by subst e; rw [hno] at hv; cases hv
        simp only [Act.put]
        rw [Array.getElem?_setIfInBounds_ne (Ne.symm e)]
        exact h.eh1 t v hv
      · intro t k hn hk hkl hkd hdn hmax
        by_cases e : t = d
        · subst e
          have hki : k = i := by
            have g := hmax i hil hli (by rw [dstI t hd]; exact Nat.beq_refl _) ((get_set_true hiz).2 (.inl rfl))
            rcases Nat.lt_or_ge i k with q | q
            · exfalso
              have hl' : listed[k]? = some true := by
                rcases (get_set_true hiz).1 hdn with e | e
                · omega
                · exact e
              obtain ⟨_, _, g5, _⟩ := hc.ops k l[k] (by simp [hk])
              exact hnot (h.closed k hl' i (g5 t (dstK k t hk hkd) i hil (by rw [dstI t hd]; exact Nat.beq_refl _) (by simp only [ahead, hli, hkl, if_true]; exact Nat.ble_eq_true_of_le q)))
            · omega
          subst hki
          simp [Act.put, h.size, hdN]
        · have hki : k ≠ i := fun q => by subst q; rw [dstI d hd, beqne' e] at hkd; cases hkd
          simp only [Act.put]
          rw [Array.getElem?_setIfInBounds_ne (Ne.symm e)]
          refine h.top t k hn hk hkl hkd ?_ fun k' a b c d => hmax k' a b c ((get_set_true hiz).2 (.inr d))
          rcases (get_set_true hiz).1 hdn with q | q
          · exact absurd q hki
          · exact q
      · intro t hn hnone v hv
        have e : t ≠ d := fun q => by subst q; exact hnone i hil hli (by rw [dstI t hd]; exact Nat.beq_refl _) ((get_set_true hiz).2 (.inl rfl))
        simp only [Act.put]
        rw [Array.getElem?_setIfInBounds_ne (Ne.symm e)]
        exact h.base t hn (fun k a b c d => hnone k a b c ((get_set_true hiz).2 (.inr d))) v hv
    have rd : ∀ t, t ∈ readsOf l.toArray o → ∀ u, ev1 (envK l ms V env i) t = some u → a.tmps[t]? = some u := by
      intro t ht u hu
      have hno : ev1 eh t = none := by
        cases q : ev1 eh t with
        | none => rfl
        | some v =>
          exfalso
          obtain ⟨k, hkS, hkd⟩ := h.eh3 t (by rw [q]; simp)
          obtain ⟨hkl, hkh⟩ := h.hS k hkS
          exact behind t ht k hkl hkd (by simp [ahead, hli, lightNo k hkl hkh]) ((h.hd k hkl hkh).2 hkS)
      have late : ∀ k', k' < l.length → isLight ms k' = true → dstIs l k' t = true → listed[k']? = some true → k' < i := by
        intro k' hk' hl' hd' hdn
        rcases Nat.lt_trichotomy k' i with q | q | q
        · exact q
        · subst q; exact absurd hdn hnot
        · exact absurd hdn (behind t ht k' hk' hd' (by simp only [ahead, hli, hl', if_true]; exact Nat.ble_eq_true_of_le q))
      rcases ev1_envK l ms V env t u i hu with ⟨k, h1, h2, h3, h4, h5⟩ | ⟨h1, h2⟩
      · rw [← h4]
        refine h.top t k hno (by omega) h2 h3 (before t ht k (by omega) h3 (by simp only [ahead, hli, h2, if_true]; exact Nat.ble_eq_true_of_le h1)) fun k' a b c d => ?_
        rcases Nat.lt_or_ge k k' with q | q
        · have := h5 k' q (late k' a b c d) b
          rw [c] at this; cases this
        · exact q
      · refine h.base t hno (fun k a b c d => ?_) u h2
        have := h1 k (late k a b c d) b
        rw [c] at this; cases this
    have opr : ∀ x, x ∈ o.op.operands → ∀ u, ev (envK l ms V env i) x = some u → a.eval x = u := by
      intro x hx u hu
      cases x with
      | tmp t =>
        have := rd t (List.mem_append_left _ (List.mem_filterMap.2 ⟨.tmp t, by simpa using hx, rfl⟩)) u hu
        simp [Act.eval, this]
      | const c => simpa [ev, Act.eval] using hu
      | global g => simpa [ev, Act.eval] using hu
      | func f => simpa [ev, Act.eval] using hu
    have hok' := hok _ h.hJ
    generalize hVi : V i = vi at hok' fin
    rcases hok' with ⟨hg, hlo⟩ | ⟨j, want, t, u, c, v', hg, hj, ht, hgd, hlo, rfl⟩
    · rw [if_pos (by simp [Region.wanted, hg])]
      exact (hlo a w opr h.st).wp (ro := ro) (Q := Q') (K := K) fun w' hs => by rw [hd]; exact hK _ _ _ _ _ _ (fin w' hs)
    · have ht' : a.tmps[t]? = some u := rd t (List.mem_append_right _ (by rw [hg]; show t ∈ ((l.toArray[j]?).bind (·.dst)).toList; rw [hj]; simp)) u ht
      have hy : yielded l.toArray a.tmps j = vb u := by
        unfold yielded; rw [hj]; simp only [Option.bind_some, ht']; cases u <;> rfl
      simp only [Region.wanted, hg, hy]
      cases c with
      | true =>
        have hu := hgd.1 rfl
        subst hu
        simp only [vb, beq_self_eq_true, if_true]
        exact (hlo rfl a w opr h.st).wp (ro := ro) (Q := Q') (K := K) fun w' hs => by
          rw [hd]
          have := fin w' hs
          rw [show gv true v' = v' from rfl] at this
          exact hK _ _ _ _ _ _ this
      | false =>
        have hu := hgd.2 rfl
        have hne := vb_ne hu
        simp only [hne, Bool.false_eq_true, if_false]
        have := fin w h.st
        rw [show gv false v' = undef from rfl] at this
        rw [hd]
        exact ⟨fun _ _ => True.intro, hK _ _ _ _ _ _ this⟩
  · -- a heavy one
    have hiS : i ∉ S := fun q => hnot ((h.hd i hil hhv).2 q)
    have hri : i ∈ readyH l ms S := by
      unfold readyH
      refine List.mem_filter.2 ⟨by simpa [idxs] using hil, ?_⟩
      simp only [Bool.and_eq_true, Bool.not_eq_true', List.all_eq_true, Bool.or_eq_true]
      refine ⟨⟨hhv, by simpa using hiS⟩, fun j hj => ?_⟩
      cases q : isHeavy ms j with
      | false => exact .inl rfl
      | true =>
        right
        have hl := hcl j hj
        have hjl : j < l.length := by
          have : j < listed.size := by
            rcases Nat.lt_or_ge j listed.size with r | r
            · exact r
            · rw [Array.getElem?_eq_none r] at hl; cases hl
          rwa [h.lsz] at this
        simpa using (h.hd j hjl q).1 hl
    have hy := h.hy
    cases n with
    | zero => exact hy.elim
    | succ n =>
    obtain ⟨o2, ho2, hg, hdN, hho⟩ := hy.2 i hri
    rw [ho] at ho2
    cases ho2
    have rd : ∀ t, t ∈ readsOf l.toArray o → ∀ u, ev1 (eh ++ envK l ms V env l.length) t = some u → a.tmps[t]? = some u := by
      intro t ht u hu
      rw [ev1_append] at hu
      cases q : ev1 eh t with
      | some v => rw [q] at hu; simp only [Option.some.injEq] at hu; subst hu; exact h.eh1 t v q
      | none =>
        rw [q] at hu
        simp only at hu
        rcases ev1_envK l ms V env t u l.length hu with ⟨k, h1, h2, h3, h4, h5⟩ | ⟨h1, h2⟩
        · rw [← h4]
          refine h.top t k q h1 h2 h3 (before t ht k h1 h3 (by simp [ahead, hli, h2])) fun k' a b c d => ?_
          rcases Nat.lt_or_ge k k' with r | r
          · have := h5 k' r a b
            rw [c] at this; cases this
          · exact r
        · refine h.base t q (fun k a b c d => ?_) u h2
          have := h1 k a b
          rw [c] at this; cases this
    have opr : ∀ x, x ∈ o.op.operands → ∀ u, ev (eh ++ envK l ms V env l.length) x = some u → a.eval x = u := by
      intro x hx u hu
      cases x with
      | tmp t =>
        have ht : t ∈ readsOf l.toArray o := List.mem_append_left _ (List.mem_filterMap.2 ⟨.tmp t, by simpa using hx, rfl⟩)
        have := rd t ht u hu
        simp [Act.eval, this]
      | const c => simpa [ev, Act.eval] using hu
      | global g => simpa [ev, Act.eval] using hu
      | func f => simpa [ev, Act.eval] using hu
    rw [if_pos (by
      rcases hg with hg | ⟨j, want, t, hg, hj, ht⟩
      · simp [Region.wanted, hg]
      · have hj' : (l.toArray[j]?).bind (·.dst) = some t := by simpa using hj
        have ht' : a.tmps[t]? = some (.bool want) := rd t (List.mem_append_right _ (by rw [hg]; show t ∈ ((l.toArray[j]?).bind (·.dst)).toList; rw [hj']; simp)) _ ht
        have hy : yielded l.toArray a.tmps j = some want := by
          unfold yielded; rw [hj']; simp only [Option.bind_some, ht']
        simp [Region.wanted, hg, hy, vb])]
    refine (hho.wp (ro := ro) (Q := Q') opr h.st fun v L' w' hk hs => ?_)
    obtain ⟨hk1, hk2⟩ := hk
    have envE : putE o v (eh ++ envK l ms V env l.length) = putE o v eh ++ envK l ms V env l.length := by
      unfold putE; cases o.dst <;> rfl
    have hev : ∀ t, ev1 (putE o v eh) t = none → ev1 eh t = none ∧ ∀ d, o.dst = some d → t ≠ d := by
      intro t hn
      unfold putE at hn
      cases q : o.dst with
      | none => exact ⟨by simpa only [q] using hn, by simp⟩
      | some d =>
        simp only [q] at hn
        by_cases e : t = d
        · subst e; rw [ev1_cons_eq] at hn; cases hn
        · exact ⟨by rwa [ev1_cons_ne e] at hn, fun d' hd' => by cases hd'; exact e⟩
    refine hK n (i :: S) (putE o v eh) L' _ w' ⟨by simp [h.lsz], ?_, (by cases o.dst <;> exact h.dfr), hs, hk1, by rw [← envE]; exact hk2, ?_, ?_, closed', ?_, ?_, ?_, ?_, ?_⟩
    · cases q : o.dst with
      | none => exact h.size
      | some d => simp [Act.put, h.size]
    · intro k hk
      rcases List.mem_cons.1 hk with rfl | hk
      · exact ⟨hil, hhv⟩
      · exact h.hS k hk
    · intro k hk hkh
      rw [get_set_true hiz, h.hd k hk hkh, List.mem_cons]
    · intro t u hu
      unfold putE at hu
      cases q : o.dst with
      | none => simp only [q] at hu; exact h.eh1 t u hu
      | some d =>
        simp only [q] at hu
        by_cases e : t = d
        · subst e
          rw [ev1_cons_eq] at hu
          cases hu
          simp [Act.put, h.size, hdN t q]
        · rw [ev1_cons_ne e] at hu
          simp only [Act.put]
          rw [Array.getElem?_setIfInBounds_ne (Ne.symm e)]
          exact h.eh1 t u hu
    · intro t hn k hk
      obtain ⟨hn', hne⟩ := hev t hn
      rcases List.mem_cons.1 hk with rfl | hk
      · cases q : o.dst with
        | none => simp [dstIs, ho, q]
        | some d => rw [dstI d q]; exact beqne' (hne d q)
      · exact h.eh2 t hn' k hk
    · intro t hn
      unfold putE at hn
      cases q : o.dst with
      | none =>
        simp only [q] at hn
        obtain ⟨k, a, b⟩ := h.eh3 t hn
        exact ⟨k, by simp [a], b⟩
      | some d =>
        simp only [q] at hn
        by_cases e : t = d
        · subst e
          exact ⟨i, by simp, by rw [dstI t q]; exact Nat.beq_refl _⟩
        · rw [ev1_cons_ne e] at hn
          obtain ⟨k, a, b⟩ := h.eh3 t hn
          exact ⟨k, by simp [a], b⟩
    · intro t k hn hk hkl hkd hdn hmax
      have hki : k ≠ i := fun e => by subst e; rw [hli] at hkl; cases hkl
      have hn' := hev t hn
      have hdn' : listed[k]? = some true := by
        rcases (get_set_true hiz).1 hdn with q | q
        · exact absurd q hki
        · exact q
      have := h.top t k hn'.1 hk hkl hkd hdn' fun k' a b c d => hmax k' a b c ((get_set_true hiz).2 (.inr d))
      cases q : o.dst with
      | none => exact this
      | some d =>
        simp only [Act.put]
        rw [Array.getElem?_setIfInBounds_ne (Ne.symm (hn'.2 d q))]
        exact this
    · intro t hn hnone u hu
      have hn' := hev t hn
      have := h.base t hn'.1 (fun k a b c d => hnone k a b c ((get_set_true hiz).2 (.inr d))) u hu
      cases q : o.dst with
      | none => exact this
      | some d =>
        simp only [Act.put]
        rw [Array.getElem?_setIfInBounds_ne (Ne.symm (hn'.2 d q))]
        exact this

theorem Hx.end_ {l : List Oper} {ms : List (Option Nat)} {V : Nat → Value} {listed : Array Bool} {n : Nat} {S : List Nat} {eh : Env} {a : Act} {w : World} (hc : ChkE l ms)
    (h : Hx P β N ds L0 Q l ms V env listed n S eh L a w) (hall : ∀ k, k < l.length → listed[k]? = some true) : Q .normal a w := by
  have hr : readyH l ms S = [] := by
    unfold readyH
    refine List.filter_eq_nil_iff.2 fun i hi q => ?_
    simp only [Bool.and_eq_true, Bool.not_eq_true'] at q
    have hil : i < l.length := by simpa [idxs] using hi
    have := (h.hd i hil q.1.1).1 (hall i hil)
    have h2 := q.1.2
    simp [this] at h2
  have hy := h.hy
  cases n with
  | zero => exact hy.elim
  | succ n =>
  refine hy.1 hr a w ⟨h.size, h.dfr, fun t u hu => ?_⟩ h.st
  rw [ev1_append] at hu
  cases q : ev1 eh t with
  | some v => rw [q] at hu; simp only [Option.some.injEq] at hu; subst hu; exact h.eh1 t v q
  | none =>
    rw [q] at hu
    simp only at hu
    rcases ev1_envK l ms V env t u l.length hu with ⟨k, h1, h2, h3, h4, h5⟩ | ⟨h1, h2⟩
    · rw [← h4]
      refine h.top t k q h1 h2 h3 (hall k h1) fun k' a b c d => ?_
      rcases Nat.lt_or_ge k k' with r | r
      · have := h5 k' r a b
        rw [c] at this; cases this
      · exact r
    · refine h.base t q (fun k a b c d => ?_) u h2
      have := h1 k a b
      rw [c] at this; cases this

def HEo (P : Program) (β : Bs) (N : Nat) (ds : List Deferred) (L0 : List Res) (Q : Exit → Act → World → Prop) (l : List Oper) (ms : List (Option Nat)) (n : Nat) (S : List Nat) (env : Env) (L : List Res) (i : Nat) : Prop :=
  ∃ o, l[i]? = some o ∧ GdOk l env o ∧ (∀ d, o.dst = some d → d < N) ∧ HO P β env L o fun v L' => (∀ w, St β L' w → St β L0 w) ∧ HE P β N ds L0 Q l ms n (i :: S) (putE o v env) L'
def AllP (p : Nat → Prop) : List Nat → Prop
  | [] => True
  | x :: r => p x ∧ AllP p r
theorem AllP.mem {p : Nat → Prop} : ∀ {xs : List Nat}, AllP p xs → ∀ i, i ∈ xs → p i
  | x :: r, h, i, hi => by
    rcases List.mem_cons.1 hi with rfl | hi
    · exact h.1
    · exact h.2.mem i hi
section
variable {l : List Oper} {ms : List (Option Nat)} {n : Nat} {S : List Nat}
theorem HE.mk (xs : List Nat) (hx : readyH l ms S = xs) (hne : xs.isEmpty = false) (h : AllP (HEo P β N ds L0 Q l ms n S env L) xs) : HE P β N ds L0 Q l ms (n + 1) S env L := by
  subst hx
  exact ⟨fun e => (by rw [e] at hne; cases hne), fun i hi => h.mem i hi⟩
theorem HE.fin (hx : readyH l ms S = []) (h : VE β N ds env L .normal Q) : HE P β N ds L0 Q l ms (n + 1) S env L := ⟨fun _ => h, fun i hi => by rw [hx] at hi; cases hi⟩
theorem HEo.op {i d : Nat} {op : Op} {ty : TypeId} {pos : String} {aft : Array Edge} (ho : l[i]? = some ⟨some d, op, ty, pos, aft, none⟩) (hd : Nat.blt d N = true) (h : HO P β env L ⟨some d, op, ty, pos, aft, none⟩ fun v L' => (∀ w, St β L' w → St β L0 w) ∧ HE P β N ds L0 Q l ms n (i :: S) ((d, v) :: env) L') : HEo P β N ds L0 Q l ms n S env L i :=
  ⟨_, ho, .inl rfl, (fun d' e => by cases e; exact Nat.le_of_ble_eq_true hd), h⟩
end
theorem selK {L1 : List Res} (is : List Nat) (hn : nodupB is = true) (h : sel L is = L1) : ∀ w, St β L w → St β L1 w := fun w hw => by rw [← h]; exact hw.sel is hn
end
end Go.SL

namespace Go.SL
set_option linter.unusedVariables false
open Go.RowKit

section
variable {P : Program} {ro : Option Nat} {β : Bs} {ds : List Deferred} {N : Nat} {env : Env} {L : List Res} {Q : Exit → Act → World → Prop}
/-! ### A range over a map -/
variable {d : Option Nat} {ty : TypeId} {pos : String} {aft : Array Edge} {g : Option (Nat × Bool)}
variable {K : Value → List Res → Prop} {dd : Option Nat}
end
end Go.SL

namespace Go.SL
set_option linter.unusedVariables false
open Go.RowKit
section
variable {P : Program} {ro : Option Nat} {β : Bs} {ds : List Deferred} {N : Nat} {env : Env} {L : List Res} {Q : Exit → Act → World → Prop}
variable {d : Option Nat} {ty : TypeId} {pos : String} {aft : Array Edge} {g : Option (Nat × Bool)}
variable {K : Value → List Res → Prop} {dd : Option Nat}

theorem run_entry_at (w : World) (ir bm since : Nat) (seen : Array Nat) (es : Array MapEntry) (clock : Nat) (e : MapEntry) (hi : w.heap[ir]? = some (.mapIter (some bm) since (seen.push e.born) clock)) (hb : w.heap[bm]? = some (.map es clock)) (he : e ∈ es.toList) (hn : (es.toList.map (·.born)).Nodup) :
    (Instr.entry (.pointer (some ⟨ir, 0, none⟩))).run P w = .ok (.tuple #[e.key, e.val]) w := by
  have hf : es.find? (·.born == e.born) = some e := by rw [← Array.find?_toList]; exact find_born e es.toList hn he
  simp only [Instr.entry, getObj, Sem.run_bind, Sem.run, hi, hb, Result.andThen, Array.back?_push, bne_self_eq_false, Bool.false_eq_true, if_false, hf]
  rfl
theorem LO.entry {x : Operand} {ib b since clock : Nat} {seen : Array Nat} {es : Array MapEntry} {e : MapEntry} (hx : OV env x (.pointer (some ⟨ib, 0, none⟩))) (hi : ∀ w, St β L w → w.heap[ib]? = some (.mapIter (some b) since (seen.push e.born) clock)) (hc : ∀ w, St β L w → w.heap[b]? = some (.map es clock)) (he : e ∈ es.toList) (hn : (es.toList.map (·.born)).Nodup) : LO P β env L ⟨d, .entry x, ty, pos, aft, g⟩ (.tuple #[e.key, e.val]) :=
  .of_run fun a w h hw => ⟨w, by
    have := run_entry_at (P := P) w ib b since seen es clock e (hi w hw) (hc w hw) he hn
    simp [execOp, h x (by simp [Op.operands]) _ hx, this], hw⟩
theorem HO.bs0 {T E z : Nat} (hT : IsSlice P T E) (hs : (P.info? E).map (·.size) = some z) (k : ∀ b, K (.slice (some ⟨b, 0, none⟩) 0 0) (own E z (some ⟨b, 0, none⟩) 0 [] :: L)) : HO P β env L ⟨dd, .buildSlice T 0 #[], ty, pos, aft, none⟩ K := by
  intro a w h hw
  refine .inl ⟨_, w.alloc (.cells #[] E), _, _, ?_, .inl rfl, k w.heap.size, ?_⟩
  · simp [execOp, Instr.buildSlice, run_underlying hT, run_size hs, Instr.fill, newRow]
    rw [Array.eq_empty_of_size_eq_zero (xs := Array.map (fun x => default) (Array.range 0)) (by simp)]
  · have h1 := hw.alloc (.cells #[] E)
    have := h1.conv 0 (r' := own E z (some ⟨w.heap.size, 0, none⟩) 0 []) rfl (fun k hk => hk.2) ⟨by simp, by simp, fun q => (by cases q), fun a ha => by cases ha; exact ⟨rfl, rfl, #[], [], h1.inv 0 _ rfl, rfl, by simp⟩⟩
    simpa using this
theorem LO.cap {T E : Nat} {x : Operand} {p : Option Addr} {n c : Nat} {aT : Array TypeId} (hT : IsSlice P T E) (hx : OV env x (.slice p n c)) (ha : aT[0]? = some T) : LO P β env L ⟨d, .call ⟨.builtin .cap, #[x], aT⟩, ty, pos, aft, g⟩ (.int .i64 c) :=
  .of_run fun a w h hw => ⟨w, by simp [execOp, resolve, invoke, builtin, h x (by simp [Op.operands, Call.operands]) _ hx, Builtin.cap_, ha, run_underlying hT, goInt], hw⟩
theorem LO.slH {T E z : Nat} {x j : Operand} {p : Option Addr} {n c k : Nat} {e : Int} (hT : IsSlice P T E) (hz : (P.info? E).map (·.size) = some z) (hx : OV env x (.slice p n c)) (hj : OV env j (.int .i64 e)) (he : e = (k : Int)) (hk : k ≤ c) : LO P β env L ⟨d, .slice T x none (some j) none, ty, pos, aft, g⟩ (.slice p k c) :=
  .of_run fun a w h hw => ⟨w, by
    subst he
    have h0 : ∀ q : Addr, q.add 0 = q := fun q => by simp [Addr.add]
    have h2 : p.map (fun x => x.add 0) = p := by cases p <;> simp [h0]
    simp [execOp, h x (by simp [Op.operands]) _ hx, h j (by simp [Op.operands]) _ hj, Instr.sliceAt, run_underlying hT, Instr.slice, Instr.sliceBounds, Instr.sliceBound, asIntOf, hk, run_size hz, h2], hw⟩
end
end Go.SL

namespace Go.SL
set_option linter.unusedVariables false
open Go.RowKit
section
variable {P : Program} {β : Bs} {env : Env} {L L' : List Res}
theorem FO.bs0 {T E z d i : Nat} {ty : TypeId} {pos : String} {aft : Array Edge} (hT : IsSlice P T E) (hs : (P.info? E).map (·.size) = some z) : FO P env ⟨some d, .buildSlice T 0 #[], ty, pos, aft, none⟩ ⟨i, d, fun b => .slice (some ⟨b, 0, none⟩) 0 0, E, #[]⟩ :=
  ⟨rfl, rfl, fun a w _ => by
    simp [execOp, Instr.buildSlice, run_underlying hT, run_size hs, Instr.fill, newRow]
    rw [Array.eq_empty_of_size_eq_zero (xs := Array.map (fun x => default) (Array.range 0)) (by simp)]⟩
variable {ty : TypeId} {pos : String} {aft : Array Edge} {dd : Option Nat}
/-- append(x, y...), x empty and owned, y read. -/
theorem HO.appN0 {α : Type} {f : α → List Value} {m : List α} (i : Nat) (LF : Res → List Res) {K : Value → List Res → Prop} {x y : Operand} {T T' E z by_ : Nat} {aT : Array TypeId} {zero : Value} {p q : Option Addr} {n2 cap c2 : Nat} (hT : IsSlice P T E) (hT' : IsSlice P T' E) (hE : EInfo P E z by_ zero) (hx : OV env x (.slice p 0 cap)) (hy : OV env y (.slice q n2 c2))
    (hi : L[i]? = some (own E z p cap [])) (hq : ∀ w, St β L w → Go.SL.Rows w z q (m.map f)) (hz : ∀ a, (f a).length = z) (h1 : ∀ a, allOne (f a) = true) (ha0 : aT[0]? = some T) (ha1 : aT[1]? = some T') (hL : ∀ R : Res, L.set i R = LF R) (hn2 : n2 = m.length) (hs : (2 * n2 + 768) * by_ ≤ 281474976710656)
    (k : ∀ p' cap', (m ≠ [] ∨ p ≠ none → p' ≠ none) → K (.slice p' n2 cap') (LF (own E z p' cap' (m.map f)))) : HO P β env L ⟨dd, .call ⟨.builtin .append, #[x, y], aT⟩, ty, pos, aft, none⟩ K :=
  HO.appN (f := f) (l := []) (m := m) i LF hT hT' hE hx hy hi hq hz h1 ha0 ha1 hL rfl hn2 (by rw [Nat.zero_add]; exact hs) (fun p' c' h => by rw [Nat.zero_add]; exact k p' c' h)
end
end Go.SL

namespace Go.SL
set_option linter.unusedVariables false
open Go.RowKit

def Apart (r s : Res) : Prop := ∀ k, r.fp k → ¬ s.fp k
theorem Apart.symm {r s : Res} (h : Apart r s) : Apart s r := fun k hk hk2 => h k hk2 hk

section
variable {β : Bs} {L L' Rs : List Res} {w w' : World}

theorem St.mem (h : St β L w) {r : Res} (hr : r ∈ L) : r.inv w := by
  obtain ⟨i, hi⟩ := List.mem_iff_getElem?.1 hr
  exact h.inv i r hi
theorem St.rngM (h : St β L w) {r : Res} (hr : r ∈ L) : ∀ k, r.fp k → (β.O k ∨ β.w.heap.size ≤ k) ∧ k < w.heap.size := by
  obtain ⟨i, hi⟩ := List.mem_iff_getElem?.1 hr
  exact h.rng i r hi
theorem St.pw (h : St β L w) : L.Pairwise Apart := by
  rw [List.pairwise_iff_getElem]
  intro i j hi hj hij
  exact h.dis i j _ _ (by omega) (List.getElem?_eq_getElem hi) (List.getElem?_eq_getElem hj)
theorem st_mk (os : w.os = β.w.os) (tape : w.tape = β.w.tape) (output : w.output = β.w.output) (size : β.w.heap.size ≤ w.heap.size) (fr : ∀ k, k < β.w.heap.size → ¬ β.O k → w.heap[k]? = β.w.heap[k]?)
    (inv : ∀ r, r ∈ L → r.inv w) (rng : ∀ r, r ∈ L → ∀ k, r.fp k → (β.O k ∨ β.w.heap.size ≤ k) ∧ k < w.heap.size) (pw : L.Pairwise Apart) : St β L w := by
  refine ⟨os, tape, output, size, fr, fun i r hr => inv r (List.mem_of_getElem? hr), fun i r hr => rng r (List.mem_of_getElem? hr), ?_⟩
  intro i j r s hij hr hs
  obtain ⟨hi, rfl⟩ := List.getElem?_eq_some_iff.1 hr
  obtain ⟨hj, rfl⟩ := List.getElem?_eq_some_iff.1 hs
  have := List.pairwise_iff_getElem.1 pw
  rcases Nat.lt_or_gt_of_ne hij with q | q
  · exact this i j hi hj q
  · exact (this j i hj hi q).symm

/-- The resources in another order. -/
theorem St.perm (h : St β L w) (hp : L.Perm L') : St β L' w :=
  st_mk h.os h.tape h.output h.size h.fr (fun r hr => h.mem (hp.mem_iff.2 hr)) (fun r hr => h.rngM (hp.mem_iff.2 hr)) ((hp.pairwise_iff (fun h => Apart.symm h)).1 h.pw)

/-- Resources that lie apart, as one. -/
def bagD (Rs : List Res) : Res where
  fp := fun k => ∃ r, r ∈ Rs ∧ r.fp k
  inv := fun w => (∀ r, r ∈ Rs → r.inv w) ∧ Rs.Pairwise Apart
  loc := fun h hi => ⟨fun r hr => r.loc (fun k hk => h k ⟨r, hr, hk⟩) (hi.1 r hr), hi.2⟩

theorem St.unbagD (h : St β (bagD Rs :: L) w) : St β (Rs ++ L) w := by
  have hb := h.mem (List.mem_cons_self)
  have hp := List.pairwise_cons.1 h.pw
  refine st_mk h.os h.tape h.output h.size h.fr (fun r hr => ?_) (fun r hr k hk => ?_) ?_
  · rcases List.mem_append.1 hr with q | q
    · exact hb.1 r q
    · exact h.mem (List.mem_cons_of_mem _ q)
  · rcases List.mem_append.1 hr with q | q
    · exact h.rngM List.mem_cons_self k ⟨r, q, hk⟩
    · exact h.rngM (List.mem_cons_of_mem _ q) k hk
  · exact List.pairwise_append.2 ⟨hb.2, hp.2, fun r hr s hs k hk => hp.1 s hs k ⟨r, hr, hk⟩⟩

theorem St.bagD (h : St β (Rs ++ L) w) : St β (Go.SL.bagD Rs :: L) w := by
  obtain ⟨p1, p2, p3⟩ := List.pairwise_append.1 h.pw
  refine st_mk h.os h.tape h.output h.size h.fr (fun r hr => ?_) (fun r hr k hk => ?_) ?_
  · rcases List.mem_cons.1 hr with rfl | q
    · exact ⟨fun r hr => h.mem (List.mem_append_left _ hr), p1⟩
    · exact h.mem (List.mem_append_right _ q)
  · rcases List.mem_cons.1 hr with rfl | q
    · obtain ⟨s, hs, hk⟩ := hk
      exact h.rngM (List.mem_append_left _ hs) k hk
    · exact h.rngM (List.mem_append_right _ q) k hk
  · exact List.pairwise_cons.2 ⟨fun s hs k ⟨r, hr, hk⟩ => p3 r hr s hs k hk, p2⟩

/-- One of a bag is taken out. -/
theorem St.focus {A B : List Res} {r : Res} (h : St β (Go.SL.bagD (A ++ r :: B) :: L) w) : St β (r :: Go.SL.bagD (A ++ B) :: L) w := by
  have h1 := h.unbagD.perm (L' := (A ++ B) ++ (r :: L)) (by
    simp only [List.append_assoc, List.cons_append]
    exact List.Perm.append_left A (List.perm_middle.symm))
  exact (h1.bagD).perm (List.Perm.swap _ _ _)
/-- And put back, as it is now. -/
theorem St.unfocus {A B : List Res} {r : Res} (h : St β (r :: Go.SL.bagD (A ++ B) :: L) w) : St β (Go.SL.bagD (A ++ r :: B) :: L) w := by
  have h1 := (h.perm (List.Perm.swap _ _ _)).unbagD.perm (L' := (A ++ r :: B) ++ L) (by
    simp only [List.append_assoc, List.cons_append]
    exact List.Perm.append_left A List.perm_middle)
  exact h1.bagD

/-- At 'w' lie these resources. -/
def Has (w : World) (R : List Res) : Prop := St ⟨w, fpL R⟩ R w
theorem fpL_mem {R : List Res} {k : Nat} : fpL R k ↔ ∃ r, r ∈ R ∧ r.fp k :=
  ⟨fun ⟨i, r, hr, hk⟩ => ⟨r, List.mem_of_getElem? hr, hk⟩, fun ⟨r, hr, hk⟩ => by obtain ⟨i, hi⟩ := List.mem_iff_getElem?.1 hr; exact ⟨i, r, hi, hk⟩⟩
theorem has_mk {R : List Res} (h1 : ∀ r, r ∈ R → r.inv w) (h2 : ∀ r, r ∈ R → ∀ k, r.fp k → k < w.heap.size) (h3 : R.Pairwise Apart) : Has w R :=
  st_mk rfl rfl rfl (Nat.le_refl _) (fun _ _ _ => rfl) h1 (fun r hr k hk => ⟨.inl (fpL_mem.2 ⟨r, hr, hk⟩), h2 r hr k hk⟩) h3
theorem St.has {R : List Res} (h : St β L w) (hs : R.Sublist L) : Has w R :=
  has_mk (fun r hr => h.mem (hs.subset hr)) (fun r hr k hk => (h.rngM (hs.subset hr) k hk).2) (h.pw.sublist hs)
theorem St.hasL {R : List Res} (h : St β (R ++ L) w) : Has w R := h.has (List.sublist_append_left R L)
theorem Has.keep {R : List Res} (h : Has w R) (k : St (bs w) L w') : Has w' R :=
  has_mk (fun r hr => r.loc (fun b hb => k.fr b (h.rngM hr b hb).2 (fun f => f)) (h.mem hr)) (fun r hr b hb => Nat.lt_of_lt_of_le (h.rngM hr b hb).2 k.size) h.pw
theorem Has.sub {R R' : List Res} (h : Has w R) (hs : R'.Sublist R) : Has w R' := St.has h hs
theorem Has.perm {R R' : List Res} (h : Has w R) (hp : R.Perm R') : Has w R' :=
  has_mk (fun r hr => h.mem (hp.mem_iff.2 hr)) (fun r hr k hk => (h.rngM (hp.mem_iff.2 hr) k hk).2) ((hp.pairwise_iff (fun h => Apart.symm h)).1 h.pw)
theorem Has.enter (h : Has w L) : St ⟨w, fpL L⟩ L w := h
end

section
variable {P : Program} {ro : Option Nat} {β : Bs} {N : Nat} {ds : List Deferred} {env : Env} {L : List Res} {Q : Exit → Act → World → Prop}
  {ty : TypeId} {pos : String} {aft : Array Edge} {g : Option (Nat × Bool)}

/-- Another list of resources, said by a lemma on states. -/
theorem VC.res {L' : List Res} {c : Code} (hL : ∀ w, St β L w → St β L' w) (h : VC P ro β N ds env L' c Q) : VC P ro β N ds env L c Q := fun a w ha hw => h a w ha (hL w hw)
theorem VE.resL {L' : List Res} {e : Exit} (hL : ∀ w, St β L w → St β L' w) (h : VE β N ds env L' e Q) : VE β N ds env L e Q := fun a w ha hw => h a w ha (hL w hw)
end
end Go.SL

namespace Go.SL
set_option linter.unusedVariables false
open Go.RowKit

theorem flatten_set {z : Nat} : ∀ {rows : List (List Value)} {j o : Nat} {r vs : List Value}, (∀ r ∈ rows, r.length = z) → rows[j]? = some r → o + vs.length ≤ z →
    rows.flatten.take (j * z + o) ++ vs ++ rows.flatten.drop (j * z + o + vs.length) = (rows.set j (r.take o ++ vs ++ r.drop (o + vs.length))).flatten
  | [], j, o, r, vs, _, h, _ => by simp at h
  | x :: xs, 0, o, r, vs, hz, h, hl => by
    simp at h; subst h
    have hx : x.length = z := hz x (by simp)
    simp only [Nat.zero_mul, Nat.zero_add, List.flatten_cons, List.set_cons_zero]
    rw [List.take_append_of_le_length (by omega), List.drop_append_of_le_length (by omega)]
    simp only [List.append_assoc]
  | x :: xs, j + 1, o, r, vs, hz, h, hl => by
    have hx : x.length = z := hz x (by simp)
    have ih := flatten_set (rows := xs) (j := j) (o := o) (r := r) (vs := vs) (fun r hr => hz r (by simp [hr])) (by simpa using h) hl
    simp only [List.flatten_cons, List.set_cons_succ, ← ih]
    have e : (j + 1) * z + o = x.length + (j * z + o) := by rw [Nat.add_mul]; omega
    rw [e, List.take_length_add_append, show x.length + (j * z + o) + vs.length = x.length + (j * z + o + vs.length) by omega, List.drop_length_add_append]
    simp only [List.append_assoc]

section
variable {P : Program} {ro : Option Nat} {β : Bs} {N : Nat} {ds : List Deferred} {env : Env} {L : List Res} {Q : Exit → Act → World → Prop}
  {ty : TypeId} {pos : String} {aft : Array Edge} {g : Option (Nat × Bool)}

/-- A store into a part of an element. -/
theorem HO.sto (i : Nat) (LF : Res → List Res) {K : Value → List Res → Prop} {dd : Option Nat} {x y : Operand} {T E z cap j o q : Nat} {p : Option Addr} {rows : List (List Value)} {r : List Value} {v : Value} {vs : List Value} (hT : (P.info? T).map (·.size) = some vs.length) (hx : OV env x (.pointer (some ⟨pb p, q, none⟩))) (hy : OV env y v)
    (hi : L[i]? = some (own E z p cap rows)) (hj : rows[j]? = some r) (hq : q = po p + j * z + o) (hv : v.cells = vs.toArray) (hfit : o + vs.length ≤ z) (h1 : allOne vs = true) (hL : ∀ R : Res, L.set i R = LF R)
    (k : K undef (LF (own E z p cap (rows.set j (r.take o ++ vs ++ r.drop (o + vs.length)))))) : HO P β env L ⟨dd, .store T x y, ty, pos, aft, none⟩ K := by
  intro a w h hw
  have ex : a.eval x = .pointer (some ⟨pb p, q, none⟩) := by obtain ⟨u, hu, e⟩ := hx; subst e; exact h x (by simp [Op.operands]) _ hu
  have ey : a.eval y = v := by obtain ⟨u, hu, e⟩ := hy; subst e; exact h y (by simp [Op.operands]) _ hu
  obtain ⟨g1, g2, g3, g4⟩ := hw.inv i _ hi
  have hlt : i < L.length := by
    rcases Nat.lt_or_ge i L.length with q | q
    · exact q
    · simp [List.getElem?_eq_none q] at hi
  cases p with
  | none => rw [(g3 rfl).1] at hj; simp at hj
  | some ad =>
    obtain ⟨k1, k2, C, sp, k3, k4, k5⟩ := g4 ad rfl
    have hq' : q = j * z + o := by rw [hq]; simp only [po, k1]; omega
    have hjl : j < rows.length := (List.getElem?_eq_some_iff.1 hj).1
    have hfl : rows.flatten.length = rows.length * z := flatten_len g2
    have hle : j * z + o + vs.length ≤ rows.flatten.length := by
      rw [hfl]
      have : (j + 1) * z ≤ rows.length * z := Nat.mul_le_mul_right z hjl
      rw [Nat.add_mul] at this; omega
    have hCl : C.size = C.toList.length := by simp
    have hrun := run_store_blk (P := P) (o := q) hT hv k3 (by rw [hCl, k4, List.length_append]; omega) (allOne_spec h1)
    have hr : r.length = z := g2 r (List.mem_of_getElem? hj)
    have hC : C.toList.take q ++ vs ++ C.toList.drop (q + vs.length) = (rows.set j (r.take o ++ vs ++ r.drop (o + vs.length))).flatten ++ sp := by
      rw [← flatten_set g2 hj hfit, hq', k4, List.take_append_of_le_length (by omega), List.drop_append_of_le_length (by omega)]
      simp only [List.append_assoc]
    refine .inl ⟨.skip, w.setRow ad.block (C.toList.take q ++ vs ++ C.toList.drop (q + vs.length)).toArray, undef, _, ?_, .inr ⟨rfl, rfl⟩, k, ?_⟩
    · simp only [execOp, ex, ey, pb, Instr.storeAt, Instr.sureAddr, Sem.run_bind, Sem.run_pure, Result.andThen_ok, hrun]
    · rw [← hL]
      have s1 : St β (L.set i (blk ad.block (.cells C E))) w := hw.conv i hi (fun k hk => ⟨by simp, hk⟩) k3
      have hg : (L.set i (blk ad.block (.cells C E)))[i]? = some (blk ad.block (.cells C E)) := by simp [hlt]
      have s2 := s1.setRow (C' := (C.toList.take q ++ vs ++ C.toList.drop (q + vs.length)).toArray) hg
      rw [List.set_set] at s2
      have hg2 : (L.set i (blk ad.block (.cells (C.toList.take q ++ vs ++ C.toList.drop (q + vs.length)).toArray E)))[i]? = some (blk ad.block (.cells (C.toList.take q ++ vs ++ C.toList.drop (q + vs.length)).toArray E)) := by simp [hlt]
      have s3 := s2.conv i (r' := own E z (some ad) cap (rows.set j (r.take o ++ vs ++ r.drop (o + vs.length)))) hg2 (fun k hk => hk.2) (by
        refine ⟨by simpa using g1, ?_, fun e => (by cases e), ?_⟩
        · intro s hs
          rcases List.mem_or_eq_of_mem_set hs with q1 | q1
          · exact g2 s q1
          · subst q1; simp; omega
        · intro a' ha'
          cases ha'
          refine ⟨k1, k2, _, sp, s2.inv i _ hg2, by simpa using hC, ?_⟩
          simp only [List.size_toArray]
          have e1 : (C.toList.take q ++ vs ++ C.toList.drop (q + vs.length)).length = C.toList.length := by
            have := hle
            have : q + vs.length ≤ C.toList.length := by rw [k4, List.length_append]; omega
            simp; omega
          rw [e1, ← hCl, k5])
      rwa [List.set_set] at s3

theorem LO.mi {d : Option Nat} {x : Operand} {T : Nat} {v : Value} (hT : ∃ u, P.underlying T = some u ∧ (match u with | .interface _ => false | _ => true) = true) (hx : OV env x v) : LO P β env L ⟨d, .makeInterface T x, ty, pos, aft, g⟩ (.iface T v) :=
  .of_run fun a w h hw => ⟨w, by
    obtain ⟨u, hu, hb⟩ := hT
    have hm : (Instr.makeInterface T v).run P w = .ok (.iface T v) w := by
      unfold Instr.makeInterface
      rw [Sem.run_bind, run_underlying hu]
      cases u <;> simp_all
    simp [execOp, h x (by simp [Op.operands]) _ hx, hm], hw⟩

end
end Go.SL

namespace Go.SL
set_option linter.unusedVariables false
open Go.RowKit

/-- The entries are those of a set. -/
structure SetS (es : List MapEntry) (S : ByteArray → Bool) : Prop where
  ent : ∀ e, e ∈ es → ∃ n, e.key = .string n ∧ e.val = .bool true ∧ S n = true
  mem : ∀ n, S n = true → ∃ e, e ∈ es ∧ e.key = .string n
  nod : es.Pairwise fun a b => a.key ≠ b.key

def setRs (b : Nat) (S : ByteArray → Bool) : Res := ⟨fun k => k = b, fun w => ∃ es clock, w.heap[b]? = some (.map es clock) ∧ SetS es.toList S, fun h ⟨es, c, h1, h2⟩ => ⟨es, c, (h b rfl).trans h1, h2⟩⟩

theorem strV_inj {a b : ByteArray} (h : Value.string a = .string b) : a = b := by simpa using h

theorem ba_refl (a : ByteArray) : (a == a) = true := by cases a; exact beq_self_eq_true (α := Array UInt8) _
theorem ba_ne {a b : ByteArray} (h : a ≠ b) : (a == b) = false := by cases a; cases b; exact beq_false_of_ne (α := Array UInt8) (fun e => h (congrArg _ e))

theorem findNow_sets {n : ByteArray} : ∀ {es : List MapEntry} (i : Nat), (∀ e, e ∈ es → ∃ m, e.key = .string m ∧ e.val = .bool true) →
    (∃ j, Instr.findNow .string (.string n) es i = some (some (j, .bool true)) ∧ i ≤ j ∧ ∃ e, es[j - i]? = some e ∧ e.key = .string n) ∨ (Instr.findNow .string (.string n) es i = some none ∧ ∀ e, e ∈ es → e.key ≠ .string n)
  | [], i, _ => .inr ⟨rfl, by simp⟩
  | e :: es, i, h => by
    obtain ⟨m, hm, hv⟩ := h e (by simp)
    simp only [Instr.findNow, hm, Instr.sameNow, if_true]
    by_cases q : n = m
    · subst q
      left
      rw [ba_refl]; skip
      exact ⟨i, by rw [hv], Nat.le_refl _, e, by simp, hm⟩
    · have : (n == m) = false := ba_ne q
      rw [this]
      rcases findNow_sets (n := n) (es := es) (i + 1) (fun e' he => h e' (by simp [he])) with ⟨j, h1, h2, e', h3, h4⟩ | ⟨h1, h2⟩
      · left
        refine ⟨j, h1, by omega, e', ?_, h4⟩
        rw [show j - i = (j - (i + 1)) + 1 by omega]
        simpa using h3
      · right
        refine ⟨h1, ?_⟩
        intro e' he
        rcases List.mem_cons.1 he with rfl | he
        · rw [hm]; exact fun e => q (strV_inj e).symm
        · exact h2 e' he

section
variable {P : Program} {ro : Option Nat} {β : Bs} {N : Nat} {ds : List Deferred} {env : Env} {L : List Res} {Q : Exit → Act → World → Prop}
variable {d : Option Nat} {ty : TypeId} {pos : String} {aft : Array Edge} {g : Option (Nat × Bool)}

def IsSetS (P : Program) (T : Nat) : Prop := ∃ K E, P.underlying T = some (.map K E) ∧ P.underlying K = some .string ∧ ZeroOf P E (.bool false)

theorem checkKey_str {K : TypeId} (hK : P.underlying K = some .string) (e : Bool) (n : Nat) (v : Value) (w : World) : (Instr.checkKey e (n + 1) K v).run P w = .ok () w := by
  simp [Instr.checkKey, run_underlying hK]

theorem run_lookup_sets {T b : Nat} {S : ByteArray → Bool} {n : ByteArray} {w : World} (hT : IsSetS P T) (hi : (setRs b S).inv w) : (Instr.lookup T (.map (some b)) (.string n) false).run P w = .ok (.bool (S n)) w := by
  obtain ⟨K, E, hu, hK, hz⟩ := hT
  obtain ⟨es, clock, hb, hs⟩ := hi
  have hobj : (getObj b).run P w = .ok (.map es clock) w := by simp [getObj, Sem.run, hb]
  simp only [Instr.lookup, Sem.run_bind, run_underlying hu, Result.andThen_ok, hobj, Sem.run_pure, checkKey_str hK, Instr.findKey, run_underlying hK]
  rcases findNow_sets (n := n) (es := es.toList) 0 (fun e he => by obtain ⟨m, h1, h2, _⟩ := hs.ent e he; exact ⟨m, h1, h2⟩) with ⟨j, h1, h2, e, h3, h4⟩ | ⟨h1, h2⟩
  · rw [h1]
    have hm : e ∈ es.toList := List.mem_of_getElem? h3
    obtain ⟨m, g1, g2, g3⟩ := hs.ent e hm
    have : m = n := strV_inj (g1.symm.trans h4)
    subst this
    simp [g3]
  · rw [h1]
    have : S n = false := by
      cases q : S n
      · rfl
      · obtain ⟨e, he, hk⟩ := hs.mem n q
        exact absurd hk (h2 e he)
    simp [run_zero hz, this]

theorem LO.lks {x y : Operand} {T b : Nat} {S : ByteArray → Bool} {n : ByteArray} (hT : IsSetS P T) (hx : OV env x (.map (some b))) (hy : OV env y (.string n)) (hi : ∀ w, St β L w → (setRs b S).inv w) : LO P β env L ⟨d, .lookup T x y false, ty, pos, aft, g⟩ (.bool (S n)) :=
  .of_run fun a w h hw => ⟨w, by
    have := run_lookup_sets (n := n) hT (hi w hw)
    skip
    simp [execOp, h x (by simp [Op.operands]) _ hx, h y (by simp [Op.operands]) _ hy, this], hw⟩

def insS (S : ByteArray → Bool) (n : ByteArray) : ByteArray → Bool := fun m => decide (m = n) || S m

theorem run_mapUpdate_sets {T b : Nat} {S : ByteArray → Bool} {n : ByteArray} {w : World} (hT : IsSetS P T) (i : Nat) (hw : St β L w) (hi : L[i]? = some (setRs b S)) :
    ∃ w', (Instr.mapUpdate T (.map (some b)) (.string n) (.bool true)).run P w = .ok () w' ∧ St β (L.set i (setRs b (insS S n))) w' := by
  obtain ⟨K, E, hu, hK, hz⟩ := hT
  obtain ⟨es, clock, hb, hs⟩ := hw.inv i _ hi
  have hobj : (getObj b).run P w = .ok (.map es clock) w := by simp [getObj, Sem.run, hb]
  have hlt : i < L.length := by
    rcases Nat.lt_or_ge i L.length with q | q
    · exact q
    · simp [List.getElem?_eq_none q] at hi
  have hset : ∀ o, (setObj b o).run P w = .ok () (w.putObj b o) := fun o => by simp [setObj, Sem.run, hb, World.putObj]
  -- the set's block «as» a block
  have h1 : St β (L.set i (blk b (.map es clock))) w := hw.conv i hi (fun k hk => hk) hb
  have upd : ∀ es' clock', SetS es'.toList (insS S n) → St β (L.set i (setRs b (insS S n))) (w.putObj b (.map es' clock')) := by
    intro es' clock' hse
    have hg : (L.set i (blk b (.map es clock)))[i]? = some (blk b (.map es clock)) := by simp [hlt]
    have h2 := h1.obj (o' := .map es' clock') i hg
    rw [List.set_set] at h2
    have hg2 : (L.set i (blk b (.map es' clock')))[i]? = some (blk b (.map es' clock')) := by simp [hlt]
    have h3 := h2.conv i (r' := setRs b (insS S n)) hg2 (fun k hk => hk) ⟨es', clock', h2.inv i _ hg2, hse⟩
    rwa [List.set_set] at h3
  simp only [Instr.mapUpdate, Sem.run_bind, run_underlying hu, Result.andThen_ok, hobj, checkKey_str hK, Instr.findKey, run_underlying hK]
  rcases findNow_sets (n := n) (es := es.toList) 0 (fun e he => by obtain ⟨m, h1, h2, _⟩ := hs.ent e he; exact ⟨m, h1, h2⟩) with ⟨j, h1', h2, e, h3, h4⟩ | ⟨h1', h2⟩
  · rw [h1']
    simp only [Nat.sub_zero] at h3
    have hj : es[j]? = some e := by simpa using h3
    have hjl : j < es.size := (Array.getElem?_eq_some_iff.1 hj).1
    have hme : es[j] = e := (Array.getElem?_eq_some_iff.1 hj).2
    obtain ⟨m, g1, g2, g3⟩ := hs.ent e (List.mem_of_getElem? h3)
    have hmn : m = n := strV_inj (g1.symm.trans h4)
    subst hmn
    have hmod : (es.modify j fun e => { e with key := .string m, val := .bool true }) = es := by
      apply Array.ext
      · simp
      · intro k hk1 hk2
        rw [Array.getElem_modify]
        split
        · rename_i q
          subst q
          rw [hme, ← g1, ← g2]
        · rfl
    refine ⟨w.putObj b (.map es clock), ?_, upd es clock ?_⟩
    · simp [hj, g1, Instr.keyThatStays, Instr.sameBits, ba_refl]
      rw [show (es.modify j fun e => { key := Value.string m, val := Value.bool true, born := e.born }) = es from hmod, hset]
    · refine ⟨fun e' he' => ?_, fun k hk => ?_, hs.nod⟩
      · obtain ⟨a, b1, b2, b3⟩ := hs.ent e' he'
        exact ⟨a, b1, b2, by simp [insS, b3]⟩
      · simp only [insS, Bool.or_eq_true, decide_eq_true_eq] at hk
        rcases hk with rfl | hk
        · exact hs.mem _ g3
        · exact hs.mem k hk
  · rw [h1']
    refine ⟨_, hset _, upd (es.push { key := .string n, val := .bool true, born := clock }) (clock + 1) ?_⟩
    refine ⟨fun e' he' => ?_, fun k hk => ?_, ?_⟩
    · simp only [Array.toList_push, List.mem_append, List.mem_singleton] at he'
      rcases he' with he' | rfl
      · obtain ⟨a, b1, b2, b3⟩ := hs.ent e' he'
        exact ⟨a, b1, b2, by simp [insS, b3]⟩
      · exact ⟨n, rfl, rfl, by simp [insS]⟩
    · simp only [insS, Bool.or_eq_true, decide_eq_true_eq] at hk
      by_cases q : k = n
      · exact ⟨{ key := .string n, val := .bool true, born := clock }, by simp, by rw [q]⟩
      · obtain ⟨e, he, hke⟩ := hs.mem k (by simpa [q] using hk)
        exact ⟨e, by simp [he], hke⟩
    · simp only [Array.toList_push]
      rw [List.pairwise_append]
      refine ⟨hs.nod, by simp, ?_⟩
      intro a ha b hb
      simp at hb; subst hb
      exact h2 a ha

section
variable {K : Value → List Res → Prop} {dd : Option Nat}
theorem HO.mksets {T : Nat} (k : ∀ b, K (.map (some b)) (setRs b (fun _ => false) :: L)) : HO P β env L ⟨dd, .makeMap T none, ty, pos, aft, none⟩ K := by
  intro a w h hw
  refine .inl ⟨_, w.alloc (.map #[] 0), _, _, ?_, .inl rfl, k w.heap.size, ?_⟩
  · simp [execOp, run_makeMap]
  · have h1 := hw.alloc (.map #[] 0)
    have := h1.conv 0 (r' := setRs w.heap.size (fun _ => false)) rfl (fun k hk => hk) ⟨#[], 0, h1.inv 0 _ rfl, by simp, by simp, by simp⟩
    simpa using this
theorem HO.mus (i : Nat) (LF : Res → List Res) {x y z : Operand} {T b : Nat} {S : ByteArray → Bool} {n : ByteArray} (hT : IsSetS P T) (hx : OV env x (.map (some b))) (hy : OV env y (.string n)) (hz : OV env z (.bool true)) (hi : L[i]? = some (setRs b S)) (hL : ∀ R : Res, L.set i R = LF R)
    (k : K undef (LF (setRs b (insS S n)))) : HO P β env L ⟨dd, .mapUpdate T x y z, ty, pos, aft, none⟩ K := by
  intro a w h hw
  obtain ⟨w', h1, h2⟩ := run_mapUpdate_sets (n := n) hT i hw hi
  skip
  refine .inl ⟨.skip, w', undef, _, ?_, .inr ⟨rfl, rfl⟩, k, by rw [← hL]; exact h2⟩
  have ex : a.eval x = .map (some b) := by obtain ⟨u, hu, e⟩ := hx; subst e; exact h x (by simp [Op.operands]) _ hu
  have ey : a.eval y = .string n := by obtain ⟨u, hu, e⟩ := hy; subst e; exact h y (by simp [Op.operands]) _ hu
  have ez : a.eval z = .bool true := by obtain ⟨u, hu, e⟩ := hz; subst e; exact h z (by simp [Op.operands]) _ hu
  simp [execOp, ex, ey, ez, h1]
end

end
end Go.SL

namespace Go.SL
set_option linter.unusedVariables false
open Go.RowKit

section
variable {P : Program} {ro : Option Nat} {β : Bs} {N : Nat} {ds : List Deferred} {env : Env} {L : List Res} {Q : Exit → Act → World → Prop}
  {ty : TypeId} {pos : String} {aft : Array Edge} {g : Option (Nat × Bool)}

theorem set_self {α : Type} {l : List α} {i : Nat} {x : α} (h : l[i]? = some x) : l.set i x = l := by
  refine List.ext_getElem? fun j => ?_
  rw [List.getElem?_set]
  split
  · rename_i q; subst q; rw [h]; split
    · rfl
    · rename_i q; rw [List.getElem?_eq_none (by omega)] at h; cases h
  · rfl

theorem zeroCells_mem {zs : Array Value} {n : Nat} {u : Value} (h : u ∈ (Builtin.zeroCells zs n).toList) : u ∈ zs.toList := by
  unfold Builtin.zeroCells at h
  rw [Array.toList_map, List.mem_map] at h
  obtain ⟨i, hi, rfl⟩ := h
  have h0 : 0 < zs.size := by
    rw [Array.toList_range, List.mem_range] at hi
    rcases Nat.eq_zero_or_pos zs.size with q | q
    · rw [q] at hi; omega
    · exact q
  have hm : i % zs.size < zs.size := Nat.mod_lt _ h0
  rw [getElem!_pos zs _ hm]
  exact Array.getElem_mem_toList hm

/-- An owned slice whose cells are turned. -/
theorem St.ownRow {w : World} (hw : St β L w) (i : Nat) {E z cap : Nat} {ad : Addr} {rows rows' : List (List Value)} {C C' : Array Value} {sp : List Value} (hi : L[i]? = some (own E z (some ad) cap rows)) (hC : w.heap[ad.block]? = some (.cells C E (0, 0)))
    (h1 : rows'.length ≤ cap) (h2 : ∀ r ∈ rows', r.length = z) (h3 : C'.toList = rows'.flatten ++ sp) (h4 : C'.size = C.size) : St β (L.set i (own E z (some ad) cap rows')) (w.setRow ad.block C') := by
  obtain ⟨g1, g2, g3, g4⟩ := hw.inv i _ hi
  have hlt : i < L.length := by
    rcases Nat.lt_or_ge i L.length with q | q
    · exact q
    · simp [List.getElem?_eq_none q] at hi
  obtain ⟨k1, k2, D, sp0, k3, k4, k5⟩ := g4 ad rfl
  rw [hC] at k3
  cases k3
  have s1 : St β (L.set i (blk ad.block (.cells C E))) w := hw.conv i hi (fun k hk => ⟨by simp, hk⟩) hC
  have hg : (L.set i (blk ad.block (.cells C E)))[i]? = some (blk ad.block (.cells C E)) := by simp [hlt]
  have s2 := s1.setRow (C' := C') hg
  rw [List.set_set] at s2
  have hg2 : (L.set i (blk ad.block (.cells C' E)))[i]? = some (blk ad.block (.cells C' E)) := by simp [hlt]
  have s3 := s2.conv i (r' := own E z (some ad) cap rows') hg2 (fun k hk => hk.2) ⟨h1, h2, fun e => (by cases e), fun a' ha' => by cases ha'; exact ⟨k1, k2, C', sp, s2.inv i _ hg2, h3, by rw [h4, k5]⟩⟩
  rwa [List.set_set] at s3

/-- The elements from 'k' on are cleared; they are left to the spare room. -/
theorem HO.clr (i k : Nat) (LF : Res → List Res) {K : Value → List Res → Prop} {dd : Option Nat} {x : Operand} {T E z cap n : Nat} {p : Option Addr} {zero : Value} {rows : List (List Value)} {aT : Array TypeId} (hT : IsSlice P T E) (hz : ZeroOf P E zero) (hzs : zero.cells.size = z) (hz1 : allOne zero.cells.toList = true)
    (hx : OV env x (.slice (slFrom p cap k z) (n - k) (cap - k))) (hi : L[i]? = some (own E z p cap rows)) (hn : n = rows.length) (hk : k ≤ rows.length) (ha : aT[0]? = some T) (hL : ∀ R : Res, L.set i R = LF R)
    (kk : K (.tuple #[]) (LF (own E z p cap (rows.take k)))) : HO P β env L ⟨dd, .call ⟨.builtin .clear, #[x], aT⟩, ty, pos, aft, none⟩ K := by
  intro a w h hw
  have ex : a.eval x = .slice (slFrom p cap k z) (n - k) (cap - k) := by obtain ⟨u, hu, e⟩ := hx; subst e; exact h x (by simp [Op.operands, Call.operands]) _ hu
  obtain ⟨g1, g2, g3, g4⟩ := hw.inv i _ hi
  have hlt : i < L.length := by
    rcases Nat.lt_or_ge i L.length with q | q
    · exact q
    · simp [List.getElem?_eq_none q] at hi
  subst hn
  rcases Nat.lt_or_ge k rows.length with q | q
  · cases p with
    | none => rw [(g3 rfl).1] at q; simp at q
    | some ad =>
      obtain ⟨k1, k2, C, sp, k3, k4, k5⟩ := g4 ad rfl
      have hfl : rows.flatten.length = rows.length * z := flatten_len g2
      have hCl : C.size = C.toList.length := by simp
      have hmul : k * z + (rows.length - k) * z = rows.length * z := by rw [← Nat.add_mul]; congr 1; omega
      have hzl : (Builtin.zeroCells zero.cells (rows.length - k)).toList.length = (rows.length - k) * z := by
        rw [Array.length_toList, zeroCells_size, hzs]
      have hfit : k * z + (Builtin.zeroCells zero.cells (rows.length - k)).toList.length ≤ C.size := by
        rw [hzl, hCl, k4, List.length_append, hfl]; omega
      have h1 : ∀ u ∈ (Builtin.zeroCells zero.cells (rows.length - k)).toList, u.oneCell' = true := fun u hu => allOne_spec hz1 u (zeroCells_mem hu)
      have hrun := run_storeCells_at P ad.block (k * z) E (Builtin.zeroCells zero.cells (rows.length - k)).toList 0 C w k3 (by simpa using hfit) h1
      simp only [Nat.add_zero] at hrun
      have hsl : slFrom (some ad) cap k z = some ⟨ad.block, k * z, none⟩ := by
        unfold slFrom
        rw [if_neg (by omega)]
        simp only [Option.map_some]
        congr 1
        unfold Addr.add
        cases ad; simp_all
      have hne : ∃ m, rows.length - k = m + 1 := ⟨rows.length - k - 1, by omega⟩
      have hev : (Builtin.clear_ aT ty #[.slice (slFrom (some ad) cap k z) (rows.length - k) (cap - k)]).run P w = .ok (.tuple #[]) (w.setRow ad.block (C.toList.take (k * z) ++ (Builtin.zeroCells zero.cells (rows.length - k)).toList ++ C.toList.drop (k * z + (Builtin.zeroCells zero.cells (rows.length - k)).toList.length)).toArray) := by
        obtain ⟨m, hm⟩ := hne
        rw [hm] at hrun ⊢
        simp [Builtin.clear_, ha, run_underlying hT, hsl, run_zero hz, hrun]
      refine .inl ⟨.value (.tuple #[]), w.setRow ad.block (C.toList.take (k * z) ++ (Builtin.zeroCells zero.cells (rows.length - k)).toList ++ C.toList.drop (k * z + (Builtin.zeroCells zero.cells (rows.length - k)).toList.length)).toArray, .tuple #[], _, ?_, .inl rfl, kk, ?_⟩
      · simp only [execOp, resolve, invoke, builtin, ex, List.map_toArray, List.map_cons, List.map_nil, Sem.run_bind, Sem.run_pure, Result.andThen_ok, hev]
      · rw [← hL]
        refine hw.ownRow i (sp := (Builtin.zeroCells zero.cells (rows.length - k)).toList ++ C.toList.drop (k * z + (Builtin.zeroCells zero.cells (rows.length - k)).toList.length)) hi k3 (by rw [List.length_take]; omega) (fun r hr => g2 r (List.mem_of_mem_take hr)) ?_ ?_
        · have : C.toList.take (k * z) = (rows.take k).flatten := by
            have e1 : ((rows.take k).flatten ++ (rows.drop k).flatten) = rows.flatten := by rw [← List.flatten_append, List.take_append_drop]
            have e2 : (rows.take k).flatten.length = k * z := by rw [flatten_len (fun r hr => g2 r (List.mem_of_mem_take hr)), List.length_take]; congr 1; omega
            rw [k4, ← e1, List.append_assoc, List.take_append_of_le_length (by omega), ← e2, List.take_length]
          simp [this]
        · rw [List.size_toArray, List.length_append, List.length_append, List.length_take, List.length_drop]; omega
  · have hke : k = rows.length := by omega
    have hev : (Builtin.clear_ aT ty #[.slice (slFrom p cap k z) (rows.length - k) (cap - k)]).run P w = .ok (.tuple #[]) w := by
      rw [show rows.length - k = 0 by omega]
      cases slFrom p cap k z <;> simp [Builtin.clear_, ha, run_underlying hT]
    refine .inl ⟨.value (.tuple #[]), w, .tuple #[], _, ?_, .inl rfl, kk, ?_⟩
    · simp only [execOp, resolve, invoke, builtin, ex, List.map_toArray, List.map_cons, List.map_nil, Sem.run_bind, Sem.run_pure, Result.andThen_ok, hev]
    · rw [← hL, List.take_of_length_le (by omega), set_self hi]
      exact hw

theorem LO.mf2 {d : Option Nat} {fn : Fn} {ys xs : List Operand} {first cap : List Value} (hy : OVs env ys first) (hx : OVs env xs cap) : LO P β env L ⟨d, .makeFunc fn ys.toArray xs.toArray, ty, pos, aft, g⟩ (.func fn first.toArray cap.toArray) :=
  .of_run fun a w h hw => ⟨w, by
    have hm : xs.map a.eval = cap := hx.map fun x hm u hu => h x (by simp [Op.operands, hm]) u hu
    have hm2 : ys.map a.eval = first := hy.map fun x hm u hu => h x (by simp [Op.operands, hm]) u hu
    simp [execOp, Instr.makeFunc, hm, hm2], hw⟩

/-- A call that is handed some of the resources, and leaves others in their place. -/
theorem HO.callP {α : Type} (L1 L2 : List Res) {K : Value → List Res → Prop} {dd : Option Nat} {f : FuncId} {fx : Operand} {xs : List Operand} {vs first cap : List Value} {aT : Array TypeId} {v : α → Value} {R : α → List Res} {I : α → Prop} (hL : ∀ w, St β L w → St β (L1 ++ L2) w) (hfx : OV env fx (.func (.func f) first.toArray cap.toArray)) (hf : IsFn P f) (hx : OVs env xs vs)
    (hc : ∀ w, St β L w → Has w L1 → Calls P f (first ++ vs ++ cap).toArray w fun e w' => ∃ x, I x ∧ e = .returned (v x) ∧ St ⟨w, fpL L1⟩ (R x) w') (k : ∀ x, I x → K (v x) (R x ++ L2)) : HO P β env L ⟨dd, .call ⟨.value fx, xs.toArray, aT⟩, ty, pos, aft, none⟩ K := by
  intro a w h hw
  refine .inr (.inl ⟨f, (first ++ vs ++ cap).toArray, ?_, ?_⟩)
  · have hm : xs.map a.eval = vs := hx.map fun x hm u hu => by obtain ⟨u', hu', e⟩ := hu; subst e; exact h x (by simp [Op.operands, Call.operands, hm]) u' hu'
    have hfe : a.eval fx = .func (.func f) first.toArray cap.toArray := by obtain ⟨u', hu', e⟩ := hfx; subst e; exact h fx (by simp [Op.operands, Call.operands]) _ hu'
    simp [execOp, resolve, hfe, Deferred.ofValue, invoke, run_call hf, hm]
  · have hw2 : St β (L1 ++ L2) w := hL w hw
    exact (hc w hw hw2.hasL).mono fun e w' ⟨x, hI, he, hs⟩ => ⟨v x, _, he, k x hI, hw2.callG (fun k hk => hk) hs⟩
end
end Go.SL

namespace Go.SL
set_option linter.unusedVariables false
open Go.RowKit

section
variable {P : Program} {ro : Option Nat} {β : Bs} {N : Nat} {ds : List Deferred} {env : Env} {L : List Res} {Q : Exit → Act → World → Prop}
  {ty : TypeId} {pos : String} {aft : Array Edge} {g : Option (Nat × Bool)}

theorem LO.shr {d : Option Nat} {x y : Operand} {xT yT : TypeId} {k k' : IntKind} {m n : Int} (hx : OV env x (.int k m)) (hy : OV env y (.int k' n)) (hn : 0 ≤ n) : LO P β env L ⟨d, .binOp .shr xT x y yT, ty, pos, aft, g⟩ (.int k (m.fdiv (2 ^ (Min.min n.toNat k.bits)))) :=
  .of_run fun a w h hw => ⟨w, by
    have hn2 : ¬ n < 0 := by omega
    simp [execOp, h x (by simp [Op.operands]) _ hx, h y (by simp [Op.operands]) _ hy, eqGuard, binOp, Op.shift, hn2], hw⟩
theorem and_one (m : Int) : IntKind.wrap .i64 (((BitVec.ofInt 64 m &&& BitVec.ofInt 64 1).toNat : Nat) : Int) = m % 2 := by
  have e1 : (BitVec.ofInt 64 m &&& BitVec.ofInt 64 1).toNat = (m % 18446744073709551616).toNat % 2 := by
    rw [BitVec.toNat_and, BitVec.toNat_ofInt, BitVec.toNat_ofInt]
    have : ((1 : Int) % ((2 ^ 64 : Nat) : Int)).toNat = 2 ^ 1 - 1 := by decide
    rw [this, Nat.and_two_pow_sub_one_eq_mod]
    rfl
  have h0 : 0 ≤ m % 18446744073709551616 := Int.emod_nonneg _ (by decide)
  have e2 : (((m % 18446744073709551616).toNat % 2 : Nat) : Int) = m % 2 := by
    rw [Int.natCast_emod, Int.toNat_of_nonneg h0]
    exact Int.emod_emod_of_dvd m (by decide)
  rw [e1, e2]
  exact wi (by omega) (by omega)
theorem LO.and1 {d : Option Nat} {x y : Operand} {xT yT : TypeId} {m : Int} (hx : OV env x (.int .i64 m)) (hy : OV env y (.int .i64 1)) : LO P β env L ⟨d, .binOp .and xT x y yT, ty, pos, aft, g⟩ (.int .i64 (m % 2)) :=
  .of_run fun a w h hw => ⟨w, by
    have e := and_one m
    simp [execOp, h x (by simp [Op.operands]) _ hx, h y (by simp [Op.operands]) _ hy, eqGuard, binOp, Op.intBits]
    exact e, hw⟩
end
end Go.SL

namespace Go.SL
set_option linter.unusedVariables false
open Go.RowKit

section
variable {P : Program} {ro : Option Nat} {β : Bs} {N : Nat} {ds : List Deferred} {env : Env} {L : List Res} {Q : Exit → Act → World → Prop}
  {ty : TypeId} {pos : String} {aft : Array Edge} {g : Option (Nat × Bool)}

theorem VC.rebase {c : Code} (h : ∀ w1, St β L w1 → VC P ro (bs w1) N ds env [] c Q) : VC P ro β N ds env L c Q := fun a w ha hw => h w hw a w ha (St.refl w)
theorem St.based {w0 w1 w2 : World} {L L' : List Res} (h : St (bs w0) L w1) (k : St (bs w1) L' w2) : St (bs w0) [] w2 := (h.call k).nil

end
end Go.SL

namespace Go.SL
set_option linter.unusedVariables false
open Go.RowKit

section
variable {P : Program} {ro : Option Nat} {β : Bs} {N : Nat} {ds : List Deferred} {env : Env} {L : List Res} {Q : Exit → Act → World → Prop}
  {ty : TypeId} {pos : String} {aft : Array Edge} {g : Option (Nat × Bool)}

/-- Which function a method of a value in an interface is. -/
def Meth (P : Program) (T : TypeId) (rv : Value) (name : String) (f : FuncId) : Prop := ∀ w, (method (P.types.size + Made.depth) T rv name).run P w = .ok (f, rv) w
theorem run_invokeM {T : TypeId} {rv : Value} {name : String} {f : FuncId} (hm : Meth P T rv name f) (hf : IsFn P f) (vs : List Value) (w : World) : (invoke (.fn (.method name) #[]) (#[.iface T rv] ++ vs.toArray)).run P w = .ok (.enter f (rv :: vs).toArray) w := by
  have e1 : (#[Value.iface T rv] ++ vs.toArray)[0]? = some (.iface T rv) := by simp
  have e2 : (#[Value.iface T rv] ++ vs.toArray).extract 1 (#[Value.iface T rv] ++ vs.toArray).size = vs.toArray := by
    apply Array.ext'
    simp
  have e3 : (#[rv] ++ vs.toArray) = (rv :: vs).toArray := by apply Array.ext'; simp
  unfold invoke
  simp only [e1]
  rw [e2]
  unfold callMethod
  simp only [Sem.run_bind, run_program, Result.andThen_ok, hm w, e3]
  exact run_call hf _ w

/-- A call of a method that is handed some of the resources, and leaves others in their place. -/
theorem HO.inv {α : Type} (L1 L2 : List Res) {K : Value → List Res → Prop} {dd : Option Nat} {f : FuncId} {rx : Operand} {T : TypeId} {rv : Value} {name : String} {xs : List Operand} {vs : List Value} {aT : Array TypeId} {v : α → Value} {R : α → List Res} {I : α → Prop} (hL : ∀ w, St β L w → St β (L1 ++ L2) w) (hr : OV env rx (.iface T rv)) (hm : Meth P T rv name f) (hf : IsFn P f) (hx : OVs env xs vs)
    (hc : ∀ w, St β L w → Has w L1 → Calls P f (rv :: vs).toArray w fun e w' => ∃ x, I x ∧ e = .returned (v x) ∧ St ⟨w, fpL L1⟩ (R x) w') (k : ∀ x, I x → K (v x) (R x ++ L2)) : HO P β env L ⟨dd, .call ⟨.invoke rx name, xs.toArray, aT⟩, ty, pos, aft, none⟩ K := by
  intro a w h hw
  refine .inr (.inl ⟨f, (rv :: vs).toArray, ?_, ?_⟩)
  · have hmm : xs.map a.eval = vs := hx.map fun x hm u hu => by obtain ⟨u', hu', e⟩ := hu; subst e; exact h x (by simp [Op.operands, Call.operands, hm]) u' hu'
    have hre : a.eval rx = .iface T rv := by obtain ⟨u', hu', e⟩ := hr; subst e; exact h rx (by simp [Op.operands, Call.operands]) _ hu'
    simp only [execOp, resolve, hre, Sem.run_bind, Sem.run_pure, Result.andThen_ok]
    rw [show (xs.toArray.map a.eval) = vs.toArray by rw [← hmm]; simp]
    exact run_invokeM hm hf vs w
  · have hw2 : St β (L1 ++ L2) w := hL w hw
    exact (hc w hw hw2.hasL).mono fun e w' ⟨x, hI, he, hs⟩ => ⟨v x, _, he, k x hI, hw2.callG (fun k hk => hk) hs⟩
end
end Go.SL

namespace Go.SL
set_option linter.unusedVariables false

end Go.SL
