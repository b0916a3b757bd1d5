/-
  A drawn region whose operations fall into two parts, one ahead of the other, is two regions.
  (and more)
-/
import Derived.Test.YtdjflomhaljljaaGreatKKRUN02
import Derived.ChangeKeysEq
import Derived.ProofKit
import Derived.OpenShut
import Derived.Carry
import Derived.ChangeCalls
import Derived.JoinedOf
import Derived.Laws.IdiomRangeMap

set_option maxRecDepth 20000
set_option maxHeartbeats 8000000
namespace Go.SL
set_option linter.unusedVariables false
open Go.RowKit
def shOp (T : Nat) (o : Oper) : Oper := { o with after := ((o.after.toList.filter fun e => Nat.ble T e.on).map fun e => { e with on := e.on - T }).toArray, guard := o.guard.map fun g => (g.1 - T, g.2) }
def catB (l : List Oper) (T : Nat) : Bool :=
  let cl := clOf l
  Nat.ble T l.length && (idxs l.length).all fun k =>
    match l[k]? with
    | none => false
    | some o =>
      o.after.toList.all (fun e => !Region.binds .any e || Nat.blt e.on k) &&
      (cl.getD k []).all (fun i => o.after.toList.any fun e => Region.binds .any e && (Nat.beq e.on i || (cl.getD e.on []).contains i)) &&
      (match o.guard with | none => true | some g => if Nat.blt k T then Nat.blt g.1 T else Nat.ble T g.1) &&
      (Nat.blt k T || (idxs T).all fun i => (cl.getD k []).contains i)
theorem catB_spec {l : List Oper} {T : Nat} (h : catB l T = true) : T ≤ l.length ∧ ∀ k o, l[k]? = some o →
    (∀ e, e ∈ o.after.toList → Region.binds .any e = true → e.on < k) ∧
    (∀ i, i ∈ (clOf l).getD k [] → ∃ e, e ∈ o.after.toList ∧ Region.binds .any e = true ∧ (e.on = i ∨ i ∈ (clOf l).getD e.on [])) ∧
    (∀ g, o.guard = some g → (k < T → g.1 < T) ∧ (T ≤ k → T ≤ g.1)) ∧ (T ≤ k → ∀ i, i < T → i ∈ (clOf l).getD k []) := by
  unfold catB at h
  simp only [Bool.and_eq_true] at h
  obtain ⟨h1, h2⟩ := h
  refine ⟨Nat.le_of_ble_eq_true h1, fun k o ho => ?_⟩
  have hk : k < l.length := (List.getElem?_eq_some_iff.1 ho).1
  have h3 := List.all_eq_true.1 h2 k (by simpa [idxs] using hk)
  rw [ho] at h3
  simp only [Bool.and_eq_true] at h3
  obtain ⟨⟨⟨a, b⟩, c⟩, d⟩ := h3
  refine ⟨fun e he hb => ?_, fun i hi => ?_, fun g hg => ?_, fun hT i hi => ?_⟩
  · have := List.all_eq_true.1 a e he
    rw [hb] at this
    simpa [Nat.blt_eq] using this
  · have := List.all_eq_true.1 b i hi
    obtain ⟨e, he, hh⟩ := List.any_eq_true.1 this
    simp only [Bool.and_eq_true, Bool.or_eq_true] at hh
    refine ⟨e, he, hh.1, ?_⟩
    rcases hh.2 with q | q
    · exact .inl (Nat.eq_of_beq_eq_true q)
    · exact .inr (by simpa using q)
  · rw [hg] at c
    simp only at c
    refine ⟨fun q => ?_, fun q => ?_⟩
    · rw [if_pos (by simpa [Nat.blt_eq] using q)] at c; simpa [Nat.blt_eq] using c
    · rw [if_neg (by simp [Nat.blt_eq]; omega)] at c; exact Nat.le_of_ble_eq_true c
  · simp only [Bool.or_eq_true] at d
    rcases d with q | q
    · have : k < T := by simpa [Nat.blt_eq] using q
      omega
    · simpa using List.all_eq_true.1 q i (by simpa [idxs] using hi)
theorem mem_ready {ops : Array Oper} {listed : Array Bool} {i : Nat} : i ∈ Region.ready .any ops listed ↔ ∃ o, ops[i]? = some o ∧ listed.getD i true = false ∧ ∀ e, e ∈ o.after.toList → Region.binds .any e = true → listed.getD e.on false = true := by
  unfold Region.ready
  simp only [List.mem_filter, List.mem_range, Bool.and_eq_true, Bool.not_eq_true']
  constructor
  · rintro ⟨h1, h2, h3⟩
    refine ⟨ops[i], by simp [h1], h2, fun e he hb => ?_⟩
    have hok : ops[i]? = some ops[i] := by simp [h1]
    rw [hok] at h3
    simp only [Option.map_some, Option.getD_some] at h3
    have := Array.all_eq_true_iff_forall_mem.1 h3 e (by simpa using he)
    rw [hb] at this
    simpa using this
  · rintro ⟨o, h1, h2, h3⟩
    have hi : i < ops.size := (Array.getElem?_eq_some_iff.1 h1).1
    refine ⟨hi, h2, ?_⟩
    rw [h1]
    simp only [Option.map_some, Option.getD_some]
    refine Array.all_eq_true_iff_forall_mem.2 fun e he => ?_
    cases hb : Region.binds .any e with
    | false => rfl
    | true => simp [h3 e (by simpa using he) hb]
section
variable {P : Program} {F : Fence} {n : Nat} {Q X : Exit → Act → World → Prop}
theorem upon_then {o : Oper} {a : Act} {X : Act → World → Prop} {K : Act → World → Prop} : ∀ {r : Result Next}, o.uponIn F n P a K (Exit.then X Q) r → o.uponIn F n P a K Q r := by
  intro r h
  cases r with
  | ok x w' =>
    cases x <;> first
      | exact h
      | exact ⟨h.1, CallsIn.mono h.2 (fun e w'' he => by cases e <;> first | exact he | exact ⟨_,_, he.choose_spec.choose_spec⟩)⟩
      | exact ⟨h.1, RoundIn.mono h.2 (fun e w'' he => by cases e <;> first | exact he | exact ⟨_,_, he.choose_spec.choose_spec⟩)⟩
  | halt x w' => cases x <;> exact h
theorem wpIn_then {o : Oper} {a : Act} {w : World} {X : Act → World → Prop} {K : Act → World → Prop} (h : o.wpIn F n P a w K (Exit.then X Q)) : o.wpIn F n P a w K Q := ⟨h.1, upon_then h.2⟩
theorem any_more {ops : Array Oper} : ∀ {fuel : Nat} {listed : Array Bool} {a : Act} {w : World}, wpAnyIn F n P .any ops Q fuel listed a w → wpAnyIn F n P .any ops Q (fuel + 1) listed a w
  | 0, listed, a, w, h => ⟨fun _ => h.2, fun i hi => by rw [h.1] at hi; cases hi⟩
  | fuel + 1, listed, a, w, h => ⟨h.1, fun i hi => wpOpIn_mono (fun a w => any_more) (h.2 i hi)⟩
theorem any_add {ops : Array Oper} {fuel : Nat} {listed : Array Bool} {a : Act} {w : World} (h : wpAnyIn F n P .any ops Q fuel listed a w) : ∀ k, wpAnyIn F n P .any ops Q (fuel + k) listed a w
  | 0 => h
  | k + 1 => any_more (any_add h k)
theorem get_B {l : List Oper} {T k : Nat} : ((l.drop T).map (shOp T)).toArray[k]? = (l[T + k]?).map (shOp T) := by simp
theorem getD_some {b : Array Bool} {i : Nat} {d v : Bool} (h : b[i]? = some v) : b.getD i d = v := by simp [Array.getD_eq_getD_getElem?, h]
theorem getD_eq {b c : Array Bool} {i j : Nat} {d : Bool} (h : b[i]? = c[j]?) : b.getD i d = c.getD j d := by simp [Array.getD_eq_getD_getElem?, h]
theorem ready_B {l : List Oper} {T : Nat} (hc : catB l T = true) {listedB listed : Array Bool} (h1 : ∀ i, i < T → listed[i]? = some true) (h2 : ∀ i, i < l.length - T → listed[T + i]? = listedB[i]?) {i : Nat} : i ∈ Region.ready .any l.toArray listed ↔ ∃ k, i = T + k ∧ k ∈ Region.ready .any ((l.drop T).map (shOp T)).toArray listedB := by
  obtain ⟨hT, hops⟩ := catB_spec hc
  constructor
  · intro hi
    obtain ⟨o, ho, hn, he⟩ := mem_ready.1 hi
    have ho' : l[i]? = some o := by simpa using ho
    have hil : i < l.length := (List.getElem?_eq_some_iff.1 ho').1
    have hTi : T ≤ i := by
      rcases Nat.lt_or_ge i T with q | q
      · rw [getD_some (h1 i q)] at hn; cases hn
      · exact q
    refine ⟨i - T, by omega, mem_ready.2 ⟨shOp T o, ?_, ?_, ?_⟩⟩
    · rw [get_B, show T + (i - T) = i by omega, ho']; rfl
    · rw [← getD_eq (h2 (i - T) (by omega)), show T + (i - T) = i by omega]; exact hn
    · intro e hee hb
      simp only [shOp, List.mem_map, List.mem_filter] at hee
      obtain ⟨e0, ⟨m0, m1⟩, rfl⟩ := hee
      have hlt := (hops i o ho').1 e0 m0 hb
      have hTe := Nat.le_of_ble_eq_true m1
      have := he e0 m0 hb
      rw [← getD_eq (h2 (e0.on - T) (by omega)), show T + (e0.on - T) = e0.on by omega]; exact this
  · rintro ⟨k, rfl, hk⟩
    obtain ⟨o', ho, hn, he⟩ := mem_ready.1 hk
    rw [get_B] at ho
    obtain ⟨o, ho', rfl⟩ := Option.map_eq_some_iff.1 ho
    have hil : T + k < l.length := (List.getElem?_eq_some_iff.1 ho').1
    refine mem_ready.2 ⟨o, by simpa using ho', by rw [getD_eq (h2 k (by omega))]; exact hn, fun e m hb => ?_⟩
    rcases Nat.lt_or_ge e.on T with q | q
    · exact getD_some (h1 _ q)
    · have hlt := (hops _ o ho').1 e m hb
      have := he { e with on := e.on - T } (by
        simp only [shOp, List.mem_map, List.mem_filter]
        exact ⟨e, ⟨m, Nat.ble_eq_true_of_le q⟩, rfl⟩) hb
      have h3 := h2 (e.on - T) (by omega)
      rw [show T + (e.on - T) = e.on by omega] at h3
      rw [getD_eq h3]; exact this
theorem wpOp_B {l : List Oper} {T k : Nat} (hc : catB l T = true) {K K' : Act → World → Prop} {a : Act} {w : World} (hK : ∀ a w, K a w → K' a w) (h : wpOpIn F n P ((l.drop T).map (shOp T)).toArray Q k K a w) : wpOpIn F n P l.toArray Q (T + k) K' a w := by
  obtain ⟨hT, hops⟩ := catB_spec hc
  refine wpOpIn_mono hK ?_
  unfold wpOpIn at *
  rw [get_B] at h
  have e0 : l.toArray[T + k]? = l[T + k]? := by simp
  rw [e0]
  cases ho : l[T + k]? with
  | none => rw [ho] at h; exact h
  | some o =>
    rw [ho] at h
    simp only [Option.map_some] at h ⊢
    have hw : Region.wanted (shOp T o) (yielded ((l.drop T).map (shOp T)).toArray a.tmps) = Region.wanted o (yielded l.toArray a.tmps) := by
      unfold Region.wanted
      cases hg : o.guard with
      | none => simp [shOp, hg]
      | some g =>
        have hTg := ((hops _ o ho).2.2.1 g hg).2 (by omega)
        simp only [shOp, hg, Option.map_some]
        have : yielded ((l.drop T).map (shOp T)).toArray a.tmps (g.1 - T) = yielded l.toArray a.tmps g.1 := by
          unfold yielded
          rw [get_B, show T + (g.1 - T) = g.1 by omega]
          have e1 : l.toArray[g.1]? = l[g.1]? := by simp
          rw [e1]
          cases l[g.1]? <;> rfl
        rw [this]
    rw [hw] at h
    exact h
theorem any_B {l : List Oper} {T : Nat} (hc : catB l T = true) : ∀ {fuel : Nat} {listedB listed : Array Bool} {a : Act} {w : World}, listed.size = l.length → listedB.size = l.length - T → (∀ i, i < T → listed[i]? = some true) → (∀ i, i < l.length - T → listed[T + i]? = listedB[i]?) → wpAnyIn F n P .any ((l.drop T).map (shOp T)).toArray Q fuel listedB a w → wpAnyIn F n P .any l.toArray Q fuel listed a w := by
  intro fuel
  have emp : ∀ {listedB listed : Array Bool}, (∀ i, i < T → listed[i]? = some true) → (∀ i, i < l.length - T → listed[T + i]? = listedB[i]?) → (Region.ready .any l.toArray listed = [] ↔ Region.ready .any ((l.drop T).map (shOp T)).toArray listedB = []) := fun h1 h2 => by
    simp only [List.eq_nil_iff_forall_not_mem]
    exact ⟨fun h k hk => h (T + k) ((ready_B hc h1 h2).2 ⟨k, rfl, hk⟩), fun h i hi => by obtain ⟨k,_, hk⟩ := (ready_B hc h1 h2).1 hi; exact h k hk⟩
  induction fuel with
  | zero => intro listedB listed a w _ _ h1 h2 h; exact ⟨(emp h1 h2).2 h.1, h.2⟩
  | succ fuel ih =>
    intro listedB listed a w s1 s2 h1 h2 h
    refine ⟨fun hr => h.1 ((emp h1 h2).1 hr), fun i hi => ?_⟩
    obtain ⟨k, rfl, hk⟩ := (ready_B hc h1 h2).1 hi
    have hkl : k < l.length - T := by
      obtain ⟨o, ho,_⟩ := mem_ready.1 hk
      have := (Array.getElem?_eq_some_iff.1 ho).1
      simpa using this
    refine wpOp_B hc (fun a w hh => ih (by simpa using s1) (by simpa using s2) ?_ ?_ hh) (h.2 k hk)
    · intro j hj
      rw [Array.getElem?_setIfInBounds_ne (by omega)]; exact h1 j hj
    · intro j hj
      by_cases q : j = k
      · subst q
        rw [Array.getElem?_setIfInBounds_self_of_lt (by omega), Array.getElem?_setIfInBounds_self_of_lt (by omega)]
      · rw [Array.getElem?_setIfInBounds_ne (by omega), Array.getElem?_setIfInBounds_ne (by omega)]; exact h2 j hj
theorem any_A {l : List Oper} {T : Nat} (hc : catB l T = true) {Y : Act → World → Prop} (hY : ∀ a w, Y a w → wpAnyIn F n P .any ((l.drop T).map (shOp T)).toArray Q (l.length - T) (Array.replicate (l.length - T) false) a w) : ∀ {fuel : Nat} {listedA listed : Array Bool} {a : Act} {w : World}, listed.size = l.length → listedA.size = T → (∀ i, i < T → listed[i]? = listedA[i]?) → (∀ i, T ≤ i → i < l.length → listed[i]? = some false) → (∀ j, listedA[j]? = some true → ∀ i, i ∈ (clOf l).getD j [] → listedA[i]? = some true) →
    wpAnyIn F n P .any (l.take T).toArray (Exit.then Y Q) fuel listedA a w → wpAnyIn F n P .any l.toArray Q (fuel + (l.length - T)) listed a w := by
  obtain ⟨hT, hops⟩ := catB_spec hc
  have getA : ∀ {i : Nat}, i < T → (l.take T).toArray[i]? = l[i]? := fun {i} hi => by simp [List.getElem?_take, hi]
  -- all of the first part are done: the second part
  have fin : ∀ {fuel : Nat} {listedA listed : Array Bool} {a : Act} {w : World}, listed.size = l.length → (∀ i, i < T → listed[i]? = listedA[i]?) → (∀ i, T ≤ i → i < l.length → listed[i]? = some false) → (∀ i, i < T → listedA[i]? = some true) → Y a w → wpAnyIn F n P .any l.toArray Q (fuel + (l.length - T)) listed a w := fun s1 h1 h2 hall hy => by
    rw [Nat.add_comm]
    refine any_add (any_B hc s1 (by simp) (fun i hi => by rw [h1 i hi]; exact hall i hi) (fun i hi => ?_) (hY _ _ hy)) _
    rw [h2 (T + i) (by omega) (by omega), Array.getElem?_replicate, if_pos hi]
  have rdyA : ∀ {listedA : Array Bool}, listedA.size = T → Region.ready .any (l.take T).toArray listedA = [] → ∀ i, i < T → listedA[i]? = some true := fun hs hr => by
    have := ready_all (l := l.take T) (by simp [hs]; omega) (fun k o ho e he hb => by
      have hk : k < T := by
        have := (List.getElem?_eq_some_iff.1 ho).1
        simp at this; omega
      rw [List.getElem?_take, if_pos hk] at ho
      exact (hops k o ho).1 e he hb) hr
    intro i hi; exact this i (by simp; omega)
  intro fuel
  induction fuel with
  | zero =>
    intro listedA listed a w s1 s2 h1 h2 hcl h
    exact fin s1 h1 h2 (rdyA s2 h.1) h.2
  | succ fuel ih =>
    intro listedA listed a w s1 s2 h1 h2 hcl h
    by_cases hall : ∀ i, i < T → listedA[i]? = some true
    · refine fin s1 h1 h2 hall (h.1 ?_)
      rw [List.eq_nil_iff_forall_not_mem]
      intro i hi
      obtain ⟨o, ho, hn,_⟩ := mem_ready.1 hi
      have hil := (Array.getElem?_eq_some_iff.1 ho).1
      rw [getD_some (hall i (by simp at hil; omega))] at hn; cases hn
    · have small : ∀ i, i ∈ Region.ready .any l.toArray listed → i < T := fun i hi => by
        rcases Nat.lt_or_ge i T with q | q
        · exact q
        · exfalso
          apply hall
          obtain ⟨o, ho, hn, he⟩ := mem_ready.1 hi
          have ho' : l[i]? = some o := by simpa using ho
          have hil := (List.getElem?_eq_some_iff.1 ho').1
          intro j hj
          obtain ⟨e, m, hb, hh⟩ := (hops i o ho').2.1 j ((hops i o ho').2.2.2 q j hj)
          have hd := he e m hb
          have hlt := (hops i o ho').1 e m hb
          have hle : e.on < T := by
            rcases Nat.lt_or_ge e.on T with r | r
            · exact r
            · rw [getD_some (h2 e.on r (by omega))] at hd; cases hd
          have hda : listedA[e.on]? = some true := by
            rw [← h1 e.on hle]
            cases q2 : listed[e.on]? with
            | none => rw [Array.getD_eq_getD_getElem?, q2] at hd; cases hd
            | some b => rw [getD_some q2] at hd; rw [hd]
          rcases hh with r | r
          · rw [← r]; exact hda
          · exact hcl _ hda j r
      show wpAnyIn F n P .any l.toArray Q (fuel + 1 + (l.length - T)) listed a w
      rw [show fuel + 1 + (l.length - T) = (fuel + (l.length - T)) + 1 by omega]
      refine ⟨fun hr => ?_, fun i hi => ?_⟩
      · exfalso
        apply hall
        have := ready_all (l := l) s1 (fun k o ho e he hb => (hops k o ho).1 e he hb) hr
        intro i hi
        rw [← h1 i hi]; exact this i (by omega)
      · have hiT := small i hi
        obtain ⟨o, ho, hn, he⟩ := mem_ready.1 hi
        have ho' : l[i]? = some o := by simpa using ho
        have hiA : i ∈ Region.ready .any (l.take T).toArray listedA := by
          refine mem_ready.2 ⟨o, by rw [getA hiT]; exact ho', by rw [← getD_eq (h1 i hiT)]; exact hn, fun e m hb => ?_⟩
          have hlt := (hops i o ho').1 e m hb
          rw [← getD_eq (h1 e.on (by omega))]; exact he e m hb
        have hA := h.2 i hiA
        have hstep : wpOpIn F n P l.toArray Q i (wpAnyIn F n P .any (l.take T).toArray (Exit.then Y Q) fuel (listedA.setIfInBounds i true)) a w := by
          unfold wpOpIn at *
          rw [getA hiT, ho'] at hA
          rw [ho]
          simp only at hA ⊢
          have hw : Region.wanted o (yielded (l.take T).toArray a.tmps) = Region.wanted o (yielded l.toArray a.tmps) := by
            unfold Region.wanted
            cases hg : o.guard with
            | none => rfl
            | some g =>
              have := ((hops _ o ho').2.2.1 g hg).1 hiT
              have hy : yielded (l.take T).toArray a.tmps g.1 = yielded l.toArray a.tmps g.1 := by
                unfold yielded
                rw [getA this]
                have e1 : l.toArray[g.1]? = l[g.1]? := by simp
                rw [e1]
              simp only [hy]
          rw [hw] at hA
          by_cases hx : Region.wanted o (yielded l.toArray a.tmps) = true
          · rw [if_pos hx] at hA ⊢; exact wpIn_then hA
          · rw [if_neg hx] at hA ⊢; exact hA
        refine wpOpIn_mono (fun a w hh => ih (by simpa using s1) (by simpa using s2) ?_ ?_ ?_ hh) hstep
        · intro j hj
          by_cases q : j = i
          · subst q
            rw [Array.getElem?_setIfInBounds_self_of_lt (by omega), Array.getElem?_setIfInBounds_self_of_lt (by omega)]
          · rw [Array.getElem?_setIfInBounds_ne (by omega), Array.getElem?_setIfInBounds_ne (by omega)]; exact h1 j hj
        · intro j hj hjl
          rw [Array.getElem?_setIfInBounds_ne (by omega)]; exact h2 j hj hjl
        · intro j hj k hk
          have hiz : i < listedA.size := by omega
          rw [get_set_true hiz] at hj ⊢
          rcases hj with r | r
          · subst r
            obtain ⟨e, m, hb, hh⟩ := (hops j o ho').2.1 k hk
            have hlt := (hops j o ho').1 e m hb
            have hda : listedA[e.on]? = some true := by
              have hd := he e m hb
              rw [← h1 e.on (by omega)]
              cases q2 : listed[e.on]? with
              | none => rw [Array.getD_eq_getD_getElem?, q2] at hd; cases hd
              | some b => rw [getD_some q2] at hd; rw [hd]
            rcases hh with r | r
            · rw [← r]; exact .inr hda
            · exact .inr (hcl _ hda k r)
          · exact .inr (hcl _ r k hk)
end
section
variable {P : Program} {ro : Option Nat} {β : Bs} {ds : List Deferred} {N : Nat} {J : Nat → List Res} {Q : Exit → Act → World → Prop} {env : Env} {L : List Res}
theorem VA.draw {env env' : Env} {l : List Oper} {Q : Exit → Act → World → Prop} (h : LL P β N l.toArray L l env env') (hc : chk l = true) (k : VE β N ds env' L .normal Q) :
    ∀ a w, Ag N ds env a → St β L w → wpAnyIn (Wf ro) 0 P .any l.toArray Q l.toArray.size (Array.replicate l.toArray.size false) a w := by
  intro a w ha hw
  obtain ⟨vs, h1, rfl, h3⟩ := h.pairs
  have key : ∀ fuel listed a w, DrInv N ds β L (clOf l) vs env listed a w → (∀ k, k < vs.length → listed[k]? ≠ some true → 0 < fuel) → ((List.range vs.length).filter fun k => !(listed[k]? == some true)).length ≤ fuel → wpAnyIn (Wf ro) 0 P .any l.toArray Q fuel listed a w := by
    intro fuel
    induction fuel with
    | zero =>
      intro listed a w hI h0 _
      have hall : ∀ k, k < vs.length → listed[k]? = some true := fun k hk => Classical.byContradiction fun hn => by have := h0 k hk hn; omega
      refine ⟨?_, k _ _ (hI.end_ hall) hI.st⟩
      simp only [Region.ready, List.filter_eq_nil_iff, List.mem_range, Bool.and_eq_true, Bool.not_eq_true', not_and]
      intro i hi hf
      have := hall i (by rw [h1]; simpa using hi)
      simp [this] at hf
    | succ fuel ih =>
      intro listed a w hI h0 hcnt
      refine ⟨fun hr => ?_, fun i hi => ?_⟩
      · refine k _ _ (hI.end_ ?_) hI.st
        have : ∀ n k, k = n → k < vs.length → listed[k]? = some true := by
          intro n
          induction n using Nat.strongRecOn with
          | _ n ihn =>
            rintro k rfl hk
            refine Classical.byContradiction fun hn => ?_
            have hkl : k < l.length := by omega
            have hnm : k ∉ Region.ready .any l.toArray listed := by rw [hr]; simp
            apply hnm
            simp only [Region.ready, List.mem_filter, List.mem_range, Bool.and_eq_true, Bool.not_eq_true']
            refine ⟨by simpa using hkl, ?_, ?_⟩
            · cases q : listed[k]? with
              | none =>
                have : k < listed.size := by rw [hI.lsz]; exact hk
                simp [this] at q
              | some b => cases b with
                | true => exact absurd q hn
                | false => simp [q]
            · have hok : l.toArray[k]? = some l[k] := by simp [hkl]
              simp only [hok, Option.map_some, Option.getD_some]
              refine Array.all_eq_true_iff_forall_mem.2 fun e he => ?_
              cases hb : Region.binds .any e with
              | false => rfl
              | true =>
                have hlt := (chk_spec hc (k := k) (o := l[k]) (by simp [hkl])).1 e (by simpa using he) hb
                have := ihn e.on hlt e.on rfl (by omega)
                simp [this]
        exact fun k hk => this k k rfl hk
      · refine hI.step hc h1 h3 hi fun a' w' hI' => ih _ _ _ hI' ?_ ?_
        · intro k hk hn
          rcases Nat.eq_zero_or_pos fuel with e | e
          · exfalso
            subst e
            simp only [Region.ready, List.mem_filter, List.mem_range, Bool.and_eq_true, Bool.not_eq_true'] at hi
            have hiz : i < listed.size := by rw [hI.lsz, h1]; simpa using hi.1
            rw [Ne, get_set_true hiz, not_or] at hn
            have hni : listed[i]? ≠ some true := fun e => by have h2 := hi.2.1; simp [e] at h2
            have hil : i < vs.length := by rw [h1]; simpa using hi.1
            have m1 : i ∈ (List.range vs.length).filter fun k => !(listed[k]? == some true) := by simp [hil, hni]
            have m2 : k ∈ (List.range vs.length).filter fun k => !(listed[k]? == some true) := by simp [hk, hn.2]
            match hf : (List.range vs.length).filter fun k => !(listed[k]? == some true), hcnt with
            | [],_ => rw [hf] at m1; simp at m1
            | [x],_ => rw [hf] at m1 m2; simp at m1 m2; exact hn.1 (by omega)
            | _ :: _ :: _, hcnt => simp at hcnt
          · exact e
        · simp only [Region.ready, List.mem_filter, List.mem_range, Bool.and_eq_true, Bool.not_eq_true'] at hi
          have hiz : i < listed.size := by rw [hI.lsz, h1]; simpa using hi.1
          have hni : listed[i]? ≠ some true := fun e => by have h2 := hi.2.1; simp [e] at h2
          have hil : i < vs.length := by rw [h1]; simpa using hi.1
          have hlt : ((List.range vs.length).filter fun k => !((listed.setIfInBounds i true)[k]? == some true)).length < ((List.range vs.length).filter fun k => !(listed[k]? == some true)).length := by
            refine filter_lt (i := i) ?_ (by simp [hil]) ?_ ?_
            · intro k hk
              simp only [Bool.not_eq_true', beq_eq_false_iff_ne, ne_eq] at hk ⊢
              exact fun e => hk ((get_set_true hiz).2 (.inr e))
            · simpa using hni
            · simp [hiz]
          omega
  refine key _ _ _ _ ⟨by simp [h1], ha.size, ha.dfr, hw, ?_, ?_, ?_⟩ ?_ ?_
  · intro j hj
    simp [Array.getElem?_replicate] at hj
  · intro t k v hk hl
    simp [Array.getElem?_replicate] at hl
  · intro t _ v hv
    exact ha.get t v hv
  · intro k hk _
    rw [h1] at hk
    simpa using Nat.lt_of_le_of_lt (Nat.zero_le _) hk
  · refine Nat.le_trans (List.length_filter_le _ _) ?_
    simp [h1]
theorem VA.drawH (js : List (List Nat)) (ms : List (Option Nat)) {env env' : Env} {L : List Res} {l : List Oper} (hc : chkH l ms js = true) (h0 : js.getD 0 [] = List.range L.length)
    (h : LX P β N l.toArray (fun m => sel L (js.getD m [])) l ms env env') (k : HX P β N ds (fun m => sel L (js.getD m [])) Q 0 l ms env' L) :
    ∀ a w, Ag N ds env a → St β L w → wpAnyIn (Wf ro) 0 P .any l.toArray Q l.toArray.size (Array.replicate l.toArray.size false) a w := by
  intro a w ha hw
  obtain ⟨V, hV1, hV2⟩ := h.vals
  obtain ⟨hlen, hjn, hjs, hops⟩ := chkH_spec hc
  subst hV1
  have key : ∀ fuel listed p eh L' a w, Hv P β N ds (fun m => sel L (js.getD m [])) Q l ms V env listed p eh L' a w → (∀ k, k < l.length → listed[k]? ≠ some true → 0 < fuel) → ((List.range l.length).filter fun k => !(listed[k]? == some true)).length ≤ fuel → wpAnyIn (Wf ro) 0 P .any l.toArray Q fuel listed a w := by
    intro fuel
    induction fuel with
    | zero =>
      intro listed p eh L' a w hI h0 _
      have hall : ∀ k, k < l.length → listed[k]? = some true := fun k hk => Classical.byContradiction fun hn => by have := h0 k hk hn; omega
      refine ⟨?_, hI.end_ hlen hall⟩
      simp only [Region.ready, List.filter_eq_nil_iff, List.mem_range, Bool.and_eq_true, Bool.not_eq_true', not_and]
      intro i hi hf
      have := hall i (by simpa using hi)
      simp [this] at hf
    | succ fuel ih =>
      intro listed p eh L' a w hI h0 hcnt
      refine ⟨fun hr => hI.end_ hlen (ready_all hI.lsz (fun k o ho => (hops k o ho).1) hr), fun i hi => ?_⟩
      refine hI.step (ChkS.of hc) (Nat.zero_le _) rfl hV2 hi fun p' eh' L'' a' w' _ hI' => ih _ _ _ _ _ _ hI' ?_ ?_
      · intro k hk hn
        rcases Nat.eq_zero_or_pos fuel with e | e
        · exfalso
          subst e
          simp only [Region.ready, List.mem_filter, List.mem_range, Bool.and_eq_true, Bool.not_eq_true'] at hi
          have hil : i < l.length := by simpa using hi.1
          have hiz : i < listed.size := by rw [hI.lsz]; exact hil
          rw [Ne, get_set_true hiz, not_or] at hn
          have hni : listed[i]? ≠ some true := fun e => by have h2 := hi.2.1; simp [e] at h2
          have m1 : i ∈ (List.range l.length).filter fun k => !(listed[k]? == some true) := by simp [hil, hni]
          have m2 : k ∈ (List.range l.length).filter fun k => !(listed[k]? == some true) := by simp [hk, hn.2]
          match hf : (List.range l.length).filter fun k => !(listed[k]? == some true), hcnt with
          | [],_ => rw [hf] at m1; simp at m1
          | [x],_ => rw [hf] at m1 m2; simp at m1 m2; exact hn.1 (by omega)
          | _ :: _ :: _, hcnt => simp at hcnt
        · exact e
      · simp only [Region.ready, List.mem_filter, List.mem_range, Bool.and_eq_true, Bool.not_eq_true'] at hi
        have hil : i < l.length := by simpa using hi.1
        have hiz : i < listed.size := by rw [hI.lsz]; exact hil
        have hni : listed[i]? ≠ some true := fun e => by have h2 := hi.2.1; simp [e] at h2
        have hlt : ((List.range l.length).filter fun k => !((listed.setIfInBounds i true)[k]? == some true)).length < ((List.range l.length).filter fun k => !(listed[k]? == some true)).length := by
          refine filter_lt (i := i) ?_ (by simp [hil]) ?_ ?_
          · intro k hk
            simp only [Bool.not_eq_true', beq_eq_false_iff_ne, ne_eq] at hk ⊢
            exact fun e => hk ((get_set_true hiz).2 (.inr e))
          · simpa using hni
          · simp [hiz]
        omega
  have hnone : ∀ j : Nat, (Array.replicate l.toArray.size false)[j]? ≠ some true := by
    intro j hj
    simp [Array.getElem?_replicate] at hj
  refine key _ _ 0 [] L _ _ ⟨by simp, ha.size, ha.dfr, hw, ?_, by omega, ?_, ?_, ?_, ?_, ?_, ?_, ?_, ?_⟩ ?_ ?_
  · intro w hw
    have : rank ms 0 = 0 := by simp [rank]
    rw [this]
    simp only [h0]
    refine hw.sel _ ?_
    have := hjn 0
    rwa [h0] at this
  · simpa [rank] using k
  · intro i _ _
    exact ⟨fun e => absurd e (hnone i), fun e => by omega⟩
  · intro j hj; exact absurd hj (hnone j)
  · intro t v hv; simp [ev1] at hv
  · intro t _ i hi; omega
  · intro t ht; simp [ev1] at ht
  · intro t k _ _ _ _ hl; exact absurd hl (hnone k)
  · intro t _ _ v hv; exact ha.get t v hv
  · intro k hk _
    simpa using Nat.lt_of_le_of_lt (Nat.zero_le _) hk
  · refine Nat.le_trans (List.length_filter_le _ _) ?_
    simp
/-! ### Operations that lay a new block -/
theorem VC.drawCat (T : Nat) {id : Nat} {l : List Oper} (hm : P.follows .mixedOrders = true) (hc : catB l T = true)
    (h : ∀ a w, Ag N ds env a → St β L w → wpAnyIn (Wf ro) 0 P .any (l.take T).toArray (Exit.then (wpAnyIn (Wf ro) 0 P .any ((l.drop T).map (shOp T)).toArray Q ((l.drop T).map (shOp T)).toArray.size (Array.replicate ((l.drop T).map (shOp T)).toArray.size false)) Q) (l.take T).toArray.size (Array.replicate (l.take T).toArray.size false) a w) :
    VC P ro β N ds env L (.region id l.toArray true) Q := by
  intro a w ha hw
  obtain ⟨hT,_⟩ := catB_spec hc
  refine wpIn_region_any hm ?_
  have h1 := h a { w with drawn := w.drawn + 1 } ha (hw.drew _)
  have s1 : (l.take T).toArray.size = T := by simp; omega
  have s2 : ((l.drop T).map (shOp T)).toArray.size = l.length - T := by simp
  rw [s1, s2] at h1
  have := any_A hc (fun a w h => h) (listed := Array.replicate l.length false) (by simp) (by simp) (fun i hi => by rw [Array.getElem?_replicate, Array.getElem?_replicate, if_pos (by omega), if_pos hi]) (fun i _ hi => by rw [Array.getElem?_replicate, if_pos hi]) (fun j hj => by simp [Array.getElem?_replicate] at hj) h1
  rw [show T + (l.length - T) = l.length by omega] at this
  simpa using this
theorem VE.any {l : List Oper} {m : Nat} {ls : Array Bool} (h : ∀ a w, Ag N ds env a → St β L w → wpAnyIn (Wf ro) 0 P .any l.toArray Q m ls a w) : VE β N ds env L .normal (Exit.then (wpAnyIn (Wf ro) 0 P .any l.toArray Q m ls) Q) := fun a w ha hw => h a w ha hw
end
end Go.SL
namespace Go.SL
set_option linter.unusedVariables false
set_option linter.unusedSimpArgs false
open Go.RowKit
section
variable {P : Program}
def flatA (P : Program) : Nat → TypeId → Option Nat
  | 0,_ => none
  | f + 1, T =>
    match P.underlying T with
    | some (.int .i64) => if (P.info? T).map (·.size) = some 1 then some 1 else none
    | some (.struct fs) =>
      if P.stoodInHeld T then none else
      match fs.toList.foldlM (fun (o : Nat) F => if F.name = "_" || F.offset ≠ o then none else (flatA P f F.type).map (o + ·)) 0 with
      | some n => if (P.info? T).map (·.size) = some n then some n else none
      | none => none
    | some (.array n E) =>
      match flatA P f E with
      | some z => if P.cellsOf E = z ∧ (P.info? E).map (·.size) = some z ∧ (P.info? T).map (·.size) = some (n * z) then some (n * z) else none
      | none => none
    | _ => none
def valA (P : Program) (T : TypeId) («as» : List Int) : Value := match P.underlying T with
  | some (.struct _) => .agg («as».map intV).toArray
  | some (.array _ _) => .agg («as».map intV).toArray
  | _ => («as».map intV).head?.getD undef
theorem part_A {f : Nat} {T n : Nat} (h : flatA P f T = some n) {«as» : List Int} {o : Nat} (ho : o + n ≤ «as».length) (w : World) :
    (part T («as».map intV).toArray o).run P w = .ok (valA P T ((«as».drop o).take n)) w := by
  cases f with
  | zero => simp [flatA] at h
  | succ f =>
    unfold flatA at h
    unfold valA
    split at h
    · rename_i hu
      split at h
      · rename_i hs
        cases h
        have h1 : IsOne P T := ⟨⟨_, hu, rfl⟩, hs⟩
        have hlt : o < «as».length := by omega
        have e : («as».drop o).take 1 = [«as»[o]] := by
          rw [List.drop_eq_getElem_cons hlt]; rfl
        simp [part, run_isOne h1, hu, e, hlt]
      · cases h
    · rename_i fs hu
      split at h
      · cases h
      · split at h
        · rename_i n' _
          split at h
          · rename_i hs
            cases h
            have h1 : IsAgg P T n := ⟨⟨_, hu, rfl⟩, hs⟩
            simp only [part, Sem.run_bind, run_isAgg h1, Result.andThen_ok, run_size hs, if_true, Sem.run_pure, hu]
            congr 2
            apply Array.ext'
            simp [List.map_drop, List.map_take, List.extract]
          · cases h
        · cases h
    · rename_i k E hu
      split at h
      · rename_i z hz
        split at h
        · rename_i hs
          cases h
          have h1 : IsAgg P T (k * z) := ⟨⟨_, hu, rfl⟩, hs.2.2⟩
          simp only [part, Sem.run_bind, run_isAgg h1, Result.andThen_ok, run_size hs.2.2, if_true, Sem.run_pure, hu]
          congr 2
          apply Array.ext'
          simp [List.map_drop, List.map_take, List.extract]
        · cases h
      · cases h
    · cases h
theorem eqFields_A {f dd : Nat} (ih : ∀ {T n : Nat}, flatA P f T = some n → ∀ {«as» bs : List Int}, «as».length = n → bs.length = n → ∀ w, (Op.equalIn dd T (valA P T «as») (valA P T bs)).run P w = .ok (decide («as» = bs)) w) :
    ∀ (fs : List Field) (o n : Nat), fs.foldlM (fun (o : Nat) F => if F.name = "_" || F.offset ≠ o then none else (flatA P f F.type).map (o + ·)) o = some n → ∀ {«as» bs : List Int}, «as».length = n → bs.length = n → o ≤ n → ∀ w,
      (Op.eqFields dd («as».map intV).toArray (bs.map intV).toArray fs).run P w = .ok (decide («as».drop o = bs.drop o)) w
  | [], o, n, h, «as», bs, ha, hb, ho, w => by
    simp at h
    subst h
    simp [Op.eqFields, List.drop_of_length_le (Nat.le_of_eq ha), List.drop_of_length_le (Nat.le_of_eq hb)]
  | F :: fs, o, n, h, «as», bs, ha, hb, ho, w => by
    simp only [List.foldlM_cons] at h
    by_cases hc : (F.name = "_" || F.offset ≠ o) = true
    · rw [if_pos hc] at h; simp at h
    · simp only [hc, Bool.false_eq_true, if_false] at h
      simp only [Bool.or_eq_true, decide_eq_true_eq, not_or, ne_eq, Classical.not_not] at hc
      obtain ⟨hn, hoff⟩ := hc
      cases hf : flatA P f F.type with
      | none => simp [hf] at h
      | some m =>
        simp only [hf, Option.map_some] at h
        replace h : List.foldlM (fun (o : Nat) F => if F.name = "_" || F.offset ≠ o then none else (flatA P f F.type).map (o + ·)) (o + m) fs = some n := h
        have hle : o + m ≤ n := foldl_le fs (o + m) n h
        simp only [Op.eqFields, hn, ne_eq, not_false_eq_true, if_true, Sem.run_bind, hoff]
        rw [part_A hf (by omega) w]
        simp only [Result.andThen_ok]
        rw [part_A hf (by omega) w]
        simp only [Result.andThen_ok]
        rw [ih hf (by simp; omega) (by simp; omega) w]
        simp only [Result.andThen_ok]
        have sp : ∀ l : List Int, l.drop o = (l.drop o).take m ++ l.drop (o + m) := by
          intro l
          have := List.take_append_drop m (l.drop o)
          rw [List.drop_drop] at this
          exact this.symm
        by_cases e : («as».drop o).take m = (bs.drop o).take m
        · simp only [e, decide_true, Bool.not_true, Bool.false_eq_true, if_false]
          rw [eqFields_A ih fs (o + m) n h ha hb hle w]
          congr 2
          apply propext
          rw [sp «as», sp bs, e]
          simp
        · simp only [e, decide_false, Bool.not_false, if_true, Sem.run_pure]
          congr 1
          symm
          rw [decide_eq_false_iff_not]
          intro q
          exact e (by rw [q])
where
  foldl_le : ∀ (fs : List Field) (o n : Nat), fs.foldlM (fun (o : Nat) F => if F.name = "_" || F.offset ≠ o then none else (flatA P f F.type).map (o + ·)) o = some n → o ≤ n
    | [], o, n, h => by simp at h; omega
    | F :: fs, o, n, h => by
      simp only [List.foldlM_cons] at h
      by_cases hc : (F.name = "_" || F.offset ≠ o) = true
      · rw [if_pos hc] at h; simp at h
      · simp only [hc, Bool.false_eq_true, if_false] at h
        cases hf : flatA P f F.type with
        | none => simp [hf] at h
        | some m =>
          simp only [hf, Option.map_some] at h
          have := foldl_le fs (o + m) n h
          omega
theorem eqItems_A {f dd : Nat} {E z : Nat} (ih : ∀ {«as» bs : List Int}, «as».length = z → bs.length = z → ∀ w, (Op.equalIn dd E (valA P E «as») (valA P E bs)).run P w = .ok (decide («as» = bs)) w) (hE : flatA P f E = some z) {«as» bs : List Int} :
    ∀ (m i : Nat), «as».length = (i + m) * z → bs.length = (i + m) * z → ∀ w, (Op.eqItems dd E z («as».map intV).toArray (bs.map intV).toArray ((List.range m).map (i + ·))).run P w = .ok (decide («as».drop (i * z) = bs.drop (i * z))) w
  | 0, i, ha, hb, w => by
    simp at ha hb
    simp [Op.eqItems, List.drop_of_length_le (Nat.le_of_eq ha), List.drop_of_length_le (Nat.le_of_eq hb)]
  | m + 1, i, ha, hb, w => by
    have e0 : (List.range (m + 1)).map (i + ·) = i :: (List.range m).map (i + 1 + ·) := by
      rw [List.range_succ_eq_map]
      simp [Function.comp_def, Nat.add_assoc, Nat.add_comm 1]
    have hz1 : i * z + z ≤ «as».length := by rw [ha, Nat.add_mul, Nat.add_mul]; omega
    have hz2 : i * z + z ≤ bs.length := by rw [hb, Nat.add_mul, Nat.add_mul]; omega
    rw [e0]
    simp only [Op.eqItems, Sem.run_bind]
    rw [part_A hE hz1 w]
    simp only [Result.andThen_ok]
    rw [part_A hE hz2 w]
    simp only [Result.andThen_ok]
    rw [ih (by simp; omega) (by simp; omega) w]
    simp only [Result.andThen_ok]
    have sp : ∀ l : List Int, l.drop (i * z) = (l.drop (i * z)).take z ++ l.drop ((i + 1) * z) := by
      intro l
      have := List.take_append_drop z (l.drop (i * z))
      rw [List.drop_drop] at this
      rw [Nat.add_mul, Nat.one_mul]
      exact this.symm
    by_cases e : («as».drop (i * z)).take z = (bs.drop (i * z)).take z
    · simp only [e, decide_true, Bool.not_true, Bool.false_eq_true, if_false]
      rw [eqItems_A ih hE m (i + 1) (by rw [ha]; congr 1; omega) (by rw [hb]; congr 1; omega) w]
      congr 2
      apply propext
      rw [sp «as», sp bs, e]
      simp
    · simp only [e, decide_false, Bool.not_false, if_true, Sem.run_pure]
      congr 1
      symm
      rw [decide_eq_false_iff_not]
      intro q
      exact e (by rw [q])
theorem equalIn_A : ∀ (f : Nat) {T n : Nat}, flatA P f T = some n → ∀ {«as» bs : List Int}, «as».length = n → bs.length = n → ∀ dd, f ≤ dd → ∀ w, (Op.equalIn dd T (valA P T «as») (valA P T bs)).run P w = .ok (decide («as» = bs)) w
  | 0, T, n, h,_,_,_,_,_,_,_ => by simp [flatA] at h
  | f + 1, T, n, h, «as», bs, ha, hb, dd, hd, w => by
    obtain ⟨dd, rfl⟩ : ∃ d', dd = d' + 1 := ⟨dd - 1, by omega⟩
    unfold flatA at h
    unfold valA
    split at h
    · rename_i hu
      split at h
      · cases h
        match «as», bs, ha, hb with
        | [a], [b],_,_ =>
          simp only [hu, List.map_cons, List.map_nil, List.head?_cons, Option.getD_some, intV]
          rw [run_equalIn_int w dd T .i64 .i64 a b hu]
          congr 1
          simp [BEq.beq]
      · cases h
    · rename_i fs hu
      split at h
      · cases h
      · rename_i hs
        split at h
        · rename_i n' hf
          split at h
          · cases h
            have hfs : P.fieldsOf T = fs := by simp [Program.fieldsOf, hu]
            simp only [hu]
            rw [run_equalIn_struct w dd T _ _ (by rw [hfs]; exact hu) (by simpa using hs), hfs]
            have := eqFields_A (P := P) (f := f) (dd := dd) (fun {T n} h2 {«as» bs} h3 h4 w => equalIn_A f h2 h3 h4 dd (by omega) w) fs.toList 0 n hf ha hb (by omega) w
            simpa using this
          · cases h
        · cases h
    · rename_i k E hu
      split at h
      · rename_i z hz
        split at h
        · rename_i hs
          cases h
          obtain ⟨hc, hsz,_⟩ := hs
          obtain ⟨i, hi,_⟩ : ∃ i, P.info? E = some i ∧ i.size = z := by
            cases q : P.info? E with
            | none => simp [q] at hsz
            | some i => exact ⟨i, rfl, by simpa [q] using hsz⟩
          simp only [hu]
          rw [run_equalIn_array w dd _ _ hu hi, hc]
          have := eqItems_A (P := P) (f := f) (dd := dd) (E := E) (z := z) (fun {«as» bs} h3 h4 w => equalIn_A f hz h3 h4 dd (by omega) w) hz («as» := «as») (bs := bs) k 0 (by rw [ha]; simp) (by rw [hb]; simp) w
          simpa using this
        · cases h
      · cases h
    · cases h
def FlatA (P : Program) (T n : Nat) : Prop := (∃ d, P.underlying T = some d ∧ (match d with | .struct _ | .array _ _ => true | _ => false) = true) ∧ flatA P 20 T = some n ∧ P.eqGuardType P.depth T = false
variable {ro : Option Nat} {β : Bs} {N : Nat} {ds : List Deferred} {env : Env} {L : List Res} {Q : Exit → Act → World → Prop}
variable {d : Option Nat} {ty : TypeId} {pos : String} {aft : Array Edge} {g : Option (Nat × Bool)}
theorem valA_agg {T n : Nat} (hT : FlatA P T n) («as» : List Int) : valA P T «as» = .agg («as».map intV).toArray := by
  obtain ⟨⟨d, hu, hd⟩,_⟩ := hT
  unfold valA; rw [hu]; cases d <;> simp_all
theorem LO.neA {x y : Operand} {T yT n : Nat} {«as» bs : List Int} (hT : FlatA P T n) (hx : OV env x (.agg («as».map intV).toArray)) (hy : OV env y (.agg (bs.map intV).toArray)) (ha : Nat.beq «as».length n = true) (hb : Nat.beq bs.length n = true) : LO P β env L ⟨d, .binOp .neq T x y yT, ty, pos, aft, g⟩ (.bool (!decide («as» = bs))) :=
  .of_run fun a w h hw => ⟨w, by
    have h1 := equalIn_A (P := P) 20 hT.2.1 («as» := «as») (bs := bs) (Nat.eq_of_beq_eq_true ha) (Nat.eq_of_beq_eq_true hb) 10000 (by decide) w
    rw [valA_agg hT, valA_agg hT] at h1
    simp only [execOp, h x (by simp [Op.operands]) _ hx, h y (by simp [Op.operands]) _ hy, Sem.run_bind, run_eqGuard_agg w .neq T x y _ _ hT.2.2, Result.andThen_ok, run_neq_struct, h1, Sem.run_pure], hw⟩
end
section
variable {P : Program} {ro : Option Nat} {β : Bs} {N : Nat} {ds : List Deferred} {env : Env} {L : List Res} {Q : Exit → Act → World → Prop}
variable {ty : TypeId} {pos : String} {aft : Array Edge}
theorem rows_flat {w : World} {z : Nat} {q : Option Addr} {rs : List (List Value)} (h : Go.SL.Rows w z q rs) (hz : ∀ r ∈ rs, r.length = z) (k : Nat) (v : Value) (hk : rs.flatten[k]? = some v) : w.cell? ((⟨pb q, po q, none⟩ : Addr).add k) = some v := by
  have hz0 : 0 < z := by
    rcases Nat.eq_zero_or_pos z with e | e
    · have : rs.flatten.length = 0 := by rw [flatten_len hz, e, Nat.mul_zero]
      rw [List.getElem?_eq_none (by omega)] at hk; cases hk
    · exact e
  have hkl : k < rs.flatten.length := by
    rcases Nat.lt_or_ge k rs.flatten.length with e | e
    · exact e
    · rw [List.getElem?_eq_none e] at hk; cases hk
  rw [flatten_len hz] at hkl
  have hj : k / z < rs.length := Nat.div_lt_of_lt_mul (by rw [Nat.mul_comm]; exact hkl)
  have hm : k % z < z := Nat.mod_lt _ hz0
  have hr := List.getElem?_eq_getElem hj
  have hrz : rs[k / z].length = z := hz _ (List.getElem_mem hj)
  have hv := List.getElem?_eq_getElem (l := rs[k / z]) (i := k % z) (by omega)
  have e := flatten_row hz hr hv
  have hdm : k / z * z + k % z = k := by have := Nat.div_add_mod k z; rw [Nat.mul_comm] at this; exact this
  rw [hdm, hk] at e
  cases e
  have := h.cells _ _ hr _ _ hv
  have e1 : (⟨pb q, po q + k / z * z, none⟩ : Addr).add (k % z) = ⟨pb q, po q + k, none⟩ := by
    rw [show po q + k = po q + k / z * z + k % z by omega]
    unfold Addr.add; split <;> simp_all
  have e2 : (⟨pb q, po q, none⟩ : Addr).add k = ⟨pb q, po q + k, none⟩ := by
    unfold Addr.add; split <;> simp_all
  rw [e1] at this; rw [e2]; exact this
theorem first_rows {w : World} {z : Nat} {q : Option Addr} {rs : List (List Value)} {c : Nat} (h : Go.SL.Rows w z q rs) (hz : ∀ r ∈ rs, r.length = z) : (Builtin.firstCells z rs.length (.slice q rs.length c)).run P w = .ok rs.flatten.toArray w := by
  cases q with
  | none => have := h.nil rfl; subst this; simp [Builtin.firstCells]
  | some a =>
    by_cases hne : rs = []
    · subst hne
      have := run_loadCells_list (P := P) w a [] (fun k v hk => by simp at hk)
      simpa [Builtin.firstCells] using this
    · have hs := h.spot hne a rfl
      have ea : a = ⟨pb (some a), po (some a), none⟩ := by cases a; simp_all [pb, po]
      have := run_loadCells_list (P := P) w a rs.flatten (fun k v hk => by rw [ea]; exact rows_flat h hz k v hk)
      simp only [Builtin.firstCells, ← flatten_len hz]
      exact this
theorem rows_drew {w : World} {z : Nat} {q : Option Addr} {rs : List (List Value)} (h : Go.SL.Rows w z q rs) : Go.SL.Rows w.drew z q rs := ⟨h.cells, h.nil, h.spot⟩
theorem run_appendN {w : World} (hw : St β L w) (i : Nat) {T T' ty E z by_ : Nat} {zero : Value} {p q : Option Addr} {cap c2 : Nat} {rows rs : List (List Value)} (hT : IsSlice P T E) (hT' : IsSlice P T' E) (hE : EInfo P E z by_ zero)
    (hi : L[i]? = some (own E z p cap rows)) (hq : Go.SL.Rows w z q rs) (hr : ∀ r ∈ rs, r.length = z) (h1 : ∀ r ∈ rs, allOne r = true) (hn : (2 * (rows.length + rs.length) + 768) * by_ ≤ 281474976710656) {aT : Array TypeId} (ha0 : aT[0]? = some T) (ha1 : aT[1]? = some T') :
    ∃ p' cap' w', (Builtin.append_ aT ty #[.slice p rows.length cap, .slice q rs.length c2]).run P w = .ok (.slice p' (rows.length + rs.length) cap') w' ∧ St β (L.set i (own E z p' cap' (rows ++ rs))) w' ∧ (rs ≠ [] → p' ≠ none) ∧ (p ≠ none → p' ≠ none) := by
  obtain ⟨hz, hby, hze, hzz, hb0⟩ := hE
  obtain ⟨o1, o2, o3, o4⟩ := hw.inv i _ hi
  obtain ⟨ti, hti, htb⟩ := run_bytes hby w
  have hnew : (Builtin.firstCells z rs.length (.slice q rs.length c2)).run P w = .ok rs.flatten.toArray w := first_rows hq hr
  have hhas : ∀ r' ∈ rows ++ rs, r'.length = z := by
    intro r' hr'
    rcases List.mem_append.1 hr' with q | q
    · exact o2 r' q
    · exact hr r' q
  have hu' : (underlying T').run P w = .ok (.slice E) w := run_underlying hT' w
  have hu : (underlying T).run P w = .ok (.slice E) w := run_underlying hT w
  have hone : ∀ u ∈ rs.flatten, u.oneCell' = true := by
    intro u hu
    obtain ⟨r, hr', hu'⟩ := List.mem_flatten.1 hu
    exact allOne_spec (h1 r hr') u hu'
  have hni : ¬ ((rows.length + rs.length : Nat) : Int) > IntKind.i64.max := by
    have : rows.length + rs.length ≤ 281474976710656 := by
      have : (2 * (rows.length + rs.length) + 768) * 1 ≤ (2 * (rows.length + rs.length) + 768) * by_ := Nat.mul_le_mul_left _ hb0
      omega
    have hm : IntKind.i64.max = 9223372036854775807 := rfl
    rw [hm]
    omega
  have hlt : i < L.length := by
    rcases Nat.lt_or_ge i L.length with h' | h'
    · exact h'
    · simp [List.getElem?_eq_none h'] at hi
  have hfl := flatten_len o2
  have hfl2 := flatten_len hr
  by_cases hc : rows.length + rs.length ≤ cap
  · -- there is room
    cases p with
    | none =>
      have h3 := o3 rfl
      have e1 : rows = [] := h3.1
      have e2 : rs = [] := by
        have : rs.length = 0 := by omega
        exact List.length_eq_zero_iff.1 this
      subst e1; subst e2
      have e3 : cap = 0 := h3.2
      subst e3
      refine ⟨none, 0, w, ?_, ?_, by simp, by simp⟩
      · have : (Builtin.firstCells z 0 (.slice q 0 c2)).run P w = .ok #[] w := by simpa using hnew
        simp [Builtin.append_, ha0, ha1, hu, hu', run_size hz, Builtin.lenOf, this]
      · have e : L.set i (own E z none 0 ([] ++ [])) = L := by
          have e0 : own E z none 0 ([] ++ []) = own E z none 0 [] := rfl
          rw [e0]
          refine List.ext_getElem? fun k => ?_
          by_cases ek : k = i
          · subst ek; rw [List.getElem?_set_self hlt, hi]
          · rw [List.getElem?_set_ne (Ne.symm ek)]
        rw [e]; exact hw
    | some a =>
      obtain ⟨g1, g2, C, spare, g3, g4, g5⟩ := o4 a rfl
      have hadd : a.add (rows.length * z) = ⟨a.block, rows.length * z, none⟩ := add0 g1 g2 _
      have hfit : rows.length * z + rs.flatten.length ≤ C.size := by
        rw [g5, hfl2]
        have := Nat.mul_le_mul_right z hc
        rw [Nat.add_mul] at this; omega
      have hst := run_storeCells_at P a.block (rows.length * z) E rs.flatten 0 C w g3 (by simpa using hfit) hone
      simp only [Nat.add_zero] at hst
      refine ⟨some a, cap, w.setRow a.block (C.toList.take (rows.length * z) ++ rs.flatten ++ C.toList.drop (rows.length * z + rs.flatten.length)).toArray, ?_, ?_, by simp, by simp⟩
      · simp only [Builtin.append_, ha0, ha1, Sem.run_bind, List.getElem?_toArray, List.getElem?_cons_zero, List.getElem?_cons_succ, hu, hu', run_size hz, Builtin.lenOf, Result.andThen_ok, Sem.run_pure, Bool.false_eq_true, if_false, Bool.not_false, if_true, hc, hnew, hadd, hst]
      · have hw1 := hw.conv i (r' := blk a.block (.cells C E)) hi (fun k hk => ⟨by simp, hk⟩) g3
        have hi1 : (L.set i (blk a.block (.cells C E)))[i]? = some (blk a.block (.cells C E)) := by simp [hlt]
        have hw2 := hw1.setRow (C' := (C.toList.take (rows.length * z) ++ rs.flatten ++ C.toList.drop (rows.length * z + rs.flatten.length)).toArray) hi1
        rw [List.set_set] at hw2
        have hi2 : (L.set i (blk a.block (.cells (C.toList.take (rows.length * z) ++ rs.flatten ++ C.toList.drop (rows.length * z + rs.flatten.length)).toArray E)))[i]? = some (blk a.block (.cells (C.toList.take (rows.length * z) ++ rs.flatten ++ C.toList.drop (rows.length * z + rs.flatten.length)).toArray E)) := by simp [hlt]
        have hfin : (own E z (some a) cap (rows ++ rs)).inv (w.setRow a.block (C.toList.take (rows.length * z) ++ rs.flatten ++ C.toList.drop (rows.length * z + rs.flatten.length)).toArray) := by
          refine ⟨by simp; omega, hhas, fun h => (by cases h), fun a' ha' => ?_⟩
          cases ha'
          refine ⟨g1, g2,_, C.toList.drop (rows.length * z + rs.flatten.length), hw2.inv i _ hi2, ?_, ?_⟩
          · have : C.toList.take (rows.length * z) = rows.flatten := by rw [g4, List.take_append_of_le_length (by omega), List.take_of_length_le (by omega)]
            simp [this]
          · have := hfit
            simp only [List.size_toArray, List.length_append, List.length_take, List.length_drop, Array.length_toList]
            rw [← g5]; omega
        have hw3 := hw2.conv (r' := own E z (some a) cap (rows ++ rs)) i hi2 (fun k hk => hk.2) hfin
        rwa [List.set_set] at hw3
  · -- a new array
    have hcap : ¬ rows.length + rs.length ≤ cap := hc
    have hncap : ¬ (Builtin.nextslicecap (rows.length + rs.length) cap * ti.bytes > 2 ^ 48) := by
      have h2 := nextcap_le (need := rows.length + rs.length) (cap := cap) (by omega)
      have h3 := Nat.mul_le_mul_right by_ h2
      rw [htb]; omega
    generalize hcc : Question.cut (.appendCap (rows.length + rs.length) cap E) (w.tape w.drawn (.appendCap (rows.length + rs.length) cap E)) = cap'
    have hge : rows.length + rs.length ≤ cap' := by rw [← hcc]; simp [Question.cut]
    have hrows : Go.SL.Rows w z p rows := own_rows hw i hi
    have hold : (Builtin.firstCells z rows.length (.slice p rows.length cap)).run P w.drew = .ok rows.flatten.toArray w.drew := first_rows (rows_drew hrows) o2
    have hnew' : (Builtin.firstCells z rs.length (.slice q rs.length c2)).run P w.drew = .ok rs.flatten.toArray w.drew := first_rows (rows_drew hq) hr
    have hti' : (typeInfo E).run P w.drew = .ok ti w.drew := by
      cases hq : P.info? E with
      | none => simp [typeInfo, hq] at hti
      | some i => simp [typeInfo, hq] at hti ⊢; exact hti
    refine ⟨some ⟨w.heap.size, 0, none⟩, cap', (World.alloc w.drew (.cells (rows.flatten.toArray ++ rs.flatten.toArray ++ Builtin.zeroCells zero.cells (cap' - (rows.length + rs.length))) E)), ?_, ?_, by simp, by simp⟩
    · have hb1 : ti.bytes ≠ 0 := by omega
      have hncap' : ¬ (281474976710656 < Builtin.nextslicecap (rows.length + rs.length) cap * ti.bytes) := by omega
      simp [Builtin.append_, ha0, ha1, hu, hu', run_size hz, Builtin.lenOf, hcap, hti, hb1, hncap', Question.forced, hcc, hti', hold, hnew', run_zero hze, newRow]
      congr 2
      apply Array.ext'
      simp
    · have hw' := (hw.drew (w.drawn + 1) : St β L w.drew).alloc (.cells (rows.flatten.toArray ++ rs.flatten.toArray ++ Builtin.zeroCells zero.cells (cap' - (rows.length + rs.length))) E)
      have hm : St β (L.set i (blk w.heap.size (.cells (rows.flatten.toArray ++ rs.flatten.toArray ++ Builtin.zeroCells zero.cells (cap' - (rows.length + rs.length))) E))) (World.alloc w.drew (.cells (rows.flatten.toArray ++ rs.flatten.toArray ++ Builtin.zeroCells zero.cells (cap' - (rows.length + rs.length))) E)) := by
        refine hw'.map (fun k => if k = i then 0 else k + 1) ?_ ?_
        · intro a b hab _ _
          by_cases e1 : a = i <;> by_cases e2 : b = i <;> simp [e1, e2] <;> omega
        · intro k s hs
          right
          by_cases e : k = i
          · subst e; simp [hlt] at hs; simp [hs]
          · rw [List.getElem?_set_ne (Ne.symm e)] at hs
            simp [e, hs]
      have hi2 : (L.set i (blk w.heap.size (.cells (rows.flatten.toArray ++ rs.flatten.toArray ++ Builtin.zeroCells zero.cells (cap' - (rows.length + rs.length))) E)))[i]? = some (blk w.heap.size (.cells (rows.flatten.toArray ++ rs.flatten.toArray ++ Builtin.zeroCells zero.cells (cap' - (rows.length + rs.length))) E)) := by simp [hlt]
      have hfin : (own E z (some ⟨w.heap.size, 0, none⟩) cap' (rows ++ rs)).inv (World.alloc w.drew (.cells (rows.flatten.toArray ++ rs.flatten.toArray ++ Builtin.zeroCells zero.cells (cap' - (rows.length + rs.length))) E)) := by
        refine ⟨by simp; omega, hhas, fun h => (by cases h), fun a' ha' => ?_⟩
        cases ha'
        refine ⟨rfl, rfl,_, (Builtin.zeroCells zero.cells (cap' - (rows.length + rs.length))).toList, hm.inv i _ hi2, by simp, ?_⟩
        simp only [Array.size_append, List.size_toArray, hfl, hfl2, zeroCells_size, hzz]
        rw [← Nat.add_mul, ← Nat.add_mul]
        congr 1; omega
      have := hm.conv (r' := own E z (some ⟨w.heap.size, 0, none⟩) cap' (rows ++ rs)) i hi2 (fun k hk => hk.2) hfin
      rwa [List.set_set] at this
variable {dd : Option Nat}
theorem HO.appN {α : Type} {f : α → List Value} {l m : List α} (i : Nat) (LF : Res → List Res) {K : Value → List Res → Prop} {x y : Operand} {T T' E z by_ : Nat} {aT : Array TypeId} {zero : Value} {p q : Option Addr} {n n2 cap c2 : Nat} (hT : IsSlice P T E) (hT' : IsSlice P T' E) (hE : EInfo P E z by_ zero) (hx : OV env x (.slice p n cap)) (hy : OV env y (.slice q n2 c2))
    (hi : L[i]? = some (own E z p cap (l.map f))) (hq : ∀ w, St β L w → Go.SL.Rows w z q (m.map f)) (hz : ∀ a, (f a).length = z) (h1 : ∀ a, allOne (f a) = true) (ha0 : aT[0]? = some T) (ha1 : aT[1]? = some T') (hL : ∀ R : Res, L.set i R = LF R) (hn : n = l.length) (hn2 : n2 = m.length) (hs : (2 * (n + n2) + 768) * by_ ≤ 281474976710656)
    (k : ∀ p' cap', (m ≠ [] ∨ p ≠ none → p' ≠ none) → K (.slice p' (n + n2) cap') (LF (own E z p' cap' ((l ++ m).map f)))) : HO P β env L ⟨dd, .call ⟨.builtin .append, #[x, y], aT⟩, ty, pos, aft, none⟩ K := by
  intro a w h hw
  subst hn; subst hn2
  obtain ⟨p', cap', w', h2, h3, h4, h5⟩ := run_appendN (ty := ty) (c2 := c2) hw i hT hT' hE hi (hq w hw) (by intro r hr; obtain ⟨b,_, rfl⟩ := List.mem_map.1 hr; exact hz b) (by intro r hr; obtain ⟨b,_, rfl⟩ := List.mem_map.1 hr; exact h1 b) (by simpa using hs) ha0 ha1
  refine .inl ⟨_, w',_,_, ?_, .inl rfl, k p' cap' (fun q => q.elim (fun e => h4 (by simpa using e)) h5), ?_⟩
  · have ex : a.eval x = .slice p l.length cap := by obtain ⟨u, hu, e⟩ := hx; subst e; exact h x (by simp [Op.operands, Call.operands]) _ hu
    have ey : a.eval y = .slice q m.length c2 := by obtain ⟨u, hu, e⟩ := hy; subst e; exact h y (by simp [Op.operands, Call.operands]) _ hu
    simp only [List.length_map] at h2
    simp [execOp, resolve, invoke, builtin, ex, ey, h2]
  · rw [List.map_append, ← hL]; exact h3
end
end Go.SL
namespace Go.SL
set_option linter.unusedVariables false
open Go.RowKit Go.ChangeShapes Go.WideShapes Go.WideElems
section
variable {H : Type} {enc : TypeId × Value → H} {P : Program} {W : World} {base : Nat}
def RD (enc : TypeId × Value → H) (P : Program) (W : World) (t : TypeId) (R : List Value → Prop) : Prop :=
  ∀ (n : Nat) (cs : List Value) (x : DataW H × List MemPlace), DataW.trod enc P W 0 (fun _ => true) true n t cs = some x → R cs
theorem RD.mono {t : TypeId} {R S : List Value → Prop} (h : RD enc P W t R) (k : ∀ cs, R cs → S cs) : RD enc P W t S := fun n cs x hx => k cs (h n cs x hx)
def kb (k : IntKind) (n : Int) : Prop := k.min ≤ n ∧ n ≤ k.max
theorem RD.int {t : TypeId} {k : IntKind} (ht : P.underlying t = some (.int k)) : RD enc P W t fun cs => ∃ n, cs = [.int k n] ∧ kb k n := fun n cs x hx => by
  obtain ⟨m, h,_, hw⟩ := DataW.trod_int ht hx
  simp only [Lit.wf, Bool.and_eq_true, decide_eq_true_eq] at hw
  exact ⟨m, h, hw⟩
theorem RD.string {t : TypeId} (ht : P.underlying t = some .string) : RD enc P W t fun cs => ∃ s : ByteArray, cs = [.string s] ∧ s.size ≤ maxLen := fun n cs x hx => by
  obtain ⟨b, h, h2⟩ := DataW.trod_string ht hx
  exact ⟨b, h, by simp_all⟩
def splitBy {α : Type} : List Nat → List α → List (List α)
  | [],_ => []
  | z :: zs, l => l.take z :: splitBy zs (l.drop z)
theorem splitBy_flat {α : Type} : ∀ (zs : List Nat) (l : List α), l.length = zs.sum → (splitBy zs l).flatten = l
  | [], l, h => by simp at h; simp [splitBy, h]
  | z :: zs, l, h => by
    simp only [List.sum_cons] at h
    rw [splitBy, List.flatten_cons, splitBy_flat zs (l.drop z) (by simp; omega), List.take_append_drop]
theorem splitBy_len {α : Type} : ∀ (zs : List Nat) (l : List α), l.length = zs.sum → (splitBy zs l).map List.length = zs
  | [], l, h => rfl
  | z :: zs, l, h => by
    simp only [List.sum_cons] at h
    rw [splitBy, List.map_cons, splitBy_len zs (l.drop z) (by simp; omega), List.length_take, Nat.min_eq_left (by omega)]
theorem splitBy_get {α : Type} : ∀ (zs : List Nat) (l : List α) (i z : Nat) (c : List α), zs[i]? = some z → (splitBy zs l)[i]? = some c → c = (l.drop (zs.take i).sum).take z
  | [], l, i, z, c, h, k => by simp at h
  | y :: zs, l, i, z, c, h, k => by
    cases i with
    | zero => simp at h; simp [splitBy] at k; subst h; subst k; simp
    | succ i =>
      have := splitBy_get zs (l.drop y) i z c (by simpa using h) (by simpa [splitBy] using k)
      rw [this, List.drop_drop]
      simp only [List.take_succ_cons, List.sum_cons]
def offs : Nat → List Nat → List Nat
  | _, [] => []
  | o, z :: zs => o :: offs (o + z) zs
theorem offs_get : ∀ (zs : List Nat) (o i : Nat) (a : Nat), (offs o zs)[i]? = some a → a = o + (zs.take i).sum
  | [], o, i, a, h => by simp [offs] at h
  | z :: zs, o, i, a, h => by
    cases i with
    | zero => simp [offs] at h; simp [h]
    | succ i =>
      have := offs_get zs (o + z) i a (by simpa [offs] using h)
      rw [this, List.take_succ_cons, List.sum_cons]; omega
theorem trod_parts {t : TypeId} {fs : List Field} {zs : List Nat} {n : Nat} {cs : List Value} {x : DataW H × List MemPlace} (ht : P.underlying t = some (.struct fs.toArray)) (hz : fs.map (fun f => P.cellsOf f.type) = zs) (ho : fs.map (·.offset) = offs 0 zs) (hs : P.cellsOf t = zs.sum)
    (h : DataW.trod enc P W 0 (fun _ => true) true n t cs = some x) :
    ∃ css : List (List Value), cs = css.flatten ∧ css.length = zs.length ∧ css.map List.length = zs ∧ ∀ (i : Nat) (f : Field) (c : List Value), fs[i]? = some f → css[i]? = some c → ∃ m y, DataW.trod enc P W 0 (fun _ => true) true m f.type c = some y := by
  obtain ⟨xs, m,_,_, hl, hlen, hf⟩ := DataW.trod_struct ht h
  refine ⟨splitBy zs cs, (splitBy_flat zs cs (by omega)).symm, by simpa using congrArg List.length (splitBy_len zs cs (by omega)), splitBy_len zs cs (by omega), fun i f c h1 h2 => ?_⟩
  have hi : i < fs.length := (List.getElem?_eq_some_iff.1 h1).1
  have e1 : zs[i]? = some (P.cellsOf f.type) := by rw [← hz, List.getElem?_map, h1]; rfl
  have e2 : f.offset = (zs.take i).sum := by
    have : (offs 0 zs)[i]? = some f.offset := by rw [← ho, List.getElem?_map, h1]; rfl
    have := offs_get zs 0 i _ this
    omega
  have e3 := splitBy_get zs cs i _ c e1 h2
  have e4 := hf i f (by simpa using h1)
  have hx : i < xs.length := by simp at hlen; omega
  rw [List.getElem?_eq_getElem hx, e2, ← e3] at e4
  exact ⟨m,_, e4⟩
theorem cells?_spec {w : World} {a : Addr} {n : Nat} {cs : List Value} (h : w.cells? 0 a n = some cs) : cs.length = n ∧ Cells w a cs := by
  unfold World.cells? at h
  rw [if_pos (Nat.zero_le _)] at h
  have hl : cs.length = n := by simpa using mapM_some_length h
  refine ⟨hl, fun j v hj => ?_⟩
  have hjn : j < n := by rw [← hl]; exact (List.getElem?_eq_some_iff.1 hj).1
  have := mapM_some_get h j j (by simp [hjn])
  rw [this, hj]
theorem RD.slice {t e z : Nat} {R : List Value → Prop} (ht : P.underlying t = some (.slice e)) (hz : P.cellsOf e = z) (hz0 : 0 < z) (hR : RD enc P W e R) :
    RD enc P W t fun cs => ∃ (p : Option Addr) (cap : Nat) (rows : List (List Value)), cs = [.slice p rows.length cap] ∧ rows.length ≤ 9223372036854775807 ∧ Rows W z p rows ∧ ∀ r, r ∈ rows → r.length = z ∧ R r := fun n cs x hx => by
  rcases DataW.trod_slice ht hx with ⟨rfl,_⟩ | ⟨a, len, cap, elems, rest, m,_, rfl,_, hb, hl, hc, hlen, hel, hspare⟩
  · exact ⟨none, 0, [], rfl, by simp, ⟨by simp, fun _ => rfl, fun q => absurd rfl q⟩, by simp⟩
  · have hrow : ∀ i, i < len → ∃ r, W.cells? 0 (a.add (i * z)) z = some r ∧ ∃ y, DataW.trod enc P W 0 (fun _ => true) true m e r = some y := fun i hi => by
      have h1 := hel i hi
      rw [hz, List.getElem?_eq_getElem (by omega)] at h1
      obtain ⟨r, h2, h3⟩ := Option.bind_eq_some_iff.1 h1
      exact ⟨r, h2,_, h3⟩
    have hch : ∃ rows : List (List Value), rows.length = len ∧ ∀ i r, rows[i]? = some r → W.cells? 0 (a.add (i * z)) z = some r ∧ ∃ y, DataW.trod enc P W 0 (fun _ => true) true m e r = some y := by
      clear hel hlen hl hx hspare
      induction len with
      | zero => exact ⟨[], rfl, by simp⟩
      | succ k ih =>
        obtain ⟨rows, h1, h2⟩ := ih (fun i hi => hrow i (by omega))
        obtain ⟨r, h3, h4⟩ := hrow k (by omega)
        refine ⟨rows ++ [r], by simp [h1], fun i s hs => ?_⟩
        rcases Nat.lt_or_ge i rows.length with q | q
        · rw [List.getElem?_append_left q] at hs; exact h2 i s hs
        · have : i = rows.length := by
            have := (List.getElem?_eq_some_iff.1 hs).1
            simp at this; omega
          subst this
          simp at hs; subst hs
          rw [h1]; exact ⟨h3, h4⟩
    obtain ⟨rows, h1, h2⟩ := hch
    subst h1
    have spot : rows ≠ [] → a.spot = none := fun hne => by
      cases rows with
      | nil => exact absurd rfl hne
      | cons r rs =>
        obtain ⟨h3,_⟩ := h2 0 r rfl
        obtain ⟨h4, h5⟩ := cells?_spec h3
        have h6 := h5 0 _ (List.getElem?_eq_getElem (by omega))
        cases hs : a.spot with
        | none => rfl
        | some s =>
          exfalso
          have : ((a.add (0 * z)).add 0).spot = some s := by simp [Addr.add, hs]
          unfold World.cell? at h6
          rw [this] at h6
          split at h6 <;> simp at h6
    refine ⟨some a, cap, rows, rfl, by unfold maxLen at hc; omega, ⟨fun j r hr => ?_, fun q => (by cases q), fun q b hb => ?_⟩, fun r hr => ?_⟩
    · obtain ⟨h3,_⟩ := h2 j r hr
      have h5 := (cells?_spec h3).2
      have hsp := spot (fun q => by rw [q] at hr; simp at hr)
      have e : (⟨pb (some a), po (some a) + j * z, none⟩ : Addr) = a.add (j * z) := by
        obtain ⟨ab, ao, aspt⟩ := a
        have hsp : aspt = none := hsp
        subst hsp
        show (⟨ab, ao + j * z, none⟩ : Addr) = _
        unfold Addr.add
        split
        · rename_i h0; simp [h0]
        · rfl
      rw [e]; exact h5
    · cases hb
      exact spot q
    · obtain ⟨i, hi, e⟩ := List.getElem_of_mem hr
      obtain ⟨h3, y, h4⟩ := h2 i r (by rw [List.getElem?_eq_getElem hi, e])
      exact ⟨(cells?_spec h3).1, hR _ _ _ h4⟩
theorem rows_map {α : Type} {f : α → List Value} {Q : α → Prop} : ∀ {rows : List (List Value)}, (∀ r, r ∈ rows → ∃ x, r = f x ∧ Q x) → ∃ l : List α, rows = l.map f ∧ ∀ x, x ∈ l → Q x
  | [],_ => ⟨[], rfl, by simp⟩
  | r :: rs, h => by
    obtain ⟨l, h1, h2⟩ := rows_map (fun s hs => h s (by simp [hs])) (rows := rs)
    obtain ⟨x, h3, h4⟩ := h r (by simp)
    exact ⟨x :: l, by simp [h1, h3], fun y hy => by rcases List.mem_cons.1 hy with rfl | hy; exact h4; exact h2 y hy⟩
theorem RD.ints {t e : Nat} (ht : P.underlying t = some (.slice e)) (he : P.underlying e = some (.int .i64)) (hz : P.cellsOf e = 1) :
    RD enc P W t fun cs => ∃ (p : Option Addr) (cap : Nat) (l : List Int), cs = [.slice p l.length cap] ∧ l.length ≤ 9223372036854775807 ∧ Ints W p l ∧ ∀ n, n ∈ l → kb .i64 n :=
  (RD.slice ht hz (by decide) (RD.int he)).mono fun cs ⟨p, cap, rows, h1, h2, h3, h4⟩ => by
    obtain ⟨l, rfl, h5⟩ := rows_map (f := fun n => [Value.int .i64 n]) (Q := kb .i64) (fun r hr => (h4 r hr).2)
    exact ⟨p, cap, l, by simpa using h1, by simpa using h2, h3, h5⟩
/-! ### Arguments -/
theorem arg_one {t : TypeId} {v : Value} {R : List Value → Prop} (hn : ∀ fs, P.underlying t ≠ some (.struct fs)) (hn2 : ∀ n e, P.underlying t ≠ some (.array n e)) (hv : Value.okWide P W .any base t v) {d : DataW H} {p : List MemPlace} (hd : DataW.Trod enc P W 0 (fun _ => true) true t v d p) (hR : RD enc P W t R) : R [v] := by
  obtain ⟨n, hn'⟩ := hd
  have : v.cells = #[v] := by
    cases v <;> try rfl
    exfalso
    unfold Value.okWide at hv
    cases hu : P.underlying t with
    | none => rw [hu] at hv; simp [Cell.okWide, Cell.ok, hu] at hv
    | some u =>
      rw [hu] at hv
      cases u <;> first | exact hn _ hu | exact hn2 _ _ hu | simp [Cell.okWide, Cell.ok, hu] at hv
  rw [this] at hn'
  exact hR _ _ _ hn'
theorem arg_agg {t : TypeId} {fs : Array Field} {v : Value} {R : List Value → Prop} (ht : P.underlying t = some (.struct fs)) (hv : Value.okWide P W .any base t v) {d : DataW H} {p : List MemPlace} (hd : DataW.Trod enc P W 0 (fun _ => true) true t v d p) (hR : RD enc P W t R) : ∃ cs, v = .agg cs.toArray ∧ R cs := by
  obtain ⟨n, hn'⟩ := hd
  unfold Value.okWide at hv
  rw [ht] at hv
  obtain ⟨cs, rfl,_⟩ := hv
  exact ⟨cs.toList, by simp, hR _ _ _ hn'⟩
/-! ### The end -/
theorem trodAll_stays (hl : laidOutB P = true) {W' : World} {sp' : Nat → Bool} : ∀ {ts : List TypeId} {vs : List Value} {ds : List (DataW H)} {ps : List MemPlace}, (∀ t, t ∈ ts → P.readableRec t = true ∧ t < P.types.size) →
    DataW.TrodAll enc P W 0 (fun _ => true) true ts vs ds ps → (∀ p, p ∈ ps → W.sameAt W' p) → (∀ p, p ∈ ps → sp' p.block = true) → DataW.TrodAll enc P W' 0 sp' true ts vs ds ps
  | [], vs, ds, ps,_, h,_,_ => by
    obtain ⟨rfl, rfl, rfl⟩ := trodAll_nil h
    exact trodAll_mk0
  | t :: ts, vs, ds, ps, ht, h, h1, h2 => by
    obtain ⟨v, vs1, d, ds1, a, b, rfl, rfl, rfl, h3, h4⟩ := trodAll_cons h
    have := ht t (by simp)
    exact trodAll_cons_mk (Trod_stays hl this.1 this.2 h3 (fun p hp => h1 p (by simp [hp])) (fun p hp => h2 p (by simp [hp]))) (trodAll_stays hl (fun u hu => ht u (by simp [hu])) h4 (fun p hp => h1 p (by simp [hp])) (fun p hp => h2 p (by simp [hp])))
theorem law_post {fn : Func} {s : ChangeSpec} {apart fresh handsOn again : Bool} {W' : World} {args : Array Value} {ds gs : List (DataW H)} {before : List MemPlace} {tb : TypeId} (hl : laidOutB P = true) (hts : ∀ t, t ∈ fn.params.toList → P.readableRec t = true ∧ t < P.types.size)
    (hv : s.vars = []) (hr : fn.resultTypes = #[tb]) (hb : P.underlying tb = some .bool) (hs : ∀ ds : List (DataW H), ds.length = fn.params.toList.length → s.fn H ds = { results := [.lit (.bool true)], args := ds })
    (hW : DataW.Whole enc P fn.params.toList s.vars apart W args.toList ds gs before) (hst : St (bs W) [] W') : s.post enc P fn apart fresh handsOn again W args (.bool true) W' := by
  have hB : Below W.heap.size W W' := hst.below
  have hlt := hW.lt
  have hW0 := hW
  obtain ⟨p, q, hA, hV, rfl, hfz, hnd⟩ := hW
  rw [hv] at hV
  obtain ⟨rfl, rfl⟩ := trodVars_none hV
  rw [hv] at hW0
  have hd : ds.length = fn.params.toList.length := (trodAll_length hA).2
  have e : s.fn H (ds ++ []) = { results := [.lit (.bool true)], args := ds } := by rw [List.append_nil]; exact hs ds hd
  have hargs : ∀ sp : Nat → Bool, (∀ x ∈ p, sp x.block = true) → DataW.TrodAll enc P W' 0 sp true fn.params.toList args.toList (s.fn H (ds ++ [])).args p := fun sp hsp => by
    rw [e]; exact trodAll_stays hl hts hA (fun x hx => hB.same (hlt x (by simpa using hx))) hsp
  have hres : ∀ (b : Nat) (sp : Nat → Bool) (hd : Bool), DataW.TrodAll enc P W' b sp hd fn.resultTypes.toList ((Value.bool true).resultList fn.resultTypes.size) (s.fn H (ds ++ [])).results [] := fun b sp hd => by
    rw [e, hr]; exact trodAll_cons_mk (shut_bool hb _) trodAll_mk0
  have hvars : ∀ sp : Nat → Bool, DataW.TrodVars enc P W' sp s.vars (s.fn H (ds ++ [])).vars [] := fun sp => by rw [e, hv]; rfl
  have hW1 : DataW.Whole enc P fn.params.toList s.vars apart W args.toList ds [] (p ++ []) := by rw [hv]; exact hW0
  refine ⟨ds, [], p ++ [], [], p, [], hW1, hres _ _ _, hargs _ (fun x hx => by simpa using hlt x (by simpa using hx)), hvars _, hB.frame _, fun _ => ?_⟩
  refine ⟨?_,_,_, ([] ++ p) ++ [], ⟨[] ++ p, [], trodAll_append (hargs _ (fun _ _ => rfl)) (hres _ _ _), hvars _, rfl, ?_, ?_⟩, ?_⟩
  · exact ok_one hr rfl (okWide_bool_mk hb _)
  · intro b off hp
    have hp' : MemPlace.cell b off ∈ p := by simpa using hp
    rw [hB.frozen (p := ⟨b, off, none⟩) (hlt (.cell b off) (by simpa using hp'))]
    exact hfz b off (by simpa using hp')
  · intro ha
    simpa using hnd ha
  · intro x hx _
    simpa using hx
end
section
variable {P : Program} {β : Bs} {env : Env} {L : List Res}
variable {ty : TypeId} {pos : String} {aft : Array Edge} {g : Option (Nat × Bool)}
def slFrom (p : Option Addr) (c l z : Nat) : Option Addr := if c = l then p else p.map (·.add (l * z))
theorem LO.sl {d : Option Nat} {x i : Operand} {T E z : Nat} {p : Option Addr} {n c l : Nat} {e : Int} (hT : IsSlice P T E) (hz : (P.info? E).map (·.size) = some z) (hx : OV env x (.slice p n c)) (hi : OV env i (.int .i64 e)) (he : e = (l : Int)) (hl : l ≤ n) :
    LO P β env L ⟨d, .slice T x (some i) none none, ty, pos, aft, g⟩ (.slice (slFrom p c l z) (n - l) (c - l)) :=
  .of_run fun a w h hw => ⟨w, by
    subst he
    have h1 : ((l : Int) ≤ (n : Int)) := by omega
    simp [execOp, h x (by simp [Op.operands]) _ hx, h i (by simp [Op.operands]) _ hi, Instr.sliceAt, run_underlying hT, Instr.slice, Instr.sliceBounds, Instr.sliceBound, asIntOf, hl, run_size hz, slFrom], hw⟩
end
section
variable {P : Program} {β : Bs} {env : Env} {L : List Res}
variable {ty : TypeId} {pos : String} {aft : Array Edge} {g : Option (Nat × Bool)}
end
def RO {α : Type} (z : Nat) (f : α → List Value) (w : World) (p : Option Addr) (l : List α) : Prop := Go.SL.Rows w z p (l.map f)
section
variable {α : Type} {z : Nat} {f : α → List Value} {w0 w : World} {p : Option Addr} {l : List α} {L : List Res} {β : Bs}
theorem RO.sm (h : RO z f w p l) : SlSome p l.length := Go.SL.Rows.some h (by simp)
theorem RO.keep (h : RO z f w0 p l) : ∀ w, St (bs w0) L w → RO z f w p l := Go.SL.Rows.keep h
theorem RO.here (h : RO z f w p l) (d : α) {j : Nat} (hj : j < l.length) : Cells w ⟨pb p, po p + j * z, none⟩ (f (l.getD j d)) :=
  Go.SL.Rows.cells h j _ (by rw [List.getElem?_map, List.getElem?_eq_getElem hj]; simp [List.getD, List.getElem?_eq_getElem hj])
theorem RO.at (h : RO z f w0 p l) (d : α) {j : Nat} (hj : j < l.length) : ∀ w, St (bs w0) L w → Cells w ⟨pb p, po p + j * z, none⟩ (f (l.getD j d)) := fun w hw => (h.keep w hw).here d hj
theorem RO.of_own (hw : St β L w) (i : Nat) {E cap : Nat} (hi : L[i]? = some (own E z p cap (l.map f))) : RO z f w p l := own_rows hw i hi
theorem RO.ofC {b : Nat} (hz : ∀ x, (f x).length = z) (h : Cells w ⟨b, 0, none⟩ (l.map f).flatten) : RO z f w (some ⟨b, 0, none⟩) l := by
  refine ⟨fun j r hr i v hv => ?_, fun q => (by cases q), fun _ a q => (by cases q; rfl)⟩
  have hz' : ∀ r ∈ l.map f, r.length = z := fun r hr => by obtain ⟨x,_, rfl⟩ := List.mem_map.1 hr; exact hz x
  have := h (j * z + i) v (flatten_row hz' hr hv)
  have e1 : (⟨b, 0, none⟩ : Addr).add (j * z + i) = ⟨b, j * z + i, none⟩ := by unfold Addr.add; split <;> simp_all
  have e2 : (⟨pb (Option.some ⟨b, 0, none⟩), po (Option.some ⟨b, 0, none⟩) + j * z, none⟩ : Addr).add i = ⟨b, j * z + i, none⟩ := by unfold Addr.add; simp only [pb, po]; split <;> simp_all
  rw [e1] at this; rw [e2]; exact this
theorem cells_part {w : World} {b o off : Nat} {C vs : List Value} (h : Cells w ⟨b, o, none⟩ C) (hv : ∃ r, C.drop off = vs ++ r) : Cells w ⟨b, o + off, none⟩ vs := by
  obtain ⟨r, hr⟩ := hv
  intro j v hj
  have h2 : C[off + j]? = some v := by
    rw [← List.getElem?_drop, hr, List.getElem?_append_left (by
      rcases Nat.lt_or_ge j vs.length with h | h
      · exact h
      · simp [List.getElem?_eq_none h] at hj)]
    exact hj
  have := h (off + j) v h2
  have e1 : (⟨b, o, none⟩ : Addr).add (off + j) = ⟨b, o + off + j, none⟩ := by unfold Addr.add; split <;> simp_all <;> omega
  have e2 : (⟨b, o + off, none⟩ : Addr).add j = ⟨b, o + off + j, none⟩ := by unfold Addr.add; split <;> simp_all
  rw [e2, ← e1]; exact this
end
end Go.SL
namespace Go.SL
set_option linter.unusedVariables false
open Go.RowKit
def bag (Rs : List Res) : Res where
  fp := fun k => ∃ r, r ∈ Rs ∧ r.fp k
  inv := fun w => ∀ r, r ∈ Rs → r.inv w
  loc := fun h hi r hr => r.loc (fun k hk => h k ⟨r, hr, hk⟩) (hi r hr)
section
variable {β : Bs} {L : List Res} {w : World}
theorem St.bagNil (hw : St β L w) : St β (bag [] :: L) w := by
  have : St (bs w) [bag []] w := by
    refine ⟨rfl, rfl, rfl, Nat.le_refl _, fun _ _ _ => rfl, ?_, ?_, ?_⟩
    · intro i r hr
      cases i with
      | zero => simp at hr; subst hr; exact fun r hr => by cases hr
      | succ i => simp at hr
    · intro i r hr k hk
      cases i with
      | zero => simp at hr; subst hr; obtain ⟨r, hr,_⟩ := hk; cases hr
      | succ i => simp at hr
    · intro i j r s hij hr hs
      cases i with
      | zero => cases j with | zero => exact absurd rfl hij | succ j => simp at hs
      | succ i => simp at hr
  exact hw.call this
theorem St.bagIn {r : Res} {Rs : List Res} (h : St β (r :: bag Rs :: L) w) : St β (bag (Rs ++ [r]) :: L) w := by
  have mem : ∀ {x : Res}, x ∈ Rs ++ [r] → x ∈ Rs ∨ x = r := fun hx => by
    rcases List.mem_append.1 hx with q | q
    · exact .inl q
    · exact .inr (List.mem_singleton.1 q)
  refine ⟨h.os, h.tape, h.output, h.size, h.fr, ?_, ?_, ?_⟩
  · intro i s hs
    cases i with
    | zero =>
      simp at hs; subst hs
      intro x hx
      rcases mem hx with q | rfl
      · exact h.inv 1 (bag Rs) rfl x q
      · exact h.inv 0 x rfl
    | succ i => exact h.inv (i + 2) s (by simpa using hs)
  · intro i s hs k hk
    cases i with
    | zero =>
      simp at hs; subst hs
      obtain ⟨x, hx, hk⟩ := hk
      rcases mem hx with q | rfl
      · exact h.rng 1 (bag Rs) rfl k ⟨x, q, hk⟩
      · exact h.rng 0 x rfl k hk
    | succ i => exact h.rng (i + 2) s (by simpa using hs) k hk
  · have key : ∀ (j : Nat) (s : Res), (L[j]? = some s) → ∀ k, (bag (Rs ++ [r])).fp k → ¬ s.fp k := fun j s hs k hk hk2 => by
      obtain ⟨x, hx, hk⟩ := hk
      rcases mem hx with q | rfl
      · exact h.dis 1 (j + 2) (bag Rs) s (by omega) rfl (by simpa using hs) k ⟨x, q, hk⟩ hk2
      · exact h.dis 0 (j + 2) x s (by omega) rfl (by simpa using hs) k hk hk2
    intro i j a b hij ha hb k hk hk2
    cases i with
    | zero =>
      simp at ha; subst ha
      cases j with
      | zero => exact hij rfl
      | succ j => exact key j b (by simpa using hb) k hk hk2
    | succ i =>
      cases j with
      | zero => simp at hb; subst hb; exact key i a (by simpa using ha) k hk2 hk
      | succ j => exact h.dis (i + 2) (j + 2) a b (by omega) (by simpa using ha) (by simpa using hb) k hk hk2
theorem own_inv_rows {E z cap : Nat} {p : Option Addr} {rows : List (List Value)} (h : (own E z p cap rows).inv w) : Rows w z p rows := by
  obtain ⟨h1, h2, h3, h4⟩ := h
  refine ⟨?_, fun hp => (h3 hp).1, fun _ a ha => (h4 a ha).2.1⟩
  intro j r hr k v hv
  cases p with
  | none => rw [(h3 rfl).1] at hr; simp at hr
  | some a =>
    obtain ⟨g1, g2, C, s, g3, g4, g5⟩ := h4 a rfl
    have hadd : (⟨pb (some a), po (some a) + j * z, none⟩ : Addr).add k = ⟨a.block, j * z + k, none⟩ := by
      unfold Addr.add pb po; simp only [g1]; split <;> simp_all
    rw [hadd]
    simp only [World.cell?, g3, Option.isSome_none, Bool.false_eq_true, if_false]
    have : C.toList[j * z + k]? = some v := by
      rw [g4]
      have := flatten_row h2 hr hv
      rw [List.getElem?_append_left]
      · exact this
      · rcases Nat.lt_or_ge (j * z + k) rows.flatten.length with q | q
        · exact q
        · rw [List.getElem?_eq_none q] at this; cases this
    simpa using this
structure RowA (α : Type) where
  p : Option Addr
  c : Nat
  l : List α
def RowA.z {α : Type} : RowA α := ⟨none, 0, []⟩
def rowC {α : Type} (x : RowA α) : List Value := [.slice x.p x.l.length x.c]
def bagR {α : Type} (E z : Nat) (f : α → List Value) (rs : List (RowA α)) : Res := bag (rs.map fun x => own E z x.p x.c (x.l.map f))
def RR {α : Type} (z : Nat) (f : α → List Value) (w : World) (p : Option Addr) (rs : List (RowA α)) : Prop := RO 1 rowC w p rs ∧ ∀ x, x ∈ rs → x.l.length ≤ x.c ∧ RO z f w x.p x.l
theorem RR.of_own {α : Type} {z : Nat} {f : α → List Value} {p : Option Addr} {rs : List (RowA α)} (hw : St β L w) (i j : Nat) {E E' cap : Nat} (hi : L[i]? = some (own E 1 p cap (rs.map rowC))) (hj : L[j]? = some (bagR E' z f rs)) : RR z f w p rs :=
  ⟨RO.of_own hw i hi, fun x hx => by
    have h := hw.inv j _ hj _ (List.mem_map_of_mem (f := fun x : RowA α => own E' z x.p x.c (x.l.map f)) hx)
    refine ⟨?_, own_inv_rows h⟩
    have := h.1
    rwa [List.length_map] at this⟩
theorem St.bagRNil {α : Type} (hw : St β L w) (E z : Nat) (f : α → List Value) : St β (bagR E z f [] :: L) w := hw.bagNil
theorem St.bagRIn {α : Type} {E z : Nat} {f : α → List Value} {rs : List (RowA α)} {x : RowA α} (h : St β (own E z x.p x.c (x.l.map f) :: bagR E z f rs :: L) w) : St β (bagR E z f (rs ++ [x]) :: L) w := by
  have := h.bagIn
  unfold bagR
  rw [List.map_append]
  exact this
end
end Go.SL
namespace Go.SL
set_option linter.unusedVariables false
set_option linter.unusedSimpArgs false
open Go.RowKit
section
variable {P : Program} {ro : Option Nat} {β : Bs} {ds : List Deferred} {N : Nat} {Q : Exit → Act → World → Prop} {env : Env} {L L0 : List Res}
section
variable {l : List Oper} {ms : List (Option Nat)} {n : Nat} {S : List Nat}
end
theorem selK {L1 : List Res} (is : List Nat) (hn : nodupB is = true) (h : sel L is = L1) : ∀ w, St β L w → St β L1 w := fun w hw => by rw [← h]; exact hw.sel is hn
end
section
variable {P : Program} {ro : Option Nat} {β : Bs} {ds : List Deferred} {N : Nat} {env : Env} {L : List Res} {Q : Exit → Act → World → Prop}
/-! ### A range over a map -/
variable {d : Option Nat} {ty : TypeId} {pos : String} {aft : Array Edge} {g : Option (Nat × Bool)}
variable {K : Value → List Res → Prop} {dd : Option Nat}
theorem run_next_map_at (w : World) (ir : Nat) (ty : TypeId) (bm since c0 : Nat) (seen : Array Nat) (es : Array MapEntry) (clock : Nat) (hi : w.heap[ir]? = some (.mapIter (some bm) since seen c0)) (hb : w.heap[bm]? = some (.map es clock)) (hold : ∀ x ∈ es.toList, x.born < since) (hsc : since ≤ c0) :
    ((leftOf es seen).size = 0 ∧ (Instr.next (.pointer (some ⟨ir, 0, none⟩)) false ty).run P w = .ok (.tuple #[.bool false]) w) ∨
    ∃ e ∈ (leftOf es seen).toList, ∃ n : Nat, (Instr.next (.pointer (some ⟨ir, 0, none⟩)) false ty).run P w = .ok (.tuple #[.bool true, e.key, e.val]) (({ w with drawn := n } : World).putObj ir (.mapIter (some bm) since (seen.push e.born) clock)) := by
  simp only [Instr.next, getObj, Sem.run_bind, Sem.run, hi, hb, Result.andThen, next_test_false seen es since c0 hold hsc, Bool.false_eq_true, if_false]
  unfold leftOf
  have hmem : ∀ x ∈ (Array.filter (fun e => !seen.contains e.born) es).toList, x.born < since := fun x hx => hold x (by simp at hx ⊢; exact hx.1)
  generalize Array.filter (fun e => !seen.contains e.born) es = L at hmem ⊢
  have e1 : L.filter (fun x => decide (x.born < since)) = L := Array.filter_eq_self.2 (fun x hx => by simpa using hmem x (by simpa using hx))
  have e2 : L.filter (fun x => decide (x.born ≥ since)) = #[] := by
    rw [Array.filter_eq_empty_iff]
    intro x hx
    have := hmem x (by simpa using hx)
    simp
    omega
  simp only [e1, e2, Array.append_empty]
  by_cases h0 : L.size = 0
  · left
    have : L = #[] := Array.eq_empty_of_size_eq_zero h0
    subst this
    refine ⟨rfl, ?_⟩
    simp [choose, Sem.run, Question.forced]
  · right
    have hne : L.isEmpty = false := by simp [Array.isEmpty, h0]
    simp only [hne, Bool.false_eq_true, if_false, Array.empty_append, Array.size_map]
    have hch : ∃ (j : Nat) (n : Nat), j < L.size ∧ (choose (Question.mapNext L.size)).run P w = .ok j ({ w with drawn := n } : World) := by
      by_cases hf : L.size ≤ 1
      · exact ⟨0, w.drawn, by omega, by simp [choose, Sem.run, Question.forced, hf]⟩
      · exact ⟨_,_, Nat.mod_lt _ (by omega), by
          simp only [choose, Sem.run, Question.forced, decide_eq_true_eq, hf, if_false, Question.cut]
          rfl⟩
    obtain ⟨j, n, hj, hrun⟩ := hch
    refine ⟨L[j], by simp, n, ?_⟩
    have hset : (setObj ir (.mapIter (some bm) since (seen.push L[j].born) clock)).run P ({ w with drawn := n } : World) = .ok () (({ w with drawn := n } : World).putObj ir (.mapIter (some bm) since (seen.push L[j].born) clock)) := by
      simp only [setObj, Sem.run, hi]; rfl
    simp only [hrun, Array.getElem?_map, Array.getElem?_eq_getElem hj, Option.map_some, Sem.run_bind, hset, Result.andThen]
    rfl
theorem HO.rangeM {T k e : Nat} {x : Operand} {b : Nat} {es : Array MapEntry} {clock : Nat} (hT : P.underlying T = some (.map k e)) (hx : ev env x = some (.map (some b))) (hc : ∀ w, St β L w → w.heap[b]? = some (.map es clock))
    (kk : ∀ ib, K (.pointer (some ⟨ib, 0, none⟩)) (blk ib (.mapIter (some b) clock #[] clock) :: L)) : HO P β env L ⟨dd, .range T x, ty, pos, aft, g⟩ K := by
  intro a w h hw
  refine .inl ⟨_, w.alloc (.mapIter (some b) clock #[] clock),_,_, ?_, .inl rfl, kk w.heap.size, hw.alloc _⟩
  simp [execOp, h x (by simp [Op.operands]) _ hx, run_range_map w T k e b es clock hT (hc w hw)]
theorem HO.nextM (i : Nat) (LF : Res → List Res) {x : Operand} {b ib since c0 clock : Nat} {seen : Array Nat} {es : Array MapEntry} (hx : ev env x = some (.pointer (some ⟨ib, 0, none⟩))) (hi : L[i]? = some (blk ib (.mapIter (some b) since seen c0))) (hL : ∀ R : Res, L.set i R = LF R)
    (hc : ∀ w, St β L w → w.heap[b]? = some (.map es clock)) (hold : ∀ x ∈ es.toList, x.born < since) (hsc : since ≤ c0)
    (k0 : (leftOf es seen).size = 0 → K (.tuple #[.bool false]) L) (k1 : ∀ e, e ∈ (leftOf es seen).toList → K (.tuple #[.bool true, e.key, e.val]) (LF (blk ib (.mapIter (some b) since (seen.push e.born) clock)))) : HO P β env L ⟨dd, .next x false, ty, pos, aft, g⟩ K := by
  intro a w h hw
  have hb : w.heap[ib]? = some (.mapIter (some b) since seen c0) := hw.inv i _ hi
  rcases run_next_map_at (P := P) w ib ty b since c0 seen es clock hb (hc w hw) hold hsc with ⟨h0, hr⟩ | ⟨e, he, n, hr⟩
  · refine .inl ⟨_, w,_,_, ?_, .inl rfl, k0 h0, hw⟩
    simp [execOp, h x (by simp [Op.operands]) _ hx, hr]
  · refine .inl ⟨_, ({ w with drawn := n } : World).putObj ib (.mapIter (some b) since (seen.push e.born) clock), .tuple #[.bool true, e.key, e.val], LF (blk ib (.mapIter (some b) since (seen.push e.born) clock)), ?_, .inl rfl, k1 e he, ?_⟩
    · simp [execOp, h x (by simp [Op.operands]) _ hx, hr]
    · rw [← hL]
      exact (hw.drew n).obj i hi
end
section
variable {P : Program} {ro : Option Nat} {β : Bs} {ds : List Deferred} {N : Nat} {env : Env} {L : List Res} {Q : Exit → Act → World → Prop}
variable {d : Option Nat} {ty : TypeId} {pos : String} {aft : Array Edge} {g : Option (Nat × Bool)}
variable {K : Value → List Res → Prop} {dd : Option Nat}
theorem run_entry_at (w : World) (ir bm since : Nat) (seen : Array Nat) (es : Array MapEntry) (clock : Nat) (e : MapEntry) (hi : w.heap[ir]? = some (.mapIter (some bm) since (seen.push e.born) clock)) (hb : w.heap[bm]? = some (.map es clock)) (he : e ∈ es.toList) (hn : (es.toList.map (·.born)).Nodup) :
    (Instr.entry (.pointer (some ⟨ir, 0, none⟩))).run P w = .ok (.tuple #[e.key, e.val]) w := by
  have hf : es.find? (·.born == e.born) = some e := by rw [← Array.find?_toList]; exact find_born e es.toList hn he
  simp only [Instr.entry, getObj, Sem.run_bind, Sem.run, hi, hb, Result.andThen, Array.back?_push, bne_self_eq_false, Bool.false_eq_true, if_false, hf]
  rfl
theorem LO.entry {x : Operand} {ib b since clock : Nat} {seen : Array Nat} {es : Array MapEntry} {e : MapEntry} (hx : OV env x (.pointer (some ⟨ib, 0, none⟩))) (hi : ∀ w, St β L w → w.heap[ib]? = some (.mapIter (some b) since (seen.push e.born) clock)) (hc : ∀ w, St β L w → w.heap[b]? = some (.map es clock)) (he : e ∈ es.toList) (hn : (es.toList.map (·.born)).Nodup) : LO P β env L ⟨d, .entry x, ty, pos, aft, g⟩ (.tuple #[e.key, e.val]) :=
  .of_run fun a w h hw => ⟨w, by
    have := run_entry_at (P := P) w ib b since seen es clock e (hi w hw) (hc w hw) he hn
    simp [execOp, h x (by simp [Op.operands]) _ hx, this], hw⟩
theorem HO.nextM0 (i : Nat) {x : Operand} {b ib since c0 clock : Nat} {seen : Array Nat} {es : Array MapEntry} (hx : ev env x = some (.pointer (some ⟨ib, 0, none⟩))) (hi : L[i]? = some (blk ib (.mapIter (some b) since seen c0)))
    (hc : ∀ w, St β L w → w.heap[b]? = some (.map es clock)) (hold : ∀ x ∈ es.toList, x.born < since) (hsc : since ≤ c0) (h0 : (leftOf es seen).size = 0)
    (k : K (.tuple #[.bool false]) L) : HO P β env L ⟨dd, .next x false, ty, pos, aft, g⟩ K :=
  HO.nextM i (fun R => L.set i R) hx hi (fun _ => rfl) hc hold hsc (fun _ => k) (fun e he => by
    have : (leftOf es seen).toList.length = 0 := by rw [Array.length_toList]; exact h0
    rw [List.length_eq_zero_iff.1 this] at he; cases he)
theorem HO.nextM1 (i : Nat) (LF : Res → List Res) {x : Operand} {b ib since c0 clock : Nat} {seen : Array Nat} {es : Array MapEntry} (hx : ev env x = some (.pointer (some ⟨ib, 0, none⟩))) (hi : L[i]? = some (blk ib (.mapIter (some b) since seen c0))) (hL : ∀ R : Res, L.set i R = LF R)
    (hc : ∀ w, St β L w → w.heap[b]? = some (.map es clock)) (hold : ∀ x ∈ es.toList, x.born < since) (hsc : since ≤ c0) (h0 : ¬ (leftOf es seen).size = 0)
    (k : ∀ e, e ∈ (leftOf es seen).toList → K (.tuple #[.bool true, e.key, e.val]) (LF (blk ib (.mapIter (some b) since (seen.push e.born) clock)))) : HO P β env L ⟨dd, .next x false, ty, pos, aft, g⟩ K :=
  HO.nextM i LF hx hi hL hc hold hsc (fun h => absurd h h0) k
theorem HO.bs0 {T E z : Nat} (hT : IsSlice P T E) (hs : (P.info? E).map (·.size) = some z) (k : ∀ b, K (.slice (some ⟨b, 0, none⟩) 0 0) (own E z (some ⟨b, 0, none⟩) 0 [] :: L)) : HO P β env L ⟨dd, .buildSlice T 0 #[], ty, pos, aft, none⟩ K := by
  intro a w h hw
  refine .inl ⟨_, w.alloc (.cells #[] E),_,_, ?_, .inl rfl, k w.heap.size, ?_⟩
  · simp [execOp, Instr.buildSlice, run_underlying hT, run_size hs, Instr.fill, newRow]
    rw [Array.eq_empty_of_size_eq_zero (xs := Array.map (fun x => default) (Array.range 0)) (by simp)]
  · have h1 := hw.alloc (.cells #[] E)
    have := h1.conv 0 (r' := own E z (some ⟨w.heap.size, 0, none⟩) 0 []) rfl (fun k hk => hk.2) ⟨by simp, by simp, fun q => (by cases q), fun a ha => by cases ha; exact ⟨rfl, rfl, #[], [], h1.inv 0 _ rfl, rfl, by simp⟩⟩
    simpa using this
theorem LO.slH {T E z : Nat} {x j : Operand} {p : Option Addr} {n c k : Nat} {e : Int} (hT : IsSlice P T E) (hz : (P.info? E).map (·.size) = some z) (hx : OV env x (.slice p n c)) (hj : OV env j (.int .i64 e)) (he : e = (k : Int)) (hk : k ≤ c) : LO P β env L ⟨d, .slice T x none (some j) none, ty, pos, aft, g⟩ (.slice p k c) :=
  .of_run fun a w h hw => ⟨w, by
    subst he
    have h0 : ∀ q : Addr, q.add 0 = q := fun q => by simp [Addr.add]
    have h2 : p.map (fun x => x.add 0) = p := by cases p <;> simp [h0]
    simp [execOp, h x (by simp [Op.operands]) _ hx, h j (by simp [Op.operands]) _ hj, Instr.sliceAt, run_underlying hT, Instr.slice, Instr.sliceBounds, Instr.sliceBound, asIntOf, hk, run_size hz, h2], hw⟩
end
section
variable {P : Program} {β : Bs} {env : Env} {L L' : List Res}
theorem FO.bs0 {T E z d i : Nat} {ty : TypeId} {pos : String} {aft : Array Edge} (hT : IsSlice P T E) (hs : (P.info? E).map (·.size) = some z) : FO P env ⟨some d, .buildSlice T 0 #[], ty, pos, aft, none⟩ ⟨i, d, fun b => .slice (some ⟨b, 0, none⟩) 0 0, E, #[]⟩ :=
  ⟨rfl, rfl, fun a w _ => by
    simp [execOp, Instr.buildSlice, run_underlying hT, run_size hs, Instr.fill, newRow]
    rw [Array.eq_empty_of_size_eq_zero (xs := Array.map (fun x => default) (Array.range 0)) (by simp)]⟩
theorem HO.pre {o : Oper} {K : Value → List Res → Prop} (hc : ∀ w, St β L w → St β L' w) (h : HO P β env L' o K) : HO P β env L o K := fun a w ha hw => h a w ha (hc w hw)
theorem St.blkOwn {E b : Nat} {w : World} (i z : Nat) (hi : L[i]? = some (blk b (.cells #[] E))) (hw : St β L w) : St β (L.set i (own E z (some ⟨b, 0, none⟩) 0 [])) w :=
  hw.conv i hi (fun k hk => hk.2) ⟨by simp, by simp, fun q => (by cases q), fun a ha => by cases ha; exact ⟨rfl, rfl, #[], [], hw.inv i _ hi, rfl, by simp⟩⟩
variable {ty : TypeId} {pos : String} {aft : Array Edge} {dd : Option Nat}
theorem HO.appN0 {α : Type} {f : α → List Value} {m : List α} (i : Nat) (LF : Res → List Res) {K : Value → List Res → Prop} {x y : Operand} {T T' E z by_ : Nat} {aT : Array TypeId} {zero : Value} {p q : Option Addr} {n2 cap c2 : Nat} (hT : IsSlice P T E) (hT' : IsSlice P T' E) (hE : EInfo P E z by_ zero) (hx : OV env x (.slice p 0 cap)) (hy : OV env y (.slice q n2 c2))
    (hi : L[i]? = some (own E z p cap [])) (hq : ∀ w, St β L w → Go.SL.Rows w z q (m.map f)) (hz : ∀ a, (f a).length = z) (h1 : ∀ a, allOne (f a) = true) (ha0 : aT[0]? = some T) (ha1 : aT[1]? = some T') (hL : ∀ R : Res, L.set i R = LF R) (hn2 : n2 = m.length) (hs : (2 * n2 + 768) * by_ ≤ 281474976710656)
    (k : ∀ p' cap', (m ≠ [] ∨ p ≠ none → p' ≠ none) → K (.slice p' n2 cap') (LF (own E z p' cap' (m.map f)))) : HO P β env L ⟨dd, .call ⟨.builtin .append, #[x, y], aT⟩, ty, pos, aft, none⟩ K :=
  HO.appN (f := f) (l := []) (m := m) i LF hT hT' hE hx hy hi hq hz h1 ha0 ha1 hL rfl hn2 (by rw [Nat.zero_add]; exact hs) (fun p' c' h => by rw [Nat.zero_add]; exact k p' c' h)
end
def Apart (r s : Res) : Prop := ∀ k, r.fp k → ¬ s.fp k
theorem Apart.symm {r s : Res} (h : Apart r s) : Apart s r := fun k hk hk2 => h k hk2 hk
section
variable {β : Bs} {L L' Rs : List Res} {w w' : World}
theorem St.mem (h : St β L w) {r : Res} (hr : r ∈ L) : r.inv w := by
  obtain ⟨i, hi⟩ := List.mem_iff_getElem?.1 hr
  exact h.inv i r hi
theorem St.rngM (h : St β L w) {r : Res} (hr : r ∈ L) : ∀ k, r.fp k → (β.O k ∨ β.w.heap.size ≤ k) ∧ k < w.heap.size := by
  obtain ⟨i, hi⟩ := List.mem_iff_getElem?.1 hr
  exact h.rng i r hi
theorem St.pw (h : St β L w) : L.Pairwise Apart := by
  rw [List.pairwise_iff_getElem]
  intro i j hi hj hij
  exact h.dis i j _ _ (by omega) (List.getElem?_eq_getElem hi) (List.getElem?_eq_getElem hj)
theorem st_mk (os : w.os = β.w.os) (tape : w.tape = β.w.tape) (output : w.output = β.w.output) (size : β.w.heap.size ≤ w.heap.size) (fr : ∀ k, k < β.w.heap.size → ¬ β.O k → w.heap[k]? = β.w.heap[k]?)
    (inv : ∀ r, r ∈ L → r.inv w) (rng : ∀ r, r ∈ L → ∀ k, r.fp k → (β.O k ∨ β.w.heap.size ≤ k) ∧ k < w.heap.size) (pw : L.Pairwise Apart) : St β L w := by
  refine ⟨os, tape, output, size, fr, fun i r hr => inv r (List.mem_of_getElem? hr), fun i r hr => rng r (List.mem_of_getElem? hr), ?_⟩
  intro i j r s hij hr hs
  obtain ⟨hi, rfl⟩ := List.getElem?_eq_some_iff.1 hr
  obtain ⟨hj, rfl⟩ := List.getElem?_eq_some_iff.1 hs
  have := List.pairwise_iff_getElem.1 pw
  rcases Nat.lt_or_gt_of_ne hij with q | q
  · exact this i j hi hj q
  · exact (this j i hj hi q).symm
theorem St.perm (h : St β L w) (hp : L.Perm L') : St β L' w :=
  st_mk h.os h.tape h.output h.size h.fr (fun r hr => h.mem (hp.mem_iff.2 hr)) (fun r hr => h.rngM (hp.mem_iff.2 hr)) ((hp.pairwise_iff (fun h => Apart.symm h)).1 h.pw)
def bagD (Rs : List Res) : Res where
  fp := fun k => ∃ r, r ∈ Rs ∧ r.fp k
  inv := fun w => (∀ r, r ∈ Rs → r.inv w) ∧ Rs.Pairwise Apart
  loc := fun h hi => ⟨fun r hr => r.loc (fun k hk => h k ⟨r, hr, hk⟩) (hi.1 r hr), hi.2⟩
theorem St.unbagD (h : St β (bagD Rs :: L) w) : St β (Rs ++ L) w := by
  have hb := h.mem (List.mem_cons_self)
  have hp := List.pairwise_cons.1 h.pw
  refine st_mk h.os h.tape h.output h.size h.fr (fun r hr => ?_) (fun r hr k hk => ?_) ?_
  · rcases List.mem_append.1 hr with q | q
    · exact hb.1 r q
    · exact h.mem (List.mem_cons_of_mem _ q)
  · rcases List.mem_append.1 hr with q | q
    · exact h.rngM List.mem_cons_self k ⟨r, q, hk⟩
    · exact h.rngM (List.mem_cons_of_mem _ q) k hk
  · exact List.pairwise_append.2 ⟨hb.2, hp.2, fun r hr s hs k hk => hp.1 s hs k ⟨r, hr, hk⟩⟩
theorem St.bagD (h : St β (Rs ++ L) w) : St β (Go.SL.bagD Rs :: L) w := by
  obtain ⟨p1, p2, p3⟩ := List.pairwise_append.1 h.pw
  refine st_mk h.os h.tape h.output h.size h.fr (fun r hr => ?_) (fun r hr k hk => ?_) ?_
  · rcases List.mem_cons.1 hr with rfl | q
    · exact ⟨fun r hr => h.mem (List.mem_append_left _ hr), p1⟩
    · exact h.mem (List.mem_append_right _ q)
  · rcases List.mem_cons.1 hr with rfl | q
    · obtain ⟨s, hs, hk⟩ := hk
      exact h.rngM (List.mem_append_left _ hs) k hk
    · exact h.rngM (List.mem_append_right _ q) k hk
  · exact List.pairwise_cons.2 ⟨fun s hs k ⟨r, hr, hk⟩ => p3 r hr s hs k hk, p2⟩
theorem St.focus {A B : List Res} {r : Res} (h : St β (Go.SL.bagD (A ++ r :: B) :: L) w) : St β (r :: Go.SL.bagD (A ++ B) :: L) w := by
  have h1 := h.unbagD.perm (L' := (A ++ B) ++ (r :: L)) (by
    simp only [List.append_assoc, List.cons_append]
    exact List.Perm.append_left A (List.perm_middle.symm))
  exact (h1.bagD).perm (List.Perm.swap _ _ _)
theorem St.unfocus {A B : List Res} {r : Res} (h : St β (r :: Go.SL.bagD (A ++ B) :: L) w) : St β (Go.SL.bagD (A ++ r :: B) :: L) w := by
  have h1 := (h.perm (List.Perm.swap _ _ _)).unbagD.perm (L' := (A ++ r :: B) ++ L) (by
    simp only [List.append_assoc, List.cons_append]
    exact List.Perm.append_left A List.perm_middle)
  exact h1.bagD
def Has (w : World) (R : List Res) : Prop := St ⟨w, fpL R⟩ R w
theorem fpL_mem {R : List Res} {k : Nat} : fpL R k ↔ ∃ r, r ∈ R ∧ r.fp k :=
  ⟨fun ⟨i, r, hr, hk⟩ => ⟨r, List.mem_of_getElem? hr, hk⟩, fun ⟨r, hr, hk⟩ => by obtain ⟨i, hi⟩ := List.mem_iff_getElem?.1 hr; exact ⟨i, r, hi, hk⟩⟩
theorem has_mk {R : List Res} (h1 : ∀ r, r ∈ R → r.inv w) (h2 : ∀ r, r ∈ R → ∀ k, r.fp k → k < w.heap.size) (h3 : R.Pairwise Apart) : Has w R :=
  st_mk rfl rfl rfl (Nat.le_refl _) (fun _ _ _ => rfl) h1 (fun r hr k hk => ⟨.inl (fpL_mem.2 ⟨r, hr, hk⟩), h2 r hr k hk⟩) h3
theorem St.has {R : List Res} (h : St β L w) (hs : R.Sublist L) : Has w R :=
  has_mk (fun r hr => h.mem (hs.subset hr)) (fun r hr k hk => (h.rngM (hs.subset hr) k hk).2) (h.pw.sublist hs)
theorem St.hasL {R : List Res} (h : St β (R ++ L) w) : Has w R := h.has (List.sublist_append_left R L)
theorem Has.keep {R : List Res} (h : Has w R) (k : St (bs w) L w') : Has w' R :=
  has_mk (fun r hr => r.loc (fun b hb => k.fr b (h.rngM hr b hb).2 (fun f => f)) (h.mem hr)) (fun r hr b hb => Nat.lt_of_lt_of_le (h.rngM hr b hb).2 k.size) h.pw
theorem Has.enter (h : Has w L) : St ⟨w, fpL L⟩ L w := h
end
section
variable {P : Program} {ro : Option Nat} {β : Bs} {N : Nat} {ds : List Deferred} {env : Env} {L : List Res} {Q : Exit → Act → World → Prop}
  {ty : TypeId} {pos : String} {aft : Array Edge} {g : Option (Nat × Bool)}
theorem VC.res {L' : List Res} {c : Code} (hL : ∀ w, St β L w → St β L' w) (h : VC P ro β N ds env L' c Q) : VC P ro β N ds env L c Q := fun a w ha hw => h a w ha (hL w hw)
theorem VE.resL {L' : List Res} {e : Exit} (hL : ∀ w, St β L w → St β L' w) (h : VE β N ds env L' e Q) : VE β N ds env L e Q := fun a w ha hw => h a w ha (hL w hw)
end
theorem flatten_set {z : Nat} : ∀ {rows : List (List Value)} {j o : Nat} {r vs : List Value}, (∀ r ∈ rows, r.length = z) → rows[j]? = some r → o + vs.length ≤ z →
    rows.flatten.take (j * z + o) ++ vs ++ rows.flatten.drop (j * z + o + vs.length) = (rows.set j (r.take o ++ vs ++ r.drop (o + vs.length))).flatten
  | [], j, o, r, vs,_, h,_ => by simp at h
  | x :: xs, 0, o, r, vs, hz, h, hl => by
    simp at h; subst h
    have hx : x.length = z := hz x (by simp)
    simp only [Nat.zero_mul, Nat.zero_add, List.flatten_cons, List.set_cons_zero]
    rw [List.take_append_of_le_length (by omega), List.drop_append_of_le_length (by omega)]
    simp only [List.append_assoc]
  | x :: xs, j + 1, o, r, vs, hz, h, hl => by
    have hx : x.length = z := hz x (by simp)
    have ih := flatten_set (rows := xs) (j := j) (o := o) (r := r) (vs := vs) (fun r hr => hz r (by simp [hr])) (by simpa using h) hl
    simp only [List.flatten_cons, List.set_cons_succ, ← ih]
    have e : (j + 1) * z + o = x.length + (j * z + o) := by rw [Nat.add_mul]; omega
    rw [e, List.take_length_add_append, show x.length + (j * z + o) + vs.length = x.length + (j * z + o + vs.length) by omega, List.drop_length_add_append]
    simp only [List.append_assoc]
section
variable {P : Program} {ro : Option Nat} {β : Bs} {N : Nat} {ds : List Deferred} {env : Env} {L : List Res} {Q : Exit → Act → World → Prop}
  {ty : TypeId} {pos : String} {aft : Array Edge} {g : Option (Nat × Bool)}
theorem HO.sto (i : Nat) (LF : Res → List Res) {K : Value → List Res → Prop} {dd : Option Nat} {x y : Operand} {T E z cap j o q : Nat} {p : Option Addr} {rows : List (List Value)} {r : List Value} {v : Value} {vs : List Value} (hT : (P.info? T).map (·.size) = some vs.length) (hx : OV env x (.pointer (some ⟨pb p, q, none⟩))) (hy : OV env y v)
    (hi : L[i]? = some (own E z p cap rows)) (hj : rows[j]? = some r) (hq : q = po p + j * z + o) (hv : v.cells = vs.toArray) (hfit : o + vs.length ≤ z) (h1 : allOne vs = true) (hL : ∀ R : Res, L.set i R = LF R)
    (k : K undef (LF (own E z p cap (rows.set j (r.take o ++ vs ++ r.drop (o + vs.length)))))) : HO P β env L ⟨dd, .store T x y, ty, pos, aft, none⟩ K := by
  intro a w h hw
  have ex : a.eval x = .pointer (some ⟨pb p, q, none⟩) := by obtain ⟨u, hu, e⟩ := hx; subst e; exact h x (by simp [Op.operands]) _ hu
  have ey : a.eval y = v := by obtain ⟨u, hu, e⟩ := hy; subst e; exact h y (by simp [Op.operands]) _ hu
  obtain ⟨g1, g2, g3, g4⟩ := hw.inv i _ hi
  have hlt : i < L.length := by
    rcases Nat.lt_or_ge i L.length with q | q
    · exact q
    · simp [List.getElem?_eq_none q] at hi
  cases p with
  | none => rw [(g3 rfl).1] at hj; simp at hj
  | some ad =>
    obtain ⟨k1, k2, C, sp, k3, k4, k5⟩ := g4 ad rfl
    have hq' : q = j * z + o := by rw [hq]; simp only [po, k1]; omega
    have hjl : j < rows.length := (List.getElem?_eq_some_iff.1 hj).1
    have hfl : rows.flatten.length = rows.length * z := flatten_len g2
    have hle : j * z + o + vs.length ≤ rows.flatten.length := by
      rw [hfl]
      have : (j + 1) * z ≤ rows.length * z := Nat.mul_le_mul_right z hjl
      rw [Nat.add_mul] at this; omega
    have hCl : C.size = C.toList.length := by simp
    have hrun := run_store_blk (P := P) (o := q) hT hv k3 (by rw [hCl, k4, List.length_append]; omega) (allOne_spec h1)
    have hr : r.length = z := g2 r (List.mem_of_getElem? hj)
    have hC : C.toList.take q ++ vs ++ C.toList.drop (q + vs.length) = (rows.set j (r.take o ++ vs ++ r.drop (o + vs.length))).flatten ++ sp := by
      rw [← flatten_set g2 hj hfit, hq', k4, List.take_append_of_le_length (by omega), List.drop_append_of_le_length (by omega)]
      simp only [List.append_assoc]
    refine .inl ⟨.skip, w.setRow ad.block (C.toList.take q ++ vs ++ C.toList.drop (q + vs.length)).toArray, undef,_, ?_, .inr ⟨rfl, rfl⟩, k, ?_⟩
    · simp only [execOp, ex, ey, pb, Instr.storeAt, Instr.sureAddr, Sem.run_bind, Sem.run_pure, Result.andThen_ok, hrun]
    · rw [← hL]
      have s1 : St β (L.set i (blk ad.block (.cells C E))) w := hw.conv i hi (fun k hk => ⟨by simp, hk⟩) k3
      have hg : (L.set i (blk ad.block (.cells C E)))[i]? = some (blk ad.block (.cells C E)) := by simp [hlt]
      have s2 := s1.setRow (C' := (C.toList.take q ++ vs ++ C.toList.drop (q + vs.length)).toArray) hg
      rw [List.set_set] at s2
      have hg2 : (L.set i (blk ad.block (.cells (C.toList.take q ++ vs ++ C.toList.drop (q + vs.length)).toArray E)))[i]? = some (blk ad.block (.cells (C.toList.take q ++ vs ++ C.toList.drop (q + vs.length)).toArray E)) := by simp [hlt]
      have s3 := s2.conv i (r' := own E z (some ad) cap (rows.set j (r.take o ++ vs ++ r.drop (o + vs.length)))) hg2 (fun k hk => hk.2) (by
        refine ⟨by simpa using g1, ?_, fun e => (by cases e), ?_⟩
        · intro s hs
          rcases List.mem_or_eq_of_mem_set hs with q1 | q1
          · exact g2 s q1
          · subst q1; simp; omega
        · intro a' ha'
          cases ha'
          refine ⟨k1, k2,_, sp, s2.inv i _ hg2, by simpa using hC, ?_⟩
          simp only [List.size_toArray]
          have e1 : (C.toList.take q ++ vs ++ C.toList.drop (q + vs.length)).length = C.toList.length := by
            have := hle
            have : q + vs.length ≤ C.toList.length := by rw [k4, List.length_append]; omega
            simp; omega
          rw [e1, ← hCl, k5])
      rwa [List.set_set] at s3
theorem LO.mi {d : Option Nat} {x : Operand} {T : Nat} {v : Value} (hT : ∃ u, P.underlying T = some u ∧ (match u with | .interface _ => false | _ => true) = true) (hx : OV env x v) : LO P β env L ⟨d, .makeInterface T x, ty, pos, aft, g⟩ (.iface T v) :=
  .of_run fun a w h hw => ⟨w, by
    obtain ⟨u, hu, hb⟩ := hT
    have hm : (Instr.makeInterface T v).run P w = .ok (.iface T v) w := by
      unfold Instr.makeInterface
      rw [Sem.run_bind, run_underlying hu]
      cases u <;> simp_all
    simp [execOp, h x (by simp [Op.operands]) _ hx, hm], hw⟩
end
structure SetS (es : List MapEntry) (S : ByteArray → Bool) : Prop where
  ent : ∀ e, e ∈ es → ∃ n, e.key = .string n ∧ e.val = .bool true ∧ S n = true
  mem : ∀ n, S n = true → ∃ e, e ∈ es ∧ e.key = .string n
  nod : es.Pairwise fun a b => a.key ≠ b.key
def setRs (b : Nat) (S : ByteArray → Bool) : Res := ⟨fun k => k = b, fun w => ∃ es clock, w.heap[b]? = some (.map es clock) ∧ SetS es.toList S, fun h ⟨es, c, h1, h2⟩ => ⟨es, c, (h b rfl).trans h1, h2⟩⟩
theorem strV_inj {a b : ByteArray} (h : Value.string a = .string b) : a = b := by simpa using h
theorem ba_refl (a : ByteArray) : (a == a) = true := by cases a; exact beq_self_eq_true (α := Array UInt8) _
theorem ba_ne {a b : ByteArray} (h : a ≠ b) : (a == b) = false := by cases a; cases b; exact beq_false_of_ne (α := Array UInt8) (fun e => h (congrArg _ e))
theorem findNow_sets {n : ByteArray} : ∀ {es : List MapEntry} (i : Nat), (∀ e, e ∈ es → ∃ m, e.key = .string m ∧ e.val = .bool true) →
    (∃ j, Instr.findNow .string (.string n) es i = some (some (j, .bool true)) ∧ i ≤ j ∧ ∃ e, es[j - i]? = some e ∧ e.key = .string n) ∨ (Instr.findNow .string (.string n) es i = some none ∧ ∀ e, e ∈ es → e.key ≠ .string n)
  | [], i,_ => .inr ⟨rfl, by simp⟩
  | e :: es, i, h => by
    obtain ⟨m, hm, hv⟩ := h e (by simp)
    simp only [Instr.findNow, hm, Instr.sameNow, if_true]
    by_cases q : n = m
    · subst q
      left
      rw [ba_refl]; skip
      exact ⟨i, by rw [hv], Nat.le_refl _, e, by simp, hm⟩
    · have : (n == m) = false := ba_ne q
      rw [this]
      rcases findNow_sets (n := n) (es := es) (i + 1) (fun e' he => h e' (by simp [he])) with ⟨j, h1, h2, e', h3, h4⟩ | ⟨h1, h2⟩
      · left
        refine ⟨j, h1, by omega, e', ?_, h4⟩
        rw [show j - i = (j - (i + 1)) + 1 by omega]
        simpa using h3
      · right
        refine ⟨h1, ?_⟩
        intro e' he
        rcases List.mem_cons.1 he with rfl | he
        · rw [hm]; exact fun e => q (strV_inj e).symm
        · exact h2 e' he
section
variable {P : Program} {ro : Option Nat} {β : Bs} {N : Nat} {ds : List Deferred} {env : Env} {L : List Res} {Q : Exit → Act → World → Prop}
variable {d : Option Nat} {ty : TypeId} {pos : String} {aft : Array Edge} {g : Option (Nat × Bool)}
def IsSetS (P : Program) (T : Nat) : Prop := ∃ K E, P.underlying T = some (.map K E) ∧ P.underlying K = some .string ∧ ZeroOf P E (.bool false)
theorem checkKey_str {K : TypeId} (hK : P.underlying K = some .string) (e : Bool) (n : Nat) (v : Value) (w : World) : (Instr.checkKey e (n + 1) K v).run P w = .ok () w := by
  simp [Instr.checkKey, run_underlying hK]
theorem run_lookup_sets {T b : Nat} {S : ByteArray → Bool} {n : ByteArray} {w : World} (hT : IsSetS P T) (hi : (setRs b S).inv w) : (Instr.lookup T (.map (some b)) (.string n) false).run P w = .ok (.bool (S n)) w := by
  obtain ⟨K, E, hu, hK, hz⟩ := hT
  obtain ⟨es, clock, hb, hs⟩ := hi
  have hobj : (getObj b).run P w = .ok (.map es clock) w := by simp [getObj, Sem.run, hb]
  simp only [Instr.lookup, Sem.run_bind, run_underlying hu, Result.andThen_ok, hobj, Sem.run_pure, checkKey_str hK, Instr.findKey, run_underlying hK]
  rcases findNow_sets (n := n) (es := es.toList) 0 (fun e he => by obtain ⟨m, h1, h2,_⟩ := hs.ent e he; exact ⟨m, h1, h2⟩) with ⟨j, h1, h2, e, h3, h4⟩ | ⟨h1, h2⟩
  · rw [h1]
    have hm : e ∈ es.toList := List.mem_of_getElem? h3
    obtain ⟨m, g1, g2, g3⟩ := hs.ent e hm
    have : m = n := strV_inj (g1.symm.trans h4)
    subst this
    simp [g3]
  · rw [h1]
    have : S n = false := by
      cases q : S n
      · rfl
      · obtain ⟨e, he, hk⟩ := hs.mem n q
        exact absurd hk (h2 e he)
    simp [run_zero hz, this]
theorem LO.lks {x y : Operand} {T b : Nat} {S : ByteArray → Bool} {n : ByteArray} (hT : IsSetS P T) (hx : OV env x (.map (some b))) (hy : OV env y (.string n)) (hi : ∀ w, St β L w → (setRs b S).inv w) : LO P β env L ⟨d, .lookup T x y false, ty, pos, aft, g⟩ (.bool (S n)) :=
  .of_run fun a w h hw => ⟨w, by
    have := run_lookup_sets (n := n) hT (hi w hw)
    skip
    simp [execOp, h x (by simp [Op.operands]) _ hx, h y (by simp [Op.operands]) _ hy, this], hw⟩
def insS (S : ByteArray → Bool) (n : ByteArray) : ByteArray → Bool := fun m => decide (m = n) || S m
theorem run_mapUpdate_sets {T b : Nat} {S : ByteArray → Bool} {n : ByteArray} {w : World} (hT : IsSetS P T) (i : Nat) (hw : St β L w) (hi : L[i]? = some (setRs b S)) :
    ∃ w', (Instr.mapUpdate T (.map (some b)) (.string n) (.bool true)).run P w = .ok () w' ∧ St β (L.set i (setRs b (insS S n))) w' := by
  obtain ⟨K, E, hu, hK, hz⟩ := hT
  obtain ⟨es, clock, hb, hs⟩ := hw.inv i _ hi
  have hobj : (getObj b).run P w = .ok (.map es clock) w := by simp [getObj, Sem.run, hb]
  have hlt : i < L.length := by
    rcases Nat.lt_or_ge i L.length with q | q
    · exact q
    · simp [List.getElem?_eq_none q] at hi
  have hset : ∀ o, (setObj b o).run P w = .ok () (w.putObj b o) := fun o => by simp [setObj, Sem.run, hb, World.putObj]
  -- the set's block «as» a block
  have h1 : St β (L.set i (blk b (.map es clock))) w := hw.conv i hi (fun k hk => hk) hb
  have upd : ∀ es' clock', SetS es'.toList (insS S n) → St β (L.set i (setRs b (insS S n))) (w.putObj b (.map es' clock')) := by
    intro es' clock' hse
    have hg : (L.set i (blk b (.map es clock)))[i]? = some (blk b (.map es clock)) := by simp [hlt]
    have h2 := h1.obj (o' := .map es' clock') i hg
    rw [List.set_set] at h2
    have hg2 : (L.set i (blk b (.map es' clock')))[i]? = some (blk b (.map es' clock')) := by simp [hlt]
    have h3 := h2.conv i (r' := setRs b (insS S n)) hg2 (fun k hk => hk) ⟨es', clock', h2.inv i _ hg2, hse⟩
    rwa [List.set_set] at h3
  simp only [Instr.mapUpdate, Sem.run_bind, run_underlying hu, Result.andThen_ok, hobj, checkKey_str hK, Instr.findKey, run_underlying hK]
  rcases findNow_sets (n := n) (es := es.toList) 0 (fun e he => by obtain ⟨m, h1, h2,_⟩ := hs.ent e he; exact ⟨m, h1, h2⟩) with ⟨j, h1', h2, e, h3, h4⟩ | ⟨h1', h2⟩
  · rw [h1']
    simp only [Nat.sub_zero] at h3
    have hj : es[j]? = some e := by simpa using h3
    have hjl : j < es.size := (Array.getElem?_eq_some_iff.1 hj).1
    have hme : es[j] = e := (Array.getElem?_eq_some_iff.1 hj).2
    obtain ⟨m, g1, g2, g3⟩ := hs.ent e (List.mem_of_getElem? h3)
    have hmn : m = n := strV_inj (g1.symm.trans h4)
    subst hmn
    have hmod : (es.modify j fun e => { e with key := .string m, val := .bool true }) = es := by
      apply Array.ext
      · simp
      · intro k hk1 hk2
        rw [Array.getElem_modify]
        split
        · rename_i q
          subst q
          rw [hme, ← g1, ← g2]
        · rfl
    refine ⟨w.putObj b (.map es clock), ?_, upd es clock ?_⟩
    · simp [hj, g1, Instr.keyThatStays, Instr.sameBits, ba_refl]
      rw [show (es.modify j fun e => { key := Value.string m, val := Value.bool true, born := e.born }) = es from hmod, hset]
    · refine ⟨fun e' he' => ?_, fun k hk => ?_, hs.nod⟩
      · obtain ⟨a, b1, b2, b3⟩ := hs.ent e' he'
        exact ⟨a, b1, b2, by simp [insS, b3]⟩
      · simp only [insS, Bool.or_eq_true, decide_eq_true_eq] at hk
        rcases hk with rfl | hk
        · exact hs.mem _ g3
        · exact hs.mem k hk
  · rw [h1']
    refine ⟨_, hset _, upd (es.push { key := .string n, val := .bool true, born := clock }) (clock + 1) ?_⟩
    refine ⟨fun e' he' => ?_, fun k hk => ?_, ?_⟩
    · simp only [Array.toList_push, List.mem_append, List.mem_singleton] at he'
      rcases he' with he' | rfl
      · obtain ⟨a, b1, b2, b3⟩ := hs.ent e' he'
        exact ⟨a, b1, b2, by simp [insS, b3]⟩
      · exact ⟨n, rfl, rfl, by simp [insS]⟩
    · simp only [insS, Bool.or_eq_true, decide_eq_true_eq] at hk
      by_cases q : k = n
      · exact ⟨{ key := .string n, val := .bool true, born := clock }, by simp, by rw [q]⟩
      · obtain ⟨e, he, hke⟩ := hs.mem k (by simpa [q] using hk)
        exact ⟨e, by simp [he], hke⟩
    · simp only [Array.toList_push]
      rw [List.pairwise_append]
      refine ⟨hs.nod, by simp, ?_⟩
      intro a ha b hb
      simp at hb; subst hb
      exact h2 a ha
section
variable {K : Value → List Res → Prop} {dd : Option Nat}
theorem HO.mksets {T : Nat} (k : ∀ b, K (.map (some b)) (setRs b (fun _ => false) :: L)) : HO P β env L ⟨dd, .makeMap T none, ty, pos, aft, none⟩ K := by
  intro a w h hw
  refine .inl ⟨_, w.alloc (.map #[] 0),_,_, ?_, .inl rfl, k w.heap.size, ?_⟩
  · simp [execOp, run_makeMap]
  · have h1 := hw.alloc (.map #[] 0)
    have := h1.conv 0 (r' := setRs w.heap.size (fun _ => false)) rfl (fun k hk => hk) ⟨#[], 0, h1.inv 0 _ rfl, by simp, by simp, by simp⟩
    simpa using this
theorem HO.mus (i : Nat) (LF : Res → List Res) {x y z : Operand} {T b : Nat} {S : ByteArray → Bool} {n : ByteArray} (hT : IsSetS P T) (hx : OV env x (.map (some b))) (hy : OV env y (.string n)) (hz : OV env z (.bool true)) (hi : L[i]? = some (setRs b S)) (hL : ∀ R : Res, L.set i R = LF R)
    (k : K undef (LF (setRs b (insS S n)))) : HO P β env L ⟨dd, .mapUpdate T x y z, ty, pos, aft, none⟩ K := by
  intro a w h hw
  obtain ⟨w', h1, h2⟩ := run_mapUpdate_sets (n := n) hT i hw hi
  skip
  refine .inl ⟨.skip, w', undef,_, ?_, .inr ⟨rfl, rfl⟩, k, by rw [← hL]; exact h2⟩
  have ex : a.eval x = .map (some b) := by obtain ⟨u, hu, e⟩ := hx; subst e; exact h x (by simp [Op.operands]) _ hu
  have ey : a.eval y = .string n := by obtain ⟨u, hu, e⟩ := hy; subst e; exact h y (by simp [Op.operands]) _ hu
  have ez : a.eval z = .bool true := by obtain ⟨u, hu, e⟩ := hz; subst e; exact h z (by simp [Op.operands]) _ hu
  simp [execOp, ex, ey, ez, h1]
end
end
section
variable {P : Program} {ro : Option Nat} {β : Bs} {N : Nat} {ds : List Deferred} {env : Env} {L : List Res} {Q : Exit → Act → World → Prop}
  {ty : TypeId} {pos : String} {aft : Array Edge} {g : Option (Nat × Bool)}
theorem set_self {α : Type} {l : List α} {i : Nat} {x : α} (h : l[i]? = some x) : l.set i x = l := by
  refine List.ext_getElem? fun j => ?_
  rw [List.getElem?_set]
  split
  · rename_i q; subst q; rw [h]; split
    · rfl
    · rename_i q; rw [List.getElem?_eq_none (by omega)] at h; cases h
  · rfl
theorem zeroCells_mem {zs : Array Value} {n : Nat} {u : Value} (h : u ∈ (Builtin.zeroCells zs n).toList) : u ∈ zs.toList := by
  unfold Builtin.zeroCells at h
  rw [Array.toList_map, List.mem_map] at h
  obtain ⟨i, hi, rfl⟩ := h
  have h0 : 0 < zs.size := by
    rw [Array.toList_range, List.mem_range] at hi
    rcases Nat.eq_zero_or_pos zs.size with q | q
    · rw [q] at hi; omega
    · exact q
  have hm : i % zs.size < zs.size := Nat.mod_lt _ h0
  rw [getElem!_pos zs _ hm]
  exact Array.getElem_mem_toList hm
theorem St.ownRow {w : World} (hw : St β L w) (i : Nat) {E z cap : Nat} {ad : Addr} {rows rows' : List (List Value)} {C C' : Array Value} {sp : List Value} (hi : L[i]? = some (own E z (some ad) cap rows)) (hC : w.heap[ad.block]? = some (.cells C E (0,0)))
    (h1 : rows'.length ≤ cap) (h2 : ∀ r ∈ rows', r.length = z) (h3 : C'.toList = rows'.flatten ++ sp) (h4 : C'.size = C.size) : St β (L.set i (own E z (some ad) cap rows')) (w.setRow ad.block C') := by
  obtain ⟨g1, g2, g3, g4⟩ := hw.inv i _ hi
  have hlt : i < L.length := by
    rcases Nat.lt_or_ge i L.length with q | q
    · exact q
    · simp [List.getElem?_eq_none q] at hi
  obtain ⟨k1, k2, D, sp0, k3, k4, k5⟩ := g4 ad rfl
  rw [hC] at k3
  cases k3
  have s1 : St β (L.set i (blk ad.block (.cells C E))) w := hw.conv i hi (fun k hk => ⟨by simp, hk⟩) hC
  have hg : (L.set i (blk ad.block (.cells C E)))[i]? = some (blk ad.block (.cells C E)) := by simp [hlt]
  have s2 := s1.setRow (C' := C') hg
  rw [List.set_set] at s2
  have hg2 : (L.set i (blk ad.block (.cells C' E)))[i]? = some (blk ad.block (.cells C' E)) := by simp [hlt]
  have s3 := s2.conv i (r' := own E z (some ad) cap rows') hg2 (fun k hk => hk.2) ⟨h1, h2, fun e => (by cases e), fun a' ha' => by cases ha'; exact ⟨k1, k2, C', sp, s2.inv i _ hg2, h3, by rw [h4, k5]⟩⟩
  rwa [List.set_set] at s3
theorem HO.clr (i k : Nat) (LF : Res → List Res) {K : Value → List Res → Prop} {dd : Option Nat} {x : Operand} {T E z cap n : Nat} {p : Option Addr} {zero : Value} {rows : List (List Value)} {aT : Array TypeId} (hT : IsSlice P T E) (hz : ZeroOf P E zero) (hzs : zero.cells.size = z) (hz1 : allOne zero.cells.toList = true)
    (hx : OV env x (.slice (slFrom p cap k z) (n - k) (cap - k))) (hi : L[i]? = some (own E z p cap rows)) (hn : n = rows.length) (hk : k ≤ rows.length) (ha : aT[0]? = some T) (hL : ∀ R : Res, L.set i R = LF R)
    (kk : K (.tuple #[]) (LF (own E z p cap (rows.take k)))) : HO P β env L ⟨dd, .call ⟨.builtin .clear, #[x], aT⟩, ty, pos, aft, none⟩ K := by
  intro a w h hw
  have ex : a.eval x = .slice (slFrom p cap k z) (n - k) (cap - k) := by obtain ⟨u, hu, e⟩ := hx; subst e; exact h x (by simp [Op.operands, Call.operands]) _ hu
  obtain ⟨g1, g2, g3, g4⟩ := hw.inv i _ hi
  have hlt : i < L.length := by
    rcases Nat.lt_or_ge i L.length with q | q
    · exact q
    · simp [List.getElem?_eq_none q] at hi
  subst hn
  rcases Nat.lt_or_ge k rows.length with q | q
  · cases p with
    | none => rw [(g3 rfl).1] at q; simp at q
    | some ad =>
      obtain ⟨k1, k2, C, sp, k3, k4, k5⟩ := g4 ad rfl
      have hfl : rows.flatten.length = rows.length * z := flatten_len g2
      have hCl : C.size = C.toList.length := by simp
      have hmul : k * z + (rows.length - k) * z = rows.length * z := by rw [← Nat.add_mul]; congr 1; omega
      have hzl : (Builtin.zeroCells zero.cells (rows.length - k)).toList.length = (rows.length - k) * z := by
        rw [Array.length_toList, zeroCells_size, hzs]
      have hfit : k * z + (Builtin.zeroCells zero.cells (rows.length - k)).toList.length ≤ C.size := by
        rw [hzl, hCl, k4, List.length_append, hfl]; omega
      have h1 : ∀ u ∈ (Builtin.zeroCells zero.cells (rows.length - k)).toList, u.oneCell' = true := fun u hu => allOne_spec hz1 u (zeroCells_mem hu)
      have hrun := run_storeCells_at P ad.block (k * z) E (Builtin.zeroCells zero.cells (rows.length - k)).toList 0 C w k3 (by simpa using hfit) h1
      simp only [Nat.add_zero] at hrun
      have hsl : slFrom (some ad) cap k z = some ⟨ad.block, k * z, none⟩ := by
        unfold slFrom
        rw [if_neg (by omega)]
        simp only [Option.map_some]
        congr 1
        unfold Addr.add
        cases ad; simp_all
      have hne : ∃ m, rows.length - k = m + 1 := ⟨rows.length - k - 1, by omega⟩
      have hev : (Builtin.clear_ aT ty #[.slice (slFrom (some ad) cap k z) (rows.length - k) (cap - k)]).run P w = .ok (.tuple #[]) (w.setRow ad.block (C.toList.take (k * z) ++ (Builtin.zeroCells zero.cells (rows.length - k)).toList ++ C.toList.drop (k * z + (Builtin.zeroCells zero.cells (rows.length - k)).toList.length)).toArray) := by
        obtain ⟨m, hm⟩ := hne
        rw [hm] at hrun ⊢
        simp [Builtin.clear_, ha, run_underlying hT, hsl, run_zero hz, hrun]
      refine .inl ⟨.value (.tuple #[]), w.setRow ad.block (C.toList.take (k * z) ++ (Builtin.zeroCells zero.cells (rows.length - k)).toList ++ C.toList.drop (k * z + (Builtin.zeroCells zero.cells (rows.length - k)).toList.length)).toArray, .tuple #[],_, ?_, .inl rfl, kk, ?_⟩
      · simp only [execOp, resolve, invoke, builtin, ex, List.map_toArray, List.map_cons, List.map_nil, Sem.run_bind, Sem.run_pure, Result.andThen_ok, hev]
      · rw [← hL]
        refine hw.ownRow i (sp := (Builtin.zeroCells zero.cells (rows.length - k)).toList ++ C.toList.drop (k * z + (Builtin.zeroCells zero.cells (rows.length - k)).toList.length)) hi k3 (by rw [List.length_take]; omega) (fun r hr => g2 r (List.mem_of_mem_take hr)) ?_ ?_
        · have : C.toList.take (k * z) = (rows.take k).flatten := by
            have e1 : ((rows.take k).flatten ++ (rows.drop k).flatten) = rows.flatten := by rw [← List.flatten_append, List.take_append_drop]
            have e2 : (rows.take k).flatten.length = k * z := by rw [flatten_len (fun r hr => g2 r (List.mem_of_mem_take hr)), List.length_take]; congr 1; omega
            rw [k4, ← e1, List.append_assoc, List.take_append_of_le_length (by omega), ← e2, List.take_length]
          simp [this]
        · rw [List.size_toArray, List.length_append, List.length_append, List.length_take, List.length_drop]; omega
  · have hke : k = rows.length := by omega
    have hev : (Builtin.clear_ aT ty #[.slice (slFrom p cap k z) (rows.length - k) (cap - k)]).run P w = .ok (.tuple #[]) w := by
      rw [show rows.length - k = 0 by omega]
      cases slFrom p cap k z <;> simp [Builtin.clear_, ha, run_underlying hT]
    refine .inl ⟨.value (.tuple #[]), w, .tuple #[],_, ?_, .inl rfl, kk, ?_⟩
    · simp only [execOp, resolve, invoke, builtin, ex, List.map_toArray, List.map_cons, List.map_nil, Sem.run_bind, Sem.run_pure, Result.andThen_ok, hev]
    · rw [← hL, List.take_of_length_le (by omega), set_self hi]
      exact hw
theorem LO.mf2 {d : Option Nat} {fn : Fn} {ys xs : List Operand} {first cap : List Value} (hy : OVs env ys first) (hx : OVs env xs cap) : LO P β env L ⟨d, .makeFunc fn ys.toArray xs.toArray, ty, pos, aft, g⟩ (.func fn first.toArray cap.toArray) :=
  .of_run fun a w h hw => ⟨w, by
    have hm : xs.map a.eval = cap := hx.map fun x hm u hu => h x (by simp [Op.operands, hm]) u hu
    have hm2 : ys.map a.eval = first := hy.map fun x hm u hu => h x (by simp [Op.operands, hm]) u hu
    simp [execOp, Instr.makeFunc, hm, hm2], hw⟩
theorem HO.callP {α : Type} (L1 L2 : List Res) {K : Value → List Res → Prop} {dd : Option Nat} {f : FuncId} {fx : Operand} {xs : List Operand} {vs first cap : List Value} {aT : Array TypeId} {v : α → Value} {R : α → List Res} {I : α → Prop} (hL : ∀ w, St β L w → St β (L1 ++ L2) w) (hfx : OV env fx (.func (.func f) first.toArray cap.toArray)) (hf : IsFn P f) (hx : OVs env xs vs)
    (hc : ∀ w, St β L w → Has w L1 → Calls P f (first ++ vs ++ cap).toArray w fun e w' => ∃ x, I x ∧ e = .returned (v x) ∧ St ⟨w, fpL L1⟩ (R x) w') (k : ∀ x, I x → K (v x) (R x ++ L2)) : HO P β env L ⟨dd, .call ⟨.value fx, xs.toArray, aT⟩, ty, pos, aft, none⟩ K := by
  intro a w h hw
  refine .inr (.inl ⟨f, (first ++ vs ++ cap).toArray, ?_, ?_⟩)
  · have hm : xs.map a.eval = vs := hx.map fun x hm u hu => by obtain ⟨u', hu', e⟩ := hu; subst e; exact h x (by simp [Op.operands, Call.operands, hm]) u' hu'
    have hfe : a.eval fx = .func (.func f) first.toArray cap.toArray := by obtain ⟨u', hu', e⟩ := hfx; subst e; exact h fx (by simp [Op.operands, Call.operands]) _ hu'
    simp [execOp, resolve, hfe, Deferred.ofValue, invoke, run_call hf, hm]
  · have hw2 : St β (L1 ++ L2) w := hL w hw
    exact (hc w hw hw2.hasL).mono fun e w' ⟨x, hI, he, hs⟩ => ⟨v x,_, he, k x hI, hw2.callG (fun k hk => hk) hs⟩
end
section
variable {P : Program} {ro : Option Nat} {β : Bs} {N : Nat} {ds : List Deferred} {env : Env} {L : List Res} {Q : Exit → Act → World → Prop}
  {ty : TypeId} {pos : String} {aft : Array Edge} {g : Option (Nat × Bool)}
theorem LO.neB {d : Option Nat} {x y : Operand} {T T2 : TypeId} {b c : Bool} (hT : P.underlying T = some .bool) (hx : OV env x (.bool b)) (hy : OV env y (.bool c)) : LO P β env L ⟨d, .binOp .neq T x y T2, ty, pos, aft, g⟩ (.bool (decide (¬ b = c))) :=
  .of_run fun a w h hw => ⟨w, by
    have key : (Op.equalIn Op.maxDepth T (.bool b) (.bool c)).run P w = .ok (b == c) w := by
      show (Op.equalIn (9999 + 1) T (.bool b) (.bool c)).run P w = _
      unfold Op.equalIn
      rw [Sem.run_bind, run_underlying hT]
      rfl
    have e : decide (¬ b = c) = !(b == c) := by cases b <;> cases c <;> rfl
    rw [e]
    simp [execOp, h x (by simp [Op.operands]) _ hx, h y (by simp [Op.operands]) _ hy, eqGuard, binOp, Op.equal, key], hw⟩
end
section
variable {P : Program} {ro : Option Nat} {β : Bs} {N : Nat} {ds : List Deferred} {env : Env} {L : List Res} {Q : Exit → Act → World → Prop}
  {ty : TypeId} {pos : String} {aft : Array Edge} {g : Option (Nat × Bool)}
def Meth (P : Program) (T : TypeId) (rv : Value) (name : String) (f : FuncId) : Prop := ∀ w, (method (P.types.size + Made.depth) T rv name).run P w = .ok (f, rv) w
theorem run_invokeM {T : TypeId} {rv : Value} {name : String} {f : FuncId} (hm : Meth P T rv name f) (hf : IsFn P f) (vs : List Value) (w : World) : (invoke (.fn (.method name) #[]) (#[.iface T rv] ++ vs.toArray)).run P w = .ok (.enter f (rv :: vs).toArray) w := by
  have e1 : (#[Value.iface T rv] ++ vs.toArray)[0]? = some (.iface T rv) := by simp
  have e2 : (#[Value.iface T rv] ++ vs.toArray).extract 1 (#[Value.iface T rv] ++ vs.toArray).size = vs.toArray := by
    apply Array.ext'
    simp
  have e3 : (#[rv] ++ vs.toArray) = (rv :: vs).toArray := by apply Array.ext'; simp
  unfold invoke
  simp only [e1]
  rw [e2]
  unfold callMethod
  simp only [Sem.run_bind, run_program, Result.andThen_ok, hm w, e3]
  exact run_call hf _ w
theorem HO.inv {α : Type} (L1 L2 : List Res) {K : Value → List Res → Prop} {dd : Option Nat} {f : FuncId} {rx : Operand} {T : TypeId} {rv : Value} {name : String} {xs : List Operand} {vs : List Value} {aT : Array TypeId} {v : α → Value} {R : α → List Res} {I : α → Prop} (hL : ∀ w, St β L w → St β (L1 ++ L2) w) (hr : OV env rx (.iface T rv)) (hm : Meth P T rv name f) (hf : IsFn P f) (hx : OVs env xs vs)
    (hc : ∀ w, St β L w → Has w L1 → Calls P f (rv :: vs).toArray w fun e w' => ∃ x, I x ∧ e = .returned (v x) ∧ St ⟨w, fpL L1⟩ (R x) w') (k : ∀ x, I x → K (v x) (R x ++ L2)) : HO P β env L ⟨dd, .call ⟨.invoke rx name, xs.toArray, aT⟩, ty, pos, aft, none⟩ K := by
  intro a w h hw
  refine .inr (.inl ⟨f, (rv :: vs).toArray, ?_, ?_⟩)
  · have hmm : xs.map a.eval = vs := hx.map fun x hm u hu => by obtain ⟨u', hu', e⟩ := hu; subst e; exact h x (by simp [Op.operands, Call.operands, hm]) u' hu'
    have hre : a.eval rx = .iface T rv := by obtain ⟨u', hu', e⟩ := hr; subst e; exact h rx (by simp [Op.operands, Call.operands]) _ hu'
    simp only [execOp, resolve, hre, Sem.run_bind, Sem.run_pure, Result.andThen_ok]
    rw [show (xs.toArray.map a.eval) = vs.toArray by rw [← hmm]; simp]
    exact run_invokeM hm hf vs w
  · have hw2 : St β (L1 ++ L2) w := hL w hw
    exact (hc w hw hw2.hasL).mono fun e w' ⟨x, hI, he, hs⟩ => ⟨v x,_, he, k x hI, hw2.callG (fun k hk => hk) hs⟩
theorem HO.invx {α : Type} {K : Value → List Res → Prop} {dd : Option Nat} {f : FuncId} {rx : Operand} {T : TypeId} {rv : Value} {name : String} {xs : List Operand} {vs : List Value} {aT : Array TypeId} {v : α → Value} {R : α → List Res} {I : α → Prop} (hr : OV env rx (.iface T rv)) (hm : Meth P T rv name f) (hf : IsFn P f) (hx : OVs env xs vs)
    (hc : ∀ w, St β L w → Calls P f (rv :: vs).toArray w fun e w' => ∃ x, I x ∧ e = .returned (v x) ∧ St (Go.SL.bs w) (R x) w') (k : ∀ x, I x → K (v x) (R x ++ L)) : HO P β env L ⟨dd, .call ⟨.invoke rx name, xs.toArray, aT⟩, ty, pos, aft, none⟩ K := by
  intro a w h hw
  refine .inr (.inl ⟨f, (rv :: vs).toArray, ?_, ?_⟩)
  · have hmm : xs.map a.eval = vs := hx.map fun x hm u hu => by obtain ⟨u', hu', e⟩ := hu; subst e; exact h x (by simp [Op.operands, Call.operands, hm]) u' hu'
    have hre : a.eval rx = .iface T rv := by obtain ⟨u', hu', e⟩ := hr; subst e; exact h rx (by simp [Op.operands, Call.operands]) _ hu'
    simp only [execOp, resolve, hre, Sem.run_bind, Sem.run_pure, Result.andThen_ok]
    rw [show (xs.toArray.map a.eval) = vs.toArray by rw [← hmm]; simp]
    exact run_invokeM hm hf vs w
  · exact (hc w hw).mono fun e w' ⟨x, hI, he, hs⟩ => ⟨v x,_, he, k x hI, hw.call hs⟩
end
structure MapE (es : List MapEntry) (M : Int → Option Int) : Prop where
  ent : ∀ e, e ∈ es → ∃ n v, e.key = intV n ∧ e.val = intV v ∧ M n = some v
  mem : ∀ n v, M n = some v → ∃ e, e ∈ es ∧ e.key = intV n ∧ e.val = intV v
  nod : es.Pairwise fun a b => a.key ≠ b.key
def updI (M : Int → Option Int) (n v : Int) : Int → Option Int := fun m => if m = n then some v else M m
theorem findNow_int {k : IntKind} {n : Int} : ∀ {es : List MapEntry} (i : Nat), (∀ e, e ∈ es → ∃ m, e.key = intV m) →
    (∃ j e, Instr.findNow (.int k) (intV n) es i = some (some (j, e.val)) ∧ i ≤ j ∧ es[j - i]? = some e ∧ e.key = intV n) ∨ (Instr.findNow (.int k) (intV n) es i = some none ∧ ∀ e, e ∈ es → e.key ≠ intV n)
  | [], i,_ => .inr ⟨rfl, by simp⟩
  | e :: es, i, h => by
    obtain ⟨m, hm⟩ := h e (by simp)
    simp only [Instr.findNow, hm, intV, Instr.sameNow, if_true]
    by_cases q : n = m
    · subst q
      left
      simp only [beq_self_eq_true]
      exact ⟨i, e, rfl, Nat.le_refl _, by simp, hm⟩
    · have : (n == m) = false := by simp [q]
      rw [this]
      rcases findNow_int (k := k) (n := n) (es := es) (i + 1) (fun e' he => h e' (by simp [he])) with ⟨j, e', h1, h2, h3, h4⟩ | ⟨h1, h2⟩
      · left
        refine ⟨j, e', h1, by omega, ?_, h4⟩
        rw [show j - i = (j - (i + 1)) + 1 by omega]
        simpa using h3
      · right
        refine ⟨h1, ?_⟩
        intro e' he
        rcases List.mem_cons.1 he with rfl | he
        · rw [hm]; exact fun e => q (intV_inj e).symm
        · exact h2 e' he
theorem mapE_get {es : List MapEntry} {M : Int → Option Int} (h : MapE es M) {e : MapEntry} {n : Int} (he : e ∈ es) (hk : e.key = intV n) : ∃ v, e.val = intV v ∧ M n = some v := by
  obtain ⟨m, v, h1, h2, h3⟩ := h.ent e he
  have : m = n := intV_inj (h1.symm.trans hk)
  subst this
  exact ⟨v, h2, h3⟩
theorem mapE_none {es : List MapEntry} {M : Int → Option Int} (h : MapE es M) {n : Int} (hn : ∀ e, e ∈ es → e.key ≠ intV n) : M n = none := by
  cases q : M n with
  | none => rfl
  | some v => obtain ⟨e, h1, h2,_⟩ := h.mem n v q; exact absurd h2 (hn e h1)
theorem mapE_nil : MapE [] (fun _ => none) := ⟨fun _ h => (by cases h), fun _ _ h => (by cases h), List.Pairwise.nil⟩
theorem mapE_push {es : List MapEntry} {M : Int → Option Int} (h : MapE es M) {n v : Int} {c : Nat} (hn : ∀ e, e ∈ es → e.key ≠ intV n) : MapE (es ++ [⟨intV n, intV v, c⟩]) (updI M n v) := by
  refine ⟨fun e he => ?_, fun m u hm => ?_, ?_⟩
  · rcases List.mem_append.1 he with q | q
    · obtain ⟨m, u, h1, h2, h3⟩ := h.ent e q
      refine ⟨m, u, h1, h2, ?_⟩
      unfold updI
      rw [if_neg (fun z => hn e q (by rw [h1, z]))]; exact h3
    · have := List.mem_singleton.1 q; subst this
      exact ⟨n, v, rfl, rfl, if_pos rfl⟩
  · unfold updI at hm
    split at hm
    · rename_i q; cases hm; subst q; exact ⟨_, List.mem_append_right _ (List.mem_singleton.2 rfl), rfl, rfl⟩
    · obtain ⟨e, h1, h2, h3⟩ := h.mem m u hm; exact ⟨e, List.mem_append_left _ h1, h2, h3⟩
  · rw [List.pairwise_append]
    refine ⟨h.nod, by simp, fun a ha b hb => ?_⟩
    have := List.mem_singleton.1 hb; subst this
    exact hn a ha
theorem mapE_set {es : List MapEntry} {M : Int → Option Int} (h : MapE es M) {j : Nat} {e : MapEntry} {n v : Int} (hj : es[j]? = some e) (hk : e.key = intV n) : MapE (es.set j ⟨intV n, intV v, e.born⟩) (updI M n v) := by
  have hjl := (List.getElem?_eq_some_iff.1 hj).1
  have hje := (List.getElem?_eq_some_iff.1 hj).2
  have hkey : ∀ i (h1 : i < (es.set j ⟨intV n, intV v, e.born⟩).length) (h2 : i < es.length), (es.set j ⟨intV n, intV v, e.born⟩)[i].key = es[i].key := fun i h1 h2 => by
    rw [List.getElem_set]
    split
    · rename_i q; subst q; rw [hje, hk]
    · rfl
  have hne : ∀ i, i < es.length → (hi : i < es.length) → i ≠ j → es[i].key ≠ intV n := fun i _ hi hij z => by
    have pw := List.pairwise_iff_getElem.1 h.nod
    rcases Nat.lt_or_gt_of_ne hij with q | q
    · exact pw i j hi hjl q (by rw [z, hje, hk])
    · exact pw j i hjl hi q (by rw [z, hje, hk])
  refine ⟨fun x hx => ?_, fun m u hm => ?_, ?_⟩
  · obtain ⟨i, hi, rfl⟩ := List.getElem_of_mem hx
    have hi2 : i < es.length := by simpa using hi
    by_cases q : j = i
    · subst q
      rw [List.getElem_set_self]
      exact ⟨n, v, rfl, rfl, if_pos rfl⟩
    · rw [List.getElem_set_ne q]
      obtain ⟨m, u, h1, h2, h3⟩ := h.ent _ (List.getElem_mem hi2)
      refine ⟨m, u, h1, h2, ?_⟩
      unfold updI
      rw [if_neg (fun z => hne i hi2 hi2 (fun y => q y.symm) (by rw [h1, z]))]; exact h3
  · unfold updI at hm
    split at hm
    · rename_i q; cases hm; subst q
      exact ⟨_, List.mem_of_getElem? (i := j) (by rw [List.getElem?_set_self hjl]), rfl, rfl⟩
    · rename_i q
      obtain ⟨x, h1, h2, h3⟩ := h.mem m u hm
      obtain ⟨i, hi, rfl⟩ := List.getElem_of_mem h1
      have hij : j ≠ i := fun z => by subst z; rw [hje, hk] at h2; exact q (intV_inj h2).symm
      exact ⟨_, List.mem_of_getElem? (i := i) (by rw [List.getElem?_set_ne hij, List.getElem?_eq_getElem hi]), h2, h3⟩
  · rw [List.pairwise_iff_getElem]
    intro a b ha hb hab
    rw [hkey a ha (by simpa using ha), hkey b hb (by simpa using hb)]
    exact List.pairwise_iff_getElem.1 h.nod a b _ _ hab
theorem stamps_set {es : List MapEntry} {j c : Nat} {e : MapEntry} {k v : Value} (h : Stamps es c) (hj : es[j]? = some e) : Stamps (es.set j ⟨k, v, e.born⟩) c := by
  have hm : (es.set j ⟨k, v, e.born⟩).map (·.born) = es.map (·.born) := by
    rw [List.map_set]
    refine List.ext_getElem? fun i => ?_
    by_cases q : j = i
    · subst q
      have := (List.getElem?_eq_some_iff.1 hj).1
      rw [List.getElem?_set_self (by simpa using this), List.getElem?_map, hj]; rfl
    · rw [List.getElem?_set_ne q]
  refine ⟨by rw [hm]; exact h.1, fun x hx => ?_⟩
  have : x.born ∈ (es.set j ⟨k, v, e.born⟩).map (·.born) := List.mem_map_of_mem hx
  rw [hm] at this
  obtain ⟨y, h1, h2⟩ := List.mem_map.1 this
  rw [← h2]; exact h.2 y h1
theorem stamps_push {es : List MapEntry} {c : Nat} {k v : Value} (h : Stamps es c) : Stamps (es ++ [⟨k, v, c⟩]) (c + 1) := by
  refine ⟨?_, fun x hx => ?_⟩
  · rw [List.map_append, List.nodup_append]
    refine ⟨h.1, by simp, ?_⟩
    intro a ha b hb
    obtain ⟨x, hx, rfl⟩ := List.mem_map.1 ha
    have := h.2 x hx
    simp at hb
    omega
  · rcases List.mem_append.1 hx with q | q
    · have := h.2 x q; omega
    · have := List.mem_singleton.1 q; subst this; exact Nat.lt_succ_self _
theorem modify_set {es : Array MapEntry} {j : Nat} {e : MapEntry} {f : MapEntry → MapEntry} (hj : es.toList[j]? = some e) : (es.modify j f).toList = es.toList.set j (f e) := by
  refine List.ext_getElem? fun i => ?_
  have hjl := (List.getElem?_eq_some_iff.1 hj).1
  rw [Array.toList_modify]
  by_cases q : j = i
  · subst q
    rw [List.getElem?_modify_eq, hj, List.getElem?_set_self hjl]; rfl
  · rw [List.getElem?_set_ne q]; simp [List.getElem?_modify, q]
section
variable {P : Program} {ro : Option Nat} {β : Bs} {N : Nat} {ds : List Deferred} {env : Env} {L : List Res} {Q : Exit → Act → World → Prop}
variable {d : Option Nat} {ty : TypeId} {pos : String} {aft : Array Edge} {g : Option (Nat × Bool)}
def IsMapI (P : Program) (T : Nat) : Prop := ∃ K E k, P.underlying T = some (.map K E) ∧ P.underlying K = some (.int k) ∧ ZeroOf P E (.int .i64 0)
theorem run_lookup_mi {T b : Nat} {M : Int → Option Int} {n : Int} {w : World} {es : Array MapEntry} {clock : Nat} (hT : IsMapI P T) (hb : w.heap[b]? = some (.map es clock)) (hs : MapE es.toList M) : (Instr.lookup T (.map (some b)) (intV n) true).run P w = .ok (.tuple #[intV ((M n).getD 0), .bool (M n).isSome]) w := by
  obtain ⟨K, E, k, hu, hK, hz⟩ := hT
  have hobj : (getObj b).run P w = .ok (.map es clock) w := by simp [getObj, Sem.run, hb]
  simp only [Instr.lookup, Sem.run_bind, run_underlying hu, Result.andThen_ok, hobj, Sem.run_pure, checkKey_int hK, Instr.findKey, run_underlying hK]
  rcases findNow_int (k := k) (n := n) (es := es.toList) 0 (fun e he => by obtain ⟨m,_, h1,_⟩ := hs.ent e he; exact ⟨m, h1⟩) with ⟨j, e, h1, h2, h3, h4⟩ | ⟨h1, h2⟩
  · rw [h1]
    obtain ⟨v, g1, g2⟩ := mapE_get hs (List.mem_of_getElem? h3) h4
    simp [g1, g2]
  · rw [h1, mapE_none hs h2]
    simp [run_zero hz, intV]
theorem LO.lk2 {x y : Operand} {T b : Nat} {M : Int → Option Int} {n : Int} (hT : IsMapI P T) (hx : OV env x (.map (some b))) (hy : OV env y (.int .i64 n)) (hi : ∀ w, St β L w → ∃ (es : Array MapEntry) (clock : Nat), w.heap[b]? = some (.map es clock) ∧ MapE es.toList M) : LO P β env L ⟨d, .lookup T x y true, ty, pos, aft, g⟩ (.tuple #[.int .i64 ((M n).getD 0), .bool (M n).isSome]) :=
  .of_run fun a w h hw => ⟨w, by
    obtain ⟨es, clock, h1, h2⟩ := hi w hw
    have := run_lookup_mi (n := n) hT h1 h2
    simp only [intV] at this
    simp [execOp, h x (by simp [Op.operands]) _ hx, h y (by simp [Op.operands]) _ hy, this], hw⟩
section
variable {K : Value → List Res → Prop} {dd : Option Nat}
theorem HO.mkmapI {T : Nat} (k : ∀ b, K (.map (some b)) (blk b (.map #[] 0) :: L)) : HO P β env L ⟨dd, .makeMap T none, ty, pos, aft, none⟩ K := by
  intro a w h hw
  refine .inl ⟨_, w.alloc (.map #[] 0),_,_, ?_, .inl rfl, k w.heap.size, hw.alloc _⟩
  simp only [execOp]
  rfl
theorem skip_of {s : Sem Unit} {w w' : World} (h : s.run P w = .ok () w') : (s.run P w).andThen (fun _ w => .ok Next.skip w) = .ok Next.skip w' := by rw [h]; rfl
theorem HO.mupI (i : Nat) (LF : Res → List Res) {x y z : Operand} {T b : Nat} {M : Int → Option Int} {n v : Int} {es : Array MapEntry} {clock : Nat} (hT : IsMapI P T) (hx : OV env x (.map (some b))) (hy : OV env y (.int .i64 n)) (hz : OV env z (.int .i64 v)) (hi : L[i]? = some (blk b (.map es clock))) (hs : MapE es.toList M) (hst : Stamps es.toList clock) (hL : ∀ R : Res, L.set i R = LF R)
    (k : ∀ (es' : Array MapEntry) (clock' : Nat), MapE es'.toList (updI M n v) → Stamps es'.toList clock' → K undef (LF (blk b (.map es' clock')))) : HO P β env L ⟨dd, .mapUpdate T x y z, ty, pos, aft, none⟩ K := by
  intro a w h hw
  obtain ⟨KT, E, kk, hu, hK,_⟩ := hT
  have hb : w.heap[b]? = some (.map es clock) := hw.inv i _ hi
  have hobj : (getObj b).run P w = .ok (.map es clock) w := by simp [getObj, Sem.run, hb]
  have hset : ∀ o, (setObj b o).run P w = .ok () (w.putObj b o) := fun o => by simp [setObj, Sem.run, hb, World.putObj]
  have ex : a.eval x = .map (some b) := by obtain ⟨u, hu, e⟩ := hx; subst e; exact h x (by simp [Op.operands]) _ hu
  have ey : a.eval y = intV n := by obtain ⟨u, hu, e⟩ := hy; subst e; exact h y (by simp [Op.operands]) _ hu
  have ez : a.eval z = intV v := by obtain ⟨u, hu, e⟩ := hz; subst e; exact h z (by simp [Op.operands]) _ hu
  rcases findNow_int (k := kk) (n := n) (es := es.toList) 0 (fun e he => by obtain ⟨m,_, h1,_⟩ := hs.ent e he; exact ⟨m, h1⟩) with ⟨j, e, h1, h2, h3, h4⟩ | ⟨h1, h2⟩
  · simp only [Nat.sub_zero] at h3
    have hj : es[j]? = some e := by simpa using h3
    refine .inl ⟨.skip, w.putObj b (.map (es.modify j fun e => { e with key := intV n, val := intV v }) clock), undef,_, ?_, .inr ⟨rfl, rfl⟩, k (es.modify j fun e => { e with key := intV n, val := intV v }) clock (by rw [modify_set h3]; exact mapE_set hs h3 h4) (by rw [modify_set h3]; exact stamps_set hst h3), by rw [← hL]; exact hw.obj i hi⟩
    simp only [execOp, ex, ey, ez, Sem.run_bind, Sem.run_pure]
    refine skip_of ?_
    simp only [Instr.mapUpdate, Sem.run_bind, run_underlying hu, Result.andThen_ok, hobj, checkKey_int hK, Instr.findKey, run_underlying hK]
    rw [h1]
    simp [hj, h4, Instr.keyThatStays, intV, Instr.sameBits]
    exact hset _
  · refine .inl ⟨.skip, w.putObj b (.map (es.push { key := intV n, val := intV v, born := clock }) (clock + 1)), undef,_, ?_, .inr ⟨rfl, rfl⟩, k (es.push { key := intV n, val := intV v, born := clock }) (clock + 1) (by rw [Array.toList_push]; exact mapE_push hs h2) (by rw [Array.toList_push]; exact stamps_push hst), by rw [← hL]; exact hw.obj i hi⟩
    simp only [execOp, ex, ey, ez, Sem.run_bind, Sem.run_pure]
    refine skip_of ?_
    simp only [Instr.mapUpdate, Sem.run_bind, run_underlying hu, Result.andThen_ok, hobj, checkKey_int hK, Instr.findKey, run_underlying hK]
    rw [h1]
    exact hset _
end
theorem LO.entryI {x : Operand} {ib b since clock : Nat} {seen : Array Nat} {es : Array MapEntry} {e : MapEntry} {n v : Int} (hx : OV env x (.pointer (some ⟨ib, 0, none⟩))) (hi : ∀ w, St β L w → w.heap[ib]? = some (.mapIter (some b) since (seen.push e.born) clock)) (hc : ∀ w, St β L w → w.heap[b]? = some (.map es clock)) (he : e ∈ es.toList) (hn : (es.toList.map (·.born)).Nodup) (hk : e.key = intV n) (hv : e.val = intV v) : LO P β env L ⟨d, .entry x, ty, pos, aft, g⟩ (.tuple #[.int .i64 n, .int .i64 v]) := by
  have := LO.entry (P := P) (β := β) (env := env) (L := L) (d := d) (ty := ty) (pos := pos) (aft := aft) (g := g) hx hi hc he hn
  rw [hk, hv] at this
  exact this
theorem LO.taT {x : Operand} {T A : TypeId} {v : Value} (hA : ∃ fs, P.underlying A = some (.struct fs)) (hx : OV env x (.iface A v)) : LO P β env L ⟨d, .typeAssert x T A true, ty, pos, aft, g⟩ (.tuple #[v, .bool true]) :=
  .of_run fun a w h hw => ⟨w, by
    obtain ⟨fs, hA⟩ := hA
    simp [execOp, h x (by simp [Op.operands]) _ hx, Instr.typeAssert, run_underlying hA], hw⟩
theorem LO.taF {x : Operand} {T A B : TypeId} {v z : Value} (hA : ∃ fs, P.underlying A = some (.struct fs)) (hz : ZeroOf P A z) (hx : OV env x (.iface B v)) (hne : B ≠ A) : LO P β env L ⟨d, .typeAssert x T A true, ty, pos, aft, g⟩ (.tuple #[z, .bool false]) :=
  .of_run fun a w h hw => ⟨w, by
    obtain ⟨fs, hA⟩ := hA
    simp [execOp, h x (by simp [Op.operands]) _ hx, Instr.typeAssert, run_underlying hA, hne, run_zero hz], hw⟩
end
/-! What is left of a range over a map. -/
theorem left_mem {es : Array MapEntry} {seen : Array Nat} {e : MapEntry} : e ∈ (leftOf es seen).toList ↔ e ∈ es.toList ∧ e.born ∉ seen := by
  unfold leftOf
  simp
theorem left_lt {es : Array MapEntry} {seen : Array Nat} {e : MapEntry} (he : e ∈ (leftOf es seen).toList) : (leftOf es (seen.push e.born)).size < (leftOf es seen).size := by
  have sz : ∀ s : Array Nat, (leftOf es s).size = (es.toList.filter fun x => !s.contains x.born).length := fun s => by unfold leftOf; rw [← Array.toList_filter, Array.length_toList]
  rw [sz, sz]
  unfold leftOf at he
  rw [Array.toList_filter] at he
  have e1 : es.toList.filter (fun x => !(seen.push e.born).contains x.born) = (es.toList.filter fun x => !seen.contains x.born).filter fun x => !(x.born == e.born) := by
    rw [List.filter_filter]
    refine List.filter_congr fun x _ => ?_
    simp only [Array.contains_push]
    cases seen.contains x.born <;> cases h : (x.born == e.born) <;> simp_all
  rw [e1]
  exact List.length_filter_lt_length_iff_exists.2 ⟨e, he, by simp⟩
theorem left_end {es : Array MapEntry} {seen : Array Nat} (h : (leftOf es seen).size = 0) {e : MapEntry} (he : e ∈ es.toList) : e.born ∈ seen := by
  refine Classical.byContradiction fun q => ?_
  have := left_mem.2 ⟨he, q⟩
  rw [List.eq_nil_of_length_eq_zero (l := (leftOf es seen).toList) (by rw [Array.length_toList]; exact h)] at this
  cases this
end Go.SL
