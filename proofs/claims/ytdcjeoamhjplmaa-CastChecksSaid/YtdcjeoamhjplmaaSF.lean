/-
  A drawn region whose operations fall into two parts, one ahead of the other, is two regions.
-/
import Derived.Test.YtdcjeoamhjplmaaSB
namespace Go.SL
set_option linter.unusedVariables false
open Go.RowKit
def shOp (T : Nat) (o : Oper) : Oper := { o with after := ((o.after.toList.filter fun e => Nat.ble T e.on).map fun e => { e with on := e.on - T }).toArray, guard := o.guard.map fun g => (g.1 - T, g.2) }
def catB (l : List Oper) (T : Nat) : Bool :=
  let cl := clOf l
  Nat.ble T l.length && (idxs l.length).all fun k =>
    match l[k]? with
    | none => false
    | some o =>
      o.after.toList.all (fun e => !Region.binds .any e || Nat.blt e.on k) &&
      (cl.getD k []).all (fun i => o.after.toList.any fun e => Region.binds .any e && (Nat.beq e.on i || (cl.getD e.on []).contains i)) &&
      (match o.guard with | none => true | some g => if Nat.blt k T then Nat.blt g.1 T else Nat.ble T g.1) &&
      (Nat.blt k T || (idxs T).all fun i => (cl.getD k []).contains i)
theorem catB_spec {l : List Oper} {T : Nat} (h : catB l T = true) : T ≤ l.length ∧ ∀ k o, l[k]? = some o →
    (∀ e, e ∈ o.after.toList → Region.binds .any e = true → e.on < k) ∧
    (∀ i, i ∈ (clOf l).getD k [] → ∃ e, e ∈ o.after.toList ∧ Region.binds .any e = true ∧ (e.on = i ∨ i ∈ (clOf l).getD e.on [])) ∧
    (∀ g, o.guard = some g → (k < T → g.1 < T) ∧ (T ≤ k → T ≤ g.1)) ∧ (T ≤ k → ∀ i, i < T → i ∈ (clOf l).getD k []) := by
  unfold catB at h
  simp only [Bool.and_eq_true] at h
  obtain ⟨h1, h2⟩ := h
  refine ⟨Nat.le_of_ble_eq_true h1, fun k o ho => ?_⟩
  have hk : k < l.length := (List.getElem?_eq_some_iff.1 ho).1
  have h3 := List.all_eq_true.1 h2 k (by simpa [idxs] using hk)
  rw [ho] at h3
  simp only [Bool.and_eq_true] at h3
  obtain ⟨⟨⟨a, b⟩, c⟩, d⟩ := h3
  refine ⟨fun e he hb => ?_, fun i hi => ?_, fun g hg => ?_, fun hT i hi => ?_⟩
  · have := List.all_eq_true.1 a e he
    rw [hb] at this
    simpa [Nat.blt_eq] using this
  · have := List.all_eq_true.1 b i hi
    obtain ⟨e, he, hh⟩ := List.any_eq_true.1 this
    simp only [Bool.and_eq_true, Bool.or_eq_true] at hh
    refine ⟨e, he, hh.1, ?_⟩
    rcases hh.2 with q | q
    · exact .inl (Nat.eq_of_beq_eq_true q)
    · exact .inr (by simpa using q)
  · rw [hg] at c
    simp only at c
    refine ⟨fun q => ?_, fun q => ?_⟩
    · rw [if_pos (by simpa [Nat.blt_eq] using q)] at c; simpa [Nat.blt_eq] using c
    · rw [if_neg (by simp [Nat.blt_eq]; omega)] at c; exact Nat.le_of_ble_eq_true c
  · simp only [Bool.or_eq_true] at d
    rcases d with q | q
    · have : k < T := by simpa [Nat.blt_eq] using q
      omega
    · simpa using List.all_eq_true.1 q i (by simpa [idxs] using hi)
theorem mem_ready {ops : Array Oper} {listed : Array Bool} {i : Nat} : i ∈ Region.ready .any ops listed ↔ ∃ o, ops[i]? = some o ∧ listed.getD i true = false ∧ ∀ e, e ∈ o.after.toList → Region.binds .any e = true → listed.getD e.on false = true := by
  unfold Region.ready
  simp only [List.mem_filter, List.mem_range, Bool.and_eq_true, Bool.not_eq_true']
  constructor
  · rintro ⟨h1, h2, h3⟩
    refine ⟨ops[i], by simp [h1], h2, fun e he hb => ?_⟩
    have hok : ops[i]? = some ops[i] := by simp [h1]
    rw [hok] at h3
    simp only [Option.map_some, Option.getD_some] at h3
    have := Array.all_eq_true_iff_forall_mem.1 h3 e (by simpa using he)
    rw [hb] at this
    simpa using this
  · rintro ⟨o, h1, h2, h3⟩
    have hi : i < ops.size := (Array.getElem?_eq_some_iff.1 h1).1
    refine ⟨hi, h2, ?_⟩
    rw [h1]
    simp only [Option.map_some, Option.getD_some]
    refine Array.all_eq_true_iff_forall_mem.2 fun e he => ?_
    cases hb : Region.binds .any e with
    | false => rfl
    | true => simp [h3 e (by simpa using he) hb]
section
variable {P : Program} {F : Fence} {n : Nat} {Q X : Exit → Act → World → Prop}
theorem upon_then {o : Oper} {a : Act} {X : Act → World → Prop} {K : Act → World → Prop} : ∀ {r : Result Next}, o.uponIn F n P a K (Exit.then X Q) r → o.uponIn F n P a K Q r := by
  intro r h
  cases r with
  | ok x w' =>
    cases x <;> first
      | exact h
      | exact ⟨h.1, CallsIn.mono h.2 (fun e w'' he => by cases e <;> first | exact he | exact ⟨_, _, he.choose_spec.choose_spec⟩)⟩
      | exact ⟨h.1, RoundIn.mono h.2 (fun e w'' he => by cases e <;> first | exact he | exact ⟨_, _, he.choose_spec.choose_spec⟩)⟩
  | halt x w' => cases x <;> exact h
theorem wpIn_then {o : Oper} {a : Act} {w : World} {X : Act → World → Prop} {K : Act → World → Prop} (h : o.wpIn F n P a w K (Exit.then X Q)) : o.wpIn F n P a w K Q := ⟨h.1, upon_then h.2⟩
theorem any_more {ops : Array Oper} : ∀ {fuel : Nat} {listed : Array Bool} {a : Act} {w : World}, wpAnyIn F n P .any ops Q fuel listed a w → wpAnyIn F n P .any ops Q (fuel + 1) listed a w
  | 0, listed, a, w, h => ⟨fun _ => h.2, fun i hi => by rw [h.1] at hi; cases hi⟩
  | fuel + 1, listed, a, w, h => ⟨h.1, fun i hi => wpOpIn_mono (fun a w => any_more) (h.2 i hi)⟩
theorem any_add {ops : Array Oper} {fuel : Nat} {listed : Array Bool} {a : Act} {w : World} (h : wpAnyIn F n P .any ops Q fuel listed a w) : ∀ k, wpAnyIn F n P .any ops Q (fuel + k) listed a w
  | 0 => h
  | k + 1 => any_more (any_add h k)
theorem get_B {l : List Oper} {T k : Nat} : ((l.drop T).map (shOp T)).toArray[k]? = (l[T + k]?).map (shOp T) := by simp
theorem getD_some {b : Array Bool} {i : Nat} {d v : Bool} (h : b[i]? = some v) : b.getD i d = v := by simp [Array.getD_eq_getD_getElem?, h]
theorem getD_eq {b c : Array Bool} {i j : Nat} {d : Bool} (h : b[i]? = c[j]?) : b.getD i d = c.getD j d := by simp [Array.getD_eq_getD_getElem?, h]
theorem ready_B {l : List Oper} {T : Nat} (hc : catB l T = true) {listedB listed : Array Bool} (h1 : ∀ i, i < T → listed[i]? = some true) (h2 : ∀ i, i < l.length - T → listed[T + i]? = listedB[i]?) {i : Nat} : i ∈ Region.ready .any l.toArray listed ↔ ∃ k, i = T + k ∧ k ∈ Region.ready .any ((l.drop T).map (shOp T)).toArray listedB := by
  obtain ⟨hT, hops⟩ := catB_spec hc
  constructor
  · intro hi
    obtain ⟨o, ho, hn, he⟩ := mem_ready.1 hi
    have ho' : l[i]? = some o := by simpa using ho
    have hil : i < l.length := (List.getElem?_eq_some_iff.1 ho').1
    have hTi : T ≤ i := by
      rcases Nat.lt_or_ge i T with q | q
      · rw [getD_some (h1 i q)] at hn; cases hn
      · exact q
    refine ⟨i - T, by omega, mem_ready.2 ⟨shOp T o, ?_, ?_, ?_⟩⟩
    · rw [get_B, show T + (i - T) = i by omega, ho']; rfl
    · rw [← getD_eq (h2 (i - T) (by omega)), show T + (i - T) = i by omega]; exact hn
    · intro e hee hb
      simp only [shOp, List.mem_map, List.mem_filter] at hee
      obtain ⟨e0, ⟨m0, m1⟩, rfl⟩ := hee
      have hlt := (hops i o ho').1 e0 m0 hb
      have hTe := Nat.le_of_ble_eq_true m1
      have := he e0 m0 hb
      rw [← getD_eq (h2 (e0.on - T) (by omega)), show T + (e0.on - T) = e0.on by omega]; exact this
  · rintro ⟨k, rfl, hk⟩
    obtain ⟨o', ho, hn, he⟩ := mem_ready.1 hk
    rw [get_B] at ho
    obtain ⟨o, ho', rfl⟩ := Option.map_eq_some_iff.1 ho
    have hil : T + k < l.length := (List.getElem?_eq_some_iff.1 ho').1
    refine mem_ready.2 ⟨o, by simpa using ho', by rw [getD_eq (h2 k (by omega))]; exact hn, fun e m hb => ?_⟩
    rcases Nat.lt_or_ge e.on T with q | q
    · exact getD_some (h1 _ q)
    · have hlt := (hops _ o ho').1 e m hb
      have := he { e with on := e.on - T } (by
        simp only [shOp, List.mem_map, List.mem_filter]
        exact ⟨e, ⟨m, Nat.ble_eq_true_of_le q⟩, rfl⟩) hb
      have h3 := h2 (e.on - T) (by omega)
      rw [show T + (e.on - T) = e.on by omega] at h3
      rw [getD_eq h3]; exact this
theorem wpOp_B {l : List Oper} {T k : Nat} (hc : catB l T = true) {K K' : Act → World → Prop} {a : Act} {w : World} (hK : ∀ a w, K a w → K' a w) (h : wpOpIn F n P ((l.drop T).map (shOp T)).toArray Q k K a w) : wpOpIn F n P l.toArray Q (T + k) K' a w := by
  obtain ⟨hT, hops⟩ := catB_spec hc
  refine wpOpIn_mono hK ?_
  unfold wpOpIn at *
  rw [get_B] at h
  have e0 : l.toArray[T + k]? = l[T + k]? := by simp
  rw [e0]
  cases ho : l[T + k]? with
  | none => rw [ho] at h; exact h
  | some o =>
    rw [ho] at h
    simp only [Option.map_some] at h ⊢
    have hw : Region.wanted (shOp T o) (yielded ((l.drop T).map (shOp T)).toArray a.tmps) = Region.wanted o (yielded l.toArray a.tmps) := by
      unfold Region.wanted
      cases hg : o.guard with
      | none => simp [shOp, hg]
      | some g =>
        have hTg := ((hops _ o ho).2.2.1 g hg).2 (by omega)
        simp only [shOp, hg, Option.map_some]
        have : yielded ((l.drop T).map (shOp T)).toArray a.tmps (g.1 - T) = yielded l.toArray a.tmps g.1 := by
          unfold yielded
          rw [get_B, show T + (g.1 - T) = g.1 by omega]
          have e1 : l.toArray[g.1]? = l[g.1]? := by simp
          rw [e1]
          cases l[g.1]? <;> rfl
        rw [this]
    rw [hw] at h
    exact h
theorem any_B {l : List Oper} {T : Nat} (hc : catB l T = true) : ∀ {fuel : Nat} {listedB listed : Array Bool} {a : Act} {w : World}, listed.size = l.length → listedB.size = l.length - T → (∀ i, i < T → listed[i]? = some true) → (∀ i, i < l.length - T → listed[T + i]? = listedB[i]?) → wpAnyIn F n P .any ((l.drop T).map (shOp T)).toArray Q fuel listedB a w → wpAnyIn F n P .any l.toArray Q fuel listed a w := by
  intro fuel
  have emp : ∀ {listedB listed : Array Bool}, (∀ i, i < T → listed[i]? = some true) → (∀ i, i < l.length - T → listed[T + i]? = listedB[i]?) → (Region.ready .any l.toArray listed = [] ↔ Region.ready .any ((l.drop T).map (shOp T)).toArray listedB = []) := fun h1 h2 => by
    simp only [List.eq_nil_iff_forall_not_mem]
    exact ⟨fun h k hk => h (T + k) ((ready_B hc h1 h2).2 ⟨k, rfl, hk⟩), fun h i hi => by obtain ⟨k, _, hk⟩ := (ready_B hc h1 h2).1 hi; exact h k hk⟩
  induction fuel with
  | zero => intro listedB listed a w _ _ h1 h2 h; exact ⟨(emp h1 h2).2 h.1, h.2⟩
  | succ fuel ih =>
    intro listedB listed a w s1 s2 h1 h2 h
    refine ⟨fun hr => h.1 ((emp h1 h2).1 hr), fun i hi => ?_⟩
    obtain ⟨k, rfl, hk⟩ := (ready_B hc h1 h2).1 hi
    have hkl : k < l.length - T := by
      obtain ⟨o, ho, _⟩ := mem_ready.1 hk
      have := (Array.getElem?_eq_some_iff.1 ho).1
      simpa using this
    refine wpOp_B hc (fun a w hh => ih (by simpa using s1) (by simpa using s2) ?_ ?_ hh) (h.2 k hk)
    · intro j hj
      rw [Array.getElem?_setIfInBounds_ne (by omega)]; exact h1 j hj
    · intro j hj
      by_cases q : j = k
      · subst q
        rw [Array.getElem?_setIfInBounds_self_of_lt (by omega), Array.getElem?_setIfInBounds_self_of_lt (by omega)]
      · rw [Array.getElem?_setIfInBounds_ne (by omega), Array.getElem?_setIfInBounds_ne (by omega)]; exact h2 j hj
theorem any_A {l : List Oper} {T : Nat} (hc : catB l T = true) {Y : Act → World → Prop} (hY : ∀ a w, Y a w → wpAnyIn F n P .any ((l.drop T).map (shOp T)).toArray Q (l.length - T) (Array.replicate (l.length - T) false) a w) : ∀ {fuel : Nat} {listedA listed : Array Bool} {a : Act} {w : World}, listed.size = l.length → listedA.size = T → (∀ i, i < T → listed[i]? = listedA[i]?) → (∀ i, T ≤ i → i < l.length → listed[i]? = some false) → (∀ j, listedA[j]? = some true → ∀ i, i ∈ (clOf l).getD j [] → listedA[i]? = some true) →
    wpAnyIn F n P .any (l.take T).toArray (Exit.then Y Q) fuel listedA a w → wpAnyIn F n P .any l.toArray Q (fuel + (l.length - T)) listed a w := by
  obtain ⟨hT, hops⟩ := catB_spec hc
  have getA : ∀ {i : Nat}, i < T → (l.take T).toArray[i]? = l[i]? := fun {i} hi => by simp [List.getElem?_take, hi]
  -- all of the first part are done: the second part
  have fin : ∀ {fuel : Nat} {listedA listed : Array Bool} {a : Act} {w : World}, listed.size = l.length → (∀ i, i < T → listed[i]? = listedA[i]?) → (∀ i, T ≤ i → i < l.length → listed[i]? = some false) → (∀ i, i < T → listedA[i]? = some true) → Y a w → wpAnyIn F n P .any l.toArray Q (fuel + (l.length - T)) listed a w := fun s1 h1 h2 hall hy => by
    rw [Nat.add_comm]
    refine any_add (any_B hc s1 (by simp) (fun i hi => by rw [h1 i hi]; exact hall i hi) (fun i hi => ?_) (hY _ _ hy)) _
    rw [h2 (T + i) (by omega) (by omega), Array.getElem?_replicate, if_pos hi]
  have rdyA : ∀ {listedA : Array Bool}, listedA.size = T → Region.ready .any (l.take T).toArray listedA = [] → ∀ i, i < T → listedA[i]? = some true := fun hs hr => by
    have := ready_all (l := l.take T) (by simp [hs]; omega) (fun k o ho e he hb => by
      have hk : k < T := by
        have := (List.getElem?_eq_some_iff.1 ho).1
        simp at this; omega
      rw [List.getElem?_take, if_pos hk] at ho
      exact (hops k o ho).1 e he hb) hr
    intro i hi; exact this i (by simp; omega)
  intro fuel
  induction fuel with
  | zero =>
    intro listedA listed a w s1 s2 h1 h2 hcl h
    exact fin s1 h1 h2 (rdyA s2 h.1) h.2
  | succ fuel ih =>
    intro listedA listed a w s1 s2 h1 h2 hcl h
    by_cases hall : ∀ i, i < T → listedA[i]? = some true
    · refine fin s1 h1 h2 hall (h.1 ?_)
      rw [List.eq_nil_iff_forall_not_mem]
      intro i hi
      obtain ⟨o, ho, hn, _⟩ := mem_ready.1 hi
      have hil := (Array.getElem?_eq_some_iff.1 ho).1
      rw [getD_some (hall i (by simp at hil; omega))] at hn; cases hn
    · have small : ∀ i, i ∈ Region.ready .any l.toArray listed → i < T := fun i hi => by
        rcases Nat.lt_or_ge i T with q | q
        · exact q
        · exfalso
          apply hall
          obtain ⟨o, ho, hn, he⟩ := mem_ready.1 hi
          have ho' : l[i]? = some o := by simpa using ho
          have hil := (List.getElem?_eq_some_iff.1 ho').1
          intro j hj
          obtain ⟨e, m, hb, hh⟩ := (hops i o ho').2.1 j ((hops i o ho').2.2.2 q j hj)
          have hd := he e m hb
          have hlt := (hops i o ho').1 e m hb
          have hle : e.on < T := by
            rcases Nat.lt_or_ge e.on T with r | r
            · exact r
            · rw [getD_some (h2 e.on r (by omega))] at hd; cases hd
          have hda : listedA[e.on]? = some true := by
            rw [← h1 e.on hle]
            cases q2 : listed[e.on]? with
            | none => rw [Array.getD_eq_getD_getElem?, q2] at hd; cases hd
            | some b => rw [getD_some q2] at hd; rw [hd]
          rcases hh with r | r
          · rw [← r]; exact hda
          · exact hcl _ hda j r
      show wpAnyIn F n P .any l.toArray Q (fuel + 1 + (l.length - T)) listed a w
      rw [show fuel + 1 + (l.length - T) = (fuel + (l.length - T)) + 1 by omega]
      refine ⟨fun hr => ?_, fun i hi => ?_⟩
      · exfalso
        apply hall
        have := ready_all (l := l) s1 (fun k o ho e he hb => (hops k o ho).1 e he hb) hr
        intro i hi
        rw [← h1 i hi]; exact this i (by omega)
      · have hiT := small i hi
        obtain ⟨o, ho, hn, he⟩ := mem_ready.1 hi
        have ho' : l[i]? = some o := by simpa using ho
        have hiA : i ∈ Region.ready .any (l.take T).toArray listedA := by
          refine mem_ready.2 ⟨o, by rw [getA hiT]; exact ho', by rw [← getD_eq (h1 i hiT)]; exact hn, fun e m hb => ?_⟩
          have hlt := (hops i o ho').1 e m hb
          rw [← getD_eq (h1 e.on (by omega))]; exact he e m hb
        have hA := h.2 i hiA
        have hstep : wpOpIn F n P l.toArray Q i (wpAnyIn F n P .any (l.take T).toArray (Exit.then Y Q) fuel (listedA.setIfInBounds i true)) a w := by
          unfold wpOpIn at *
          rw [getA hiT, ho'] at hA
          rw [ho]
          simp only at hA ⊢
          have hw : Region.wanted o (yielded (l.take T).toArray a.tmps) = Region.wanted o (yielded l.toArray a.tmps) := by
            unfold Region.wanted
            cases hg : o.guard with
            | none => rfl
            | some g =>
              have := ((hops _ o ho').2.2.1 g hg).1 hiT
              have hy : yielded (l.take T).toArray a.tmps g.1 = yielded l.toArray a.tmps g.1 := by
                unfold yielded
                rw [getA this]
                have e1 : l.toArray[g.1]? = l[g.1]? := by simp
                rw [e1]
              simp only [hy]
          rw [hw] at hA
          by_cases hx : Region.wanted o (yielded l.toArray a.tmps) = true
          · rw [if_pos hx] at hA ⊢; exact wpIn_then hA
          · rw [if_neg hx] at hA ⊢; exact hA
        refine wpOpIn_mono (fun a w hh => ih (by simpa using s1) (by simpa using s2) ?_ ?_ ?_ hh) hstep
        · intro j hj
          by_cases q : j = i
          · subst q
            rw [Array.getElem?_setIfInBounds_self_of_lt (by omega), Array.getElem?_setIfInBounds_self_of_lt (by omega)]
          · rw [Array.getElem?_setIfInBounds_ne (by omega), Array.getElem?_setIfInBounds_ne (by omega)]; exact h1 j hj
        · intro j hj hjl
          rw [Array.getElem?_setIfInBounds_ne (by omega)]; exact h2 j hj hjl
        · intro j hj k hk
          have hiz : i < listedA.size := by omega
          rw [get_set_true hiz] at hj ⊢
          rcases hj with r | r
          · subst r
            obtain ⟨e, m, hb, hh⟩ := (hops j o ho').2.1 k hk
            have hlt := (hops j o ho').1 e m hb
            have hda : listedA[e.on]? = some true := by
              have hd := he e m hb
              rw [← h1 e.on (by omega)]
              cases q2 : listed[e.on]? with
              | none => rw [Array.getD_eq_getD_getElem?, q2] at hd; cases hd
              | some b => rw [getD_some q2] at hd; rw [hd]
            rcases hh with r | r
            · rw [← r]; exact .inr hda
            · exact .inr (hcl _ hda k r)
          · exact .inr (hcl _ r k hk)
end
section
variable {P : Program} {ro : Option Nat} {β : Bs} {ds : List Deferred} {N : Nat} {J : Nat → List Res} {Q : Exit → Act → World → Prop} {env : Env} {L : List Res}
set_option maxHeartbeats 1000000 in
theorem VA.draw {env env' : Env} {l : List Oper} {Q : Exit → Act → World → Prop} (h : LL P β N l.toArray L l env env') (hc : chk l = true) (k : VE β N ds env' L .normal Q) :
    ∀ a w, Ag N ds env a → St β L w → wpAnyIn (Wf ro) 0 P .any l.toArray Q l.toArray.size (Array.replicate l.toArray.size false) a w := by
  intro a w ha hw
  obtain ⟨vs, h1, rfl, h3⟩ := h.pairs
  have key : ∀ fuel listed a w, DrInv N ds β L (clOf l) vs env listed a w → (∀ k, k < vs.length → listed[k]? ≠ some true → 0 < fuel) → ((List.range vs.length).filter fun k => !(listed[k]? == some true)).length ≤ fuel → wpAnyIn (Wf ro) 0 P .any l.toArray Q fuel listed a w := by
    intro fuel
    induction fuel with
    | zero =>
      intro listed a w hI h0 _
      have hall : ∀ k, k < vs.length → listed[k]? = some true := fun k hk => Classical.byContradiction fun hn => by have := h0 k hk hn; omega
      refine ⟨?_, k _ _ (hI.end_ hall) hI.st⟩
      simp only [Region.ready, List.filter_eq_nil_iff, List.mem_range, Bool.and_eq_true, Bool.not_eq_true', not_and]
      intro i hi hf
      have := hall i (by rw [h1]; simpa using hi)
      simp [this] at hf
    | succ fuel ih =>
      intro listed a w hI h0 hcnt
      refine ⟨fun hr => ?_, fun i hi => ?_⟩
      · refine k _ _ (hI.end_ ?_) hI.st
        have : ∀ n k, k = n → k < vs.length → listed[k]? = some true := by
          intro n
          induction n using Nat.strongRecOn with
          | _ n ihn =>
            rintro k rfl hk
            refine Classical.byContradiction fun hn => ?_
            have hkl : k < l.length := by omega
            have hnm : k ∉ Region.ready .any l.toArray listed := by rw [hr]; simp
            apply hnm
            simp only [Region.ready, List.mem_filter, List.mem_range, Bool.and_eq_true, Bool.not_eq_true']
            refine ⟨by simpa using hkl, ?_, ?_⟩
            · cases q : listed[k]? with
              | none =>
                have : k < listed.size := by rw [hI.lsz]; exact hk
                simp [this] at q
              | some b => cases b with
                | true => exact absurd q hn
                | false => simp [q]
            · have hok : l.toArray[k]? = some l[k] := by simp [hkl]
              simp only [hok, Option.map_some, Option.getD_some]
              refine Array.all_eq_true_iff_forall_mem.2 fun e he => ?_
              cases hb : Region.binds .any e with
              | false => rfl
              | true =>
                have hlt := (chk_spec hc (k := k) (o := l[k]) (by simp [hkl])).1 e (by simpa using he) hb
                have := ihn e.on hlt e.on rfl (by omega)
                simp [this]
        exact fun k hk => this k k rfl hk
      · refine hI.step hc h1 h3 hi fun a' w' hI' => ih _ _ _ hI' ?_ ?_
        · intro k hk hn
          rcases Nat.eq_zero_or_pos fuel with e | e
          · exfalso
            subst e
            simp only [Region.ready, List.mem_filter, List.mem_range, Bool.and_eq_true, Bool.not_eq_true'] at hi
            have hiz : i < listed.size := by rw [hI.lsz, h1]; simpa using hi.1
            rw [Ne, get_set_true hiz, not_or] at hn
            have hni : listed[i]? ≠ some true := fun e => by have h2 := hi.2.1; simp [e] at h2
            have hil : i < vs.length := by rw [h1]; simpa using hi.1
            have m1 : i ∈ (List.range vs.length).filter fun k => !(listed[k]? == some true) := by simp [hil, hni]
            have m2 : k ∈ (List.range vs.length).filter fun k => !(listed[k]? == some true) := by simp [hk, hn.2]
            match hf : (List.range vs.length).filter fun k => !(listed[k]? == some true), hcnt with
            | [], _ => rw [hf] at m1; simp at m1
            | [x], _ => rw [hf] at m1 m2; simp at m1 m2; exact hn.1 (by omega)
            | _ :: _ :: _, hcnt => simp at hcnt
          · exact e
        · simp only [Region.ready, List.mem_filter, List.mem_range, Bool.and_eq_true, Bool.not_eq_true'] at hi
          have hiz : i < listed.size := by rw [hI.lsz, h1]; simpa using hi.1
          have hni : listed[i]? ≠ some true := fun e => by have h2 := hi.2.1; simp [e] at h2
          have hil : i < vs.length := by rw [h1]; simpa using hi.1
          have hlt : ((List.range vs.length).filter fun k => !((listed.setIfInBounds i true)[k]? == some true)).length < ((List.range vs.length).filter fun k => !(listed[k]? == some true)).length := by
            refine filter_lt (i := i) ?_ (by simp [hil]) ?_ ?_
            · intro k hk
              simp only [Bool.not_eq_true', beq_eq_false_iff_ne, ne_eq] at hk ⊢
              exact fun e => hk ((get_set_true hiz).2 (.inr e))
            · simpa using hni
            · simp [hiz]
          omega
  refine key _ _ _ _ ⟨by simp [h1], ha.size, ha.dfr, hw, ?_, ?_, ?_⟩ ?_ ?_
  · intro j hj
    simp [Array.getElem?_replicate] at hj
  · intro t k v hk hl
    simp [Array.getElem?_replicate] at hl
  · intro t _ v hv
    exact ha.get t v hv
  · intro k hk _
    rw [h1] at hk
    simpa using Nat.lt_of_le_of_lt (Nat.zero_le _) hk
  · refine Nat.le_trans (List.length_filter_le _ _) ?_
    simp [h1]
set_option maxHeartbeats 1000000 in
theorem VA.drawH (js : List (List Nat)) (ms : List (Option Nat)) {env env' : Env} {L : List Res} {l : List Oper} (hc : chkH l ms js = true) (h0 : js.getD 0 [] = List.range L.length)
    (h : LX P β N l.toArray (fun m => sel L (js.getD m [])) l ms env env') (k : HX P β N ds (fun m => sel L (js.getD m [])) Q 0 l ms env' L) :
    ∀ a w, Ag N ds env a → St β L w → wpAnyIn (Wf ro) 0 P .any l.toArray Q l.toArray.size (Array.replicate l.toArray.size false) a w := by
  intro a w ha hw
  obtain ⟨V, hV1, hV2⟩ := h.vals
  obtain ⟨hlen, hjn, hjs, hops⟩ := chkH_spec hc
  subst hV1
  have key : ∀ fuel listed p eh L' a w, Hv P β N ds (fun m => sel L (js.getD m [])) Q l ms V env listed p eh L' a w → (∀ k, k < l.length → listed[k]? ≠ some true → 0 < fuel) → ((List.range l.length).filter fun k => !(listed[k]? == some true)).length ≤ fuel → wpAnyIn (Wf ro) 0 P .any l.toArray Q fuel listed a w := by
    intro fuel
    induction fuel with
    | zero =>
      intro listed p eh L' a w hI h0 _
      have hall : ∀ k, k < l.length → listed[k]? = some true := fun k hk => Classical.byContradiction fun hn => by have := h0 k hk hn; omega
      refine ⟨?_, hI.end_ hlen hall⟩
      simp only [Region.ready, List.filter_eq_nil_iff, List.mem_range, Bool.and_eq_true, Bool.not_eq_true', not_and]
      intro i hi hf
      have := hall i (by simpa using hi)
      simp [this] at hf
    | succ fuel ih =>
      intro listed p eh L' a w hI h0 hcnt
      refine ⟨fun hr => hI.end_ hlen (ready_all hI.lsz (fun k o ho => (hops k o ho).1) hr), fun i hi => ?_⟩
      refine hI.step (ChkS.of hc) (Nat.zero_le _) rfl hV2 hi fun p' eh' L'' a' w' _ hI' => ih _ _ _ _ _ _ hI' ?_ ?_
      · intro k hk hn
        rcases Nat.eq_zero_or_pos fuel with e | e
        · exfalso
          subst e
          simp only [Region.ready, List.mem_filter, List.mem_range, Bool.and_eq_true, Bool.not_eq_true'] at hi
          have hil : i < l.length := by simpa using hi.1
          have hiz : i < listed.size := by rw [hI.lsz]; exact hil
          rw [Ne, get_set_true hiz, not_or] at hn
          have hni : listed[i]? ≠ some true := fun e => by have h2 := hi.2.1; simp [e] at h2
          have m1 : i ∈ (List.range l.length).filter fun k => !(listed[k]? == some true) := by simp [hil, hni]
          have m2 : k ∈ (List.range l.length).filter fun k => !(listed[k]? == some true) := by simp [hk, hn.2]
          match hf : (List.range l.length).filter fun k => !(listed[k]? == some true), hcnt with
          | [], _ => rw [hf] at m1; simp at m1
          | [x], _ => rw [hf] at m1 m2; simp at m1 m2; exact hn.1 (by omega)
          | _ :: _ :: _, hcnt => simp at hcnt
        · exact e
      · simp only [Region.ready, List.mem_filter, List.mem_range, Bool.and_eq_true, Bool.not_eq_true'] at hi
        have hil : i < l.length := by simpa using hi.1
        have hiz : i < listed.size := by rw [hI.lsz]; exact hil
        have hni : listed[i]? ≠ some true := fun e => by have h2 := hi.2.1; simp [e] at h2
        have hlt : ((List.range l.length).filter fun k => !((listed.setIfInBounds i true)[k]? == some true)).length < ((List.range l.length).filter fun k => !(listed[k]? == some true)).length := by
          refine filter_lt (i := i) ?_ (by simp [hil]) ?_ ?_
          · intro k hk
            simp only [Bool.not_eq_true', beq_eq_false_iff_ne, ne_eq] at hk ⊢
            exact fun e => hk ((get_set_true hiz).2 (.inr e))
          · simpa using hni
          · simp [hiz]
        omega
  have hnone : ∀ j : Nat, (Array.replicate l.toArray.size false)[j]? ≠ some true := by
    intro j hj
    simp [Array.getElem?_replicate] at hj
  refine key _ _ 0 [] L _ _ ⟨by simp, ha.size, ha.dfr, hw, ?_, by omega, ?_, ?_, ?_, ?_, ?_, ?_, ?_, ?_⟩ ?_ ?_
  · intro w hw
    have : rank ms 0 = 0 := by simp [rank]
    rw [this]
    simp only [h0]
    refine hw.sel _ ?_
    have := hjn 0
    rwa [h0] at this
  · simpa [rank] using k
  · intro i _ _
    exact ⟨fun e => absurd e (hnone i), fun e => by omega⟩
  · intro j hj; exact absurd hj (hnone j)
  · intro t v hv; simp [ev1] at hv
  · intro t _ i hi; omega
  · intro t ht; simp [ev1] at ht
  · intro t k _ _ _ _ hl; exact absurd hl (hnone k)
  · intro t _ _ v hv; exact ha.get t v hv
  · intro k hk _
    simpa using Nat.lt_of_le_of_lt (Nat.zero_le _) hk
  · refine Nat.le_trans (List.length_filter_le _ _) ?_
    simp
set_option maxHeartbeats 1000000 in
theorem VA.drawB (FT : List FS) (js : List (List Nat)) (ms : List (Option Nat)) {env' : Env} {l : List Oper} (hc : chkB l ms js (FT.map fun s => (s.i, s.d)) = true) (h0 : js.getD 0 [] = List.range L.length)
    (h : LX P β N l.toArray (fun m => sel L (js.getD m [])) l ms env env') (hF : FOk P N l env' FT) (k : HY P β N ds (fun m => sel L (js.getD m [])) Q FT 0 0 l ms env' L) :
    ∀ a w, Ag N ds env a → St β L w → wpAnyIn (Wf ro) 0 P .any l.toArray Q l.toArray.size (Array.replicate l.toArray.size false) a w := by
  intro a w ha hw
  obtain ⟨V, hV1, hV2⟩ := h.vals
  have hC := ChkB.of hc
  subst hV1
  have key : ∀ fuel listed p eh L' E a w, Hz P β N ds (fun m => sel L (js.getD m [])) Q FT l ms V env listed p eh L' E a w → (∀ k, k < l.length → listed[k]? ≠ some true → 0 < fuel) → ((List.range l.length).filter fun k => !(listed[k]? == some true)).length ≤ fuel → wpAnyIn (Wf ro) 0 P .any l.toArray Q fuel listed a w := by
    intro fuel
    induction fuel with
    | zero =>
      intro listed p eh L' E a w hI0 hz _
      obtain ⟨p', eh', L'', E', hI, hn⟩ := hI0.norm hC _ rfl
      have hall : ∀ k, k < l.length → listed[k]? = some true := fun k hk => Classical.byContradiction fun hn => by have := hz k hk hn; omega
      refine ⟨?_, hI.end_ hC hn hall⟩
      simp only [Region.ready, List.filter_eq_nil_iff, List.mem_range, Bool.and_eq_true, Bool.not_eq_true', not_and]
      intro i hi hf
      have := hall i (by simpa using hi)
      simp [this] at hf
    | succ fuel ih =>
      intro listed p eh L' E a w hI0 hz hcnt
      obtain ⟨p', eh', L'', E', hI, hn⟩ := hI0.norm hC _ rfl
      refine ⟨fun hr => hI.end_ hC hn (ready_all hI.lsz (fun k o ho => (hC.ops k o ho).1) hr), fun i hi => ?_⟩
      refine hI.step hC rfl hV2 hF.mem hn hi fun p' eh' L'' E' a' w' hI' => ih _ _ _ _ _ _ _ hI' ?_ ?_
      · intro k hk hn
        rcases Nat.eq_zero_or_pos fuel with e | e
        · exfalso
          subst e
          simp only [Region.ready, List.mem_filter, List.mem_range, Bool.and_eq_true, Bool.not_eq_true'] at hi
          have hil : i < l.length := by simpa using hi.1
          have hiz : i < listed.size := by rw [hI.lsz]; exact hil
          rw [Ne, get_set_true hiz, not_or] at hn
          have hni : listed[i]? ≠ some true := fun e => by have h2 := hi.2.1; simp [e] at h2
          have m1 : i ∈ (List.range l.length).filter fun k => !(listed[k]? == some true) := by simp [hil, hni]
          have m2 : k ∈ (List.range l.length).filter fun k => !(listed[k]? == some true) := by simp [hk, hn.2]
          match hf : (List.range l.length).filter fun k => !(listed[k]? == some true), hcnt with
          | [], _ => rw [hf] at m1; simp at m1
          | [x], _ => rw [hf] at m1 m2; simp at m1 m2; exact hn.1 (by omega)
          | _ :: _ :: _, hcnt => simp at hcnt
        · exact e
      · simp only [Region.ready, List.mem_filter, List.mem_range, Bool.and_eq_true, Bool.not_eq_true'] at hi
        have hil : i < l.length := by simpa using hi.1
        have hiz : i < listed.size := by rw [hI.lsz]; exact hil
        have hni : listed[i]? ≠ some true := fun e => by have h2 := hi.2.1; simp [e] at h2
        have hlt2 : ((List.range l.length).filter fun k => !((listed.setIfInBounds i true)[k]? == some true)).length < ((List.range l.length).filter fun k => !(listed[k]? == some true)).length := by
          refine filter_lt (i := i) ?_ (by simp [hil]) ?_ ?_
          · intro k hk
            simp only [Bool.not_eq_true', beq_eq_false_iff_ne, ne_eq] at hk ⊢
            exact fun e => hk ((get_set_true hiz).2 (.inr e))
          · simpa using hni
          · simp [hiz]
        omega
  have hnone : ∀ j : Nat, (Array.replicate l.toArray.size false)[j]? ≠ some true := by
    intro j hj
    simp [Array.getElem?_replicate] at hj
  refine key _ _ 0 [] L [] _ _ ⟨by simp, ha.size, ha.dfr, (by rw [List.map_nil, List.append_nil]; exact hw), ?_, Nat.zero_le _, ?_, by simp, by simp, ?_, ?_, by simp, ?_, ?_, ?_, ?_, ?_⟩ ?_ ?_
  · intro w hw
    have : rank ms 0 = 0 := by simp [rank]
    rw [this]
    simp only [h0]
    refine hw.sel _ ?_
    have := hC.jn 0
    rwa [h0] at this
  · simpa [rank] using k
  · intro i _ _
    exact ⟨fun e => absurd e (hnone i), fun q => by rcases q with q | ⟨x, hx, _⟩; omega; cases hx⟩
  · intro j hj; exact absurd hj (hnone j)
  · intro t v hv; simp [ev1] at hv
  · intro t _ i hi; omega
  · intro t ht; simp [ev1] at ht
  · intro t k _ _ _ _ _ hl; exact absurd hl (hnone k)
  · intro t _ _ _ v hv; exact ha.get t v hv
  · intro k hk _
    simpa using Nat.lt_of_le_of_lt (Nat.zero_le _) hk
  · refine Nat.le_trans (List.length_filter_le _ _) ?_
    simp

/-! ### Operations that lay a new block -/

/-- A region whose order is drawn, in two parts. -/
theorem VC.drawCat (T : Nat) {id : Nat} {l : List Oper} (hm : P.follows .mixedOrders = true) (hc : catB l T = true)
    (h : ∀ a w, Ag N ds env a → St β L w → wpAnyIn (Wf ro) 0 P .any (l.take T).toArray (Exit.then (wpAnyIn (Wf ro) 0 P .any ((l.drop T).map (shOp T)).toArray Q ((l.drop T).map (shOp T)).toArray.size (Array.replicate ((l.drop T).map (shOp T)).toArray.size false)) Q) (l.take T).toArray.size (Array.replicate (l.take T).toArray.size false) a w) :
    VC P ro β N ds env L (.region id l.toArray true) Q := by
  intro a w ha hw
  obtain ⟨hT, _⟩ := catB_spec hc
  refine wpIn_region_any hm ?_
  have h1 := h a { w with drawn := w.drawn + 1 } ha (hw.drew _)
  have s1 : (l.take T).toArray.size = T := by simp; omega
  have s2 : ((l.drop T).map (shOp T)).toArray.size = l.length - T := by simp
  rw [s1, s2] at h1
  have := any_A hc (fun a w h => h) (listed := Array.replicate l.length false) (by simp) (by simp) (fun i hi => by rw [Array.getElem?_replicate, Array.getElem?_replicate, if_pos (by omega), if_pos hi]) (fun i _ hi => by rw [Array.getElem?_replicate, if_pos hi]) (fun j hj => by simp [Array.getElem?_replicate] at hj) h1
  rw [show T + (l.length - T) = l.length by omega] at this
  simpa using this
theorem VE.any {l : List Oper} {m : Nat} {ls : Array Bool} (h : ∀ a w, Ag N ds env a → St β L w → wpAnyIn (Wf ro) 0 P .any l.toArray Q m ls a w) : VE β N ds env L .normal (Exit.then (wpAnyIn (Wf ro) 0 P .any l.toArray Q m ls) Q) := fun a w ha hw => h a w ha hw
end
end Go.SL
