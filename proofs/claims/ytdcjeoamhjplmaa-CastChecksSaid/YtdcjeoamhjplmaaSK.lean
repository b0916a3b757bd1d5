/-
  Loops and cuts whose unchanging slots and resources are read off the state ahead.
-/
import Derived.Test.YtdcjeoamhjplmaaSQ
namespace Go.SL
set_option linter.unusedVariables false
section
variable {P : Program} {ro : Option Nat} {β : Bs} {N : Nat} {ds : List Deferred} {env : Env} {L : List Res} {Q : Exit → Act → World → Prop}

/-- A loop: 'E', 'F' change from round to round; 'Ek' and the resources behind the first 'n' do not. -/
theorem VC.loopK {α : Type} (n : Nat) (E : α → Env) (Ek : Env) (F : α → List Res) (I : α → Prop) (μ : α → Nat) (x0 : α) {c : Code} (h0 : I x0) (hE : Sub (E x0 ++ Ek) env)
    (hF : ∀ w, St β L w → St β (F x0 ++ L.drop n) w)
    (hr : ∀ x, I x → VC P ro β N ds (E x ++ Ek) (F x ++ L.drop n) c (Exit.then (fun a w => ∃ y, I y ∧ μ y < μ x ∧ Ag N ds (E y ++ Ek) a ∧ St β (F y ++ L.drop n) w) Q)) : VC P ro β N ds env L (.loop c) Q :=
  VC.loop (fun x => E x ++ Ek) (fun x => F x ++ L.drop n) I μ x0 h0 hE hF hr

/-- A cut behind the first of two codes. -/
theorem VC.cutK {α : Type} (n : Nat) (E : α → Env) (Ek : Env) (F : α → List Res) (I : α → Prop) {c d : Code}
    (hc : VC P ro β N ds env L c (Exit.then (fun a w => ∃ y, I y ∧ Ag N ds (E y ++ Ek) a ∧ St β (F y ++ L.drop n) w) Q))
    (hd : ∀ y, I y → VC P ro β N ds (E y ++ Ek) (F y ++ L.drop n) d Q) : VC P ro β N ds env L (.seq c d) Q := by
  intro a w ha hw
  refine wpIn_seq ?_
  refine Code.wpIn_mono ?_ (hc a w ha hw)
  intro e a w q
  cases e with
  | normal => obtain ⟨y, h1, h2, h3⟩ := q; exact hd y h1 a w h2 h3
  | _ => exact q
/-- A guarded operation that changes resources: both ways are joined. -/
theorem VO.hg {ops : Array Oper} {d j t : Nat} {want c : Bool} {op : Op} {ty : TypeId} {pos : String} {aft : Array Edge} {rest : List Oper} {u : Value} {Kx : Value → List Res → Prop} (hj : (ops[j]?).bind (·.dst) = some t) (ht : ev1 env t = some u) (hg : GD u want c)
    (h : c = true → HO P β env L ⟨some d, op, ty, pos, aft, some (j, want)⟩ Kx) (hd : Nat.blt d N = true)
    (k : ∀ v L', (c = true → Kx v L') → (c = false → L' = L) → VO P ro β N ds ops ((d, gv c v) :: env) L' rest Q) : VO P ro β N ds ops env L (⟨some d, op, ty, pos, aft, some (j, want)⟩ :: rest) Q := by
  intro a w ha hw
  have ht' := ha.get t u ht
  have hy : yielded ops a.tmps j = vb u := by
    unfold yielded; rw [hj]; simp only [Option.bind_some, ht']; cases u <;> rfl
  refine wpListIn_step fun K hK => ?_
  simp only [Region.wanted, hy]
  cases c with
  | true =>
    have hu := hg.1 rfl
    subst hu
    simp only [vb, beq_self_eq_true, if_true]
    exact (h rfl).wp (fun x _ u hu => ha.eval hu) hw fun v L' w' hk hs => hK _ _ (by have := k v L' (fun _ => hk) (fun q => by cases q) _ w' (ha.put (Nat.le_of_ble_eq_true hd) (gv true v)) hs; simpa [gv] using this)
  | false =>
    have hu := hg.2 rfl
    have hne : (vb u == some want) = false := by
      cases u <;> simp_all [vb]
    simp only [hne, Bool.false_eq_true, if_false]
    refine ⟨fun _ _ => True.intro, hK _ _ ?_⟩
    have := k undef L (fun q => by cases q) (fun _ => rfl) _ w (ha.put (Nat.le_of_ble_eq_true hd) (gv false undef)) hw
    simpa [gv] using this

/-- A guarded call of yield. -/
theorem VO.yg (i : Nat) {ops : Array Oper} {d j t : Nat} {want c : Bool} {ty : TypeId} {pos : String} {aft : Array Edge} {rest : List Oper} {u : Value} {fx : Operand} {xs : List Operand} {vs : List Value} {aT : Array TypeId} {l : Nat} {r : Res} {post : Bool → Res → Prop} (hj : (ops[j]?).bind (·.dst) = some t) (ht : ev1 env t = some u) (hg : GD u want c) (hd : Nat.blt d N = true)
    (hfx : c = true → OV env fx (yv l)) (hx : OVs env xs vs) (hi : L[i]? = some r)
    (hy : c = true → ∀ w, r.inv w → (∀ k, r.fp k → k < w.heap.size) → (w.os = β.w.os ∧ w.tape = β.w.tape ∧ w.output = β.w.output ∧ β.w.heap.size ≤ w.heap.size) → YieldsTo P l vs w fun e w' => ∃ b r', e = .returned (.bool b) ∧ post b r' ∧ St ⟨w, r.fp⟩ [r'] w')
    (k : ∀ b r', (c = true → post b r') → (c = false → r' = r) → VO P ro β N ds ops ((d, gv c (.bool b)) :: env) (L.set i r') rest Q) :
    VO P ro β N ds ops env L (⟨some d, .call ⟨.value fx, xs.toArray, aT⟩, ty, pos, aft, some (j, want)⟩ :: rest) Q := by
  cases c with
  | true =>
    exact VO.hg (Kx := fun v L' => ∃ b r', v = .bool b ∧ L' = L.set i r' ∧ post b r') hj ht hg (fun q => HO.yield i (hfx q) hx hi (hy q) fun b r' hp => ⟨b, r', rfl, rfl, hp⟩) hd fun v L' h1 _ => by
      obtain ⟨b, r', h2, h3, h4⟩ := h1 rfl
      subst h2; subst h3
      exact k b r' (fun _ => h4) (fun q => by cases q)
  | false =>
    refine VO.hg (Kx := fun _ _ => False) hj ht hg (fun q => by cases q) hd fun v L' _ h2 => ?_
    have h3 := h2 rfl
    subst h3
    have h4 := k true r (fun q => by cases q) (fun _ => rfl)
    have h5 : L'.set i r = L' := by
      apply List.ext_getElem?
      intro n
      rw [List.getElem?_set]
      split
      · rename_i q; subst q
        split
        · exact hi.symm
        · rename_i q; simp [List.getElem?_eq_none (Nat.not_lt.1 q)] at hi
      · rfl
    rw [h5] at h4
    exact h4

/-- One resource that one was handed. -/
theorem St.one {w : World} {r : Res} (hi : r.inv w) (hb : ∀ k, r.fp k → k < w.heap.size) : St ⟨w, r.fp⟩ [r] w := by
  refine ⟨rfl, rfl, rfl, Nat.le_refl _, fun _ _ _ => rfl, ?_, ?_, ?_⟩
  · intro i s hs
    cases i with
    | zero => simp at hs; subst hs; exact hi
    | succ n => simp at hs
  · intro i s hs k hk
    cases i with
    | zero => simp at hs; subst hs; exact ⟨.inl hk, hb k hk⟩
    | succ n => simp at hs
  · intro i j s t hij hs ht k _ _
    cases i with
    | zero => cases j with
      | zero => exact hij rfl
      | succ n => simp at ht
    | succ n => simp at hs

theorem Builds.mk {T : Nat} {PL : List (Nat × Nat)} {Z : List Value} (h : ∀ ps, P.built T ps = Instr.fill (PL.toArray[·]?) Z.toArray ps) : Builds P T PL Z := fun ps => by
  rw [h]
  have : (fun x => PL.toArray[x]?) = fun x : Nat => PL[x]? := funext fun i => by simp
  rw [this]
end
end Go.SL
