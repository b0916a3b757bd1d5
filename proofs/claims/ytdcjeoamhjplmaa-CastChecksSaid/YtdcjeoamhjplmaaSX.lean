/-
  Guards whose truth is known: an operation that is left out, or runs as if it had no guard. Resources in another order.
-/
import Derived.Test.YtdcjeoamhjplmaaSK
namespace Go.SL
set_option linter.unusedVariables false
section
variable {P : Program} {ro : Option Nat} {β : Bs} {N : Nat} {ds : List Deferred} {env : Env} {L : List Res} {Q : Exit → Act → World → Prop}
variable {ty : TypeId} {pos : String} {aft : Array Edge} {g : Option (Nat × Bool)}

theorem and_e {c b : Bool} (h : c = true) : (c && b) = b := by rw [h, Bool.true_and]

theorem HO.guard {dd : Option Nat} {op : Op} {K : Value → List Res → Prop} {g' : Option (Nat × Bool)} (h : HO P β env L ⟨dd, op, ty, pos, aft, g⟩ K) : HO P β env L ⟨dd, op, ty, pos, aft, g'⟩ K := h

theorem VO.bc {ops : Array Oper} {rest : List Oper} {x : Nat} {b : Bool} (h : ev1 env x = some (.bool b)) (k1 : b = true → VO P ro β N ds ops env L rest Q) (k2 : b = false → VO P ro β N ds ops env L rest Q) : VO P ro β N ds ops env L rest Q := by
  cases b with
  | true => exact k1 rfl
  | false => exact k2 rfl

theorem VO.gT {ops : Array Oper} {d j t : Nat} {want : Bool} {op : Op} {rest : List Oper} {u : Value} (hj : (ops[j]?).bind (·.dst) = some t) (ht : ev1 env t = some u) (hu : u = .bool want) (hd : Nat.blt d N = true)
    (h : HO P β env L ⟨some d, op, ty, pos, aft, none⟩ fun v L' => VO P ro β N ds ops ((d, v) :: env) L' rest Q) : VO P ro β N ds ops env L (⟨some d, op, ty, pos, aft, some (j, want)⟩ :: rest) Q := by
  intro a w ha hw
  have ht' := ha.get t u ht
  have hy : yielded ops a.tmps j = vb u := by
    unfold yielded; rw [hj]; simp only [Option.bind_some, ht']; cases u <;> rfl
  refine wpListIn_step fun K hK => ?_
  simp only [Region.wanted, hy]
  subst hu
  simp only [vb, beq_self_eq_true, if_true]
  exact (h.guard (g' := some (j, want))).wp (fun x _ u hu => ha.eval hu) hw fun v L' w' hk hs => hK _ _ (hk _ w' (ha.put (Nat.le_of_ble_eq_true hd) v) hs)

theorem VO.gT0 {ops : Array Oper} {j t : Nat} {want : Bool} {op : Op} {rest : List Oper} {u : Value} (hj : (ops[j]?).bind (·.dst) = some t) (ht : ev1 env t = some u) (hu : u = .bool want)
    (h : HO P β env L ⟨none, op, ty, pos, aft, none⟩ fun v L' => VO P ro β N ds ops env L' rest Q) : VO P ro β N ds ops env L (⟨none, op, ty, pos, aft, some (j, want)⟩ :: rest) Q := by
  intro a w ha hw
  have ht' := ha.get t u ht
  have hy : yielded ops a.tmps j = vb u := by
    unfold yielded; rw [hj]; simp only [Option.bind_some, ht']; cases u <;> rfl
  refine wpListIn_step fun K hK => ?_
  simp only [Region.wanted, hy]
  subst hu
  simp only [vb, beq_self_eq_true, if_true]
  exact (h.guard (g' := some (j, want))).wp (fun x _ u hu => ha.eval hu) hw fun v L' w' hk hs => hK _ _ (hk _ w' ha hs)

theorem VO.gF {ops : Array Oper} {d j t : Nat} {want : Bool} {op : Op} {rest : List Oper} {b : Bool} (hj : (ops[j]?).bind (·.dst) = some t) (ht : ev1 env t = some (.bool b)) (hu : b = !want) (hd : Nat.blt d N = true)
    (k : VO P ro β N ds ops ((d, undef) :: env) L rest Q) : VO P ro β N ds ops env L (⟨some d, op, ty, pos, aft, some (j, want)⟩ :: rest) Q := by
  intro a w ha hw
  have ht' := ha.get t _ ht
  have hy : yielded ops a.tmps j = some b := by
    unfold yielded; rw [hj]; simp only [Option.bind_some, ht']
  refine wpListIn_step fun K hK => ?_
  simp only [Region.wanted, hy]
  have hne : (some b == some want) = false := by subst hu; cases want <;> rfl
  simp only [hne, Bool.false_eq_true, if_false]
  exact ⟨fun _ _ => True.intro, hK _ _ (k _ w (ha.put (Nat.le_of_ble_eq_true hd) undef) hw)⟩

theorem VO.gF0 {ops : Array Oper} {j t : Nat} {want : Bool} {op : Op} {rest : List Oper} {b : Bool} (hj : (ops[j]?).bind (·.dst) = some t) (ht : ev1 env t = some (.bool b)) (hu : b = !want)
    (k : VO P ro β N ds ops env L rest Q) : VO P ro β N ds ops env L (⟨none, op, ty, pos, aft, some (j, want)⟩ :: rest) Q := by
  intro a w ha hw
  have ht' := ha.get t _ ht
  have hy : yielded ops a.tmps j = some b := by
    unfold yielded; rw [hj]; simp only [Option.bind_some, ht']
  refine wpListIn_step fun K hK => ?_
  simp only [Region.wanted, hy]
  have hne : (some b == some want) = false := by subst hu; cases want <;> rfl
  simp only [hne, Bool.false_eq_true, if_false]
  exact ⟨fun _ _ => True.intro, hK _ _ (k _ w (by simpa [Act.put] using ha) hw)⟩

theorem LO.pkT {d : Option Nat} {c x y : Operand} {b : Bool} {v : Value} (hc : OV env c (.bool b)) (hb : b = true) (hx : OV env x v) : LO P β env L ⟨d, .pick c x y, ty, pos, aft, g⟩ v :=
  .of_run fun a w h hw => ⟨w, by subst hb; simp [execOp, h c (by simp [Op.operands]) _ hc, h x (by simp [Op.operands]) _ hx, asBool], hw⟩
theorem LO.pkF {d : Option Nat} {c x y : Operand} {b : Bool} {v : Value} (hc : OV env c (.bool b)) (hb : b = false) (hy : OV env y v) : LO P β env L ⟨d, .pick c x y, ty, pos, aft, g⟩ v :=
  .of_run fun a w h hw => ⟨w, by subst hb; simp [execOp, h c (by simp [Op.operands]) _ hc, h y (by simp [Op.operands]) _ hy, asBool], hw⟩

/-- To append one more to a slice whose rows are those of a list. -/
theorem HO.appT {α : Type} {f : α → List Value} {l : List α} (x0 : α) (i j : Nat) (LF : Res → List Res) {K : Value → List Res → Prop} {dd : Option Nat} {x y : Operand} {T T' E z by_ : Nat} {aT : Array TypeId} {zero : Value} {p : Option Addr} {n cap b : Nat} {C : Array Value} (hT : IsSlice P T E) (hT' : IsSlice P T' E) (hE : EInfo P E z by_ zero) (hx : OV env x (.slice p n cap)) (hy : OV env y (.slice (some ⟨b, 0, none⟩) 1 1))
    (hi : L[i]? = some (own E z p cap (l.map f))) (hj : L[j]? = some (blk b (.cells C E))) (hC : C = (f x0).toArray) (hr : Nat.beq (f x0).length z = true) (h1 : allOne (f x0) = true) (ha0 : aT[0]? = some T) (ha1 : aT[1]? = some T') (hL : ∀ R : Res, L.set i R = LF R) (hn : n = l.length) (hs : (2 * (l.length + 1) + 768) * by_ ≤ 281474976710656)
    (k : ∀ p' cap', K (.slice p' (l ++ [x0]).length cap') (LF (own E z p' cap' ((l ++ [x0]).map f)))) : HO P β env L ⟨dd, .call ⟨.builtin .append, #[x, y], aT⟩, ty, pos, aft, none⟩ K := by
  subst hn
  refine HO.app1 i j LF hT hT' hE hx hy hi hj hC hr h1 ha0 ha1 hL (by simp) hs fun p' cap' => ?_
  have := k p' cap'
  rw [List.length_append, List.map_append] at this
  exact this

/-- A call that is handed one of the resources, and gives it back turned. -/
theorem HO.callh {α : Type} (i : Nat) {r : Res} (LF : Res → List Res) {K : Value → List Res → Prop} {dd : Option Nat} {f : FuncId} {fx : Operand} {xs : List Operand} {vs first cap : List Value} {aT : Array TypeId} {v : α → Value} {r' : α → Res} {I : α → Prop} (hi : L[i]? = some r) (hfx : OV env fx (.func (.func f) first.toArray cap.toArray)) (hf : IsFn P f) (hx : OVs env xs vs) (hL : ∀ R : Res, L.set i R = LF R)
    (hc : ∀ w, St β L w → Calls P f (first ++ vs ++ cap).toArray w fun e w' => ∃ x, I x ∧ e = .returned (v x) ∧ St ⟨w, r.fp⟩ [r' x] w') (k : ∀ x, I x → K (v x) (LF (r' x))) : HO P β env L ⟨dd, .call ⟨.value fx, xs.toArray, aT⟩, ty, pos, aft, none⟩ K := by
  intro a w h hw
  refine .inr (.inl ⟨f, (first ++ vs ++ cap).toArray, ?_, ?_⟩)
  · have hm : xs.map a.eval = vs := hx.map fun x hm u hu => by obtain ⟨u', hu', e⟩ := hu; subst e; exact h x (by simp [Op.operands, Call.operands, hm]) u' hu'
    have hfe : a.eval fx = .func (.func f) first.toArray cap.toArray := by obtain ⟨u', hu', e⟩ := hfx; subst e; exact h fx (by simp [Op.operands, Call.operands]) _ hu'
    simp [execOp, resolve, hfe, Deferred.ofValue, invoke, run_call hf, hm]
  · exact (hc w hw).mono fun e w' ⟨x, hI, he, hs⟩ => ⟨v x, _, he, k x hI, by rw [← hL]; exact hw.callAt i hi hs⟩

theorem LO.nc {d : Option Nat} {x : Operand} {p : Addr} (hx : OV env x (.pointer (some p))) : LO P β env L ⟨d, .nilCheck x, ty, pos, aft, g⟩ (.pointer (some p)) :=
  .of_run fun a w h hw => ⟨w, by simp [execOp, h x (by simp [Op.operands]) _ hx], hw⟩

theorem LO.ixo {d : Option Nat} {x i : Operand} {T E z : Nat} {p : Option Addr} {n c j : Nat} {k : IntKind} {e : Int} (hT : IsSlice P T E) (hz : (P.info? E).map (·.size) = some z) (hs : ∀ w, St β L w → SlSome p n) (hx : OV env x (.slice p n c)) (hi : OV env i (.int k e)) (he : e = (j : Int)) (hj : j < n) :
    LO P β env L ⟨d, .indexAddr T x i, ty, pos, aft, g⟩ (.pointer (some ⟨pb p, po p + j * z, none⟩)) :=
  fun a w h hw => LO.ixs (d := d) (ty := ty) (pos := pos) (aft := aft) (g := g) hT hz (hs w hw) hx hi he hj a w h hw

theorem own_cell {α : Type} {f : α → List Value} {w : World} (hw : St β L w) (i : Nat) {E z : Nat} {p : Option Addr} {cap : Nat} {l : List α} (hi : L[i]? = some (own E z p cap (l.map f))) {j : Nat} {x : α} (hx : l[j]? = some x) : Cells w ⟨pb p, po p + j * z, none⟩ (f x) :=
  (own_rows hw i hi).cells j _ (by rw [List.getElem?_map, hx]; rfl)

theorem selJ {L0 L1 : List Res} {js : List Nat} (is : List Nat) (hn : nodupB is = true) (h1 : sel L is = L1) (h2 : sel L0 js = L1) : ∀ w, St β L w → St β (sel L0 js) w := fun w hw => by
  rw [h2, ← h1]; exact hw.sel is hn

/-- The resources in another order, some left out. -/
theorem VC.perm (is : List Nat) {c : Code} (hn : nodupB is = true) (h : VC P ro β N ds env (sel L is) c Q) : VC P ro β N ds env L c Q := fun a w ha hw => h a w ha (hw.sel is hn)
theorem VC.pur {φ : Prop} {c : Code} (h : ∀ w, St β L w → φ) (k : φ → VC P ro β N ds env L c Q) : VC P ro β N ds env L c Q := fun a w ha hw => k (h w hw) a w ha hw
end
end Go.SL
