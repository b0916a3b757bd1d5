/-
  A slice of a slice, from a number on.
-/
import Derived.Test.YtdcjeoamhjplmaaSJ
import Derived.Test.YtdcjeoamhjplmaaSX
namespace Go.SL
set_option linter.unusedVariables false
section
variable {P : Program} {β : Bs} {env : Env} {L : List Res}
variable {ty : TypeId} {pos : String} {aft : Array Edge} {g : Option (Nat × Bool)}
/-- Where the rest of a slice begins. -/
def slFrom (p : Option Addr) (c l z : Nat) : Option Addr := if c = l then p else p.map (·.add (l * z))
theorem LO.sl {d : Option Nat} {x i : Operand} {T E z : Nat} {p : Option Addr} {n c l : Nat} {e : Int} (hT : IsSlice P T E) (hz : (P.info? E).map (·.size) = some z) (hx : OV env x (.slice p n c)) (hi : OV env i (.int .i64 e)) (he : e = (l : Int)) (hl : l ≤ n) :
    LO P β env L ⟨d, .slice T x (some i) none none, ty, pos, aft, g⟩ (.slice (slFrom p c l z) (n - l) (c - l)) :=
  .of_run fun a w h hw => ⟨w, by
    subst he
    have h1 : ((l : Int) ≤ (n : Int)) := by omega
    simp [execOp, h x (by simp [Op.operands]) _ hx, h i (by simp [Op.operands]) _ hi, Instr.sliceAt, run_underlying hT, Instr.slice, Instr.sliceBounds, Instr.sliceBound, asIntOf, hl, run_size hz, slFrom], hw⟩
end
theorem fill_cg {f g : Nat → Option (Nat × Nat)} : ∀ {ps : List (Nat × Value)} {Z : Array Value}, (∀ q, q ∈ ps → f q.1 = g q.1) → Instr.fill f Z ps = Instr.fill g Z ps
  | [], Z, _ => rfl
  | (i, v) :: r, Z, h => by
    have e : f i = g i := h (i, v) (by simp)
    simp only [Instr.fill, e]
    cases g i with
    | none => rfl
    | some q => dsimp only; split
                · rfl
                · exact fill_cg fun q hq => h q (by simp [hq])
/-- The same for an array. -/
def BuildsA (P : Program) (T : Nat) (PL : List (Nat × Nat)) (Z : List Value) : Prop := ∀ ps : List (Nat × Value), (ps.all fun q => Nat.blt q.1 PL.length) = true → P.built T ps = Instr.fill (PL[·]?) Z.toArray ps
theorem BuildsA.mk {P : Program} {T z n : Nat} {PL : List (Nat × Nat)} {Z : List Value} (h : ∀ ps, P.built T ps = Instr.fill (fun i => some (i * z, z)) Z.toArray ps) (hPL : PL = (List.range n).map fun i => (i * z, z)) : BuildsA P T PL Z := fun ps hp => by
  rw [h]
  refine fill_cg fun q hq => ?_
  have h1 := List.all_eq_true.1 hp q hq
  subst hPL
  have h2 : q.1 < n := by simpa [Nat.blt_eq] using h1
  simp [h2]
section
variable {P : Program} {β : Bs} {env : Env} {L : List Res}
variable {ty : TypeId} {pos : String} {aft : Array Edge} {g : Option (Nat × Bool)}
theorem LO.bda {d : Option Nat} {T : Nat} {PL : List (Nat × Nat)} {Z : List Value} {ps : List (Nat × Operand)} {vs : List (Nat × Value)} {C : List Value} (hB : BuildsA P T PL Z) (hv : (vs.all fun q => Nat.blt q.1 PL.length) = true) (hps : OVs env (ps.map (·.2)) (vs.map (·.2))) (hix : ps.map (·.1) = vs.map (·.1)) (hb : FL PL Z vs C) : LO P β env L ⟨d, .build T ps.toArray, ty, pos, aft, g⟩ (.agg C.toArray) :=
  .of_run fun a w h hw => ⟨w, by
    have h2 := OVs.map (a := a) hps (fun x hm u hu => h x (by
      obtain ⟨p, hp, e⟩ := List.mem_map.1 hm
      simp only [Op.operands]
      subst e
      simpa using ⟨p.1, hp⟩) u hu)
    rw [List.map_map] at h2
    have hm : (ps.map fun p => (p.1, a.eval p.2)) = vs := pairs_eq hix h2
    have hb' := run_build (P := P) w T vs.toArray C.toArray (by rw [hB _ hv]; exact hb.fill)
    rw [← hm] at hb'
    simp only [execOp, Sem.run_bind]
    rw [show (ps.toArray.map fun (i, x) => (i, a.eval x)) = (ps.map fun p => (p.1, a.eval p.2)).toArray by simp]
    simp [hb'], hw⟩
end
theorem rows_drop {w : World} {z k c : Nat} {p : Option Addr} {rows : List (List Value)} (h : Rows w z p rows) (hk : k ≤ rows.length) (hc : rows.length ≤ c) : Rows w z (slFrom p c k z) (rows.drop k) := by
  unfold slFrom
  by_cases q : c = k
  · rw [if_pos q, List.drop_of_length_le (by omega)]
    exact ⟨by simp, fun _ => rfl, fun r => absurd rfl r⟩
  · rw [if_neg q]
    cases p with
    | none => rw [h.nil rfl]; exact ⟨by simp, fun _ => by simp, fun r => absurd (by simp) r⟩
    | some a =>
      refine ⟨fun j r hr => ?_, fun r => (by cases r), fun hne b hb => ?_⟩
      · rw [List.getElem?_drop] at hr
        have hs := h.spot (fun e => by rw [e] at hr; simp at hr) a rfl
        have := h.cells (k + j) r hr
        have e1 : pb (Option.map (·.add (k * z)) (some a)) = pb (some a) := by simp only [Option.map, pb]; unfold Addr.add; split <;> rfl
        have e2 : po (Option.map (·.add (k * z)) (some a)) = po (some a) + k * z := by simp only [Option.map, po]; unfold Addr.add; split <;> simp_all
        rw [e1, e2, Nat.add_assoc, ← Nat.add_mul]; exact this
      · have hs := h.spot (fun e => hne (by rw [e]; simp)) a rfl
        simp only [Option.map, Option.some.injEq] at hb
        subst hb; unfold Addr.add; split <;> simp [hs]
theorem RD.cap {H : Type} {enc : TypeId × Value → H} {P : Program} {W : World} {t e n : Nat} {x : DataW H × List MemPlace} (ht : P.underlying t = some (.slice e)) {p : Option Addr} {k c : Nat} (hx : DataW.trod enc P W 0 (fun _ => true) true n t [.slice p k c] = some x) : k ≤ c := by
  rcases DataW.trod_slice ht hx with ⟨h, _⟩ | ⟨a, len, cap, elems, rest, m, _, h, _, _, hl, _⟩
  · cases h; exact Nat.le_refl _
  · cases h; exact hl
end Go.SL
