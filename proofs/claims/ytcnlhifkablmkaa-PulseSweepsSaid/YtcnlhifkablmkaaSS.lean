/-
  Strings: lengths, bytes, pieces, comparisons, a rune as a string, a range over a string's runes; a scope that no jump crosses.
-/
import Derived.Test.YtcnlhifkablmkaaSY
import Derived.Laws.Strings3
import Derived.Laws.Runes
import Derived.Laws.RangeAny
import Derived.Lib.OthersKept
import Derived.Scope
namespace Go.SL
set_option linter.unusedVariables false
open Go.RowKit

section
variable {P : Program} {ro : Option Nat} {β : Bs} {ds : List Deferred} {N : Nat} {env : Env} {L : List Res} {Q : Exit → Act → World → Prop}

theorem stepR_scopeI {b : Frame} {a : Act} {k : List Item} {cs : List Frame} {w : World} {c : Code} : step P (lone (b.atR a (.code (.scope c) :: k)) cs w) = .next (lone (b.atR a (.code c :: .inScope c :: k)) cs w) :=
  step_lone_go (by simp [stepG, stepG.exec, Frame.atR])
theorem stepR_inScopeI {b : Frame} {a : Act} {k : List Item} {cs : List Frame} {w : World} {c : Code} : step P (lone (b.atR a (.inScope c :: k)) cs w) = .next (lone (b.atR a k) cs w) :=
  step_lone_go (by simp [stepG, stepG.exec, Frame.atR])
theorem wpIn_scopeI {c : Code} {a : Act} {w : World} (h : c.wpIn (Wf ro) 0 P (Exit.noGoto Q) a w) : (Code.scope c).wpIn (Wf ro) 0 P Q a w := by
  intro b k cs hro hb hrm
  obtain ⟨e, a₁, w₁, hq, harr⟩ := h b (.inScope c :: k) cs hro hb hrm
  cases e with
  | normal => exact ⟨.normal, a₁, w₁, hq, .of_steps (.one (fenced_calm hb hrm rfl) stepR_scopeI) (StepsIn.trans harr (.one (fenced_calm hb hrm rfl) stepR_inScopeI))⟩
  | exit id => exact ⟨.exit id, a₁, w₁, hq, .of_steps (.one (fenced_calm hb hrm rfl) stepR_scopeI) ⟨fun k' hk => harr.1 k' (by simp [exitTo, hk]), fun hr hk => harr.2 hr (by simp [exitTo, hk])⟩⟩
  | goto l => exact hq.elim
  | ret => exact ⟨.ret, a₁, w₁, hq, ArrivesIn.of_steps (e := .ret) (.one (fenced_calm hb hrm rfl) stepR_scopeI) harr⟩
  | panic ch => exact ⟨.panic ch, a₁, w₁, hq, ArrivesIn.of_steps (e := .panic ch) (.one (fenced_calm hb hrm rfl) stepR_scopeI) harr⟩
  | outgrown => exact ⟨.outgrown, a₁, w₁, hq, ArrivesIn.of_steps (e := .outgrown) (.one (fenced_calm hb hrm rfl) stepR_scopeI) harr⟩

theorem VC.scope {c : Code} (h : VC P ro β N ds env L c (Exit.noGoto Q)) : VC P ro β N ds env L (.scope c) Q := fun a w ha hw => wpIn_scopeI (h a w ha hw)
theorem VE.scN (h : VE β N ds env L .normal Q) : VE β N ds env L .normal (Exit.noGoto Q) := fun a w ha hw => h a w ha hw
theorem VE.scR (h : VE β N ds env L .ret Q) : VE β N ds env L .ret (Exit.noGoto Q) := fun a w ha hw => h a w ha hw
theorem VE.scX {id : Nat} (h : VE β N ds env L (.exit id) Q) : VE β N ds env L (.exit id) (Exit.noGoto Q) := fun a w ha hw => h a w ha hw

variable {d : Option Nat} {ty : TypeId} {pos : String} {aft : Array Edge} {g : Option (Nat × Bool)}
theorem LO.lenS {T : Nat} {x : Operand} {s : ByteArray} {aT : Array TypeId} (hT : P.underlying T = some .string) (hx : OV env x (.string s)) (ha : aT[0]? = some T) : LO P β env L ⟨d, .call ⟨.builtin .len, #[x], aT⟩, ty, pos, aft, g⟩ (.int .i64 s.size) :=
  .of_run fun a w h hw => ⟨w, by simp [execOp, resolve, invoke, builtin, h x (by simp [Op.operands, Call.operands]) _ hx, Builtin.len_, ha, run_underlying hT, goInt], hw⟩
theorem LO.ixS {T : Nat} {x i : Operand} {s : ByteArray} {k : IntKind} {e : Int} {j : Nat} (hT : P.underlying T = some .string) (hx : OV env x (.string s)) (hi : OV env i (.int k e)) (he : e = (j : Int)) (hj : j < s.size) : LO P β env L ⟨d, .index T x i, ty, pos, aft, g⟩ (.int .u8 ((s.data.toList.getD j 0).toNat : Int)) :=
  .of_run fun a w h hw => ⟨w, by
    subst he
    have hr := run_index_string (P := P) (w := w) T s k (j : Int) hT
    rw [dif_pos ⟨by omega, by omega⟩] at hr
    have e2 : (s[(j : Int).toNat]'(by omega)) = s.data.toList.getD j 0 := by
      have hl : j < s.data.toList.length := by rw [Array.length_toList]; exact hj
      simp only [Int.toNat_natCast, List.getD, List.getElem?_eq_getElem hl, Option.getD_some]
      rfl
    rw [e2] at hr
    simp [execOp, h x (by simp [Op.operands]) _ hx, h i (by simp [Op.operands]) _ hi, hr], hw⟩
theorem LO.slS {T : Nat} {x i : Operand} {s : ByteArray} {k : IntKind} {e : Int} (hT : P.underlying T = some .string) (hx : OV env x (.string s)) (hi : OV env i (.int k e)) (h0 : 0 ≤ e) (h1 : e ≤ (s.size : Int)) : LO P β env L ⟨d, .slice T x (some i) none none, ty, pos, aft, g⟩ (.string (s.extract e.toNat s.size)) :=
  .of_run fun a w h hw => ⟨w, by
    have hr := run_slice_string_from_if (P := P) (w := w) T s k e hT
    rw [if_pos ⟨h0, h1⟩] at hr
    simp [execOp, h x (by simp [Op.operands]) _ hx, h i (by simp [Op.operands]) _ hi, Instr.sliceAt, run_underlying hT, hr], hw⟩
theorem LO.cvS {sT dT : Nat} {x : Operand} {k : IntKind} {m : Int} (hs : ∃ d, P.underlying sT = some d) (hT : P.underlying dT = some .string) (hx : OV env x (.int k m)) : LO P β env L ⟨d, .convert sT dT x, ty, pos, aft, g⟩ (.string (Utf8.encode m)) :=
  .of_run fun a w h hw => ⟨w, by
    have hr := run_convert_int_string (P := P) w sT dT k m (Option.isSome_iff_exists.2 hs) hT
    simp [execOp, h x (by simp [Op.operands]) _ hx, hr], hw⟩
theorem LO.eqS {xT yT : Nat} {x y : Operand} {s t : ByteArray} (hx : OV env x (.string s)) (hy : OV env y (.string t)) : LO P β env L ⟨d, .binOp .eql xT x y yT, ty, pos, aft, g⟩ (.bool (s.toList == t.toList)) :=
  .of_run fun a w h hw => ⟨w, by simp [execOp, h x (by simp [Op.operands]) _ hx, h y (by simp [Op.operands]) _ hy, eqGuard, binOp_string_eql], hw⟩
theorem LO.neS {xT yT : Nat} {x y : Operand} {s t : ByteArray} (hx : OV env x (.string s)) (hy : OV env y (.string t)) : LO P β env L ⟨d, .binOp .neq xT x y yT, ty, pos, aft, g⟩ (.bool (!(s.toList == t.toList))) :=
  .of_run fun a w h hw => ⟨w, by simp [execOp, h x (by simp [Op.operands]) _ hx, h y (by simp [Op.operands]) _ hy, eqGuard, binOp_string_neq], hw⟩

theorem LO.eqB {x y : Operand} {xT yT : TypeId} {a b : Bool} (hT : P.underlying xT = some .bool) (hx : OV env x (.bool a)) (hy : OV env y (.bool b)) :
    LO P β env L ⟨d, .binOp .eql xT x y yT, ty, pos, aft, g⟩ (.bool (decide (a = b))) :=
  .of_run fun ac w h hw => ⟨w, by
    have key : ∀ dd, (Op.equalIn (dd + 1) xT (.bool a) (.bool b)).run P w = .ok (a == b) w := fun dd => by simp [Op.equalIn, run_underlying hT]
    have e : (Op.equal xT (.bool a) (.bool b)).run P w = .ok (a == b) w := key 9999
    simp [execOp, h x (by simp [Op.operands]) _ hx, h y (by simp [Op.operands]) _ hy, eqGuard, binOp, e, Result.andThen_ok]
    cases a <;> cases b <;> rfl, hw⟩
section
variable {K : Value → List Res → Prop} {dd : Option Nat}
theorem HO.range {T : Nat} {x : Operand} {s : ByteArray} (hT : P.underlying T = some .string) (hx : ev env x = some (.string s)) (k : ∀ b, K (.pointer (some ⟨b, 0, none⟩)) (blk b (.stringIter s 0) :: L)) : HO P β env L ⟨dd, .range T x, ty, pos, aft, g⟩ K := by
  intro a w h hw
  refine .inl ⟨_, w.iter s 0, _, _, ?_, .inl rfl, k w.heap.size, hw.alloc _⟩
  simp [execOp, h x (by simp [Op.operands]) _ hx, run_range_string w T s hT]
theorem HO.nextT (i : Nat) (LF : Res → List Res) {x : Operand} {s : ByteArray} {b p : Nat} (hx : ev env x = some (.pointer (some ⟨b, 0, none⟩))) (hi : L[i]? = some (blk b (.stringIter s p))) (hL : ∀ R : Res, L.set i R = LF R) (hp : p < s.size)
    (k : K (.tuple #[.bool true, .int .i64 p, .int .i32 (Utf8.decode s p).1]) (LF (blk b (.stringIter s (p + (Utf8.decode s p).2))))) : HO P β env L ⟨dd, .next x true, ty, pos, aft, g⟩ K := by
  intro a w h hw
  have hb : w.heap[b]? = some (.stringIter s p) := hw.inv i _ hi
  refine .inl ⟨_, w.iterAt b s (p + (Utf8.decode s p).2), _, _, ?_, .inl rfl, k, ?_⟩
  · have := Go.Lib.run_next_any_at (P := P) w b s p ty hb hp
    simp [execOp, h x (by simp [Op.operands]) _ hx, this]
  · exact hw.upd hi (hL _).symm (Go.Lib.iterAt_heap w b s p _ hb) (fun j hj => Go.Lib.iterAt_other w b j s _ hj) (Go.Lib.iterAt_size w b s _) rfl rfl rfl
theorem HO.nextF (i : Nat) {x : Operand} {s : ByteArray} {b p : Nat} (hx : ev env x = some (.pointer (some ⟨b, 0, none⟩))) (hi : L[i]? = some (blk b (.stringIter s p))) (hp : ¬ p < s.size)
    (k : K (.tuple #[.bool false]) L) : HO P β env L ⟨dd, .next x true, ty, pos, aft, g⟩ K := by
  intro a w h hw
  have hb : w.heap[b]? = some (.stringIter s p) := hw.inv i _ hi
  refine .inl ⟨_, w, _, _, ?_, .inl rfl, k, hw⟩
  have := Go.Lib.run_next_end_at (P := P) w b s p ty hb hp
  simp [execOp, h x (by simp [Op.operands]) _ hx, this]
end
end

/-! ### What a string's runes come to -/
/-- The place at which the first rune with 'p r = truth' begins; -1: there is none. -/
def idxF (p : Nat → Bool) (s : ByteArray) : Nat → Nat → Int
  | 0, _ => -1
  | f + 1, q => if q < s.size then (if p (Utf8.decode s q).1 = true then (q : Int) else idxF p s f (q + (Utf8.decode s q).2)) else -1
theorem idxF_end {p : Nat → Bool} {s : ByteArray} : ∀ {f q : Nat}, ¬ q < s.size → idxF p s f q = -1
  | 0, _, _ => rfl
  | f + 1, q, h => by rw [idxF, if_neg h]
theorem decode_pos (s : ByteArray) (q : Nat) : 1 ≤ (Utf8.decode s q).2 := by
  simp only [Utf8.decode]
  repeat' split
  all_goals simp_all
/-- A byte that is no ASCII byte begins a rune that is none. -/
theorem idxF_bytes {p : Nat → Bool} {s : ByteArray} (h : ∀ r, 128 ≤ r → p r = true) : ∀ {f q : Nat}, s.size ≤ q + f → (idxF p s f q < 0 ↔ ∀ j, q ≤ j → j < s.size → p (s.data.toList.getD j 0).toNat = false)
  | 0, q, hf => by simp only [idxF]; exact ⟨fun _ j h1 h2 => by omega, fun _ => by decide⟩
  | f + 1, q, hf => by
    rw [idxF]
    by_cases hq : q < s.size
    · rw [if_pos hq]
      have eg : s.data.toList.getD q 0 = s[q]'hq := by
        have hl : q < s.data.toList.length := by rw [Array.length_toList]; exact hq
        simp only [List.getD, List.getElem?_eq_getElem hl, Option.getD_some]
        rfl
      by_cases ha : (s[q]'hq).toNat < 128
      · rw [decode_ascii s q hq ha]
        dsimp only
        by_cases hp : p (s[q]'hq).toNat = true
        · rw [if_pos hp]
          refine ⟨fun k => by omega, fun k => ?_⟩
          have := k q (Nat.le_refl _) hq
          rw [eg, hp] at this; cases this
        · rw [if_neg hp]
          rw [idxF_bytes h (f := f) (q := q + 1) (by omega)]
          refine ⟨fun k j h1 h2 => ?_, fun k j h1 h2 => k j (by omega) h2⟩
          by_cases e : j = q
          · subst e; rw [eg]; simpa using hp
          · exact k j (by omega) h2
      · have hd := decode_high s q hq (by omega)
        rw [if_pos (h _ hd.1)]
        refine ⟨fun k => by omega, fun k => ?_⟩
        have := k q (Nat.le_refl _) hq
        rw [eg, h _ (by omega)] at this; cases this
    · rw [if_neg hq]
      exact ⟨fun _ j h1 h2 => by omega, fun _ => by decide⟩
end Go.SL
