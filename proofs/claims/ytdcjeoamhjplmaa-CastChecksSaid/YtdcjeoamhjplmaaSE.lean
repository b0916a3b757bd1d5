/-
  Arrays of two ints are equal, or not.
-/
import Derived.Test.YtdcjeoamhjplmaaSC
import Derived.ChangeKeysEq
namespace Go.SL
set_option linter.unusedVariables false
section
variable {P : Program} {β : Bs} {env : Env} {L : List Res}
variable {ty : TypeId} {pos : String} {aft : Array Edge} {g : Option (Nat × Bool)}
def Arr2 (P : Program) (T E : Nat) : Prop := P.underlying T = some (.array 2 E) ∧ IsOne P E ∧ (∃ i, P.info? E = some i) ∧ P.cellsOf E = 1 ∧ P.eqGuardType P.depth T = false ∧ P.underlying E = some (.int .i64)
theorem eqArr2 {T E : Nat} (h : Arr2 P T E) (a b c e : Int) (dd : Nat) (w : World) : (Op.equalIn (dd + 2) T (.agg #[.int .i64 a, .int .i64 b]) (.agg #[.int .i64 c, .int .i64 e])).run P w = .ok (decide ([a, b] = [c, e])) w := by
  obtain ⟨hu, h1, ⟨i, hi⟩, hz, _, hE⟩ := h
  rw [run_equalIn_array w (dd + 1) _ _ hu hi, hz]
  have p (xs : Array Value) (k : Nat) (v : Int) (hk : xs[k]? = some (.int .i64 v)) : (part E xs k).run P w = .ok (.int .i64 v) w := by
    simp [part, run_isOne h1, hk]
  simp only [List.range_succ, List.range_zero, List.nil_append, List.cons_append, Op.eqItems, Sem.run_bind]
  rw [p #[.int .i64 a, .int .i64 b] (0 * 1) a rfl, Result.andThen_ok, p #[.int .i64 c, .int .i64 e] (0 * 1) c rfl, Result.andThen_ok, run_equalIn_int w dd E .i64 .i64 a c hE, Result.andThen_ok]
  by_cases q : a = c
  · subst q
    simp only [BEq.rfl, Bool.not_true, Bool.false_eq_true, if_false, Sem.run_bind]
    rw [p #[.int .i64 a, .int .i64 b] (1 * 1) b rfl, Result.andThen_ok, p #[.int .i64 a, .int .i64 e] (1 * 1) e rfl, Result.andThen_ok, run_equalIn_int w dd E .i64 .i64 b e hE, Result.andThen_ok]
    by_cases r : b = e
    · subst r; simp
    · simp [r]
  · simp [q]
theorem LO.nea2 {d : Option Nat} {x y : Operand} {T yT E : Nat} {a b c e : Int} (hT : Arr2 P T E) (hx : OV env x (.agg #[.int .i64 a, .int .i64 b])) (hy : OV env y (.agg #[.int .i64 c, .int .i64 e])) : LO P β env L ⟨d, .binOp .neq T x y yT, ty, pos, aft, g⟩ (.bool (!decide ([a, b] = [c, e]))) :=
  .of_run fun act w h hw => ⟨w, by
    have h1 := eqArr2 hT a b c e 9998 w
    simp only [execOp, h x (by simp [Op.operands]) _ hx, h y (by simp [Op.operands]) _ hy, Sem.run_bind, run_eqGuard_agg w .neq T x y _ _ hT.2.2.2.2.1, Result.andThen_ok, run_neq_struct, h1, Sem.run_pure], hw⟩
theorem LO.eqa2 {d : Option Nat} {x y : Operand} {T yT E : Nat} {a b c e : Int} (hT : Arr2 P T E) (hx : OV env x (.agg #[.int .i64 a, .int .i64 b])) (hy : OV env y (.agg #[.int .i64 c, .int .i64 e])) : LO P β env L ⟨d, .binOp .eql T x y yT, ty, pos, aft, g⟩ (.bool (decide ([a, b] = [c, e]))) :=
  .of_run fun act w h hw => ⟨w, by
    have h1 := eqArr2 hT a b c e 9998 w
    simp only [execOp, h x (by simp [Op.operands]) _ hx, h y (by simp [Op.operands]) _ hy, Sem.run_bind, run_eqGuard_agg w .eql T x y _ _ hT.2.2.2.2.1, Result.andThen_ok, run_eql_struct, h1, Sem.run_pure], hw⟩
end
end Go.SL
