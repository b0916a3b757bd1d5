/-
  Structs and arrays of ints, nested as they may be: equal, or not. The rest of a power of 2 by a mask.
-/
import Derived.Test.YtdcjeoamhjplmaaSX
import Derived.ChangeKeysEq
namespace Go.SL
set_option linter.unusedVariables false
set_option linter.unusedSimpArgs false
open Go.RowKit
section
variable {P : Program}
/-- All cells of the type are ints; 'n' of them. -/
def flatA (P : Program) : Nat → TypeId → Option Nat
  | 0, _ => none
  | f + 1, T =>
    match P.underlying T with
    | some (.int .i64) => if (P.info? T).map (·.size) = some 1 then some 1 else none
    | some (.struct fs) =>
      if P.stoodInHeld T then none else
      match fs.toList.foldlM (fun (o : Nat) F => if F.name = "_" || F.offset ≠ o then none else (flatA P f F.type).map (o + ·)) 0 with
      | some n => if (P.info? T).map (·.size) = some n then some n else none
      | none => none
    | some (.array n E) =>
      match flatA P f E with
      | some z => if P.cellsOf E = z ∧ (P.info? E).map (·.size) = some z ∧ (P.info? T).map (·.size) = some (n * z) then some (n * z) else none
      | none => none
    | _ => none

def valA (P : Program) (T : TypeId) (as : List Int) : Value := match P.underlying T with
  | some (.struct _) => .agg (as.map intV).toArray
  | some (.array _ _) => .agg (as.map intV).toArray
  | _ => (as.map intV).head?.getD undef

theorem part_A {f : Nat} {T n : Nat} (h : flatA P f T = some n) {as : List Int} {o : Nat} (ho : o + n ≤ as.length) (w : World) :
    (part T (as.map intV).toArray o).run P w = .ok (valA P T ((as.drop o).take n)) w := by
  cases f with
  | zero => simp [flatA] at h
  | succ f =>
    unfold flatA at h
    unfold valA
    split at h
    · rename_i hu
      split at h
      · rename_i hs
        cases h
        have h1 : IsOne P T := ⟨⟨_, hu, rfl⟩, hs⟩
        have hlt : o < as.length := by omega
        have e : (as.drop o).take 1 = [as[o]] := by
          rw [List.drop_eq_getElem_cons hlt]; rfl
        simp [part, run_isOne h1, hu, e, hlt]
      · cases h
    · rename_i fs hu
      split at h
      · cases h
      · split at h
        · rename_i n' _
          split at h
          · rename_i hs
            cases h
            have h1 : IsAgg P T n := ⟨⟨_, hu, rfl⟩, hs⟩
            simp only [part, Sem.run_bind, run_isAgg h1, Result.andThen_ok, run_size hs, if_true, Sem.run_pure, hu]
            congr 2
            apply Array.ext'
            simp [List.map_drop, List.map_take, List.extract]
          · cases h
        · cases h
    · rename_i k E hu
      split at h
      · rename_i z hz
        split at h
        · rename_i hs
          cases h
          have h1 : IsAgg P T (k * z) := ⟨⟨_, hu, rfl⟩, hs.2.2⟩
          simp only [part, Sem.run_bind, run_isAgg h1, Result.andThen_ok, run_size hs.2.2, if_true, Sem.run_pure, hu]
          congr 2
          apply Array.ext'
          simp [List.map_drop, List.map_take, List.extract]
        · cases h
      · cases h
    · cases h

theorem eqFields_A {f dd : Nat} (ih : ∀ {T n : Nat}, flatA P f T = some n → ∀ {as bs : List Int}, as.length = n → bs.length = n → ∀ w, (Op.equalIn dd T (valA P T as) (valA P T bs)).run P w = .ok (decide (as = bs)) w) :
    ∀ (fs : List Field) (o n : Nat), fs.foldlM (fun (o : Nat) F => if F.name = "_" || F.offset ≠ o then none else (flatA P f F.type).map (o + ·)) o = some n → ∀ {as bs : List Int}, as.length = n → bs.length = n → o ≤ n → ∀ w,
      (Op.eqFields dd (as.map intV).toArray (bs.map intV).toArray fs).run P w = .ok (decide (as.drop o = bs.drop o)) w
  | [], o, n, h, as, bs, ha, hb, ho, w => by
    simp at h
    subst h
    simp [Op.eqFields, List.drop_of_length_le (Nat.le_of_eq ha), List.drop_of_length_le (Nat.le_of_eq hb)]
  | F :: fs, o, n, h, as, bs, ha, hb, ho, w => by
    simp only [List.foldlM_cons] at h
    by_cases hc : (F.name = "_" || F.offset ≠ o) = true
    · rw [if_pos hc] at h; simp at h
    · simp only [hc, Bool.false_eq_true, if_false] at h
      simp only [Bool.or_eq_true, decide_eq_true_eq, not_or, ne_eq, Classical.not_not] at hc
      obtain ⟨hn, hoff⟩ := hc
      cases hf : flatA P f F.type with
      | none => simp [hf] at h
      | some m =>
        simp only [hf, Option.map_some] at h
        replace h : List.foldlM (fun (o : Nat) F => if F.name = "_" || F.offset ≠ o then none else (flatA P f F.type).map (o + ·)) (o + m) fs = some n := h
        have hle : o + m ≤ n := foldl_le fs (o + m) n h
        simp only [Op.eqFields, hn, ne_eq, not_false_eq_true, if_true, Sem.run_bind, hoff]
        rw [part_A hf (by omega) w]
        simp only [Result.andThen_ok]
        rw [part_A hf (by omega) w]
        simp only [Result.andThen_ok]
        rw [ih hf (by simp; omega) (by simp; omega) w]
        simp only [Result.andThen_ok]
        have sp : ∀ l : List Int, l.drop o = (l.drop o).take m ++ l.drop (o + m) := by
          intro l
          have := List.take_append_drop m (l.drop o)
          rw [List.drop_drop] at this
          exact this.symm
        by_cases e : (as.drop o).take m = (bs.drop o).take m
        · simp only [e, decide_true, Bool.not_true, Bool.false_eq_true, if_false]
          rw [eqFields_A ih fs (o + m) n h ha hb hle w]
          congr 2
          apply propext
          rw [sp as, sp bs, e]
          simp
        · simp only [e, decide_false, Bool.not_false, if_true, Sem.run_pure]
          congr 1
          symm
          rw [decide_eq_false_iff_not]
          intro q
          exact e (by rw [q])
where
  foldl_le : ∀ (fs : List Field) (o n : Nat), fs.foldlM (fun (o : Nat) F => if F.name = "_" || F.offset ≠ o then none else (flatA P f F.type).map (o + ·)) o = some n → o ≤ n
    | [], o, n, h => by simp at h; omega
    | F :: fs, o, n, h => by
      simp only [List.foldlM_cons] at h
      by_cases hc : (F.name = "_" || F.offset ≠ o) = true
      · rw [if_pos hc] at h; simp at h
      · simp only [hc, Bool.false_eq_true, if_false] at h
        cases hf : flatA P f F.type with
        | none => simp [hf] at h
        | some m =>
          simp only [hf, Option.map_some] at h
          have := foldl_le fs (o + m) n h
          omega

theorem eqItems_A {f dd : Nat} {E z : Nat} (ih : ∀ {as bs : List Int}, as.length = z → bs.length = z → ∀ w, (Op.equalIn dd E (valA P E as) (valA P E bs)).run P w = .ok (decide (as = bs)) w) (hE : flatA P f E = some z) {as bs : List Int} :
    ∀ (m i : Nat), as.length = (i + m) * z → bs.length = (i + m) * z → ∀ w, (Op.eqItems dd E z (as.map intV).toArray (bs.map intV).toArray ((List.range m).map (i + ·))).run P w = .ok (decide (as.drop (i * z) = bs.drop (i * z))) w
  | 0, i, ha, hb, w => by
    simp at ha hb
    simp [Op.eqItems, List.drop_of_length_le (Nat.le_of_eq ha), List.drop_of_length_le (Nat.le_of_eq hb)]
  | m + 1, i, ha, hb, w => by
    have e0 : (List.range (m + 1)).map (i + ·) = i :: (List.range m).map (i + 1 + ·) := by
      rw [List.range_succ_eq_map]
      simp [Function.comp_def, Nat.add_assoc, Nat.add_comm 1]
    have hz1 : i * z + z ≤ as.length := by rw [ha, Nat.add_mul, Nat.add_mul]; omega
    have hz2 : i * z + z ≤ bs.length := by rw [hb, Nat.add_mul, Nat.add_mul]; omega
    rw [e0]
    simp only [Op.eqItems, Sem.run_bind]
    rw [part_A hE hz1 w]
    simp only [Result.andThen_ok]
    rw [part_A hE hz2 w]
    simp only [Result.andThen_ok]
    rw [ih (by simp; omega) (by simp; omega) w]
    simp only [Result.andThen_ok]
    have sp : ∀ l : List Int, l.drop (i * z) = (l.drop (i * z)).take z ++ l.drop ((i + 1) * z) := by
      intro l
      have := List.take_append_drop z (l.drop (i * z))
      rw [List.drop_drop] at this
      rw [Nat.add_mul, Nat.one_mul]
      exact this.symm
    by_cases e : (as.drop (i * z)).take z = (bs.drop (i * z)).take z
    · simp only [e, decide_true, Bool.not_true, Bool.false_eq_true, if_false]
      rw [eqItems_A ih hE m (i + 1) (by rw [ha]; congr 1; omega) (by rw [hb]; congr 1; omega) w]
      congr 2
      apply propext
      rw [sp as, sp bs, e]
      simp
    · simp only [e, decide_false, Bool.not_false, if_true, Sem.run_pure]
      congr 1
      symm
      rw [decide_eq_false_iff_not]
      intro q
      exact e (by rw [q])

theorem equalIn_A : ∀ (f : Nat) {T n : Nat}, flatA P f T = some n → ∀ {as bs : List Int}, as.length = n → bs.length = n → ∀ dd, f ≤ dd → ∀ w, (Op.equalIn dd T (valA P T as) (valA P T bs)).run P w = .ok (decide (as = bs)) w
  | 0, T, n, h, _, _, _, _, _, _, _ => by simp [flatA] at h
  | f + 1, T, n, h, as, bs, ha, hb, dd, hd, w => by
    obtain ⟨dd, rfl⟩ : ∃ d', dd = d' + 1 := ⟨dd - 1, by omega⟩
    unfold flatA at h
    unfold valA
    split at h
    · rename_i hu
      split at h
      · cases h
        match as, bs, ha, hb with
        | [a], [b], _, _ =>
          simp only [hu, List.map_cons, List.map_nil, List.head?_cons, Option.getD_some, intV]
          rw [run_equalIn_int w dd T .i64 .i64 a b hu]
          congr 1
          simp [BEq.beq]
      · cases h
    · rename_i fs hu
      split at h
      · cases h
      · rename_i hs
        split at h
        · rename_i n' hf
          split at h
          · cases h
            have hfs : P.fieldsOf T = fs := by simp [Program.fieldsOf, hu]
            simp only [hu]
            rw [run_equalIn_struct w dd T _ _ (by rw [hfs]; exact hu) (by simpa using hs), hfs]
            have := eqFields_A (P := P) (f := f) (dd := dd) (fun {T n} h2 {as bs} h3 h4 w => equalIn_A f h2 h3 h4 dd (by omega) w) fs.toList 0 n hf ha hb (by omega) w
            simpa using this
          · cases h
        · cases h
    · rename_i k E hu
      split at h
      · rename_i z hz
        split at h
        · rename_i hs
          cases h
          obtain ⟨hc, hsz, _⟩ := hs
          obtain ⟨i, hi, _⟩ : ∃ i, P.info? E = some i ∧ i.size = z := by
            cases q : P.info? E with
            | none => simp [q] at hsz
            | some i => exact ⟨i, rfl, by simpa [q] using hsz⟩
          simp only [hu]
          rw [run_equalIn_array w dd _ _ hu hi, hc]
          have := eqItems_A (P := P) (f := f) (dd := dd) (E := E) (z := z) (fun {as bs} h3 h4 w => equalIn_A f hz h3 h4 dd (by omega) w) hz (as := as) (bs := bs) k 0 (by rw [ha]; simp) (by rw [hb]; simp) w
          simpa using this
        · cases h
      · cases h
    · cases h

def FlatA (P : Program) (T n : Nat) : Prop := (∃ d, P.underlying T = some d ∧ (match d with | .struct _ | .array _ _ => true | _ => false) = true) ∧ flatA P 20 T = some n ∧ P.eqGuardType P.depth T = false

variable {ro : Option Nat} {β : Bs} {N : Nat} {ds : List Deferred} {env : Env} {L : List Res} {Q : Exit → Act → World → Prop}
variable {d : Option Nat} {ty : TypeId} {pos : String} {aft : Array Edge} {g : Option (Nat × Bool)}
theorem valA_agg {T n : Nat} (hT : FlatA P T n) (as : List Int) : valA P T as = .agg (as.map intV).toArray := by
  obtain ⟨⟨d, hu, hd⟩, _⟩ := hT
  unfold valA; rw [hu]; cases d <;> simp_all
theorem LO.eqA {x y : Operand} {T yT n : Nat} {as bs : List Int} (hT : FlatA P T n) (hx : OV env x (.agg (as.map intV).toArray)) (hy : OV env y (.agg (bs.map intV).toArray)) (ha : Nat.beq as.length n = true) (hb : Nat.beq bs.length n = true) : LO P β env L ⟨d, .binOp .eql T x y yT, ty, pos, aft, g⟩ (.bool (decide (as = bs))) :=
  .of_run fun a w h hw => ⟨w, by
    have h1 := equalIn_A (P := P) 20 hT.2.1 (as := as) (bs := bs) (Nat.eq_of_beq_eq_true ha) (Nat.eq_of_beq_eq_true hb) 10000 (by decide) w
    rw [valA_agg hT, valA_agg hT] at h1
    simp only [execOp, h x (by simp [Op.operands]) _ hx, h y (by simp [Op.operands]) _ hy, Sem.run_bind, run_eqGuard_agg w .eql T x y _ _ hT.2.2, Result.andThen_ok, run_eql_struct, h1, Sem.run_pure], hw⟩
theorem LO.neA {x y : Operand} {T yT n : Nat} {as bs : List Int} (hT : FlatA P T n) (hx : OV env x (.agg (as.map intV).toArray)) (hy : OV env y (.agg (bs.map intV).toArray)) (ha : Nat.beq as.length n = true) (hb : Nat.beq bs.length n = true) : LO P β env L ⟨d, .binOp .neq T x y yT, ty, pos, aft, g⟩ (.bool (!decide (as = bs))) :=
  .of_run fun a w h hw => ⟨w, by
    have h1 := equalIn_A (P := P) 20 hT.2.1 (as := as) (bs := bs) (Nat.eq_of_beq_eq_true ha) (Nat.eq_of_beq_eq_true hb) 10000 (by decide) w
    rw [valA_agg hT, valA_agg hT] at h1
    simp only [execOp, h x (by simp [Op.operands]) _ hx, h y (by simp [Op.operands]) _ hy, Sem.run_bind, run_eqGuard_agg w .neq T x y _ _ hT.2.2, Result.andThen_ok, run_neq_struct, h1, Sem.run_pure], hw⟩

/-! ### Masks -/
theorem and_mask (m : Int) : IntKind.wrap .i64 (((BitVec.ofInt 64 m &&& BitVec.ofInt 64 65535).toNat : Nat) : Int) = m % 65536 := by
  have e1 : (BitVec.ofInt 64 m &&& BitVec.ofInt 64 65535).toNat = (m % 18446744073709551616).toNat % 65536 := by
    rw [BitVec.toNat_and, BitVec.toNat_ofInt, BitVec.toNat_ofInt]
    have : ((65535 : Int) % ((2 ^ 64 : Nat) : Int)).toNat = 2 ^ 16 - 1 := by decide
    rw [this, Nat.and_two_pow_sub_one_eq_mod]
    rfl
  have h0 : 0 ≤ m % 18446744073709551616 := Int.emod_nonneg _ (by decide)
  have e2 : (((m % 18446744073709551616).toNat % 65536 : Nat) : Int) = m % 65536 := by
    rw [Int.natCast_emod, Int.toNat_of_nonneg h0]
    exact Int.emod_emod_of_dvd m (by decide)
  rw [e1, e2]
  exact wi (by omega) (by omega)
theorem LO.mask {x y : Operand} {xT yT : TypeId} {m : Int} (hx : OV env x (.int .i64 m)) (hy : OV env y (.int .i64 65535)) : LO P β env L ⟨d, .binOp .and xT x y yT, ty, pos, aft, g⟩ (.int .i64 (m % 65536)) :=
  .of_run fun a w h hw => ⟨w, by
    have e := and_mask m
    simp [execOp, h x (by simp [Op.operands]) _ hx, h y (by simp [Op.operands]) _ hy, eqGuard, binOp, Op.intBits]
    exact e, hw⟩
end
end Go.SL
