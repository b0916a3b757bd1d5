/-
  More operations: comparing structs of ints, arrays, function values, slices that the call makes, append, maps.
-/
import Derived.Test.YtdcjeoamhjplmaaSH
namespace Go.SL
set_option linter.unusedVariables false
open Go.RowKit

theorem and_l {a b : Bool} (h : (a && b) = true) : a = true := by cases a <;> simp_all

section
variable {P : Program} {ro : Option Nat} {β : Bs} {ds : List Deferred} {N : Nat} {env : Env} {L : List Res} {Q : Exit → Act → World → Prop}
variable {d : Option Nat} {ty : TypeId} {pos : String} {aft : Array Edge} {g : Option (Nat × Bool)}

theorem sub_cells {w : World} {b off : Nat} {C vs : List Value} (h : Cells w ⟨b, 0, none⟩ C) (hv : ∃ r, C.drop off = vs ++ r) : Cells w ⟨b, off, none⟩ vs := by
  intro j v hj
  obtain ⟨r, hr⟩ := hv
  have hlt : j < vs.length := by
    rcases Nat.lt_or_ge j vs.length with q | q
    · exact q
    · simp [List.getElem?_eq_none q] at hj
  have h1 : C[off + j]? = some v := by
    rw [← List.getElem?_drop, hr, List.getElem?_append_left hlt]; exact hj
  have h2 := h (off + j) v h1
  have e1 : (⟨b, 0, none⟩ : Addr).add (off + j) = ⟨b, off + j, none⟩ := by unfold Addr.add; split <;> simp_all
  have e2 : (⟨b, off, none⟩ : Addr).add j = ⟨b, off + j, none⟩ := by unfold Addr.add; split <;> simp_all
  rw [e2, ← e1]; exact h2

theorem LO.fd1 {x : Operand} {S f off : Nat} {C : Array Value} {v : Value} {fs : Array Field} {F : Field} (hS : P.underlying S = some (.struct fs)) (hF : fs[f]? = some F) (ho : F.offset = off) (hT : IsOne P F.type) (hx : OV env x (.agg C)) (hv : C[off]? = some v) : LO P β env L ⟨d, .field S x f, ty, pos, aft, g⟩ v :=
  .of_run fun a w h hw => ⟨w, by
    simp [execOp, h x (by simp [Op.operands]) _ hx, Instr.field, run_underlying hS, hF, asAgg, part, run_isOne hT, ho, hv], hw⟩

theorem LO.ixa {x i : Operand} {T E z n : Nat} {b o j r : Nat} {k : IntKind} {e : Int} (hT : P.underlying T = some (.array n E)) (hz : (P.info? E).map (·.size) = some z) (hx : OV env x (.pointer (some ⟨b, o, none⟩))) (hi : OV env i (.int k e)) (he : e = (j : Int)) (hj : j < n) (hr : o + j * z = r) :
    LO P β env L ⟨d, .indexAddr T x i, ty, pos, aft, g⟩ (.pointer (some ⟨b, r, none⟩)) :=
  .of_run fun a w h hw => ⟨w, by
    subst he; subst hr
    have hadd : (⟨b, o, none⟩ : Addr).add (j * z) = ⟨b, o + j * z, none⟩ := by unfold Addr.add; split <;> simp_all
    simp [execOp, h x (by simp [Op.operands]) _ hx, h i (by simp [Op.operands]) _ hi, Instr.indexAt, asIntOf, run_underlying hT, run_size hz, hj, hadd, Instr.sureAddr], hw⟩

theorem LO.ixv {x i : Operand} {T E n : Nat} {C : Array Value} {j : Nat} {k : IntKind} {e : Int} {v : Value} (hT : P.underlying T = some (.array n E)) (hE : IsOne P E) (hx : OV env x (.agg C)) (hi : OV env i (.int k e)) (he : e = (j : Int)) (hj : j < n) (hv : C[j]? = some v) :
    LO P β env L ⟨d, .index T x i, ty, pos, aft, g⟩ v :=
  .of_run fun a w h hw => ⟨w, by
    subst he
    simp [execOp, h x (by simp [Op.operands]) _ hx, h i (by simp [Op.operands]) _ hi, Instr.index, asIntOf, run_underlying hT, run_size hE.2, hj, part, run_isOne hE, hv], hw⟩

theorem LO.mf {fn : Fn} {xs : List Operand} {cap : List Value} (hx : OVs env xs cap) : LO P β env L ⟨d, .makeFunc fn #[] xs.toArray, ty, pos, aft, g⟩ (.func fn #[] cap.toArray) :=
  .of_run fun a w h hw => ⟨w, by
    have hm : xs.map a.eval = cap := hx.map fun x hm u hu => h x (by simp [Op.operands, hm]) u hu
    simp [execOp, Instr.makeFunc, hm], hw⟩

/-! ### Structs and arrays of ints -/
def intV (a : Int) : Value := .int .i64 a

/-- All cells of the type are ints; 'n' of them. -/
def flatN (P : Program) : Nat → TypeId → Option Nat
  | 0, _ => none
  | f + 1, T =>
    match P.underlying T with
    | some (.int .i64) => if (P.info? T).map (·.size) = some 1 then some 1 else none
    | some (.struct fs) =>
      if P.stoodInHeld T then none else
      match fs.toList.foldlM (fun (o : Nat) F => if F.name = "_" || F.offset ≠ o then none else (flatN P f F.type).map (o + ·)) 0 with
      | some n => if (P.info? T).map (·.size) = some n then some n else none
      | none => none
    | _ => none

def valN (P : Program) (T : TypeId) (as : List Int) : Value := match P.underlying T with
  | some (.struct _) => .agg (as.map intV).toArray
  | _ => (as.map intV).head?.getD undef

theorem part_flat {f : Nat} {T n : Nat} (h : flatN P f T = some n) {as : List Int} {o : Nat} (ho : o + n ≤ as.length) (w : World) :
    (part T (as.map intV).toArray o).run P w = .ok (valN P T ((as.drop o).take n)) w := by
  cases f with
  | zero => simp [flatN] at h
  | succ f =>
    unfold flatN at h
    unfold valN
    split at h
    · rename_i hu
      split at h
      · rename_i hs
        cases h
        have h1 : IsOne P T := ⟨⟨_, hu, rfl⟩, hs⟩
        have hlt : o < as.length := by omega
        have e : (as.drop o).take 1 = [as[o]] := by
          rw [List.drop_eq_getElem_cons hlt]; rfl
        simp [part, run_isOne h1, hu, e, hlt]
      · cases h
    · rename_i fs hu
      split at h
      · cases h
      · split at h
        · rename_i n' _
          split at h
          · rename_i hs
            cases h
            have h1 : IsAgg P T n := ⟨⟨_, hu, rfl⟩, hs⟩
            simp only [part, Sem.run_bind, run_isAgg h1, Result.andThen_ok, run_size hs, if_true, Sem.run_pure, hu]
            congr 2
            apply Array.ext'
            simp [List.map_drop, List.map_take, List.extract]
          · cases h
        · cases h
    · cases h

theorem eqFields_flat {f dd : Nat} (ih : ∀ {T n : Nat}, flatN P f T = some n → ∀ {as bs : List Int}, as.length = n → bs.length = n → ∀ w, (Op.equalIn dd T (valN P T as) (valN P T bs)).run P w = .ok (decide (as = bs)) w) :
    ∀ (fs : List Field) (o n : Nat), fs.foldlM (fun (o : Nat) F => if F.name = "_" || F.offset ≠ o then none else (flatN P f F.type).map (o + ·)) o = some n → ∀ {as bs : List Int}, as.length = n → bs.length = n → o ≤ n → ∀ w,
      (Op.eqFields dd (as.map intV).toArray (bs.map intV).toArray fs).run P w = .ok (decide (as.drop o = bs.drop o)) w
  | [], o, n, h, as, bs, ha, hb, ho, w => by
    simp at h
    subst h
    simp [Op.eqFields, List.drop_of_length_le (Nat.le_of_eq ha), List.drop_of_length_le (Nat.le_of_eq hb)]
  | F :: fs, o, n, h, as, bs, ha, hb, ho, w => by
    simp only [List.foldlM_cons] at h
    by_cases hc : (F.name = "_" || F.offset ≠ o) = true
    · rw [if_pos hc] at h; simp at h
    · simp only [hc, Bool.false_eq_true, if_false] at h
      simp only [Bool.or_eq_true, decide_eq_true_eq, not_or, ne_eq, Classical.not_not] at hc
      obtain ⟨hn, hoff⟩ := hc
      cases hf : flatN P f F.type with
      | none => simp [hf] at h
      | some m =>
        simp only [hf, Option.map_some] at h
        replace h : List.foldlM (fun (o : Nat) F => if F.name = "_" || F.offset ≠ o then none else (flatN P f F.type).map (o + ·)) (o + m) fs = some n := h
        have hle : o + m ≤ n := foldl_le fs (o + m) n h
        simp only [Op.eqFields, hn, ne_eq, not_false_eq_true, if_true, Sem.run_bind, hoff]
        rw [part_flat hf (by omega) w]
        simp only [Result.andThen_ok]
        rw [part_flat hf (by omega) w]
        simp only [Result.andThen_ok]
        rw [ih hf (by simp; omega) (by simp; omega) w]
        simp only [Result.andThen_ok]
        have sp : ∀ l : List Int, l.drop o = (l.drop o).take m ++ l.drop (o + m) := by
          intro l
          have := List.take_append_drop m (l.drop o)
          rw [List.drop_drop] at this
          exact this.symm
        by_cases e : (as.drop o).take m = (bs.drop o).take m
        · simp only [e, decide_true, Bool.not_true, Bool.false_eq_true, if_false]
          rw [eqFields_flat ih fs (o + m) n h ha hb hle w]
          congr 2
          apply propext
          rw [sp as, sp bs, e]
          simp
        · simp only [e, decide_false, Bool.not_false, if_true, Sem.run_pure]
          congr 1
          symm
          rw [decide_eq_false_iff_not]
          intro q
          exact e (by rw [q])
where
  foldl_le : ∀ (fs : List Field) (o n : Nat), fs.foldlM (fun (o : Nat) F => if F.name = "_" || F.offset ≠ o then none else (flatN P f F.type).map (o + ·)) o = some n → o ≤ n
    | [], o, n, h => by simp at h; omega
    | F :: fs, o, n, h => by
      simp only [List.foldlM_cons] at h
      by_cases hc : (F.name = "_" || F.offset ≠ o) = true
      · rw [if_pos hc] at h; simp at h
      · simp only [hc, Bool.false_eq_true, if_false] at h
        cases hf : flatN P f F.type with
        | none => simp [hf] at h
        | some m =>
          simp only [hf, Option.map_some] at h
          have := foldl_le fs (o + m) n h
          omega

theorem equalIn_flat : ∀ (f : Nat) {T n : Nat}, flatN P f T = some n → ∀ {as bs : List Int}, as.length = n → bs.length = n → ∀ dd, f ≤ dd → ∀ w, (Op.equalIn dd T (valN P T as) (valN P T bs)).run P w = .ok (decide (as = bs)) w
  | 0, T, n, h, _, _, _, _, _, _, _ => by simp [flatN] at h
  | f + 1, T, n, h, as, bs, ha, hb, dd, hd, w => by
    obtain ⟨dd, rfl⟩ : ∃ d', dd = d' + 1 := ⟨dd - 1, by omega⟩
    unfold flatN at h
    unfold valN
    split at h
    · rename_i hu
      split at h
      · cases h
        match as, bs, ha, hb with
        | [a], [b], _, _ =>
          simp only [hu, List.map_cons, List.map_nil, List.head?_cons, Option.getD_some, intV]
          rw [run_equalIn_int w dd T .i64 .i64 a b hu]
          congr 1
          simp [BEq.beq]
      · cases h
    · rename_i fs hu
      split at h
      · cases h
      · rename_i hs
        split at h
        · rename_i n' hf
          split at h
          · cases h
            have hfs : P.fieldsOf T = fs := by simp [Program.fieldsOf, hu]
            simp only [hu]
            rw [run_equalIn_struct w dd T _ _ (by rw [hfs]; exact hu) (by simpa using hs), hfs]
            have := eqFields_flat (P := P) (f := f) (dd := dd) (fun {T n} h2 {as bs} h3 h4 w => equalIn_flat f h2 h3 h4 dd (by omega) w) fs.toList 0 n hf ha hb (by omega) w
            simpa using this
          · cases h
        · cases h
    · cases h

def Flat (P : Program) (T n : Nat) : Prop := (∃ fs, P.underlying T = some (.struct fs)) ∧ flatN P 20 T = some n ∧ P.eqGuardType P.depth T = false

theorem LO.eqs {x y : Operand} {T yT n : Nat} {as bs : List Int} (hT : Flat P T n) (hx : OV env x (.agg (as.map intV).toArray)) (hy : OV env y (.agg (bs.map intV).toArray)) (ha : Nat.beq as.length n = true) (hb : Nat.beq bs.length n = true) : LO P β env L ⟨d, .binOp .eql T x y yT, ty, pos, aft, g⟩ (.bool (decide (as = bs))) :=
  .of_run fun a w h hw => ⟨w, by
    obtain ⟨⟨fs, hu⟩, hf, hg⟩ := hT
    have h1 := equalIn_flat (P := P) 20 hf (as := as) (bs := bs) (Nat.eq_of_beq_eq_true ha) (Nat.eq_of_beq_eq_true hb) 10000 (by decide) w
    simp only [valN, hu] at h1
    simp only [execOp, h x (by simp [Op.operands]) _ hx, h y (by simp [Op.operands]) _ hy, Sem.run_bind, run_eqGuard_agg w .eql T x y _ _ hg, Result.andThen_ok, run_eql_struct, h1, Sem.run_pure], hw⟩
theorem LO.nes {x y : Operand} {T yT n : Nat} {as bs : List Int} (hT : Flat P T n) (hx : OV env x (.agg (as.map intV).toArray)) (hy : OV env y (.agg (bs.map intV).toArray)) (ha : Nat.beq as.length n = true) (hb : Nat.beq bs.length n = true) : LO P β env L ⟨d, .binOp .neq T x y yT, ty, pos, aft, g⟩ (.bool (!decide (as = bs))) :=
  .of_run fun a w h hw => ⟨w, by
    obtain ⟨⟨fs, hu⟩, hf, hg⟩ := hT
    have h1 := equalIn_flat (P := P) 20 hf (as := as) (bs := bs) (Nat.eq_of_beq_eq_true ha) (Nat.eq_of_beq_eq_true hb) 10000 (by decide) w
    simp only [valN, hu] at h1
    simp only [execOp, h x (by simp [Op.operands]) _ hx, h y (by simp [Op.operands]) _ hy, Sem.run_bind, run_eqGuard_agg w .neq T x y _ _ hg, Result.andThen_ok, run_neq_struct, h1, Sem.run_pure], hw⟩

/-! ### Slices of the call's own -/
/-- A slice that is owned: 'rows' and behind them what is spare. -/
def own (E z : Nat) (p : Option Addr) (cap : Nat) (rows : List (List Value)) : Res where
  fp := fun k => p ≠ none ∧ k = pb p
  inv := fun w => rows.length ≤ cap ∧ (∀ r ∈ rows, r.length = z) ∧ (p = none → rows = [] ∧ cap = 0) ∧ (∀ a, p = some a → a.off = 0 ∧ a.spot = none ∧ ∃ C spare, w.heap[a.block]? = some (.cells C E (0, 0)) ∧ C.toList = rows.flatten ++ spare ∧ C.size = cap * z)
  loc := fun {w w'} h ⟨h1, h2, h3, h4⟩ => ⟨h1, h2, h3, fun a ha => by
    obtain ⟨g1, g2, C, s, g3, g4⟩ := h4 a ha
    refine ⟨g1, g2, C, s, ?_, g4⟩
    rw [h a.block ⟨by rw [ha]; simp, by rw [ha]; rfl⟩]; exact g3⟩

theorem flatten_row {rows : List (List Value)} {z : Nat} (hz : ∀ r ∈ rows, r.length = z) : ∀ {j : Nat} {r : List Value}, rows[j]? = some r → ∀ {i : Nat} {v : Value}, r[i]? = some v → rows.flatten[j * z + i]? = some v := by
  induction rows with
  | nil => intro j r h; simp at h
  | cons x xs ih =>
    intro j r h i v hv
    have hx : x.length = z := hz x (by simp)
    cases j with
    | zero =>
      simp at h; subst h
      have : i < x.length := by
        rcases Nat.lt_or_ge i x.length with q | q
        · exact q
        · simp [List.getElem?_eq_none q] at hv
      simp only [List.flatten_cons, Nat.zero_mul, Nat.zero_add]
      rw [List.getElem?_append_left this]; exact hv
    | succ j =>
      simp only [List.getElem?_cons_succ] at h
      simp only [List.flatten_cons]
      rw [List.getElem?_append_right (by rw [hx, Nat.add_mul]; omega), hx, show (j + 1) * z + i - z = j * z + i by rw [Nat.add_mul]; omega]
      exact ih (fun r hr => hz r (by simp [hr])) h hv

theorem own_rows {w : World} (hw : St β L w) (i : Nat) {E z : Nat} {p : Option Addr} {cap : Nat} {rows : List (List Value)} (hi : L[i]? = some (own E z p cap rows)) : Rows w z p rows := by
  obtain ⟨h1, h2, h3, h4⟩ := hw.inv i _ hi
  refine ⟨?_, fun hp => (h3 hp).1, fun _ a ha => (h4 a ha).2.1⟩
  intro j r hr k v hv
  cases p with
  | none => rw [(h3 rfl).1] at hr; simp at hr
  | some a =>
    obtain ⟨g1, g2, C, s, g3, g4, g5⟩ := h4 a rfl
    have hadd : (⟨pb (some a), po (some a) + j * z, none⟩ : Addr).add k = ⟨a.block, j * z + k, none⟩ := by
      unfold Addr.add pb po; simp only [g1]; split <;> simp_all
    rw [hadd]
    simp only [World.cell?, g3, Option.isSome_none, Bool.false_eq_true, if_false]
    have : C.toList[j * z + k]? = some v := by
      rw [g4]
      have := flatten_row h2 hr hv
      rw [List.getElem?_append_left]
      · exact this
      · rcases Nat.lt_or_ge (j * z + k) rows.flatten.length with q | q
        · exact q
        · rw [List.getElem?_eq_none q] at this; cases this
    simpa using this

/-- Nothing yet. -/
theorem St.ownNil {w : World} (hw : St β L w) (E z : Nat) : St β (own E z none 0 [] :: L) w := by
  have : St (bs w) [own E z none 0 []] w := by
    refine ⟨rfl, rfl, rfl, Nat.le_refl _, fun _ _ _ => rfl, ?_, ?_, ?_⟩
    · intro i r hr
      cases i with
      | zero => simp at hr; subst hr; exact ⟨Nat.le_refl _, by simp, fun _ => ⟨rfl, rfl⟩, fun a ha => by cases ha⟩
      | succ i => simp at hr
    · intro i r hr k hk
      cases i with
      | zero => simp at hr; subst hr; exact absurd rfl hk.1
      | succ i => simp at hr
    · intro i j r s hij hr hs
      cases i with
      | zero => cases j with | zero => exact absurd rfl hij | succ j => simp at hs
      | succ i => simp at hr
  exact hw.call this
theorem VC.ownNil {c : Code} (E z : Nat) (h : VC P ro β N ds env (own E z none 0 [] :: L) c Q) : VC P ro β N ds env L c Q := fun a w ha hw => h a w ha (hw.ownNil E z)

/-- What is said of an element's type: its cells, its bytes, its zero value. -/
def EInfo (P : Program) (E z by_ : Nat) (zero : Value) : Prop := (P.info? E).map (·.size) = some z ∧ (P.info? E).map (·.bytes) = some by_ ∧ ZeroOf P E zero ∧ zero.cells.size = z ∧ 0 < by_

section
variable {K : Value → List Res → Prop} {dd : Option Nat}

theorem fill_len {PL : List (Nat × Nat)} : ∀ {ps : List (Nat × Value)} {C C' : List Value}, FL PL C ps C' → C'.length = C.length
  | [], C, C', h => by simp only [FL] at h; subst h; rfl
  | (i, v) :: r, C, C', ⟨off, vs, C1, h1, h2, h3, h4, h5⟩ => by
    rw [fill_len h5, ← h4]
    have := Nat.le_of_ble_eq_true h3
    simp; omega

def PLs (len z : Nat) : List (Nat × Nat) := (List.range len).map fun i => (i * z, z)

/-- A slice's literal. -/
theorem HO.bs {T E len z : Nat} {zero : Value} {Z : List Value} {ps : List (Nat × Operand)} {vs : List (Nat × Value)} {C : List Value} (hT : IsSlice P T E) (hz : ZeroOf P E zero) (hs : (P.info? E).map (·.size) = some z) (hps : OVs env (ps.map (·.2)) (vs.map (·.2))) (hix : ps.map (·.1) = vs.map (·.1)) (hle : Nat.ble (len * z) 16777216 = true) (hpos : Nat.blt 0 (len * z) = true)
    (hZ : (List.range (len * z)).map (fun i => zero.cells[i % zero.cells.size]!) = Z) (hb : FL (PLs len z) Z vs C)
    (k : ∀ b, K (.slice (some ⟨b, 0, none⟩) len len) (blk b (.cells C.toArray E) :: L)) : HO P β env L ⟨dd, .buildSlice T len ps.toArray, ty, pos, aft, none⟩ K := by
  intro a w h hw
  refine .inl ⟨_, w.alloc (.cells C.toArray E), _, _, ?_, .inl rfl, k w.heap.size, hw.alloc _⟩
  have h2 := OVs.map (a := a) hps (fun x hm u ⟨u', hu', e⟩ => e ▸ h x (by
    obtain ⟨p, hp, e⟩ := List.mem_map.1 hm
    simp only [Op.operands]
    subst e
    simpa using ⟨p.1, hp⟩) u' hu')
  rw [List.map_map] at h2
  have hm : (ps.map fun p => (p.1, a.eval p.2)) = vs := pairs_eq hix h2
  have hfill : Instr.fill (fun i => some (i * z, z)) Z.toArray vs = some C.toArray := by
    have := hb.fill
    have key : ∀ (vs : List (Nat × Value)) (A : Array Value) (R : Array Value), Instr.fill ((PLs len z)[·]?) A vs = some R → Instr.fill (fun i => some (i * z, z)) A vs = some R := by
      intro vs
      induction vs with
      | nil => intro A R h; exact h
      | cons x xs ih =>
        intro A R h
        obtain ⟨i, v⟩ := x
        simp only [Instr.fill] at h ⊢
        cases q : (PLs len z)[i]? with
        | none => simp [q] at h
        | some y =>
          have hi : y = (i * z, z) := by
            simp only [PLs, List.getElem?_map, Option.map_eq_some_iff] at q
            obtain ⟨j, hj, e⟩ := q
            have : j = i := by
              cases r : (List.range len)[i]? with
              | none => rw [r] at hj; cases hj
              | some m => 
                have hlt : i < len := by
                  rcases Nat.lt_or_ge i len with s | s
                  · exact s
                  · rw [List.getElem?_eq_none (by simpa using s)] at r; cases r
                simp [hlt] at hj
                exact hj.symm
            subst this; exact e.symm
          subst hi
          simp only [q] at h
          split at h
          · cases h
          · rename_i hc
            simp only [hc, Bool.false_eq_true, if_false]
            exact ih _ _ h
    exact key _ _ _ this
  have hgt : ¬ (len * z > 2 ^ 24) := by have := Nat.le_of_ble_eq_true hle; omega
  have h0 : ¬ (len * z = 0) := by have : 0 < len * z := Nat.le_of_ble_eq_true hpos; omega
  simp only [execOp, Sem.run_bind]
  rw [show (ps.toArray.map fun (i, x) => (i, a.eval x)) = vs.toArray by rw [← hm]; simp]
  have e : ((Array.range (len * z)).map fun i => zero.cells[i % zero.cells.size]!) = Z.toArray := by
    rw [← hZ]; apply Array.ext'; simp
  simp only [Instr.buildSlice, run_underlying hT, run_size hs, Sem.run_bind, Result.andThen_ok, hgt, h0, if_false, run_zero hz, Sem.run_pure, e, hfill, newRow, run_newObj]
  rfl

/-! ### append -/
theorem run_bytes {E b : Nat} (h : (P.info? E).map (·.bytes) = some b) (w : World) : ∃ i, (typeInfo E).run P w = .ok i w ∧ i.bytes = b := by
  cases hq : P.info? E with
  | none => simp [hq] at h
  | some i => simp [hq] at h; exact ⟨i, by simp [typeInfo, hq], h⟩

theorem zeroCells_size (zs : Array Value) (n : Nat) : (Builtin.zeroCells zs n).size = n * zs.size := by simp [Builtin.zeroCells]

theorem growBy_le (need : Nat) : ∀ (r c B : Nat), c + (c + 768) / 4 ≤ B → c ≤ B → (∀ c', c' < need → c' + (c' + 768) / 4 ≤ B) → Builtin.growBy need r c ≤ B
  | 0, c, B, _, h, _ => h
  | r + 1, c, B, h1, h2, h3 => by
    unfold Builtin.growBy
    split
    · exact h2
    · by_cases h4 : c + (c + 768) / 4 < need
      · exact growBy_le need r _ B (h3 _ h4) h1 h3
      · have : ∀ r, Builtin.growBy need r (c + (c + 768) / 4) = c + (c + 768) / 4 := by
          intro r
          cases r with
          | zero => rfl
          | succ r => unfold Builtin.growBy; rw [if_pos (by omega)]
        rw [this]; exact h1

theorem nextcap_le {need cap : Nat} (h : cap < need) : Builtin.nextslicecap need cap ≤ 2 * need + 768 := by
  unfold Builtin.nextslicecap
  split
  · omega
  · split
    · omega
    · exact growBy_le need 4 cap _ (by omega) (by omega) (fun c' _ => by omega)

theorem flatten_len {rows : List (List Value)} {z : Nat} (hz : ∀ r ∈ rows, r.length = z) : rows.flatten.length = rows.length * z := by
  induction rows with
  | nil => simp
  | cons x xs ih => simp only [List.flatten_cons, List.length_append, List.length_cons, hz x (by simp), ih (fun r hr => hz r (by simp [hr])), Nat.add_mul]; omega

theorem add0 {a : Addr} (h1 : a.off = 0) (h2 : a.spot = none) (n : Nat) : a.add n = ⟨a.block, n, none⟩ := by
  obtain ⟨b, o, s⟩ := a
  simp only at h1 h2
  subst h1; subst h2
  unfold Addr.add; split <;> simp_all

theorem St.conv {w : World} (hw : St β L w) (i : Nat) {r r' : Res} (hi : L[i]? = some r) (hf : ∀ k, r'.fp k → r.fp k) (hinv : r'.inv w) : St β (L.set i r') w := by
  have hlt : i < L.length := by
    rcases Nat.lt_or_ge i L.length with h' | h'
    · exact h'
    · simp [List.getElem?_eq_none h'] at hi
  have get : ∀ (j : Nat) (s : Res), (L.set i r')[j]? = some s → (j = i ∧ s = r') ∨ (j ≠ i ∧ L[j]? = some s) := by
    intro j s hs
    by_cases e : j = i
    · subst e; simp [hlt] at hs; exact .inl ⟨rfl, hs.symm⟩
    · rw [List.getElem?_set_ne (Ne.symm e)] at hs; exact .inr ⟨e, hs⟩
  refine ⟨hw.os, hw.tape, hw.output, hw.size, hw.fr, ?_, ?_, ?_⟩
  · intro j s hs
    rcases get j s hs with ⟨rfl, rfl⟩ | ⟨_, hs'⟩
    · exact hinv
    · exact hw.inv j s hs'
  · intro j s hs k hk
    rcases get j s hs with ⟨rfl, rfl⟩ | ⟨_, hs'⟩
    · exact hw.rng j _ hi k (hf k hk)
    · exact hw.rng j s hs' k hk
  · intro j l s t hjl hs ht k hk hk'
    rcases get j s hs with ⟨rfl, rfl⟩ | ⟨hj, hs'⟩ <;> rcases get l t ht with ⟨rfl, rfl⟩ | ⟨hl, ht'⟩
    · exact hjl rfl
    · exact hw.dis j l _ _ hjl hi ht' k (hf k hk) hk'
    · exact hw.dis j l _ _ hjl hs' hi k hk (hf k hk')
    · exact hw.dis j l _ _ hjl hs' ht' k hk hk'

/-- One element is appended to a slice that is owned. -/
theorem run_append1 {w : World} (hw : St β L w) (i j : Nat) {T T' ty E z by_ : Nat} {zero : Value} {p : Option Addr} {cap b : Nat} {rows : List (List Value)} {r : List Value} (hT : IsSlice P T E) (hT' : IsSlice P T' E) (hE : EInfo P E z by_ zero)
    (hi : L[i]? = some (own E z p cap rows)) (hj : L[j]? = some (blk b (.cells r.toArray E))) (hr : r.length = z) (h1 : allOne r = true) (hn : (2 * (rows.length + 1) + 768) * by_ ≤ 281474976710656) {aT : Array TypeId} (ha0 : aT[0]? = some T) (ha1 : aT[1]? = some T') :
    ∃ p' cap' w', (Builtin.append_ aT ty #[.slice p rows.length cap, .slice (some ⟨b, 0, none⟩) 1 1]).run P w = .ok (.slice p' (rows.length + 1) cap') w' ∧ St β (L.set i (own E z p' cap' (rows ++ [r]))) w' := by
  obtain ⟨hz, hby, hze, hzz, hb0⟩ := hE
  obtain ⟨o1, o2, o3, o4⟩ := hw.inv i _ hi
  have hbk : w.heap[b]? = some (.cells r.toArray E (0, 0)) := hw.inv j _ hj
  obtain ⟨ti, hti, htb⟩ := run_bytes hby w
  have hnew : (Builtin.firstCells z 1 (.slice (some ⟨b, 0, none⟩) 1 1)).run P w = .ok r.toArray w := by
    have := run_loadCells_list (P := P) w ⟨b, 0, none⟩ r (fun k v hk => cells_blk (L := L) j hj (off := 0) ⟨[], by simp⟩ w hw k v hk)
    simp only [Builtin.firstCells, Nat.one_mul, ← hr]; exact this
  have hhas : ∀ r' ∈ rows ++ [r], r'.length = z := by
    intro r' hr'
    rcases List.mem_append.1 hr' with q | q
    · exact o2 r' q
    · simp at q; subst q; exact hr
  have hu' : (underlying T').run P w = .ok (.slice E) w := run_underlying hT' w
  have hu : (underlying T).run P w = .ok (.slice E) w := run_underlying hT w
  have hni : ¬ ((rows.length + 1 : Nat) : Int) > IntKind.i64.max := by
    have : rows.length + 1 ≤ 281474976710656 := by
      have : (2 * (rows.length + 1) + 768) * 1 ≤ (2 * (rows.length + 1) + 768) * by_ := Nat.mul_le_mul_left _ hb0
      omega
    have hm : IntKind.i64.max = 9223372036854775807 := rfl
    rw [hm]
    omega
  by_cases hc : rows.length + 1 ≤ cap
  · -- there is room
    cases p with
    | none => have := o3 rfl; omega
    | some a =>
      obtain ⟨g1, g2, C, spare, g3, g4, g5⟩ := o4 a rfl
      have hfl := flatten_len o2
      have hadd : a.add (rows.length * z) = ⟨a.block, rows.length * z, none⟩ := add0 g1 g2 _
      have hfit : rows.length * z + r.length ≤ C.size := by
        rw [g5, hr]
        have := Nat.mul_le_mul_right z hc
        rw [Nat.add_mul] at this; omega
      have hst := run_storeCells_at P a.block (rows.length * z) E r 0 C w g3 (by simpa using hfit) (allOne_spec h1)
      simp only [Nat.add_zero] at hst
      refine ⟨some a, cap, w.setRow a.block (C.toList.take (rows.length * z) ++ r ++ C.toList.drop (rows.length * z + r.length)).toArray, ?_, ?_⟩
      · simp [Builtin.append_, ha0, ha1, hu, hu', run_size hz, Builtin.lenOf, hc, hnew, hadd, hst]
      · have hw1 := hw.conv i (r' := blk a.block (.cells C E)) hi (fun k hk => ⟨by simp, hk⟩) g3
        have hi1 : (L.set i (blk a.block (.cells C E)))[i]? = some (blk a.block (.cells C E)) := by
          have hlt : i < L.length := by
            rcases Nat.lt_or_ge i L.length with h' | h'
            · exact h'
            · simp [List.getElem?_eq_none h'] at hi
          simp [hlt]
        have hw2 := hw1.setRow (C' := (C.toList.take (rows.length * z) ++ r ++ C.toList.drop (rows.length * z + r.length)).toArray) hi1
        rw [List.set_set] at hw2
        have hi2 : (L.set i (blk a.block (.cells (C.toList.take (rows.length * z) ++ r ++ C.toList.drop (rows.length * z + r.length)).toArray E)))[i]? = some (blk a.block (.cells (C.toList.take (rows.length * z) ++ r ++ C.toList.drop (rows.length * z + r.length)).toArray E)) := by
          have hlt : i < L.length := by
            rcases Nat.lt_or_ge i L.length with h' | h'
            · exact h'
            · simp [List.getElem?_eq_none h'] at hi
          simp [hlt]
        have hfin : (own E z (some a) cap (rows ++ [r])).inv (w.setRow a.block (C.toList.take (rows.length * z) ++ r ++ C.toList.drop (rows.length * z + r.length)).toArray) := by
          refine ⟨by simp; omega, hhas, fun h => (by cases h), fun a' ha' => ?_⟩
          cases ha'
          refine ⟨g1, g2, _, C.toList.drop (rows.length * z + r.length), hw2.inv i _ hi2, ?_, ?_⟩
          · have : C.toList.take (rows.length * z) = rows.flatten := by rw [g4, List.take_append_of_le_length (by omega), List.take_of_length_le (by omega)]
            simp [this]
          · have := hfit
            simp
            rw [← g5]; omega
        have hw3 := hw2.conv (r' := own E z (some a) cap (rows ++ [r])) i hi2 (fun k hk => hk.2) hfin
        rwa [List.set_set] at hw3
  · -- a new array
    have hcap : ¬ rows.length + 1 ≤ cap := hc
    have hncap : ¬ (Builtin.nextslicecap (rows.length + 1) cap * ti.bytes > 2 ^ 48) := by
      have h2 := nextcap_le (need := rows.length + 1) (cap := cap) (by omega)
      have h3 := Nat.mul_le_mul_right by_ h2
      rw [htb]; omega
    obtain ⟨t, ht⟩ : ∃ t, Question.cut (.appendCap (rows.length + 1) cap E) t = Question.cut (.appendCap (rows.length + 1) cap E) (w.tape w.drawn (.appendCap (rows.length + 1) cap E)) := ⟨_, rfl⟩
    generalize hcc : Question.cut (.appendCap (rows.length + 1) cap E) (w.tape w.drawn (.appendCap (rows.length + 1) cap E)) = cap' at ht
    have hge : rows.length + 1 ≤ cap' := by rw [← hcc]; simp [Question.cut]
    have hold : (Builtin.firstCells z rows.length (.slice p rows.length cap)).run P w.drew = .ok rows.flatten.toArray w.drew := by
      have hw' : St β L w.drew := hw.drew (w.drawn + 1)
      cases p with
      | none => simp [Builtin.firstCells, (o3 rfl).1]
      | some a =>
        obtain ⟨g1, g2, C, spare, g3, g4, g5⟩ := o4 a rfl
        have hfl := flatten_len o2
        have := run_loadCells_list (P := P) w.drew a rows.flatten (fun k v hk => by
          have hadd : a.add k = ⟨a.block, k, none⟩ := add0 g1 g2 _
          have hc1 : World.cell? w.drew (a.add k) = C[k]? := by
            have g3' : w.drew.heap[a.block]? = some (.cells C E (0, 0)) := g3
            rw [hadd]; simp [World.cell?, g3']
          rw [hc1]
          have hk' : k < rows.flatten.length := by
            rcases Nat.lt_or_ge k rows.flatten.length with q | q
            · exact q
            · simp [List.getElem?_eq_none q] at hk
          have : C.toList[k]? = some v := by rw [g4, List.getElem?_append_left hk']; exact hk
          simpa using this)
        simp only [Builtin.firstCells]
        rw [← hfl]; exact this
    have hnew' : (Builtin.firstCells z 1 (.slice (some ⟨b, 0, none⟩) 1 1)).run P w.drew = .ok r.toArray w.drew := by
      have := run_loadCells_list (P := P) w.drew ⟨b, 0, none⟩ r (fun k v hk => cells_blk (L := L) j hj (off := 0) ⟨[], by simp⟩ _ (hw.drew _ : St β L w.drew) k v hk)
      simp only [Builtin.firstCells, Nat.one_mul, ← hr]; exact this
    have hti' : (typeInfo E).run P w.drew = .ok ti w.drew := by
      cases hq : P.info? E with
      | none => simp [typeInfo, hq] at hti
      | some i => simp [typeInfo, hq] at hti ⊢; exact hti
    refine ⟨some ⟨w.heap.size, 0, none⟩, cap', (World.alloc w.drew (.cells (rows.flatten.toArray ++ r.toArray ++ Builtin.zeroCells zero.cells (cap' - (rows.length + 1))) E)), ?_, ?_⟩
    · have hb1 : ti.bytes ≠ 0 := by omega
      have hncap' : ¬ (281474976710656 < Builtin.nextslicecap (rows.length + 1) cap * ti.bytes) := by omega
      simp [Builtin.append_, ha0, ha1, hu, hu', run_size hz, Builtin.lenOf, hcap, hti, hb1, hncap', Question.forced, hcc, hti', hold, hnew', run_zero hze, newRow]
      congr 2
      apply Array.ext'
      simp
    · have hw' := (hw.drew (w.drawn + 1) : St β L w.drew).alloc (.cells (rows.flatten.toArray ++ r.toArray ++ Builtin.zeroCells zero.cells (cap' - (rows.length + 1))) E)
      have hlt : i < L.length := by
        rcases Nat.lt_or_ge i L.length with h' | h'
        · exact h'
        · simp [List.getElem?_eq_none h'] at hi
      have hm : St β (L.set i (blk w.heap.size (.cells (rows.flatten.toArray ++ r.toArray ++ Builtin.zeroCells zero.cells (cap' - (rows.length + 1))) E))) (World.alloc w.drew (.cells (rows.flatten.toArray ++ r.toArray ++ Builtin.zeroCells zero.cells (cap' - (rows.length + 1))) E)) := by
        refine hw'.map (fun k => if k = i then 0 else k + 1) ?_ ?_
        · intro a b hab _ _
          by_cases e1 : a = i <;> by_cases e2 : b = i <;> simp [e1, e2] <;> omega
        · intro k s hs
          right
          by_cases e : k = i
          · subst e; simp [hlt] at hs; simp [hs]
          · rw [List.getElem?_set_ne (Ne.symm e)] at hs
            simp [e, hs]
      have hi2 : (L.set i (blk w.heap.size (.cells (rows.flatten.toArray ++ r.toArray ++ Builtin.zeroCells zero.cells (cap' - (rows.length + 1))) E)))[i]? = some (blk w.heap.size (.cells (rows.flatten.toArray ++ r.toArray ++ Builtin.zeroCells zero.cells (cap' - (rows.length + 1))) E)) := by simp [hlt]
      have hfin : (own E z (some ⟨w.heap.size, 0, none⟩) cap' (rows ++ [r])).inv (World.alloc w.drew (.cells (rows.flatten.toArray ++ r.toArray ++ Builtin.zeroCells zero.cells (cap' - (rows.length + 1))) E)) := by
        refine ⟨by simp; omega, hhas, fun h => (by cases h), fun a' ha' => ?_⟩
        cases ha'
        refine ⟨rfl, rfl, _, (Builtin.zeroCells zero.cells (cap' - (rows.length + 1))).toList, hm.inv i _ hi2, by simp, ?_⟩
        have hfl := flatten_len o2
        simp only [Array.size_append, List.size_toArray, hfl, hr, zeroCells_size, hzz]
        rw [← Nat.add_one_mul, ← Nat.add_mul]
        congr 1; omega
      have := hm.conv (r' := own E z (some ⟨w.heap.size, 0, none⟩) cap' (rows ++ [r])) i hi2 (fun k hk => hk.2) hfin
      rwa [List.set_set] at this

theorem HO.app1 (i j : Nat) (LF : Res → List Res) {x y : Operand} {T T' E z by_ : Nat} {aT : Array TypeId} {zero : Value} {p : Option Addr} {n cap b : Nat} {rows : List (List Value)} {C : Array Value} {r : List Value} (hT : IsSlice P T E) (hT' : IsSlice P T' E) (hE : EInfo P E z by_ zero) (hx : OV env x (.slice p n cap)) (hy : OV env y (.slice (some ⟨b, 0, none⟩) 1 1))
    (hi : L[i]? = some (own E z p cap rows)) (hj : L[j]? = some (blk b (.cells C E))) (hC : C = r.toArray) (hr : Nat.beq r.length z = true) (h1 : allOne r = true) (ha0 : aT[0]? = some T) (ha1 : aT[1]? = some T') (hL : ∀ R : Res, L.set i R = LF R) (hn : n = rows.length) (hs : (2 * (n + 1) + 768) * by_ ≤ 281474976710656)
    (k : ∀ p' cap', K (.slice p' (n + 1) cap') (LF (own E z p' cap' (rows ++ [r])))) : HO P β env L ⟨dd, .call ⟨.builtin .append, #[x, y], aT⟩, ty, pos, aft, none⟩ K := by
  intro a w h hw
  subst hn; subst hC
  obtain ⟨p', cap', w', h2, h3⟩ := run_append1 (ty := ty) hw i j hT hT' hE hi hj (Nat.eq_of_beq_eq_true hr) h1 hs ha0 ha1
  refine .inl ⟨_, w', _, _, ?_, .inl rfl, k p' cap', by rw [← hL]; exact h3⟩
  have ex : a.eval x = .slice p rows.length cap := by obtain ⟨u, hu, e⟩ := hx; subst e; exact h x (by simp [Op.operands, Call.operands]) _ hu
  have ey : a.eval y = .slice (some ⟨b, 0, none⟩) 1 1 := by obtain ⟨u, hu, e⟩ := hy; subst e; exact h y (by simp [Op.operands, Call.operands]) _ hu
  simp [execOp, resolve, invoke, builtin, ex, ey, h2]
end
end
end Go.SL
