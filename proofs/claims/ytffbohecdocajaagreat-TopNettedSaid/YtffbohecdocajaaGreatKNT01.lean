/-
  Structs and arrays of ints, nested as they may be: equal, or not. The rest of a power of 2 by a mask.
  A drawn region in which new blocks are laid whose order is open: each at any time ahead of what needs it.
  From what a statement reads of its arguments to what a walk asks, and from a walk's end to what the statement says. No program stands in this text.
  A slice of a slice, from a number on.
  A drawn region whose heavy operations stand in an order that is partly open: each of their orders is walked.
  A drawn region whose operations fall into two parts, one ahead of the other, is two regions.
  A drawn region in which new blocks are laid whose order is open, and in which an operation behind the chain of those that make or write memory has a value that is known from the start: what reads it can stand in any order.
  append of several elements: what is appended lies anywhere (own, old, or in part of what is appended to).
  Rows that are read, of what a function encodes.
  Rows of rows: a slice that is owned, whose elements are slices that are owned, too.
  Resources in any order, bags of resources that lie apart, and calls that are handed several of them. No program stands in this text.
  Stores into a slice that is owned, and values of interfaces. No program stands in this text.
  The rest of an owned slice is cleared; calls that are handed resources from anywhere. No program stands in this text.
  Slices that are made, shifts and lowest bits. No program stands in this text.
  A new base in the midst of a walk: all that lies there is old from now on. Whole elements stored into slices. No program stands in this text.
  copy into a block that the call owns, and slices of one that is made.
  A range over a function whose order is open; a range over a map that is not written meanwhile.
  The entry of a range over a map; empty literals, capacities, slices up to a bound, zeros that are appended.
  Empty literals among blocks whose order is open.
  Maps from int to int, and assertions about the type of what lies in an interface. No program stands in this text.
-/
import Derived.Test.YtffbohecdocajaaGreatKNT00
import Derived.ChangeKeysEq
import Derived.ProofKit
import Derived.OpenShut
import Derived.Carry
import Derived.ChangeCalls
import Derived.JoinedOf
import Derived.Laws.CopyRow
import Derived.Laws.IdiomRangeMap

set_option linter.unusedSimpArgs false
namespace Go.SL
set_option linter.unusedVariables false
set_option linter.unusedSimpArgs false
open Go.RowKit
section
variable {P : Program}
/-- All cells of the type are ints; 'n' of them. -/
def flatA (P : Program) : Nat → TypeId → Option Nat
  | 0,_ => none
  | f + 1, T =>
    match P.underlying T with
    | some (.int .i64) => if (P.info? T).map (·.size) = some 1 then some 1 else none
    | some (.struct fs) =>
      if P.stoodInHeld T then none else
      match fs.toList.foldlM (fun (o : Nat) F => if F.name = "_" || F.offset ≠ o then none else (flatA P f F.type).map (o + ·)) 0 with
      | some n => if (P.info? T).map (·.size) = some n then some n else none
      | none => none
    | some (.array n E) =>
      match flatA P f E with
      | some z => if P.cellsOf E = z ∧ (P.info? E).map (·.size) = some z ∧ (P.info? T).map (·.size) = some (n * z) then some (n * z) else none
      | none => none
    | _ => none

def valA (P : Program) (T : TypeId) («as» : List Int) : Value := match P.underlying T with
  | some (.struct _) => .agg («as».map intV).toArray
  | some (.array _ _) => .agg («as».map intV).toArray
  | _ => («as».map intV).head?.getD undef

theorem part_A {f : Nat} {T n : Nat} (h : flatA P f T = some n) {«as» : List Int} {o : Nat} (ho : o + n ≤ «as».length) (w : World) :
    (part T («as».map intV).toArray o).run P w = .ok (valA P T ((«as».drop o).take n)) w := by
  cases f with
  | zero => simp [flatA] at h
  | succ f =>
    unfold flatA at h
    unfold valA
    split at h
    · rename_i hu
      split at h
      · rename_i hs
        cases h
        have h1 : IsOne P T := ⟨⟨_, hu, rfl⟩, hs⟩
        have hlt : o < «as».length := by omega
        have e : («as».drop o).take 1 = [«as»[o]] := by
          rw [List.drop_eq_getElem_cons hlt]; rfl
        simp [part, run_isOne h1, hu, e, hlt]
      · cases h
    · rename_i fs hu
      split at h
      · cases h
      · split at h
        · rename_i n' _
          split at h
          · rename_i hs
            cases h
            have h1 : IsAgg P T n := ⟨⟨_, hu, rfl⟩, hs⟩
            simp only [part, Sem.run_bind, run_isAgg h1, Result.andThen_ok, run_size hs, if_true, Sem.run_pure, hu]
            congr 2
            apply Array.ext'
            simp [List.map_drop, List.map_take, List.extract]
          · cases h
        · cases h
    · rename_i k E hu
      split at h
      · rename_i z hz
        split at h
        · rename_i hs
          cases h
          have h1 : IsAgg P T (k * z) := ⟨⟨_, hu, rfl⟩, hs.2.2⟩
          simp only [part, Sem.run_bind, run_isAgg h1, Result.andThen_ok, run_size hs.2.2, if_true, Sem.run_pure, hu]
          congr 2
          apply Array.ext'
          simp [List.map_drop, List.map_take, List.extract]
        · cases h
      · cases h
    · cases h

theorem eqFields_A {f dd : Nat} (ih : ∀ {T n : Nat}, flatA P f T = some n → ∀ {«as» bs : List Int}, «as».length = n → bs.length = n → ∀ w, (Op.equalIn dd T (valA P T «as») (valA P T bs)).run P w = .ok (decide («as» = bs)) w) :
    ∀ (fs : List Field) (o n : Nat), fs.foldlM (fun (o : Nat) F => if F.name = "_" || F.offset ≠ o then none else (flatA P f F.type).map (o + ·)) o = some n → ∀ {«as» bs : List Int}, «as».length = n → bs.length = n → o ≤ n → ∀ w,
      (Op.eqFields dd («as».map intV).toArray (bs.map intV).toArray fs).run P w = .ok (decide («as».drop o = bs.drop o)) w
  | [], o, n, h, «as», bs, ha, hb, ho, w => by
    simp at h
    subst h
    simp [Op.eqFields, List.drop_of_length_le (Nat.le_of_eq ha), List.drop_of_length_le (Nat.le_of_eq hb)]
  | F :: fs, o, n, h, «as», bs, ha, hb, ho, w => by
    simp only [List.foldlM_cons] at h
    by_cases hc : (F.name = "_" || F.offset ≠ o) = true
    · rw [if_pos hc] at h; simp at h
    · simp only [hc, Bool.false_eq_true, if_false] at h
      simp only [Bool.or_eq_true, decide_eq_true_eq, not_or, ne_eq, Classical.not_not] at hc
      obtain ⟨hn, hoff⟩ := hc
      cases hf : flatA P f F.type with
      | none => simp [hf] at h
      | some m =>
        simp only [hf, Option.map_some] at h
        replace h : List.foldlM (fun (o : Nat) F => if F.name = "_" || F.offset ≠ o then none else (flatA P f F.type).map (o + ·)) (o + m) fs = some n := h
        have hle : o + m ≤ n := foldl_le fs (o + m) n h
        simp only [Op.eqFields, hn, ne_eq, not_false_eq_true, if_true, Sem.run_bind, hoff]
        rw [part_A hf (by omega) w]
        simp only [Result.andThen_ok]
        rw [part_A hf (by omega) w]
        simp only [Result.andThen_ok]
        rw [ih hf (by simp; omega) (by simp; omega) w]
        simp only [Result.andThen_ok]
        have sp : ∀ l : List Int, l.drop o = (l.drop o).take m ++ l.drop (o + m) := by
          intro l
          have := List.take_append_drop m (l.drop o)
          rw [List.drop_drop] at this
          exact this.symm
        by_cases e : («as».drop o).take m = (bs.drop o).take m
        · simp only [e, decide_true, Bool.not_true, Bool.false_eq_true, if_false]
          rw [eqFields_A ih fs (o + m) n h ha hb hle w]
          congr 2
          apply propext
          rw [sp «as», sp bs, e]
          simp
        · simp only [e, decide_false, Bool.not_false, if_true, Sem.run_pure]
          congr 1
          symm
          rw [decide_eq_false_iff_not]
          intro q
          exact e (by rw [q])
where
  foldl_le : ∀ (fs : List Field) (o n : Nat), fs.foldlM (fun (o : Nat) F => if F.name = "_" || F.offset ≠ o then none else (flatA P f F.type).map (o + ·)) o = some n → o ≤ n
    | [], o, n, h => by simp at h; omega
    | F :: fs, o, n, h => by
      simp only [List.foldlM_cons] at h
      by_cases hc : (F.name = "_" || F.offset ≠ o) = true
      · rw [if_pos hc] at h; simp at h
      · simp only [hc, Bool.false_eq_true, if_false] at h
        cases hf : flatA P f F.type with
        | none => simp [hf] at h
        | some m =>
          simp only [hf, Option.map_some] at h
          have := foldl_le fs (o + m) n h
          omega

theorem eqItems_A {f dd : Nat} {E z : Nat} (ih : ∀ {«as» bs : List Int}, «as».length = z → bs.length = z → ∀ w, (Op.equalIn dd E (valA P E «as») (valA P E bs)).run P w = .ok (decide («as» = bs)) w) (hE : flatA P f E = some z) {«as» bs : List Int} :
    ∀ (m i : Nat), «as».length = (i + m) * z → bs.length = (i + m) * z → ∀ w, (Op.eqItems dd E z («as».map intV).toArray (bs.map intV).toArray ((List.range m).map (i + ·))).run P w = .ok (decide («as».drop (i * z) = bs.drop (i * z))) w
  | 0, i, ha, hb, w => by
    simp at ha hb
    simp [Op.eqItems, List.drop_of_length_le (Nat.le_of_eq ha), List.drop_of_length_le (Nat.le_of_eq hb)]
  | m + 1, i, ha, hb, w => by
    have e0 : (List.range (m + 1)).map (i + ·) = i :: (List.range m).map (i + 1 + ·) := by
      rw [List.range_succ_eq_map]
      simp [Function.comp_def, Nat.add_assoc, Nat.add_comm 1]
    have hz1 : i * z + z ≤ «as».length := by rw [ha, Nat.add_mul, Nat.add_mul]; omega
    have hz2 : i * z + z ≤ bs.length := by rw [hb, Nat.add_mul, Nat.add_mul]; omega
    rw [e0]
    simp only [Op.eqItems, Sem.run_bind]
    rw [part_A hE hz1 w]
    simp only [Result.andThen_ok]
    rw [part_A hE hz2 w]
    simp only [Result.andThen_ok]
    rw [ih (by simp; omega) (by simp; omega) w]
    simp only [Result.andThen_ok]
    have sp : ∀ l : List Int, l.drop (i * z) = (l.drop (i * z)).take z ++ l.drop ((i + 1) * z) := by
      intro l
      have := List.take_append_drop z (l.drop (i * z))
      rw [List.drop_drop] at this
      rw [Nat.add_mul, Nat.one_mul]
      exact this.symm
    by_cases e : («as».drop (i * z)).take z = (bs.drop (i * z)).take z
    · simp only [e, decide_true, Bool.not_true, Bool.false_eq_true, if_false]
      rw [eqItems_A ih hE m (i + 1) (by rw [ha]; congr 1; omega) (by rw [hb]; congr 1; omega) w]
      congr 2
      apply propext
      rw [sp «as», sp bs, e]
      simp
    · simp only [e, decide_false, Bool.not_false, if_true, Sem.run_pure]
      congr 1
      symm
      rw [decide_eq_false_iff_not]
      intro q
      exact e (by rw [q])

theorem equalIn_A : ∀ (f : Nat) {T n : Nat}, flatA P f T = some n → ∀ {«as» bs : List Int}, «as».length = n → bs.length = n → ∀ dd, f ≤ dd → ∀ w, (Op.equalIn dd T (valA P T «as») (valA P T bs)).run P w = .ok (decide («as» = bs)) w
  | 0, T, n, h,_,_,_,_,_,_,_ => by simp [flatA] at h
  | f + 1, T, n, h, «as», bs, ha, hb, dd, hd, w => by
    obtain ⟨dd, rfl⟩ : ∃ d', dd = d' + 1 := ⟨dd - 1, by omega⟩
    unfold flatA at h
    unfold valA
    split at h
    · rename_i hu
      split at h
      · cases h
        match «as», bs, ha, hb with
        | [a], [b],_,_ =>
          simp only [hu, List.map_cons, List.map_nil, List.head?_cons, Option.getD_some, intV]
          rw [run_equalIn_int w dd T .i64 .i64 a b hu]
          congr 1
          simp [BEq.beq]
      · cases h
    · rename_i fs hu
      split at h
      · cases h
      · rename_i hs
        split at h
        · rename_i n' hf
          split at h
          · cases h
            have hfs : P.fieldsOf T = fs := by simp [Program.fieldsOf, hu]
            simp only [hu]
            rw [run_equalIn_struct w dd T _ _ (by rw [hfs]; exact hu) (by simpa using hs), hfs]
            have := eqFields_A (P := P) (f := f) (dd := dd) (fun {T n} h2 {«as» bs} h3 h4 w => equalIn_A f h2 h3 h4 dd (by omega) w) fs.toList 0 n hf ha hb (by omega) w
            simpa using this
          · cases h
        · cases h
    · rename_i k E hu
      split at h
      · rename_i z hz
        split at h
        · rename_i hs
          cases h
          obtain ⟨hc, hsz,_⟩ := hs
          obtain ⟨i, hi,_⟩ : ∃ i, P.info? E = some i ∧ i.size = z := by
            cases q : P.info? E with
            | none => simp [q] at hsz
            | some i => exact ⟨i, rfl, by simpa [q] using hsz⟩
          simp only [hu]
          rw [run_equalIn_array w dd _ _ hu hi, hc]
          have := eqItems_A (P := P) (f := f) (dd := dd) (E := E) (z := z) (fun {«as» bs} h3 h4 w => equalIn_A f hz h3 h4 dd (by omega) w) hz («as» := «as») (bs := bs) k 0 (by rw [ha]; simp) (by rw [hb]; simp) w
          simpa using this
        · cases h
      · cases h
    · cases h

def FlatA (P : Program) (T n : Nat) : Prop := (∃ d, P.underlying T = some d ∧ (match d with | .struct _ | .array _ _ => true | _ => false) = true) ∧ flatA P 20 T = some n ∧ P.eqGuardType P.depth T = false

variable {ro : Option Nat} {β : Bs} {N : Nat} {ds : List Deferred} {env : Env} {L : List Res} {Q : Exit → Act → World → Prop}
variable {d : Option Nat} {ty : TypeId} {pos : String} {aft : Array Edge} {g : Option (Nat × Bool)}
theorem valA_agg {T n : Nat} (hT : FlatA P T n) («as» : List Int) : valA P T «as» = .agg («as».map intV).toArray := by
  obtain ⟨⟨d, hu, hd⟩,_⟩ := hT
  unfold valA; rw [hu]; cases d <;> simp_all
theorem LO.eqA {x y : Operand} {T yT n : Nat} {«as» bs : List Int} (hT : FlatA P T n) (hx : OV env x (.agg («as».map intV).toArray)) (hy : OV env y (.agg (bs.map intV).toArray)) (ha : Nat.beq «as».length n = true) (hb : Nat.beq bs.length n = true) : LO P β env L ⟨d, .binOp .eql T x y yT, ty, pos, aft, g⟩ (.bool (decide («as» = bs))) :=
  .of_run fun a w h hw => ⟨w, by
    have h1 := equalIn_A (P := P) 20 hT.2.1 («as» := «as») (bs := bs) (Nat.eq_of_beq_eq_true ha) (Nat.eq_of_beq_eq_true hb) 10000 (by decide) w
    rw [valA_agg hT, valA_agg hT] at h1
    simp only [execOp, h x (by simp [Op.operands]) _ hx, h y (by simp [Op.operands]) _ hy, Sem.run_bind, run_eqGuard_agg w .eql T x y _ _ hT.2.2, Result.andThen_ok, run_eql_struct, h1, Sem.run_pure], hw⟩
theorem LO.neA {x y : Operand} {T yT n : Nat} {«as» bs : List Int} (hT : FlatA P T n) (hx : OV env x (.agg («as».map intV).toArray)) (hy : OV env y (.agg (bs.map intV).toArray)) (ha : Nat.beq «as».length n = true) (hb : Nat.beq bs.length n = true) : LO P β env L ⟨d, .binOp .neq T x y yT, ty, pos, aft, g⟩ (.bool (!decide («as» = bs))) :=
  .of_run fun a w h hw => ⟨w, by
    have h1 := equalIn_A (P := P) 20 hT.2.1 («as» := «as») (bs := bs) (Nat.eq_of_beq_eq_true ha) (Nat.eq_of_beq_eq_true hb) 10000 (by decide) w
    rw [valA_agg hT, valA_agg hT] at h1
    simp only [execOp, h x (by simp [Op.operands]) _ hx, h y (by simp [Op.operands]) _ hy, Sem.run_bind, run_eqGuard_agg w .neq T x y _ _ hT.2.2, Result.andThen_ok, run_neq_struct, h1, Sem.run_pure], hw⟩

end
end Go.SL

namespace Go.SL
set_option linter.unusedVariables false
open Go.RowKit

theorem St.of_perm {β : Bs} {L L' : List Res} {w : World} (h : St β L w) (hp : List.Perm L L') : St β L' w := by
  have mem : ∀ {r : Res}, r ∈ L' → ∃ i : Nat, L[i]? = some r := fun hr => by
    obtain ⟨i, hi, e⟩ := List.getElem_of_mem (hp.symm.subset hr)
    exact ⟨i, by rw [List.getElem?_eq_getElem hi, e]⟩
  have hpw : L.Pairwise (fun r s : Res => ∀ k, r.fp k → ¬ s.fp k) := List.pairwise_iff_getElem.2 fun i j hi hj hij k hk => h.dis i j _ _ (by omega) (List.getElem?_eq_getElem hi) (List.getElem?_eq_getElem hj) k hk
  have hpw' := (hp.pairwise_iff (fun {r s} (q : ∀ k, r.fp k → ¬ s.fp k) k hs hr => q k hr hs)).1 hpw
  refine ⟨h.os, h.tape, h.output, h.size, h.fr, ?_, ?_, ?_⟩
  · intro i r hr
    obtain ⟨j, hj⟩ := mem (List.mem_of_getElem? hr)
    exact h.inv j r hj
  · intro i r hr
    obtain ⟨j, hj⟩ := mem (List.mem_of_getElem? hr)
    exact h.rng j r hj
  · intro i j r s hij hr hs k hk hk2
    obtain ⟨hi, e1⟩ := List.getElem?_eq_some_iff.1 hr
    obtain ⟨hj, e2⟩ := List.getElem?_eq_some_iff.1 hs
    rcases Nat.lt_or_ge i j with q | q
    · have := List.pairwise_iff_getElem.1 hpw' i j hi hj q k
      rw [e1, e2] at this; exact this hk hk2
    · have := List.pairwise_iff_getElem.1 hpw' j i hj hi (by omega) k
      rw [e1, e2] at this; exact this hk2 hk

/-- A new block of a region: its operation, its slot, what the slot holds, its type and cells. -/
structure FS where
  i : Nat
  d : Nat
  val : Nat → Value
  T : TypeId
  C : Array Value
def FS.res (s : FS) (b : Nat) : Res := blk b (.cells s.C s.T)

def FO (P : Program) (env : Env) (o : Oper) (s : FS) : Prop :=
  o.dst = some s.d ∧ o.guard = none ∧ ∀ (a : Act) (w : World), (∀ x, x ∈ o.op.operands → ∀ u, ev env x = some u → a.eval x = u) → (execOp a.eval o).run P w = .ok (.value (s.val w.heap.size)) (w.alloc (.cells s.C s.T))

def isF (FT : List FS) (i : Nat) : Option FS := FT.find? fun s => Nat.beq s.i i

def HY (P : Program) (β : Bs) (N : Nat) (ds : List Deferred) (J : Nat → List Res) (Q : Exit → Act → World → Prop) (FT : List FS) : Nat → Nat → List Oper → List (Option Nat) → Env → List Res → Prop
  | _,_, [],_, env, L => VE β N ds env L .normal Q
  | m, i, o :: r, some _ :: ms, env, L => HY P β N ds J Q FT m (i + 1) r ms env L
  | m, i, o :: r, none :: ms, env, L =>
    (∃ s, isF FT i = some s ∧ ∀ b, (∀ w, St β (s.res b :: L) w → St β (J (m + 1)) w) ∧ HY P β N ds J Q FT (m + 1) (i + 1) r ms ((s.d, s.val b) :: env) (s.res b :: L)) ∨
    (isF FT i = none ∧ o.guard = none ∧ (∀ d, o.dst = some d → d < N) ∧ ∀ X, HO P β env (L ++ X) o fun v L'' => ∃ L', L'' = L' ++ X ∧ (∀ w, St β L' w → St β (J (m + 1)) w) ∧ HY P β N ds J Q FT (m + 1) (i + 1) r ms (putE o v env) L')
  | _,_,_ :: _, [],_,_ => False

section
variable {P : Program} {ro : Option Nat} {β : Bs} {ds : List Deferred} {N : Nat} {J : Nat → List Res} {Q : Exit → Act → World → Prop} {FT : List FS} {env : Env} {L : List Res}
theorem HY.nil {m i : Nat} {ms : List (Option Nat)} (h : VE β N ds env L .normal Q) : HY P β N ds J Q FT m i [] ms env L := h
theorem HY.s {m i k : Nat} {o : Oper} {rest : List Oper} {ms : List (Option Nat)} (h : HY P β N ds J Q FT m (i + 1) rest ms env L) : HY P β N ds J Q FT m i (o :: rest) (some k :: ms) env L := h
theorem HY.f {m i : Nat} {o : Oper} {rest : List Oper} {ms : List (Option Nat)} {s : FS} (hs : isF FT i = some s) (h : ∀ b, (∀ w, St β (s.res b :: L) w → St β (J (m + 1)) w) ∧ HY P β N ds J Q FT (m + 1) (i + 1) rest ms ((s.d, s.val b) :: env) (s.res b :: L)) : HY P β N ds J Q FT m i (o :: rest) (none :: ms) env L := .inl ⟨s, hs, h⟩
theorem HY.h {m i d : Nat} {op : Op} {ty : TypeId} {pos : String} {aft : Array Edge} {rest : List Oper} {ms : List (Option Nat)} (hs : isF FT i = none) (hd : Nat.blt d N = true)
    (h : ∀ X, HO P β env (L ++ X) ⟨some d, op, ty, pos, aft, none⟩ fun v L'' => ∃ L', L'' = L' ++ X ∧ (∀ w, St β L' w → St β (J (m + 1)) w) ∧ HY P β N ds J Q FT (m + 1) (i + 1) rest ms ((d, v) :: env) L') : HY P β N ds J Q FT m i (⟨some d, op, ty, pos, aft, none⟩ :: rest) (none :: ms) env L :=
  .inr ⟨hs, rfl, (fun d' hd' => by cases hd'; exact Nat.le_of_ble_eq_true hd), h⟩
theorem HY.h0 {m i : Nat} {op : Op} {ty : TypeId} {pos : String} {aft : Array Edge} {rest : List Oper} {ms : List (Option Nat)} (hs : isF FT i = none)
    (h : ∀ X, HO P β env (L ++ X) ⟨none, op, ty, pos, aft, none⟩ fun v L'' => ∃ L', L'' = L' ++ X ∧ (∀ w, St β L' w → St β (J (m + 1)) w) ∧ HY P β N ds J Q FT (m + 1) (i + 1) rest ms env L') : HY P β N ds J Q FT m i (⟨none, op, ty, pos, aft, none⟩ :: rest) (none :: ms) env L :=
  .inr ⟨hs, rfl, (fun d' hd' => by cases hd'), h⟩
theorem HY.drop {l : List Oper} {ms : List (Option Nat)} {m p : Nat} : ∀ (k : Nat), HY P β N ds J Q FT m p (l.drop p) (ms.drop p) env L → p + k ≤ l.length → (∀ i, p ≤ i → i < p + k → isLight ms i = true) → HY P β N ds J Q FT m (p + k) (l.drop (p + k)) (ms.drop (p + k)) env L
  | 0, h,_,_ => h
  | k + 1, h, hk, hl => by
    have ih := HY.drop k h (by omega) (fun i a b => hl i a (by omega))
    have hlt : p + k < l.length := by omega
    have hli := hl (p + k) (by omega) (by omega)
    rw [List.drop_eq_getElem_cons hlt] at ih
    cases q : ms[p + k]? with
    | none => simp [isLight, q] at hli
    | some x =>
      have hml : p + k < ms.length := (List.getElem?_eq_some_iff.1 q).1
      rw [List.drop_eq_getElem_cons hml] at ih
      have e : ms[p + k] = x := (List.getElem?_eq_some_iff.1 q).2
      rw [e] at ih
      cases x with
      | none => simp [isLight, q] at hli
      | some y => exact ih

def chkB (l : List Oper) (ms : List (Option Nat)) (js : List (List Nat)) (FT : List (Nat × Nat)) : Bool :=
  let cl := clOf l
  let n := l.length
  let isFi := fun i => FT.any fun s => Nat.beq s.1 i
  let isD := fun t => FT.any fun s => Nat.beq s.2 t
  nodupB (FT.map (·.1)) && nodupB (FT.map (·.2)) &&
  FT.all (fun s => Nat.blt s.1 n && isHeavy ms s.1 && dstIs l s.1 s.2) &&
  Nat.beq ms.length n && js.all nodupB && ((idxs js.length).all fun m => (js.getD (m + 1) []).all (js.getD m []).contains) &&
  (idxs n).all fun k =>
    match l[k]? with
    | none => false
    | some o =>
      o.after.toList.all (fun e => !Region.binds .any e || Nat.blt e.on k) &&
      (cl.getD k []).all (fun i => o.after.toList.any fun e => Region.binds .any e && (Nat.beq e.on i || (cl.getD e.on []).contains i)) &&
      o.after.toList.all (fun e => !Region.binds .any e || (cl.getD k []).contains e.on) &&
      (isLight ms k || isFi k || (idxs n).all fun i => !isHeavy ms i || !Nat.blt i k || (cl.getD k []).contains i) &&
      (match ms.getD k none with | some m => (idxs n).all fun i => !isHeavy ms i || Nat.blt (rank ms i) m || (cl.getD i []).contains k | none => true) &&
      (match o.dst with
       | none => !isLight ms k
       | some d => ((idxs n).all fun i => !dstIs l i d || !ahead ms i k || (cl.getD k []).contains i) && (isFi k || !isD d)) &&
      ((readsOf l.toArray o).all fun t => ((idxs n).all fun i => !dstIs l i t || ((!ahead ms i k || (cl.getD k []).contains i) && (!ahead ms k i || (cl.getD i []).contains k))) && (!(isLight ms k || isFi k) || !isD t) && (!isFi k || !(idxs n).any fun i => isHeavy ms i && dstIs l i t) && (FT.all fun s => !Nat.beq s.2 t || Nat.blt s.1 k))

structure ChkB (l : List Oper) (ms : List (Option Nat)) (js : List (List Nat)) (FT : List FS) : Prop where
  len : ms.length = l.length
  jn : ∀ m, nodupB (js.getD m []) = true
  js : ∀ m, (js.getD (m + 1) []).all (js.getD m []).contains = true
  fi : ∀ s, s ∈ FT → s.i < l.length ∧ isHeavy ms s.i = true ∧ dstIs l s.i s.d = true
  ni : (FT.map (·.i)).Nodup
  nd : (FT.map (·.d)).Nodup
  ops : ∀ k o, l[k]? = some o →
      (∀ e, e ∈ o.after.toList → Region.binds .any e = true → e.on < k) ∧
      (∀ i, i ∈ (clOf l).getD k [] → ∃ e, e ∈ o.after.toList ∧ Region.binds .any e = true ∧ (e.on = i ∨ i ∈ (clOf l).getD e.on [])) ∧
      (isHeavy ms k = true → isF FT k = none → ∀ i, i < k → isHeavy ms i = true → i ∈ (clOf l).getD k []) ∧
      (∀ m, ms[k]? = some (some m) → ∀ i, i < l.length → isHeavy ms i = true → rank ms i < m ∨ k ∈ (clOf l).getD i []) ∧
      (∀ d, o.dst = some d → (∀ i, i < l.length → dstIs l i d = true → ahead ms i k = true → i ∈ (clOf l).getD k []) ∧ (isF FT k = none → ∀ s, s ∈ FT → s.d ≠ d)) ∧
      (∀ t, t ∈ readsOf l.toArray o → (∀ i, i < l.length → dstIs l i t = true → (ahead ms i k = true → i ∈ (clOf l).getD k []) ∧ (ahead ms k i = true → k ∈ (clOf l).getD i [])) ∧
        ((isLight ms k = true ∨ isF FT k ≠ none) → ∀ s, s ∈ FT → s.d ≠ t) ∧ (isF FT k ≠ none → ∀ i, i < l.length → isHeavy ms i = true → dstIs l i t = false) ∧ ∀ s, s ∈ FT → s.d = t → s.i < k)

theorem isF_some {i : Nat} {s : FS} (h : isF FT i = some s) : s ∈ FT ∧ s.i = i := ⟨List.mem_of_find?_eq_some h, Nat.eq_of_beq_eq_true (List.find?_some (p := fun s : FS => Nat.beq s.i i) h)⟩
theorem isF_none {i : Nat} (h : isF FT i = none) : ∀ s, s ∈ FT → s.i ≠ i := fun s hs e => by
  have := List.find?_eq_none.1 h s hs
  rw [e] at this; simp at this
theorem isF_mem (hn : (FT.map (·.i)).Nodup) {s : FS} (hs : s ∈ FT) : isF FT s.i = some s := by
  cases q : isF FT s.i with
  | none => exact absurd rfl (isF_none q s hs)
  | some u =>
    obtain ⟨h1, h2⟩ := isF_some q
    have hnd := List.pairwise_iff_getElem.1 hn
    obtain ⟨p1, hp1, e1⟩ := List.getElem_of_mem h1
    obtain ⟨p2, hp2, e2⟩ := List.getElem_of_mem hs
    rcases Nat.lt_trichotomy p1 p2 with r | r | r
    · exact absurd (by rw [List.getElem_map, List.getElem_map, e1, e2, h2]) (hnd p1 p2 (by simpa using hp1) (by simpa using hp2) r)
    · subst r; rw [← e1, e2]
    · exact absurd (by rw [List.getElem_map, List.getElem_map, e1, e2, h2]) (hnd p2 p1 (by simpa using hp2) (by simpa using hp1) r)

theorem nodupB_nd : ∀ {l : List Nat}, nodupB l = true → l.Nodup := fun {l} h => by
  rw [List.Nodup, List.pairwise_iff_getElem]
  intro i j hi hj hij
  exact nodupB_spec h i j hi hj (by omega)
theorem beqne' {d t : Nat} (e : t ≠ d) : Nat.beq d t = false := by
  cases q : Nat.beq d t
  · rfl
  · exact absurd (Nat.eq_of_beq_eq_true q).symm e

theorem ChkB.of {l : List Oper} {ms : List (Option Nat)} {js : List (List Nat)} (h : chkB l ms js (FT.map fun s => (s.i, s.d)) = true) : ChkB l ms js FT := by
  unfold chkB at h
  simp only [Bool.and_eq_true] at h
  obtain ⟨⟨⟨⟨⟨⟨n1, n2⟩, n5⟩, h1⟩, h2⟩, h3⟩, h4⟩ := h
  have hlen := Nat.eq_of_beq_eq_true h1
  have key : ∀ k o, l[k]? = some o → _ := fun k o hk => by
    have hlt : k < l.length := (List.getElem?_eq_some_iff.1 hk).1
    have h5 := List.all_eq_true.1 h4 k (by simpa [idxs] using hlt)
    simp only [hk, Bool.and_eq_true] at h5
    exact h5
  have anyF : ∀ k, isF FT k = none → ((FT.map fun s => (s.i, s.d)).any fun s => Nat.beq s.1 k) = false := fun k hk => by
    cases q : (FT.map fun s => (s.i, s.d)).any fun s => Nat.beq s.1 k with
    | false => rfl
    | true =>
      obtain ⟨x, hx, e⟩ := List.any_eq_true.1 q
      obtain ⟨s, hs, rfl⟩ := List.mem_map.1 hx
      exact absurd (Nat.eq_of_beq_eq_true e) (isF_none hk s hs)
  have anyF' : ∀ k, isF FT k ≠ none → ((FT.map fun s => (s.i, s.d)).any fun s => Nat.beq s.1 k) = true := fun k hk => by
    cases q : isF FT k with
    | none => exact absurd q hk
    | some s =>
      obtain ⟨a, b⟩ := isF_some q
      exact List.any_eq_true.2 ⟨(s.i, s.d), List.mem_map.2 ⟨s, a, rfl⟩, by rw [b]; exact Nat.beq_refl _⟩
  have anyD : ∀ t, ((FT.map fun s => (s.i, s.d)).any fun s => Nat.beq s.2 t) = false → ∀ s, s ∈ FT → s.d ≠ t := fun t ht s hs e => by
    have : ((FT.map fun s => (s.i, s.d)).any fun s => Nat.beq s.2 t) = true := List.any_eq_true.2 ⟨(s.i, s.d), List.mem_map.2 ⟨s, hs, rfl⟩, by rw [e]; exact Nat.beq_refl _⟩
    rw [ht] at this; cases this
  have nl : ∀ k, k < l.length → isHeavy ms k = true → isLight ms k = false := fun k hk hh => by
    rcases light_or_heavy hlen hk with ⟨_, b,_⟩ | ⟨a,_,_⟩
    · rw [b] at hh; cases hh
    · exact a
  refine ⟨hlen, ?_, ?_, ?_, ?_, ?_, ?_⟩
  · intro m
    cases q : js[m]? with
    | none => simp [List.getD, q, nodupB]
    | some x => simp only [List.getD, q, Option.getD_some]; exact List.all_eq_true.1 h2 x (List.mem_of_getElem? q)
  · intro m
    rcases Nat.lt_or_ge m js.length with q | q
    · exact List.all_eq_true.1 h3 m (by simpa [idxs] using q)
    · have : js[m + 1]? = none := by simp; omega
      simp [List.getD, this]
  · intro s hs
    have := List.all_eq_true.1 n5 (s.i, s.d) (List.mem_map.2 ⟨s, hs, rfl⟩)
    simp only [Bool.and_eq_true] at this
    exact ⟨Nat.le_of_ble_eq_true this.1.1, this.1.2, this.2⟩
  · have := nodupB_nd n1; rwa [List.map_map] at this
  · have := nodupB_nd n2; rwa [List.map_map] at this
  · intro k o hk
    have hlt : k < l.length := (List.getElem?_eq_some_iff.1 hk).1
    obtain ⟨⟨⟨⟨⟨⟨a1, a2⟩, a3⟩, a4⟩, a5⟩, a6⟩, a7⟩ := key k o hk
    refine ⟨?_, ?_, ?_, ?_, ?_, ?_⟩
    · intro e he hb
      have := List.all_eq_true.1 a1 e he
      simp only [hb, Bool.not_true, Bool.false_or] at this
      exact Nat.le_of_ble_eq_true this
    · intro i hi
      have := List.all_eq_true.1 a2 i hi
      obtain ⟨e, he, hx⟩ := List.any_eq_true.1 this
      simp only [Bool.and_eq_true, Bool.or_eq_true] at hx
      exact ⟨e, he, hx.1, hx.2.imp Nat.eq_of_beq_eq_true (by simp)⟩
    · intro hh hf i hi hh2
      rw [nl k hlt hh, anyF k hf, Bool.false_or, Bool.false_or] at a4
      have := List.all_eq_true.1 a4 i (by simp [idxs]; omega)
      have hb : Nat.blt i k = true := Nat.ble_eq_true_of_le hi
      simpa [hh2, hb] using this
    · intro m hm i hi hh
      have e : ms.getD k none = some m := by simp [List.getD, hm]
      rw [e] at a5
      have := List.all_eq_true.1 a5 i (by simpa [idxs] using hi)
      simp only [hh, Bool.not_true, Bool.false_or, Bool.or_eq_true] at this
      exact this.imp (fun q => Nat.le_of_ble_eq_true q) (by simp)
    · intro d hd
      simp only [hd, Bool.and_eq_true] at a6
      refine ⟨fun i hi hw ha => ?_, fun hf => ?_⟩
      · have := List.all_eq_true.1 a6.1 i (by simpa [idxs] using hi)
        simpa [hw, ha] using this
      · have := a6.2
        rw [anyF k hf, Bool.false_or, Bool.not_eq_true'] at this
        exact anyD d this
    · intro t ht
      have := List.all_eq_true.1 a7 t ht
      simp only [Bool.and_eq_true] at this
      obtain ⟨⟨⟨b1, b2⟩, b3⟩, b4⟩ := this
      refine ⟨fun i hi hw => ?_, fun hor => ?_, fun hf i hi hh => ?_, fun s hs e => ?_⟩
      · have := List.all_eq_true.1 b1 i (by simpa [idxs] using hi)
        simp only [hw, Bool.not_true, Bool.false_or, Bool.and_eq_true] at this
        exact ⟨fun q => by simpa [q] using this.1, fun q => by simpa [q] using this.2⟩
      · have hc : (isLight ms k || (FT.map fun s => (s.i, s.d)).any fun s => Nat.beq s.1 k) = true := by
          rcases hor with q | q
          · rw [q, Bool.true_or]
          · rw [anyF' k q, Bool.or_true]
        rw [hc, Bool.not_true, Bool.false_or, Bool.not_eq_true'] at b2
        exact anyD t b2
      · rw [anyF' k hf, Bool.not_true, Bool.false_or, Bool.not_eq_true'] at b3
        cases q : dstIs l i t with
        | false => rfl
        | true =>
          have : ((idxs l.length).any fun i => isHeavy ms i && dstIs l i t) = true := List.any_eq_true.2 ⟨i, by simpa [idxs] using hi, by rw [hh, q]; rfl⟩
          rw [b3] at this; cases this
      · have := List.all_eq_true.1 b4 (s.i, s.d) (List.mem_map.2 ⟨s, hs, rfl⟩)
        rw [e] at this
        simp at this
        exact this

/-- 'p': how far the chain is; 'E': the new blocks that were laid early. -/
structure Hz (P : Program) (β : Bs) (N : Nat) (ds : List Deferred) (J : Nat → List Res) (Q : Exit → Act → World → Prop) (FT : List FS) (l : List Oper) (ms : List (Option Nat)) (V : Nat → Value) (env : Env) (listed : Array Bool) (p : Nat) (eh : Env) (L : List Res) (E : List (FS × Nat)) (a : Act) (w : World) : Prop where
  lsz : listed.size = l.length
  size : a.tmps.size = N
  dfr : a.defers = ds
  st : St β (L ++ E.map fun x => x.1.res x.2) w
  hJ : ∀ w, St β L w → St β (J (rank ms p)) w
  hp : p ≤ l.length
  hy : HY P β N ds J Q FT (rank ms p) p (l.drop p) (ms.drop p) (eh ++ envK l ms V env l.length) L
  eE : ∀ x, x ∈ E → x.1 ∈ FT ∧ p ≤ x.1.i
  en : (E.map fun x => x.1.i).Nodup
  hd : ∀ i, i < l.length → isHeavy ms i = true → (listed[i]? = some true ↔ i < p ∨ ∃ x, x ∈ E ∧ x.1.i = i)
  closed : ∀ j, listed[j]? = some true → ∀ i, i ∈ (clOf l).getD j [] → listed[i]? = some true
  sl : ∀ x, x ∈ E → a.tmps[x.1.d]? = some (x.1.val x.2)
  eh1 : ∀ t v, ev1 eh t = some v → a.tmps[t]? = some v
  eh2 : ∀ t, ev1 eh t = none → ∀ i, i < p → isHeavy ms i = true → dstIs l i t = false
  eh3 : ∀ t, ev1 eh t ≠ none → ∃ i, i < p ∧ isHeavy ms i = true ∧ dstIs l i t = true
  top : ∀ t k, ev1 eh t = none → (∀ s, s ∈ FT → s.d ≠ t) → k < l.length → isLight ms k = true → dstIs l k t = true → listed[k]? = some true → (∀ k', k' < l.length → isLight ms k' = true → dstIs l k' t = true → listed[k']? = some true → k' ≤ k) → a.tmps[t]? = some (V k)
  base : ∀ t, ev1 eh t = none → (∀ s, s ∈ FT → s.d ≠ t) → (∀ k, k < l.length → isLight ms k = true → dstIs l k t = true → listed[k]? ≠ some true) → ∀ v, ev1 env t = some v → a.tmps[t]? = some v

theorem inj_of_nodup {α γ : Type} {f : α → γ} {l : List α} (h : (l.map f).Nodup) {x y : α} (hx : x ∈ l) (hy : y ∈ l) (e : f x = f y) : x = y := by
  have hnd := List.pairwise_iff_getElem.1 h
  obtain ⟨p1, hp1, e1⟩ := List.getElem_of_mem hx
  obtain ⟨p2, hp2, e2⟩ := List.getElem_of_mem hy
  rcases Nat.lt_trichotomy p1 p2 with q | q | q
  · exact absurd (by rw [List.getElem_map, List.getElem_map, e1, e2, e]) (hnd p1 p2 (by simpa using hp1) (by simpa using hp2) q)
  · subst q; rw [← e1, e2]
  · exact absurd (by rw [List.getElem_map, List.getElem_map, e1, e2, e]) (hnd p2 p1 (by simpa using hp2) (by simpa using hp1) q)

theorem rank_lights {ms : List (Option Nat)} {p i : Nat} (hpi : p ≤ i) (hm : i ≤ ms.length) (h : ∀ k, p ≤ k → k < i → isLight ms k = true) : rank ms i = rank ms p := by
  have : ∀ k, p + k ≤ i → rank ms (p + k) = rank ms p := by
    intro k
    induction k with
    | zero => intro _; rfl
    | succ k ih =>
      intro hk
      have hlk := h (p + k) (by omega) (by omega)
      have hkl : p + k < ms.length := by omega
      rw [show p + (k + 1) = (p + k) + 1 by omega, rank_succ hkl, ih (by omega)]
      cases r : ms[p + k] with
      | none => simp [isLight, hkl, r] at hlk
      | some x => simp
  have := this (i - p) (by omega)
  rwa [show p + (i - p) = i by omega] at this

/-- The next of the chain was laid early: the chain goes on. -/
theorem Hz.catch {l : List Oper} {ms : List (Option Nat)} {js : List (List Nat)} {V : Nat → Value} {listed : Array Bool} {p : Nat} {eh : Env} {E : List (FS × Nat)} {a : Act} {w : World} (hc : ChkB l ms js FT)
    (h : Hz P β N ds J Q FT l ms V env listed p eh L E a w) {x : FS × Nat} (hx : x ∈ E) (hl : ∀ k, p ≤ k → k < x.1.i → isLight ms k = true) :
    ∃ eh' L' E', Hz P β N ds J Q FT l ms V env listed (x.1.i + 1) eh' L' E' a w ∧ E'.length < E.length := by
  obtain ⟨hxF, hpx⟩ := h.eE x hx
  obtain ⟨hil, hhv, hdx⟩ := hc.fi x.1 hxF
  have hy := HY.drop (x.1.i - p) h.hy (by omega) (fun k a b => hl k a (by omega))
  rw [show p + (x.1.i - p) = x.1.i by omega] at hy
  have hml : x.1.i < ms.length := by rw [hc.len]; exact hil
  have e2 : ms[x.1.i] = none := by
    have := hhv
    unfold isHeavy at this
    rw [List.getElem?_eq_getElem hml] at this
    cases q : ms[x.1.i] with
    | none => rfl
    | some y => rw [q] at this; cases this
  rw [List.drop_eq_getElem_cons hil, List.drop_eq_getElem_cons hml, e2] at hy
  have hF := isF_mem hc.ni hxF
  rcases hy with ⟨s, hs, hb⟩ | ⟨hn,_⟩
  · rw [hF] at hs
    cases hs
    obtain ⟨hb1, hb2⟩ := hb x.2
    obtain ⟨E1, E2, rfl⟩ := List.append_of_mem hx
    have hrk : rank ms x.1.i = rank ms p := rank_lights hpx (by omega) hl
    have hrk1 : rank ms (x.1.i + 1) = rank ms p + 1 := by rw [rank_succ hml, e2, hrk]; simp
    have hnd := h.en
    simp only [List.map_append, List.map_cons] at hnd
    have hne : ∀ y, y ∈ E1 ++ E2 → y.1.i ≠ x.1.i := fun y hy e => by
      have h2 := (List.nodup_append.1 hnd)
      rcases List.mem_append.1 hy with q | q
      · exact h2.2.2 _ (List.mem_map.2 ⟨y, q, rfl⟩) _ (by simp) e
      · exact (List.nodup_cons.1 h2.2.1).1 (List.mem_map.2 ⟨y, q, e⟩)
    have gt : ∀ y, y ∈ E1 ++ E2 → x.1.i + 1 ≤ y.1.i := fun y hy => by
      have hyE : y ∈ E1 ++ x :: E2 := by rcases List.mem_append.1 hy with q | q <;> simp [q]
      obtain ⟨hyF, hpy⟩ := h.eE y hyE
      have h1 := hne y hy
      rcases Nat.lt_or_ge y.1.i x.1.i with q | q
      · have h2 := hl y.1.i hpy q
        rcases light_or_heavy hc.len (hc.fi y.1 hyF).1 with ⟨_, b,_⟩ | ⟨b,_,_⟩
        · rw [(hc.fi y.1 hyF).2.1] at b; cases b
        · rw [b] at h2; cases h2
      · omega
    have hdi : ∀ t, dstIs l x.1.i t = Nat.beq x.1.d t := fun t => by
      unfold dstIs at hdx ⊢
      rw [List.getElem?_eq_getElem hil] at hdx ⊢
      cases q : (l[x.1.i]).dst with
      | none => simp [q] at hdx
      | some d' => simp only [q] at hdx ⊢; rw [Nat.eq_of_beq_eq_true hdx]
    refine ⟨(x.1.d, x.1.val x.2) :: eh, x.1.res x.2 :: L, E1 ++ E2, ⟨h.lsz, h.size, h.dfr, ?_, ?_, by omega, ?_, ?_, ?_, ?_, h.closed, ?_, ?_, ?_, ?_, ?_, ?_⟩, by simp⟩
    · refine h.st.of_perm ?_
      simp only [List.map_append, List.map_cons, List.cons_append, ← List.append_assoc]
      exact List.perm_middle
    · rw [hrk1]; exact hb1
    · rw [hrk1]; exact hb2
    · intro y hy
      have hyE : y ∈ E1 ++ x :: E2 := by rcases List.mem_append.1 hy with q | q <;> simp [q]
      exact ⟨(h.eE y hyE).1, gt y hy⟩
    · have h2 := (List.nodup_append.1 hnd)
      rw [List.map_append]
      refine List.nodup_append.2 ⟨h2.1, (List.nodup_cons.1 h2.2.1).2, fun a ha b hb => h2.2.2 a ha b (by simp [hb])⟩
    · intro i hi hh
      rw [h.hd i hi hh]
      constructor
      · rintro (q | ⟨y, hy, e⟩)
        · exact .inl (by omega)
        · by_cases r : y.1.i = x.1.i
          · exact .inl (by omega)
          · refine .inr ⟨y, ?_, e⟩
            rcases List.mem_append.1 hy with q | q
            · simp [q]
            · rcases List.mem_cons.1 q with rfl | q
              · exact absurd rfl r
              · simp [q]
      · rintro (q | ⟨y, hy, e⟩)
        · by_cases r : i = x.1.i
          · exact .inr ⟨x, by simp, r.symm⟩
          · left
            rcases Nat.lt_or_ge i p with s | s
            · exact s
            · have := hl i s (by omega)
              rcases light_or_heavy hc.len hi with ⟨_, b,_⟩ | ⟨b,_,_⟩
              · rw [b] at hh; cases hh
              · rw [b] at this; cases this
        · exact .inr ⟨y, by rcases List.mem_append.1 hy with q | q <;> simp [q], e⟩
    · intro y hy
      exact h.sl y (by rcases List.mem_append.1 hy with q | q <;> simp [q])
    · intro t v hv
      by_cases e : t = x.1.d
      · subst e
        rw [ev1_cons_eq] at hv
        cases hv
        exact h.sl x hx
      · rw [ev1_cons_ne e] at hv; exact h.eh1 t v hv
    · intro t hn i hi hh
      have e : t ≠ x.1.d := fun e => by subst e; rw [ev1_cons_eq] at hn; cases hn
      rw [ev1_cons_ne e] at hn
      by_cases r : i = x.1.i
      · rw [r, hdi]; exact beqne' e
      · refine h.eh2 t hn i ?_ hh
        rcases Nat.lt_or_ge i p with s | s
        · exact s
        · have := hl i s (by omega)
          rcases light_or_heavy hc.len (show i < l.length by omega) with ⟨_, b,_⟩ | ⟨b,_,_⟩
          · rw [b] at hh; cases hh
          · rw [b] at this; cases this
    · intro t hn
      by_cases e : t = x.1.d
      · subst e; exact ⟨x.1.i, by omega, hhv, hdx⟩
      · rw [ev1_cons_ne e] at hn
        obtain ⟨i, a, b, c⟩ := h.eh3 t hn
        exact ⟨i, by omega, b, c⟩
    · intro t k hn hs
      have e : t ≠ x.1.d := fun e => hs x.1 hxF e.symm
      rw [ev1_cons_ne e] at hn
      exact h.top t k hn hs
    · intro t hn hs
      have e : t ≠ x.1.d := fun e => hs x.1 hxF e.symm
      rw [ev1_cons_ne e] at hn
      exact h.base t hn hs
  · rw [hF] at hn; cases hn

/-- The next of the chain was not laid. -/
def Nrm (l : List Oper) (ms : List (Option Nat)) (listed : Array Bool) (p : Nat) : Prop := ∀ i, p ≤ i → i < l.length → isHeavy ms i = true → (∀ k, p ≤ k → k < i → isLight ms k = true) → listed[i]? ≠ some true

theorem Hz.norm {l : List Oper} {ms : List (Option Nat)} {js : List (List Nat)} {V : Nat → Value} {listed : Array Bool} {a : Act} {w : World} (hc : ChkB l ms js FT) : ∀ (n : Nat) {p : Nat} {eh : Env} {L : List Res} {E : List (FS × Nat)}, E.length = n →
    Hz P β N ds J Q FT l ms V env listed p eh L E a w → ∃ p' eh' L' E', Hz P β N ds J Q FT l ms V env listed p' eh' L' E' a w ∧ Nrm l ms listed p' := by
  intro n
  induction n using Nat.strongRecOn with
  | _ n ih =>
    intro p eh L E hn h
    by_cases q : Nrm l ms listed p
    · exact ⟨p, eh, L, E, h, q⟩
    · unfold Nrm at q
      simp only [Classical.not_forall] at q
      obtain ⟨i, h1, h2, h3, h4, h5⟩ := q
      have h5 := Classical.not_not.1 h5
      rcases (h.hd i h2 h3).1 h5 with r | ⟨x, hx, e⟩
      · omega
      · subst e
        obtain ⟨eh', L', E', hz, hlt⟩ := h.catch hc hx h4
        exact ih E'.length (by omega) rfl hz

set_option maxHeartbeats 2000000 in
theorem Hz.step {l : List Oper} {ms : List (Option Nat)} {js : List (List Nat)} {L0 : List Res} {V : Nat → Value} {listed : Array Bool} {p : Nat} {eh : Env} {E : List (FS × Nat)} {a : Act} {w : World} {Q' : Exit → Act → World → Prop} (hc : ChkB l ms js FT) (hJe : J = fun m => sel L0 (js.getD m []))
    (hV : ∀ k o m, l[k]? = some o → ms[k]? = some (some m) → ∃ d, o.dst = some d ∧ d < N ∧ ∀ L, (∀ w, St β L w → St β (J m) w) → OpOk P β l.toArray L o (envK l ms V env k) (V k))
    (hF : ∀ s, s ∈ FT → s.d < N ∧ ∃ o, l[s.i]? = some o ∧ FO P (envK l ms V env l.length) o s)
    (h : Hz P β N ds J Q FT l ms V env listed p eh L E a w) (hn : Nrm l ms listed p) {i : Nat} (hi : i ∈ Region.ready .any l.toArray listed) {K : Act → World → Prop}
    (hK : ∀ p' eh' L' E' a' w', Hz P β N ds J Q FT l ms V env (listed.setIfInBounds i true) p' eh' L' E' a' w' → K a' w') : wpOpIn (Wf ro) 0 P l.toArray Q' i K a w := by
  have hlen := hc.len
  simp only [Region.ready, List.mem_filter, List.mem_range, Bool.and_eq_true, Bool.not_eq_true'] at hi
  obtain ⟨hin, hnl, hready⟩ := hi
  have hil : i < l.length := by simpa using hin
  have hiz : i < listed.size := by rw [h.lsz]; exact hil
  obtain ⟨o, ho⟩ : ∃ o, l[i]? = some o := ⟨l[i], by simp [hil]⟩
  have hnot : listed[i]? ≠ some true := by
    intro e
    have : listed.getD i true = true := by simp [e]
    rw [this] at hnl; cases hnl
  have hdone : ∀ e, e ∈ o.after.toList → Region.binds .any e = true → listed[e.on]? = some true := by
    intro e he hb
    have h1 : (o.after.all fun e => !Region.binds .any e || listed.getD e.on false) = true := by simpa [ho] using hready
    have h2 := (Array.all_eq_true_iff_forall_mem.1 h1) e (by simpa using he)
    simp only [hb, Bool.not_true, Bool.false_or] at h2
    cases q : listed[e.on]? with
    | none => simp [q] at h2
    | some b => simp [q] at h2; rw [h2]
  obtain ⟨c1, c2, c3, c4, c5, c6⟩ := hc.ops i o ho
  have hcl : ∀ j, j ∈ (clOf l).getD i [] → listed[j]? = some true := by
    intro j hj
    obtain ⟨e, he, hb, hx⟩ := c2 j hj
    rcases hx with rfl | hx
    · exact hdone e he hb
    · exact h.closed _ (hdone e he hb) j hx
  have closed' : ∀ j, (listed.setIfInBounds i true)[j]? = some true → ∀ k, k ∈ (clOf l).getD j [] → (listed.setIfInBounds i true)[k]? = some true := by
    intro j hj k hk
    rw [get_set_true hiz] at hj ⊢
    rcases hj with rfl | hj
    · exact .inr (hcl k hk)
    · exact .inr (h.closed j hj k hk)
  have ho' : l.toArray[i]? = some o := by simpa using ho
  have dstI : ∀ d, o.dst = some d → ∀ t, dstIs l i t = Nat.beq d t := by
    intro d hd t; simp [dstIs, ho, hd]
  have hEl : ∀ x, x ∈ E → listed[x.1.i]? = some true := fun x hx => (h.hd _ (hc.fi x.1 (h.eE x hx).1).1 (hc.fi x.1 (h.eE x hx).1).2.1).2 (.inr ⟨x, hx, rfl⟩)
  have before : ∀ t, t ∈ readsOf l.toArray o → ∀ k, k < l.length → dstIs l k t = true → ahead ms k i = true → listed[k]? = some true := fun t ht k hk hw ha => hcl k (((c6 t ht).1 k hk hw).1 ha)
  have behind : ∀ t, t ∈ readsOf l.toArray o → ∀ k, k < l.length → dstIs l k t = true → ahead ms i k = true → listed[k]? ≠ some true := fun t ht k hk hw ha hl => hnot (h.closed k hl i (((c6 t ht).1 k hk hw).2 ha))
  unfold wpOpIn
  simp only [ho']
  rcases light_or_heavy hlen hil with ⟨hli, hhv, m, hm⟩ | ⟨hli, hhv, hm⟩
  · -- a light one
    obtain ⟨d, hd, hdN, hok⟩ := hV i o m ho hm
    have hfn : isF FT i = none := by
      cases q : isF FT i with
      | none => rfl
      | some s =>
        obtain ⟨h1, h2⟩ := isF_some q
        have := (hc.fi s h1).2.1
        rw [h2, hhv] at this; cases this
    have hnd : ∀ s, s ∈ FT → s.d ≠ d := (c5 d hd).2 hfn
    have hstage : rank ms p ≤ m := by
      rcases Nat.lt_or_ge m (rank ms p) with q | q
      · exfalso
        obtain ⟨j, hjp, hjh, hjr⟩ := rank_find (ms := ms) (m := m) p (by rw [hlen]; exact h.hp) q
        have hjl : j < l.length := Nat.lt_of_lt_of_le hjp h.hp
        rcases c4 m hm j hjl hjh with r | r
        · omega
        · exact hnot (h.closed j ((h.hd j hjl hjh).2 (.inl hjp)) i r)
      · exact q
    have hJm : ∀ w, St β (L ++ E.map fun x => x.1.res x.2) w → St β (J m) w := by
      intro w hw
      have h1 : St β L w := by
        have hw2 := hw.of_perm (List.perm_append_comm (l₁ := L) (l₂ := E.map fun x => x.1.res x.2))
        exact St.callG (L1 := E.map fun x => x.1.res x.2) (L2 := L) (R := []) (O := fun _ => False) hw2 (fun _ f => f.elim) (St.refl w)
      have := h.hJ w h1
      rw [hJe] at this ⊢
      exact J_mono hc.jn hc.js hstage this
    have hno : ev1 eh d = none := by
      cases q : ev1 eh d with
      | none => rfl
      | some v =>
        exfalso
        obtain ⟨k, hkp, hkh, hkd⟩ := h.eh3 d (by rw [q]; simp)
        have hkl : k < l.length := Nat.lt_of_lt_of_le hkp h.hp
        have hnl : isLight ms k = false := by
          rcases light_or_heavy hlen hkl with ⟨_, b,_⟩ | ⟨a,_,_⟩
          · rw [b] at hkh; cases hkh
          · exact a
        obtain ⟨_,_,_,_, g5,_⟩ := hc.ops k l[k] (by simp [hkl])
        have hkd' : l[k].dst = some d := by
          simp only [dstIs, List.getElem?_eq_getElem hkl] at hkd
          cases r : l[k].dst with
          | none => simp [r] at hkd
          | some d' => simp only [r] at hkd; rw [Nat.eq_of_beq_eq_true hkd]
        exact hnot (h.closed k ((h.hd k hkl hkh).2 (.inl hkp)) i ((g5 d hkd').1 i hil (by rw [dstI d hd]; exact Nat.beq_refl _) (by simp [ahead, hli, hnl])))
    have fin : ∀ w', St β (L ++ E.map fun x => x.1.res x.2) w' → Hz P β N ds J Q FT l ms V env (listed.setIfInBounds i true) p eh L E (a.put (some d) (V i)) w' := by
      intro w' hs
      refine ⟨by simp [h.lsz], by simp [Act.put, h.size], h.dfr, hs, h.hJ, h.hp, h.hy, h.eE, h.en, ?_, closed', ?_, ?_, h.eh2, h.eh3, ?_, ?_⟩
      · intro k hk hkh
        rw [get_set_true hiz, ← h.hd k hk hkh]
        have : k ≠ i := fun e => by subst e; rw [hhv] at hkh; cases hkh
        simp [this]
      · intro x hx
        have e : x.1.d ≠ d := hnd x.1 (h.eE x hx).1
        simp only [Act.put]
        rw [Array.getElem?_setIfInBounds_ne (Ne.symm e)]
        exact h.sl x hx
      · intro t v hv
        have e : t ≠ d := fun e => by subst e; rw [hno] at hv; cases hv
        simp only [Act.put]
        rw [Array.getElem?_setIfInBounds_ne (Ne.symm e)]
        exact h.eh1 t v hv
      · intro t k hn hns hk hkl hkd hdn hmax
        by_cases e : t = d
        · subst e
          have hki : k = i := by
            have g := hmax i hil hli (by rw [dstI t hd]; exact Nat.beq_refl _) ((get_set_true hiz).2 (.inl rfl))
            rcases Nat.lt_or_ge i k with q | q
            · exfalso
              have hl' : listed[k]? = some true := by
                rcases (get_set_true hiz).1 hdn with e | e
                · omega
                · exact e
              obtain ⟨_,_,_,_, g5,_⟩ := hc.ops k l[k] (by simp [hk])
              have hkd' : l[k].dst = some t := by
                simp only [dstIs, List.getElem?_eq_getElem hk] at hkd
                cases r : l[k].dst with
                | none => simp [r] at hkd
                | some d' => simp only [r] at hkd; rw [Nat.eq_of_beq_eq_true hkd]
              exact hnot (h.closed k hl' i ((g5 t hkd').1 i hil (by rw [dstI t hd]; exact Nat.beq_refl _) (by simp only [ahead, hli, hkl, if_true]; exact Nat.ble_eq_true_of_le q)))
            · omega
          subst hki
          simp [Act.put, h.size, hdN]
        · have hki : k ≠ i := fun q => by subst q; rw [dstI d hd, beqne' e] at hkd; cases hkd
          simp only [Act.put]
          rw [Array.getElem?_setIfInBounds_ne (Ne.symm e)]
          refine h.top t k hn hns hk hkl hkd ?_ fun k' a b c d => hmax k' a b c ((get_set_true hiz).2 (.inr d))
          rcases (get_set_true hiz).1 hdn with q | q
          · exact absurd q hki
          · exact q
      · intro t hn hns hnone v hv
        have e : t ≠ d := fun q => by subst q; exact hnone i hil hli (by rw [dstI t hd]; exact Nat.beq_refl _) ((get_set_true hiz).2 (.inl rfl))
        simp only [Act.put]
        rw [Array.getElem?_setIfInBounds_ne (Ne.symm e)]
        exact h.base t hn hns (fun k a b c d => hnone k a b c ((get_set_true hiz).2 (.inr d))) v hv
    have rd : ∀ t, t ∈ readsOf l.toArray o → ∀ u, ev1 (envK l ms V env i) t = some u → a.tmps[t]? = some u := by
      intro t ht u hu
      have hns : ∀ s, s ∈ FT → s.d ≠ t := (c6 t ht).2.1 (.inl hli)
      have hno : ev1 eh t = none := by
        cases q : ev1 eh t with
        | none => rfl
        | some v =>
          exfalso
          obtain ⟨k, hkp, hkh, hkd⟩ := h.eh3 t (by rw [q]; simp)
          have hkl : k < l.length := Nat.lt_of_lt_of_le hkp h.hp
          have hnl : isLight ms k = false := by
            rcases light_or_heavy hlen hkl with ⟨_, b,_⟩ | ⟨a,_,_⟩
            · rw [b] at hkh; cases hkh
            · exact a
          exact behind t ht k hkl hkd (by simp [ahead, hli, hnl]) ((h.hd k hkl hkh).2 (.inl hkp))
      have late : ∀ k', k' < l.length → isLight ms k' = true → dstIs l k' t = true → listed[k']? = some true → k' < i := by
        intro k' hk' hl' hd' hdn
        rcases Nat.lt_trichotomy k' i with q | q | q
        · exact q
        · subst q; exact absurd hdn hnot
        · exact absurd hdn (behind t ht k' hk' hd' (by simp only [ahead, hli, hl', if_true]; exact Nat.ble_eq_true_of_le q))
      rcases ev1_envK l ms V env t u i hu with ⟨k, h1, h2, h3, h4, h5⟩ | ⟨h1, h2⟩
      · rw [← h4]
        refine h.top t k hno hns (by omega) h2 h3 (before t ht k (by omega) h3 (by simp only [ahead, hli, h2, if_true]; exact Nat.ble_eq_true_of_le h1)) fun k' a b c d => ?_
        rcases Nat.lt_or_ge k k' with q | q
        · have := h5 k' q (late k' a b c d) b
          rw [c] at this; cases this
        · exact q
      · refine h.base t hno hns (fun k a b c d => ?_) u h2
        have := h1 k (late k a b c d) b
        rw [c] at this; cases this
    have opr : ∀ x, x ∈ o.op.operands → ∀ u, ev (envK l ms V env i) x = some u → a.eval x = u := by
      intro x hx u hu
      cases x with
      | tmp t =>
        have := rd t (List.mem_append_left _ (List.mem_filterMap.2 ⟨.tmp t, by simpa using hx, rfl⟩)) u hu
        simp [Act.eval, this]
      | const c => simpa [ev, Act.eval] using hu
      | global g => simpa [ev, Act.eval] using hu
      | func f => simpa [ev, Act.eval] using hu
    have hok' := hok _ hJm
    generalize hVi : V i = vi at hok' fin
    rcases hok' with ⟨hg, hlo⟩ | ⟨j, want, t, u, c, v', hg, hj, ht, hgd, hlo, rfl⟩
    · rw [if_pos (by simp [Region.wanted, hg])]
      exact (hlo a w opr h.st).wp (ro := ro) (Q := Q') (K := K) fun w' hs => by rw [hd]; exact hK _ _ _ _ _ _ (fin w' hs)
    · have ht' : a.tmps[t]? = some u := rd t (List.mem_append_right _ (by rw [hg]; show t ∈ ((l.toArray[j]?).bind (·.dst)).toList; rw [hj]; simp)) u ht
      have hy : yielded l.toArray a.tmps j = vb u := by
        unfold yielded; rw [hj]; simp only [Option.bind_some, ht']; cases u <;> rfl
      simp only [Region.wanted, hg, hy]
      cases c with
      | true =>
        have hu := hgd.1 rfl
        subst hu
        simp only [vb, beq_self_eq_true, if_true]
        exact (hlo rfl a w opr h.st).wp (ro := ro) (Q := Q') (K := K) fun w' hs => by
          rw [hd]
          have := fin w' hs
          rw [show gv true v' = v' from rfl] at this
          exact hK _ _ _ _ _ _ this
      | false =>
        have hu := hgd.2 rfl
        have hne := vb_ne hu
        simp only [hne, Bool.false_eq_true, if_false]
        have := fin w h.st
        rw [show gv false v' = undef from rfl] at this
        rw [hd]
        exact ⟨fun _ _ => True.intro, hK _ _ _ _ _ _ this⟩
  · have hpi : p ≤ i := by
      rcases Nat.lt_or_ge i p with q | q
      · exact absurd ((h.hd i hil hhv).2 (.inl q)) hnot
      · exact q
    -- what the heavy ones read
    have rd : ∀ t, t ∈ readsOf l.toArray o → ∀ u, ev1 (eh ++ envK l ms V env l.length) t = some u → (ev1 eh t = none → ∀ s, s ∈ FT → s.d ≠ t) → a.tmps[t]? = some u := by
      intro t ht u hu hns
      rw [ev1_append] at hu
      cases q : ev1 eh t with
      | some v => rw [q] at hu; simp only [Option.some.injEq] at hu; subst hu; exact h.eh1 t v q
      | none =>
        rw [q] at hu
        simp only at hu
        rcases ev1_envK l ms V env t u l.length hu with ⟨k, h1, h2, h3, h4, h5⟩ | ⟨h1, h2⟩
        · rw [← h4]
          refine h.top t k q (hns q) h1 h2 h3 (before t ht k h1 h3 (by simp [ahead, hli, h2])) fun k' a b c d => ?_
          rcases Nat.lt_or_ge k k' with r | r
          · have := h5 k' r a b
            rw [c] at this; cases this
          · exact r
        · refine h.base t q (hns q) (fun k a b c d => ?_) u h2
          have := h1 k a b
          rw [c] at this; cases this
    cases hf : isF FT i with
    | some s =>
      -- a new block
      obtain ⟨hsF, hsi⟩ := isF_some hf
      obtain ⟨hdN, o2, ho2, hfo⟩ := hF s hsF
      rw [hsi, ho] at ho2
      cases ho2
      obtain ⟨hdst, hg, hrun⟩ := hfo
      rw [if_pos (by simp [Region.wanted, hg])]
      have opr : ∀ x, x ∈ o.op.operands → ∀ u, ev (envK l ms V env l.length) x = some u → a.eval x = u := by
        intro x hx u hu
        cases x with
        | tmp t =>
          have ht : t ∈ readsOf l.toArray o := List.mem_append_left _ (List.mem_filterMap.2 ⟨.tmp t, by simpa using hx, rfl⟩)
          have hno : ev1 eh t = none := by
            cases q : ev1 eh t with
            | none => rfl
            | some v =>
              obtain ⟨k, hkp, hkh, hkd⟩ := h.eh3 t (by rw [q]; simp)
              have := (c6 t ht).2.2.1 (by rw [hf]; simp) k (Nat.lt_of_lt_of_le hkp h.hp) hkh
              rw [hkd] at this; cases this
          have := rd t ht u (by rw [ev1_append, hno]; exact hu) (fun _ => (c6 t ht).2.1 (.inr (by rw [hf]; simp)))
          simp [Act.eval, this]
        | const c => simpa [ev, Act.eval] using hu
        | global g => simpa [ev, Act.eval] using hu
        | func f => simpa [ev, Act.eval] using hu
      have hrun' := hrun a w opr
      have hho : HO P β (envK l ms V env l.length) (L ++ E.map fun x => x.1.res x.2) o fun v L' => ∃ b, v = s.val b ∧ L' = s.res b :: (L ++ E.map fun x => x.1.res x.2) := by
        intro a w hx hw
        exact .inl ⟨_,_,_,_, hrun a w hx, .inl rfl, ⟨w.heap.size, rfl, rfl⟩, hw.alloc _⟩
      refine hho.wp (ro := ro) (Q := Q') opr h.st fun v L' w' hk hst => ?_
      obtain ⟨b, rfl, rfl⟩ := hk
      have hfresh : ∀ x, x ∈ E → x.1.i ≠ i := fun x hx e => hnot (by rw [← e]; exact hEl x hx)
      have hold : ∀ t, ev1 eh t ≠ none → t ≠ s.d := fun t hne e => by
        obtain ⟨k, hkp, hkh, hkd⟩ := h.eh3 t hne
        have hkl : k < l.length := Nat.lt_of_lt_of_le hkp h.hp
        have hki : k ≠ i := by omega
        have hkd' : l[k].dst = some t := by
          simp only [dstIs, List.getElem?_eq_getElem hkl] at hkd
          cases r : l[k].dst with
          | none => simp [r] at hkd
          | some d' => simp only [r] at hkd; rw [Nat.eq_of_beq_eq_true hkd]
        cases q : isF FT k with
        | none => exact ((hc.ops k l[k] (by simp [hkl])).2.2.2.2.1 t hkd').2 q s hsF e.symm
        | some s2 =>
          obtain ⟨g1, g2⟩ := isF_some q
          have hd2 := (hc.fi s2 g1).2.2
          rw [g2] at hd2
          simp only [dstIs, List.getElem?_eq_getElem hkl, hkd'] at hd2
          have e2 : t = s2.d := Nat.eq_of_beq_eq_true hd2
          have := inj_of_nodup hc.nd g1 hsF (by show s2.d = s.d; rw [← e2, e])
          rw [this] at g2; omega
      refine hK p eh L ((s, b) :: E) _ w' ⟨by simp [h.lsz], by rw [hdst]; simp [Act.put, h.size], by rw [hdst]; exact h.dfr, ?_, h.hJ, h.hp, h.hy, ?_, ?_, ?_, closed', ?_, ?_, h.eh2, h.eh3, ?_, ?_⟩
      · exact hst.of_perm (by simpa using (List.perm_middle (a := s.res b) (l₁ := L) (l₂ := E.map fun x => x.1.res x.2)).symm)
      · intro x hx
        rcases List.mem_cons.1 hx with rfl | hx
        · exact ⟨hsF, by show p ≤ s.i; omega⟩
        · exact h.eE x hx
      · rw [List.map_cons, List.nodup_cons]
        refine ⟨fun hm => ?_, h.en⟩
        obtain ⟨x, hx, e⟩ := List.mem_map.1 hm
        exact hfresh x hx (by rw [e]; exact hsi)
      · intro k hk hkh
        rw [get_set_true hiz, h.hd k hk hkh]
        constructor
        · rintro (rfl | q | ⟨x, hx, e⟩)
          · exact .inr ⟨(s, b), by simp, hsi⟩
          · exact .inl q
          · exact .inr ⟨x, by simp [hx], e⟩
        · rintro (q | ⟨x, hx, e⟩)
          · exact .inr (.inl q)
          · rcases List.mem_cons.1 hx with rfl | hx
            · left; rw [← e]; exact hsi
            · exact .inr (.inr ⟨x, hx, e⟩)
      · intro x hx
        rw [hdst]
        rcases List.mem_cons.1 hx with rfl | hx
        · simp [Act.put, h.size, hdN]
        · have hne : x.1.d ≠ s.d := fun e => by
            have := inj_of_nodup hc.nd (h.eE x hx).1 hsF e
            exact hfresh x hx (by rw [this]; exact hsi)
          simp only [Act.put]
          rw [Array.getElem?_setIfInBounds_ne (Ne.symm hne)]
          exact h.sl x hx
      · intro t v hv
        rw [hdst]
        have e : t ≠ s.d := hold t (by rw [hv]; simp)
        simp only [Act.put]
        rw [Array.getElem?_setIfInBounds_ne (Ne.symm e)]
        exact h.eh1 t v hv
      · intro t k hn hns hk hkl hkd hdn hmax
        have hki : k ≠ i := fun e => by subst e; rw [hli] at hkl; cases hkl
        rw [hdst]
        simp only [Act.put]
        rw [Array.getElem?_setIfInBounds_ne (hns s hsF)]
        refine h.top t k hn hns hk hkl hkd ?_ fun k' a b c d => hmax k' a b c ((get_set_true hiz).2 (.inr d))
        rcases (get_set_true hiz).1 hdn with q | q
        · exact absurd q hki
        · exact q
      · intro t hn hns hnone v hv
        rw [hdst]
        simp only [Act.put]
        rw [Array.getElem?_setIfInBounds_ne (hns s hsF)]
        exact h.base t hn hns (fun k a b c d => hnone k a b c ((get_set_true hiz).2 (.inr d))) v hv
    | none =>
      -- the next of the chain
      have hall : ∀ k, k < i → isHeavy ms k = true → listed[k]? = some true := fun k hk hh => hcl k (c3 hhv hf k hk hh)
      have hlights : ∀ k, p ≤ k → k < i → isLight ms k = true := by
        -- the first heavy one behind p would be laid
        refine Classical.byContradiction fun hcon => ?_
        simp only [Classical.not_forall] at hcon
        obtain ⟨k, hk1, hk2, hk3⟩ := hcon
        have hmin : ∃ j, (p ≤ j ∧ j < i ∧ isLight ms j = false) ∧ ∀ j', p ≤ j' → j' < j → isLight ms j' = true := by
          have : ∀ n j, j = n → p ≤ j → j < i → isLight ms j = false → ∃ j, (p ≤ j ∧ j < i ∧ isLight ms j = false) ∧ ∀ j', p ≤ j' → j' < j → isLight ms j' = true := by
            intro n
            induction n using Nat.strongRecOn with
            | _ n ih =>
              rintro j rfl h1 h2 h3
              by_cases q : ∀ j', p ≤ j' → j' < j → isLight ms j' = true
              · exact ⟨j, ⟨h1, h2, h3⟩, q⟩
              · simp only [Classical.not_forall] at q
                obtain ⟨j', q1, q2, q3⟩ := q
                exact ih j' q2 j' rfl q1 (by omega) (by simpa using q3)
          exact this k k rfl hk1 hk2 (by simpa using hk3)
        obtain ⟨j, ⟨j1, j2, j3⟩, j4⟩ := hmin
        have hjl : j < l.length := by omega
        have hjh : isHeavy ms j = true := by
          rcases light_or_heavy hlen hjl with ⟨a,_,_⟩ | ⟨_, b,_⟩
          · rw [a] at j3; cases j3
          · exact b
        exact hn j j1 hjl hjh j4 (hall j j2 hjh)
      have hy := HY.drop (i - p) h.hy (by omega) (fun k a b => hlights k a (by omega))
      rw [show p + (i - p) = i by omega] at hy
      have hml : i < ms.length := by omega
      have e1 : l[i] = o := by simpa [List.getElem?_eq_getElem hil] using ho
      have e2 : ms[i] = none := by simpa [List.getElem?_eq_getElem hml] using hm
      rw [List.drop_eq_getElem_cons hil, List.drop_eq_getElem_cons hml, e1, e2] at hy
      have hrk : rank ms i = rank ms p := rank_lights hpi (by omega) hlights
      have hrk1 : rank ms (i + 1) = rank ms p + 1 := by rw [rank_succ hml, e2, hrk]; simp
      rcases hy with ⟨s, hs,_⟩ | ⟨_, hg, hdN, hho⟩
      · rw [hf] at hs; cases hs
      have hnsE : ∀ t, t ∈ readsOf l.toArray o → ev1 eh t = none → ∀ s, s ∈ FT → s.d ≠ t := fun t ht hno s hs e => by
        have h1 := (c6 t ht).2.2.2 s hs e
        obtain ⟨g1, g2, g3⟩ := hc.fi s hs
        rw [e] at g3
        have h2 : s.i < p := by
          rcases Nat.lt_or_ge s.i p with q | q
          · exact q
          · have := hlights s.i q h1
            rcases light_or_heavy hlen g1 with ⟨_, b,_⟩ | ⟨b,_,_⟩
            · rw [b] at g2; cases g2
            · rw [b] at this; cases this
        have := h.eh2 t hno s.i h2 g2
        rw [g3] at this; cases this
      have opr : ∀ x, x ∈ o.op.operands → ∀ u, ev (eh ++ envK l ms V env l.length) x = some u → a.eval x = u := by
        intro x hx u hu
        cases x with
        | tmp t =>
          have ht : t ∈ readsOf l.toArray o := List.mem_append_left _ (List.mem_filterMap.2 ⟨.tmp t, by simpa using hx, rfl⟩)
          have := rd t ht u hu (hnsE t ht)
          simp [Act.eval, this]
        | const c => simpa [ev, Act.eval] using hu
        | global g => simpa [ev, Act.eval] using hu
        | func f => simpa [ev, Act.eval] using hu
      rw [if_pos (by simp [Region.wanted, hg])]
      refine ((hho (E.map fun x => x.1.res x.2)).wp (ro := ro) (Q := Q') opr h.st fun v L'' w' hk hs => ?_)
      obtain ⟨L', rfl, hk1, hk2⟩ := hk
      have envE : putE o v (eh ++ envK l ms V env l.length) = putE o v eh ++ envK l ms V env l.length := by
        unfold putE; cases o.dst <;> rfl
      have hnd : ∀ d, o.dst = some d → ∀ s, s ∈ FT → s.d ≠ d := fun d hd => (c5 d hd).2 hf
      have hgt : ∀ x, x ∈ E → i + 1 ≤ x.1.i := fun x hx => by
        have h1 := (h.eE x hx).2
        have hne : x.1.i ≠ i := fun e => hnot (by rw [← e]; exact hEl x hx)
        rcases Nat.lt_or_ge x.1.i i with q | q
        · have := hlights x.1.i h1 q
          obtain ⟨g1, g2,_⟩ := hc.fi x.1 (h.eE x hx).1
          rcases light_or_heavy hlen g1 with ⟨_, b,_⟩ | ⟨b,_,_⟩
          · rw [b] at g2; cases g2
          · rw [b] at this; cases this
        · omega
      refine hK (i + 1) (putE o v eh) L' E _ w' ⟨by simp [h.lsz], ?_, (by cases o.dst <;> exact h.dfr), hs, ?_, by omega, ?_, fun x hx => ⟨(h.eE x hx).1, hgt x hx⟩, h.en, ?_, closed', ?_, ?_, ?_, ?_, ?_, ?_⟩
      · cases q : o.dst with
        | none => exact h.size
        | some d => simp [Act.put, h.size]
      · rw [hrk1, ← hrk]; exact hrk ▸ hk1
      · rw [hrk1, ← envE]; exact hk2
      · intro k hk hkh
        rw [get_set_true hiz, h.hd k hk hkh]
        constructor
        · rintro (rfl | q | q)
          · exact .inl (by omega)
          · exact .inl (by omega)
          · exact .inr q
        · rintro (q | q)
          · by_cases r : k = i
            · exact .inl r
            · right; left
              rcases Nat.lt_or_ge k p with s | s
              · exact s
              · have := hlights k s (by omega)
                rcases light_or_heavy hlen hk with ⟨_, b,_⟩ | ⟨b,_,_⟩
                · rw [b] at hkh; cases hkh
                · rw [b] at this; cases this
          · exact .inr (.inr q)
      · intro x hx
        cases q : o.dst with
        | none => exact h.sl x hx
        | some d =>
          have e : x.1.d ≠ d := hnd d q x.1 (h.eE x hx).1
          simp only [Act.put]
          rw [Array.getElem?_setIfInBounds_ne (Ne.symm e)]
          exact h.sl x hx
      · intro t u hu
        unfold putE at hu
        cases q : o.dst with
        | none => simp only [q] at hu; exact h.eh1 t u hu
        | some d =>
          simp only [q] at hu
          by_cases e : t = d
          · subst e
            rw [ev1_cons_eq] at hu
            cases hu
            simp [Act.put, h.size, hdN t q]
          · rw [ev1_cons_ne e] at hu
            simp only [Act.put]
            rw [Array.getElem?_setIfInBounds_ne (Ne.symm e)]
            exact h.eh1 t u hu
      · intro t hn k hk hkh
        unfold putE at hn
        have hn' : ev1 eh t = none := by
          cases q : o.dst with
          | none => simpa only [q] using hn
          | some d =>
            simp only [q] at hn
            by_cases e : t = d
            · subst e; rw [ev1_cons_eq] at hn; cases hn
            · rwa [ev1_cons_ne e] at hn
        by_cases r : k = i
        · subst r
          cases q : o.dst with
          | none => simp [dstIs, ho, q]
          | some d =>
            rw [dstI d q]
            refine beqne' fun e => ?_
            subst e
            simp only [q] at hn
            rw [ev1_cons_eq] at hn
            cases hn
        · refine h.eh2 t hn' k ?_ hkh
          rcases Nat.lt_or_ge k p with s | s
          · exact s
          · exfalso
            have := hlights k s (by omega)
            rcases light_or_heavy hlen (k := k) (by omega) with ⟨_, b,_⟩ | ⟨b,_,_⟩
            · rw [b] at hkh; cases hkh
            · rw [b] at this; cases this
      · intro t hn
        unfold putE at hn
        cases q : o.dst with
        | none =>
          simp only [q] at hn
          obtain ⟨k, a, b, c⟩ := h.eh3 t hn
          exact ⟨k, by omega, b, c⟩
        | some d =>
          simp only [q] at hn
          by_cases e : t = d
          · subst e
            exact ⟨i, by omega, hhv, by rw [dstI t q]; exact Nat.beq_refl _⟩
          · rw [ev1_cons_ne e] at hn
            obtain ⟨k, a, b, c⟩ := h.eh3 t hn
            exact ⟨k, by omega, b, c⟩
      · intro t k hn hns hk hkl hkd hdn hmax
        have hki : k ≠ i := fun e => by subst e; rw [hli] at hkl; cases hkl
        unfold putE at hn
        have hn' : ev1 eh t = none ∧ ∀ d, o.dst = some d → t ≠ d := by
          cases q : o.dst with
          | none => exact ⟨by simpa only [q] using hn, by simp⟩
          | some d =>
            simp only [q] at hn
            by_cases e : t = d
            · subst e; rw [ev1_cons_eq] at hn; cases hn
            · exact ⟨by rwa [ev1_cons_ne e] at hn, fun d' hd' => by cases hd'; exact e⟩
        have hdn' : listed[k]? = some true := by
          rcases (get_set_true hiz).1 hdn with q | q
          · exact absurd q hki
          · exact q
        have := h.top t k hn'.1 hns hk hkl hkd hdn' fun k' a b c d => hmax k' a b c ((get_set_true hiz).2 (.inr d))
        cases q : o.dst with
        | none => exact this
        | some d =>
          simp only [Act.put]
          rw [Array.getElem?_setIfInBounds_ne (Ne.symm (hn'.2 d q))]
          exact this
      · intro t hn hns hnone u hu
        unfold putE at hn
        have hn' : ev1 eh t = none ∧ ∀ d, o.dst = some d → t ≠ d := by
          cases q : o.dst with
          | none => exact ⟨by simpa only [q] using hn, by simp⟩
          | some d =>
            simp only [q] at hn
            by_cases e : t = d
            · subst e; rw [ev1_cons_eq] at hn; cases hn
            · exact ⟨by rwa [ev1_cons_ne e] at hn, fun d' hd' => by cases hd'; exact e⟩
        have := h.base t hn'.1 hns (fun k a b c d => hnone k a b c ((get_set_true hiz).2 (.inr d))) u hu
        cases q : o.dst with
        | none => exact this
        | some d =>
          simp only [Act.put]
          rw [Array.getElem?_setIfInBounds_ne (Ne.symm (hn'.2 d q))]
          exact this

theorem Hz.end_ {l : List Oper} {ms : List (Option Nat)} {js : List (List Nat)} {V : Nat → Value} {listed : Array Bool} {p : Nat} {eh : Env} {E : List (FS × Nat)} {a : Act} {w : World} (hc : ChkB l ms js FT)
    (h : Hz P β N ds J Q FT l ms V env listed p eh L E a w) (hn : Nrm l ms listed p) (hall : ∀ k, k < l.length → listed[k]? = some true) : Q .normal a w := by
  have hlen := hc.len
  have hl : ∀ k, p ≤ k → k < l.length → isLight ms k = true := by
    have : ∀ n k, k = n → p ≤ k → k < l.length → isLight ms k = true := by
      intro n
      induction n using Nat.strongRecOn with
      | _ n ih =>
        rintro k rfl h1 h2
        rcases light_or_heavy hlen h2 with ⟨a,_,_⟩ | ⟨_, b,_⟩
        · exact a
        · exact absurd (hall k h2) (hn k h1 h2 b fun j j1 j2 => ih j j2 j rfl j1 (by omega))
    exact fun k => this k k rfl
  have hE : E = [] := by
    cases E with
    | nil => rfl
    | cons x E =>
      exfalso
      obtain ⟨h1, h2⟩ := h.eE x (by simp)
      obtain ⟨g1, g2,_⟩ := hc.fi x.1 h1
      have := hl x.1.i h2 g1
      rcases light_or_heavy hlen g1 with ⟨_, b,_⟩ | ⟨b,_,_⟩
      · rw [b] at g2; cases g2
      · rw [b] at this; cases this
  subst hE
  have hx := HY.drop (l.length - p) h.hy (by have := h.hp; omega) (fun k a b => hl k a (by have := h.hp; omega))
  rw [show p + (l.length - p) = l.length by have := h.hp; omega] at hx
  rw [List.drop_length] at hx
  have hst := h.st
  rw [List.map_nil, List.append_nil] at hst
  refine hx a w ⟨h.size, h.dfr, fun t u hu => ?_⟩ hst
  rw [ev1_append] at hu
  cases q : ev1 eh t with
  | some v => rw [q] at hu; simp only [Option.some.injEq] at hu; subst hu; exact h.eh1 t v q
  | none =>
    rw [q] at hu
    simp only at hu
    have hns : ∀ s, s ∈ FT → s.d ≠ t := fun s hs e => by
      obtain ⟨g1, g2, g3⟩ := hc.fi s hs
      rw [e] at g3
      have h2 : s.i < p := by
        rcases Nat.lt_or_ge s.i p with r | r
        · exact r
        · have := hl s.i r g1
          rcases light_or_heavy hlen g1 with ⟨_, b,_⟩ | ⟨b,_,_⟩
          · rw [b] at g2; cases g2
          · rw [b] at this; cases this
      have := h.eh2 t q s.i h2 g2
      rw [g3] at this; cases this
    rcases ev1_envK l ms V env t u l.length hu with ⟨k, h1, h2, h3, h4, h5⟩ | ⟨h1, h2⟩
    · rw [← h4]
      refine h.top t k q hns h1 h2 h3 (hall k h1) fun k' a b c d => ?_
      rcases Nat.lt_or_ge k k' with r | r
      · have := h5 k' r a b
        rw [c] at this; cases this
      · exact r
    · refine h.base t q hns (fun k a b c d => ?_) u h2
      have := h1 k a b
      rw [c] at this; cases this

/-- What is asked of the new blocks. -/
def FOk (P : Program) (N : Nat) (l : List Oper) (env : Env) : List FS → Prop
  | [] => True
  | s :: FT => (Nat.blt s.d N = true ∧ ∃ o, l[s.i]? = some o ∧ FO P env o s) ∧ FOk P N l env FT
theorem FOk.mem {l : List Oper} : ∀ {FT : List FS}, FOk P N l env FT → ∀ s, s ∈ FT → s.d < N ∧ ∃ o, l[s.i]? = some o ∧ FO P env o s
  | [],_, s, hs => by cases hs
  | x :: FT, h, s, hs => by
    rcases List.mem_cons.1 hs with rfl | hs
    · exact ⟨Nat.le_of_ble_eq_true h.1.1, h.1.2⟩
    · exact h.2.mem s hs

set_option maxHeartbeats 1000000 in
theorem VC.drawB (FT : List FS) (js : List (List Nat)) (ms : List (Option Nat)) {env' : Env} {id : Nat} {l : List Oper} (hm : P.follows .mixedOrders = true) (hc : chkB l ms js (FT.map fun s => (s.i, s.d)) = true) (h0 : js.getD 0 [] = List.range L.length)
    (h : LX P β N l.toArray (fun m => sel L (js.getD m [])) l ms env env') (hF : FOk P N l env' FT) (k : HY P β N ds (fun m => sel L (js.getD m [])) Q FT 0 0 l ms env' L) :
    VC P ro β N ds env L (.region id l.toArray true) Q := by
  intro a w ha hw
  obtain ⟨V, hV1, hV2⟩ := h.vals
  have hC := ChkB.of hc
  subst hV1
  refine wpIn_region_any hm ?_
  have key : ∀ fuel listed p eh L' E a w, Hz P β N ds (fun m => sel L (js.getD m [])) Q FT l ms V env listed p eh L' E a w → (∀ k, k < l.length → listed[k]? ≠ some true → 0 < fuel) → ((List.range l.length).filter fun k => !(listed[k]? == some true)).length ≤ fuel → wpAnyIn (Wf ro) 0 P .any l.toArray Q fuel listed a w := by
    intro fuel
    induction fuel with
    | zero =>
      intro listed p eh L' E a w hI0 hz _
      obtain ⟨p', eh', L'', E', hI, hn⟩ := hI0.norm hC _ rfl
      have hall : ∀ k, k < l.length → listed[k]? = some true := fun k hk => Classical.byContradiction fun hn => by have := hz k hk hn; omega
      refine ⟨?_, hI.end_ hC hn hall⟩
      simp only [Region.ready, List.filter_eq_nil_iff, List.mem_range, Bool.and_eq_true, Bool.not_eq_true', not_and]
      intro i hi hf
      have := hall i (by simpa using hi)
      simp [this] at hf
    | succ fuel ih =>
      intro listed p eh L' E a w hI0 hz hcnt
      obtain ⟨p', eh', L'', E', hI, hn⟩ := hI0.norm hC _ rfl
      refine ⟨fun hr => hI.end_ hC hn (ready_all hI.lsz (fun k o ho => (hC.ops k o ho).1) hr), fun i hi => ?_⟩
      refine hI.step hC rfl hV2 hF.mem hn hi fun p' eh' L'' E' a' w' hI' => ih _ _ _ _ _ _ _ hI' ?_ ?_
      · intro k hk hn
        rcases Nat.eq_zero_or_pos fuel with e | e
        · exfalso
          subst e
          simp only [Region.ready, List.mem_filter, List.mem_range, Bool.and_eq_true, Bool.not_eq_true'] at hi
          have hil : i < l.length := by simpa using hi.1
          have hiz : i < listed.size := by rw [hI.lsz]; exact hil
          rw [Ne, get_set_true hiz, not_or] at hn
          have hni : listed[i]? ≠ some true := fun e => by have h2 := hi.2.1; simp [e] at h2
          have m1 : i ∈ (List.range l.length).filter fun k => !(listed[k]? == some true) := by simp [hil, hni]
          have m2 : k ∈ (List.range l.length).filter fun k => !(listed[k]? == some true) := by simp [hk, hn.2]
          match hf : (List.range l.length).filter fun k => !(listed[k]? == some true), hcnt with
          | [],_ => rw [hf] at m1; simp at m1
          | [x],_ => rw [hf] at m1 m2; simp at m1 m2; exact hn.1 (by omega)
          | _ :: _ :: _, hcnt => simp at hcnt
        · exact e
      · simp only [Region.ready, List.mem_filter, List.mem_range, Bool.and_eq_true, Bool.not_eq_true'] at hi
        have hil : i < l.length := by simpa using hi.1
        have hiz : i < listed.size := by rw [hI.lsz]; exact hil
        have hni : listed[i]? ≠ some true := fun e => by have h2 := hi.2.1; simp [e] at h2
        have hlt2 : ((List.range l.length).filter fun k => !((listed.setIfInBounds i true)[k]? == some true)).length < ((List.range l.length).filter fun k => !(listed[k]? == some true)).length := by
          refine filter_lt (i := i) ?_ (by simp [hil]) ?_ ?_
          · intro k hk
            simp only [Bool.not_eq_true', beq_eq_false_iff_ne, ne_eq] at hk ⊢
            exact fun e => hk ((get_set_true hiz).2 (.inr e))
          · simpa using hni
          · simp [hiz]
        omega
  have hnone : ∀ j : Nat, (Array.replicate l.toArray.size false)[j]? ≠ some true := by
    intro j hj
    simp [Array.getElem?_replicate] at hj
  refine key _ _ 0 [] L [] _ _ ⟨by simp, ha.size, ha.dfr, (by rw [List.map_nil, List.append_nil]; exact hw.drew _), ?_, Nat.zero_le _, ?_, by simp, by simp, ?_, ?_, by simp, ?_, ?_, ?_, ?_, ?_⟩ ?_ ?_
  · intro w hw
    have : rank ms 0 = 0 := by simp [rank]
    rw [this]
    simp only [h0]
    refine hw.sel _ ?_
    have := hC.jn 0
    rwa [h0] at this
  · simpa [rank] using k
  · intro i _ _
    exact ⟨fun e => absurd e (hnone i), fun q => by rcases q with q | ⟨x, hx,_⟩; omega; cases hx⟩
  · intro j hj; exact absurd hj (hnone j)
  · intro t v hv; simp [ev1] at hv
  · intro t _ i hi; omega
  · intro t ht; simp [ev1] at ht
  · intro t k _ _ _ _ _ hl; exact absurd hl (hnone k)
  · intro t _ _ _ v hv; exact ha.get t v hv
  · intro k hk _
    simpa using Nat.lt_of_le_of_lt (Nat.zero_le _) hk
  · refine Nat.le_trans (List.length_filter_le _ _) ?_
    simp

/-! ### Operations that lay a new block -/
theorem FO.alloc {env : Env} {T d i : Nat} {z : Value} {C : Array Value} {ty : TypeId} {pos : String} {aft : Array Edge} (hz : ZeroOf P T z) (hC : z.cells = C) : FO P env ⟨some d, .alloc T, ty, pos, aft, none⟩ ⟨i, d, fun b => .pointer (some ⟨b, 0, none⟩), T, C⟩ :=
  ⟨rfl, rfl, fun a w _ => by simp [execOp, Instr.alloc, run_zero hz, newVar, newRow, hC]⟩
end
end Go.SL

namespace Go.SL
set_option linter.unusedVariables false
open Go.RowKit Go.ChangeShapes Go.WideShapes Go.WideElems

section
variable {H : Type} {enc : TypeId × Value → H} {P : Program} {W : World} {base : Nat}

/-- What a reading of cells at a type says of them. -/
def RD (enc : TypeId × Value → H) (P : Program) (W : World) (t : TypeId) (R : List Value → Prop) : Prop :=
  ∀ (n : Nat) (cs : List Value) (x : DataW H × List MemPlace), DataW.trod enc P W 0 (fun _ => true) true n t cs = some x → R cs

def kb (k : IntKind) (n : Int) : Prop := k.min ≤ n ∧ n ≤ k.max
theorem RD.int {t : TypeId} {k : IntKind} (ht : P.underlying t = some (.int k)) : RD enc P W t fun cs => ∃ n, cs = [.int k n] ∧ kb k n := fun n cs x hx => by
  obtain ⟨m, h,_, hw⟩ := DataW.trod_int ht hx
  simp only [Lit.wf, Bool.and_eq_true, decide_eq_true_eq] at hw
  exact ⟨m, h, hw⟩
def splitBy {α : Type} : List Nat → List α → List (List α)
  | [],_ => []
  | z :: zs, l => l.take z :: splitBy zs (l.drop z)
theorem splitBy_flat {α : Type} : ∀ (zs : List Nat) (l : List α), l.length = zs.sum → (splitBy zs l).flatten = l
  | [], l, h => by simp at h; simp [splitBy, h]
  | z :: zs, l, h => by
    simp only [List.sum_cons] at h
    rw [splitBy, List.flatten_cons, splitBy_flat zs (l.drop z) (by simp; omega), List.take_append_drop]
theorem splitBy_len {α : Type} : ∀ (zs : List Nat) (l : List α), l.length = zs.sum → (splitBy zs l).map List.length = zs
  | [], l, h => rfl
  | z :: zs, l, h => by
    simp only [List.sum_cons] at h
    rw [splitBy, List.map_cons, splitBy_len zs (l.drop z) (by simp; omega), List.length_take, Nat.min_eq_left (by omega)]
theorem splitBy_get {α : Type} : ∀ (zs : List Nat) (l : List α) (i z : Nat) (c : List α), zs[i]? = some z → (splitBy zs l)[i]? = some c → c = (l.drop (zs.take i).sum).take z
  | [], l, i, z, c, h, k => by simp at h
  | y :: zs, l, i, z, c, h, k => by
    cases i with
    | zero => simp at h; simp [splitBy] at k; subst h; subst k; simp
    | succ i =>
      have := splitBy_get zs (l.drop y) i z c (by simpa using h) (by simpa [splitBy] using k)
      rw [this, List.drop_drop]
      simp only [List.take_succ_cons, List.sum_cons]

/-- The offsets of fields that lie one behind the other. -/
def offs : Nat → List Nat → List Nat
  | _, [] => []
  | o, z :: zs => o :: offs (o + z) zs
theorem offs_get : ∀ (zs : List Nat) (o i : Nat) (a : Nat), (offs o zs)[i]? = some a → a = o + (zs.take i).sum
  | [], o, i, a, h => by simp [offs] at h
  | z :: zs, o, i, a, h => by
    cases i with
    | zero => simp [offs] at h; simp [h]
    | succ i =>
      have := offs_get zs (o + z) i a (by simpa [offs] using h)
      rw [this, List.take_succ_cons, List.sum_cons]; omega

/-- A struct's parts. -/
theorem trod_parts {t : TypeId} {fs : List Field} {zs : List Nat} {n : Nat} {cs : List Value} {x : DataW H × List MemPlace} (ht : P.underlying t = some (.struct fs.toArray)) (hz : fs.map (fun f => P.cellsOf f.type) = zs) (ho : fs.map (·.offset) = offs 0 zs) (hs : P.cellsOf t = zs.sum)
    (h : DataW.trod enc P W 0 (fun _ => true) true n t cs = some x) :
    ∃ css : List (List Value), cs = css.flatten ∧ css.length = zs.length ∧ css.map List.length = zs ∧ ∀ (i : Nat) (f : Field) (c : List Value), fs[i]? = some f → css[i]? = some c → ∃ m y, DataW.trod enc P W 0 (fun _ => true) true m f.type c = some y := by
  obtain ⟨xs, m,_,_, hl, hlen, hf⟩ := DataW.trod_struct ht h
  refine ⟨splitBy zs cs, (splitBy_flat zs cs (by omega)).symm, by simpa using congrArg List.length (splitBy_len zs cs (by omega)), splitBy_len zs cs (by omega), fun i f c h1 h2 => ?_⟩
  have hi : i < fs.length := (List.getElem?_eq_some_iff.1 h1).1
  have e1 : zs[i]? = some (P.cellsOf f.type) := by rw [← hz, List.getElem?_map, h1]; rfl
  have e2 : f.offset = (zs.take i).sum := by
    have : (offs 0 zs)[i]? = some f.offset := by rw [← ho, List.getElem?_map, h1]; rfl
    have := offs_get zs 0 i _ this
    omega
  have e3 := splitBy_get zs cs i _ c e1 h2
  have e4 := hf i f (by simpa using h1)
  have hx : i < xs.length := by simp at hlen; omega
  rw [List.getElem?_eq_getElem hx, e2, ← e3] at e4
  exact ⟨m,_, e4⟩

/-- An array's parts. -/
theorem trod_cells {t e : TypeId} {k z n : Nat} {cs : List Value} {x : DataW H × List MemPlace} (ht : P.underlying t = some (.array k e)) (hz : P.cellsOf e = z) (hs : P.cellsOf t = k * z)
    (h : DataW.trod enc P W 0 (fun _ => true) true n t cs = some x) {R : List Value → Prop} (hR : RD enc P W e R) :
    ∃ css : List (List Value), cs = css.flatten ∧ css.length = k ∧ ∀ c, c ∈ css → c.length = z ∧ R c := by
  obtain ⟨xs, m,_,_, hl, hlen, hf⟩ := DataW.trod_array ht h
  have hsum : (List.replicate k z).sum = k * z := by simp
  refine ⟨splitBy (List.replicate k z) cs, (splitBy_flat _ cs (by rw [hsum]; omega)).symm, ?_, fun c hc => ?_⟩
  · have := congrArg List.length (splitBy_len (List.replicate k z) cs (by rw [hsum]; omega))
    simpa using this
  · obtain ⟨i, hi, e⟩ := List.getElem_of_mem hc
    have hlen2 := congrArg List.length (splitBy_len (List.replicate k z) cs (by rw [hsum]; omega))
    simp only [List.length_map, List.length_replicate] at hlen2
    have e3 := splitBy_get (List.replicate k z) cs i z c (by rw [List.getElem?_replicate, if_pos (by omega)]) (by rw [List.getElem?_eq_getElem hi, e])
    have e5 : ((List.replicate k z).take i).sum = i * z := by rw [List.take_replicate, List.sum_replicate_nat, Nat.min_eq_left (by omega)]
    rw [e5] at e3
    have e4 := hf i (by omega)
    rw [hz, ← e3, List.getElem?_eq_getElem (by omega)] at e4
    refine ⟨?_, hR _ _ _ e4⟩
    rw [e3, List.length_take, List.length_drop]
    have : (i + 1) * z ≤ k * z := Nat.mul_le_mul_right _ (by omega)
    rw [Nat.add_mul] at this
    omega

theorem cells?_spec {w : World} {a : Addr} {n : Nat} {cs : List Value} (h : w.cells? 0 a n = some cs) : cs.length = n ∧ Cells w a cs := by
  unfold World.cells? at h
  rw [if_pos (Nat.zero_le _)] at h
  have hl : cs.length = n := by simpa using mapM_some_length h
  refine ⟨hl, fun j v hj => ?_⟩
  have hjn : j < n := by rw [← hl]; exact (List.getElem?_eq_some_iff.1 hj).1
  have := mapM_some_get h j j (by simp [hjn])
  rw [this, hj]

/-- A slice's rows. -/
theorem RD.slice {t e z : Nat} {R : List Value → Prop} (ht : P.underlying t = some (.slice e)) (hz : P.cellsOf e = z) (hz0 : 0 < z) (hR : RD enc P W e R) :
    RD enc P W t fun cs => ∃ (p : Option Addr) (cap : Nat) (rows : List (List Value)), cs = [.slice p rows.length cap] ∧ rows.length ≤ 9223372036854775807 ∧ Rows W z p rows ∧ ∀ r, r ∈ rows → r.length = z ∧ R r := fun n cs x hx => by
  rcases DataW.trod_slice ht hx with ⟨rfl,_⟩ | ⟨a, len, cap, elems, rest, m,_, rfl,_, hb, hl, hc, hlen, hel, hspare⟩
  · exact ⟨none, 0, [], rfl, by simp, ⟨by simp, fun _ => rfl, fun q => absurd rfl q⟩, by simp⟩
  · have hrow : ∀ i, i < len → ∃ r, W.cells? 0 (a.add (i * z)) z = some r ∧ ∃ y, DataW.trod enc P W 0 (fun _ => true) true m e r = some y := fun i hi => by
      have h1 := hel i hi
      rw [hz, List.getElem?_eq_getElem (by omega)] at h1
      obtain ⟨r, h2, h3⟩ := Option.bind_eq_some_iff.1 h1
      exact ⟨r, h2,_, h3⟩
    have hch : ∃ rows : List (List Value), rows.length = len ∧ ∀ i r, rows[i]? = some r → W.cells? 0 (a.add (i * z)) z = some r ∧ ∃ y, DataW.trod enc P W 0 (fun _ => true) true m e r = some y := by
      clear hel hlen hl hx hspare
      induction len with
      | zero => exact ⟨[], rfl, by simp⟩
      | succ k ih =>
        obtain ⟨rows, h1, h2⟩ := ih (fun i hi => hrow i (by omega))
        obtain ⟨r, h3, h4⟩ := hrow k (by omega)
        refine ⟨rows ++ [r], by simp [h1], fun i s hs => ?_⟩
        rcases Nat.lt_or_ge i rows.length with q | q
        · rw [List.getElem?_append_left q] at hs; exact h2 i s hs
        · have : i = rows.length := by
            have := (List.getElem?_eq_some_iff.1 hs).1
            simp at this; omega
          subst this
          simp at hs; subst hs
          rw [h1]; exact ⟨h3, h4⟩
    obtain ⟨rows, h1, h2⟩ := hch
    subst h1
    have spot : rows ≠ [] → a.spot = none := fun hne => by
      cases rows with
      | nil => exact absurd rfl hne
      | cons r rs =>
        obtain ⟨h3,_⟩ := h2 0 r rfl
        obtain ⟨h4, h5⟩ := cells?_spec h3
        have h6 := h5 0 _ (List.getElem?_eq_getElem (by omega))
        cases hs : a.spot with
        | none => rfl
        | some s =>
          exfalso
          have : ((a.add (0 * z)).add 0).spot = some s := by simp [Addr.add, hs]
          unfold World.cell? at h6
          rw [this] at h6
          split at h6 <;> simp at h6
    refine ⟨some a, cap, rows, rfl, by unfold maxLen at hc; omega, ⟨fun j r hr => ?_, fun q => (by cases q), fun q b hb => ?_⟩, fun r hr => ?_⟩
    · obtain ⟨h3,_⟩ := h2 j r hr
      have h5 := (cells?_spec h3).2
      have hsp := spot (fun q => by rw [q] at hr; simp at hr)
      have e : (⟨pb (some a), po (some a) + j * z, none⟩ : Addr) = a.add (j * z) := by
        obtain ⟨ab, ao, aspt⟩ := a
        have hsp : aspt = none := hsp
        subst hsp
        show (⟨ab, ao + j * z, none⟩ : Addr) = _
        unfold Addr.add
        split
        · rename_i h0; simp [h0]
        · rfl
      rw [e]; exact h5
    · cases hb
      exact spot q
    · obtain ⟨i, hi, e⟩ := List.getElem_of_mem hr
      obtain ⟨h3, y, h4⟩ := h2 i r (by rw [List.getElem?_eq_getElem hi, e])
      exact ⟨(cells?_spec h3).1, hR _ _ _ h4⟩

/-- Rows of known form. -/
theorem rows_map {α : Type} {f : α → List Value} {Q : α → Prop} : ∀ {rows : List (List Value)}, (∀ r, r ∈ rows → ∃ x, r = f x ∧ Q x) → ∃ l : List α, rows = l.map f ∧ ∀ x, x ∈ l → Q x
  | [],_ => ⟨[], rfl, by simp⟩
  | r :: rs, h => by
    obtain ⟨l, h1, h2⟩ := rows_map (fun s hs => h s (by simp [hs])) (rows := rs)
    obtain ⟨x, h3, h4⟩ := h r (by simp)
    exact ⟨x :: l, by simp [h1, h3], fun y hy => by rcases List.mem_cons.1 hy with rfl | hy; exact h4; exact h2 y hy⟩

theorem arg_agg {t : TypeId} {fs : Array Field} {v : Value} {R : List Value → Prop} (ht : P.underlying t = some (.struct fs)) (hv : Value.okWide P W .any base t v) {d : DataW H} {p : List MemPlace} (hd : DataW.Trod enc P W 0 (fun _ => true) true t v d p) (hR : RD enc P W t R) : ∃ cs, v = .agg cs.toArray ∧ R cs := by
  obtain ⟨n, hn'⟩ := hd
  unfold Value.okWide at hv
  rw [ht] at hv
  obtain ⟨cs, rfl,_⟩ := hv
  exact ⟨cs.toList, by simp, hR _ _ _ hn'⟩
/-! ### The end -/
theorem trodAll_stays (hl : laidOutB P = true) {W' : World} {sp' : Nat → Bool} : ∀ {ts : List TypeId} {vs : List Value} {ds : List (DataW H)} {ps : List MemPlace}, (∀ t, t ∈ ts → P.readableRec t = true ∧ t < P.types.size) →
    DataW.TrodAll enc P W 0 (fun _ => true) true ts vs ds ps → (∀ p, p ∈ ps → W.sameAt W' p) → (∀ p, p ∈ ps → sp' p.block = true) → DataW.TrodAll enc P W' 0 sp' true ts vs ds ps
  | [], vs, ds, ps,_, h,_,_ => by
    obtain ⟨rfl, rfl, rfl⟩ := trodAll_nil h
    exact trodAll_mk0
  | t :: ts, vs, ds, ps, ht, h, h1, h2 => by
    obtain ⟨v, vs1, d, ds1, a, b, rfl, rfl, rfl, h3, h4⟩ := trodAll_cons h
    have := ht t (by simp)
    exact trodAll_cons_mk (Trod_stays hl this.1 this.2 h3 (fun p hp => h1 p (by simp [hp])) (fun p hp => h2 p (by simp [hp]))) (trodAll_stays hl (fun u hu => ht u (by simp [hu])) h4 (fun p hp => h1 p (by simp [hp])) (fun p hp => h2 p (by simp [hp])))

/-- A law's statement behind the call: it is true, and the arguments read as they did. -/
theorem law_post {fn : Func} {s : ChangeSpec} {apart fresh handsOn again : Bool} {W' : World} {args : Array Value} {ds gs : List (DataW H)} {before : List MemPlace} {tb : TypeId} (hl : laidOutB P = true) (hts : ∀ t, t ∈ fn.params.toList → P.readableRec t = true ∧ t < P.types.size)
    (hv : s.vars = []) (hr : fn.resultTypes = #[tb]) (hb : P.underlying tb = some .bool) (hs : ∀ ds : List (DataW H), ds.length = fn.params.toList.length → s.fn H ds = { results := [.lit (.bool true)], args := ds })
    (hW : DataW.Whole enc P fn.params.toList s.vars apart W args.toList ds gs before) (hst : St (bs W) [] W') : s.post enc P fn apart fresh handsOn again W args (.bool true) W' := by
  have hB : Below W.heap.size W W' := hst.below
  have hlt := hW.lt
  have hW0 := hW
  obtain ⟨p, q, hA, hV, rfl, hfz, hnd⟩ := hW
  rw [hv] at hV
  obtain ⟨rfl, rfl⟩ := trodVars_none hV
  rw [hv] at hW0
  have hd : ds.length = fn.params.toList.length := (trodAll_length hA).2
  have e : s.fn H (ds ++ []) = { results := [.lit (.bool true)], args := ds } := by rw [List.append_nil]; exact hs ds hd
  have hargs : ∀ sp : Nat → Bool, (∀ x ∈ p, sp x.block = true) → DataW.TrodAll enc P W' 0 sp true fn.params.toList args.toList (s.fn H (ds ++ [])).args p := fun sp hsp => by
    rw [e]; exact trodAll_stays hl hts hA (fun x hx => hB.same (hlt x (by simpa using hx))) hsp
  have hres : ∀ (b : Nat) (sp : Nat → Bool) (hd : Bool), DataW.TrodAll enc P W' b sp hd fn.resultTypes.toList ((Value.bool true).resultList fn.resultTypes.size) (s.fn H (ds ++ [])).results [] := fun b sp hd => by
    rw [e, hr]; exact trodAll_cons_mk (shut_bool hb _) trodAll_mk0
  have hvars : ∀ sp : Nat → Bool, DataW.TrodVars enc P W' sp s.vars (s.fn H (ds ++ [])).vars [] := fun sp => by rw [e, hv]; rfl
  have hW1 : DataW.Whole enc P fn.params.toList s.vars apart W args.toList ds [] (p ++ []) := by rw [hv]; exact hW0
  refine ⟨ds, [], p ++ [], [], p, [], hW1, hres _ _ _, hargs _ (fun x hx => by simpa using hlt x (by simpa using hx)), hvars _, hB.frame _, fun _ => ?_⟩
  refine ⟨?_,_,_, ([] ++ p) ++ [], ⟨[] ++ p, [], trodAll_append (hargs _ (fun _ _ => rfl)) (hres _ _ _), hvars _, rfl, ?_, ?_⟩, ?_⟩
  · exact ok_one hr rfl (okWide_bool_mk hb _)
  · intro b off hp
    have hp' : MemPlace.cell b off ∈ p := by simpa using hp
    rw [hB.frozen (p := ⟨b, off, none⟩) (hlt (.cell b off) (by simpa using hp'))]
    exact hfz b off (by simpa using hp')
  · intro ha
    simpa using hnd ha
  · intro x hx _
    simpa using hx
end
end Go.SL

namespace Go.SL
set_option linter.unusedVariables false
section
variable {P : Program} {β : Bs} {env : Env} {L : List Res}
variable {ty : TypeId} {pos : String} {aft : Array Edge} {g : Option (Nat × Bool)}
/-- Where the rest of a slice begins. -/
def slFrom (p : Option Addr) (c l z : Nat) : Option Addr := if c = l then p else p.map (·.add (l * z))
theorem LO.sl {d : Option Nat} {x i : Operand} {T E z : Nat} {p : Option Addr} {n c l : Nat} {e : Int} (hT : IsSlice P T E) (hz : (P.info? E).map (·.size) = some z) (hx : OV env x (.slice p n c)) (hi : OV env i (.int .i64 e)) (he : e = (l : Int)) (hl : l ≤ n) :
    LO P β env L ⟨d, .slice T x (some i) none none, ty, pos, aft, g⟩ (.slice (slFrom p c l z) (n - l) (c - l)) :=
  .of_run fun a w h hw => ⟨w, by
    subst he
    have h1 : ((l : Int) ≤ (n : Int)) := by omega
    simp [execOp, h x (by simp [Op.operands]) _ hx, h i (by simp [Op.operands]) _ hi, Instr.sliceAt, run_underlying hT, Instr.slice, Instr.sliceBounds, Instr.sliceBound, asIntOf, hl, run_size hz, slFrom], hw⟩
end
theorem fill_cg {f g : Nat → Option (Nat × Nat)} : ∀ {ps : List (Nat × Value)} {Z : Array Value}, (∀ q, q ∈ ps → f q.1 = g q.1) → Instr.fill f Z ps = Instr.fill g Z ps
  | [], Z,_ => rfl
  | (i, v) :: r, Z, h => by
    have e : f i = g i := h (i, v) (by simp)
    simp only [Instr.fill, e]
    cases g i with
    | none => rfl
    | some q => dsimp only; split
                · rfl
                · exact fill_cg fun q hq => h q (by simp [hq])
/-- The same for an array. -/
def BuildsA (P : Program) (T : Nat) (PL : List (Nat × Nat)) (Z : List Value) : Prop := ∀ ps : List (Nat × Value), (ps.all fun q => Nat.blt q.1 PL.length) = true → P.built T ps = Instr.fill (PL[·]?) Z.toArray ps
theorem BuildsA.mk {P : Program} {T z n : Nat} {PL : List (Nat × Nat)} {Z : List Value} (h : ∀ ps, P.built T ps = Instr.fill (fun i => some (i * z, z)) Z.toArray ps) (hPL : PL = (List.range n).map fun i => (i * z, z)) : BuildsA P T PL Z := fun ps hp => by
  rw [h]
  refine fill_cg fun q hq => ?_
  have h1 := List.all_eq_true.1 hp q hq
  subst hPL
  have h2 : q.1 < n := by simpa [Nat.blt_eq] using h1
  simp [h2]
section
variable {P : Program} {β : Bs} {env : Env} {L : List Res}
variable {ty : TypeId} {pos : String} {aft : Array Edge} {g : Option (Nat × Bool)}
theorem LO.bda {d : Option Nat} {T : Nat} {PL : List (Nat × Nat)} {Z : List Value} {ps : List (Nat × Operand)} {vs : List (Nat × Value)} {C : List Value} (hB : BuildsA P T PL Z) (hv : (vs.all fun q => Nat.blt q.1 PL.length) = true) (hps : OVs env (ps.map (·.2)) (vs.map (·.2))) (hix : ps.map (·.1) = vs.map (·.1)) (hb : FL PL Z vs C) : LO P β env L ⟨d, .build T ps.toArray, ty, pos, aft, g⟩ (.agg C.toArray) :=
  .of_run fun a w h hw => ⟨w, by
    have h2 := OVs.map (a := a) hps (fun x hm u hu => h x (by
      obtain ⟨p, hp, e⟩ := List.mem_map.1 hm
      simp only [Op.operands]
      subst e
      simpa using ⟨p.1, hp⟩) u hu)
    rw [List.map_map] at h2
    have hm : (ps.map fun p => (p.1, a.eval p.2)) = vs := pairs_eq hix h2
    have hb' := run_build (P := P) w T vs.toArray C.toArray (by rw [hB _ hv]; exact hb.fill)
    rw [← hm] at hb'
    simp only [execOp, Sem.run_bind]
    rw [show (ps.toArray.map fun (i, x) => (i, a.eval x)) = (ps.map fun p => (p.1, a.eval p.2)).toArray by simp]
    simp [hb'], hw⟩
end
theorem rows_drop {w : World} {z k c : Nat} {p : Option Addr} {rows : List (List Value)} (h : Rows w z p rows) (hk : k ≤ rows.length) (hc : rows.length ≤ c) : Rows w z (slFrom p c k z) (rows.drop k) := by
  unfold slFrom
  by_cases q : c = k
  · rw [if_pos q, List.drop_of_length_le (by omega)]
    exact ⟨by simp, fun _ => rfl, fun r => absurd rfl r⟩
  · rw [if_neg q]
    cases p with
    | none => rw [h.nil rfl]; exact ⟨by simp, fun _ => by simp, fun r => absurd (by simp) r⟩
    | some a =>
      refine ⟨fun j r hr => ?_, fun r => (by cases r), fun hne b hb => ?_⟩
      · rw [List.getElem?_drop] at hr
        have hs := h.spot (fun e => by rw [e] at hr; simp at hr) a rfl
        have := h.cells (k + j) r hr
        have e1 : pb (Option.map (·.add (k * z)) (some a)) = pb (some a) := by simp only [Option.map, pb]; unfold Addr.add; split <;> rfl
        have e2 : po (Option.map (·.add (k * z)) (some a)) = po (some a) + k * z := by simp only [Option.map, po]; unfold Addr.add; split <;> simp_all
        rw [e1, e2, Nat.add_assoc, ← Nat.add_mul]; exact this
      · have hs := h.spot (fun e => hne (by rw [e]; simp)) a rfl
        simp only [Option.map, Option.some.injEq] at hb
        subst hb; unfold Addr.add; split <;> simp [hs]
theorem RD.cap {H : Type} {enc : TypeId × Value → H} {P : Program} {W : World} {t e n : Nat} {x : DataW H × List MemPlace} (ht : P.underlying t = some (.slice e)) {p : Option Addr} {k c : Nat} (hx : DataW.trod enc P W 0 (fun _ => true) true n t [.slice p k c] = some x) : k ≤ c := by
  rcases DataW.trod_slice ht hx with ⟨h,_⟩ | ⟨a, len, cap, elems, rest, m,_, h,_,_, hl,_⟩
  · cases h; exact Nat.le_refl _
  · cases h; exact hl
end Go.SL

namespace Go.SL
set_option linter.unusedVariables false
set_option linter.unusedSimpArgs false
open Go.RowKit

def readyH (l : List Oper) (ms : List (Option Nat)) (S : List Nat) : List Nat :=
  (idxs l.length).filter fun i => isHeavy ms i && !S.contains i && ((clOf l).getD i []).all fun j => !isHeavy ms j || S.contains j

/-- The operation is wanted: it has no guard, or one whose answer is known. -/
def GdOk (l : List Oper) (env : Env) (o : Oper) : Prop := o.guard = none ∨ ∃ j want t, o.guard = some (j, want) ∧ (l[j]?).bind (·.dst) = some t ∧ ev1 env t = some (.bool want)
def HE (P : Program) (β : Bs) (N : Nat) (ds : List Deferred) (L0 : List Res) (Q : Exit → Act → World → Prop) (l : List Oper) (ms : List (Option Nat)) : Nat → List Nat → Env → List Res → Prop
  | 0,_,_,_ => False
  | n + 1, S, env, L => (readyH l ms S = [] → VE β N ds env L .normal Q) ∧ ∀ i, i ∈ readyH l ms S → ∃ o, l[i]? = some o ∧ GdOk l env o ∧ (∀ d, o.dst = some d → d < N) ∧ HO P β env L o fun v L' => (∀ w, St β L' w → St β L0 w) ∧ HE P β N ds L0 Q l ms n (i :: S) (putE o v env) L'

def chkE (l : List Oper) (ms : List (Option Nat)) : Bool :=
  let cl := clOf l
  let n := l.length
  Nat.beq ms.length n &&
  (idxs n).all fun k =>
    match l[k]? with
    | none => false
    | some o =>
      o.after.toList.all (fun e => !Region.binds .any e || Nat.blt e.on k) &&
      (cl.getD k []).all (fun i => o.after.toList.any fun e => Region.binds .any e && (Nat.beq e.on i || (cl.getD e.on []).contains i)) &&
      (match o.dst with
       | none => !isLight ms k
       | some d => (idxs n).all fun i => !dstIs l i d || !ahead ms i k || (cl.getD k []).contains i) &&
      ((readsOf l.toArray o).all fun t => (idxs n).all fun i => !dstIs l i t || ((!ahead ms i k || (cl.getD k []).contains i) && (!ahead ms k i || (cl.getD i []).contains k)))

structure ChkE (l : List Oper) (ms : List (Option Nat)) : Prop where
  len : ms.length = l.length
  ops : ∀ k o, l[k]? = some o →
      (∀ e, e ∈ o.after.toList → Region.binds .any e = true → e.on < k) ∧
      (∀ i, i ∈ (clOf l).getD k [] → ∃ e, e ∈ o.after.toList ∧ Region.binds .any e = true ∧ (e.on = i ∨ i ∈ (clOf l).getD e.on [])) ∧
      (∀ d, o.dst = some d → ∀ i, i < l.length → dstIs l i d = true → ahead ms i k = true → i ∈ (clOf l).getD k []) ∧
      (∀ t, t ∈ readsOf l.toArray o → ∀ i, i < l.length → dstIs l i t = true → (ahead ms i k = true → i ∈ (clOf l).getD k []) ∧ (ahead ms k i = true → k ∈ (clOf l).getD i []))

theorem ChkE.of {l : List Oper} {ms : List (Option Nat)} (h : chkE l ms = true) : ChkE l ms := by
  unfold chkE at h
  simp only [Bool.and_eq_true] at h
  obtain ⟨h1, h2⟩ := h
  refine ⟨Nat.eq_of_beq_eq_true h1, fun k o ho => ?_⟩
  have hk : k < l.length := (List.getElem?_eq_some_iff.1 ho).1
  have h3 := List.all_eq_true.1 h2 k (by simpa [idxs] using hk)
  rw [ho] at h3
  simp only [Bool.and_eq_true] at h3
  obtain ⟨⟨⟨a, b⟩, c⟩, d⟩ := h3
  refine ⟨fun e he hb => ?_, fun i hi => ?_, fun dd hdd i hi hdi hah => ?_, fun t ht i hi hdi => ?_⟩
  · have := List.all_eq_true.1 a e he
    rw [hb] at this
    simpa [Nat.blt_eq] using this
  · have := List.all_eq_true.1 b i hi
    obtain ⟨e, he, hh⟩ := List.any_eq_true.1 this
    simp only [Bool.and_eq_true, Bool.or_eq_true] at hh
    refine ⟨e, he, hh.1, ?_⟩
    rcases hh.2 with q | q
    · exact .inl (Nat.eq_of_beq_eq_true q)
    · exact .inr (by simpa using q)
  · rw [hdd] at c
    have := List.all_eq_true.1 c i (by simpa [idxs] using hi)
    simp only [hdi, hah, Bool.not_true, Bool.false_or] at this
    simpa using this
  · have h4 := List.all_eq_true.1 d t ht
    have := List.all_eq_true.1 h4 i (by simpa [idxs] using hi)
    simp only [hdi, Bool.not_true, Bool.false_or, Bool.and_eq_true] at this
    refine ⟨fun q => ?_, fun q => ?_⟩
    · have h5 := this.1; rw [q] at h5; simpa using h5
    · have h5 := this.2; rw [q] at h5; simpa using h5

structure Hx (P : Program) (β : Bs) (N : Nat) (ds : List Deferred) (L0 : List Res) (Q : Exit → Act → World → Prop) (l : List Oper) (ms : List (Option Nat)) (V : Nat → Value) (env : Env) (listed : Array Bool) (n : Nat) (S : List Nat) (eh : Env) (L : List Res) (a : Act) (w : World) : Prop where
  lsz : listed.size = l.length
  size : a.tmps.size = N
  dfr : a.defers = ds
  st : St β L w
  hJ : ∀ w, St β L w → St β L0 w
  hy : HE P β N ds L0 Q l ms n S (eh ++ envK l ms V env l.length) L
  hS : ∀ i, i ∈ S → i < l.length ∧ isHeavy ms i = true
  hd : ∀ i, i < l.length → isHeavy ms i = true → (listed[i]? = some true ↔ i ∈ S)
  closed : ∀ j, listed[j]? = some true → ∀ i, i ∈ (clOf l).getD j [] → listed[i]? = some true
  eh1 : ∀ t v, ev1 eh t = some v → a.tmps[t]? = some v
  eh2 : ∀ t, ev1 eh t = none → ∀ i, i ∈ S → dstIs l i t = false
  eh3 : ∀ t, ev1 eh t ≠ none → ∃ i, i ∈ S ∧ dstIs l i t = true
  top : ∀ t k, ev1 eh t = none → k < l.length → isLight ms k = true → dstIs l k t = true → listed[k]? = some true → (∀ k', k' < l.length → isLight ms k' = true → dstIs l k' t = true → listed[k']? = some true → k' ≤ k) → a.tmps[t]? = some (V k)
  base : ∀ t, ev1 eh t = none → (∀ k, k < l.length → isLight ms k = true → dstIs l k t = true → listed[k]? ≠ some true) → ∀ v, ev1 env t = some v → a.tmps[t]? = some v

section
variable {P : Program} {ro : Option Nat} {β : Bs} {ds : List Deferred} {N : Nat} {Q : Exit → Act → World → Prop} {env : Env} {L L0 : List Res}
set_option maxHeartbeats 2000000 in
theorem Hx.step {l : List Oper} {ms : List (Option Nat)} {V : Nat → Value} {listed : Array Bool} {n : Nat} {S : List Nat} {eh : Env} {a : Act} {w : World} {Q' : Exit → Act → World → Prop} (hc : ChkE l ms)
    (hV : ∀ k o m, l[k]? = some o → ms[k]? = some (some m) → ∃ d, o.dst = some d ∧ d < N ∧ ∀ L, (∀ w, St β L w → St β L0 w) → OpOk P β l.toArray L o (envK l ms V env k) (V k))
    (h : Hx P β N ds L0 Q l ms V env listed n S eh L a w) {i : Nat} (hi : i ∈ Region.ready .any l.toArray listed) {K : Act → World → Prop}
    (hK : ∀ n' S' eh' L' a' w', Hx P β N ds L0 Q l ms V env (listed.setIfInBounds i true) n' S' eh' L' a' w' → K a' w') : wpOpIn (Wf ro) 0 P l.toArray Q' i K a w := by
  have hlen := hc.len
  simp only [Region.ready, List.mem_filter, List.mem_range, Bool.and_eq_true, Bool.not_eq_true'] at hi
  obtain ⟨hin, hnl, hready⟩ := hi
  have hil : i < l.length := by simpa using hin
  have hiz : i < listed.size := by rw [h.lsz]; exact hil
  obtain ⟨o, ho⟩ : ∃ o, l[i]? = some o := ⟨l[i], by simp [hil]⟩
  have hnot : listed[i]? ≠ some true := by
    intro e
    have : listed.getD i true = true := by simp [e]
    rw [this] at hnl; cases hnl
  have hdone : ∀ e, e ∈ o.after.toList → Region.binds .any e = true → listed[e.on]? = some true := by
    intro e he hb
    have h1 : (o.after.all fun e => !Region.binds .any e || listed.getD e.on false) = true := by simpa [ho] using hready
    have h2 := (Array.all_eq_true_iff_forall_mem.1 h1) e (by simpa using he)
    simp only [hb, Bool.not_true, Bool.false_or] at h2
    cases q : listed[e.on]? with
    | none => simp [q] at h2
    | some b => simp [q] at h2; rw [h2]
  obtain ⟨c1, c2, c5, c6⟩ := hc.ops i o ho
  have hcl : ∀ j, j ∈ (clOf l).getD i [] → listed[j]? = some true := by
    intro j hj
    obtain ⟨e, he, hb, hx⟩ := c2 j hj
    rcases hx with rfl | hx
    · exact hdone e he hb
    · exact h.closed _ (hdone e he hb) j hx
  have closed' : ∀ j, (listed.setIfInBounds i true)[j]? = some true → ∀ k, k ∈ (clOf l).getD j [] → (listed.setIfInBounds i true)[k]? = some true := by
    intro j hj k hk
    rw [get_set_true hiz] at hj ⊢
    rcases hj with rfl | hj
    · exact .inr (hcl k hk)
    · exact .inr (h.closed j hj k hk)
  have ho' : l.toArray[i]? = some o := by simpa using ho
  have dstI : ∀ d, o.dst = some d → ∀ t, dstIs l i t = Nat.beq d t := by
    intro d hd t; simp [dstIs, ho, hd]
  have before : ∀ t, t ∈ readsOf l.toArray o → ∀ k, k < l.length → dstIs l k t = true → ahead ms k i = true → listed[k]? = some true := fun t ht k hk hw ha => hcl k ((c6 t ht k hk hw).1 ha)
  have behind : ∀ t, t ∈ readsOf l.toArray o → ∀ k, k < l.length → dstIs l k t = true → ahead ms i k = true → listed[k]? ≠ some true := fun t ht k hk hw ha hl => hnot (h.closed k hl i ((c6 t ht k hk hw).2 ha))
  have lightNo : ∀ k, k < l.length → isHeavy ms k = true → isLight ms k = false := fun k hkl hkh => by
    rcases light_or_heavy hlen hkl with ⟨_, b,_⟩ | ⟨a,_,_⟩
    · rw [b] at hkh; cases hkh
    · exact a
  have dstK : ∀ k d (hkl : k < l.length), dstIs l k d = true → l[k].dst = some d := fun k d hkl hkd => by
    simp only [dstIs, List.getElem?_eq_getElem hkl] at hkd
    cases r : l[k].dst with
    | none => simp [r] at hkd
    | some d' => simp only [r] at hkd; rw [Nat.eq_of_beq_eq_true hkd]
  unfold wpOpIn
  simp only [ho']
  rcases light_or_heavy hlen hil with ⟨hli, hhv, m, hm⟩ | ⟨hli, hhv, hm⟩
  · -- a light one
    obtain ⟨d, hd, hdN, hok⟩ := hV i o m ho hm
    have hno : ev1 eh d = none := by
      cases q : ev1 eh d with
      | none => rfl
      | some v =>
        exfalso
        obtain ⟨k, hkS, hkd⟩ := h.eh3 d (by rw [q]; simp)
        obtain ⟨hkl, hkh⟩ := h.hS k hkS
        obtain ⟨_,_, g5,_⟩ := hc.ops k l[k] (by simp [hkl])
        exact hnot (h.closed k ((h.hd k hkl hkh).2 hkS) i (g5 d (dstK k d hkl hkd) i hil (by rw [dstI d hd]; exact Nat.beq_refl _) (by simp [ahead, hli, lightNo k hkl hkh])))
    have fin : ∀ w', St β L w' → Hx P β N ds L0 Q l ms V env (listed.setIfInBounds i true) n S eh L (a.put (some d) (V i)) w' := by
      intro w' hs
      refine ⟨by simp [h.lsz], by simp [Act.put, h.size], h.dfr, hs, h.hJ, h.hy, h.hS, ?_, closed', ?_, h.eh2, h.eh3, ?_, ?_⟩
      · intro k hk hkh
        rw [get_set_true hiz, ← h.hd k hk hkh]
        have : k ≠ i := fun e => by subst e; rw [hhv] at hkh; cases hkh
        simp [this]
      · intro t v hv
        have e : t ≠ d := fun e => by subst e; rw [hno] at hv; cases hv
        simp only [Act.put]
        rw [Array.getElem?_setIfInBounds_ne (Ne.symm e)]
        exact h.eh1 t v hv
      · intro t k hn hk hkl hkd hdn hmax
        by_cases e : t = d
        · subst e
          have hki : k = i := by
            have g := hmax i hil hli (by rw [dstI t hd]; exact Nat.beq_refl _) ((get_set_true hiz).2 (.inl rfl))
            rcases Nat.lt_or_ge i k with q | q
            · exfalso
              have hl' : listed[k]? = some true := by
                rcases (get_set_true hiz).1 hdn with e | e
                · omega
                · exact e
              obtain ⟨_,_, g5,_⟩ := hc.ops k l[k] (by simp [hk])
              exact hnot (h.closed k hl' i (g5 t (dstK k t hk hkd) i hil (by rw [dstI t hd]; exact Nat.beq_refl _) (by simp only [ahead, hli, hkl, if_true]; exact Nat.ble_eq_true_of_le q)))
            · omega
          subst hki
          simp [Act.put, h.size, hdN]
        · have hki : k ≠ i := fun q => by subst q; rw [dstI d hd, beqne' e] at hkd; cases hkd
          simp only [Act.put]
          rw [Array.getElem?_setIfInBounds_ne (Ne.symm e)]
          refine h.top t k hn hk hkl hkd ?_ fun k' a b c d => hmax k' a b c ((get_set_true hiz).2 (.inr d))
          rcases (get_set_true hiz).1 hdn with q | q
          · exact absurd q hki
          · exact q
      · intro t hn hnone v hv
        have e : t ≠ d := fun q => by subst q; exact hnone i hil hli (by rw [dstI t hd]; exact Nat.beq_refl _) ((get_set_true hiz).2 (.inl rfl))
        simp only [Act.put]
        rw [Array.getElem?_setIfInBounds_ne (Ne.symm e)]
        exact h.base t hn (fun k a b c d => hnone k a b c ((get_set_true hiz).2 (.inr d))) v hv
    have rd : ∀ t, t ∈ readsOf l.toArray o → ∀ u, ev1 (envK l ms V env i) t = some u → a.tmps[t]? = some u := by
      intro t ht u hu
      have hno : ev1 eh t = none := by
        cases q : ev1 eh t with
        | none => rfl
        | some v =>
          exfalso
          obtain ⟨k, hkS, hkd⟩ := h.eh3 t (by rw [q]; simp)
          obtain ⟨hkl, hkh⟩ := h.hS k hkS
          exact behind t ht k hkl hkd (by simp [ahead, hli, lightNo k hkl hkh]) ((h.hd k hkl hkh).2 hkS)
      have late : ∀ k', k' < l.length → isLight ms k' = true → dstIs l k' t = true → listed[k']? = some true → k' < i := by
        intro k' hk' hl' hd' hdn
        rcases Nat.lt_trichotomy k' i with q | q | q
        · exact q
        · subst q; exact absurd hdn hnot
        · exact absurd hdn (behind t ht k' hk' hd' (by simp only [ahead, hli, hl', if_true]; exact Nat.ble_eq_true_of_le q))
      rcases ev1_envK l ms V env t u i hu with ⟨k, h1, h2, h3, h4, h5⟩ | ⟨h1, h2⟩
      · rw [← h4]
        refine h.top t k hno (by omega) h2 h3 (before t ht k (by omega) h3 (by simp only [ahead, hli, h2, if_true]; exact Nat.ble_eq_true_of_le h1)) fun k' a b c d => ?_
        rcases Nat.lt_or_ge k k' with q | q
        · have := h5 k' q (late k' a b c d) b
          rw [c] at this; cases this
        · exact q
      · refine h.base t hno (fun k a b c d => ?_) u h2
        have := h1 k (late k a b c d) b
        rw [c] at this; cases this
    have opr : ∀ x, x ∈ o.op.operands → ∀ u, ev (envK l ms V env i) x = some u → a.eval x = u := by
      intro x hx u hu
      cases x with
      | tmp t =>
        have := rd t (List.mem_append_left _ (List.mem_filterMap.2 ⟨.tmp t, by simpa using hx, rfl⟩)) u hu
        simp [Act.eval, this]
      | const c => simpa [ev, Act.eval] using hu
      | global g => simpa [ev, Act.eval] using hu
      | func f => simpa [ev, Act.eval] using hu
    have hok' := hok _ h.hJ
    generalize hVi : V i = vi at hok' fin
    rcases hok' with ⟨hg, hlo⟩ | ⟨j, want, t, u, c, v', hg, hj, ht, hgd, hlo, rfl⟩
    · rw [if_pos (by simp [Region.wanted, hg])]
      exact (hlo a w opr h.st).wp (ro := ro) (Q := Q') (K := K) fun w' hs => by rw [hd]; exact hK _ _ _ _ _ _ (fin w' hs)
    · have ht' : a.tmps[t]? = some u := rd t (List.mem_append_right _ (by rw [hg]; show t ∈ ((l.toArray[j]?).bind (·.dst)).toList; rw [hj]; simp)) u ht
      have hy : yielded l.toArray a.tmps j = vb u := by
        unfold yielded; rw [hj]; simp only [Option.bind_some, ht']; cases u <;> rfl
      simp only [Region.wanted, hg, hy]
      cases c with
      | true =>
        have hu := hgd.1 rfl
        subst hu
        simp only [vb, beq_self_eq_true, if_true]
        exact (hlo rfl a w opr h.st).wp (ro := ro) (Q := Q') (K := K) fun w' hs => by
          rw [hd]
          have := fin w' hs
          rw [show gv true v' = v' from rfl] at this
          exact hK _ _ _ _ _ _ this
      | false =>
        have hu := hgd.2 rfl
        have hne := vb_ne hu
        simp only [hne, Bool.false_eq_true, if_false]
        have := fin w h.st
        rw [show gv false v' = undef from rfl] at this
        rw [hd]
        exact ⟨fun _ _ => True.intro, hK _ _ _ _ _ _ this⟩
  · -- a heavy one
    have hiS : i ∉ S := fun q => hnot ((h.hd i hil hhv).2 q)
    have hri : i ∈ readyH l ms S := by
      unfold readyH
      refine List.mem_filter.2 ⟨by simpa [idxs] using hil, ?_⟩
      simp only [Bool.and_eq_true, Bool.not_eq_true', List.all_eq_true, Bool.or_eq_true]
      refine ⟨⟨hhv, by simpa using hiS⟩, fun j hj => ?_⟩
      cases q : isHeavy ms j with
      | false => exact .inl rfl
      | true =>
        right
        have hl := hcl j hj
        have hjl : j < l.length := by
          have : j < listed.size := by
            rcases Nat.lt_or_ge j listed.size with r | r
            · exact r
            · rw [Array.getElem?_eq_none r] at hl; cases hl
          rwa [h.lsz] at this
        simpa using (h.hd j hjl q).1 hl
    have hy := h.hy
    cases n with
    | zero => exact hy.elim
    | succ n =>
    obtain ⟨o2, ho2, hg, hdN, hho⟩ := hy.2 i hri
    rw [ho] at ho2
    cases ho2
    have rd : ∀ t, t ∈ readsOf l.toArray o → ∀ u, ev1 (eh ++ envK l ms V env l.length) t = some u → a.tmps[t]? = some u := by
      intro t ht u hu
      rw [ev1_append] at hu
      cases q : ev1 eh t with
      | some v => rw [q] at hu; simp only [Option.some.injEq] at hu; subst hu; exact h.eh1 t v q
      | none =>
        rw [q] at hu
        simp only at hu
        rcases ev1_envK l ms V env t u l.length hu with ⟨k, h1, h2, h3, h4, h5⟩ | ⟨h1, h2⟩
        · rw [← h4]
          refine h.top t k q h1 h2 h3 (before t ht k h1 h3 (by simp [ahead, hli, h2])) fun k' a b c d => ?_
          rcases Nat.lt_or_ge k k' with r | r
          · have := h5 k' r a b
            rw [c] at this; cases this
          · exact r
        · refine h.base t q (fun k a b c d => ?_) u h2
          have := h1 k a b
          rw [c] at this; cases this
    have opr : ∀ x, x ∈ o.op.operands → ∀ u, ev (eh ++ envK l ms V env l.length) x = some u → a.eval x = u := by
      intro x hx u hu
      cases x with
      | tmp t =>
        have ht : t ∈ readsOf l.toArray o := List.mem_append_left _ (List.mem_filterMap.2 ⟨.tmp t, by simpa using hx, rfl⟩)
        have := rd t ht u hu
        simp [Act.eval, this]
      | const c => simpa [ev, Act.eval] using hu
      | global g => simpa [ev, Act.eval] using hu
      | func f => simpa [ev, Act.eval] using hu
    rw [if_pos (by
      rcases hg with hg | ⟨j, want, t, hg, hj, ht⟩
      · simp [Region.wanted, hg]
      · have hj' : (l.toArray[j]?).bind (·.dst) = some t := by simpa using hj
        have ht' : a.tmps[t]? = some (.bool want) := rd t (List.mem_append_right _ (by rw [hg]; show t ∈ ((l.toArray[j]?).bind (·.dst)).toList; rw [hj']; simp)) _ ht
        have hy : yielded l.toArray a.tmps j = some want := by
          unfold yielded; rw [hj']; simp only [Option.bind_some, ht']
        simp [Region.wanted, hg, hy, vb])]
    refine (hho.wp (ro := ro) (Q := Q') opr h.st fun v L' w' hk hs => ?_)
    obtain ⟨hk1, hk2⟩ := hk
    have envE : putE o v (eh ++ envK l ms V env l.length) = putE o v eh ++ envK l ms V env l.length := by
      unfold putE; cases o.dst <;> rfl
    have hev : ∀ t, ev1 (putE o v eh) t = none → ev1 eh t = none ∧ ∀ d, o.dst = some d → t ≠ d := by
      intro t hn
      unfold putE at hn
      cases q : o.dst with
      | none => exact ⟨by simpa only [q] using hn, by simp⟩
      | some d =>
        simp only [q] at hn
        by_cases e : t = d
        · subst e; rw [ev1_cons_eq] at hn; cases hn
        · exact ⟨by rwa [ev1_cons_ne e] at hn, fun d' hd' => by cases hd'; exact e⟩
    refine hK n (i :: S) (putE o v eh) L' _ w' ⟨by simp [h.lsz], ?_, (by cases o.dst <;> exact h.dfr), hs, hk1, by rw [← envE]; exact hk2, ?_, ?_, closed', ?_, ?_, ?_, ?_, ?_⟩
    · cases q : o.dst with
      | none => exact h.size
      | some d => simp [Act.put, h.size]
    · intro k hk
      rcases List.mem_cons.1 hk with rfl | hk
      · exact ⟨hil, hhv⟩
      · exact h.hS k hk
    · intro k hk hkh
      rw [get_set_true hiz, h.hd k hk hkh, List.mem_cons]
    · intro t u hu
      unfold putE at hu
      cases q : o.dst with
      | none => simp only [q] at hu; exact h.eh1 t u hu
      | some d =>
        simp only [q] at hu
        by_cases e : t = d
        · subst e
          rw [ev1_cons_eq] at hu
          cases hu
          simp [Act.put, h.size, hdN t q]
        · rw [ev1_cons_ne e] at hu
          simp only [Act.put]
          rw [Array.getElem?_setIfInBounds_ne (Ne.symm e)]
          exact h.eh1 t u hu
    · intro t hn k hk
      obtain ⟨hn', hne⟩ := hev t hn
      rcases List.mem_cons.1 hk with rfl | hk
      · cases q : o.dst with
        | none => simp [dstIs, ho, q]
        | some d => rw [dstI d q]; exact beqne' (hne d q)
      · exact h.eh2 t hn' k hk
    · intro t hn
      unfold putE at hn
      cases q : o.dst with
      | none =>
        simp only [q] at hn
        obtain ⟨k, a, b⟩ := h.eh3 t hn
        exact ⟨k, by simp [a], b⟩
      | some d =>
        simp only [q] at hn
        by_cases e : t = d
        · subst e
          exact ⟨i, by simp, by rw [dstI t q]; exact Nat.beq_refl _⟩
        · rw [ev1_cons_ne e] at hn
          obtain ⟨k, a, b⟩ := h.eh3 t hn
          exact ⟨k, by simp [a], b⟩
    · intro t k hn hk hkl hkd hdn hmax
      have hki : k ≠ i := fun e => by subst e; rw [hli] at hkl; cases hkl
      have hn' := hev t hn
      have hdn' : listed[k]? = some true := by
        rcases (get_set_true hiz).1 hdn with q | q
        · exact absurd q hki
        · exact q
      have := h.top t k hn'.1 hk hkl hkd hdn' fun k' a b c d => hmax k' a b c ((get_set_true hiz).2 (.inr d))
      cases q : o.dst with
      | none => exact this
      | some d =>
        simp only [Act.put]
        rw [Array.getElem?_setIfInBounds_ne (Ne.symm (hn'.2 d q))]
        exact this
    · intro t hn hnone u hu
      have hn' := hev t hn
      have := h.base t hn'.1 (fun k a b c d => hnone k a b c ((get_set_true hiz).2 (.inr d))) u hu
      cases q : o.dst with
      | none => exact this
      | some d =>
        simp only [Act.put]
        rw [Array.getElem?_setIfInBounds_ne (Ne.symm (hn'.2 d q))]
        exact this

theorem Hx.end_ {l : List Oper} {ms : List (Option Nat)} {V : Nat → Value} {listed : Array Bool} {n : Nat} {S : List Nat} {eh : Env} {a : Act} {w : World} (hc : ChkE l ms)
    (h : Hx P β N ds L0 Q l ms V env listed n S eh L a w) (hall : ∀ k, k < l.length → listed[k]? = some true) : Q .normal a w := by
  have hr : readyH l ms S = [] := by
    unfold readyH
    refine List.filter_eq_nil_iff.2 fun i hi q => ?_
    simp only [Bool.and_eq_true, Bool.not_eq_true'] at q
    have hil : i < l.length := by simpa [idxs] using hi
    have := (h.hd i hil q.1.1).1 (hall i hil)
    have h2 := q.1.2
    simp [this] at h2
  have hy := h.hy
  cases n with
  | zero => exact hy.elim
  | succ n =>
  refine hy.1 hr a w ⟨h.size, h.dfr, fun t u hu => ?_⟩ h.st
  rw [ev1_append] at hu
  cases q : ev1 eh t with
  | some v => rw [q] at hu; simp only [Option.some.injEq] at hu; subst hu; exact h.eh1 t v q
  | none =>
    rw [q] at hu
    simp only at hu
    rcases ev1_envK l ms V env t u l.length hu with ⟨k, h1, h2, h3, h4, h5⟩ | ⟨h1, h2⟩
    · rw [← h4]
      refine h.top t k q h1 h2 h3 (hall k h1) fun k' a b c d => ?_
      rcases Nat.lt_or_ge k k' with r | r
      · have := h5 k' r a b
        rw [c] at this; cases this
      · exact r
    · refine h.base t q (fun k a b c d => ?_) u h2
      have := h1 k a b
      rw [c] at this; cases this

set_option maxHeartbeats 1000000 in
theorem VC.drawEL (hs : ∀ w, St β L w → St β L0 w) (n : Nat) (ms : List (Option Nat)) {env' : Env} {id : Nat} {l : List Oper} (hm : P.follows .mixedOrders = true) (hc : chkE l ms = true)
    (h : LX P β N l.toArray (fun _ => L0) l ms env env') (k : HE P β N ds L0 Q l ms n [] env' L) :
    VC P ro β N ds env L (.region id l.toArray true) Q := by
  intro a w ha hw
  obtain ⟨V, hV1, hV2⟩ := h.vals
  have hC := ChkE.of hc
  subst hV1
  refine wpIn_region_any hm ?_
  have key : ∀ fuel listed n S eh L' a w, Hx P β N ds L0 Q l ms V env listed n S eh L' a w → (∀ k, k < l.length → listed[k]? ≠ some true → 0 < fuel) → ((List.range l.length).filter fun k => !(listed[k]? == some true)).length ≤ fuel → wpAnyIn (Wf ro) 0 P .any l.toArray Q fuel listed a w := by
    intro fuel
    induction fuel with
    | zero =>
      intro listed n S eh L' a w hI hz _
      have hall : ∀ k, k < l.length → listed[k]? = some true := fun k hk => Classical.byContradiction fun hn => by have := hz k hk hn; omega
      refine ⟨?_, hI.end_ hC hall⟩
      simp only [Region.ready, List.filter_eq_nil_iff, List.mem_range, Bool.and_eq_true, Bool.not_eq_true', not_and]
      intro i hi hf
      have := hall i (by simpa using hi)
      simp [this] at hf
    | succ fuel ih =>
      intro listed n S eh L' a w hI hz hcnt
      refine ⟨fun hr => hI.end_ hC (ready_all hI.lsz (fun k o ho => (hC.ops k o ho).1) hr), fun i hi => ?_⟩
      refine hI.step hC hV2 hi fun n' S' eh' L'' a' w' hI' => ih _ _ _ _ _ _ _ hI' ?_ ?_
      · intro k hk hn
        rcases Nat.eq_zero_or_pos fuel with e | e
        · exfalso
          subst e
          simp only [Region.ready, List.mem_filter, List.mem_range, Bool.and_eq_true, Bool.not_eq_true'] at hi
          have hil : i < l.length := by simpa using hi.1
          have hiz : i < listed.size := by rw [hI.lsz]; exact hil
          rw [Ne, get_set_true hiz, not_or] at hn
          have hni : listed[i]? ≠ some true := fun e => by have h2 := hi.2.1; simp [e] at h2
          have m1 : i ∈ (List.range l.length).filter fun k => !(listed[k]? == some true) := by simp [hil, hni]
          have m2 : k ∈ (List.range l.length).filter fun k => !(listed[k]? == some true) := by simp [hk, hn.2]
          match hf : (List.range l.length).filter fun k => !(listed[k]? == some true), hcnt with
          | [],_ => rw [hf] at m1; simp at m1
          | [x],_ => rw [hf] at m1 m2; simp at m1 m2; exact hn.1 (by omega)
          | _ :: _ :: _, hcnt => simp at hcnt
        · exact e
      · simp only [Region.ready, List.mem_filter, List.mem_range, Bool.and_eq_true, Bool.not_eq_true'] at hi
        have hil : i < l.length := by simpa using hi.1
        have hiz : i < listed.size := by rw [hI.lsz]; exact hil
        have hni : listed[i]? ≠ some true := fun e => by have h2 := hi.2.1; simp [e] at h2
        have hlt2 : ((List.range l.length).filter fun k => !((listed.setIfInBounds i true)[k]? == some true)).length < ((List.range l.length).filter fun k => !(listed[k]? == some true)).length := by
          refine filter_lt (i := i) ?_ (by simp [hil]) ?_ ?_
          · intro k hk
            simp only [Bool.not_eq_true', beq_eq_false_iff_ne, ne_eq] at hk ⊢
            exact fun e => hk ((get_set_true hiz).2 (.inr e))
          · simpa using hni
          · simp [hiz]
        omega
  have hnone : ∀ j : Nat, (Array.replicate l.toArray.size false)[j]? ≠ some true := by
    intro j hj
    simp [Array.getElem?_replicate] at hj
  refine key _ _ n [] [] L _ _ ⟨by simp, ha.size, ha.dfr, hw.drew _, hs, k, by simp, ?_, ?_, ?_, ?_, ?_, ?_, ?_⟩ ?_ ?_
  · intro i _ _
    exact ⟨fun e => absurd e (hnone i), fun q => by cases q⟩
  · intro j hj; exact absurd hj (hnone j)
  · intro t v hv; simp [ev1] at hv
  · intro t _ i hi; cases hi
  · intro t ht; simp [ev1] at ht
  · intro t k _ _ _ _ hl; exact absurd hl (hnone k)
  · intro t _ _ v hv; exact ha.get t v hv
  · intro k hk _
    simpa using Nat.lt_of_le_of_lt (Nat.zero_le _) hk
  · refine Nat.le_trans (List.length_filter_le _ _) ?_
    simp

theorem VC.drawE (n : Nat) (ms : List (Option Nat)) {env' : Env} {id : Nat} {l : List Oper} (hm : P.follows .mixedOrders = true) (hc : chkE l ms = true)
    (h : LX P β N l.toArray (fun _ => L) l ms env env') (k : HE P β N ds L Q l ms n [] env' L) :
    VC P ro β N ds env L (.region id l.toArray true) Q := VC.drawEL (fun _ h => h) n ms hm hc h k

def HEo (P : Program) (β : Bs) (N : Nat) (ds : List Deferred) (L0 : List Res) (Q : Exit → Act → World → Prop) (l : List Oper) (ms : List (Option Nat)) (n : Nat) (S : List Nat) (env : Env) (L : List Res) (i : Nat) : Prop :=
  ∃ o, l[i]? = some o ∧ GdOk l env o ∧ (∀ d, o.dst = some d → d < N) ∧ HO P β env L o fun v L' => (∀ w, St β L' w → St β L0 w) ∧ HE P β N ds L0 Q l ms n (i :: S) (putE o v env) L'
def AllP (p : Nat → Prop) : List Nat → Prop
  | [] => True
  | x :: r => p x ∧ AllP p r
theorem AllP.mem {p : Nat → Prop} : ∀ {xs : List Nat}, AllP p xs → ∀ i, i ∈ xs → p i
  | x :: r, h, i, hi => by
    rcases List.mem_cons.1 hi with rfl | hi
    · exact h.1
    · exact h.2.mem i hi
section
variable {l : List Oper} {ms : List (Option Nat)} {n : Nat} {S : List Nat}
theorem HE.mk (xs : List Nat) (hx : readyH l ms S = xs) (hne : xs.isEmpty = false) (h : AllP (HEo P β N ds L0 Q l ms n S env L) xs) : HE P β N ds L0 Q l ms (n + 1) S env L := by
  subst hx
  exact ⟨fun e => (by rw [e] at hne; cases hne), fun i hi => h.mem i hi⟩
theorem HE.fin (hx : readyH l ms S = []) (h : VE β N ds env L .normal Q) : HE P β N ds L0 Q l ms (n + 1) S env L := ⟨fun _ => h, fun i hi => by rw [hx] at hi; cases hi⟩
theorem HEo.op {i d : Nat} {op : Op} {ty : TypeId} {pos : String} {aft : Array Edge} (ho : l[i]? = some ⟨some d, op, ty, pos, aft, none⟩) (hd : Nat.blt d N = true) (h : HO P β env L ⟨some d, op, ty, pos, aft, none⟩ fun v L' => (∀ w, St β L' w → St β L0 w) ∧ HE P β N ds L0 Q l ms n (i :: S) ((d, v) :: env) L') : HEo P β N ds L0 Q l ms n S env L i :=
  ⟨_, ho, .inl rfl, (fun d' e => by cases e; exact Nat.le_of_ble_eq_true hd), h⟩
theorem HEo.opG {i d j tt : Nat} {op : Op} {ty : TypeId} {pos : String} {aft : Array Edge} {want : Bool} (ho : l[i]? = some ⟨some d, op, ty, pos, aft, some (j, want)⟩) (hd : Nat.blt d N = true) (hj : (l[j]?).bind (·.dst) = some tt) (ht : ev1 env tt = some (.bool want)) (h : HO P β env L ⟨some d, op, ty, pos, aft, none⟩ fun v L' => (∀ w, St β L' w → St β L0 w) ∧ HE P β N ds L0 Q l ms n (i :: S) ((d, v) :: env) L') : HEo P β N ds L0 Q l ms n S env L i :=
  ⟨_, ho, .inr ⟨j, want, tt, rfl, hj, ht⟩, (fun d' e => by cases e; exact Nat.le_of_ble_eq_true hd), h⟩
end
theorem selK {L1 : List Res} (is : List Nat) (hn : nodupB is = true) (h : sel L is = L1) : ∀ w, St β L w → St β L1 w := fun w hw => by rw [← h]; exact hw.sel is hn
/-- The same; all the orders come together behind the region. -/
theorem VC.drawF {G : Type} (EF : G → Env) (EK : Env) (LF : G → List Res) (LK : List Res) (I : G → Prop) (n : Nat) (ms : List (Option Nat)) {env' : Env} {id : Nat} {l : List Oper} (hm : P.follows .mixedOrders = true) (hc : chkE l ms = true)
    (h : LX P β N l.toArray (fun _ => L) l ms env env') (k : (∀ y, I y → VE β N ds (EF y ++ EK) (LF y ++ LK) .normal Q) → HE P β N ds L Q l ms n [] env' L) (hf : ∀ y, I y → VE β N ds (EF y ++ EK) (LF y ++ LK) .normal Q) :
    VC P ro β N ds env L (.region id l.toArray true) Q := VC.drawE n ms hm hc h (k hf)
/-- The same; what is light reads of what stays as it is. -/
theorem VC.drawFL {G : Type} (EF : G → Env) (EK : Env) (LF : G → List Res) (LK : List Res) (I : G → Prop) (hs : ∀ w, St β L w → St β L0 w) (n : Nat) (ms : List (Option Nat)) {env' : Env} {id : Nat} {l : List Oper} (hm : P.follows .mixedOrders = true) (hc : chkE l ms = true)
    (h : LX P β N l.toArray (fun _ => L0) l ms env env') (k : (∀ y, I y → VE β N ds (EF y ++ EK) (LF y ++ LK) .normal Q) → HE P β N ds L0 Q l ms n [] env' L) (hf : ∀ y, I y → VE β N ds (EF y ++ EK) (LF y ++ LK) .normal Q) :
    VC P ro β N ds env L (.region id l.toArray true) Q := VC.drawEL hs n ms hm hc h (k hf)
end
end Go.SL

namespace Go.SL
set_option linter.unusedVariables false
open Go.RowKit
section
variable {P : Program} {F : Fence} {n : Nat} {Q X : Exit → Act → World → Prop}
theorem getD_some {b : Array Bool} {i : Nat} {d v : Bool} (h : b[i]? = some v) : b.getD i d = v := by simp [Array.getD_eq_getD_getElem?, h]
end
section
variable {P : Program} {ro : Option Nat} {β : Bs} {ds : List Deferred} {N : Nat} {J : Nat → List Res} {Q : Exit → Act → World → Prop} {env : Env} {L : List Res}
/-! ### Operations that lay a new block -/

end
end Go.SL

namespace Go.SL
set_option linter.unusedVariables false
open Go.RowKit

theorem HO.mono {P : Program} {β : Bs} {env : Env} {L : List Res} {o : Oper} {K K' : Value → List Res → Prop} (h : HO P β env L o K) (k : ∀ v L', K v L' → K' v L') : HO P β env L o K' := by
  intro a w hx hw
  rcases h a w hx hw with ⟨nx, w', v, L', h1, h2, h3, h4⟩ | ⟨f, args, h1, h2⟩ | ⟨l, f, tmps, as_, bd, h1, h2⟩
  · exact .inl ⟨nx, w', v, L', h1, h2, k _ _ h3, h4⟩
  · exact .inr (.inl ⟨f, args, h1, h2.mono fun e w' ⟨v, L', e1, e2, e3⟩ => ⟨v, L', e1, k _ _ e2, e3⟩⟩)
  · exact .inr (.inr ⟨l, f, tmps, as_, bd, h1, RoundIn.mono h2 fun e w' ⟨v, L', e1, e2, e3⟩ => ⟨v, L', e1, k _ _ e2, e3⟩⟩)

section
variable {P : Program} {ro : Option Nat} {β : Bs} {ds : List Deferred} {N : Nat} {J : Nat → List Res} {Q : Exit → Act → World → Prop} {FT : List FS} {D : List Nat} {env : Env} {L : List Res}
def chkD (l : List Oper) (ms : List (Option Nat)) (js : List (List Nat)) (FT : List (Nat × Nat)) (D : List Nat) : Bool :=
  let cl := clOf l
  let n := l.length
  let isFi := fun i => FT.any fun s => Nat.beq s.1 i
  let isD := fun t => FT.any fun s => Nat.beq s.2 t
  nodupB (FT.map (·.1)) && nodupB (FT.map (·.2)) &&
  FT.all (fun s => Nat.blt s.1 n && isHeavy ms s.1 && dstIs l s.1 s.2) &&
  D.all (fun i => Nat.blt i n && isHeavy ms i && !isFi i && match (l[i]?).bind (·.dst) with | none => false | some d => (idxs n).all fun k => !dstIs l k d || Nat.beq k i) &&
  Nat.beq ms.length n && js.all nodupB && ((idxs js.length).all fun m => (js.getD (m + 1) []).all (js.getD m []).contains) &&
  (idxs n).all fun k =>
    match l[k]? with
    | none => false
    | some o =>
      o.after.toList.all (fun e => !Region.binds .any e || Nat.blt e.on k) &&
      (cl.getD k []).all (fun i => o.after.toList.any fun e => Region.binds .any e && (Nat.beq e.on i || (cl.getD e.on []).contains i)) &&
      o.after.toList.all (fun e => !Region.binds .any e || (cl.getD k []).contains e.on) &&
      (isLight ms k || isFi k || (idxs n).all fun i => !isHeavy ms i || !Nat.blt i k || (cl.getD k []).contains i) &&
      (match ms.getD k none with | some m => (idxs n).all fun i => !isHeavy ms i || Nat.blt (rank ms i) m || (cl.getD i []).contains k | none => true) &&
      (match o.dst with
       | none => !isLight ms k
       | some d => ((idxs n).all fun i => !dstIs l i d || !ahead ms i k || (cl.getD k []).contains i) && (isFi k || !isD d)) &&
      ((readsOf l.toArray o).all fun t => ((idxs n).all fun i => !dstIs l i t || (if D.contains i then ((cl.getD k []).contains i && Nat.blt i k) else ((!ahead ms i k || (cl.getD k []).contains i) && (!ahead ms k i || (cl.getD i []).contains k)))) && (!(isLight ms k || isFi k) || !isD t) && (!isFi k || !(idxs n).any fun i => isHeavy ms i && dstIs l i t) && (FT.all fun s => !Nat.beq s.2 t || Nat.blt s.1 k))

structure ChkD (l : List Oper) (ms : List (Option Nat)) (js : List (List Nat)) (FT : List FS) (D : List Nat) : Prop where
  len : ms.length = l.length
  jn : ∀ m, nodupB (js.getD m []) = true
  js : ∀ m, (js.getD (m + 1) []).all (js.getD m []).contains = true
  fi : ∀ s, s ∈ FT → s.i < l.length ∧ isHeavy ms s.i = true ∧ dstIs l s.i s.d = true
  ni : (FT.map (·.i)).Nodup
  nd : (FT.map (·.d)).Nodup
  dd : ∀ i, D.contains i = true → i < l.length ∧ isHeavy ms i = true ∧ isF FT i = none ∧ ∃ d, (l[i]?).bind (·.dst) = some d ∧ ∀ k, k < l.length → dstIs l k d = true → k = i
  ops : ∀ k o, l[k]? = some o →
      (∀ e, e ∈ o.after.toList → Region.binds .any e = true → e.on < k) ∧
      (∀ i, i ∈ (clOf l).getD k [] → ∃ e, e ∈ o.after.toList ∧ Region.binds .any e = true ∧ (e.on = i ∨ i ∈ (clOf l).getD e.on [])) ∧
      (isHeavy ms k = true → isF FT k = none → ∀ i, i < k → isHeavy ms i = true → i ∈ (clOf l).getD k []) ∧
      (∀ m, ms[k]? = some (some m) → ∀ i, i < l.length → isHeavy ms i = true → rank ms i < m ∨ k ∈ (clOf l).getD i []) ∧
      (∀ d, o.dst = some d → (∀ i, i < l.length → dstIs l i d = true → ahead ms i k = true → i ∈ (clOf l).getD k []) ∧ (isF FT k = none → ∀ s, s ∈ FT → s.d ≠ d)) ∧
      (∀ t, t ∈ readsOf l.toArray o → (∀ i, i < l.length → dstIs l i t = true → (D.contains i = true ∧ i ∈ (clOf l).getD k [] ∧ i < k) ∨ (D.contains i = false ∧ (ahead ms i k = true → i ∈ (clOf l).getD k []) ∧ (ahead ms k i = true → k ∈ (clOf l).getD i []))) ∧
        ((isLight ms k = true ∨ isF FT k ≠ none) → ∀ s, s ∈ FT → s.d ≠ t) ∧ (isF FT k ≠ none → ∀ i, i < l.length → isHeavy ms i = true → dstIs l i t = false) ∧ ∀ s, s ∈ FT → s.d = t → s.i < k)

theorem ChkD.of {l : List Oper} {ms : List (Option Nat)} {js : List (List Nat)} (h : chkD l ms js (FT.map fun s => (s.i, s.d)) D = true) : ChkD l ms js FT D := by
  unfold chkD at h
  simp only [Bool.and_eq_true] at h
  obtain ⟨⟨⟨⟨⟨⟨⟨n1, n2⟩, n5⟩, n6⟩, h1⟩, h2⟩, h3⟩, h4⟩ := h
  have hlen := Nat.eq_of_beq_eq_true h1
  have key : ∀ k o, l[k]? = some o → _ := fun k o hk => by
    have hlt : k < l.length := (List.getElem?_eq_some_iff.1 hk).1
    have h5 := List.all_eq_true.1 h4 k (by simpa [idxs] using hlt)
    simp only [hk, Bool.and_eq_true] at h5
    exact h5
  have anyF : ∀ k, isF FT k = none → ((FT.map fun s => (s.i, s.d)).any fun s => Nat.beq s.1 k) = false := fun k hk => by
    cases q : (FT.map fun s => (s.i, s.d)).any fun s => Nat.beq s.1 k with
    | false => rfl
    | true =>
      obtain ⟨x, hx, e⟩ := List.any_eq_true.1 q
      obtain ⟨s, hs, rfl⟩ := List.mem_map.1 hx
      exact absurd (Nat.eq_of_beq_eq_true e) (isF_none hk s hs)
  have anyF' : ∀ k, isF FT k ≠ none → ((FT.map fun s => (s.i, s.d)).any fun s => Nat.beq s.1 k) = true := fun k hk => by
    cases q : isF FT k with
    | none => exact absurd q hk
    | some s =>
      obtain ⟨a, b⟩ := isF_some q
      exact List.any_eq_true.2 ⟨(s.i, s.d), List.mem_map.2 ⟨s, a, rfl⟩, by rw [b]; exact Nat.beq_refl _⟩
  have anyD : ∀ t, ((FT.map fun s => (s.i, s.d)).any fun s => Nat.beq s.2 t) = false → ∀ s, s ∈ FT → s.d ≠ t := fun t ht s hs e => by
    have : ((FT.map fun s => (s.i, s.d)).any fun s => Nat.beq s.2 t) = true := List.any_eq_true.2 ⟨(s.i, s.d), List.mem_map.2 ⟨s, hs, rfl⟩, by rw [e]; exact Nat.beq_refl _⟩
    rw [ht] at this; cases this
  have nl : ∀ k, k < l.length → isHeavy ms k = true → isLight ms k = false := fun k hk hh => by
    rcases light_or_heavy hlen hk with ⟨_, b,_⟩ | ⟨a,_,_⟩
    · rw [b] at hh; cases hh
    · exact a
  refine ⟨hlen, ?_, ?_, ?_, ?_, ?_, ?_, ?_⟩
  · intro m
    cases q : js[m]? with
    | none => simp [List.getD, q, nodupB]
    | some x => simp only [List.getD, q, Option.getD_some]; exact List.all_eq_true.1 h2 x (List.mem_of_getElem? q)
  · intro m
    rcases Nat.lt_or_ge m js.length with q | q
    · exact List.all_eq_true.1 h3 m (by simpa [idxs] using q)
    · have : js[m + 1]? = none := by simp; omega
      simp [List.getD, this]
  · intro s hs
    have := List.all_eq_true.1 n5 (s.i, s.d) (List.mem_map.2 ⟨s, hs, rfl⟩)
    simp only [Bool.and_eq_true] at this
    exact ⟨Nat.le_of_ble_eq_true this.1.1, this.1.2, this.2⟩
  · have := nodupB_nd n1; rwa [List.map_map] at this
  · have := nodupB_nd n2; rwa [List.map_map] at this
  · intro i hi
    have := List.all_eq_true.1 n6 i (by simpa using hi)
    simp only [Bool.and_eq_true] at this
    obtain ⟨⟨⟨g1, g2⟩, g3⟩, g4⟩ := this
    refine ⟨Nat.le_of_ble_eq_true g1, g2, ?_, ?_⟩
    · cases q : isF FT i with
      | none => rfl
      | some s => rw [anyF' i (by rw [q]; simp)] at g3; cases g3
    · cases q : (l[i]?).bind (·.dst) with
      | none => simp [q] at g4
      | some d =>
        simp only [q] at g4
        refine ⟨d, rfl, fun k hk hd => ?_⟩
        have := List.all_eq_true.1 g4 k (by simpa [idxs] using hk)
        simp only [hd, Bool.not_true, Bool.false_or] at this
        exact Nat.eq_of_beq_eq_true this
  · intro k o hk
    have hlt : k < l.length := (List.getElem?_eq_some_iff.1 hk).1
    obtain ⟨⟨⟨⟨⟨⟨a1, a2⟩, a3⟩, a4⟩, a5⟩, a6⟩, a7⟩ := key k o hk
    refine ⟨?_, ?_, ?_, ?_, ?_, ?_⟩
    · intro e he hb
      have := List.all_eq_true.1 a1 e he
      simp only [hb, Bool.not_true, Bool.false_or] at this
      exact Nat.le_of_ble_eq_true this
    · intro i hi
      have := List.all_eq_true.1 a2 i hi
      obtain ⟨e, he, hx⟩ := List.any_eq_true.1 this
      simp only [Bool.and_eq_true, Bool.or_eq_true] at hx
      exact ⟨e, he, hx.1, hx.2.imp Nat.eq_of_beq_eq_true (by simp)⟩
    · intro hh hf i hi hh2
      rw [nl k hlt hh, anyF k hf, Bool.false_or, Bool.false_or] at a4
      have := List.all_eq_true.1 a4 i (by simp [idxs]; omega)
      have hb : Nat.blt i k = true := Nat.ble_eq_true_of_le hi
      simpa [hh2, hb] using this
    · intro m hm i hi hh
      have e : ms.getD k none = some m := by simp [List.getD, hm]
      rw [e] at a5
      have := List.all_eq_true.1 a5 i (by simpa [idxs] using hi)
      simp only [hh, Bool.not_true, Bool.false_or, Bool.or_eq_true] at this
      exact this.imp (fun q => Nat.le_of_ble_eq_true q) (by simp)
    · intro d hd
      simp only [hd, Bool.and_eq_true] at a6
      refine ⟨fun i hi hw ha => ?_, fun hf => ?_⟩
      · have := List.all_eq_true.1 a6.1 i (by simpa [idxs] using hi)
        simpa [hw, ha] using this
      · have := a6.2
        rw [anyF k hf, Bool.false_or, Bool.not_eq_true'] at this
        exact anyD d this
    · intro t ht
      have := List.all_eq_true.1 a7 t ht
      simp only [Bool.and_eq_true] at this
      obtain ⟨⟨⟨b1, b2⟩, b3⟩, b4⟩ := this
      refine ⟨fun i hi hw => ?_, fun hor => ?_, fun hf i hi hh => ?_, fun s hs e => ?_⟩
      · have := List.all_eq_true.1 b1 i (by simpa [idxs] using hi)
        simp only [hw, Bool.not_true, Bool.false_or] at this
        cases r : D.contains i with
        | true => rw [r, if_pos rfl, Bool.and_eq_true] at this; exact .inl ⟨rfl, by simpa using this.1, Nat.le_of_ble_eq_true this.2⟩
        | false =>
          rw [r, if_neg (by simp)] at this
          simp only [Bool.and_eq_true] at this
          exact .inr ⟨rfl, fun q => by simpa [q] using this.1, fun q => by simpa [q] using this.2⟩
      · have hc : (isLight ms k || (FT.map fun s => (s.i, s.d)).any fun s => Nat.beq s.1 k) = true := by
          rcases hor with q | q
          · rw [q, Bool.true_or]
          · rw [anyF' k q, Bool.or_true]
        rw [hc, Bool.not_true, Bool.false_or, Bool.not_eq_true'] at b2
        exact anyD t b2
      · rw [anyF' k hf, Bool.not_true, Bool.false_or, Bool.not_eq_true'] at b3
        cases q : dstIs l i t with
        | false => rfl
        | true =>
          have : ((idxs l.length).any fun i => isHeavy ms i && dstIs l i t) = true := List.any_eq_true.2 ⟨i, by simpa [idxs] using hi, by rw [hh, q]; rfl⟩
          rw [b3] at this; cases this
      · have := List.all_eq_true.1 b4 (s.i, s.d) (List.mem_map.2 ⟨s, hs, rfl⟩)
        rw [e] at this
        simp at this
        exact this

/-- The marks with the declared ones as light ones. -/
def mD (D : List Nat) : Nat → List (Option Nat) → List (Option Nat)
  | _, [] => []
  | i, x :: ms => (if D.contains i then some (x.getD 0) else x) :: mD D (i + 1) ms
theorem mD_get : ∀ (ms : List (Option Nat)) (i k : Nat), (mD D i ms)[k]? = (ms[k]?).map fun x => if D.contains (i + k) then some (x.getD 0) else x
  | [], i, k => by simp [mD]
  | x :: ms, i, 0 => by simp [mD]
  | x :: ms, i, k + 1 => by
    rw [mD, List.getElem?_cons_succ, List.getElem?_cons_succ, mD_get ms (i + 1) k, show i + 1 + k = i + (k + 1) by omega]
theorem light_mD {ms : List (Option Nat)} {k : Nat} : isLight (mD D 0 ms) k = true ↔ isLight ms k = true ∨ (k < ms.length ∧ D.contains k = true) := by
  unfold isLight
  rw [mD_get, Nat.zero_add]
  rcases Nat.lt_or_ge k ms.length with h | h
  · rw [List.getElem?_eq_getElem h]
    cases hd : D.contains k <;> cases ms[k] <;> simp [h]
  · rw [List.getElem?_eq_none h]
    simp; omega

def LXD (P : Program) (β : Bs) (N : Nat) (ops : Array Oper) (J : Nat → List Res) (D : List Nat) : Nat → List Oper → List (Option Nat) → Env → Env → Prop
  | _, [],_, env, env' => env = env'
  | i, o :: r, none :: ms, env, env' => (D.contains i = false ∧ LXD P β N ops J D (i + 1) r ms env env') ∨ (D.contains i = true ∧ ∃ d v, o.dst = some d ∧ LXD P β N ops J D (i + 1) r ms ((d, v) :: env) env')
  | i, o :: r, some m :: ms, env, env' => ∃ d v, o.dst = some d ∧ d < N ∧ (∀ L, (∀ w, St β L w → St β (J m) w) → OpOk P β ops L o env v) ∧ LXD P β N ops J D (i + 1) r ms ((d, v) :: env) env'
  | _,_ :: _, [],_,_ => False

section
variable {ops : Array Oper} {env' : Env}
theorem LXD.nil {i : Nat} {ms : List (Option Nat)} : LXD P β N ops J D i [] ms env env := rfl
theorem LXD.s {i : Nat} {o : Oper} {rest : List Oper} {ms : List (Option Nat)} (hD : D.contains i = false) (k : LXD P β N ops J D (i + 1) rest ms env env') : LXD P β N ops J D i (o :: rest) (none :: ms) env env' := .inl ⟨hD, k⟩
theorem LXD.l {i m : Nat} {ms : List (Option Nat)} {d : Nat} {op : Op} {ty : TypeId} {pos : String} {aft : Array Edge} {rest : List Oper} {v : Value} (h : ∀ L, (∀ w, St β L w → St β (J m) w) → LO P β env L ⟨some d, op, ty, pos, aft, none⟩ v) (hd : Nat.blt d N = true)
    (k : LXD P β N ops J D (i + 1) rest ms ((d, v) :: env) env') : LXD P β N ops J D i (⟨some d, op, ty, pos, aft, none⟩ :: rest) (some m :: ms) env env' :=
  ⟨d, v, rfl, Nat.le_of_ble_eq_true hd, fun L hL => .inl ⟨rfl, h L hL⟩, k⟩
theorem LXD.lg {i m : Nat} {ms : List (Option Nat)} {d j t : Nat} {want c : Bool} {op : Op} {ty : TypeId} {pos : String} {aft : Array Edge} {rest : List Oper} {v u : Value} (hj : (ops[j]?).bind (·.dst) = some t) (ht : ev1 env t = some u) (hg : GD u want c)
    (h : c = true → ∀ L, (∀ w, St β L w → St β (J m) w) → LO P β env L ⟨some d, op, ty, pos, aft, some (j, want)⟩ v) (hd : Nat.blt d N = true)
    (k : LXD P β N ops J D (i + 1) rest ms ((d, gv c v) :: env) env') : LXD P β N ops J D i (⟨some d, op, ty, pos, aft, some (j, want)⟩ :: rest) (some m :: ms) env env' :=
  ⟨d, gv c v, rfl, Nat.le_of_ble_eq_true hd, fun L hL => .inr ⟨j, want, t, u, c, v, rfl, hj, ht, hg, fun hc => h hc L hL, rfl⟩, k⟩

theorem LXD.vals : ∀ {l : List Oper} {i : Nat} {ms : List (Option Nat)} {env env' : Env}, LXD P β N ops J D i l ms env env' →
    ∃ V : Nat → Value, env' = envK l (mD D i ms) V env l.length ∧ ∀ k o m, l[k]? = some o → ms[k]? = some (some m) → ∃ d, o.dst = some d ∧ d < N ∧ ∀ L, (∀ w, St β L w → St β (J m) w) → OpOk P β ops L o (envK l (mD D i ms) V env k) (V k)
  | [], i, ms, env, env', h => ⟨fun _ => undef, h.symm, by simp⟩
  | o :: r, i, none :: ms, env, env', h => by
    rcases h with ⟨hD, h⟩ | ⟨hD, d, v, hd, h⟩
    · obtain ⟨V, h1, h2⟩ := LXD.vals (l := r) (ms := ms) h
      have em : mD D i (none :: ms) = none :: mD D (i + 1) ms := by rw [mD, hD]; rfl
      have e : envK (o :: r) (none :: mD D (i + 1) ms) (shiftV undef V) env 1 = env := by simp [envK, isLight]
      have ec := envK_cons o r none (mD D (i + 1) ms) (shiftV undef V) env env e
      refine ⟨shiftV undef V, ?_, ?_⟩
      · simp only [List.length_cons]; rw [em, ec]; exact h1
      · intro k o' m hk hm
        cases k with
        | zero => simp at hm
        | succ k =>
          simp only [List.getElem?_cons_succ] at hk hm
          rw [em, ec]
          exact h2 k o' m hk hm
    · obtain ⟨V, h1, h2⟩ := LXD.vals (l := r) (ms := ms) h
      have em : mD D i (none :: ms) = some 0 :: mD D (i + 1) ms := by rw [mD, hD]; rfl
      have e : envK (o :: r) (some 0 :: mD D (i + 1) ms) (shiftV v V) env 1 = (d, v) :: env := by simp [envK, isLight, hd, shiftV]
      have ec := envK_cons o r (some 0) (mD D (i + 1) ms) (shiftV v V) env _ e
      refine ⟨shiftV v V, ?_, ?_⟩
      · simp only [List.length_cons]; rw [em, ec]; exact h1
      · intro k o' m hk hm
        cases k with
        | zero => simp at hm
        | succ k =>
          simp only [List.getElem?_cons_succ] at hk hm
          rw [em, ec]
          exact h2 k o' m hk hm
  | o :: r, i, some m0 :: ms, env, env', ⟨d, v, hd, hN, hok, hr⟩ => by
    obtain ⟨V, h1, h2⟩ := LXD.vals (l := r) (ms := ms) hr
    have em : mD D i (some m0 :: ms) = some m0 :: mD D (i + 1) ms := by rw [mD]; cases D.contains i <;> rfl
    have e : envK (o :: r) (some m0 :: mD D (i + 1) ms) (shiftV v V) env 1 = (d, v) :: env := by simp [envK, isLight, hd, shiftV]
    have ec := envK_cons o r (some m0) (mD D (i + 1) ms) (shiftV v V) env _ e
    refine ⟨shiftV v V, ?_, ?_⟩
    · simp only [List.length_cons]; rw [em, ec]; exact h1
    · intro k o' m hk hm
      cases k with
      | zero =>
        simp at hk hm
        subst hk; subst hm
        exact ⟨d, hd, hN, fun L hL => hok L hL⟩
      | succ k =>
        simp only [List.getElem?_cons_succ] at hk hm
        rw [em, ec]
        exact h2 k o' m hk hm
end

theorem ChkD.uq {l : List Oper} {ms : List (Option Nat)} {js : List (List Nat)} (hc : ChkD l ms js FT D) {i t k : Nat} (hi : D.contains i = true) (hd : dstIs l i t = true) (hk : k < l.length) (hw : dstIs l k t = true) : k = i := by
  obtain ⟨g1, g2, g3, d, g4, g5⟩ := hc.dd i hi
  have hdt : d = t := by
    unfold dstIs at hd
    cases r : l[i]? with
    | none => simp [r] at hd
    | some o =>
      simp only [r, Option.bind_some] at g4 hd
      simp only [g4] at hd
      exact Nat.eq_of_beq_eq_true hd
  exact g5 k hk (by rw [hdt]; exact hw)

end
end Go.SL

namespace Go.SL
set_option linter.unusedVariables false
set_option linter.unusedSimpArgs false
open Go.RowKit
section
variable {P : Program} {ro : Option Nat} {β : Bs} {N : Nat} {ds : List Deferred} {env : Env} {L : List Res} {Q : Exit → Act → World → Prop}
variable {ty : TypeId} {pos : String} {aft : Array Edge}

variable {dd : Option Nat}
/-- append(x, y...), x owned, y read. -/
theorem HO.appN {α : Type} {f : α → List Value} {l m : List α} (i : Nat) (LF : Res → List Res) {K : Value → List Res → Prop} {x y : Operand} {T T' E z by_ : Nat} {aT : Array TypeId} {zero : Value} {p q : Option Addr} {n n2 cap c2 : Nat} (hT : IsSlice P T E) (hT' : IsSlice P T' E) (hE : EInfo P E z by_ zero) (hx : OV env x (.slice p n cap)) (hy : OV env y (.slice q n2 c2))
    (hi : L[i]? = some (own E z p cap (l.map f))) (hq : ∀ w, St β L w → Go.SL.Rows w z q (m.map f)) (hz : ∀ a, (f a).length = z) (h1 : ∀ a, allOne (f a) = true) (ha0 : aT[0]? = some T) (ha1 : aT[1]? = some T') (hL : ∀ R : Res, L.set i R = LF R) (hn : n = l.length) (hn2 : n2 = m.length) (hs : (2 * (n + n2) + 768) * by_ ≤ 281474976710656)
    (k : ∀ p' cap', (m ≠ [] ∨ p ≠ none → p' ≠ none) → K (.slice p' (n + n2) cap') (LF (own E z p' cap' ((l ++ m).map f)))) : HO P β env L ⟨dd, .call ⟨.builtin .append, #[x, y], aT⟩, ty, pos, aft, none⟩ K := by
  intro a w h hw
  subst hn; subst hn2
  obtain ⟨p', cap', w', h2, h3, h4, h5⟩ := run_appendN (ty := ty) (c2 := c2) hw i hT hT' hE hi (hq w hw) (by intro r hr; obtain ⟨b,_, rfl⟩ := List.mem_map.1 hr; exact hz b) (by intro r hr; obtain ⟨b,_, rfl⟩ := List.mem_map.1 hr; exact h1 b) (by simpa using hs) ha0 ha1
  refine .inl ⟨_, w',_,_, ?_, .inl rfl, k p' cap' (fun q => q.elim (fun e => h4 (by simpa using e)) h5), ?_⟩
  · have ex : a.eval x = .slice p l.length cap := by obtain ⟨u, hu, e⟩ := hx; subst e; exact h x (by simp [Op.operands, Call.operands]) _ hu
    have ey : a.eval y = .slice q m.length c2 := by obtain ⟨u, hu, e⟩ := hy; subst e; exact h y (by simp [Op.operands, Call.operands]) _ hu
    simp only [List.length_map] at h2
    simp [execOp, resolve, invoke, builtin, ex, ey, h2]
  · rw [List.map_append, ← hL]; exact h3
end
end Go.SL

namespace Go.SL
set_option linter.unusedVariables false
/-- Rows of what 'f' encodes. -/
def RO {α : Type} (z : Nat) (f : α → List Value) (w : World) (p : Option Addr) (l : List α) : Prop := Go.SL.Rows w z p (l.map f)
section
variable {α : Type} {z : Nat} {f : α → List Value} {w0 w : World} {p : Option Addr} {l : List α} {L : List Res} {β : Bs}
theorem RO.sm (h : RO z f w p l) : SlSome p l.length := Go.SL.Rows.some h (by simp)
theorem RO.keep (h : RO z f w0 p l) : ∀ w, St (bs w0) L w → RO z f w p l := Go.SL.Rows.keep h
theorem RO.here (h : RO z f w p l) (d : α) {j : Nat} (hj : j < l.length) : Cells w ⟨pb p, po p + j * z, none⟩ (f (l.getD j d)) :=
  Go.SL.Rows.cells h j _ (by rw [List.getElem?_map, List.getElem?_eq_getElem hj]; simp [List.getD, List.getElem?_eq_getElem hj])
theorem RO.at (h : RO z f w0 p l) (d : α) {j : Nat} (hj : j < l.length) : ∀ w, St (bs w0) L w → Cells w ⟨pb p, po p + j * z, none⟩ (f (l.getD j d)) := fun w hw => (h.keep w hw).here d hj
theorem RO.of_own (hw : St β L w) (i : Nat) {E cap : Nat} (hi : L[i]? = some (own E z p cap (l.map f))) : RO z f w p l := own_rows hw i hi
theorem RO.ofC {b : Nat} (hz : ∀ x, (f x).length = z) (h : Cells w ⟨b, 0, none⟩ (l.map f).flatten) : RO z f w (some ⟨b, 0, none⟩) l := by
  refine ⟨fun j r hr i v hv => ?_, fun q => (by cases q), fun _ a q => (by cases q; rfl)⟩
  have hz' : ∀ r ∈ l.map f, r.length = z := fun r hr => by obtain ⟨x,_, rfl⟩ := List.mem_map.1 hr; exact hz x
  have := h (j * z + i) v (flatten_row hz' hr hv)
  have e1 : (⟨b, 0, none⟩ : Addr).add (j * z + i) = ⟨b, j * z + i, none⟩ := by unfold Addr.add; split <;> simp_all
  have e2 : (⟨pb (Option.some ⟨b, 0, none⟩), po (Option.some ⟨b, 0, none⟩) + j * z, none⟩ : Addr).add i = ⟨b, j * z + i, none⟩ := by unfold Addr.add; simp only [pb, po]; split <;> simp_all
  rw [e1] at this; rw [e2]; exact this
theorem RO.ofNil {c : Option Addr} (h : l = []) (h2 : c = none) : RO z f w c l := by
  subst h; subst h2
  exact ⟨fun j r hr => by simp at hr, fun _ => rfl, fun q => absurd rfl q⟩
theorem cells_part {w : World} {b o off : Nat} {C vs : List Value} (h : Cells w ⟨b, o, none⟩ C) (hv : ∃ r, C.drop off = vs ++ r) : Cells w ⟨b, o + off, none⟩ vs := by
  obtain ⟨r, hr⟩ := hv
  intro j v hj
  have h2 : C[off + j]? = some v := by
    rw [← List.getElem?_drop, hr, List.getElem?_append_left (by
      rcases Nat.lt_or_ge j vs.length with h | h
      · exact h
      · simp [List.getElem?_eq_none h] at hj)]
    exact hj
  have := h (off + j) v h2
  have e1 : (⟨b, o, none⟩ : Addr).add (off + j) = ⟨b, o + off + j, none⟩ := by unfold Addr.add; split <;> simp_all <;> omega
  have e2 : (⟨b, o + off, none⟩ : Addr).add j = ⟨b, o + off + j, none⟩ := by unfold Addr.add; split <;> simp_all
  rw [e2, ← e1]; exact this
end
end Go.SL

namespace Go.SL
set_option linter.unusedVariables false
open Go.RowKit

/-- Some resources as one: they are only read from now on. -/
def bag (Rs : List Res) : Res where
  fp := fun k => ∃ r, r ∈ Rs ∧ r.fp k
  inv := fun w => ∀ r, r ∈ Rs → r.inv w
  loc := fun h hi r hr => r.loc (fun k hk => h k ⟨r, hr, hk⟩) (hi r hr)

section
variable {β : Bs} {L : List Res} {w : World}
theorem St.bagNil (hw : St β L w) : St β (bag [] :: L) w := by
  have : St (bs w) [bag []] w := by
    refine ⟨rfl, rfl, rfl, Nat.le_refl _, fun _ _ _ => rfl, ?_, ?_, ?_⟩
    · intro i r hr
      cases i with
      | zero => simp at hr; subst hr; exact fun r hr => by cases hr
      | succ i => simp at hr
    · intro i r hr k hk
      cases i with
      | zero => simp at hr; subst hr; obtain ⟨r, hr,_⟩ := hk; cases hr
      | succ i => simp at hr
    · intro i j r s hij hr hs
      cases i with
      | zero => cases j with | zero => exact absurd rfl hij | succ j => simp at hs
      | succ i => simp at hr
  exact hw.call this
theorem St.bagIn {r : Res} {Rs : List Res} (h : St β (r :: bag Rs :: L) w) : St β (bag (Rs ++ [r]) :: L) w := by
  have mem : ∀ {x : Res}, x ∈ Rs ++ [r] → x ∈ Rs ∨ x = r := fun hx => by
    rcases List.mem_append.1 hx with q | q
    · exact .inl q
    · exact .inr (List.mem_singleton.1 q)
  refine ⟨h.os, h.tape, h.output, h.size, h.fr, ?_, ?_, ?_⟩
  · intro i s hs
    cases i with
    | zero =>
      simp at hs; subst hs
      intro x hx
      rcases mem hx with q | rfl
      · exact h.inv 1 (bag Rs) rfl x q
      · exact h.inv 0 x rfl
    | succ i => exact h.inv (i + 2) s (by simpa using hs)
  · intro i s hs k hk
    cases i with
    | zero =>
      simp at hs; subst hs
      obtain ⟨x, hx, hk⟩ := hk
      rcases mem hx with q | rfl
      · exact h.rng 1 (bag Rs) rfl k ⟨x, q, hk⟩
      · exact h.rng 0 x rfl k hk
    | succ i => exact h.rng (i + 2) s (by simpa using hs) k hk
  · have key : ∀ (j : Nat) (s : Res), (L[j]? = some s) → ∀ k, (bag (Rs ++ [r])).fp k → ¬ s.fp k := fun j s hs k hk hk2 => by
      obtain ⟨x, hx, hk⟩ := hk
      rcases mem hx with q | rfl
      · exact h.dis 1 (j + 2) (bag Rs) s (by omega) rfl (by simpa using hs) k ⟨x, q, hk⟩ hk2
      · exact h.dis 0 (j + 2) x s (by omega) rfl (by simpa using hs) k hk hk2
    intro i j a b hij ha hb k hk hk2
    cases i with
    | zero =>
      simp at ha; subst ha
      cases j with
      | zero => exact hij rfl
      | succ j => exact key j b (by simpa using hb) k hk hk2
    | succ i =>
      cases j with
      | zero => simp at hb; subst hb; exact key i a (by simpa using ha) k hk2 hk
      | succ j => exact h.dis (i + 2) (j + 2) a b (by omega) (by simpa using ha) (by simpa using hb) k hk hk2

theorem own_inv_rows {E z cap : Nat} {p : Option Addr} {rows : List (List Value)} (h : (own E z p cap rows).inv w) : Rows w z p rows := by
  obtain ⟨h1, h2, h3, h4⟩ := h
  refine ⟨?_, fun hp => (h3 hp).1, fun _ a ha => (h4 a ha).2.1⟩
  intro j r hr k v hv
  cases p with
  | none => rw [(h3 rfl).1] at hr; simp at hr
  | some a =>
    obtain ⟨g1, g2, C, s, g3, g4, g5⟩ := h4 a rfl
    have hadd : (⟨pb (some a), po (some a) + j * z, none⟩ : Addr).add k = ⟨a.block, j * z + k, none⟩ := by
      unfold Addr.add pb po; simp only [g1]; split <;> simp_all
    rw [hadd]
    simp only [World.cell?, g3, Option.isSome_none, Bool.false_eq_true, if_false]
    have : C.toList[j * z + k]? = some v := by
      rw [g4]
      have := flatten_row h2 hr hv
      rw [List.getElem?_append_left]
      · exact this
      · rcases Nat.lt_or_ge (j * z + k) rows.flatten.length with q | q
        · exact q
        · rw [List.getElem?_eq_none q] at this; cases this
    simpa using this

/-- A row of a slice of slices. -/
structure RowA (α : Type) where
  p : Option Addr
  c : Nat
  l : List α
def rowC {α : Type} (x : RowA α) : List Value := [.slice x.p x.l.length x.c]
def bagR {α : Type} (E z : Nat) (f : α → List Value) (rs : List (RowA α)) : Res := bag (rs.map fun x => own E z x.p x.c (x.l.map f))
/-- A slice of slices that is read. -/
def RR {α : Type} (z : Nat) (f : α → List Value) (w : World) (p : Option Addr) (rs : List (RowA α)) : Prop := RO 1 rowC w p rs ∧ ∀ x, x ∈ rs → x.l.length ≤ x.c ∧ RO z f w x.p x.l
theorem RR.keep {α : Type} {z : Nat} {f : α → List Value} {w0 : World} {p : Option Addr} {rs : List (RowA α)} (h : RR z f w0 p rs) : ∀ w, St (bs w0) L w → RR z f w p rs :=
  fun w hw => ⟨h.1.keep w hw, fun x hx => ⟨(h.2 x hx).1, (h.2 x hx).2.keep w hw⟩⟩
theorem RR.of_own {α : Type} {z : Nat} {f : α → List Value} {p : Option Addr} {rs : List (RowA α)} (hw : St β L w) (i j : Nat) {E E' cap : Nat} (hi : L[i]? = some (own E 1 p cap (rs.map rowC))) (hj : L[j]? = some (bagR E' z f rs)) : RR z f w p rs :=
  ⟨RO.of_own hw i hi, fun x hx => by
    have h := hw.inv j _ hj _ (List.mem_map_of_mem (f := fun x : RowA α => own E' z x.p x.c (x.l.map f)) hx)
    refine ⟨?_, own_inv_rows h⟩
    have := h.1
    rwa [List.length_map] at this⟩
theorem St.bagRNil {α : Type} (hw : St β L w) (E z : Nat) (f : α → List Value) : St β (bagR E z f [] :: L) w := hw.bagNil
theorem St.bagRIn {α : Type} {E z : Nat} {f : α → List Value} {rs : List (RowA α)} {x : RowA α} (h : St β (own E z x.p x.c (x.l.map f) :: bagR E z f rs :: L) w) : St β (bagR E z f (rs ++ [x]) :: L) w := by
  have := h.bagIn
  unfold bagR
  rw [List.map_append]
  exact this
end
end Go.SL

namespace Go.SL
set_option linter.unusedVariables false
open Go.RowKit

def Apart (r s : Res) : Prop := ∀ k, r.fp k → ¬ s.fp k
theorem Apart.symm {r s : Res} (h : Apart r s) : Apart s r := fun k hk hk2 => h k hk2 hk

section
variable {β : Bs} {L L' Rs : List Res} {w w' : World}

theorem St.mem (h : St β L w) {r : Res} (hr : r ∈ L) : r.inv w := by
  obtain ⟨i, hi⟩ := List.mem_iff_getElem?.1 hr
  exact h.inv i r hi
theorem St.rngM (h : St β L w) {r : Res} (hr : r ∈ L) : ∀ k, r.fp k → (β.O k ∨ β.w.heap.size ≤ k) ∧ k < w.heap.size := by
  obtain ⟨i, hi⟩ := List.mem_iff_getElem?.1 hr
  exact h.rng i r hi
theorem St.pw (h : St β L w) : L.Pairwise Apart := by
  rw [List.pairwise_iff_getElem]
  intro i j hi hj hij
  exact h.dis i j _ _ (by omega) (List.getElem?_eq_getElem hi) (List.getElem?_eq_getElem hj)
theorem st_mk (os : w.os = β.w.os) (tape : w.tape = β.w.tape) (output : w.output = β.w.output) (size : β.w.heap.size ≤ w.heap.size) (fr : ∀ k, k < β.w.heap.size → ¬ β.O k → w.heap[k]? = β.w.heap[k]?)
    (inv : ∀ r, r ∈ L → r.inv w) (rng : ∀ r, r ∈ L → ∀ k, r.fp k → (β.O k ∨ β.w.heap.size ≤ k) ∧ k < w.heap.size) (pw : L.Pairwise Apart) : St β L w := by
  refine ⟨os, tape, output, size, fr, fun i r hr => inv r (List.mem_of_getElem? hr), fun i r hr => rng r (List.mem_of_getElem? hr), ?_⟩
  intro i j r s hij hr hs
  obtain ⟨hi, rfl⟩ := List.getElem?_eq_some_iff.1 hr
  obtain ⟨hj, rfl⟩ := List.getElem?_eq_some_iff.1 hs
  have := List.pairwise_iff_getElem.1 pw
  rcases Nat.lt_or_gt_of_ne hij with q | q
  · exact this i j hi hj q
  · exact (this j i hj hi q).symm

/-- The resources in another order. -/
theorem St.perm (h : St β L w) (hp : L.Perm L') : St β L' w :=
  st_mk h.os h.tape h.output h.size h.fr (fun r hr => h.mem (hp.mem_iff.2 hr)) (fun r hr => h.rngM (hp.mem_iff.2 hr)) ((hp.pairwise_iff (fun h => Apart.symm h)).1 h.pw)

/-- Resources that lie apart, as one. -/
def bagD (Rs : List Res) : Res where
  fp := fun k => ∃ r, r ∈ Rs ∧ r.fp k
  inv := fun w => (∀ r, r ∈ Rs → r.inv w) ∧ Rs.Pairwise Apart
  loc := fun h hi => ⟨fun r hr => r.loc (fun k hk => h k ⟨r, hr, hk⟩) (hi.1 r hr), hi.2⟩

theorem St.unbagD (h : St β (bagD Rs :: L) w) : St β (Rs ++ L) w := by
  have hb := h.mem (List.mem_cons_self)
  have hp := List.pairwise_cons.1 h.pw
  refine st_mk h.os h.tape h.output h.size h.fr (fun r hr => ?_) (fun r hr k hk => ?_) ?_
  · rcases List.mem_append.1 hr with q | q
    · exact hb.1 r q
    · exact h.mem (List.mem_cons_of_mem _ q)
  · rcases List.mem_append.1 hr with q | q
    · exact h.rngM List.mem_cons_self k ⟨r, q, hk⟩
    · exact h.rngM (List.mem_cons_of_mem _ q) k hk
  · exact List.pairwise_append.2 ⟨hb.2, hp.2, fun r hr s hs k hk => hp.1 s hs k ⟨r, hr, hk⟩⟩

theorem St.bagD (h : St β (Rs ++ L) w) : St β (Go.SL.bagD Rs :: L) w := by
  obtain ⟨p1, p2, p3⟩ := List.pairwise_append.1 h.pw
  refine st_mk h.os h.tape h.output h.size h.fr (fun r hr => ?_) (fun r hr k hk => ?_) ?_
  · rcases List.mem_cons.1 hr with rfl | q
    · exact ⟨fun r hr => h.mem (List.mem_append_left _ hr), p1⟩
    · exact h.mem (List.mem_append_right _ q)
  · rcases List.mem_cons.1 hr with rfl | q
    · obtain ⟨s, hs, hk⟩ := hk
      exact h.rngM (List.mem_append_left _ hs) k hk
    · exact h.rngM (List.mem_append_right _ q) k hk
  · exact List.pairwise_cons.2 ⟨fun s hs k ⟨r, hr, hk⟩ => p3 r hr s hs k hk, p2⟩

/-- One of a bag is taken out. -/
theorem St.focus {A B : List Res} {r : Res} (h : St β (Go.SL.bagD (A ++ r :: B) :: L) w) : St β (r :: Go.SL.bagD (A ++ B) :: L) w := by
  have h1 := h.unbagD.perm (L' := (A ++ B) ++ (r :: L)) (by
    simp only [List.append_assoc, List.cons_append]
    exact List.Perm.append_left A (List.perm_middle.symm))
  exact (h1.bagD).perm (List.Perm.swap _ _ _)
/-- And put back, as it is now. -/
theorem St.unfocus {A B : List Res} {r : Res} (h : St β (r :: Go.SL.bagD (A ++ B) :: L) w) : St β (Go.SL.bagD (A ++ r :: B) :: L) w := by
  have h1 := (h.perm (List.Perm.swap _ _ _)).unbagD.perm (L' := (A ++ r :: B) ++ L) (by
    simp only [List.append_assoc, List.cons_append]
    exact List.Perm.append_left A List.perm_middle)
  exact h1.bagD

/-- At 'w' lie these resources. -/
def Has (w : World) (R : List Res) : Prop := St ⟨w, fpL R⟩ R w
theorem fpL_mem {R : List Res} {k : Nat} : fpL R k ↔ ∃ r, r ∈ R ∧ r.fp k :=
  ⟨fun ⟨i, r, hr, hk⟩ => ⟨r, List.mem_of_getElem? hr, hk⟩, fun ⟨r, hr, hk⟩ => by obtain ⟨i, hi⟩ := List.mem_iff_getElem?.1 hr; exact ⟨i, r, hi, hk⟩⟩
theorem has_mk {R : List Res} (h1 : ∀ r, r ∈ R → r.inv w) (h2 : ∀ r, r ∈ R → ∀ k, r.fp k → k < w.heap.size) (h3 : R.Pairwise Apart) : Has w R :=
  st_mk rfl rfl rfl (Nat.le_refl _) (fun _ _ _ => rfl) h1 (fun r hr k hk => ⟨.inl (fpL_mem.2 ⟨r, hr, hk⟩), h2 r hr k hk⟩) h3
theorem St.has {R : List Res} (h : St β L w) (hs : R.Sublist L) : Has w R :=
  has_mk (fun r hr => h.mem (hs.subset hr)) (fun r hr k hk => (h.rngM (hs.subset hr) k hk).2) (h.pw.sublist hs)
theorem St.hasL {R : List Res} (h : St β (R ++ L) w) : Has w R := h.has (List.sublist_append_left R L)
theorem Has.enter (h : Has w L) : St ⟨w, fpL L⟩ L w := h
end

section
variable {P : Program} {ro : Option Nat} {β : Bs} {N : Nat} {ds : List Deferred} {env : Env} {L : List Res} {Q : Exit → Act → World → Prop}
  {ty : TypeId} {pos : String} {aft : Array Edge} {g : Option (Nat × Bool)}

/-- Another list of resources, said by a lemma on states. -/
theorem VC.res {L' : List Res} {c : Code} (hL : ∀ w, St β L w → St β L' w) (h : VC P ro β N ds env L' c Q) : VC P ro β N ds env L c Q := fun a w ha hw => h a w ha (hL w hw)
end
end Go.SL

namespace Go.SL
set_option linter.unusedVariables false
open Go.RowKit

theorem flatten_set {z : Nat} : ∀ {rows : List (List Value)} {j o : Nat} {r vs : List Value}, (∀ r ∈ rows, r.length = z) → rows[j]? = some r → o + vs.length ≤ z →
    rows.flatten.take (j * z + o) ++ vs ++ rows.flatten.drop (j * z + o + vs.length) = (rows.set j (r.take o ++ vs ++ r.drop (o + vs.length))).flatten
  | [], j, o, r, vs,_, h,_ => by simp at h
  | x :: xs, 0, o, r, vs, hz, h, hl => by
    simp at h; subst h
    have hx : x.length = z := hz x (by simp)
    simp only [Nat.zero_mul, Nat.zero_add, List.flatten_cons, List.set_cons_zero]
    rw [List.take_append_of_le_length (by omega), List.drop_append_of_le_length (by omega)]
    simp only [List.append_assoc]
  | x :: xs, j + 1, o, r, vs, hz, h, hl => by
    have hx : x.length = z := hz x (by simp)
    have ih := flatten_set (rows := xs) (j := j) (o := o) (r := r) (vs := vs) (fun r hr => hz r (by simp [hr])) (by simpa using h) hl
    simp only [List.flatten_cons, List.set_cons_succ, ← ih]
    have e : (j + 1) * z + o = x.length + (j * z + o) := by rw [Nat.add_mul]; omega
    rw [e, List.take_length_add_append, show x.length + (j * z + o) + vs.length = x.length + (j * z + o + vs.length) by omega, List.drop_length_add_append]
    simp only [List.append_assoc]

section
variable {P : Program} {ro : Option Nat} {β : Bs} {N : Nat} {ds : List Deferred} {env : Env} {L : List Res} {Q : Exit → Act → World → Prop}
  {ty : TypeId} {pos : String} {aft : Array Edge} {g : Option (Nat × Bool)}

/-- A store into a part of an element. -/
theorem HO.sto (i : Nat) (LF : Res → List Res) {K : Value → List Res → Prop} {dd : Option Nat} {x y : Operand} {T E z cap j o q : Nat} {p : Option Addr} {rows : List (List Value)} {r : List Value} {v : Value} {vs : List Value} (hT : (P.info? T).map (·.size) = some vs.length) (hx : OV env x (.pointer (some ⟨pb p, q, none⟩))) (hy : OV env y v)
    (hi : L[i]? = some (own E z p cap rows)) (hj : rows[j]? = some r) (hq : q = po p + j * z + o) (hv : v.cells = vs.toArray) (hfit : o + vs.length ≤ z) (h1 : allOne vs = true) (hL : ∀ R : Res, L.set i R = LF R)
    (k : K undef (LF (own E z p cap (rows.set j (r.take o ++ vs ++ r.drop (o + vs.length)))))) : HO P β env L ⟨dd, .store T x y, ty, pos, aft, none⟩ K := by
  intro a w h hw
  have ex : a.eval x = .pointer (some ⟨pb p, q, none⟩) := by obtain ⟨u, hu, e⟩ := hx; subst e; exact h x (by simp [Op.operands]) _ hu
  have ey : a.eval y = v := by obtain ⟨u, hu, e⟩ := hy; subst e; exact h y (by simp [Op.operands]) _ hu
  obtain ⟨g1, g2, g3, g4⟩ := hw.inv i _ hi
  have hlt : i < L.length := by
    rcases Nat.lt_or_ge i L.length with q | q
    · exact q
    · simp [List.getElem?_eq_none q] at hi
  cases p with
  | none => rw [(g3 rfl).1] at hj; simp at hj
  | some ad =>
    obtain ⟨k1, k2, C, sp, k3, k4, k5⟩ := g4 ad rfl
    have hq' : q = j * z + o := by rw [hq]; simp only [po, k1]; omega
    have hjl : j < rows.length := (List.getElem?_eq_some_iff.1 hj).1
    have hfl : rows.flatten.length = rows.length * z := flatten_len g2
    have hle : j * z + o + vs.length ≤ rows.flatten.length := by
      rw [hfl]
      have : (j + 1) * z ≤ rows.length * z := Nat.mul_le_mul_right z hjl
      rw [Nat.add_mul] at this; omega
    have hCl : C.size = C.toList.length := by simp
    have hrun := run_store_blk (P := P) (o := q) hT hv k3 (by rw [hCl, k4, List.length_append]; omega) (allOne_spec h1)
    have hr : r.length = z := g2 r (List.mem_of_getElem? hj)
    have hC : C.toList.take q ++ vs ++ C.toList.drop (q + vs.length) = (rows.set j (r.take o ++ vs ++ r.drop (o + vs.length))).flatten ++ sp := by
      rw [← flatten_set g2 hj hfit, hq', k4, List.take_append_of_le_length (by omega), List.drop_append_of_le_length (by omega)]
      simp only [List.append_assoc]
    refine .inl ⟨.skip, w.setRow ad.block (C.toList.take q ++ vs ++ C.toList.drop (q + vs.length)).toArray, undef,_, ?_, .inr ⟨rfl, rfl⟩, k, ?_⟩
    · simp only [execOp, ex, ey, pb, Instr.storeAt, Instr.sureAddr, Sem.run_bind, Sem.run_pure, Result.andThen_ok, hrun]
    · rw [← hL]
      have s1 : St β (L.set i (blk ad.block (.cells C E))) w := hw.conv i hi (fun k hk => ⟨by simp, hk⟩) k3
      have hg : (L.set i (blk ad.block (.cells C E)))[i]? = some (blk ad.block (.cells C E)) := by simp [hlt]
      have s2 := s1.setRow (C' := (C.toList.take q ++ vs ++ C.toList.drop (q + vs.length)).toArray) hg
      rw [List.set_set] at s2
      have hg2 : (L.set i (blk ad.block (.cells (C.toList.take q ++ vs ++ C.toList.drop (q + vs.length)).toArray E)))[i]? = some (blk ad.block (.cells (C.toList.take q ++ vs ++ C.toList.drop (q + vs.length)).toArray E)) := by simp [hlt]
      have s3 := s2.conv i (r' := own E z (some ad) cap (rows.set j (r.take o ++ vs ++ r.drop (o + vs.length)))) hg2 (fun k hk => hk.2) (by
        refine ⟨by simpa using g1, ?_, fun e => (by cases e), ?_⟩
        · intro s hs
          rcases List.mem_or_eq_of_mem_set hs with q1 | q1
          · exact g2 s q1
          · subst q1; simp; omega
        · intro a' ha'
          cases ha'
          refine ⟨k1, k2,_, sp, s2.inv i _ hg2, by simpa using hC, ?_⟩
          simp only [List.size_toArray]
          have e1 : (C.toList.take q ++ vs ++ C.toList.drop (q + vs.length)).length = C.toList.length := by
            have := hle
            have : q + vs.length ≤ C.toList.length := by rw [k4, List.length_append]; omega
            simp; omega
          rw [e1, ← hCl, k5])
      rwa [List.set_set] at s3

end
end Go.SL

namespace Go.SL
set_option linter.unusedVariables false
open Go.RowKit

section
variable {P : Program} {ro : Option Nat} {β : Bs} {N : Nat} {ds : List Deferred} {env : Env} {L : List Res} {Q : Exit → Act → World → Prop}
  {ty : TypeId} {pos : String} {aft : Array Edge} {g : Option (Nat × Bool)}

theorem LO.mf2 {d : Option Nat} {fn : Fn} {ys xs : List Operand} {first cap : List Value} (hy : OVs env ys first) (hx : OVs env xs cap) : LO P β env L ⟨d, .makeFunc fn ys.toArray xs.toArray, ty, pos, aft, g⟩ (.func fn first.toArray cap.toArray) :=
  .of_run fun a w h hw => ⟨w, by
    have hm : xs.map a.eval = cap := hx.map fun x hm u hu => h x (by simp [Op.operands, hm]) u hu
    have hm2 : ys.map a.eval = first := hy.map fun x hm u hu => h x (by simp [Op.operands, hm]) u hu
    simp [execOp, Instr.makeFunc, hm, hm2], hw⟩

/-- A call that is handed some of the resources, and leaves others in their place. -/
theorem HO.callP {α : Type} (L1 L2 : List Res) {K : Value → List Res → Prop} {dd : Option Nat} {f : FuncId} {fx : Operand} {xs : List Operand} {vs first cap : List Value} {aT : Array TypeId} {v : α → Value} {R : α → List Res} {I : α → Prop} (hL : ∀ w, St β L w → St β (L1 ++ L2) w) (hfx : OV env fx (.func (.func f) first.toArray cap.toArray)) (hf : IsFn P f) (hx : OVs env xs vs)
    (hc : ∀ w, St β L w → Has w L1 → Calls P f (first ++ vs ++ cap).toArray w fun e w' => ∃ x, I x ∧ e = .returned (v x) ∧ St ⟨w, fpL L1⟩ (R x) w') (k : ∀ x, I x → K (v x) (R x ++ L2)) : HO P β env L ⟨dd, .call ⟨.value fx, xs.toArray, aT⟩, ty, pos, aft, none⟩ K := by
  intro a w h hw
  refine .inr (.inl ⟨f, (first ++ vs ++ cap).toArray, ?_, ?_⟩)
  · have hm : xs.map a.eval = vs := hx.map fun x hm u hu => by obtain ⟨u', hu', e⟩ := hu; subst e; exact h x (by simp [Op.operands, Call.operands, hm]) u' hu'
    have hfe : a.eval fx = .func (.func f) first.toArray cap.toArray := by obtain ⟨u', hu', e⟩ := hfx; subst e; exact h fx (by simp [Op.operands, Call.operands]) _ hu'
    simp [execOp, resolve, hfe, Deferred.ofValue, invoke, run_call hf, hm]
  · have hw2 : St β (L1 ++ L2) w := hL w hw
    exact (hc w hw hw2.hasL).mono fun e w' ⟨x, hI, he, hs⟩ => ⟨v x,_, he, k x hI, hw2.callG (fun k hk => hk) hs⟩
end
end Go.SL

namespace Go.SL
set_option linter.unusedVariables false
open Go.RowKit

section
variable {P : Program} {ro : Option Nat} {β : Bs} {N : Nat} {ds : List Deferred} {env : Env} {L : List Res} {Q : Exit → Act → World → Prop}
  {ty : TypeId} {pos : String} {aft : Array Edge} {g : Option (Nat × Bool)}

theorem rep_flat {zs : Array Value} (hz : 0 < zs.size) : ∀ n, (List.range (n * zs.size)).map (fun i => zs[i % zs.size]!) = (List.replicate n zs.toList).flatten
  | 0 => by simp
  | n + 1 => by
    rw [List.replicate_succ', List.flatten_append, ← rep_flat hz n, Nat.add_mul, Nat.one_mul, List.range_add, List.map_append]
    congr 1
    rw [List.map_map]
    simp only [List.flatten_cons, List.flatten_nil, List.append_nil]
    refine List.ext_getElem? fun i => ?_
    rw [List.getElem?_map]
    rcases Nat.lt_or_ge i zs.size with h | h
    · rw [List.getElem?_range h]
      simp only [Option.map_some, Function.comp]
      have e : (n * zs.size + i) % zs.size = i := by rw [Nat.mul_comm, Nat.mul_add_mod, Nat.mod_eq_of_lt h]
      rw [e, getElem!_pos zs i h]
      simp [h]
    · rw [List.getElem?_eq_none (by simpa using h), List.getElem?_eq_none (by simpa using h)]; rfl

theorem mk_cells {zero : Value} {z : Nat} (h4 : zero.cells.size = z) (hz1 : 0 < z) (n : Nat) : ((Array.range (n * z)).map fun i => zero.cells[i % zero.cells.size]!) = (List.replicate n zero.cells.toList).flatten.toArray := by
  rw [← rep_flat (by omega), h4]; apply Array.ext'; simp
set_option maxRecDepth 8000 in
theorem run_mks {T E z by_ n : Nat} {zero : Value} (hT : IsSlice P T E) (hE : EInfo P E z by_ zero) (hz1 : 0 < z) (hn : by_ * n ≤ 281474976710656) (hn2 : n ≤ 281474976710656) (w : World) : (Instr.makeSlice T (.int .i64 (n : Int)) (.int .i64 (n : Int))).run P w = .ok (.slice (some ⟨w.heap.size, 0, none⟩) n n) (w.alloc (.cells (List.replicate n zero.cells.toList).flatten.toArray E)) := by
  obtain ⟨h1, h2, h3, h4, h5⟩ := hE
  have hw64 : IntKind.wrap .i64 (n : Int) = n := wi (by omega) (by omega)
  obtain ⟨i, hi, hib⟩ := run_bytes h2 w
  have hcells := mk_cells h4 hz1 n
  have t1 : decide ((by_ : Int) * n > 2 ^ 48) = false := by
    have h1 : (by_ : Int) * n ≤ 281474976710656 := by omega
    have h2 : ¬ ((n : Int) < 0) := by omega
    have h3 : ¬ ((by_ : Int) * n > 281474976710656) := by omega
    rw [show ((2 : Int) ^ 48) = 281474976710656 from rfl, decide_eq_false h3]
  have c1 : decide ((n : Int) < 0) = false := by rw [decide_eq_false_iff_not]; omega
  have c2 : decide ((n : Int) > n) = false := by rw [decide_eq_false_iff_not]; omega
  unfold Instr.makeSlice
  rw [Sem.run_bind, run_underlying hT, Result.andThen_ok]
  have ha : (asInt (.int .i64 (n : Int))).run P w = .ok (n : Int) w := rfl
  dsimp only
  rw [Sem.run_bind, ha, Result.andThen_ok, Sem.run_bind, ha, Result.andThen_ok, Sem.run_bind, hi, Result.andThen_ok]
  simp only [hib, hw64, t1, c1, c2, Bool.or_self, Bool.false_eq_true, if_false, Sem.run_bind, run_askRoom, Result.andThen_ok, run_size h1, Int.toNat_natCast]
  by_cases q : n * z = 0
  · have hn0 : n = 0 := by
      rcases Nat.mul_eq_zero.1 q with q | q
      · exact q
      · omega
    subst hn0
    simp [newRow, run_newObj]
    congr 2
    exact Array.ext' (by simp [Array.toList_range])
  · simp only [q, if_false, Sem.run_bind, run_zero h3, Result.andThen_ok, Sem.run_pure, hcells, newRow, run_newObj]
    rfl
/-- A slice that is made. -/
theorem HO.mks {K : Value → List Res → Prop} {dd : Option Nat} {x y : Operand} {T E z by_ n : Nat} {zero : Value} {e : Int} (hT : IsSlice P T E) (hE : EInfo P E z by_ zero) (hx : OV env x (.int .i64 e)) (hy : OV env y (.int .i64 e)) (he : e = (n : Int)) (hz1 : 0 < z) (hn : by_ * n ≤ 281474976710656) (hn2 : n ≤ 281474976710656)
    (k : ∀ b, K (.slice (some ⟨b, 0, none⟩) n n) (own E z (some ⟨b, 0, none⟩) n (List.replicate n zero.cells.toList) :: L)) : HO P β env L ⟨dd, .makeSlice T x y, ty, pos, aft, none⟩ K := by
  intro a w h hw
  have ex : a.eval x = .int .i64 e := by obtain ⟨u, hu, q⟩ := hx; subst q; exact h x (by simp [Op.operands]) _ hu
  have ey : a.eval y = .int .i64 e := by obtain ⟨u, hu, q⟩ := hy; subst q; exact h y (by simp [Op.operands]) _ hu
  subst he
  have hrun := run_mks hT hE hz1 hn hn2 w
  obtain ⟨h1, h2, h3, h4, h5⟩ := hE
  have hfl : ∀ n, (List.replicate n zero.cells.toList).flatten.length = n * z := fun n => by
    rw [flatten_len (z := z) (fun r hr => by rw [(List.mem_replicate.1 hr).2, Array.length_toList, h4])]; simp
  refine .inl ⟨_, w.alloc (.cells (List.replicate n zero.cells.toList).flatten.toArray E),_,_, ?_, .inl rfl, k w.heap.size, ?_⟩
  · simp only [execOp, ex, ey, Sem.run_bind, hrun, Result.andThen_ok, Sem.run_pure]
  · have s1 := hw.alloc (.cells (List.replicate n zero.cells.toList).flatten.toArray E)
    exact s1.conv 0 (r' := own E z (some ⟨w.heap.size, 0, none⟩) n (List.replicate n zero.cells.toList)) rfl (fun k hk => hk.2) ⟨by simp, fun r hr => by rw [(List.mem_replicate.1 hr).2, Array.length_toList, h4], fun q => (by cases q), fun a' ha' => by
      cases ha'
      exact ⟨rfl, rfl,_, [], heap_alloc_new w _, by simp, by rw [List.size_toArray, hfl]⟩⟩
theorem LO.shr {d : Option Nat} {x y : Operand} {xT yT : TypeId} {k k' : IntKind} {m n : Int} (hx : OV env x (.int k m)) (hy : OV env y (.int k' n)) (hn : 0 ≤ n) : LO P β env L ⟨d, .binOp .shr xT x y yT, ty, pos, aft, g⟩ (.int k (m.fdiv (2 ^ (Min.min n.toNat k.bits)))) :=
  .of_run fun a w h hw => ⟨w, by
    have hn2 : ¬ n < 0 := by omega
    simp [execOp, h x (by simp [Op.operands]) _ hx, h y (by simp [Op.operands]) _ hy, eqGuard, binOp, Op.shift, hn2], hw⟩
end
end Go.SL

namespace Go.SL
set_option linter.unusedVariables false
open Go.RowKit

section
variable {P : Program} {ro : Option Nat} {β : Bs} {N : Nat} {ds : List Deferred} {env : Env} {L : List Res} {Q : Exit → Act → World → Prop}
  {ty : TypeId} {pos : String} {aft : Array Edge} {g : Option (Nat × Bool)}

theorem VC.rebase {c : Code} (h : ∀ w1, St β L w1 → VC P ro (bs w1) N ds env [] c Q) : VC P ro β N ds env L c Q := fun a w ha hw => h w hw a w ha (St.refl w)
theorem St.based {w0 w1 w2 : World} {L L' : List Res} (h : St (bs w0) L w1) (k : St (bs w1) L' w2) : St (bs w0) [] w2 := (h.call k).nil

/-- A slice that is made, as rows of what a function encodes. -/
theorem HO.mksM {α : Type} {f : α → List Value} {z0 : α} {K : Value → List Res → Prop} {dd : Option Nat} {x y : Operand} {T E z by_ n : Nat} {zero : Value} {e : Int} (hf : zero.cells.toList = f z0) (hT : IsSlice P T E) (hE : EInfo P E z by_ zero) (hx : OV env x (.int .i64 e)) (hy : OV env y (.int .i64 e)) (he : e = (n : Int)) (hz1 : 0 < z) (hn : by_ * n ≤ 281474976710656) (hn2 : n ≤ 281474976710656)
    (k : ∀ b, K (.slice (some ⟨b, 0, none⟩) n n) (own E z (some ⟨b, 0, none⟩) n ((List.replicate n z0).map f) :: L)) : HO P β env L ⟨dd, .makeSlice T x y, ty, pos, aft, none⟩ K :=
  HO.mks hT hE hx hy he hz1 hn hn2 fun b => by
    have := k b
    rw [List.map_replicate, ← hf] at this
    exact this

/-- A whole element is stored. -/
theorem HO.stm {α : Type} {f : α → List Value} {l : List α} (i : Nat) (LF : Res → List Res) (v0 : α) {K : Value → List Res → Prop} {dd : Option Nat} {x y : Operand} {T E z cap j q : Nat} {p : Option Addr} {v : Value} {vs : List Value} (hT : (P.info? T).map (·.size) = some vs.length) (hx : OV env x (.pointer (some ⟨pb p, q, none⟩))) (hy : OV env y v)
    (hi : L[i]? = some (own E z p cap (l.map f))) (hj : j < l.length) (hq : q = po p + j * z) (hv : v.cells = vs.toArray) (hfv : f v0 = vs) (hz : vs.length = z) (h1 : allOne vs = true) (hL : ∀ R : Res, L.set i R = LF R)
    (k : K undef (LF (own E z p cap ((l.set j v0).map f)))) : HO P β env L ⟨dd, .store T x y, ty, pos, aft, none⟩ K := by
  obtain ⟨r, hr⟩ : ∃ r, (l.map f)[j]? = some r := ⟨_, List.getElem?_eq_getElem (by simpa using hj)⟩
  intro a w h hw
  have hrz : r.length = z := (hw.inv i _ hi).2.1 r (List.mem_of_getElem? hr)
  refine HO.sto i LF (o := 0) (vs := vs) (rows := l.map f) (r := r) (j := j) hT hx hy hi hr (by rw [hq]; rfl) hv (by omega) h1 hL ?_ a w h hw
  have e : (l.map f).set j (r.take 0 ++ vs ++ r.drop (0 + vs.length)) = (l.set j v0).map f := by
    rw [List.map_set, hfv, List.take_zero, List.nil_append, Nat.zero_add, hz, ← hrz, List.drop_length, List.append_nil]
  rw [e]
  exact k

end
end Go.SL

namespace Go.SL
set_option linter.unusedVariables false
open Go.RowKit
section
variable {P : Program} {β : Bs} {N : Nat} {env : Env} {L : List Res} {ty : TypeId} {pos : String} {aft : Array Edge} {dd : Option Nat}
theorem HO.mksB {K : Value → List Res → Prop} {x y : Operand} {T E z by_ n : Nat} {zero : Value} {e : Int} (hT : IsSlice P T E) (hE : EInfo P E z by_ zero) (hx : OV env x (.int .i64 e)) (hy : OV env y (.int .i64 e)) (he : e = (n : Int)) (hz1 : 0 < z) (hn : by_ * n ≤ 281474976710656) (hn2 : n ≤ 281474976710656)
    (k : ∀ b, K (.slice (some ⟨b, 0, none⟩) n n) (blk b (.cells (List.replicate n zero.cells.toList).flatten.toArray E) :: L)) : HO P β env L ⟨dd, .makeSlice T x y, ty, pos, aft, none⟩ K := by
  intro a w h hw
  have ex : a.eval x = .int .i64 e := by obtain ⟨u, hu, q⟩ := hx; subst q; exact h x (by simp [Op.operands]) _ hu
  have ey : a.eval y = .int .i64 e := by obtain ⟨u, hu, q⟩ := hy; subst q; exact h y (by simp [Op.operands]) _ hu
  subst he
  have hrun := run_mks hT hE hz1 hn hn2 w
  refine .inl ⟨_, w.alloc (.cells (List.replicate n zero.cells.toList).flatten.toArray E),_,_, ?_, .inl rfl, k w.heap.size, hw.alloc _⟩
  simp only [execOp, ex, ey, Sem.run_bind, hrun, Result.andThen_ok, Sem.run_pure]
theorem HO.cpy (i : Nat) (LF : Res → List Res) {K : Value → List Res → Prop} {x y : Operand} {T T2 E b o dl dc sl sc : Nat} {a0 : Addr} {C C' : Array Value} {cs : List Value} (hT : IsSlice P T E) (hz : (P.info? E).map (·.size) = some 1)
    (hx : OV env x (.slice (some ⟨b, o, none⟩) dl dc)) (hy : OV env y (.slice (some a0) sl sc)) (hi : L[i]? = some (blk b (.cells C E))) (hn : cs.length = Nat.min sl dl) (hsrc : ∀ w, St β L w → ∀ (j : Nat) (v : Value), cs[j]? = some v → w.cell? (a0.add j) = some v)
    (hfit : o + cs.length ≤ C.size) (h1 : ∀ v ∈ cs, v.oneCell' = true) (hC : (C.toList.take o ++ cs ++ C.toList.drop (o + cs.length)).toArray = C') (hL : ∀ R : Res, L.set i R = LF R)
    (k : K (.int .i64 cs.length) (LF (blk b (.cells C' E)))) : HO P β env L ⟨dd, .call ⟨.builtin .copy, #[x, y], #[T, T2]⟩, ty, pos, aft, none⟩ K := by
  intro a w h hw
  have ex : a.eval x = .slice (some ⟨b, o, none⟩) dl dc := by obtain ⟨u, hu, e⟩ := hx; subst e; exact h x (by simp [Op.operands, Call.operands]) _ hu
  have ey : a.eval y = .slice (some a0) sl sc := by obtain ⟨u, hu, e⟩ := hy; subst e; exact h y (by simp [Op.operands, Call.operands]) _ hu
  have hg : w.heap[b]? = some (.cells C E (0,0)) := hw.inv i _ hi
  have hrun := run_copy_row (P := P) w T T2 ty E b o dl dc a0 sl sc C E cs hT hz hg hn (hsrc w hw) hfit h1
  refine .inl ⟨.value (.int .i64 cs.length), w.setRow b C',_, LF (blk b (.cells C' E)), ?_, .inl rfl, k, ?_⟩
  · rw [hC] at hrun
    simp [execOp, resolve, invoke, builtin, ex, ey, hrun, goInt]
  · rw [← hL]; exact hw.setRow hi
theorem slFrom_lt {b n k : Nat} (h : k < n) : slFrom (some ⟨b, 0, none⟩) n k 1 = some ⟨b, k, none⟩ := by
  unfold slFrom
  rw [if_neg (by omega)]
  simp [Addr.add]
  omega
end
end Go.SL

namespace Go.SL
set_option linter.unusedVariables false
open Go.RowKit

/-- What an iterator value promises whose order is open: what comes next is one of 'Nx' of what has come; it ends where 'En' holds. -/
def SeqG (P : Program) (gf : FuncId) (lb : List Value) (Cap : World → Prop) (Nx : List (List Value) → List Value → Prop) (En : List (List Value) → Prop) : Prop :=
  ∀ (l : Nat) (J Jx : List (List Value) → Res → Prop) (w : World) (r0 : Res),
    (∀ n r w, J n r → r.inv w → Cap w) →
    (∀ n vs, Nx n vs → ∀ r w1, J n r → r.inv w1 → (∀ k, r.fp k → k < w1.heap.size) → (w1.os = w.os ∧ w1.tape = w.tape ∧ w1.output = w.output ∧ w.heap.size ≤ w1.heap.size) → YieldsTo P l vs w1 fun e w' => ∃ b r', e = .returned (.bool b) ∧ (if b then J (n ++ [vs]) r' else Jx (n ++ [vs]) r') ∧ St ⟨w1, r.fp⟩ [r'] w') →
    J [] r0 → r0.inv w → (∀ k, r0.fp k → k < w.heap.size) →
    Calls P gf (yv l :: lb).toArray w fun e w' => e = .returned (.tuple #[]) ∧ ∃ n r', ((En n ∧ J n r') ∨ Jx n r') ∧ St ⟨w, r0.fp⟩ [r'] w'

section
variable {P : Program} {ro : Option Nat} {β : Bs} {ds : List Deferred} {N : Nat} {env : Env} {L : List Res} {Q : Exit → Act → World → Prop}
/-! ### A range over a map -/
variable {d : Option Nat} {ty : TypeId} {pos : String} {aft : Array Edge} {g : Option (Nat × Bool)}
variable {K : Value → List Res → Prop} {dd : Option Nat}
theorem run_next_map_at (w : World) (ir : Nat) (ty : TypeId) (bm since c0 : Nat) (seen : Array Nat) (es : Array MapEntry) (clock : Nat) (hi : w.heap[ir]? = some (.mapIter (some bm) since seen c0)) (hb : w.heap[bm]? = some (.map es clock)) (hold : ∀ x ∈ es.toList, x.born < since) (hsc : since ≤ c0) :
    ((leftOf es seen).size = 0 ∧ (Instr.next (.pointer (some ⟨ir, 0, none⟩)) false ty).run P w = .ok (.tuple #[.bool false]) w) ∨
    ∃ e ∈ (leftOf es seen).toList, ∃ n : Nat, (Instr.next (.pointer (some ⟨ir, 0, none⟩)) false ty).run P w = .ok (.tuple #[.bool true, e.key, e.val]) (({ w with drawn := n } : World).putObj ir (.mapIter (some bm) since (seen.push e.born) clock)) := by
  simp only [Instr.next, getObj, Sem.run_bind, Sem.run, hi, hb, Result.andThen, next_test_false seen es since c0 hold hsc, Bool.false_eq_true, if_false]
  unfold leftOf
  have hmem : ∀ x ∈ (Array.filter (fun e => !seen.contains e.born) es).toList, x.born < since := fun x hx => hold x (by simp at hx ⊢; exact hx.1)
  generalize Array.filter (fun e => !seen.contains e.born) es = L at hmem ⊢
  have e1 : L.filter (fun x => decide (x.born < since)) = L := Array.filter_eq_self.2 (fun x hx => by simpa using hmem x (by simpa using hx))
  have e2 : L.filter (fun x => decide (x.born ≥ since)) = #[] := by
    rw [Array.filter_eq_empty_iff]
    intro x hx
    have := hmem x (by simpa using hx)
    simp
    omega
  simp only [e1, e2, Array.append_empty]
  by_cases h0 : L.size = 0
  · left
    have : L = #[] := Array.eq_empty_of_size_eq_zero h0
    subst this
    refine ⟨rfl, ?_⟩
    simp [choose, Sem.run, Question.forced]
  · right
    have hne : L.isEmpty = false := by simp [Array.isEmpty, h0]
    simp only [hne, Bool.false_eq_true, if_false, Array.empty_append, Array.size_map]
    have hch : ∃ (j : Nat) (n : Nat), j < L.size ∧ (choose (Question.mapNext L.size)).run P w = .ok j ({ w with drawn := n } : World) := by
      by_cases hf : L.size ≤ 1
      · exact ⟨0, w.drawn, by omega, by simp [choose, Sem.run, Question.forced, hf]⟩
      · exact ⟨_,_, Nat.mod_lt _ (by omega), by
          simp only [choose, Sem.run, Question.forced, decide_eq_true_eq, hf, if_false, Question.cut]
          rfl⟩
    obtain ⟨j, n, hj, hrun⟩ := hch
    refine ⟨L[j], by simp, n, ?_⟩
    have hset : (setObj ir (.mapIter (some bm) since (seen.push L[j].born) clock)).run P ({ w with drawn := n } : World) = .ok () (({ w with drawn := n } : World).putObj ir (.mapIter (some bm) since (seen.push L[j].born) clock)) := by
      simp only [setObj, Sem.run, hi]; rfl
    simp only [hrun, Array.getElem?_map, Array.getElem?_eq_getElem hj, Option.map_some, Sem.run_bind, hset, Result.andThen]
    rfl

theorem HO.rangeM {T k e : Nat} {x : Operand} {b : Nat} {es : Array MapEntry} {clock : Nat} (hT : P.underlying T = some (.map k e)) (hx : ev env x = some (.map (some b))) (hc : ∀ w, St β L w → w.heap[b]? = some (.map es clock))
    (kk : ∀ ib, K (.pointer (some ⟨ib, 0, none⟩)) (blk ib (.mapIter (some b) clock #[] clock) :: L)) : HO P β env L ⟨dd, .range T x, ty, pos, aft, g⟩ K := by
  intro a w h hw
  refine .inl ⟨_, w.alloc (.mapIter (some b) clock #[] clock),_,_, ?_, .inl rfl, kk w.heap.size, hw.alloc _⟩
  simp [execOp, h x (by simp [Op.operands]) _ hx, run_range_map w T k e b es clock hT (hc w hw)]
/-- One more of the entries, whichever, or none is left. -/
theorem HO.nextM (i : Nat) (LF : Res → List Res) {x : Operand} {b ib since c0 clock : Nat} {seen : Array Nat} {es : Array MapEntry} (hx : ev env x = some (.pointer (some ⟨ib, 0, none⟩))) (hi : L[i]? = some (blk ib (.mapIter (some b) since seen c0))) (hL : ∀ R : Res, L.set i R = LF R)
    (hc : ∀ w, St β L w → w.heap[b]? = some (.map es clock)) (hold : ∀ x ∈ es.toList, x.born < since) (hsc : since ≤ c0)
    (k0 : (leftOf es seen).size = 0 → K (.tuple #[.bool false]) L) (k1 : ∀ e, e ∈ (leftOf es seen).toList → K (.tuple #[.bool true, e.key, e.val]) (LF (blk ib (.mapIter (some b) since (seen.push e.born) clock)))) : HO P β env L ⟨dd, .next x false, ty, pos, aft, g⟩ K := by
  intro a w h hw
  have hb : w.heap[ib]? = some (.mapIter (some b) since seen c0) := hw.inv i _ hi
  rcases run_next_map_at (P := P) w ib ty b since c0 seen es clock hb (hc w hw) hold hsc with ⟨h0, hr⟩ | ⟨e, he, n, hr⟩
  · refine .inl ⟨_, w,_,_, ?_, .inl rfl, k0 h0, hw⟩
    simp [execOp, h x (by simp [Op.operands]) _ hx, hr]
  · refine .inl ⟨_, ({ w with drawn := n } : World).putObj ib (.mapIter (some b) since (seen.push e.born) clock), .tuple #[.bool true, e.key, e.val], LF (blk ib (.mapIter (some b) since (seen.push e.born) clock)), ?_, .inl rfl, k1 e he, ?_⟩
    · simp [execOp, h x (by simp [Op.operands]) _ hx, hr]
    · rw [← hL]
      exact (hw.drew n).obj i hi
end
end Go.SL

namespace Go.SL
set_option linter.unusedVariables false
open Go.RowKit
section
variable {P : Program} {ro : Option Nat} {β : Bs} {ds : List Deferred} {N : Nat} {env : Env} {L : List Res} {Q : Exit → Act → World → Prop}
variable {d : Option Nat} {ty : TypeId} {pos : String} {aft : Array Edge} {g : Option (Nat × Bool)}
variable {K : Value → List Res → Prop} {dd : Option Nat}

theorem run_entry_at (w : World) (ir bm since : Nat) (seen : Array Nat) (es : Array MapEntry) (clock : Nat) (e : MapEntry) (hi : w.heap[ir]? = some (.mapIter (some bm) since (seen.push e.born) clock)) (hb : w.heap[bm]? = some (.map es clock)) (he : e ∈ es.toList) (hn : (es.toList.map (·.born)).Nodup) :
    (Instr.entry (.pointer (some ⟨ir, 0, none⟩))).run P w = .ok (.tuple #[e.key, e.val]) w := by
  have hf : es.find? (·.born == e.born) = some e := by rw [← Array.find?_toList]; exact find_born e es.toList hn he
  simp only [Instr.entry, getObj, Sem.run_bind, Sem.run, hi, hb, Result.andThen, Array.back?_push, bne_self_eq_false, Bool.false_eq_true, if_false, hf]
  rfl
theorem LO.entry {x : Operand} {ib b since clock : Nat} {seen : Array Nat} {es : Array MapEntry} {e : MapEntry} (hx : OV env x (.pointer (some ⟨ib, 0, none⟩))) (hi : ∀ w, St β L w → w.heap[ib]? = some (.mapIter (some b) since (seen.push e.born) clock)) (hc : ∀ w, St β L w → w.heap[b]? = some (.map es clock)) (he : e ∈ es.toList) (hn : (es.toList.map (·.born)).Nodup) : LO P β env L ⟨d, .entry x, ty, pos, aft, g⟩ (.tuple #[e.key, e.val]) :=
  .of_run fun a w h hw => ⟨w, by
    have := run_entry_at (P := P) w ib b since seen es clock e (hi w hw) (hc w hw) he hn
    simp [execOp, h x (by simp [Op.operands]) _ hx, this], hw⟩
theorem HO.nextM0 (i : Nat) {x : Operand} {b ib since c0 clock : Nat} {seen : Array Nat} {es : Array MapEntry} (hx : ev env x = some (.pointer (some ⟨ib, 0, none⟩))) (hi : L[i]? = some (blk ib (.mapIter (some b) since seen c0)))
    (hc : ∀ w, St β L w → w.heap[b]? = some (.map es clock)) (hold : ∀ x ∈ es.toList, x.born < since) (hsc : since ≤ c0) (h0 : (leftOf es seen).size = 0)
    (k : K (.tuple #[.bool false]) L) : HO P β env L ⟨dd, .next x false, ty, pos, aft, g⟩ K :=
  HO.nextM i (fun R => L.set i R) hx hi (fun _ => rfl) hc hold hsc (fun _ => k) (fun e he => by
    have : (leftOf es seen).toList.length = 0 := by rw [Array.length_toList]; exact h0
    rw [List.length_eq_zero_iff.1 this] at he; cases he)
theorem HO.nextM1 (i : Nat) (LF : Res → List Res) {x : Operand} {b ib since c0 clock : Nat} {seen : Array Nat} {es : Array MapEntry} (hx : ev env x = some (.pointer (some ⟨ib, 0, none⟩))) (hi : L[i]? = some (blk ib (.mapIter (some b) since seen c0))) (hL : ∀ R : Res, L.set i R = LF R)
    (hc : ∀ w, St β L w → w.heap[b]? = some (.map es clock)) (hold : ∀ x ∈ es.toList, x.born < since) (hsc : since ≤ c0) (h0 : ¬ (leftOf es seen).size = 0)
    (k : ∀ e, e ∈ (leftOf es seen).toList → K (.tuple #[.bool true, e.key, e.val]) (LF (blk ib (.mapIter (some b) since (seen.push e.born) clock)))) : HO P β env L ⟨dd, .next x false, ty, pos, aft, g⟩ K :=
  HO.nextM i LF hx hi hL hc hold hsc (fun h => absurd h h0) k

theorem HO.bs0 {T E z : Nat} (hT : IsSlice P T E) (hs : (P.info? E).map (·.size) = some z) (k : ∀ b, K (.slice (some ⟨b, 0, none⟩) 0 0) (own E z (some ⟨b, 0, none⟩) 0 [] :: L)) : HO P β env L ⟨dd, .buildSlice T 0 #[], ty, pos, aft, none⟩ K := by
  intro a w h hw
  refine .inl ⟨_, w.alloc (.cells #[] E),_,_, ?_, .inl rfl, k w.heap.size, ?_⟩
  · simp [execOp, Instr.buildSlice, run_underlying hT, run_size hs, Instr.fill, newRow]
    rw [Array.eq_empty_of_size_eq_zero (xs := Array.map (fun x => default) (Array.range 0)) (by simp)]
  · have h1 := hw.alloc (.cells #[] E)
    have := h1.conv 0 (r' := own E z (some ⟨w.heap.size, 0, none⟩) 0 []) rfl (fun k hk => hk.2) ⟨by simp, by simp, fun q => (by cases q), fun a ha => by cases ha; exact ⟨rfl, rfl, #[], [], h1.inv 0 _ rfl, rfl, by simp⟩⟩
    simpa using this
theorem LO.cap {T E : Nat} {x : Operand} {p : Option Addr} {n c : Nat} {aT : Array TypeId} (hT : IsSlice P T E) (hx : OV env x (.slice p n c)) (ha : aT[0]? = some T) : LO P β env L ⟨d, .call ⟨.builtin .cap, #[x], aT⟩, ty, pos, aft, g⟩ (.int .i64 c) :=
  .of_run fun a w h hw => ⟨w, by simp [execOp, resolve, invoke, builtin, h x (by simp [Op.operands, Call.operands]) _ hx, Builtin.cap_, ha, run_underlying hT, goInt], hw⟩
theorem LO.slH {T E z : Nat} {x j : Operand} {p : Option Addr} {n c k : Nat} {e : Int} (hT : IsSlice P T E) (hz : (P.info? E).map (·.size) = some z) (hx : OV env x (.slice p n c)) (hj : OV env j (.int .i64 e)) (he : e = (k : Int)) (hk : k ≤ c) : LO P β env L ⟨d, .slice T x none (some j) none, ty, pos, aft, g⟩ (.slice p k c) :=
  .of_run fun a w h hw => ⟨w, by
    subst he
    have h0 : ∀ q : Addr, q.add 0 = q := fun q => by simp [Addr.add]
    have h2 : p.map (fun x => x.add 0) = p := by cases p <;> simp [h0]
    simp [execOp, h x (by simp [Op.operands]) _ hx, h j (by simp [Op.operands]) _ hj, Instr.sliceAt, run_underlying hT, Instr.slice, Instr.sliceBounds, Instr.sliceBound, asIntOf, hk, run_size hz, h2], hw⟩
end
end Go.SL

namespace Go.SL
set_option linter.unusedVariables false
open Go.RowKit
section
variable {P : Program} {β : Bs} {env : Env} {L L' : List Res}
variable {ty : TypeId} {pos : String} {aft : Array Edge} {dd : Option Nat}
/-- append(x, y...), x empty and owned, y read. -/
theorem HO.appN0 {α : Type} {f : α → List Value} {m : List α} (i : Nat) (LF : Res → List Res) {K : Value → List Res → Prop} {x y : Operand} {T T' E z by_ : Nat} {aT : Array TypeId} {zero : Value} {p q : Option Addr} {n2 cap c2 : Nat} (hT : IsSlice P T E) (hT' : IsSlice P T' E) (hE : EInfo P E z by_ zero) (hx : OV env x (.slice p 0 cap)) (hy : OV env y (.slice q n2 c2))
    (hi : L[i]? = some (own E z p cap [])) (hq : ∀ w, St β L w → Go.SL.Rows w z q (m.map f)) (hz : ∀ a, (f a).length = z) (h1 : ∀ a, allOne (f a) = true) (ha0 : aT[0]? = some T) (ha1 : aT[1]? = some T') (hL : ∀ R : Res, L.set i R = LF R) (hn2 : n2 = m.length) (hs : (2 * n2 + 768) * by_ ≤ 281474976710656)
    (k : ∀ p' cap', (m ≠ [] ∨ p ≠ none → p' ≠ none) → K (.slice p' n2 cap') (LF (own E z p' cap' (m.map f)))) : HO P β env L ⟨dd, .call ⟨.builtin .append, #[x, y], aT⟩, ty, pos, aft, none⟩ K :=
  HO.appN (f := f) (l := []) (m := m) i LF hT hT' hE hx hy hi hq hz h1 ha0 ha1 hL rfl hn2 (by rw [Nat.zero_add]; exact hs) (fun p' c' h => by rw [Nat.zero_add]; exact k p' c' h)
end
end Go.SL

namespace Go.SL
set_option linter.unusedVariables false
open Go.RowKit

theorem stamps_set {es : List MapEntry} {j c : Nat} {e : MapEntry} {k v : Value} (h : Stamps es c) (hj : es[j]? = some e) : Stamps (es.set j ⟨k, v, e.born⟩) c := by
  have hm : (es.set j ⟨k, v, e.born⟩).map (·.born) = es.map (·.born) := by
    rw [List.map_set]
    refine List.ext_getElem? fun i => ?_
    by_cases q : j = i
    · subst q
      have := (List.getElem?_eq_some_iff.1 hj).1
      rw [List.getElem?_set_self (by simpa using this), List.getElem?_map, hj]; rfl
    · rw [List.getElem?_set_ne q]
  refine ⟨by rw [hm]; exact h.1, fun x hx => ?_⟩
  have : x.born ∈ (es.set j ⟨k, v, e.born⟩).map (·.born) := List.mem_map_of_mem hx
  rw [hm] at this
  obtain ⟨y, h1, h2⟩ := List.mem_map.1 this
  rw [← h2]; exact h.2 y h1
theorem stamps_push {es : List MapEntry} {c : Nat} {k v : Value} (h : Stamps es c) : Stamps (es ++ [⟨k, v, c⟩]) (c + 1) := by
  refine ⟨?_, fun x hx => ?_⟩
  · rw [List.map_append, List.nodup_append]
    refine ⟨h.1, by simp, ?_⟩
    intro a ha b hb
    obtain ⟨x, hx, rfl⟩ := List.mem_map.1 ha
    have := h.2 x hx
    simp at hb
    omega
  · rcases List.mem_append.1 hx with q | q
    · have := h.2 x q; omega
    · have := List.mem_singleton.1 q; subst this; exact Nat.lt_succ_self _
theorem modify_set {es : Array MapEntry} {j : Nat} {e : MapEntry} {f : MapEntry → MapEntry} (hj : es.toList[j]? = some e) : (es.modify j f).toList = es.toList.set j (f e) := by
  refine List.ext_getElem? fun i => ?_
  have hjl := (List.getElem?_eq_some_iff.1 hj).1
  rw [Array.toList_modify]
  by_cases q : j = i
  · subst q
    rw [List.getElem?_modify_eq, hj, List.getElem?_set_self hjl]; rfl
  · rw [List.getElem?_set_ne q]; simp [List.getElem?_modify, q]

section
variable {P : Program} {ro : Option Nat} {β : Bs} {N : Nat} {ds : List Deferred} {env : Env} {L : List Res} {Q : Exit → Act → World → Prop}
variable {d : Option Nat} {ty : TypeId} {pos : String} {aft : Array Edge} {g : Option (Nat × Bool)}
section
variable {K : Value → List Res → Prop} {dd : Option Nat}
theorem skip_of {s : Sem Unit} {w w' : World} (h : s.run P w = .ok () w') : (s.run P w).andThen (fun _ w => .ok Next.skip w) = .ok Next.skip w' := by rw [h]; rfl
end
end
/-! What is left of a range over a map. -/
theorem left_mem {es : Array MapEntry} {seen : Array Nat} {e : MapEntry} : e ∈ (leftOf es seen).toList ↔ e ∈ es.toList ∧ e.born ∉ seen := by
  unfold leftOf
  simp
theorem left_lt {es : Array MapEntry} {seen : Array Nat} {e : MapEntry} (he : e ∈ (leftOf es seen).toList) : (leftOf es (seen.push e.born)).size < (leftOf es seen).size := by
  have sz : ∀ s : Array Nat, (leftOf es s).size = (es.toList.filter fun x => !s.contains x.born).length := fun s => by unfold leftOf; rw [← Array.toList_filter, Array.length_toList]
  rw [sz, sz]
  unfold leftOf at he
  rw [Array.toList_filter] at he
  have e1 : es.toList.filter (fun x => !(seen.push e.born).contains x.born) = (es.toList.filter fun x => !seen.contains x.born).filter fun x => !(x.born == e.born) := by
    rw [List.filter_filter]
    refine List.filter_congr fun x _ => ?_
    simp only [Array.contains_push]
    cases seen.contains x.born <;> cases h : (x.born == e.born) <;> simp_all
  rw [e1]
  exact List.length_filter_lt_length_iff_exists.2 ⟨e, he, by simp⟩
theorem left_end {es : Array MapEntry} {seen : Array Nat} (h : (leftOf es seen).size = 0) {e : MapEntry} (he : e ∈ es.toList) : e.born ∈ seen := by
  refine Classical.byContradiction fun q => ?_
  have := left_mem.2 ⟨he, q⟩
  rw [List.eq_nil_of_length_eq_zero (l := (leftOf es seen).toList) (by rw [Array.length_toList]; exact h)] at this
  cases this
end Go.SL
