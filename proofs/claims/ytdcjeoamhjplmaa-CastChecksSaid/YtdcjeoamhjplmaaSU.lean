/-
  The entry of a range over a map; empty literals, capacities, slices up to a bound, zeros that are appended.
-/
import Derived.Test.YtdcjeoamhjplmaaSV
import Derived.Test.YtdcjeoamhjplmaaSG
namespace Go.SL
set_option linter.unusedVariables false
open Go.RowKit
section
variable {P : Program} {ro : Option Nat} {β : Bs} {ds : List Deferred} {N : Nat} {env : Env} {L : List Res} {Q : Exit → Act → World → Prop}
variable {d : Option Nat} {ty : TypeId} {pos : String} {aft : Array Edge} {g : Option (Nat × Bool)}
variable {K : Value → List Res → Prop} {dd : Option Nat}

theorem find_stamp {e : MapEntry} : ∀ {l : List MapEntry}, (l.map (·.born)).Nodup → e ∈ l → l.find? (·.born == e.born) = some e := fun {l} hn he => find_born e l hn he
theorem run_entry_at (w : World) (ir bm since : Nat) (seen : Array Nat) (es : Array MapEntry) (clock : Nat) (e : MapEntry) (hi : w.heap[ir]? = some (.mapIter (some bm) since (seen.push e.born) clock)) (hb : w.heap[bm]? = some (.map es clock)) (he : e ∈ es.toList) (hn : (es.toList.map (·.born)).Nodup) :
    (Instr.entry (.pointer (some ⟨ir, 0, none⟩))).run P w = .ok (.tuple #[e.key, e.val]) w := by
  have hf : es.find? (·.born == e.born) = some e := by rw [← Array.find?_toList]; exact find_born e es.toList hn he
  simp only [Instr.entry, getObj, Sem.run_bind, Sem.run, hi, hb, Result.andThen, Array.back?_push, bne_self_eq_false, Bool.false_eq_true, if_false, hf]
  rfl
theorem LO.entry {x : Operand} {ib b since clock : Nat} {seen : Array Nat} {es : Array MapEntry} {e : MapEntry} (hx : OV env x (.pointer (some ⟨ib, 0, none⟩))) (hi : ∀ w, St β L w → w.heap[ib]? = some (.mapIter (some b) since (seen.push e.born) clock)) (hc : ∀ w, St β L w → w.heap[b]? = some (.map es clock)) (he : e ∈ es.toList) (hn : (es.toList.map (·.born)).Nodup) : LO P β env L ⟨d, .entry x, ty, pos, aft, g⟩ (.tuple #[e.key, e.val]) :=
  .of_run fun a w h hw => ⟨w, by
    have := run_entry_at (P := P) w ib b since seen es clock e (hi w hw) (hc w hw) he hn
    simp [execOp, h x (by simp [Op.operands]) _ hx, this], hw⟩
theorem HO.nextM0 (i : Nat) {x : Operand} {b ib since c0 clock : Nat} {seen : Array Nat} {es : Array MapEntry} (hx : ev env x = some (.pointer (some ⟨ib, 0, none⟩))) (hi : L[i]? = some (blk ib (.mapIter (some b) since seen c0)))
    (hc : ∀ w, St β L w → w.heap[b]? = some (.map es clock)) (hold : ∀ x ∈ es.toList, x.born < since) (hsc : since ≤ c0) (h0 : (leftOf es seen).size = 0)
    (k : K (.tuple #[.bool false]) L) : HO P β env L ⟨dd, .next x false, ty, pos, aft, g⟩ K :=
  HO.nextM i (fun R => L.set i R) hx hi (fun _ => rfl) hc hold hsc (fun _ => k) (fun e he => by
    have : (leftOf es seen).toList.length = 0 := by rw [Array.length_toList]; exact h0
    rw [List.length_eq_zero_iff.1 this] at he; cases he)
theorem HO.nextM1 (i : Nat) (LF : Res → List Res) {x : Operand} {b ib since c0 clock : Nat} {seen : Array Nat} {es : Array MapEntry} (hx : ev env x = some (.pointer (some ⟨ib, 0, none⟩))) (hi : L[i]? = some (blk ib (.mapIter (some b) since seen c0))) (hL : ∀ R : Res, L.set i R = LF R)
    (hc : ∀ w, St β L w → w.heap[b]? = some (.map es clock)) (hold : ∀ x ∈ es.toList, x.born < since) (hsc : since ≤ c0) (h0 : ¬ (leftOf es seen).size = 0)
    (k : ∀ e, e ∈ (leftOf es seen).toList → K (.tuple #[.bool true, e.key, e.val]) (LF (blk ib (.mapIter (some b) since (seen.push e.born) clock)))) : HO P β env L ⟨dd, .next x false, ty, pos, aft, g⟩ K :=
  HO.nextM i LF hx hi hL hc hold hsc (fun h => absurd h h0) k

theorem HO.bs0 {T E z : Nat} (hT : IsSlice P T E) (hs : (P.info? E).map (·.size) = some z) (k : ∀ b, K (.slice (some ⟨b, 0, none⟩) 0 0) (own E z (some ⟨b, 0, none⟩) 0 [] :: L)) : HO P β env L ⟨dd, .buildSlice T 0 #[], ty, pos, aft, none⟩ K := by
  intro a w h hw
  refine .inl ⟨_, w.alloc (.cells #[] E), _, _, ?_, .inl rfl, k w.heap.size, ?_⟩
  · simp [execOp, Instr.buildSlice, run_underlying hT, run_size hs, Instr.fill, newRow]
    rw [Array.eq_empty_of_size_eq_zero (xs := Array.map (fun x => default) (Array.range 0)) (by simp)]
  · have h1 := hw.alloc (.cells #[] E)
    have := h1.conv 0 (r' := own E z (some ⟨w.heap.size, 0, none⟩) 0 []) rfl (fun k hk => hk.2) ⟨by simp, by simp, fun q => (by cases q), fun a ha => by cases ha; exact ⟨rfl, rfl, #[], [], h1.inv 0 _ rfl, rfl, by simp⟩⟩
    simpa using this
theorem LO.cap {T E : Nat} {x : Operand} {p : Option Addr} {n c : Nat} {aT : Array TypeId} (hT : IsSlice P T E) (hx : OV env x (.slice p n c)) (ha : aT[0]? = some T) : LO P β env L ⟨d, .call ⟨.builtin .cap, #[x], aT⟩, ty, pos, aft, g⟩ (.int .i64 c) :=
  .of_run fun a w h hw => ⟨w, by simp [execOp, resolve, invoke, builtin, h x (by simp [Op.operands, Call.operands]) _ hx, Builtin.cap_, ha, run_underlying hT, goInt], hw⟩
theorem LO.slH {T E z : Nat} {x j : Operand} {p : Option Addr} {n c k : Nat} {e : Int} (hT : IsSlice P T E) (hz : (P.info? E).map (·.size) = some z) (hx : OV env x (.slice p n c)) (hj : OV env j (.int .i64 e)) (he : e = (k : Int)) (hk : k ≤ c) : LO P β env L ⟨d, .slice T x none (some j) none, ty, pos, aft, g⟩ (.slice p k c) :=
  .of_run fun a w h hw => ⟨w, by
    subst he
    have h0 : ∀ q : Addr, q.add 0 = q := fun q => by simp [Addr.add]
    have h2 : p.map (fun x => x.add 0) = p := by cases p <;> simp [h0]
    simp [execOp, h x (by simp [Op.operands]) _ hx, h j (by simp [Op.operands]) _ hj, Instr.sliceAt, run_underlying hT, Instr.slice, Instr.sliceBounds, Instr.sliceBound, asIntOf, hk, run_size hz, h2], hw⟩
end
end Go.SL
