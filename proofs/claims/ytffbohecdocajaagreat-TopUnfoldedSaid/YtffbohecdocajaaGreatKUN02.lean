/-
  Stores into a slice that is owned, and values of interfaces. No program stands in this text.
  The rest of an owned slice is cleared; calls that are handed resources from anywhere. No program stands in this text.
  Slices that are made, shifts and lowest bits. No program stands in this text.
  A new base in the midst of a walk: all that lies there is old from now on. Whole elements stored into slices. No program stands in this text.
  The entry of a range over a map; empty literals, capacities, slices up to a bound, zeros that are appended.
  Empty literals among blocks whose order is open.
  Maps from int to int, and assertions about the type of what lies in an interface. No program stands in this text.
  Maps from keys of any kind, and keys that are structs of two cells. No program stands in this text.
  A new base at which some resources stay in hand; one of a bag by its number. No program stands in this text.
  Comparisons with nil, the length of a map, one cell of a block at a place that is not a number: for a small program logic.
  Slices of the call's own that begin behind the first cell of their block.
  Resources in another order, ahead of a tail that stays.
  Ranges over functions inside loops: the marks of deferred calls that they leave are a list that grows.
  Ranges over functions inside loops, whose round's assignment lays blocks (a variable of its own in each round). No program stands in this text.
  A method value that is called; an element of a short slice by a number that is computed. No program stands in this text.
  Compound assignments to entries of maps, and entries that are deleted. No program stands in this text.
-/
import Derived.Test.YtffbohecdocajaaGreatKUN01
import Derived.Laws.CopyRow
import Derived.Laws.IdiomRangeMap

set_option linter.unusedSimpArgs false
namespace Go.SL
set_option linter.unusedVariables false
open Go.RowKit

theorem flatten_set {z : Nat} : ∀ {rows : List (List Value)} {j o : Nat} {r vs : List Value}, (∀ r ∈ rows, r.length = z) → rows[j]? = some r → o + vs.length ≤ z →
    rows.flatten.take (j * z + o) ++ vs ++ rows.flatten.drop (j * z + o + vs.length) = (rows.set j (r.take o ++ vs ++ r.drop (o + vs.length))).flatten
  | [], j, o, r, vs,_, h,_ => by simp at h
  | x :: xs, 0, o, r, vs, hz, h, hl => by
    simp at h; subst h
    have hx : x.length = z := hz x (by simp)
    simp only [Nat.zero_mul, Nat.zero_add, List.flatten_cons, List.set_cons_zero]
    rw [List.take_append_of_le_length (by omega), List.drop_append_of_le_length (by omega)]
    simp only [List.append_assoc]
  | x :: xs, j + 1, o, r, vs, hz, h, hl => by
    have hx : x.length = z := hz x (by simp)
    have ih := flatten_set (rows := xs) (j := j) (o := o) (r := r) (vs := vs) (fun r hr => hz r (by simp [hr])) (by simpa using h) hl
    simp only [List.flatten_cons, List.set_cons_succ, ← ih]
    have e : (j + 1) * z + o = x.length + (j * z + o) := by rw [Nat.add_mul]; omega
    rw [e, List.take_length_add_append, show x.length + (j * z + o) + vs.length = x.length + (j * z + o + vs.length) by omega, List.drop_length_add_append]
    simp only [List.append_assoc]

section
variable {P : Program} {ro : Option Nat} {β : Bs} {N : Nat} {ds : List Deferred} {env : Env} {L : List Res} {Q : Exit → Act → World → Prop}
  {ty : TypeId} {pos : String} {aft : Array Edge} {g : Option (Nat × Bool)}

/-- A store into a part of an element. -/
theorem HO.sto (i : Nat) (LF : Res → List Res) {K : Value → List Res → Prop} {dd : Option Nat} {x y : Operand} {T E z cap j o q : Nat} {p : Option Addr} {rows : List (List Value)} {r : List Value} {v : Value} {vs : List Value} (hT : (P.info? T).map (·.size) = some vs.length) (hx : OV env x (.pointer (some ⟨pb p, q, none⟩))) (hy : OV env y v)
    (hi : L[i]? = some (own E z p cap rows)) (hj : rows[j]? = some r) (hq : q = po p + j * z + o) (hv : v.cells = vs.toArray) (hfit : o + vs.length ≤ z) (h1 : allOne vs = true) (hL : ∀ R : Res, L.set i R = LF R)
    (k : K undef (LF (own E z p cap (rows.set j (r.take o ++ vs ++ r.drop (o + vs.length)))))) : HO P β env L ⟨dd, .store T x y, ty, pos, aft, none⟩ K := by
  intro a w h hw
  have ex : a.eval x = .pointer (some ⟨pb p, q, none⟩) := by obtain ⟨u, hu, e⟩ := hx; subst e; exact h x (by simp [Op.operands]) _ hu
  have ey : a.eval y = v := by obtain ⟨u, hu, e⟩ := hy; subst e; exact h y (by simp [Op.operands]) _ hu
  obtain ⟨g1, g2, g3, g4⟩ := hw.inv i _ hi
  have hlt : i < L.length := by
    rcases Nat.lt_or_ge i L.length with q | q
    · exact q
    · simp [List.getElem?_eq_none q] at hi
  cases p with
  | none => rw [(g3 rfl).1] at hj; simp at hj
  | some ad =>
    obtain ⟨k1, k2, C, sp, k3, k4, k5⟩ := g4 ad rfl
    have hq' : q = j * z + o := by rw [hq]; simp only [po, k1]; omega
    have hjl : j < rows.length := (List.getElem?_eq_some_iff.1 hj).1
    have hfl : rows.flatten.length = rows.length * z := flatten_len g2
    have hle : j * z + o + vs.length ≤ rows.flatten.length := by
      rw [hfl]
      have : (j + 1) * z ≤ rows.length * z := Nat.mul_le_mul_right z hjl
      rw [Nat.add_mul] at this; omega
    have hCl : C.size = C.toList.length := by simp
    have hrun := run_store_blk (P := P) (o := q) hT hv k3 (by rw [hCl, k4, List.length_append]; omega) (allOne_spec h1)
    have hr : r.length = z := g2 r (List.mem_of_getElem? hj)
    have hC : C.toList.take q ++ vs ++ C.toList.drop (q + vs.length) = (rows.set j (r.take o ++ vs ++ r.drop (o + vs.length))).flatten ++ sp := by
      rw [← flatten_set g2 hj hfit, hq', k4, List.take_append_of_le_length (by omega), List.drop_append_of_le_length (by omega)]
      simp only [List.append_assoc]
    refine .inl ⟨.skip, w.setRow ad.block (C.toList.take q ++ vs ++ C.toList.drop (q + vs.length)).toArray, undef,_, ?_, .inr ⟨rfl, rfl⟩, k, ?_⟩
    · simp only [execOp, ex, ey, pb, Instr.storeAt, Instr.sureAddr, Sem.run_bind, Sem.run_pure, Result.andThen_ok, hrun]
    · rw [← hL]
      have s1 : St β (L.set i (blk ad.block (.cells C E))) w := hw.conv i hi (fun k hk => ⟨by simp, hk⟩) k3
      have hg : (L.set i (blk ad.block (.cells C E)))[i]? = some (blk ad.block (.cells C E)) := by simp [hlt]
      have s2 := s1.setRow (C' := (C.toList.take q ++ vs ++ C.toList.drop (q + vs.length)).toArray) hg
      rw [List.set_set] at s2
      have hg2 : (L.set i (blk ad.block (.cells (C.toList.take q ++ vs ++ C.toList.drop (q + vs.length)).toArray E)))[i]? = some (blk ad.block (.cells (C.toList.take q ++ vs ++ C.toList.drop (q + vs.length)).toArray E)) := by simp [hlt]
      have s3 := s2.conv i (r' := own E z (some ad) cap (rows.set j (r.take o ++ vs ++ r.drop (o + vs.length)))) hg2 (fun k hk => hk.2) (by
        refine ⟨by simpa using g1, ?_, fun e => (by cases e), ?_⟩
        · intro s hs
          rcases List.mem_or_eq_of_mem_set hs with q1 | q1
          · exact g2 s q1
          · subst q1; simp; omega
        · intro a' ha'
          cases ha'
          refine ⟨k1, k2,_, sp, s2.inv i _ hg2, by simpa using hC, ?_⟩
          simp only [List.size_toArray]
          have e1 : (C.toList.take q ++ vs ++ C.toList.drop (q + vs.length)).length = C.toList.length := by
            have := hle
            have : q + vs.length ≤ C.toList.length := by rw [k4, List.length_append]; omega
            simp; omega
          rw [e1, ← hCl, k5])
      rwa [List.set_set] at s3

end
end Go.SL

namespace Go.SL
set_option linter.unusedVariables false
open Go.RowKit

section
variable {P : Program} {ro : Option Nat} {β : Bs} {N : Nat} {ds : List Deferred} {env : Env} {L : List Res} {Q : Exit → Act → World → Prop}
  {ty : TypeId} {pos : String} {aft : Array Edge} {g : Option (Nat × Bool)}

theorem LO.mf2 {d : Option Nat} {fn : Fn} {ys xs : List Operand} {first cap : List Value} (hy : OVs env ys first) (hx : OVs env xs cap) : LO P β env L ⟨d, .makeFunc fn ys.toArray xs.toArray, ty, pos, aft, g⟩ (.func fn first.toArray cap.toArray) :=
  .of_run fun a w h hw => ⟨w, by
    have hm : xs.map a.eval = cap := hx.map fun x hm u hu => h x (by simp [Op.operands, hm]) u hu
    have hm2 : ys.map a.eval = first := hy.map fun x hm u hu => h x (by simp [Op.operands, hm]) u hu
    simp [execOp, Instr.makeFunc, hm, hm2], hw⟩

/-- A call that is handed some of the resources, and leaves others in their place. -/
theorem HO.callP {α : Type} (L1 L2 : List Res) {K : Value → List Res → Prop} {dd : Option Nat} {f : FuncId} {fx : Operand} {xs : List Operand} {vs first cap : List Value} {aT : Array TypeId} {v : α → Value} {R : α → List Res} {I : α → Prop} (hL : ∀ w, St β L w → St β (L1 ++ L2) w) (hfx : OV env fx (.func (.func f) first.toArray cap.toArray)) (hf : IsFn P f) (hx : OVs env xs vs)
    (hc : ∀ w, St β L w → Has w L1 → Calls P f (first ++ vs ++ cap).toArray w fun e w' => ∃ x, I x ∧ e = .returned (v x) ∧ St ⟨w, fpL L1⟩ (R x) w') (k : ∀ x, I x → K (v x) (R x ++ L2)) : HO P β env L ⟨dd, .call ⟨.value fx, xs.toArray, aT⟩, ty, pos, aft, none⟩ K := by
  intro a w h hw
  refine .inr (.inl ⟨f, (first ++ vs ++ cap).toArray, ?_, ?_⟩)
  · have hm : xs.map a.eval = vs := hx.map fun x hm u hu => by obtain ⟨u', hu', e⟩ := hu; subst e; exact h x (by simp [Op.operands, Call.operands, hm]) u' hu'
    have hfe : a.eval fx = .func (.func f) first.toArray cap.toArray := by obtain ⟨u', hu', e⟩ := hfx; subst e; exact h fx (by simp [Op.operands, Call.operands]) _ hu'
    simp [execOp, resolve, hfe, Deferred.ofValue, invoke, run_call hf, hm]
  · have hw2 : St β (L1 ++ L2) w := hL w hw
    exact (hc w hw hw2.hasL).mono fun e w' ⟨x, hI, he, hs⟩ => ⟨v x,_, he, k x hI, hw2.callG (fun k hk => hk) hs⟩
end
end Go.SL

namespace Go.SL
set_option linter.unusedVariables false
open Go.RowKit

section
variable {P : Program} {ro : Option Nat} {β : Bs} {N : Nat} {ds : List Deferred} {env : Env} {L : List Res} {Q : Exit → Act → World → Prop}
  {ty : TypeId} {pos : String} {aft : Array Edge} {g : Option (Nat × Bool)}

theorem rep_flat {zs : Array Value} (hz : 0 < zs.size) : ∀ n, (List.range (n * zs.size)).map (fun i => zs[i % zs.size]!) = (List.replicate n zs.toList).flatten
  | 0 => by simp
  | n + 1 => by
    rw [List.replicate_succ', List.flatten_append, ← rep_flat hz n, Nat.add_mul, Nat.one_mul, List.range_add, List.map_append]
    congr 1
    rw [List.map_map]
    simp only [List.flatten_cons, List.flatten_nil, List.append_nil]
    refine List.ext_getElem? fun i => ?_
    rw [List.getElem?_map]
    rcases Nat.lt_or_ge i zs.size with h | h
    · rw [List.getElem?_range h]
      simp only [Option.map_some, Function.comp]
      have e : (n * zs.size + i) % zs.size = i := by rw [Nat.mul_comm, Nat.mul_add_mod, Nat.mod_eq_of_lt h]
      rw [e, getElem!_pos zs i h]
      simp [h]
    · rw [List.getElem?_eq_none (by simpa using h), List.getElem?_eq_none (by simpa using h)]; rfl

theorem mk_cells {zero : Value} {z : Nat} (h4 : zero.cells.size = z) (hz1 : 0 < z) (n : Nat) : ((Array.range (n * z)).map fun i => zero.cells[i % zero.cells.size]!) = (List.replicate n zero.cells.toList).flatten.toArray := by
  rw [← rep_flat (by omega), h4]; apply Array.ext'; simp
set_option maxRecDepth 8000 in
theorem run_mks {T E z by_ n : Nat} {zero : Value} (hT : IsSlice P T E) (hE : EInfo P E z by_ zero) (hz1 : 0 < z) (hn : by_ * n ≤ 281474976710656) (hn2 : n ≤ 281474976710656) (w : World) : (Instr.makeSlice T (.int .i64 (n : Int)) (.int .i64 (n : Int))).run P w = .ok (.slice (some ⟨w.heap.size, 0, none⟩) n n) (w.alloc (.cells (List.replicate n zero.cells.toList).flatten.toArray E)) := by
  obtain ⟨h1, h2, h3, h4, h5⟩ := hE
  have hw64 : IntKind.wrap .i64 (n : Int) = n := wi (by omega) (by omega)
  obtain ⟨i, hi, hib⟩ := run_bytes h2 w
  have hcells := mk_cells h4 hz1 n
  have t1 : decide ((by_ : Int) * n > 2 ^ 48) = false := by
    have h1 : (by_ : Int) * n ≤ 281474976710656 := by omega
    have h2 : ¬ ((n : Int) < 0) := by omega
    have h3 : ¬ ((by_ : Int) * n > 281474976710656) := by omega
    rw [show ((2 : Int) ^ 48) = 281474976710656 from rfl, decide_eq_false h3]
  have c1 : decide ((n : Int) < 0) = false := by rw [decide_eq_false_iff_not]; omega
  have c2 : decide ((n : Int) > n) = false := by rw [decide_eq_false_iff_not]; omega
  unfold Instr.makeSlice
  rw [Sem.run_bind, run_underlying hT, Result.andThen_ok]
  have ha : (asInt (.int .i64 (n : Int))).run P w = .ok (n : Int) w := rfl
  dsimp only
  rw [Sem.run_bind, ha, Result.andThen_ok, Sem.run_bind, ha, Result.andThen_ok, Sem.run_bind, hi, Result.andThen_ok]
  simp only [hib, hw64, t1, c1, c2, Bool.or_self, Bool.false_eq_true, if_false, Sem.run_bind, run_askRoom, Result.andThen_ok, run_size h1, Int.toNat_natCast]
  by_cases q : n * z = 0
  · have hn0 : n = 0 := by
      rcases Nat.mul_eq_zero.1 q with q | q
      · exact q
      · omega
    subst hn0
    simp [newRow, run_newObj]
    congr 2
    exact Array.ext' (by simp [Array.toList_range])
  · simp only [q, if_false, Sem.run_bind, run_zero h3, Result.andThen_ok, Sem.run_pure, hcells, newRow, run_newObj]
    rfl
/-- A slice that is made. -/
theorem HO.mks {K : Value → List Res → Prop} {dd : Option Nat} {x y : Operand} {T E z by_ n : Nat} {zero : Value} {e : Int} (hT : IsSlice P T E) (hE : EInfo P E z by_ zero) (hx : OV env x (.int .i64 e)) (hy : OV env y (.int .i64 e)) (he : e = (n : Int)) (hz1 : 0 < z) (hn : by_ * n ≤ 281474976710656) (hn2 : n ≤ 281474976710656)
    (k : ∀ b, K (.slice (some ⟨b, 0, none⟩) n n) (own E z (some ⟨b, 0, none⟩) n (List.replicate n zero.cells.toList) :: L)) : HO P β env L ⟨dd, .makeSlice T x y, ty, pos, aft, none⟩ K := by
  intro a w h hw
  have ex : a.eval x = .int .i64 e := by obtain ⟨u, hu, q⟩ := hx; subst q; exact h x (by simp [Op.operands]) _ hu
  have ey : a.eval y = .int .i64 e := by obtain ⟨u, hu, q⟩ := hy; subst q; exact h y (by simp [Op.operands]) _ hu
  subst he
  have hrun := run_mks hT hE hz1 hn hn2 w
  obtain ⟨h1, h2, h3, h4, h5⟩ := hE
  have hfl : ∀ n, (List.replicate n zero.cells.toList).flatten.length = n * z := fun n => by
    rw [flatten_len (z := z) (fun r hr => by rw [(List.mem_replicate.1 hr).2, Array.length_toList, h4])]; simp
  refine .inl ⟨_, w.alloc (.cells (List.replicate n zero.cells.toList).flatten.toArray E),_,_, ?_, .inl rfl, k w.heap.size, ?_⟩
  · simp only [execOp, ex, ey, Sem.run_bind, hrun, Result.andThen_ok, Sem.run_pure]
  · have s1 := hw.alloc (.cells (List.replicate n zero.cells.toList).flatten.toArray E)
    exact s1.conv 0 (r' := own E z (some ⟨w.heap.size, 0, none⟩) n (List.replicate n zero.cells.toList)) rfl (fun k hk => hk.2) ⟨by simp, fun r hr => by rw [(List.mem_replicate.1 hr).2, Array.length_toList, h4], fun q => (by cases q), fun a' ha' => by
      cases ha'
      exact ⟨rfl, rfl,_, [], heap_alloc_new w _, by simp, by rw [List.size_toArray, hfl]⟩⟩
end
end Go.SL

namespace Go.SL
set_option linter.unusedVariables false
open Go.RowKit

section
variable {P : Program} {ro : Option Nat} {β : Bs} {N : Nat} {ds : List Deferred} {env : Env} {L : List Res} {Q : Exit → Act → World → Prop}
  {ty : TypeId} {pos : String} {aft : Array Edge} {g : Option (Nat × Bool)}

theorem VC.rebase {c : Code} (h : ∀ w1, St β L w1 → VC P ro (bs w1) N ds env [] c Q) : VC P ro β N ds env L c Q := fun a w ha hw => h w hw a w ha (St.refl w)
theorem St.based {w0 w1 w2 : World} {L L' : List Res} (h : St (bs w0) L w1) (k : St (bs w1) L' w2) : St (bs w0) [] w2 := (h.call k).nil

/-- A slice that is made, as rows of what a function encodes. -/
theorem HO.mksM {α : Type} {f : α → List Value} {z0 : α} {K : Value → List Res → Prop} {dd : Option Nat} {x y : Operand} {T E z by_ n : Nat} {zero : Value} {e : Int} (hf : zero.cells.toList = f z0) (hT : IsSlice P T E) (hE : EInfo P E z by_ zero) (hx : OV env x (.int .i64 e)) (hy : OV env y (.int .i64 e)) (he : e = (n : Int)) (hz1 : 0 < z) (hn : by_ * n ≤ 281474976710656) (hn2 : n ≤ 281474976710656)
    (k : ∀ b, K (.slice (some ⟨b, 0, none⟩) n n) (own E z (some ⟨b, 0, none⟩) n ((List.replicate n z0).map f) :: L)) : HO P β env L ⟨dd, .makeSlice T x y, ty, pos, aft, none⟩ K :=
  HO.mks hT hE hx hy he hz1 hn hn2 fun b => by
    have := k b
    rw [List.map_replicate, ← hf] at this
    exact this

/-- A whole element is stored. -/
theorem HO.stm {α : Type} {f : α → List Value} {l : List α} (i : Nat) (LF : Res → List Res) (v0 : α) {K : Value → List Res → Prop} {dd : Option Nat} {x y : Operand} {T E z cap j q : Nat} {p : Option Addr} {v : Value} {vs : List Value} (hT : (P.info? T).map (·.size) = some vs.length) (hx : OV env x (.pointer (some ⟨pb p, q, none⟩))) (hy : OV env y v)
    (hi : L[i]? = some (own E z p cap (l.map f))) (hj : j < l.length) (hq : q = po p + j * z) (hv : v.cells = vs.toArray) (hfv : f v0 = vs) (hz : vs.length = z) (h1 : allOne vs = true) (hL : ∀ R : Res, L.set i R = LF R)
    (k : K undef (LF (own E z p cap ((l.set j v0).map f)))) : HO P β env L ⟨dd, .store T x y, ty, pos, aft, none⟩ K := by
  obtain ⟨r, hr⟩ : ∃ r, (l.map f)[j]? = some r := ⟨_, List.getElem?_eq_getElem (by simpa using hj)⟩
  intro a w h hw
  have hrz : r.length = z := (hw.inv i _ hi).2.1 r (List.mem_of_getElem? hr)
  refine HO.sto i LF (o := 0) (vs := vs) (rows := l.map f) (r := r) (j := j) hT hx hy hi hr (by rw [hq]; rfl) hv (by omega) h1 hL ?_ a w h hw
  have e : (l.map f).set j (r.take 0 ++ vs ++ r.drop (0 + vs.length)) = (l.set j v0).map f := by
    rw [List.map_set, hfv, List.take_zero, List.nil_append, Nat.zero_add, hz, ← hrz, List.drop_length, List.append_nil]
  rw [e]
  exact k

end
end Go.SL

namespace Go.SL
set_option linter.unusedVariables false
open Go.RowKit
section
variable {P : Program} {ro : Option Nat} {β : Bs} {ds : List Deferred} {N : Nat} {env : Env} {L : List Res} {Q : Exit → Act → World → Prop}
variable {d : Option Nat} {ty : TypeId} {pos : String} {aft : Array Edge} {g : Option (Nat × Bool)}
variable {K : Value → List Res → Prop} {dd : Option Nat}

theorem HO.bs0 {T E z : Nat} (hT : IsSlice P T E) (hs : (P.info? E).map (·.size) = some z) (k : ∀ b, K (.slice (some ⟨b, 0, none⟩) 0 0) (own E z (some ⟨b, 0, none⟩) 0 [] :: L)) : HO P β env L ⟨dd, .buildSlice T 0 #[], ty, pos, aft, none⟩ K := by
  intro a w h hw
  refine .inl ⟨_, w.alloc (.cells #[] E),_,_, ?_, .inl rfl, k w.heap.size, ?_⟩
  · simp [execOp, Instr.buildSlice, run_underlying hT, run_size hs, Instr.fill, newRow]
    rw [Array.eq_empty_of_size_eq_zero (xs := Array.map (fun x => default) (Array.range 0)) (by simp)]
  · have h1 := hw.alloc (.cells #[] E)
    have := h1.conv 0 (r' := own E z (some ⟨w.heap.size, 0, none⟩) 0 []) rfl (fun k hk => hk.2) ⟨by simp, by simp, fun q => (by cases q), fun a ha => by cases ha; exact ⟨rfl, rfl, #[], [], h1.inv 0 _ rfl, rfl, by simp⟩⟩
    simpa using this
end
end Go.SL

namespace Go.SL
set_option linter.unusedVariables false
open Go.RowKit
section
variable {P : Program} {β : Bs} {env : Env} {L L' : List Res}
variable {ty : TypeId} {pos : String} {aft : Array Edge} {dd : Option Nat}
/-- append(x, y...), x empty and owned, y read. -/
theorem HO.appN0 {α : Type} {f : α → List Value} {m : List α} (i : Nat) (LF : Res → List Res) {K : Value → List Res → Prop} {x y : Operand} {T T' E z by_ : Nat} {aT : Array TypeId} {zero : Value} {p q : Option Addr} {n2 cap c2 : Nat} (hT : IsSlice P T E) (hT' : IsSlice P T' E) (hE : EInfo P E z by_ zero) (hx : OV env x (.slice p 0 cap)) (hy : OV env y (.slice q n2 c2))
    (hi : L[i]? = some (own E z p cap [])) (hq : ∀ w, St β L w → Go.SL.Rows w z q (m.map f)) (hz : ∀ a, (f a).length = z) (h1 : ∀ a, allOne (f a) = true) (ha0 : aT[0]? = some T) (ha1 : aT[1]? = some T') (hL : ∀ R : Res, L.set i R = LF R) (hn2 : n2 = m.length) (hs : (2 * n2 + 768) * by_ ≤ 281474976710656)
    (k : ∀ p' cap', (m ≠ [] ∨ p ≠ none → p' ≠ none) → K (.slice p' n2 cap') (LF (own E z p' cap' (m.map f)))) : HO P β env L ⟨dd, .call ⟨.builtin .append, #[x, y], aT⟩, ty, pos, aft, none⟩ K :=
  HO.appN (f := f) (l := []) (m := m) i LF hT hT' hE hx hy hi hq hz h1 ha0 ha1 hL rfl hn2 (by rw [Nat.zero_add]; exact hs) (fun p' c' h => by rw [Nat.zero_add]; exact k p' c' h)
end
end Go.SL

namespace Go.SL
set_option linter.unusedVariables false
open Go.RowKit

theorem stamps_set {es : List MapEntry} {j c : Nat} {e : MapEntry} {k v : Value} (h : Stamps es c) (hj : es[j]? = some e) : Stamps (es.set j ⟨k, v, e.born⟩) c := by
  have hm : (es.set j ⟨k, v, e.born⟩).map (·.born) = es.map (·.born) := by
    rw [List.map_set]
    refine List.ext_getElem? fun i => ?_
    by_cases q : j = i
    · subst q
      have := (List.getElem?_eq_some_iff.1 hj).1
      rw [List.getElem?_set_self (by simpa using this), List.getElem?_map, hj]; rfl
    · rw [List.getElem?_set_ne q]
  refine ⟨by rw [hm]; exact h.1, fun x hx => ?_⟩
  have : x.born ∈ (es.set j ⟨k, v, e.born⟩).map (·.born) := List.mem_map_of_mem hx
  rw [hm] at this
  obtain ⟨y, h1, h2⟩ := List.mem_map.1 this
  rw [← h2]; exact h.2 y h1
theorem stamps_push {es : List MapEntry} {c : Nat} {k v : Value} (h : Stamps es c) : Stamps (es ++ [⟨k, v, c⟩]) (c + 1) := by
  refine ⟨?_, fun x hx => ?_⟩
  · rw [List.map_append, List.nodup_append]
    refine ⟨h.1, by simp, ?_⟩
    intro a ha b hb
    obtain ⟨x, hx, rfl⟩ := List.mem_map.1 ha
    have := h.2 x hx
    simp at hb
    omega
  · rcases List.mem_append.1 hx with q | q
    · have := h.2 x q; omega
    · have := List.mem_singleton.1 q; subst this; exact Nat.lt_succ_self _
theorem modify_set {es : Array MapEntry} {j : Nat} {e : MapEntry} {f : MapEntry → MapEntry} (hj : es.toList[j]? = some e) : (es.modify j f).toList = es.toList.set j (f e) := by
  refine List.ext_getElem? fun i => ?_
  have hjl := (List.getElem?_eq_some_iff.1 hj).1
  rw [Array.toList_modify]
  by_cases q : j = i
  · subst q
    rw [List.getElem?_modify_eq, hj, List.getElem?_set_self hjl]; rfl
  · rw [List.getElem?_set_ne q]; simp [List.getElem?_modify, q]

section
variable {P : Program} {ro : Option Nat} {β : Bs} {N : Nat} {ds : List Deferred} {env : Env} {L : List Res} {Q : Exit → Act → World → Prop}
variable {d : Option Nat} {ty : TypeId} {pos : String} {aft : Array Edge} {g : Option (Nat × Bool)}
section
variable {K : Value → List Res → Prop} {dd : Option Nat}
theorem skip_of {s : Sem Unit} {w w' : World} (h : s.run P w = .ok () w') : (s.run P w).andThen (fun _ w => .ok Next.skip w) = .ok Next.skip w' := by rw [h]; rfl
end
end
end Go.SL

namespace Go.SL
set_option linter.unusedVariables false
open Go.RowKit

/-- What can be a key. -/
structure KeyE {α : Type} (P : Program) (K : TypeId) (kE : α → Value) : Prop where
  inj : ∀ {a b : α}, kE a = kE b → a = b
  chk : ∀ (e : Bool) (n : Nat) (a : α) (w : World), (Instr.checkKey e (n + 2) K (kE a)).run P w = .ok () w
  find : ∀ (n : α) (es : List MapEntry) (w : World), (∀ e, e ∈ es → ∃ m, e.key = kE m) →
    (∃ j e, (Instr.findKey K (kE n) es).run P w = .ok (some (j, e.val)) w ∧ es[j]? = some e ∧ e.key = kE n) ∨ ((Instr.findKey K (kE n) es).run P w = .ok none w ∧ ∀ e, e ∈ es → e.key ≠ kE n)
  bits : ∀ a : α, Instr.sameBits 10000 (kE a) (kE a) = true

section
variable {α δ : Type} {kE : α → Value} {vE : δ → Value}
/-- The entries of a map. -/
structure MapG (kE : α → Value) (vE : δ → Value) (es : List MapEntry) (M : α → Option δ) : Prop where
  ent : ∀ e, e ∈ es → ∃ n v, e.key = kE n ∧ e.val = vE v ∧ M n = some v
  mem : ∀ n v, M n = some v → ∃ e, e ∈ es ∧ e.key = kE n ∧ e.val = vE v
  nod : es.Pairwise fun a b => a.key ≠ b.key
def updG [DecidableEq α] (M : α → Option δ) (n : α) (v : δ) : α → Option δ := fun m => if m = n then some v else M m
def mapR (kE : α → Value) (vE : δ → Value) (b : Nat) (M : α → Option δ) : Res := ⟨fun k => k = b, fun w => ∃ es clock, w.heap[b]? = some (.map es clock) ∧ MapG kE vE es.toList M ∧ Stamps es.toList clock, fun h ⟨es, c, h1, h2⟩ => ⟨es, c, (h b rfl).trans h1, h2⟩⟩
variable {es : List MapEntry} {M : α → Option δ}
theorem mapG_get (hi : ∀ {a b : α}, kE a = kE b → a = b) (h : MapG kE vE es M) {e : MapEntry} {n : α} (he : e ∈ es) (hk : e.key = kE n) : ∃ v, e.val = vE v ∧ M n = some v := by
  obtain ⟨m, v, h1, h2, h3⟩ := h.ent e he
  have : m = n := hi (h1.symm.trans hk)
  subst this
  exact ⟨v, h2, h3⟩
theorem mapG_none (h : MapG kE vE es M) {n : α} (hn : ∀ e, e ∈ es → e.key ≠ kE n) : M n = none := by
  cases q : M n with
  | none => rfl
  | some v => obtain ⟨e, h1, h2,_⟩ := h.mem n v q; exact absurd h2 (hn e h1)
theorem mapG_nil : MapG kE vE [] (fun _ => none) := ⟨fun _ h => (by cases h), fun _ _ h => (by cases h), List.Pairwise.nil⟩
variable [DecidableEq α]
theorem mapG_push (h : MapG kE vE es M) {n : α} {v : δ} {c : Nat} (hn : ∀ e, e ∈ es → e.key ≠ kE n) : MapG kE vE (es ++ [⟨kE n, vE v, c⟩]) (updG M n v) := by
  refine ⟨fun e he => ?_, fun m u hm => ?_, ?_⟩
  · rcases List.mem_append.1 he with q | q
    · obtain ⟨m, u, h1, h2, h3⟩ := h.ent e q
      refine ⟨m, u, h1, h2, ?_⟩
      unfold updG
      rw [if_neg (fun z => hn e q (by rw [h1, z]))]; exact h3
    · have := List.mem_singleton.1 q; subst this
      exact ⟨n, v, rfl, rfl, if_pos rfl⟩
  · unfold updG at hm
    split at hm
    · rename_i q; cases hm; subst q; exact ⟨_, List.mem_append_right _ (List.mem_singleton.2 rfl), rfl, rfl⟩
    · obtain ⟨e, h1, h2, h3⟩ := h.mem m u hm; exact ⟨e, List.mem_append_left _ h1, h2, h3⟩
  · rw [List.pairwise_append]
    refine ⟨h.nod, by simp, fun a ha b hb => ?_⟩
    have := List.mem_singleton.1 hb; subst this
    exact hn a ha
theorem mapG_set (hinj : ∀ {a b : α}, kE a = kE b → a = b) (h : MapG kE vE es M) {j : Nat} {e : MapEntry} {n : α} {v : δ} (hj : es[j]? = some e) (hk : e.key = kE n) : MapG kE vE (es.set j ⟨kE n, vE v, e.born⟩) (updG M n v) := by
  have hjl := (List.getElem?_eq_some_iff.1 hj).1
  have hje := (List.getElem?_eq_some_iff.1 hj).2
  have hkey : ∀ i (h1 : i < (es.set j ⟨kE n, vE v, e.born⟩).length) (h2 : i < es.length), (es.set j ⟨kE n, vE v, e.born⟩)[i].key = es[i].key := fun i h1 h2 => by
    rw [List.getElem_set]
    split
    · rename_i q; subst q; rw [hje, hk]
    · rfl
  have hne : ∀ i, i < es.length → (hi : i < es.length) → i ≠ j → es[i].key ≠ kE n := fun i _ hi hij z => by
    have pw := List.pairwise_iff_getElem.1 h.nod
    rcases Nat.lt_or_gt_of_ne hij with q | q
    · exact pw i j hi hjl q (by rw [z, hje, hk])
    · exact pw j i hjl hi q (by rw [z, hje, hk])
  refine ⟨fun x hx => ?_, fun m u hm => ?_, ?_⟩
  · obtain ⟨i, hi, rfl⟩ := List.getElem_of_mem hx
    have hi2 : i < es.length := by simpa using hi
    by_cases q : j = i
    · subst q
      rw [List.getElem_set_self]
      exact ⟨n, v, rfl, rfl, if_pos rfl⟩
    · rw [List.getElem_set_ne q]
      obtain ⟨m, u, h1, h2, h3⟩ := h.ent _ (List.getElem_mem hi2)
      refine ⟨m, u, h1, h2, ?_⟩
      unfold updG
      rw [if_neg (fun z => hne i hi2 hi2 (fun y => q y.symm) (by rw [h1, z]))]; exact h3
  · unfold updG at hm
    split at hm
    · rename_i q; cases hm; subst q
      exact ⟨_, List.mem_of_getElem? (i := j) (by rw [List.getElem?_set_self hjl]), rfl, rfl⟩
    · rename_i q
      obtain ⟨x, h1, h2, h3⟩ := h.mem m u hm
      obtain ⟨i, hi, rfl⟩ := List.getElem_of_mem h1
      have hij : j ≠ i := fun z => by subst z; rw [hje, hk] at h2; exact q (hinj h2).symm
      exact ⟨_, List.mem_of_getElem? (i := i) (by rw [List.getElem?_set_ne hij, List.getElem?_eq_getElem hi]), h2, h3⟩
  · rw [List.pairwise_iff_getElem]
    intro a b ha hb hab
    rw [hkey a ha (by simpa using ha), hkey b hb (by simpa using hb)]
    exact List.pairwise_iff_getElem.1 h.nod a b _ _ hab
end

section
variable {P : Program} {ro : Option Nat} {β : Bs} {N : Nat} {ds : List Deferred} {env : Env} {L : List Res} {Q : Exit → Act → World → Prop}
variable {d : Option Nat} {ty : TypeId} {pos : String} {aft : Array Edge} {g : Option (Nat × Bool)}
variable {α δ : Type} {kE : α → Value} {vE : δ → Value}
def IsMapG (P : Program) (T : Nat) (kE : α → Value) (vE : δ → Value) (d0 : δ) : Prop := ∃ K E, P.underlying T = some (.map K E) ∧ KeyE P K kE ∧ ZeroOf P E (vE d0)
theorem run_lookup_g {T b : Nat} {M : α → Option δ} {d0 : δ} {n : α} {w : World} (c : Bool) (hT : IsMapG P T kE vE d0) (hb : (mapR kE vE b M).inv w) : (Instr.lookup T (.map (some b)) (kE n) c).run P w = .ok (if c then .tuple #[vE ((M n).getD d0), .bool (M n).isSome] else vE ((M n).getD d0)) w := by
  obtain ⟨K, E, hu, hK, hz⟩ := hT
  obtain ⟨es, clock, hb, hs,_⟩ := hb
  have hobj : (getObj b).run P w = .ok (.map es clock) w := by simp [getObj, Sem.run, hb]
  simp only [Instr.lookup, Sem.run_bind, run_underlying hu, Result.andThen_ok, hobj, Sem.run_pure, hK.chk]
  rcases hK.find n es.toList w (fun e he => by obtain ⟨m,_, h1,_⟩ := hs.ent e he; exact ⟨m, h1⟩) with ⟨j, e, h1, h3, h4⟩ | ⟨h1, h2⟩
  · rw [h1]
    obtain ⟨v, g1, g2⟩ := mapG_get hK.inj hs (List.mem_of_getElem? h3) h4
    cases c <;> simp [g1, g2]
  · rw [h1, mapG_none hs h2]
    cases c <;> simp [run_zero hz]
theorem LO.lkG1 {x y : Operand} {T b : Nat} {M : α → Option δ} {d0 : δ} {n : α} (hT : IsMapG P T kE vE d0) (hx : OV env x (.map (some b))) (hy : OV env y (kE n)) (hi : ∀ w, St β L w → (mapR kE vE b M).inv w) : LO P β env L ⟨d, .lookup T x y false, ty, pos, aft, g⟩ (vE ((M n).getD d0)) :=
  .of_run fun a w h hw => ⟨w, by
    have := run_lookup_g (n := n) false hT (hi w hw)
    simp only [Bool.false_eq_true, if_false] at this
    simp [execOp, h x (by simp [Op.operands]) _ hx, h y (by simp [Op.operands]) _ hy, this], hw⟩
section
variable {K : Value → List Res → Prop} {dd : Option Nat}
theorem HO.mkmapG {T : Nat} (kE : α → Value) (vE : δ → Value) (k : ∀ b, K (.map (some b)) (mapR kE vE b (fun _ => none) :: L)) : HO P β env L ⟨dd, .makeMap T none, ty, pos, aft, none⟩ K := by
  intro a w h hw
  refine .inl ⟨_, w.alloc (.map #[] 0),_,_, ?_, .inl rfl, k w.heap.size, ?_⟩
  · simp only [execOp]
    rfl
  · have h1 := hw.alloc (.map #[] 0)
    have := h1.conv 0 (r' := mapR kE vE w.heap.size (fun _ => none)) rfl (fun k hk => hk) ⟨#[], 0, h1.inv 0 _ rfl, mapG_nil, by simp, by simp⟩
    simpa using this
variable [DecidableEq α]
theorem HO.mupG (i : Nat) (LF : Res → List Res) {x y z : Operand} {T b : Nat} {M : α → Option δ} {d0 : δ} (n : α) (v : δ) (hT : IsMapG P T kE vE d0) (hx : OV env x (.map (some b))) (hy : OV env y (kE n)) (hz : OV env z (vE v)) (hi : L[i]? = some (mapR kE vE b M)) (hL : ∀ R : Res, L.set i R = LF R)
    (k : K undef (LF (mapR kE vE b (updG M n v)))) : HO P β env L ⟨dd, .mapUpdate T x y z, ty, pos, aft, none⟩ K := by
  intro a w h hw
  obtain ⟨KT, E, hu, hK,_⟩ := hT
  obtain ⟨es, clock, hb, hs, hst⟩ := hw.inv i _ hi
  have hlt : i < L.length := by
    rcases Nat.lt_or_ge i L.length with q | q
    · exact q
    · simp [List.getElem?_eq_none q] at hi
  have hobj : (getObj b).run P w = .ok (.map es clock) w := by simp [getObj, Sem.run, hb]
  have hset : ∀ o, (setObj b o).run P w = .ok () (w.putObj b o) := fun o => by simp [setObj, Sem.run, hb, World.putObj]
  have ex : a.eval x = .map (some b) := by obtain ⟨u, hu, e⟩ := hx; subst e; exact h x (by simp [Op.operands]) _ hu
  have ey : a.eval y = kE n := by obtain ⟨u, hu, e⟩ := hy; subst e; exact h y (by simp [Op.operands]) _ hu
  have ez : a.eval z = vE v := by obtain ⟨u, hu, e⟩ := hz; subst e; exact h z (by simp [Op.operands]) _ hu
  have h1 : St β (L.set i (blk b (.map es clock))) w := hw.conv i hi (fun k hk => hk) hb
  have upd : ∀ es' clock', MapG kE vE es'.toList (updG M n v) → Stamps es'.toList clock' → St β (L.set i (mapR kE vE b (updG M n v))) (w.putObj b (.map es' clock')) := by
    intro es' clock' hse hst'
    have hg : (L.set i (blk b (.map es clock)))[i]? = some (blk b (.map es clock)) := by simp [hlt]
    have h2 := h1.obj (o' := .map es' clock') i hg
    rw [List.set_set] at h2
    have hg2 : (L.set i (blk b (.map es' clock')))[i]? = some (blk b (.map es' clock')) := by simp [hlt]
    have h3 := h2.conv i (r' := mapR kE vE b (updG M n v)) hg2 (fun k hk => hk) ⟨es', clock', h2.inv i _ hg2, hse, hst'⟩
    rwa [List.set_set] at h3
  rcases hK.find n es.toList w (fun e he => by obtain ⟨m,_, h1,_⟩ := hs.ent e he; exact ⟨m, h1⟩) with ⟨j, e, h1, h3, h4⟩ | ⟨h1, h2⟩
  · have hj : es[j]? = some e := by simpa using h3
    refine .inl ⟨.skip, w.putObj b (.map (es.modify j fun e => { e with key := kE n, val := vE v }) clock), undef,_, ?_, .inr ⟨rfl, rfl⟩, k, by rw [← hL]; exact upd _ _ (by rw [modify_set h3]; exact mapG_set hK.inj hs h3 h4) (by rw [modify_set h3]; exact stamps_set hst h3)⟩
    simp only [execOp, ex, ey, ez, Sem.run_bind, Sem.run_pure]
    refine skip_of ?_
    simp only [Instr.mapUpdate, Sem.run_bind, run_underlying hu, Result.andThen_ok, hobj, hK.chk]
    rw [h1]
    simp [hj, h4, Instr.keyThatStays, hK.bits]
    exact hset _
  · refine .inl ⟨.skip, w.putObj b (.map (es.push { key := kE n, val := vE v, born := clock }) (clock + 1)), undef,_, ?_, .inr ⟨rfl, rfl⟩, k, by rw [← hL]; exact upd _ _ (by rw [Array.toList_push]; exact mapG_push hs h2) (by rw [Array.toList_push]; exact stamps_push hst)⟩
    simp only [execOp, ex, ey, ez, Sem.run_bind, Sem.run_pure]
    refine skip_of ?_
    simp only [Instr.mapUpdate, Sem.run_bind, run_underlying hu, Result.andThen_ok, hobj, hK.chk]
    rw [h1]
    exact hset _
end
end

/-! ### Keys -/
section
variable {P : Program}
/-- A field of one cell. -/
structure Cell1 {γ : Type} [DecidableEq γ] (P : Program) (T : TypeId) (c : γ → Value) : Prop where
  inj : ∀ {a b : γ}, c a = c b → a = b
  chk : ∀ (e : Bool) (n : Nat) (a : γ) (w : World), (Instr.checkKey e (n + 1) T (c a)).run P w = .ok () w
  eql : ∀ (d : Nat) (a b : γ) (w : World), (Op.equalIn (d + 1) T (c a) (c b)).run P w = .ok (decide (a = b)) w
  one : IsOne P T
  bits : ∀ (n : Nat) (a : γ), Instr.sameBits n (c a) (c a) = true
theorem cell1_int {T : TypeId} (hT : P.underlying T = some (.int .i64)) (h1 : IsOne P T) : Cell1 P T intV where
  inj := intV_inj
  chk := fun e n a w => checkKey_int hT e n _ w
  eql := fun d a b w => by rw [intV, intV, run_equalIn_int w d T .i64 .i64 a b hT]; rfl
  one := h1
  bits := fun n a => by cases n <;> simp [Instr.sameBits, intV]
def IsS2 (P : Program) (K T0 T1 : TypeId) : Prop := ∃ F0 F1 : Field, P.underlying K = some (.struct #[F0, F1]) ∧ F0.name ≠ "_" ∧ F1.name ≠ "_" ∧ F0.offset = 0 ∧ F1.offset = 1 ∧ F0.type = T0 ∧ F1.type = T1 ∧ P.stoodInHeld K = false
variable {γ0 γ1 : Type} [DecidableEq γ0] [DecidableEq γ1] {c0 : γ0 → Value} {c1 : γ1 → Value} {K T0 T1 : TypeId}
abbrev pairV (c0 : γ0 → Value) (c1 : γ1 → Value) (x : γ0 × γ1) : Value := .agg #[c0 x.1, c1 x.2]
theorem part_one {T : TypeId} (h : IsOne P T) {cs : Array Value} {o : Nat} {v : Value} (hv : cs[o]? = some v) (w : World) : (part T cs o).run P w = .ok v w := by
  simp [part, run_isOne h, hv]
theorem pairV_eq (h0 : Cell1 P T0 c0) (h1 : Cell1 P T1 c1) (hK : IsS2 P K T0 T1) (x y : γ0 × γ1) (d : Nat) (w : World) : (Op.equalIn (d + 2) K (pairV c0 c1 x) (pairV c0 c1 y)).run P w = .ok (decide (x = y)) w := by
  obtain ⟨F0, F1, hu, n0, n1, o0, o1, t0, t1, hs⟩ := hK
  have hfs : P.fieldsOf K = #[F0, F1] := by simp [Program.fieldsOf, hu]
  rw [pairV, pairV, run_equalIn_struct w (d + 1) K _ _ (by rw [hfs]; exact hu) hs, hfs]
  simp only [Op.eqFields, n0, n1, ne_eq, not_false_eq_true, if_true, Sem.run_bind, o0, o1, t0, t1]
  rw [part_one h0.one (v := c0 x.1) rfl, Result.andThen_ok, part_one h0.one (v := c0 y.1) rfl, Result.andThen_ok, h0.eql, Result.andThen_ok]
  obtain ⟨x0, x1⟩ := x
  obtain ⟨y0, y1⟩ := y
  by_cases e0 : x0 = y0
  · subst e0
    simp only [decide_true, Bool.not_true, Bool.false_eq_true, if_false, Sem.run_bind]
    rw [part_one h1.one (v := c1 x1) rfl, Result.andThen_ok, part_one h1.one (v := c1 y1) rfl, Result.andThen_ok, h1.eql, Result.andThen_ok]
    by_cases e1 : x1 = y1
    · subst e1; simp
    · simp [e1]
  · simp [e0]
theorem findNow_struct {fs : Array Field} {k : Value} {es : List MapEntry} {i : Nat} : Instr.findNow (.struct fs) k es i = if es = [] then some none else none := by
  cases es with
  | nil => rfl
  | cons e es => simp [Instr.findNow, Instr.sameNow]
theorem findAsking_run {α : Type} [DecidableEq α] {kE : α → Value} (hinj : ∀ {a b : α}, kE a = kE b → a = b) (heq : ∀ (a b : α) (w : World), (Op.equal K (kE a) (kE b)).run P w = .ok (decide (a = b)) w) (n : α) (w : World) : ∀ (es : List MapEntry) (i : Nat), (∀ e, e ∈ es → ∃ m, e.key = kE m) →
    (∃ j e, (Instr.findAsking K (kE n) es i).run P w = .ok (some (j, e.val)) w ∧ i ≤ j ∧ es[j - i]? = some e ∧ e.key = kE n) ∨ ((Instr.findAsking K (kE n) es i).run P w = .ok none w ∧ ∀ e, e ∈ es → e.key ≠ kE n)
  | [], i,_ => .inr ⟨rfl, by simp⟩
  | e :: es, i, h => by
    obtain ⟨m, hm⟩ := h e (by simp)
    simp only [Instr.findAsking, Sem.run_bind, hm, heq, Result.andThen_ok]
    by_cases q : n = m
    · subst q
      left
      exact ⟨i, e, by simp, Nat.le_refl _, by simp, hm⟩
    · simp only [q, decide_false, Bool.false_eq_true, if_false]
      rcases findAsking_run hinj heq n w es (i + 1) (fun e' he => h e' (by simp [he])) with ⟨j, e', h1, h2, h3, h4⟩ | ⟨h1, h2⟩
      · left
        refine ⟨j, e', h1, by omega, ?_, h4⟩
        rw [show j - i = (j - (i + 1)) + 1 by omega]
        simpa using h3
      · right
        refine ⟨h1, fun e' he' => ?_⟩
        rcases List.mem_cons.1 he' with rfl | he'
        · rw [hm]; exact fun z => q (hinj z).symm
        · exact h2 e' he'
theorem key_pair (h0 : Cell1 P T0 c0) (h1 : Cell1 P T1 c1) (hK : IsS2 P K T0 T1) : KeyE P K (pairV c0 c1) where
  inj := fun {a b} h => by
    have e := Array.toList_inj.2 (Value.agg.inj h)
    simp at e
    exact Prod.ext (h0.inj e.1) (h1.inj e.2)
  chk := fun e n x w => by
    obtain ⟨F0, F1, hu, n0, n1, o0, o1, t0, t1, hs⟩ := hK
    unfold Instr.checkKey
    simp only [Sem.run_bind, run_underlying hu, Result.andThen_ok]
    rw [← Array.forIn_toList]
    simp only [List.forIn_cons, List.forIn_nil, n0, n1, ne_eq, not_false_eq_true, if_true, Sem.run_bind, o0, o1, t0, t1]
    rw [part_one h0.one (v := c0 x.1) rfl, Result.andThen_ok, h0.chk]
    simp only [Result.andThen_ok, Sem.run_pure, Sem.run_bind]
    rw [part_one h1.one (v := c1 x.2) rfl, Result.andThen_ok, h1.chk]
    rfl
  find := fun n es w h => by
    have hinj : ∀ {a b : γ0 × γ1}, pairV c0 c1 a = pairV c0 c1 b → a = b := fun {a b} h => by
      have e := Array.toList_inj.2 (Value.agg.inj h)
      simp at e
      exact Prod.ext (h0.inj e.1) (h1.inj e.2)
    have heq : ∀ (a b : γ0 × γ1) (w : World), (Op.equal K (pairV c0 c1 a) (pairV c0 c1 b)).run P w = .ok (decide (a = b)) w := fun a b w => pairV_eq h0 h1 hK a b 9998 w
    obtain ⟨F0, F1, hu,_⟩ := hK
    simp only [Instr.findKey, Sem.run_bind, run_underlying hu, Result.andThen_ok, findNow_struct]
    by_cases q : es = []
    · subst q; exact .inr ⟨rfl, by simp⟩
    · rw [if_neg q]
      rcases findAsking_run hinj heq n w es 0 h with ⟨j, e, h1, h2, h3, h4⟩ | ⟨h1, h2⟩
      · exact .inl ⟨j, e, h1, by simpa using h3, h4⟩
      · exact .inr ⟨h1, h2⟩
  bits := fun x => by simp [Instr.sameBits, h0.bits, h1.bits]
variable {ro : Option Nat} {β : Bs} {env : Env} {L : List Res} {d : Option Nat} {ty : TypeId} {pos : String} {aft : Array Edge} {g : Option (Nat × Bool)}
end
end Go.SL

namespace Go.SL
set_option linter.unusedVariables false
section
variable {P : Program} {ro : Option Nat} {β : Bs} {N : Nat} {ds : List Deferred} {env : Env} {L : List Res} {Q : Exit → Act → World → Prop} {w v : World}
theorem VC.rebaseO {Lk Lf : List Res} {c : Code} (h : ∀ w1, St β (Lk ++ Lf) w1 → VC P ro ⟨w1, fpL Lk⟩ N ds env Lk c Q) : VC P ro β N ds env (Lk ++ Lf) c Q := fun a w ha hw => h w hw a w ha (hw.has (List.sublist_append_left _ _))
/-- What was in hand at a base, and what lay there. -/
theorem St.fz {R rest : List Res} (h : St β (R ++ rest) w) (hs : St ⟨w, fpL R⟩ L v) : St β (L ++ rest) v := h.callG (fun k hk => hk) hs
theorem St.rightOf {A B : List Res} (h : St β (A ++ B) w) : St β B w := h.map (fun j => A.length + j) (fun a b hab _ _ => by omega) (fun j r hr => .inr (by rw [List.getElem?_append_right (by omega), show A.length + j - A.length = j by omega]; exact hr))
variable {α : Type} {f : α → Res} {as_ : List α} {a : α} {i : Nat}
theorem St.focusAt (h : St β (Go.SL.bagD (as_.map f) :: L) w) (hi : as_[i]? = some a) : St β (f a :: Go.SL.bagD ((as_.eraseIdx i).map f) :: L) w := by
  obtain ⟨hl, rfl⟩ := List.getElem?_eq_some_iff.1 hi
  have e : as_.map f = (as_.take i).map f ++ f as_[i] :: (as_.drop (i + 1)).map f := by
    rw [← List.map_cons, ← List.map_append, ← List.drop_eq_getElem_cons hl, List.take_append_drop]
  rw [e] at h
  have h2 := St.focus h
  rw [List.eraseIdx_eq_take_drop_succ, List.map_append]
  exact h2
theorem St.unfocusAt (h : St β (f a :: Go.SL.bagD ((as_.eraseIdx i).map f) :: L) w) (hl : i < as_.length) : St β (Go.SL.bagD ((as_.set i a).map f) :: L) w := by
  rw [List.eraseIdx_eq_take_drop_succ, List.map_append] at h
  have h2 := St.unfocus h
  have e : (as_.set i a).map f = (as_.take i).map f ++ f a :: (as_.drop (i + 1)).map f := by
    rw [List.set_eq_take_append_cons_drop, if_pos hl, List.map_append, List.map_cons]
  rw [e]
  exact h2
end
end Go.SL

namespace Go.SL
set_option linter.unusedVariables false
open Go.RowKit
section
variable {P : Program} {β : Bs} {env : Env} {L : List Res} {d : Option Nat} {ty : TypeId} {pos : String} {aft : Array Edge} {g : Option (Nat × Bool)} {T T2 : TypeId} {x y : Operand} {u v : Value} {b : Bool} {E : Nat}
structure NilEq (P : Program) (T : TypeId) (u v : Value) (b : Bool) : Prop where
  h : ∀ w, (Op.equalIn Op.maxDepth T u v).run P w = .ok b w
theorem nilS {p : Option Addr} {n c : Nat} (hT : IsSlice P T E) : NilEq P T (.slice p n c) (.slice none 0 0) p.isNone := ⟨fun w => by
  show (Op.equalIn (9999 + 1) T (.slice p n c) (.slice none 0 0)).run P w = _
  unfold Op.equalIn
  rw [Sem.run_bind, run_underlying hT]
  cases p <;> rfl⟩
theorem LO.eqNil {op : BinOp} (hb : ∀ w, (binOp op T u v).run P w = .ok (.bool b) w) (hg : ∀ w, (eqGuard op T x y u v).run P w = .ok () w) (hx : OV env x u) (hy : OV env y v) : LO P β env L ⟨d, .binOp op T x y T2, ty, pos, aft, g⟩ (.bool b) :=
  .of_run fun a w h hw => ⟨w, by
    simp only [execOp, h x (by simp [Op.operands]) _ hx, h y (by simp [Op.operands]) _ hy, Sem.run_bind, Sem.run_pure, Result.andThen_ok, hb, hg], hw⟩
theorem LO.eqSl {p : Option Addr} {n c : Nat} (hT : IsSlice P T E) (hx : OV env x (.slice p n c)) (hy : OV env y (.slice none 0 0)) : LO P β env L ⟨d, .binOp .eql T x y T2, ty, pos, aft, g⟩ (.bool p.isNone) := LO.eqNil (fun w => by simp only [binOp, Op.equal, Sem.run_bind, (nilS hT).h, Result.andThen_ok, Sem.run_pure]) (fun _ => rfl) hx hy
end
end Go.SL

namespace Go.SL
set_option linter.unusedVariables false
set_option linter.unusedSimpArgs false
open Go.RowKit
section
variable {P : Program} {ro : Option Nat} {β : Bs} {N : Nat} {ds : List Deferred} {env : Env} {L : List Res} {Q : Exit → Act → World → Prop}
variable {ty : TypeId} {pos : String} {aft : Array Edge}
def ownO (E z : Nat) (p : Option Addr) (cap : Nat) (rows : List (List Value)) : Res where
  fp := fun k => p ≠ none ∧ k = pb p
  inv := fun w => rows.length ≤ cap ∧ (∀ r ∈ rows, r.length = z) ∧ (p = none → rows = [] ∧ cap = 0) ∧ (∀ a, p = some a → a.spot = none ∧ ∃ C pre spare, w.heap[a.block]? = some (.cells C E (0,0)) ∧ pre.length = a.off ∧ C.toList = pre ++ rows.flatten ++ spare ∧ a.off + cap * z ≤ C.size)
  loc := fun {w w'} h ⟨h1, h2, h3, h4⟩ => ⟨h1, h2, h3, fun a ha => by
    obtain ⟨g1, C, pre, s, g3, g4⟩ := h4 a ha
    refine ⟨g1, C, pre, s, ?_, g4⟩
    rw [h a.block ⟨by rw [ha]; simp, by rw [ha]; rfl⟩]; exact g3⟩
theorem addO {a : Addr} (h2 : a.spot = none) (n : Nat) : a.add n = ⟨a.block, a.off + n, none⟩ := by
  obtain ⟨b, o, s⟩ := a
  simp only at h2
  subst h2
  unfold Addr.add; split <;> simp_all
theorem ownO_rows {w : World} (hw : St β L w) (i : Nat) {E z : Nat} {p : Option Addr} {cap : Nat} {rows : List (List Value)} (hi : L[i]? = some (ownO E z p cap rows)) : Go.SL.Rows w z p rows := by
  obtain ⟨h1, h2, h3, h4⟩ := hw.inv i _ hi
  refine ⟨?_, fun hp => (h3 hp).1, fun _ a ha => (h4 a ha).1⟩
  intro j r hr k v hv
  cases p with
  | none => rw [(h3 rfl).1] at hr; simp at hr
  | some a =>
    obtain ⟨g2, C, pre, s, g3, g1, g4, g5⟩ := h4 a rfl
    have hadd : (⟨pb (some a), po (some a) + j * z, none⟩ : Addr).add k = ⟨a.block, a.off + (j * z + k), none⟩ := by
      unfold Addr.add pb po; split <;> simp_all <;> omega
    rw [hadd]
    simp only [World.cell?, g3, Option.isSome_none, Bool.false_eq_true, if_false]
    have hfr := flatten_row h2 hr hv
    have hlt : j * z + k < rows.flatten.length := by
      rcases Nat.lt_or_ge (j * z + k) rows.flatten.length with q | q
      · exact q
      · rw [List.getElem?_eq_none q] at hfr; cases hfr
    have : C.toList[a.off + (j * z + k)]? = some v := by
      rw [g4, List.getElem?_append_left (by rw [List.length_append]; omega), List.getElem?_append_right (by omega), show a.off + (j * z + k) - pre.length = j * z + k by omega]
      exact hfr
    simpa using this
theorem St.toO {w : World} (hw : St β L w) (i : Nat) {E z cap : Nat} {p : Option Addr} {rows : List (List Value)} (hi : L[i]? = some (own E z p cap rows)) : St β (L.set i (ownO E z p cap rows)) w := by
  obtain ⟨h1, h2, h3, h4⟩ := hw.inv i _ hi
  exact hw.conv i hi (fun k hk => hk) ⟨h1, h2, h3, fun a ha => by
    obtain ⟨g1, g2, C, s, g3, g4, g5⟩ := h4 a ha
    exact ⟨g2, C, [], s, g3, by rw [g1]; rfl, by simpa using g4, by omega⟩⟩
/-- The slice behind the first element. -/
theorem St.dropO {w : World} (hw : St β L w) (i : Nat) {E z cap : Nat} {p : Option Addr} {r : List Value} {rows : List (List Value)} (hi : L[i]? = some (ownO E z p cap (r :: rows))) : St β (L.set i (ownO E z (slFrom p cap 1 z) (cap - 1) rows)) w := by
  obtain ⟨h1, h2, h3, h4⟩ := hw.inv i _ hi
  have hr : r.length = z := h2 r (by simp)
  have h2' : ∀ r ∈ rows, r.length = z := fun r hr => h2 r (by simp [hr])
  simp only [List.length_cons] at h1
  cases p with
  | none => exact absurd (h3 rfl).1 (by simp)
  | some a =>
    obtain ⟨g2, C, pre, s, g3, g1, g4, g5⟩ := h4 a rfl
    unfold slFrom
    by_cases q : cap = 1
    · have e : rows = [] := List.length_eq_zero_iff.1 (by omega)
      subst e
      rw [if_pos q]
      exact hw.conv i hi (fun k hk => hk) ⟨by simp, by simp, fun z => (by cases z), fun b hb => by
        cases hb
        exact ⟨g2, C, pre, r ++ s, g3, g1, by rw [g4]; simp, by rw [q]; omega⟩⟩
    · rw [if_neg q]
      refine hw.conv i hi (fun k hk => ⟨by simp, ?_⟩) ⟨by omega, h2', fun z => (by cases z), fun b hb => ?_⟩
      · have := hk.2
        rw [this]
        show (a.add (1 * z)).block = a.block
        rw [addO g2]
      · have hb : a.add (1 * z) = b := Option.some.inj hb
        rw [addO g2] at hb
        subst hb
        refine ⟨rfl, C, pre ++ r, s, g3, by show (pre ++ r).length = a.off + 1 * z; rw [List.length_append, hr, g1]; omega, by rw [g4]; simp, ?_⟩
        have : (cap - 1) * z + z = cap * z := by rw [← Nat.succ_mul, show (cap - 1).succ = cap by omega]
        show a.off + 1 * z + (cap - 1) * z ≤ C.size
        omega

/-- Some elements are appended to a slice that is owned. -/
theorem run_appendO {w : World} (hw : St β L w) (i : Nat) {T T' ty E z by_ : Nat} {zero : Value} {p q : Option Addr} {cap c2 : Nat} {rows rs : List (List Value)} (hT : IsSlice P T E) (hT' : IsSlice P T' E) (hE : EInfo P E z by_ zero)
    (hi : L[i]? = some (ownO E z p cap rows)) (hq : Go.SL.Rows w z q rs) (hr : ∀ r ∈ rs, r.length = z) (h1 : ∀ r ∈ rs, allOne r = true) (hn : (2 * (rows.length + rs.length) + 768) * by_ ≤ 281474976710656) {aT : Array TypeId} (ha0 : aT[0]? = some T) (ha1 : aT[1]? = some T') :
    ∃ p' cap' w', (Builtin.append_ aT ty #[.slice p rows.length cap, .slice q rs.length c2]).run P w = .ok (.slice p' (rows.length + rs.length) cap') w' ∧ St β (L.set i (ownO E z p' cap' (rows ++ rs))) w' ∧ (rs ≠ [] → p' ≠ none) ∧ (p ≠ none → p' ≠ none) := by
  obtain ⟨hz, hby, hze, hzz, hb0⟩ := hE
  obtain ⟨o1, o2, o3, o4⟩ := hw.inv i _ hi
  obtain ⟨ti, hti, htb⟩ := run_bytes hby w
  have hnew : (Builtin.firstCells z rs.length (.slice q rs.length c2)).run P w = .ok rs.flatten.toArray w := first_rows hq hr
  have hhas : ∀ r' ∈ rows ++ rs, r'.length = z := by
    intro r' hr'
    rcases List.mem_append.1 hr' with q | q
    · exact o2 r' q
    · exact hr r' q
  have hu' : (underlying T').run P w = .ok (.slice E) w := run_underlying hT' w
  have hu : (underlying T).run P w = .ok (.slice E) w := run_underlying hT w
  have hone : ∀ u ∈ rs.flatten, u.oneCell' = true := by
    intro u hu
    obtain ⟨r, hr', hu'⟩ := List.mem_flatten.1 hu
    exact allOne_spec (h1 r hr') u hu'
  have hni : ¬ ((rows.length + rs.length : Nat) : Int) > IntKind.i64.max := by
    have : rows.length + rs.length ≤ 281474976710656 := by
      have : (2 * (rows.length + rs.length) + 768) * 1 ≤ (2 * (rows.length + rs.length) + 768) * by_ := Nat.mul_le_mul_left _ hb0
      omega
    have hm : IntKind.i64.max = 9223372036854775807 := rfl
    rw [hm]
    omega
  have hlt : i < L.length := by
    rcases Nat.lt_or_ge i L.length with h' | h'
    · exact h'
    · simp [List.getElem?_eq_none h'] at hi
  have hfl := flatten_len o2
  have hfl2 := flatten_len hr
  by_cases hc : rows.length + rs.length ≤ cap
  · -- there is room
    cases p with
    | none =>
      have h3 := o3 rfl
      have e1 : rows = [] := h3.1
      have e2 : rs = [] := by
        have : rs.length = 0 := by omega
        exact List.length_eq_zero_iff.1 this
      subst e1; subst e2
      have e3 : cap = 0 := h3.2
      subst e3
      refine ⟨none, 0, w, ?_, ?_, by simp, by simp⟩
      · have : (Builtin.firstCells z 0 (.slice q 0 c2)).run P w = .ok #[] w := by simpa using hnew
        simp [Builtin.append_, ha0, ha1, hu, hu', run_size hz, Builtin.lenOf, this]
      · have e : L.set i (ownO E z none 0 ([] ++ [])) = L := by
          have e0 : ownO E z none 0 ([] ++ []) = ownO E z none 0 [] := rfl
          rw [e0]
          refine List.ext_getElem? fun k => ?_
          by_cases ek : k = i
          · subst ek; rw [List.getElem?_set_self hlt, hi]
          · rw [List.getElem?_set_ne (Ne.symm ek)]
        rw [e]; exact hw
    | some a =>
      obtain ⟨g2, C, pre, spare, g3, g1, g4, g5⟩ := o4 a rfl
      have hadd : a.add (rows.length * z) = ⟨a.block, a.off + rows.length * z, none⟩ := addO g2 _
      have hfit : a.off + rows.length * z + rs.flatten.length ≤ C.size := by
        rw [hfl2]
        have := Nat.mul_le_mul_right z hc
        rw [Nat.add_mul] at this; omega
      have hst := run_storeCells_at P a.block (a.off + rows.length * z) E rs.flatten 0 C w g3 (by simpa using hfit) hone
      simp only [Nat.add_zero] at hst
      refine ⟨some a, cap, w.setRow a.block (C.toList.take (a.off + rows.length * z) ++ rs.flatten ++ C.toList.drop (a.off + rows.length * z + rs.flatten.length)).toArray, ?_, ?_, by simp, by simp⟩
      · simp only [Builtin.append_, ha0, ha1, Sem.run_bind, List.getElem?_toArray, List.getElem?_cons_zero, List.getElem?_cons_succ, hu, hu', run_size hz, Builtin.lenOf, Result.andThen_ok, Sem.run_pure, Bool.false_eq_true, if_false, Bool.not_false, if_true, hc, hnew, hadd, hst]
      · have hw1 := hw.conv i (r' := blk a.block (.cells C E)) hi (fun k hk => ⟨by simp, hk⟩) g3
        have hi1 : (L.set i (blk a.block (.cells C E)))[i]? = some (blk a.block (.cells C E)) := by simp [hlt]
        have hw2 := hw1.setRow (C' := (C.toList.take (a.off + rows.length * z) ++ rs.flatten ++ C.toList.drop (a.off + rows.length * z + rs.flatten.length)).toArray) hi1
        rw [List.set_set] at hw2
        have hi2 : (L.set i (blk a.block (.cells (C.toList.take (a.off + rows.length * z) ++ rs.flatten ++ C.toList.drop (a.off + rows.length * z + rs.flatten.length)).toArray E)))[i]? = some (blk a.block (.cells (C.toList.take (a.off + rows.length * z) ++ rs.flatten ++ C.toList.drop (a.off + rows.length * z + rs.flatten.length)).toArray E)) := by simp [hlt]
        have hfin : (ownO E z (some a) cap (rows ++ rs)).inv (w.setRow a.block (C.toList.take (a.off + rows.length * z) ++ rs.flatten ++ C.toList.drop (a.off + rows.length * z + rs.flatten.length)).toArray) := by
          refine ⟨by simp; omega, hhas, fun h => (by cases h), fun a' ha' => ?_⟩
          cases ha'
          refine ⟨g2,_, pre, C.toList.drop (a.off + rows.length * z + rs.flatten.length), hw2.inv i _ hi2, g1, ?_, ?_⟩
          · have : C.toList.take (a.off + rows.length * z) = pre ++ rows.flatten := by rw [g4, List.take_append_of_le_length (by rw [List.length_append]; omega), List.take_of_length_le (by rw [List.length_append]; omega)]
            simp [this]
          · have := hfit
            simp only [List.size_toArray, List.length_append, List.length_take, List.length_drop, Array.length_toList]
            omega
        have hw3 := hw2.conv (r' := ownO E z (some a) cap (rows ++ rs)) i hi2 (fun k hk => hk.2) hfin
        rwa [List.set_set] at hw3
  · -- a new array
    have hcap : ¬ rows.length + rs.length ≤ cap := hc
    have hncap : ¬ (Builtin.nextslicecap (rows.length + rs.length) cap * ti.bytes > 2 ^ 48) := by
      have h2 := nextcap_le (need := rows.length + rs.length) (cap := cap) (by omega)
      have h3 := Nat.mul_le_mul_right by_ h2
      rw [htb]; omega
    generalize hcc : Question.cut (.appendCap (rows.length + rs.length) cap E) (w.tape w.drawn (.appendCap (rows.length + rs.length) cap E)) = cap'
    have hge : rows.length + rs.length ≤ cap' := by rw [← hcc]; simp [Question.cut]
    have hrows : Go.SL.Rows w z p rows := ownO_rows hw i hi
    have hold : (Builtin.firstCells z rows.length (.slice p rows.length cap)).run P w.drew = .ok rows.flatten.toArray w.drew := first_rows (rows_drew hrows) o2
    have hnew' : (Builtin.firstCells z rs.length (.slice q rs.length c2)).run P w.drew = .ok rs.flatten.toArray w.drew := first_rows (rows_drew hq) hr
    have hti' : (typeInfo E).run P w.drew = .ok ti w.drew := by
      cases hq : P.info? E with
      | none => simp [typeInfo, hq] at hti
      | some i => simp [typeInfo, hq] at hti ⊢; exact hti
    refine ⟨some ⟨w.heap.size, 0, none⟩, cap', (World.alloc w.drew (.cells (rows.flatten.toArray ++ rs.flatten.toArray ++ Builtin.zeroCells zero.cells (cap' - (rows.length + rs.length))) E)), ?_, ?_, by simp, by simp⟩
    · have hb1 : ti.bytes ≠ 0 := by omega
      have hncap' : ¬ (281474976710656 < Builtin.nextslicecap (rows.length + rs.length) cap * ti.bytes) := by omega
      simp [Builtin.append_, ha0, ha1, hu, hu', run_size hz, Builtin.lenOf, hcap, hti, hb1, hncap', Question.forced, hcc, hti', hold, hnew', run_zero hze, newRow]
      congr 2
      apply Array.ext'
      simp
    · have hw' := (hw.drew (w.drawn + 1) : St β L w.drew).alloc (.cells (rows.flatten.toArray ++ rs.flatten.toArray ++ Builtin.zeroCells zero.cells (cap' - (rows.length + rs.length))) E)
      have hm : St β (L.set i (blk w.heap.size (.cells (rows.flatten.toArray ++ rs.flatten.toArray ++ Builtin.zeroCells zero.cells (cap' - (rows.length + rs.length))) E))) (World.alloc w.drew (.cells (rows.flatten.toArray ++ rs.flatten.toArray ++ Builtin.zeroCells zero.cells (cap' - (rows.length + rs.length))) E)) := by
        refine hw'.map (fun k => if k = i then 0 else k + 1) ?_ ?_
        · intro a b hab _ _
          by_cases e1 : a = i <;> by_cases e2 : b = i <;> simp [e1, e2] <;> omega
        · intro k s hs
          right
          by_cases e : k = i
          · subst e; simp [hlt] at hs; simp [hs]
          · rw [List.getElem?_set_ne (Ne.symm e)] at hs
            simp [e, hs]
      have hi2 : (L.set i (blk w.heap.size (.cells (rows.flatten.toArray ++ rs.flatten.toArray ++ Builtin.zeroCells zero.cells (cap' - (rows.length + rs.length))) E)))[i]? = some (blk w.heap.size (.cells (rows.flatten.toArray ++ rs.flatten.toArray ++ Builtin.zeroCells zero.cells (cap' - (rows.length + rs.length))) E)) := by simp [hlt]
      have hfin : (ownO E z (some ⟨w.heap.size, 0, none⟩) cap' (rows ++ rs)).inv (World.alloc w.drew (.cells (rows.flatten.toArray ++ rs.flatten.toArray ++ Builtin.zeroCells zero.cells (cap' - (rows.length + rs.length))) E)) := by
        refine ⟨by simp; omega, hhas, fun h => (by cases h), fun a' ha' => ?_⟩
        cases ha'
        refine ⟨rfl,_, [], (Builtin.zeroCells zero.cells (cap' - (rows.length + rs.length))).toList, hm.inv i _ hi2, rfl, by simp, ?_⟩
        refine Nat.le_of_eq (Eq.symm ?_)
        rw [Nat.zero_add]
        simp only [Array.size_append, List.size_toArray, hfl, hfl2, zeroCells_size, hzz]
        rw [← Nat.add_mul, ← Nat.add_mul]
        congr 1; omega
      have := hm.conv (r' := ownO E z (some ⟨w.heap.size, 0, none⟩) cap' (rows ++ rs)) i hi2 (fun k hk => hk.2) hfin
      rwa [List.set_set] at this

variable {dd : Option Nat}
/-- append(x, y...), x owned, y read. -/
theorem HO.appO {α : Type} {f : α → List Value} {l m : List α} (i : Nat) (LF : Res → List Res) {K : Value → List Res → Prop} {x y : Operand} {T T' E z by_ : Nat} {aT : Array TypeId} {zero : Value} {p q : Option Addr} {n n2 cap c2 : Nat} (hT : IsSlice P T E) (hT' : IsSlice P T' E) (hE : EInfo P E z by_ zero) (hx : OV env x (.slice p n cap)) (hy : OV env y (.slice q n2 c2))
    (hi : L[i]? = some (ownO E z p cap (l.map f))) (hq : ∀ w, St β L w → Go.SL.Rows w z q (m.map f)) (hz : ∀ a, (f a).length = z) (h1 : ∀ a, allOne (f a) = true) (ha0 : aT[0]? = some T) (ha1 : aT[1]? = some T') (hL : ∀ R : Res, L.set i R = LF R) (hn : n = l.length) (hn2 : n2 = m.length) (hs : (2 * (n + n2) + 768) * by_ ≤ 281474976710656)
    (k : ∀ p' cap', (m ≠ [] ∨ p ≠ none → p' ≠ none) → K (.slice p' (n + n2) cap') (LF (ownO E z p' cap' ((l ++ m).map f)))) : HO P β env L ⟨dd, .call ⟨.builtin .append, #[x, y], aT⟩, ty, pos, aft, none⟩ K := by
  intro a w h hw
  subst hn; subst hn2
  obtain ⟨p', cap', w', h2, h3, h4, h5⟩ := run_appendO (ty := ty) (c2 := c2) hw i hT hT' hE hi (hq w hw) (by intro r hr; obtain ⟨b,_, rfl⟩ := List.mem_map.1 hr; exact hz b) (by intro r hr; obtain ⟨b,_, rfl⟩ := List.mem_map.1 hr; exact h1 b) (by simpa using hs) ha0 ha1
  refine .inl ⟨_, w',_,_, ?_, .inl rfl, k p' cap' (fun q => q.elim (fun e => h4 (by simpa using e)) h5), ?_⟩
  · have ex : a.eval x = .slice p l.length cap := by obtain ⟨u, hu, e⟩ := hx; subst e; exact h x (by simp [Op.operands, Call.operands]) _ hu
    have ey : a.eval y = .slice q m.length c2 := by obtain ⟨u, hu, e⟩ := hy; subst e; exact h y (by simp [Op.operands, Call.operands]) _ hu
    simp only [List.length_map] at h2
    simp [execOp, resolve, invoke, builtin, ex, ey, h2]
  · rw [List.map_append, ← hL]; exact h3
end
end Go.SL

namespace Go.SL
set_option linter.unusedVariables false

theorem selKT {β : Bs} {L L1 L2 X : List Res} (is : List Nat) (hn : nodupB is = true) (h : sel L is = L1 ++ L2) (hlt : is.all (fun i => Nat.blt i L.length) = true) : ∀ w, St β (L ++ X) w → St β (L1 ++ (L2 ++ X)) w := fun w hw => by
  rw [← List.append_assoc, ← h]
  have hle : (sel L is).length = is.length := by unfold sel; exact List.length_map _
  have hb : ∀ j (hj : j < is.length), is[j] < L.length := fun j hj => Nat.le_of_ble_eq_true (List.all_eq_true.1 hlt _ (List.getElem_mem hj))
  have hfl : ∀ j (hj : j < is.length), is.getD j 0 = is[j] := fun j hj => by rw [List.getD_eq_getElem?_getD, List.getElem?_eq_getElem hj]; rfl
  refine hw.map (fun j => if j < is.length then is.getD j 0 else L.length + (j - is.length)) ?_ ?_
  · intro j l hjl hj hl
    by_cases h1 : j < is.length
    · by_cases h2 : l < is.length
      · rw [if_pos h1, if_pos h2, hfl j h1, hfl l h2]
        exact nodupB_spec hn j l h1 h2 hjl
      · rw [if_pos h1, if_neg h2, hfl j h1]
        have := hb j h1; omega
    · by_cases h2 : l < is.length
      · rw [if_neg h1, if_pos h2, hfl l h2]
        have := hb l h2; omega
      · rw [if_neg h1, if_neg h2]; omega
  · intro j r hr
    by_cases h1 : j < is.length
    · refine .inr ?_
      rw [if_pos h1, hfl j h1, List.getElem?_append_left (hb j h1)]
      rw [List.getElem?_append_left (by rw [hle]; exact h1)] at hr
      unfold sel at hr
      rw [List.getElem?_map, List.getElem?_eq_getElem h1] at hr
      simp only [Option.map_some, Option.some.injEq] at hr
      rw [List.getD_eq_getElem?_getD, List.getElem?_eq_getElem (hb j h1)] at hr
      rw [List.getElem?_eq_getElem (hb j h1), ← hr]; rfl
    · refine .inr ?_
      rw [if_neg h1, List.getElem?_append_right (by omega), show L.length + (j - is.length) - L.length = j - is.length by omega]
      rw [List.getElem?_append_right (by rw [hle]; omega), hle] at hr
      exact hr
end Go.SL

namespace Go.SL
set_option linter.unusedVariables false
open Go.RowKit
section
variable {P : Program} {ro : Option Nat} {β : Bs} {N : Nat} {ds : List Deferred} {env : Env} {L : List Res} {Q : Exit → Act → World → Prop}

/-- The marks of some ranges, and what they hold. -/
def Dm (Ds : List Nat) : List Deferred := Ds.map mark
def Db (Ds : List Nat) : Res := bagD (Ds.map dR)
theorem St.db0 {w : World} (h : St β L w) : St β (Db [] :: L) w := St.bagD (Rs := []) h
/-- The new mark stands behind all others. -/
theorem St.dbAdd {w : World} {A : List Res} {D : Nat} {Ds : List Nat} (h : St β (A ++ [Db Ds] ++ [dR D]) w) : St β (A ++ [Db (D :: Ds)]) w := by
  have h1 : St β (dR D :: Db Ds :: A) w := h.perm (by
    rw [List.append_assoc]
    refine (List.perm_append_comm).trans ?_
    exact List.Perm.swap _ _ _)
  have h2 : St β (Db (D :: Ds) :: A) w := by
    have h3 := St.unfocus (A := []) (B := Ds.map dR) (r := dR D) (L := A) h1
    exact h3
  exact h2.perm (List.perm_append_comm (l₁ := [Db (D :: Ds)]) (l₂ := A))

theorem run_marks {fn : Func} {R : Ending → World → Prop} {tmps : Array Value} : ∀ {Ds : List Nat} {A : List Res} {w : World}, St β (Db Ds :: A) w → (∀ w', St β A w' → LeavesInM (Wf none) 0 P fn tmps R [] .returning w') → LeavesInM (Wf none) 0 P fn tmps R (Dm Ds) .returning w
  | [], A, w, h, k => k w (h.perm (List.Perm.refl _) |> fun h => h.unbagD)
  | D :: Ds, A, w, h, k => by
    have h1 : St β (dR D :: Db Ds :: A) w := St.focus (A := []) (B := Ds.map dR) (r := dR D) (L := A) h
    have hd : w.heap[D]? = some (.deferred (some [])) := h1.inv 0 _ rfl
    have hs := h1.obj (o' := .deferred none) 0 rfl
    refine ⟨by simp, .inl ⟨D,_, rfl, run_takeDeferred hd, ?_⟩⟩
    have h2 : St β (Db Ds :: A) (w.putObj D (.deferred none)) := by
      have : ([dR D] ++ (Db Ds :: A)).set 0 (blk D (.deferred none)) = blk D (.deferred none) :: Db Ds :: A := rfl
      exact (hs.map (fun j => j + 1) (fun a b hab _ _ => by omega) (fun j r hr => .inr (by simpa using hr)) : St β (Db Ds :: A) _)
    exact run_marks h2 k

/-- The end of a function that has ranged over functions. -/
theorem VE.resDm {fn : Func} {R : Ending → World → Prop} {xs : List ResultVar} {vs : List Value} {Ds : List Nat} {A : List Res} (hr : fn.results = xs.toArray) (hL : ∀ w, St β L w → St β (Db Ds :: A) w) (h : RVs P β A env xs vs)
    (k : ∀ w, St β A w → R (.returned (resV vs)) w) : VE β N (Dm Ds) env L .ret (FP P fn R) := by
  intro a w ha hw
  show LeavesInM (Wf none) 0 P fn a.tmps R a.defers .returning w
  rw [ha.dfr]
  refine run_marks (hL w hw) fun w' hw' => ?_
  exact ⟨_, run_results (ds := []) (a := { tmps := a.tmps, defers := [] }) hr ⟨ha.size, rfl, ha.get⟩ hw' h, k _ hw'⟩
theorem VC.dm0 {c : Code} (h : VC P ro β N (Dm []) env (Db [] :: L) c Q) : VC P ro β N [] env L c Q := fun a w ha hw => h a w ha hw.db0
end
end Go.SL

namespace Go.SL
set_option linter.unusedVariables false
open Go.RowKit
/-- What a round's assignment comes to, where it may lay blocks. -/
def APy {γ : Type} (β : Bs) (N : Nat) (env : γ → Env) (L : γ → List Res) : Exit → Act → World → Prop := fun e a w => e = .normal ∧ ∃ y, Ag N [] (env y) a ∧ St β (L y) w
section
variable {P : Program} {ro : Option Nat} {β : Bs} {N : Nat} {ds : List Deferred} {env : Env} {L : List Res} {Q : Exit → Act → World → Prop}
/-- A range over a function, inside whatever. 'I n': behind n rounds. -/
theorem VC.rangeFuncL {α γ : Type} {gop : Operand} {ps : Array Tmp} {asg body : Code} {gf : FuncId} {lb : List Value} {Cap : World → Prop} {xs : List (List Value)} (F : α → List Res) (I : Nat → α → Prop) (Ix : Code → Nat → α → Prop) (x0 : α) (A : List Value → γ → List Res) (envb : List Value → γ → Env)
    (hg : ev env gop = some (.func (.func gf) #[] lb.toArray)) (hf : IsFn P gf) (hseq : SeqC P gf lb Cap xs) (hF0 : ∀ w, St β L w → St β (F x0) w) (h0 : I 0 x0)
    (hps : ∀ vs, vs ∈ xs → vs.length = ps.size) (hpN : ps.toList.all (fun t => Nat.blt t N) = true)
    (hCap : ∀ n x w, I n x → (∀ (i : Nat) (r : Res), (F x)[i]? = some r → r.inv w) → (∀ k, k < β.w.heap.size → ¬ β.O k → w.heap[k]? = β.w.heap[k]?) → Cap w)
    (hasg : ∀ (n : Nat) (x : α) (vs : List Value) l T w1, I n x → xs[n]? = some vs → St β (F x ++ T) w1 → VC P (some l) ⟨w1, fpL (F x ++ T)⟩ N [] (penv ps vs ++ env) (F x ++ T) asg (APy ⟨w1, fpL (F x ++ T)⟩ N (envb vs) (fun y => A vs y ++ (F x ++ T))))
    (hbody : ∀ (n : Nat) (x : α) (vs : List Value) (y : γ) l T w1, I n x → xs[n]? = some vs → St β (A vs y ++ (F x ++ T)) w1 → VC P (some l) ⟨w1, fpL (A vs y ++ (F x ++ T))⟩ N [] (envb vs y) (A vs y ++ (F x ++ T)) body (RB ⟨w1, fpL (A vs y ++ (F x ++ T))⟩ F T (I (n + 1)) (fun c => Ix c (n + 1))))
    (hdone : ∀ D x, I xs.length x → VE β N (mark D :: ds) env (F x ++ [dR D]) .normal Q)
    (hstop : ∀ D c n x, n ≤ xs.length → Ix c n x → VC P none β N (mark D :: ds) env (F x ++ [dR D]) c Q) :
    VC P none β N ds env L (.rangeFunc gop ps asg body) Q := by
  intro a w ha hw
  have hw0 := hF0 w hw
  refine wpIn_rangeFunc fun fn _ => ?_
  obtain ⟨rec, hrec⟩ : ∃ rec : LoopState → Option Code → Loop, rec = fun st pe => { state := st, pending := pe, fn, tmps := a.tmps, params := ps, assign := asg, body, defers := w.heap.size } := ⟨_, rfl⟩
  obtain ⟨D, hD⟩ : ∃ D, D = w.heap.size := ⟨_, rfl⟩
  obtain ⟨l, hl⟩ : ∃ l, l = w.heap.size + 1 := ⟨_, rfl⟩
  obtain ⟨W1, hW1⟩ : ∃ W1, (w.alloc (.deferred (some []))).alloc (.loop (rec .ready none)) = W1 := ⟨_, rfl⟩
  obtain ⟨T, hT⟩ : ∃ T : LoopState → Option Code → List Res, T = fun st pe => [blk l (.loop (rec st pe)), dR D] := ⟨_, rfl⟩
  have hTget : ∀ x st pe, (F x ++ T st pe)[(F x).length]? = some (blk l (.loop (rec st pe))) := by intro x st pe; simp [hT]
  have hTset : ∀ x st pe st' pe', (F x ++ T st pe).set (F x).length (blk l (.loop (rec st' pe'))) = F x ++ T st' pe' := by intro x st pe st' pe'; simp [hT]
  have hst1 : St β (F x0 ++ T .ready none) W1 := by
    have h1 := (hw0.alloc (.deferred (some []))).alloc (.loop (rec .ready none))
    rw [hW1, World.size_alloc] at h1
    refine h1.map (fun j => if j < (F x0).length then j + 2 else if j = (F x0).length then 0 else 1) ?_ ?_
    · intro a b hab ha hb
      simp [hT] at ha hb
      split <;> split <;> (try split) <;> (try split) <;> omega
    · intro j r hr
      right
      rw [List.getElem?_append] at hr
      by_cases q : j < (F x0).length
      · simp only [q, if_true] at hr ⊢
        simpa using hr
      · simp only [q, if_false] at hr ⊢
        by_cases e : j = (F x0).length
        · subst e; simp [hT] at hr; subst hr; simp [hl]
        · have : j = (F x0).length + 1 := by
            rcases Nat.lt_or_ge (j - (F x0).length) 2 with s | s
            · omega
            · simp only [hT] at hr; rw [List.getElem?_eq_none (by simpa using s)] at hr; cases hr
          subst this
          simp [hT] at hr; subst hr; simp [dR, hD]
  -- from the record's states to the world
  have endx : ∀ x st pe w', St β (F x ++ T st pe) w' → st ≠ .busy → ∃ w4, (Instr.endLoop l).run P w' = .ok pe w4 ∧ St β (F x ++ [dR D]) w4 := by
    intro x st pe w' hs hne
    have hrl : w'.heap[l]? = some (.loop (rec st pe)) := hs.inv _ _ (hTget x st pe)
    refine ⟨w'.putObj l (.loop { rec st pe with state := .exhausted }), ?_, ?_⟩
    · have := run_endLoop (P := P) hrl (by rw [hrec]; exact hne)
      rw [this]; congr 1; rw [hrec]
    · have h2 := hs.obj (o' := .loop { rec st pe with state := .exhausted }) _ (hTget x st pe)
      refine h2.map (fun j => if j < (F x).length then j else j + 1) ?_ ?_
      · intro a b hab ha hb
        split <;> split <;> omega
      · intro j r hr
        right
        rw [List.getElem?_append] at hr
        by_cases q : j < (F x).length
        · simp only [q, if_true] at hr ⊢
          rw [List.getElem?_set_ne (by omega), List.getElem?_append_left q]; exact hr
        · simp only [q, if_false] at hr ⊢
          have : j = (F x).length := by
            rcases Nat.lt_or_ge (j - (F x).length) 1 with s | s
            · omega
            · rw [List.getElem?_eq_none (by simpa using s)] at hr; cases hr
          subst this
          simp at hr; subst hr
          rw [List.getElem?_set_ne (by omega), List.getElem?_append_right (by omega)]
          simp [hT]
  refine ⟨l, [mark D], W1, { target := .fn (.func gf) lb.toArray, args := #[yv l] }, W1, gf, (yv l :: lb).toArray, W1, ?_, ?_, ?_, ?_, fun h => by simp [Wf, Fence.wide] at h, ?_⟩
  · rw [← hW1, hrec, hl, hD]; exact run_enterLoop_outer _ _ _ _ _
  · have e : a.eval gop = .func (.func gf) #[] lb.toArray := ha.eval hg
    simp only [resolve, e]
    simp [Deferred.ofValue, yv, Act.eval]
  · intro f' _; exact True.intro
  · simp [invoke, run_call hf]
  · refine callsIn_wf.2 ((hseq l (fun n r => ∃ x, I n x ∧ r = big β (F x ++ T .ready none) ∧ Fits β (F x ++ T .ready none)) (fun n r => ∃ c x, Ix c n x ∧ r = big β (F x ++ T .done (some c)) ∧ Fits β (F x ++ T .done (some c)))
      W1 (big β (F x0 ++ T .ready none)) ?_ ?_ ⟨x0, h0, rfl, hst1.fits⟩ ⟨hst1.inv, hst1.fr⟩ ?_).mono ?_)
    · rintro n r w' ⟨x, hI, rfl,_⟩ hinv
      exact hCap n x w' hI (fun i r hr => hinv.1 i r (by
        rw [List.getElem?_append_left]
        · exact hr
        · rcases Nat.lt_or_ge i (F x).length with q | q
          · exact q
          · simp [List.getElem?_eq_none q] at hr)) hinv.2
    · -- one round
      rintro n vs hvs r w1 ⟨x, hI, rfl, hfit⟩ hinv hb hos
      have hs1 : St β (F x ++ T .ready none) w1 := St.of_big (w1 := w1) (O := β.O) hfit ⟨hos.1.trans hst1.os, hos.2.1.trans hst1.tape, hos.2.2.1.trans hst1.output, Nat.le_trans hst1.size hos.2.2.2⟩ hinv hb
      have hrl : w1.heap[l]? = some (.loop (rec .ready none)) := hs1.inv _ _ (hTget x .ready none)
      have hlen : vs.toArray.size = ps.size := by simpa using hps vs (List.mem_of_getElem? hvs)
      have hy := run_yield (P := P) (args := vs.toArray) hrl (by rw [hrec]; exact hlen)
      refine ⟨_,_,_,_, hy, ?_⟩
      refine roundIn_of_wpIn (F := Fence.wide) (n := 0) True.intro ?_
      have hA : Ag N [] (penv ps vs ++ env) { tmps := (ps.zip vs.toArray).foldl (fun t (p, v) => t.setIfInBounds p v) a.tmps, defers := [] } := by
        have h1 := ag_zip (N := N) (ds := []) (ps.toList.zip vs) env { tmps := a.tmps, defers := [] } (fun z hz => by
          have hm : z.1 ∈ ps.toList := (List.of_mem_zip (a := z.1) (b := z.2) hz).1
          exact Nat.le_of_ble_eq_true (List.all_eq_true.1 hpN z.1 hm)) ⟨ha.size, rfl, ha.get⟩
        have e : (ps.zip vs.toArray).foldl (fun t (p, v) => t.setIfInBounds p v) a.tmps = (ps.toList.zip vs).foldl (fun t (p, v) => t.setIfInBounds p v) a.tmps := by
          rw [← Array.foldl_toList, Array.toList_zip]
        rw [e]; exact h1
      have ha1 := hasg n x vs l (T .ready none) w1 hI hvs hs1 _ w1 hA hs1.rebase
      rw [hrec]
      refine Code.wpIn_mono ?_ ha1
      rintro e a2 w2 ⟨rfl, y, hag, hs2⟩
      have hs2' := hs1.back hs2
      have hAget : ∀ st pe, (A vs y ++ (F x ++ T st pe))[(A vs y).length + (F x).length]? = some (blk l (.loop (rec st pe))) := by intro st pe; simp [hT]
      have hAset : ∀ st pe st' pe', (A vs y ++ (F x ++ T st pe)).set ((A vs y).length + (F x).length) (blk l (.loop (rec st' pe'))) = A vs y ++ (F x ++ T st' pe') := by intro st pe st' pe'; simp [hT]
      have hrl2 : w2.heap[l]? = some (.loop (rec .ready none)) := hs2.inv _ _ (hAget .ready none)
      refine ⟨w2.putObj l (.loop { rec .ready none with state := .busy }), run_beginRound hrl2 (by rw [hrec]), ?_⟩
      have eb : ({ rec .ready none with state := .busy } : Loop) = rec .busy none := by rw [hrec]
      rw [eb]
      have hs3 := hs2'.obj (o' := .loop (rec .busy none)) _ (hAget .ready none)
      rw [hAset] at hs3
      have hs3' := hs2.obj (o' := .loop (rec .busy none)) _ (hAget .ready none)
      rw [hAset] at hs3'
      have hb1 := hbody n x vs y l (T .busy none) _ hI hvs hs3 _ _ hag hs3.rebase
      refine Code.wpIn_mono ?_ hb1
      intro e a3 w3 hq
      have fin : ∀ y0 (jump : Option Code), St ⟨w2.putObj l (.loop (rec .busy none)), fpL (A vs y ++ (F x ++ T .busy none))⟩ (F y0 ++ T .busy none) w3 →
          ∃ w4, (Instr.endRound l jump).run P w3 = .ok (.bool jump.isNone) w4 ∧ St ⟨w1, (big β (F x ++ T .ready none)).fp⟩ [big β (F y0 ++ T (if jump.isNone then .ready else .done) jump)] w4 ∧ Fits β (F y0 ++ T (if jump.isNone then .ready else .done) jump) := by
        intro y0 jump hsy
        have h4 := hs3'.back hsy
        have hrl3 : w3.heap[l]? = some (.loop (rec .busy none)) := h4.inv _ _ (hTget y0 .busy none)
        refine ⟨_, run_endRound jump hrl3, ?_⟩
        have er : ({ rec .busy none with state := if jump.isNone then .ready else .done, pending := jump } : Loop) = rec (if jump.isNone then .ready else .done) jump := by rw [hrec]
        rw [er]
        have h5 := h4.obj (o' := .loop (rec (if jump.isNone then .ready else .done) jump)) _ (hTget y0 .busy none)
        rw [hTset] at h5
        exact ⟨St.to_big hs1 h5, (hs1.back h5).fits⟩
      cases e with
      | normal =>
        obtain ⟨z, hy1, hy2⟩ := hq
        obtain ⟨w4, h1, h2, h3⟩ := fin z none hy2
        exact ⟨_, w4, h1, true,_, rfl, ⟨z, hy1, rfl, h3⟩, h2⟩
      | ret =>
        obtain ⟨z, hy1, hy2⟩ := hq
        obtain ⟨w4, h1, h2, h3⟩ := fin z (some .ret) hy2
        exact ⟨_, w4, h1, false,_, rfl, ⟨_, z, hy1, rfl, h3⟩, h2⟩
      | exit id =>
        obtain ⟨z, hy1, hy2⟩ := hq
        obtain ⟨w4, h1, h2, h3⟩ := fin z (some (.exit id)) hy2
        exact ⟨_, w4, h1, false,_, rfl, ⟨_, z, hy1, rfl, h3⟩, h2⟩
      | goto t => exact hq.elim
      | panic ch => exact hq.elim
      | outgrown => exact hq.elim
    · intro k hk
      rcases hk with ⟨i, r, hr, hk⟩ | ⟨hk,_⟩
      · exact (hst1.rng i r hr k hk).2
      · exact Nat.lt_of_lt_of_le hk hst1.size
    · rintro e w' ⟨rfl, n, r', hJ, hs⟩
      have toSt : ∀ L2, r' = big β L2 → Fits β L2 → St β L2 w' := by
        rintro L2 rfl hfit
        have hb := hs.rng 0 _ rfl
        exact St.of_big (w1 := w') (O := β.O) hfit ⟨hs.os.trans hst1.os, hs.tape.trans hst1.tape, hs.output.trans hst1.output, Nat.le_trans hst1.size hs.size⟩ (hs.inv 0 _ rfl) (fun k hk => (hb k hk).2)
      have hag : Ag N (mark D :: ds) env { a with defers := [mark D] ++ a.defers } := ⟨ha.size, by simp [ha.dfr], ha.get⟩
      rcases hJ with ⟨x, hI, hr, hfit⟩ | ⟨hle, c, x, hI, hr, hfit⟩
      · obtain ⟨w4, h1, h2⟩ := endx x .ready none w' (toSt _ hr hfit) (by simp)
        exact ⟨none, w4, h1, hdone D x hI _ _ hag h2⟩
      · obtain ⟨w4, h1, h2⟩ := endx x .done (some c) w' (toSt _ hr hfit) (by simp)
        exact ⟨some c, w4, h1, hstop D c n x hle hI _ _ hag h2⟩


/-- The marks of some ranges, and what they hold. -/

theorem VC.rangeFuncM {α γ : Type} {gop : Operand} {ps : Array Tmp} {asg body : Code} {gf : FuncId} {lb : List Value} {Cap : World → Prop} {xs : List (List Value)} {Ds : List Nat} (F : α → List Res) (I : Nat → α → Prop) (Ix : Code → Nat → α → Prop) (x0 : α) (A : List Value → γ → List Res) (envb : List Value → γ → Env)
    (hg : ev env gop = some (.func (.func gf) #[] lb.toArray)) (hf : IsFn P gf) (hseq : SeqC P gf lb Cap xs) (hF0 : ∀ w, St β L w → St β (F x0 ++ [Db Ds]) w) (h0 : I 0 x0)
    (hps : ∀ vs, vs ∈ xs → vs.length = ps.size) (hpN : ps.toList.all (fun t => Nat.blt t N) = true)
    (hCap : ∀ n x w, I n x → (∀ (i : Nat) (r : Res), (F x)[i]? = some r → r.inv w) → (∀ k, k < β.w.heap.size → ¬ β.O k → w.heap[k]? = β.w.heap[k]?) → Cap w)
    (hasg : ∀ (n : Nat) (x : α) (vs : List Value) l T w1, I n x → xs[n]? = some vs → St β (F x ++ T) w1 → VC P (some l) ⟨w1, fpL (F x ++ T)⟩ N [] (penv ps vs ++ env) (F x ++ T) asg (APy ⟨w1, fpL (F x ++ T)⟩ N (envb vs) (fun y => A vs y ++ (F x ++ T))))
    (hbody : ∀ (n : Nat) (x : α) (vs : List Value) (y : γ) l T w1, I n x → xs[n]? = some vs → St β (A vs y ++ (F x ++ T)) w1 → VC P (some l) ⟨w1, fpL (A vs y ++ (F x ++ T))⟩ N [] (envb vs y) (A vs y ++ (F x ++ T)) body (RB ⟨w1, fpL (A vs y ++ (F x ++ T))⟩ F T (I (n + 1)) (fun c => Ix c (n + 1))))
    (hdone : ∀ D x, I xs.length x → VE β N (Dm (D :: Ds)) env (F x ++ [Db (D :: Ds)]) .normal Q)
    (hstop : ∀ D c n x, n ≤ xs.length → Ix c n x → VC P none β N (Dm (D :: Ds)) env (F x ++ [Db (D :: Ds)]) c Q) :
    VC P none β N (Dm Ds) env L (.rangeFunc gop ps asg body) Q := by
  have as1 : ∀ (x : α) (T : List Res), (F x ++ [Db Ds]) ++ T = F x ++ ([Db Ds] ++ T) := fun x T => List.append_assoc _ _ _
  refine VC.rangeFuncL (fun x => F x ++ [Db Ds]) I Ix x0 A envb hg hf hseq hF0 h0 hps hpN (fun n x w h1 h2 h3 => hCap n x w h1 (fun i r hr => h2 i r (by
      rw [List.getElem?_append_left (List.getElem?_eq_some_iff.1 hr).1]; exact hr)) h3) ?_ ?_ (fun D x hI => ?_) (fun D c n x hn hI => ?_)
  · intro n x vs l T w1 h1 h2 h3
    rw [as1] at h3 ⊢
    exact hasg n x vs l _ w1 h1 h2 h3
  · intro n x vs y l T w1 h1 h2 h3
    rw [as1] at h3 ⊢
    refine fun a w ha hw => Code.wpIn_mono ?_ (hbody n x vs y l _ w1 h1 h2 h3 a w ha hw)
    intro e a w q
    cases e with
    | normal => obtain ⟨y, q1, q2⟩ := q; exact ⟨y, q1, by rw [as1]; exact q2⟩
    | ret => obtain ⟨y, q1, q2⟩ := q; exact ⟨y, q1, by rw [as1]; exact q2⟩
    | exit id => obtain ⟨y, q1, q2⟩ := q; exact ⟨y, q1, by rw [as1]; exact q2⟩
    | _ => exact q
  · intro a w ha hw
    exact hdone D x hI a w ha (St.dbAdd hw)
  · intro a w ha hw
    exact hstop D c n x hn hI a w ha (St.dbAdd hw)


/-- A range over a function inside a loop, whose round's assignment may lay blocks. -/
theorem VC.rangeFuncN {α γ : Type} {gop : Operand} {ps : Array Tmp} {asg body : Code} {gf : FuncId} {lb : List Value} {Cap : World → Prop} {xs : List (List Value)} {Ds : List Nat} (R : List Res) (F : α → List Res) (I : Nat → α → Prop) (Ix : Code → Nat → α → Prop) (x0 : α) (A : List Value → γ → List Res) (envb : List Value → γ → Env)
    (hg : ev env gop = some (.func (.func gf) #[] lb.toArray)) (hf : IsFn P gf) (hseq : SeqC P gf lb Cap xs) (hF0 : ∀ w, St β L w → St β ((F x0 ++ R) ++ [Db Ds]) w) (h0 : I 0 x0)
    (hps : ∀ vs, vs ∈ xs → vs.length = ps.size) (hpN : ps.toList.all (fun t => Nat.blt t N) = true)
    (hCap : ∀ n x w, I n x → (∀ (i : Nat) (r : Res), (F x ++ R)[i]? = some r → r.inv w) → (∀ k, k < β.w.heap.size → ¬ β.O k → w.heap[k]? = β.w.heap[k]?) → Cap w)
    (hasg : ∀ (n : Nat) (x : α) (vs : List Value) l T w1, I n x → xs[n]? = some vs → St β ((F x ++ R) ++ T) w1 → VC P (some l) ⟨w1, fpL ((F x ++ R) ++ T)⟩ N [] (penv ps vs ++ env) ((F x ++ R) ++ T) asg (APy ⟨w1, fpL ((F x ++ R) ++ T)⟩ N (envb vs) (fun y => A vs y ++ ((F x ++ R) ++ T))))
    (hbody : ∀ (n : Nat) (x : α) (vs : List Value) (y : γ) l T w1, I n x → xs[n]? = some vs → St β (A vs y ++ ((F x ++ R) ++ T)) w1 → VC P (some l) ⟨w1, fpL (A vs y ++ ((F x ++ R) ++ T))⟩ N [] (envb vs y) (A vs y ++ ((F x ++ R) ++ T)) body (RB ⟨w1, fpL (A vs y ++ ((F x ++ R) ++ T))⟩ (fun x => F x ++ R) T (I (n + 1)) (fun c => Ix c (n + 1))))
    (hdone : ∀ D x, I xs.length x → VE β N (Dm (D :: Ds)) env ((F x ++ R) ++ [Db (D :: Ds)]) .normal Q)
    (hstop : ∀ D c n x, n ≤ xs.length → Ix c n x → VC P none β N (Dm (D :: Ds)) env ((F x ++ R) ++ [Db (D :: Ds)]) c Q) :
    VC P none β N (Dm Ds) env L (.rangeFunc gop ps asg body) Q :=
  VC.rangeFuncM (fun x => F x ++ R) I Ix x0 A envb hg hf hseq hF0 h0 hps hpN hCap hasg hbody hdone hstop

end
end Go.SL

namespace Go.SL
set_option linter.unusedVariables false
section
variable {P : Program} {β : Bs} {env : Env} {L : List Res} {ty : TypeId} {pos : String} {aft : Array Edge}
theorem LO.ixe {d : Option Nat} {g : Option (Nat × Bool)} {x i : Operand} {T E z : Nat} {b o n c : Nat} {k : IntKind} {j : Nat} {m : Int} (hT : IsSlice P T E) (hz : (P.info? E).map (·.size) = some z) (hx : OV env x (.slice (some ⟨b, o, none⟩) n c)) (hi : OV env i (.int k m)) (he : m = (j : Nat)) (hj : j < n) :
    LO P β env L ⟨d, .indexAddr T x i, ty, pos, aft, g⟩ (.pointer (some ⟨b, o + j * z, none⟩)) := by
  subst he
  exact LO.ix hT hz hx hi hj
theorem fpL_nil : fpL ([] : List Res) = fun _ => False := by
  funext k
  simp [fpL]
theorem HO.callf {α : Type} {K : Value → List Res → Prop} {dd : Option Nat} {f : FuncId} {fx : Operand} {xs : List Operand} {vs first : List Value} {aT : Array TypeId} {v : α → Value} {R : α → List Res} {I : α → Prop} (hfx : OV env fx (.func (.func f) first.toArray #[])) (hf : IsFn P f) (hx : OVs env xs vs)
    (hc : ∀ w, St β L w → Calls P f (first ++ vs).toArray w fun e w' => ∃ x, I x ∧ e = .returned (v x) ∧ St (Go.SL.bs w) (R x) w') (k : ∀ x, I x → K (v x) (R x ++ L)) : HO P β env L ⟨dd, .call ⟨.value fx, xs.toArray, aT⟩, ty, pos, aft, none⟩ K :=
  HO.callP (cap := []) [] L (fun _ h => h) hfx hf hx (fun w hw _ => by
    rw [List.append_nil]
    exact (hc w hw).mono fun e w' ⟨x, h1, h2, h3⟩ => ⟨x, h1, h2, by rw [fpL_nil]; exact h3⟩) k
end
end Go.SL

namespace Go.SL
set_option linter.unusedVariables false
open Go.RowKit
section
variable {P : Program} {β : Bs} {env : Env} {L : List Res} {ty : TypeId} {pos : String} {aft : Array Edge}
variable {α δ : Type} {kE : α → Value} {vE : δ → Value} {es : List MapEntry} {M : α → Option δ}
/-- A map, one of whose entries has a stamp. -/
def mapS (kE : α → Value) (vE : δ → Value) (b : Nat) (M : α → Option δ) (n : α) (st : Nat) : Res := ⟨fun k => k = b, fun w => ∃ es clock, w.heap[b]? = some (.map es clock) ∧ MapG kE vE es.toList M ∧ Stamps es.toList clock ∧ ∃ (j : Nat) (e : MapEntry), es.toList[j]? = some e ∧ e.key = kE n ∧ e.born = st, fun h ⟨es, c, h1, h2⟩ => ⟨es, c, (h b rfl).trans h1, h2⟩⟩
theorem find_born {l : List MapEntry} (hn : (l.map (·.born)).Nodup) {j : Nat} {e0 : MapEntry} (h : l[j]? = some e0) : l.findIdx? (fun e => ((e.born : Nat) : Int) == ((e0.born : Nat) : Int)) = some j := by
  induction l generalizing j with
  | nil => simp at h
  | cons a r ih =>
    simp only [List.map_cons, List.nodup_cons] at hn
    cases j with
    | zero =>
      simp only [List.getElem?_cons_zero, Option.some.injEq] at h
      subst h
      simp [List.findIdx?_cons]
    | succ j =>
      simp only [List.getElem?_cons_succ] at h
      have hne : a.born ≠ e0.born := fun e1 => hn.1 (List.mem_map.2 ⟨e0, List.mem_of_getElem? h, e1.symm⟩)
      have hb : (((a.born : Nat) : Int) == ((e0.born : Nat) : Int)) = false := by
        simp only [beq_eq_false_iff_ne, ne_eq, Int.natCast_inj]
        exact hne
      rw [List.findIdx?_cons, hb]
      simp [ih hn.2 h]
section
variable [DecidableEq α] {K : Value → List Res → Prop} {dd : Option Nat}
theorem updG_twice {n : α} {u v : δ} : updG (updG M n u) n v = updG M n v := by
  funext m
  unfold updG
  split <;> rfl
/-- A map, and the stamp that a key has or would get. -/
def mapT (kE : α → Value) (vE : δ → Value) (b : Nat) (M : α → Option δ) (n : α) (st : Nat) : Res := ⟨fun k => k = b, fun w => ∃ es clock, w.heap[b]? = some (.map es clock) ∧ MapG kE vE es.toList M ∧ Stamps es.toList clock ∧ ((∃ (j : Nat) (e : MapEntry), es.toList[j]? = some e ∧ e.key = kE n ∧ e.born = st) ∨ ((∀ e, e ∈ es.toList → e.key ≠ kE n) ∧ clock = st)), fun h ⟨es, c, h1, h2⟩ => ⟨es, c, (h b rfl).trans h1, h2⟩⟩
omit [DecidableEq α] in
theorem VC.stamp {ro : Option Nat} {N : Nat} {ds : List Deferred} {Q : Exit → Act → World → Prop} {c : Code} (i : Nat) {b : Nat} {M : α → Option δ} (n : α) (LF : Res → List Res) (hi : L[i]? = some (mapR kE vE b M)) (hL : ∀ R : Res, L.set i R = LF R) (k : ∀ st, VC P ro β N ds env (LF (mapT kE vE b M n st)) c Q) : VC P ro β N ds env L c Q := fun a w ha hw => by
  obtain ⟨es, clock, h1, h2, h3⟩ := hw.inv i _ hi
  have key : ∀ st, ((∃ (j : Nat) (e : MapEntry), es.toList[j]? = some e ∧ e.key = kE n ∧ e.born = st) ∨ ((∀ e, e ∈ es.toList → e.key ≠ kE n) ∧ clock = st)) → St β (LF (mapT kE vE b M n st)) w := fun st hs => by
    rw [← hL]
    exact hw.conv i hi (fun k hk => hk) ⟨es, clock, h1, h2, h3, hs⟩
  by_cases hq : ∃ e, e ∈ es.toList ∧ e.key = kE n
  · obtain ⟨e, he, hk⟩ := hq
    obtain ⟨j, hj⟩ := List.mem_iff_getElem?.1 he
    exact k e.born a w ha (key _ (.inl ⟨j, e, hj, hk, rfl⟩))
  · exact k clock a w ha (key _ (.inr ⟨fun e he hk => hq ⟨e, he, hk⟩, rfl⟩))
theorem HO.menT (i : Nat) (LF : Res → List Res) {x y : Operand} {T b st : Nat} {M : α → Option δ} {d0 : δ} (n : α) (hT : IsMapG P T kE vE d0) (hx : OV env x (.map (some b))) (hy : OV env y (kE n)) (hi : L[i]? = some (mapT kE vE b M n st)) (hL : ∀ R : Res, L.set i R = LF R)
    (k : K (.tuple #[vE ((M n).getD d0), .int .i64 (st : Nat)]) (LF (mapS kE vE b (updG M n ((M n).getD d0)) n st))) : HO P β env L ⟨dd, .mapEntry T x y, ty, pos, aft, none⟩ K := by
  intro a w h hw
  obtain ⟨KT, E, hu, hK, hZ⟩ := hT
  obtain ⟨es, clock, hb, hs, hst, hT⟩ := hw.inv i _ hi
  have hlt : i < L.length := by
    rcases Nat.lt_or_ge i L.length with q | q
    · exact q
    · simp [List.getElem?_eq_none q] at hi
  have hobj : (getObj b).run P w = .ok (.map es clock) w := by simp [getObj, Sem.run, hb]
  have hset : ∀ o, (setObj b o).run P w = .ok () (w.putObj b o) := fun o => by simp [setObj, Sem.run, hb, World.putObj]
  have ex : a.eval x = .map (some b) := by obtain ⟨u, hu, e⟩ := hx; subst e; exact h x (by simp [Op.operands]) _ hu
  have ey : a.eval y = kE n := by obtain ⟨u, hu, e⟩ := hy; subst e; exact h y (by simp [Op.operands]) _ hu
  have h1 : St β (L.set i (blk b (.map es clock))) w := hw.conv i hi (fun k hk => hk) hb
  have upd : ∀ es' clock' v st, MapG kE vE es'.toList (updG M n v) → Stamps es'.toList clock' → (∃ (j : Nat) (e : MapEntry), es'.toList[j]? = some e ∧ e.key = kE n ∧ e.born = st) → St β (L.set i (mapS kE vE b (updG M n v) n st)) (w.putObj b (.map es' clock')) := by
    intro es' clock' v st hse hst' hje
    have hg : (L.set i (blk b (.map es clock)))[i]? = some (blk b (.map es clock)) := by simp [hlt]
    have h2 := h1.obj (o' := .map es' clock') i hg
    rw [List.set_set] at h2
    have hg2 : (L.set i (blk b (.map es' clock')))[i]? = some (blk b (.map es' clock')) := by simp [hlt]
    have h3 := h2.conv i (r' := mapS kE vE b (updG M n v) n st) hg2 (fun k hk => hk) ⟨es', clock', h2.inv i _ hg2, hse, hst', hje⟩
    rwa [List.set_set] at h3
  rcases hK.find n es.toList w (fun e he => by obtain ⟨m,_, h1,_⟩ := hs.ent e he; exact ⟨m, h1⟩) with ⟨j, e, h1, h3, h4⟩ | ⟨h1, h2⟩
  · have hj : es[j]? = some e := by simpa using h3
    obtain ⟨v, hv, hM⟩ := mapG_get hK.inj hs (List.mem_of_getElem? h3) h4
    have hjl := (List.getElem?_eq_some_iff.1 h3).1
    have hbo : e.born = st := by
      rcases hT with ⟨j2, e2, g1, g2, g3⟩ | ⟨g1, g2⟩
      · obtain ⟨a1, a2⟩ := List.getElem?_eq_some_iff.1 h3
        obtain ⟨b1, b2⟩ := List.getElem?_eq_some_iff.1 g1
        have p := List.pairwise_iff_getElem.1 hs.nod
        rcases Nat.lt_trichotomy j j2 with q | q | q
        · exact absurd (by rw [a2, b2, h4, g2]) (p j j2 a1 b1 q)
        · subst q
          rw [← g3, ← a2, ← b2]
        · exact absurd (by rw [a2, b2, h4, g2]) (p j2 j b1 a1 q)
      · exact absurd h4 (g1 e (List.mem_of_getElem? h3))
    subst hbo
    refine .inl ⟨_, w.putObj b (.map (es.modify j fun e => { e with key := kE n }) clock),_,_, ?_, .inl rfl, k, by
      rw [← hL]
      refine upd _ _ _ _ ?_ ?_ ?_
      · rw [modify_set h3, hM]; have := mapG_set hK.inj hs h3 h4 (v := v); rw [← hv] at this; exact this
      · rw [modify_set h3]; exact stamps_set hst h3
      · rw [modify_set h3]; exact ⟨j, ⟨kE n, e.val, e.born⟩, List.getElem?_set_self hjl, rfl, rfl⟩⟩
    simp only [execOp, ex, ey, Sem.run_bind, Sem.run_pure, Instr.mapEntry, run_underlying hu, Result.andThen_ok, hobj, hK.chk]
    rw [h1]
    simp [hj, h4, Instr.keyThatStays, hK.bits, hset, hM, hv, goInt]
  · have hM : M n = none := mapG_none hs h2
    have hbo : clock = st := by
      rcases hT with ⟨j2, e2, g1, g2, g3⟩ | ⟨g1, g2⟩
      · exact absurd g2 (h2 e2 (List.mem_of_getElem? g1))
      · exact g2
    subst hbo
    refine .inl ⟨_, w.putObj b (.map (es.push { key := kE n, val := vE d0, born := clock }) (clock + 1)),_,_, ?_, .inl rfl, k, by
      rw [← hL, hM]
      refine upd _ _ _ _ ?_ ?_ ?_
      · rw [Array.toList_push]; exact mapG_push hs h2
      · rw [Array.toList_push]; exact stamps_push hst
      · rw [Array.toList_push]; exact ⟨es.toList.length,_, List.getElem?_concat_length, rfl, rfl⟩⟩
    simp only [execOp, ex, ey, Sem.run_bind, Sem.run_pure, Instr.mapEntry, run_underlying hu, Result.andThen_ok, hobj, hK.chk]
    rw [h1]
    have hz : (zeroValue E).run P w = .ok (vE d0) w := run_zero hZ w
    simp [hz, hset, hM, goInt]
/-- The store behind. -/
theorem HO.est (i : Nat) (LF : Res → List Res) {x y z : Operand} {T b st : Nat} {M : α → Option δ} (n : α) (v : δ) (hinj : ∀ {a b : α}, kE a = kE b → a = b) (hx : OV env x (.map (some b))) (hy : OV env y (.int .i64 (st : Nat))) (hz : OV env z (vE v)) (hi : L[i]? = some (mapS kE vE b M n st)) (hL : ∀ R : Res, L.set i R = LF R)
    (k : K undef (LF (mapR kE vE b (updG M n v)))) : HO P β env L ⟨dd, .entryStore T x y z, ty, pos, aft, none⟩ K := by
  intro a w h hw
  obtain ⟨es, clock, hb, hs, hst, j, e, h3, h4, h5⟩ := hw.inv i _ hi
  have hlt : i < L.length := by
    rcases Nat.lt_or_ge i L.length with q | q
    · exact q
    · simp [List.getElem?_eq_none q] at hi
  have hobj : (getObj b).run P w = .ok (.map es clock) w := by simp [getObj, Sem.run, hb]
  have hset : ∀ o, (setObj b o).run P w = .ok () (w.putObj b o) := fun o => by simp [setObj, Sem.run, hb, World.putObj]
  have ex : a.eval x = .map (some b) := by obtain ⟨u, hu, e⟩ := hx; subst e; exact h x (by simp [Op.operands]) _ hu
  have ey : a.eval y = .int .i64 (st : Nat) := by obtain ⟨u, hu, e⟩ := hy; subst e; exact h y (by simp [Op.operands]) _ hu
  have ez : a.eval z = vE v := by obtain ⟨u, hu, e⟩ := hz; subst e; exact h z (by simp [Op.operands]) _ hu
  have h1 : St β (L.set i (blk b (.map es clock))) w := hw.conv i hi (fun k hk => hk) hb
  have upd : ∀ es' clock', MapG kE vE es'.toList (updG M n v) → Stamps es'.toList clock' → St β (L.set i (mapR kE vE b (updG M n v))) (w.putObj b (.map es' clock')) := by
    intro es' clock' hse hst'
    have hg : (L.set i (blk b (.map es clock)))[i]? = some (blk b (.map es clock)) := by simp [hlt]
    have h2 := h1.obj (o' := .map es' clock') i hg
    rw [List.set_set] at h2
    have hg2 : (L.set i (blk b (.map es' clock')))[i]? = some (blk b (.map es' clock')) := by simp [hlt]
    have h3 := h2.conv i (r' := mapR kE vE b (updG M n v)) hg2 (fun k hk => hk) ⟨es', clock', h2.inv i _ hg2, hse, hst'⟩
    rwa [List.set_set] at h3
  have hidx : es.findIdx? (fun e' => ((e'.born : Nat) : Int) == (st : Int)) = some j := by
    have := find_born hst.1 h3
    rw [h5] at this
    cases es
    simpa using this
  refine .inl ⟨.skip, w.putObj b (.map (es.modify j fun e => { e with val := vE v }) clock), undef,_, ?_, .inr ⟨rfl, rfl⟩, k, by
    rw [← hL]
    refine upd _ _ ?_ ?_
    · rw [modify_set h3]; have := mapG_set hinj hs h3 h4 (v := v); rw [← h4] at this; exact this
    · rw [modify_set h3]; exact stamps_set hst h3⟩
  simp only [execOp, ex, ey, ez, Sem.run_bind, Sem.run_pure]
  refine skip_of ?_
  simp [Instr.entryStore, hobj, asInt, asIntOf, hidx, hset]
def delG (M : α → Option δ) (n : α) : α → Option δ := fun m => if m = n then none else M m
theorem mapG_del (hinj : ∀ {a b : α}, kE a = kE b → a = b) (h : MapG kE vE es M) {j : Nat} {e : MapEntry} {n : α} (hj : es[j]? = some e) (hk : e.key = kE n) : MapG kE vE (es.eraseIdx j) (delG M n) := by
  obtain ⟨hjl, hje⟩ := List.getElem?_eq_some_iff.1 hj
  have hne : ∀ (i : Nat) (hi : i < es.length), i ≠ j → es[i].key ≠ kE n := fun i hi hij q => by
    have p := List.pairwise_iff_getElem.1 h.nod
    rcases Nat.lt_or_gt_of_ne hij with k | k
    · exact p i j hi hjl k (by rw [q, hje, hk])
    · exact p j i hjl hi k (by rw [q, hje, hk])
  refine ⟨fun x hx => ?_, fun m v hm => ?_, h.nod.sublist (List.eraseIdx_sublist ..)⟩
  · obtain ⟨i, hi, hij, rfl⟩ := List.mem_eraseIdx_iff_getElem.1 hx
    obtain ⟨m, v, h1, h2, h3⟩ := h.ent _ (List.getElem_mem hi)
    refine ⟨m, v, h1, h2, ?_⟩
    unfold delG
    rw [if_neg (fun q => hne i hi hij (by rw [h1, q]))]; exact h3
  · unfold delG at hm
    split at hm
    · cases hm
    · rename_i q
      obtain ⟨x, h1, h2, h3⟩ := h.mem m v hm
      obtain ⟨i, hi, rfl⟩ := List.mem_iff_getElem.1 h1
      refine ⟨es[i], List.mem_eraseIdx_iff_getElem.2 ⟨i, hi, fun e1 => ?_, rfl⟩, h2, h3⟩
      subst e1
      rw [hje, hk] at h2
      exact q (hinj h2.symm)
theorem stamps_del {es : List MapEntry} {c j : Nat} (h : Stamps es c) : Stamps (es.eraseIdx j) c :=
  ⟨h.1.sublist ((List.eraseIdx_sublist ..).map _), fun x hx => h.2 x (List.mem_of_mem_eraseIdx hx)⟩
/-- An entry is deleted. -/
theorem HO.del (i : Nat) (LF : Res → List Res) {x y : Operand} {T KT' b : Nat} {M : α → Option δ} {d0 : δ} (n : α) (hT : IsMapG P T kE vE d0) (hx : OV env x (.map (some b))) (hy : OV env y (kE n)) (hi : L[i]? = some (mapR kE vE b M)) (hL : ∀ R : Res, L.set i R = LF R)
    (k : K (.tuple #[]) (LF (mapR kE vE b (delG M n)))) : HO P β env L ⟨dd, .call ⟨.builtin .delete, #[x, y], #[T, KT']⟩, ty, pos, aft, none⟩ K := by
  intro a w h hw
  obtain ⟨KT, E, hu, hK, hZ⟩ := hT
  obtain ⟨es, clock, hb, hs, hst⟩ := hw.inv i _ hi
  have hlt : i < L.length := by
    rcases Nat.lt_or_ge i L.length with q | q
    · exact q
    · simp [List.getElem?_eq_none q] at hi
  have hobj : (getObj b).run P w = .ok (.map es clock) w := by simp [getObj, Sem.run, hb]
  have hset : ∀ o, (setObj b o).run P w = .ok () (w.putObj b o) := fun o => by simp [setObj, Sem.run, hb, World.putObj]
  have ex : a.eval x = .map (some b) := by obtain ⟨u, hu, e⟩ := hx; subst e; exact h x (by simp [Op.operands, Call.operands]) _ hu
  have ey : a.eval y = kE n := by obtain ⟨u, hu, e⟩ := hy; subst e; exact h y (by simp [Op.operands, Call.operands]) _ hu
  have h1 : St β (L.set i (blk b (.map es clock))) w := hw.conv i hi (fun k hk => hk) hb
  have upd : ∀ es' clock', MapG kE vE es'.toList (delG M n) → Stamps es'.toList clock' → St β (L.set i (mapR kE vE b (delG M n))) (w.putObj b (.map es' clock')) := by
    intro es' clock' hse hst'
    have hg : (L.set i (blk b (.map es clock)))[i]? = some (blk b (.map es clock)) := by simp [hlt]
    have h2 := h1.obj (o' := .map es' clock') i hg
    rw [List.set_set] at h2
    have hg2 : (L.set i (blk b (.map es' clock')))[i]? = some (blk b (.map es' clock')) := by simp [hlt]
    have h3 := h2.conv i (r' := mapR kE vE b (delG M n)) hg2 (fun k hk => hk) ⟨es', clock', h2.inv i _ hg2, hse, hst'⟩
    rwa [List.set_set] at h3
  rcases hK.find n es.toList w (fun e he => by obtain ⟨m,_, h1,_⟩ := hs.ent e he; exact ⟨m, h1⟩) with ⟨j, e, h1, h3, h4⟩ | ⟨h1, h2⟩
  · have hjl := (List.getElem?_eq_some_iff.1 h3).1
    have el : (es.eraseIdxIfInBounds j).toList = es.toList.eraseIdx j := by simp
    refine .inl ⟨_, w.putObj b (.map (es.eraseIdxIfInBounds j) clock),_,_, ?_, .inl rfl, k, by
      rw [← hL]
      exact upd _ _ (by rw [el]; exact mapG_del hK.inj hs h3 h4) (by rw [el]; exact stamps_del hst)⟩
    simp [execOp, resolve, invoke, builtin, ex, ey, Builtin.delete_, run_underlying hu, hobj, hK.chk, h1, hset]
  · have hM : M n = none := mapG_none hs h2
    have e : delG M n = M := by
      funext m
      unfold delG
      split
      · rename_i q; rw [q, hM]
      · rfl
    refine .inl ⟨_, w.putObj b (.map es clock),_,_, ?_, .inl rfl, k, by
      rw [← hL]
      exact upd _ _ (by rw [e]; exact hs) hst⟩
    simp [execOp, resolve, invoke, builtin, ex, ey, Builtin.delete_, run_underlying hu, hobj, hK.chk, h1, hset]
end
end
end Go.SL
