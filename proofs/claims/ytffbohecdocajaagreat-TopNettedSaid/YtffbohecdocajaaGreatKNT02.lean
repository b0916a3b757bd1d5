/-
  Maps from keys of any kind, and keys that are structs of two cells. No program stands in this text.
  A new base at which some resources stay in hand; one of a bag by its number. No program stands in this text.
  Comparisons with nil, the length of a map, one cell of a block at a place that is not a number: for a small program logic.
  Sets of strings: maps from string to bool whose values are all true.
  A drawn region in which new blocks are laid whose order is open, whose chain may hold operations that have a declared value, and such as have a guard whose answer is known.
  Resources in another order, ahead of a tail that stays.
  Ranges over functions inside loops: the marks of deferred calls that they leave are a list that grows.
  Ranges over functions inside loops, whose round's assignment lays blocks (a variable of its own in each round). No program stands in this text.
  Keys that are names, and structs of three cells. No program stands in this text.
  Ranges over functions whose order is open, and whose round's assignment lays blocks. No program stands in this text.
  Values that are compared with themselves. No program stands in this text.
  The data of layer 9 and what its functions come to, in plain words: no program stands in this text.
  The first walks: small functions of beam and cast.
  The document's checks of grids, flows and clouds.
  Fields, and what contradicts them.
  Parts of sets of pixels: plain.
  Parts of sets of pixels: their first pixels, parts within parts.
  Sheets.
  The neighbors of a pixel.
-/
import Derived.Test.YtffbohecdocajaaGreatKNT01
import Derived.Test.YtffbohecdocajaaGreatProg

set_option linter.unusedSimpArgs false
namespace Go.SL
set_option linter.unusedVariables false
open Go.RowKit

/-- What can be a key. -/
structure KeyE {α : Type} (P : Program) (K : TypeId) (kE : α → Value) : Prop where
  inj : ∀ {a b : α}, kE a = kE b → a = b
  chk : ∀ (e : Bool) (n : Nat) (a : α) (w : World), (Instr.checkKey e (n + 2) K (kE a)).run P w = .ok () w
  find : ∀ (n : α) (es : List MapEntry) (w : World), (∀ e, e ∈ es → ∃ m, e.key = kE m) →
    (∃ j e, (Instr.findKey K (kE n) es).run P w = .ok (some (j, e.val)) w ∧ es[j]? = some e ∧ e.key = kE n) ∨ ((Instr.findKey K (kE n) es).run P w = .ok none w ∧ ∀ e, e ∈ es → e.key ≠ kE n)
  bits : ∀ a : α, Instr.sameBits 10000 (kE a) (kE a) = true

section
variable {α δ : Type} {kE : α → Value} {vE : δ → Value}
/-- The entries of a map. -/
structure MapG (kE : α → Value) (vE : δ → Value) (es : List MapEntry) (M : α → Option δ) : Prop where
  ent : ∀ e, e ∈ es → ∃ n v, e.key = kE n ∧ e.val = vE v ∧ M n = some v
  mem : ∀ n v, M n = some v → ∃ e, e ∈ es ∧ e.key = kE n ∧ e.val = vE v
  nod : es.Pairwise fun a b => a.key ≠ b.key
def updG [DecidableEq α] (M : α → Option δ) (n : α) (v : δ) : α → Option δ := fun m => if m = n then some v else M m
def mapR (kE : α → Value) (vE : δ → Value) (b : Nat) (M : α → Option δ) : Res := ⟨fun k => k = b, fun w => ∃ es clock, w.heap[b]? = some (.map es clock) ∧ MapG kE vE es.toList M ∧ Stamps es.toList clock, fun h ⟨es, c, h1, h2⟩ => ⟨es, c, (h b rfl).trans h1, h2⟩⟩
variable {es : List MapEntry} {M : α → Option δ}
theorem mapG_get (hi : ∀ {a b : α}, kE a = kE b → a = b) (h : MapG kE vE es M) {e : MapEntry} {n : α} (he : e ∈ es) (hk : e.key = kE n) : ∃ v, e.val = vE v ∧ M n = some v := by
  obtain ⟨m, v, h1, h2, h3⟩ := h.ent e he
  have : m = n := hi (h1.symm.trans hk)
  subst this
  exact ⟨v, h2, h3⟩
theorem mapG_none (h : MapG kE vE es M) {n : α} (hn : ∀ e, e ∈ es → e.key ≠ kE n) : M n = none := by
  cases q : M n with
  | none => rfl
  | some v => obtain ⟨e, h1, h2,_⟩ := h.mem n v q; exact absurd h2 (hn e h1)
theorem mapG_nil : MapG kE vE [] (fun _ => none) := ⟨fun _ h => (by cases h), fun _ _ h => (by cases h), List.Pairwise.nil⟩
variable [DecidableEq α]
theorem mapG_push (h : MapG kE vE es M) {n : α} {v : δ} {c : Nat} (hn : ∀ e, e ∈ es → e.key ≠ kE n) : MapG kE vE (es ++ [⟨kE n, vE v, c⟩]) (updG M n v) := by
  refine ⟨fun e he => ?_, fun m u hm => ?_, ?_⟩
  · rcases List.mem_append.1 he with q | q
    · obtain ⟨m, u, h1, h2, h3⟩ := h.ent e q
      refine ⟨m, u, h1, h2, ?_⟩
      unfold updG
      rw [if_neg (fun z => hn e q (by rw [h1, z]))]; exact h3
    · have := List.mem_singleton.1 q; subst this
      exact ⟨n, v, rfl, rfl, if_pos rfl⟩
  · unfold updG at hm
    split at hm
    · rename_i q; cases hm; subst q; exact ⟨_, List.mem_append_right _ (List.mem_singleton.2 rfl), rfl, rfl⟩
    · obtain ⟨e, h1, h2, h3⟩ := h.mem m u hm; exact ⟨e, List.mem_append_left _ h1, h2, h3⟩
  · rw [List.pairwise_append]
    refine ⟨h.nod, by simp, fun a ha b hb => ?_⟩
    have := List.mem_singleton.1 hb; subst this
    exact hn a ha
theorem mapG_set (hinj : ∀ {a b : α}, kE a = kE b → a = b) (h : MapG kE vE es M) {j : Nat} {e : MapEntry} {n : α} {v : δ} (hj : es[j]? = some e) (hk : e.key = kE n) : MapG kE vE (es.set j ⟨kE n, vE v, e.born⟩) (updG M n v) := by
  have hjl := (List.getElem?_eq_some_iff.1 hj).1
  have hje := (List.getElem?_eq_some_iff.1 hj).2
  have hkey : ∀ i (h1 : i < (es.set j ⟨kE n, vE v, e.born⟩).length) (h2 : i < es.length), (es.set j ⟨kE n, vE v, e.born⟩)[i].key = es[i].key := fun i h1 h2 => by
    rw [List.getElem_set]
    split
    · rename_i q; subst q; rw [hje, hk]
    · rfl
  have hne : ∀ i, i < es.length → (hi : i < es.length) → i ≠ j → es[i].key ≠ kE n := fun i _ hi hij z => by
    have pw := List.pairwise_iff_getElem.1 h.nod
    rcases Nat.lt_or_gt_of_ne hij with q | q
    · exact pw i j hi hjl q (by rw [z, hje, hk])
    · exact pw j i hjl hi q (by rw [z, hje, hk])
  refine ⟨fun x hx => ?_, fun m u hm => ?_, ?_⟩
  · obtain ⟨i, hi, rfl⟩ := List.getElem_of_mem hx
    have hi2 : i < es.length := by simpa using hi
    by_cases q : j = i
    · subst q
      rw [List.getElem_set_self]
      exact ⟨n, v, rfl, rfl, if_pos rfl⟩
    · rw [List.getElem_set_ne q]
      obtain ⟨m, u, h1, h2, h3⟩ := h.ent _ (List.getElem_mem hi2)
      refine ⟨m, u, h1, h2, ?_⟩
      unfold updG
      rw [if_neg (fun z => hne i hi2 hi2 (fun y => q y.symm) (by rw [h1, z]))]; exact h3
  · unfold updG at hm
    split at hm
    · rename_i q; cases hm; subst q
      exact ⟨_, List.mem_of_getElem? (i := j) (by rw [List.getElem?_set_self hjl]), rfl, rfl⟩
    · rename_i q
      obtain ⟨x, h1, h2, h3⟩ := h.mem m u hm
      obtain ⟨i, hi, rfl⟩ := List.getElem_of_mem h1
      have hij : j ≠ i := fun z => by subst z; rw [hje, hk] at h2; exact q (hinj h2).symm
      exact ⟨_, List.mem_of_getElem? (i := i) (by rw [List.getElem?_set_ne hij, List.getElem?_eq_getElem hi]), h2, h3⟩
  · rw [List.pairwise_iff_getElem]
    intro a b ha hb hab
    rw [hkey a ha (by simpa using ha), hkey b hb (by simpa using hb)]
    exact List.pairwise_iff_getElem.1 h.nod a b _ _ hab
end

section
variable {P : Program} {ro : Option Nat} {β : Bs} {N : Nat} {ds : List Deferred} {env : Env} {L : List Res} {Q : Exit → Act → World → Prop}
variable {d : Option Nat} {ty : TypeId} {pos : String} {aft : Array Edge} {g : Option (Nat × Bool)}
variable {α δ : Type} {kE : α → Value} {vE : δ → Value}
def IsMapG (P : Program) (T : Nat) (kE : α → Value) (vE : δ → Value) (d0 : δ) : Prop := ∃ K E, P.underlying T = some (.map K E) ∧ KeyE P K kE ∧ ZeroOf P E (vE d0)
theorem run_lookup_g {T b : Nat} {M : α → Option δ} {d0 : δ} {n : α} {w : World} (c : Bool) (hT : IsMapG P T kE vE d0) (hb : (mapR kE vE b M).inv w) : (Instr.lookup T (.map (some b)) (kE n) c).run P w = .ok (if c then .tuple #[vE ((M n).getD d0), .bool (M n).isSome] else vE ((M n).getD d0)) w := by
  obtain ⟨K, E, hu, hK, hz⟩ := hT
  obtain ⟨es, clock, hb, hs,_⟩ := hb
  have hobj : (getObj b).run P w = .ok (.map es clock) w := by simp [getObj, Sem.run, hb]
  simp only [Instr.lookup, Sem.run_bind, run_underlying hu, Result.andThen_ok, hobj, Sem.run_pure, hK.chk]
  rcases hK.find n es.toList w (fun e he => by obtain ⟨m,_, h1,_⟩ := hs.ent e he; exact ⟨m, h1⟩) with ⟨j, e, h1, h3, h4⟩ | ⟨h1, h2⟩
  · rw [h1]
    obtain ⟨v, g1, g2⟩ := mapG_get hK.inj hs (List.mem_of_getElem? h3) h4
    cases c <;> simp [g1, g2]
  · rw [h1, mapG_none hs h2]
    cases c <;> simp [run_zero hz]
theorem LO.lkG {x y : Operand} {T b : Nat} {M : α → Option δ} {d0 : δ} {n : α} (hT : IsMapG P T kE vE d0) (hx : OV env x (.map (some b))) (hy : OV env y (kE n)) (hi : ∀ w, St β L w → (mapR kE vE b M).inv w) : LO P β env L ⟨d, .lookup T x y true, ty, pos, aft, g⟩ (.tuple #[vE ((M n).getD d0), .bool (M n).isSome]) :=
  .of_run fun a w h hw => ⟨w, by
    have := run_lookup_g (n := n) true hT (hi w hw)
    simp only [if_true] at this
    simp [execOp, h x (by simp [Op.operands]) _ hx, h y (by simp [Op.operands]) _ hy, this], hw⟩
theorem LO.lkG1 {x y : Operand} {T b : Nat} {M : α → Option δ} {d0 : δ} {n : α} (hT : IsMapG P T kE vE d0) (hx : OV env x (.map (some b))) (hy : OV env y (kE n)) (hi : ∀ w, St β L w → (mapR kE vE b M).inv w) : LO P β env L ⟨d, .lookup T x y false, ty, pos, aft, g⟩ (vE ((M n).getD d0)) :=
  .of_run fun a w h hw => ⟨w, by
    have := run_lookup_g (n := n) false hT (hi w hw)
    simp only [Bool.false_eq_true, if_false] at this
    simp [execOp, h x (by simp [Op.operands]) _ hx, h y (by simp [Op.operands]) _ hy, this], hw⟩
section
variable {K : Value → List Res → Prop} {dd : Option Nat}
theorem HO.mkmapG {T : Nat} (kE : α → Value) (vE : δ → Value) (k : ∀ b, K (.map (some b)) (mapR kE vE b (fun _ => none) :: L)) : HO P β env L ⟨dd, .makeMap T none, ty, pos, aft, none⟩ K := by
  intro a w h hw
  refine .inl ⟨_, w.alloc (.map #[] 0),_,_, ?_, .inl rfl, k w.heap.size, ?_⟩
  · simp only [execOp]
    rfl
  · have h1 := hw.alloc (.map #[] 0)
    have := h1.conv 0 (r' := mapR kE vE w.heap.size (fun _ => none)) rfl (fun k hk => hk) ⟨#[], 0, h1.inv 0 _ rfl, mapG_nil, by simp, by simp⟩
    simpa using this
variable [DecidableEq α]
theorem HO.mupG (i : Nat) (LF : Res → List Res) {x y z : Operand} {T b : Nat} {M : α → Option δ} {d0 : δ} (n : α) (v : δ) (hT : IsMapG P T kE vE d0) (hx : OV env x (.map (some b))) (hy : OV env y (kE n)) (hz : OV env z (vE v)) (hi : L[i]? = some (mapR kE vE b M)) (hL : ∀ R : Res, L.set i R = LF R)
    (k : K undef (LF (mapR kE vE b (updG M n v)))) : HO P β env L ⟨dd, .mapUpdate T x y z, ty, pos, aft, none⟩ K := by
  intro a w h hw
  obtain ⟨KT, E, hu, hK,_⟩ := hT
  obtain ⟨es, clock, hb, hs, hst⟩ := hw.inv i _ hi
  have hlt : i < L.length := by
    rcases Nat.lt_or_ge i L.length with q | q
    · exact q
    · simp [List.getElem?_eq_none q] at hi
  have hobj : (getObj b).run P w = .ok (.map es clock) w := by simp [getObj, Sem.run, hb]
  have hset : ∀ o, (setObj b o).run P w = .ok () (w.putObj b o) := fun o => by simp [setObj, Sem.run, hb, World.putObj]
  have ex : a.eval x = .map (some b) := by obtain ⟨u, hu, e⟩ := hx; subst e; exact h x (by simp [Op.operands]) _ hu
  have ey : a.eval y = kE n := by obtain ⟨u, hu, e⟩ := hy; subst e; exact h y (by simp [Op.operands]) _ hu
  have ez : a.eval z = vE v := by obtain ⟨u, hu, e⟩ := hz; subst e; exact h z (by simp [Op.operands]) _ hu
  have h1 : St β (L.set i (blk b (.map es clock))) w := hw.conv i hi (fun k hk => hk) hb
  have upd : ∀ es' clock', MapG kE vE es'.toList (updG M n v) → Stamps es'.toList clock' → St β (L.set i (mapR kE vE b (updG M n v))) (w.putObj b (.map es' clock')) := by
    intro es' clock' hse hst'
    have hg : (L.set i (blk b (.map es clock)))[i]? = some (blk b (.map es clock)) := by simp [hlt]
    have h2 := h1.obj (o' := .map es' clock') i hg
    rw [List.set_set] at h2
    have hg2 : (L.set i (blk b (.map es' clock')))[i]? = some (blk b (.map es' clock')) := by simp [hlt]
    have h3 := h2.conv i (r' := mapR kE vE b (updG M n v)) hg2 (fun k hk => hk) ⟨es', clock', h2.inv i _ hg2, hse, hst'⟩
    rwa [List.set_set] at h3
  rcases hK.find n es.toList w (fun e he => by obtain ⟨m,_, h1,_⟩ := hs.ent e he; exact ⟨m, h1⟩) with ⟨j, e, h1, h3, h4⟩ | ⟨h1, h2⟩
  · have hj : es[j]? = some e := by simpa using h3
    refine .inl ⟨.skip, w.putObj b (.map (es.modify j fun e => { e with key := kE n, val := vE v }) clock), undef,_, ?_, .inr ⟨rfl, rfl⟩, k, by rw [← hL]; exact upd _ _ (by rw [modify_set h3]; exact mapG_set hK.inj hs h3 h4) (by rw [modify_set h3]; exact stamps_set hst h3)⟩
    simp only [execOp, ex, ey, ez, Sem.run_bind, Sem.run_pure]
    refine skip_of ?_
    simp only [Instr.mapUpdate, Sem.run_bind, run_underlying hu, Result.andThen_ok, hobj, hK.chk]
    rw [h1]
    simp [hj, h4, Instr.keyThatStays, hK.bits]
    exact hset _
  · refine .inl ⟨.skip, w.putObj b (.map (es.push { key := kE n, val := vE v, born := clock }) (clock + 1)), undef,_, ?_, .inr ⟨rfl, rfl⟩, k, by rw [← hL]; exact upd _ _ (by rw [Array.toList_push]; exact mapG_push hs h2) (by rw [Array.toList_push]; exact stamps_push hst)⟩
    simp only [execOp, ex, ey, ez, Sem.run_bind, Sem.run_pure]
    refine skip_of ?_
    simp only [Instr.mapUpdate, Sem.run_bind, run_underlying hu, Result.andThen_ok, hobj, hK.chk]
    rw [h1]
    exact hset _
end
end

/-! ### Keys -/
section
variable {P : Program}
/-- A field of one cell. -/
structure Cell1 {γ : Type} [DecidableEq γ] (P : Program) (T : TypeId) (c : γ → Value) : Prop where
  inj : ∀ {a b : γ}, c a = c b → a = b
  chk : ∀ (e : Bool) (n : Nat) (a : γ) (w : World), (Instr.checkKey e (n + 1) T (c a)).run P w = .ok () w
  eql : ∀ (d : Nat) (a b : γ) (w : World), (Op.equalIn (d + 1) T (c a) (c b)).run P w = .ok (decide (a = b)) w
  one : IsOne P T
  bits : ∀ (n : Nat) (a : γ), Instr.sameBits n (c a) (c a) = true
theorem cell1_int {T : TypeId} (hT : P.underlying T = some (.int .i64)) (h1 : IsOne P T) : Cell1 P T intV where
  inj := intV_inj
  chk := fun e n a w => checkKey_int hT e n _ w
  eql := fun d a b w => by rw [intV, intV, run_equalIn_int w d T .i64 .i64 a b hT]; rfl
  one := h1
  bits := fun n a => by cases n <;> simp [Instr.sameBits, intV]
def IsS2 (P : Program) (K T0 T1 : TypeId) : Prop := ∃ F0 F1 : Field, P.underlying K = some (.struct #[F0, F1]) ∧ F0.name ≠ "_" ∧ F1.name ≠ "_" ∧ F0.offset = 0 ∧ F1.offset = 1 ∧ F0.type = T0 ∧ F1.type = T1 ∧ P.stoodInHeld K = false
variable {γ0 γ1 : Type} [DecidableEq γ0] [DecidableEq γ1] {c0 : γ0 → Value} {c1 : γ1 → Value} {K T0 T1 : TypeId}
abbrev pairV (c0 : γ0 → Value) (c1 : γ1 → Value) (x : γ0 × γ1) : Value := .agg #[c0 x.1, c1 x.2]
theorem part_one {T : TypeId} (h : IsOne P T) {cs : Array Value} {o : Nat} {v : Value} (hv : cs[o]? = some v) (w : World) : (part T cs o).run P w = .ok v w := by
  simp [part, run_isOne h, hv]
theorem pairV_eq (h0 : Cell1 P T0 c0) (h1 : Cell1 P T1 c1) (hK : IsS2 P K T0 T1) (x y : γ0 × γ1) (d : Nat) (w : World) : (Op.equalIn (d + 2) K (pairV c0 c1 x) (pairV c0 c1 y)).run P w = .ok (decide (x = y)) w := by
  obtain ⟨F0, F1, hu, n0, n1, o0, o1, t0, t1, hs⟩ := hK
  have hfs : P.fieldsOf K = #[F0, F1] := by simp [Program.fieldsOf, hu]
  rw [pairV, pairV, run_equalIn_struct w (d + 1) K _ _ (by rw [hfs]; exact hu) hs, hfs]
  simp only [Op.eqFields, n0, n1, ne_eq, not_false_eq_true, if_true, Sem.run_bind, o0, o1, t0, t1]
  rw [part_one h0.one (v := c0 x.1) rfl, Result.andThen_ok, part_one h0.one (v := c0 y.1) rfl, Result.andThen_ok, h0.eql, Result.andThen_ok]
  obtain ⟨x0, x1⟩ := x
  obtain ⟨y0, y1⟩ := y
  by_cases e0 : x0 = y0
  · subst e0
    simp only [decide_true, Bool.not_true, Bool.false_eq_true, if_false, Sem.run_bind]
    rw [part_one h1.one (v := c1 x1) rfl, Result.andThen_ok, part_one h1.one (v := c1 y1) rfl, Result.andThen_ok, h1.eql, Result.andThen_ok]
    by_cases e1 : x1 = y1
    · subst e1; simp
    · simp [e1]
  · simp [e0]
theorem findNow_struct {fs : Array Field} {k : Value} {es : List MapEntry} {i : Nat} : Instr.findNow (.struct fs) k es i = if es = [] then some none else none := by
  cases es with
  | nil => rfl
  | cons e es => simp [Instr.findNow, Instr.sameNow]
theorem findAsking_run {α : Type} [DecidableEq α] {kE : α → Value} (hinj : ∀ {a b : α}, kE a = kE b → a = b) (heq : ∀ (a b : α) (w : World), (Op.equal K (kE a) (kE b)).run P w = .ok (decide (a = b)) w) (n : α) (w : World) : ∀ (es : List MapEntry) (i : Nat), (∀ e, e ∈ es → ∃ m, e.key = kE m) →
    (∃ j e, (Instr.findAsking K (kE n) es i).run P w = .ok (some (j, e.val)) w ∧ i ≤ j ∧ es[j - i]? = some e ∧ e.key = kE n) ∨ ((Instr.findAsking K (kE n) es i).run P w = .ok none w ∧ ∀ e, e ∈ es → e.key ≠ kE n)
  | [], i,_ => .inr ⟨rfl, by simp⟩
  | e :: es, i, h => by
    obtain ⟨m, hm⟩ := h e (by simp)
    simp only [Instr.findAsking, Sem.run_bind, hm, heq, Result.andThen_ok]
    by_cases q : n = m
    · subst q
      left
      exact ⟨i, e, by simp, Nat.le_refl _, by simp, hm⟩
    · simp only [q, decide_false, Bool.false_eq_true, if_false]
      rcases findAsking_run hinj heq n w es (i + 1) (fun e' he => h e' (by simp [he])) with ⟨j, e', h1, h2, h3, h4⟩ | ⟨h1, h2⟩
      · left
        refine ⟨j, e', h1, by omega, ?_, h4⟩
        rw [show j - i = (j - (i + 1)) + 1 by omega]
        simpa using h3
      · right
        refine ⟨h1, fun e' he' => ?_⟩
        rcases List.mem_cons.1 he' with rfl | he'
        · rw [hm]; exact fun z => q (hinj z).symm
        · exact h2 e' he'
theorem key_pair (h0 : Cell1 P T0 c0) (h1 : Cell1 P T1 c1) (hK : IsS2 P K T0 T1) : KeyE P K (pairV c0 c1) where
  inj := fun {a b} h => by
    have e := Array.toList_inj.2 (Value.agg.inj h)
    simp at e
    exact Prod.ext (h0.inj e.1) (h1.inj e.2)
  chk := fun e n x w => by
    obtain ⟨F0, F1, hu, n0, n1, o0, o1, t0, t1, hs⟩ := hK
    unfold Instr.checkKey
    simp only [Sem.run_bind, run_underlying hu, Result.andThen_ok]
    rw [← Array.forIn_toList]
    simp only [List.forIn_cons, List.forIn_nil, n0, n1, ne_eq, not_false_eq_true, if_true, Sem.run_bind, o0, o1, t0, t1]
    rw [part_one h0.one (v := c0 x.1) rfl, Result.andThen_ok, h0.chk]
    simp only [Result.andThen_ok, Sem.run_pure, Sem.run_bind]
    rw [part_one h1.one (v := c1 x.2) rfl, Result.andThen_ok, h1.chk]
    rfl
  find := fun n es w h => by
    have hinj : ∀ {a b : γ0 × γ1}, pairV c0 c1 a = pairV c0 c1 b → a = b := fun {a b} h => by
      have e := Array.toList_inj.2 (Value.agg.inj h)
      simp at e
      exact Prod.ext (h0.inj e.1) (h1.inj e.2)
    have heq : ∀ (a b : γ0 × γ1) (w : World), (Op.equal K (pairV c0 c1 a) (pairV c0 c1 b)).run P w = .ok (decide (a = b)) w := fun a b w => pairV_eq h0 h1 hK a b 9998 w
    obtain ⟨F0, F1, hu,_⟩ := hK
    simp only [Instr.findKey, Sem.run_bind, run_underlying hu, Result.andThen_ok, findNow_struct]
    by_cases q : es = []
    · subst q; exact .inr ⟨rfl, by simp⟩
    · rw [if_neg q]
      rcases findAsking_run hinj heq n w es 0 h with ⟨j, e, h1, h2, h3, h4⟩ | ⟨h1, h2⟩
      · exact .inl ⟨j, e, h1, by simpa using h3, h4⟩
      · exact .inr ⟨h1, h2⟩
  bits := fun x => by simp [Instr.sameBits, h0.bits, h1.bits]
variable {ro : Option Nat} {β : Bs} {env : Env} {L : List Res} {d : Option Nat} {ty : TypeId} {pos : String} {aft : Array Edge} {g : Option (Nat × Bool)}
end
end Go.SL

namespace Go.SL
set_option linter.unusedVariables false
section
variable {P : Program} {ro : Option Nat} {β : Bs} {N : Nat} {ds : List Deferred} {env : Env} {L : List Res} {Q : Exit → Act → World → Prop} {w v : World}
theorem VC.rebaseO {Lk Lf : List Res} {c : Code} (h : ∀ w1, St β (Lk ++ Lf) w1 → VC P ro ⟨w1, fpL Lk⟩ N ds env Lk c Q) : VC P ro β N ds env (Lk ++ Lf) c Q := fun a w ha hw => h w hw a w ha (hw.has (List.sublist_append_left _ _))
/-- What was in hand at a base, and what lay there. -/
theorem St.fz {R rest : List Res} (h : St β (R ++ rest) w) (hs : St ⟨w, fpL R⟩ L v) : St β (L ++ rest) v := h.callG (fun k hk => hk) hs
theorem St.rightOf {A B : List Res} (h : St β (A ++ B) w) : St β B w := h.map (fun j => A.length + j) (fun a b hab _ _ => by omega) (fun j r hr => .inr (by rw [List.getElem?_append_right (by omega), show A.length + j - A.length = j by omega]; exact hr))
variable {α : Type} {f : α → Res} {as_ : List α} {a : α} {i : Nat}
theorem St.focusAt (h : St β (Go.SL.bagD (as_.map f) :: L) w) (hi : as_[i]? = some a) : St β (f a :: Go.SL.bagD ((as_.eraseIdx i).map f) :: L) w := by
  obtain ⟨hl, rfl⟩ := List.getElem?_eq_some_iff.1 hi
  have e : as_.map f = (as_.take i).map f ++ f as_[i] :: (as_.drop (i + 1)).map f := by
    rw [← List.map_cons, ← List.map_append, ← List.drop_eq_getElem_cons hl, List.take_append_drop]
  rw [e] at h
  have h2 := St.focus h
  rw [List.eraseIdx_eq_take_drop_succ, List.map_append]
  exact h2
theorem St.unfocusAt (h : St β (f a :: Go.SL.bagD ((as_.eraseIdx i).map f) :: L) w) (hl : i < as_.length) : St β (Go.SL.bagD ((as_.set i a).map f) :: L) w := by
  rw [List.eraseIdx_eq_take_drop_succ, List.map_append] at h
  have h2 := St.unfocus h
  have e : (as_.set i a).map f = (as_.take i).map f ++ f a :: (as_.drop (i + 1)).map f := by
    rw [List.set_eq_take_append_cons_drop, if_pos hl, List.map_append, List.map_cons]
  rw [e]
  exact h2
end
end Go.SL

namespace Go.SL
set_option linter.unusedVariables false
open Go.RowKit
section
variable {P : Program} {β : Bs} {env : Env} {L : List Res} {d : Option Nat} {ty : TypeId} {pos : String} {aft : Array Edge} {g : Option (Nat × Bool)} {T T2 : TypeId} {x y : Operand} {u v : Value} {b : Bool} {E : Nat}
structure NilEq (P : Program) (T : TypeId) (u v : Value) (b : Bool) : Prop where
  h : ∀ w, (Op.equalIn Op.maxDepth T u v).run P w = .ok b w
theorem nilP1 {p : Addr} (hT : ∃ E, P.underlying T = some (.pointer E)) : NilEq P T (.pointer (some p)) (.pointer none) false := ⟨fun w => by
  obtain ⟨E, hE⟩ := hT
  show (Op.equalIn (9999 + 1) T (.pointer (some p)) (.pointer none)).run P w = _
  unfold Op.equalIn
  rw [Sem.run_bind, run_underlying hE]
  rfl⟩
theorem nilP0 (hT : ∃ E, P.underlying T = some (.pointer E)) : NilEq P T (.pointer none) (.pointer none) true := ⟨fun w => by
  obtain ⟨E, hE⟩ := hT
  show (Op.equalIn (9999 + 1) T (.pointer none) (.pointer none)).run P w = _
  unfold Op.equalIn
  rw [Sem.run_bind, run_underlying hE]
  rfl⟩
theorem nilM {p : Option Nat} (hT : ∃ K E, P.underlying T = some (.map K E)) : NilEq P T (.map p) (.map none) p.isNone := ⟨fun w => by
  obtain ⟨K, E, hE⟩ := hT
  show (Op.equalIn (9999 + 1) T (.map p) (.map none)).run P w = _
  unfold Op.equalIn
  rw [Sem.run_bind, run_underlying hE]
  cases p <;> rfl⟩
theorem nilS {p : Option Addr} {n c : Nat} (hT : IsSlice P T E) : NilEq P T (.slice p n c) (.slice none 0 0) p.isNone := ⟨fun w => by
  show (Op.equalIn (9999 + 1) T (.slice p n c) (.slice none 0 0)).run P w = _
  unfold Op.equalIn
  rw [Sem.run_bind, run_underlying hT]
  cases p <;> rfl⟩
theorem LO.eqNil {op : BinOp} (hb : ∀ w, (binOp op T u v).run P w = .ok (.bool b) w) (hg : ∀ w, (eqGuard op T x y u v).run P w = .ok () w) (hx : OV env x u) (hy : OV env y v) : LO P β env L ⟨d, .binOp op T x y T2, ty, pos, aft, g⟩ (.bool b) :=
  .of_run fun a w h hw => ⟨w, by
    simp only [execOp, h x (by simp [Op.operands]) _ hx, h y (by simp [Op.operands]) _ hy, Sem.run_bind, Sem.run_pure, Result.andThen_ok, hb, hg], hw⟩
theorem LO.eqP1 {p : Addr} (hT : ∃ E, P.underlying T = some (.pointer E)) (hx : OV env x (.pointer (some p))) (hy : OV env y (.pointer none)) : LO P β env L ⟨d, .binOp .eql T x y T2, ty, pos, aft, g⟩ (.bool false) := LO.eqNil (fun w => by simp only [binOp, Op.equal, Sem.run_bind, (nilP1 hT).h, Result.andThen_ok, Sem.run_pure]) (fun _ => rfl) hx hy
theorem LO.neP1 {p : Addr} (hT : ∃ E, P.underlying T = some (.pointer E)) (hx : OV env x (.pointer (some p))) (hy : OV env y (.pointer none)) : LO P β env L ⟨d, .binOp .neq T x y T2, ty, pos, aft, g⟩ (.bool true) := LO.eqNil (fun w => by simp only [binOp, Op.equal, Sem.run_bind, (nilP1 hT).h, Result.andThen_ok, Sem.run_pure]; rfl) (fun _ => rfl) hx hy
theorem LO.eqP0 (hT : ∃ E, P.underlying T = some (.pointer E)) (hx : OV env x (.pointer none)) (hy : OV env y (.pointer none)) : LO P β env L ⟨d, .binOp .eql T x y T2, ty, pos, aft, g⟩ (.bool true) := LO.eqNil (fun w => by simp only [binOp, Op.equal, Sem.run_bind, (nilP0 hT).h, Result.andThen_ok, Sem.run_pure]) (fun _ => rfl) hx hy
theorem LO.neP0 (hT : ∃ E, P.underlying T = some (.pointer E)) (hx : OV env x (.pointer none)) (hy : OV env y (.pointer none)) : LO P β env L ⟨d, .binOp .neq T x y T2, ty, pos, aft, g⟩ (.bool false) := LO.eqNil (fun w => by simp only [binOp, Op.equal, Sem.run_bind, (nilP0 hT).h, Result.andThen_ok, Sem.run_pure]; rfl) (fun _ => rfl) hx hy
theorem LO.eqM {p : Option Nat} (hT : ∃ K E, P.underlying T = some (.map K E)) (hx : OV env x (.map p)) (hy : OV env y (.map none)) : LO P β env L ⟨d, .binOp .eql T x y T2, ty, pos, aft, g⟩ (.bool p.isNone) := LO.eqNil (fun w => by simp only [binOp, Op.equal, Sem.run_bind, (nilM hT).h, Result.andThen_ok, Sem.run_pure]) (fun _ => rfl) hx hy
theorem LO.eqSl {p : Option Addr} {n c : Nat} (hT : IsSlice P T E) (hx : OV env x (.slice p n c)) (hy : OV env y (.slice none 0 0)) : LO P β env L ⟨d, .binOp .eql T x y T2, ty, pos, aft, g⟩ (.bool p.isNone) := LO.eqNil (fun w => by simp only [binOp, Op.equal, Sem.run_bind, (nilS hT).h, Result.andThen_ok, Sem.run_pure]) (fun _ => rfl) hx hy
end
end Go.SL

namespace Go.SL
set_option linter.unusedVariables false
open Go.RowKit

theorem strV_inj {a b : ByteArray} (h : Value.string a = .string b) : a = b := by simpa using h

theorem ba_refl (a : ByteArray) : (a == a) = true := by cases a; exact beq_self_eq_true (α := Array UInt8) _
theorem ba_ne {a b : ByteArray} (h : a ≠ b) : (a == b) = false := by cases a; cases b; exact beq_false_of_ne (α := Array UInt8) (fun e => h (congrArg _ e))

section
variable {P : Program} {ro : Option Nat} {β : Bs} {N : Nat} {ds : List Deferred} {env : Env} {L : List Res} {Q : Exit → Act → World → Prop}
variable {d : Option Nat} {ty : TypeId} {pos : String} {aft : Array Edge} {g : Option (Nat × Bool)}

theorem checkKey_str {K : TypeId} (hK : P.underlying K = some .string) (e : Bool) (n : Nat) (v : Value) (w : World) : (Instr.checkKey e (n + 1) K v).run P w = .ok () w := by
  simp [Instr.checkKey, run_underlying hK]

section
variable {K : Value → List Res → Prop} {dd : Option Nat}
end

end
end Go.SL

namespace Go.SL
set_option linter.unusedVariables false
open Go.RowKit
/-- The operation is wanted: it has no guard, or one whose answer is known. -/
def GdK (ops : Array Oper) (env : Env) (o : Oper) : Prop := o.guard = none ∨ ∃ j want t, o.guard = some (j, want) ∧ (ops[j]?).bind (·.dst) = some t ∧ ev1 env t = some (.bool want)
def HYE (P : Program) (β : Bs) (N : Nat) (ds : List Deferred) (J : Nat → List Res) (Q : Exit → Act → World → Prop) (FT : List FS) (D : List Nat) (OPS : Array Oper) : Nat → Nat → List Oper → List (Option Nat) → Env → List Res → Prop
  | _,_, [],_, env, L => VE β N ds env L .normal Q
  | m, i, o :: r, some _ :: ms, env, L => HYE P β N ds J Q FT D OPS m (i + 1) r ms env L
  | m, i, o :: r, none :: ms, env, L =>
    (∃ s, isF FT i = some s ∧ ∀ b, (∀ w, St β (s.res b :: L) w → St β (J (m + 1)) w) ∧ HYE P β N ds J Q FT D OPS (m + 1) (i + 1) r ms ((s.d, s.val b) :: env) (s.res b :: L)) ∨
    (isF FT i = none ∧ GdK OPS env o ∧ (∀ d, o.dst = some d → d < N) ∧ ∀ X, HO P β env (L ++ X) o fun v L'' => (D.contains i = true → ∀ d, o.dst = some d → ev1 env d = some v) ∧ ∃ L', L'' = L' ++ X ∧ (∀ w, St β L' w → St β (J (m + 1)) w) ∧ HYE P β N ds J Q FT D OPS (m + 1) (i + 1) r ms (putE o v env) L')
  | _,_,_ :: _, [],_,_ => False

section
variable {P : Program} {ro : Option Nat} {β : Bs} {ds : List Deferred} {N : Nat} {J : Nat → List Res} {Q : Exit → Act → World → Prop} {FT : List FS} {D : List Nat} {OPS : Array Oper} {env : Env} {L : List Res}
theorem HYE.nil {m i : Nat} {ms : List (Option Nat)} (h : VE β N ds env L .normal Q) : HYE P β N ds J Q FT D OPS m i [] ms env L := h
theorem HYE.s {m i k : Nat} {o : Oper} {rest : List Oper} {ms : List (Option Nat)} (h : HYE P β N ds J Q FT D OPS m (i + 1) rest ms env L) : HYE P β N ds J Q FT D OPS m i (o :: rest) (some k :: ms) env L := h
theorem HYE.hG {m i d j tt : Nat} {want : Bool} {op : Op} {ty : TypeId} {pos : String} {aft : Array Edge} {rest : List Oper} {ms : List (Option Nat)} (hs : isF FT i = none) (hD : D.contains i = false) (hd : Nat.blt d N = true) (hj : (OPS[j]?).bind (·.dst) = some tt) (ht : ev1 env tt = some (.bool want))
    (h : ∀ X, HO P β env (L ++ X) ⟨some d, op, ty, pos, aft, none⟩ fun v L'' => ∃ L', L'' = L' ++ X ∧ (∀ w, St β L' w → St β (J (m + 1)) w) ∧ HYE P β N ds J Q FT D OPS (m + 1) (i + 1) rest ms ((d, v) :: env) L') : HYE P β N ds J Q FT D OPS m i (⟨some d, op, ty, pos, aft, some (j, want)⟩ :: rest) (none :: ms) env L :=
  .inr ⟨hs, .inr ⟨j, want, tt, rfl, hj, ht⟩, (fun d' hd' => by cases hd'; exact Nat.le_of_ble_eq_true hd), fun X => HO.mono (o := ⟨some d, op, ty, pos, aft, some (j, want)⟩) (h X) fun v L'' q => ⟨fun e => (by rw [hD] at e; cases e), q⟩⟩
theorem HYE.dG {m i d j tt : Nat} {want : Bool} {op : Op} {ty : TypeId} {pos : String} {aft : Array Edge} {rest : List Oper} {ms : List (Option Nat)} (hs : isF FT i = none) (hd : Nat.blt d N = true) (hj : (OPS[j]?).bind (·.dst) = some tt) (ht : ev1 env tt = some (.bool want))
    (h : ∀ X, HO P β env (L ++ X) ⟨some d, op, ty, pos, aft, none⟩ fun v L'' => ev1 env d = some v ∧ ∃ L', L'' = L' ++ X ∧ (∀ w, St β L' w → St β (J (m + 1)) w) ∧ HYE P β N ds J Q FT D OPS (m + 1) (i + 1) rest ms ((d, v) :: env) L') : HYE P β N ds J Q FT D OPS m i (⟨some d, op, ty, pos, aft, some (j, want)⟩ :: rest) (none :: ms) env L :=
  .inr ⟨hs, .inr ⟨j, want, tt, rfl, hj, ht⟩, (fun d' hd' => by cases hd'; exact Nat.le_of_ble_eq_true hd), fun X => HO.mono (o := ⟨some d, op, ty, pos, aft, some (j, want)⟩) (h X) fun v L'' q => ⟨fun _ d' hd' => by cases hd'; exact q.1, q.2⟩⟩
theorem HYE.drop {l : List Oper} {ms : List (Option Nat)} {m p : Nat} : ∀ (k : Nat), HYE P β N ds J Q FT D OPS m p (l.drop p) (ms.drop p) env L → p + k ≤ l.length → (∀ i, p ≤ i → i < p + k → isLight ms i = true) → HYE P β N ds J Q FT D OPS m (p + k) (l.drop (p + k)) (ms.drop (p + k)) env L
  | 0, h,_,_ => h
  | k + 1, h, hk, hl => by
    have ih := HYE.drop k h (by omega) (fun i a b => hl i a (by omega))
    have hlt : p + k < l.length := by omega
    have hli := hl (p + k) (by omega) (by omega)
    rw [List.drop_eq_getElem_cons hlt] at ih
    cases q : ms[p + k]? with
    | none => simp [isLight, q] at hli
    | some x =>
      have hml : p + k < ms.length := (List.getElem?_eq_some_iff.1 q).1
      rw [List.drop_eq_getElem_cons hml] at ih
      have e : ms[p + k] = x := (List.getElem?_eq_some_iff.1 q).2
      rw [e] at ih
      cases x with
      | none => simp [isLight, q] at hli
      | some y => exact ih


structure HzE (P : Program) (β : Bs) (N : Nat) (ds : List Deferred) (J : Nat → List Res) (Q : Exit → Act → World → Prop) (FT : List FS) (D : List Nat) (l : List Oper) (ms : List (Option Nat)) (V : Nat → Value) (env : Env) (listed : Array Bool) (p : Nat) (eh : Env) (L : List Res) (E : List (FS × Nat)) (a : Act) (w : World) : Prop where
  lsz : listed.size = l.length
  size : a.tmps.size = N
  dfr : a.defers = ds
  st : St β (L ++ E.map fun x => x.1.res x.2) w
  hJ : ∀ w, St β L w → St β (J (rank ms p)) w
  hp : p ≤ l.length
  hy : HYE P β N ds J Q FT D l.toArray (rank ms p) p (l.drop p) (ms.drop p) (eh ++ envK l (mD D 0 ms) V env l.length) L
  eE : ∀ x, x ∈ E → x.1 ∈ FT ∧ p ≤ x.1.i
  en : (E.map fun x => x.1.i).Nodup
  hd : ∀ i, i < l.length → isHeavy ms i = true → (listed[i]? = some true ↔ i < p ∨ ∃ x, x ∈ E ∧ x.1.i = i)
  closed : ∀ j, listed[j]? = some true → ∀ i, i ∈ (clOf l).getD j [] → listed[i]? = some true
  sl : ∀ x, x ∈ E → a.tmps[x.1.d]? = some (x.1.val x.2)
  eh1 : ∀ t v, ev1 eh t = some v → a.tmps[t]? = some v
  eh2 : ∀ t, ev1 eh t = none → ∀ i, i < p → isHeavy ms i = true → dstIs l i t = false
  eh3 : ∀ t, ev1 eh t ≠ none → ∃ i, i < p ∧ isHeavy ms i = true ∧ dstIs l i t = true
  top : ∀ t k, ev1 eh t = none → (∀ s, s ∈ FT → s.d ≠ t) → k < l.length → isLight ms k = true → dstIs l k t = true → listed[k]? = some true → (∀ k', k' < l.length → isLight ms k' = true → dstIs l k' t = true → listed[k']? = some true → k' ≤ k) → a.tmps[t]? = some (V k)
  base : ∀ t, ev1 eh t = none → (∀ s, s ∈ FT → s.d ≠ t) → (∀ k, k < l.length → isLight ms k = true → dstIs l k t = true → listed[k]? ≠ some true) → ∀ v, ev1 env t = some v → a.tmps[t]? = some v
  de : ∀ i t, D.contains i = true → i < p → dstIs l i t = true → ev1 eh t = some (V i)

/-- The next of the chain was laid early: the chain goes on. -/
theorem HzE.catch {l : List Oper} {ms : List (Option Nat)} {js : List (List Nat)} {V : Nat → Value} {listed : Array Bool} {p : Nat} {eh : Env} {E : List (FS × Nat)} {a : Act} {w : World} (hc : ChkD l ms js FT D)
    (h : HzE P β N ds J Q FT D l ms V env listed p eh L E a w) {x : FS × Nat} (hx : x ∈ E) (hl : ∀ k, p ≤ k → k < x.1.i → isLight ms k = true) :
    ∃ eh' L' E', HzE P β N ds J Q FT D l ms V env listed (x.1.i + 1) eh' L' E' a w ∧ E'.length < E.length := by
  obtain ⟨hxF, hpx⟩ := h.eE x hx
  obtain ⟨hil, hhv, hdx⟩ := hc.fi x.1 hxF
  have hy := HYE.drop (x.1.i - p) h.hy (by omega) (fun k a b => hl k a (by omega))
  rw [show p + (x.1.i - p) = x.1.i by omega] at hy
  have hml : x.1.i < ms.length := by rw [hc.len]; exact hil
  have e2 : ms[x.1.i] = none := by
    have := hhv
    unfold isHeavy at this
    rw [List.getElem?_eq_getElem hml] at this
    cases q : ms[x.1.i] with
    | none => rfl
    | some y => rw [q] at this; cases this
  rw [List.drop_eq_getElem_cons hil, List.drop_eq_getElem_cons hml, e2] at hy
  have hF := isF_mem hc.ni hxF
  rcases hy with ⟨s, hs, hb⟩ | ⟨hn,_⟩
  · rw [hF] at hs
    cases hs
    obtain ⟨hb1, hb2⟩ := hb x.2
    obtain ⟨E1, E2, rfl⟩ := List.append_of_mem hx
    have hrk : rank ms x.1.i = rank ms p := rank_lights hpx (by omega) hl
    have hrk1 : rank ms (x.1.i + 1) = rank ms p + 1 := by rw [rank_succ hml, e2, hrk]; simp
    have hnd := h.en
    simp only [List.map_append, List.map_cons] at hnd
    have hne : ∀ y, y ∈ E1 ++ E2 → y.1.i ≠ x.1.i := fun y hy e => by
      have h2 := (List.nodup_append.1 hnd)
      rcases List.mem_append.1 hy with q | q
      · exact h2.2.2 _ (List.mem_map.2 ⟨y, q, rfl⟩) _ (by simp) e
      · exact (List.nodup_cons.1 h2.2.1).1 (List.mem_map.2 ⟨y, q, e⟩)
    have gt : ∀ y, y ∈ E1 ++ E2 → x.1.i + 1 ≤ y.1.i := fun y hy => by
      have hyE : y ∈ E1 ++ x :: E2 := by rcases List.mem_append.1 hy with q | q <;> simp [q]
      obtain ⟨hyF, hpy⟩ := h.eE y hyE
      have h1 := hne y hy
      rcases Nat.lt_or_ge y.1.i x.1.i with q | q
      · have h2 := hl y.1.i hpy q
        rcases light_or_heavy hc.len (hc.fi y.1 hyF).1 with ⟨_, b,_⟩ | ⟨b,_,_⟩
        · rw [(hc.fi y.1 hyF).2.1] at b; cases b
        · rw [b] at h2; cases h2
      · omega
    have hdi : ∀ t, dstIs l x.1.i t = Nat.beq x.1.d t := fun t => by
      unfold dstIs at hdx ⊢
      rw [List.getElem?_eq_getElem hil] at hdx ⊢
      cases q : (l[x.1.i]).dst with
      | none => simp [q] at hdx
      | some d' => simp only [q] at hdx ⊢; rw [Nat.eq_of_beq_eq_true hdx]
    refine ⟨(x.1.d, x.1.val x.2) :: eh, x.1.res x.2 :: L, E1 ++ E2, ⟨h.lsz, h.size, h.dfr, ?_, ?_, by omega, ?_, ?_, ?_, ?_, h.closed, ?_, ?_, ?_, ?_, ?_, ?_, ?_⟩, by simp⟩
    · refine h.st.of_perm ?_
      simp only [List.map_append, List.map_cons, List.cons_append, ← List.append_assoc]
      exact List.perm_middle
    · rw [hrk1]; exact hb1
    · rw [hrk1]; exact hb2
    · intro y hy
      have hyE : y ∈ E1 ++ x :: E2 := by rcases List.mem_append.1 hy with q | q <;> simp [q]
      exact ⟨(h.eE y hyE).1, gt y hy⟩
    · have h2 := (List.nodup_append.1 hnd)
      rw [List.map_append]
      refine List.nodup_append.2 ⟨h2.1, (List.nodup_cons.1 h2.2.1).2, fun a ha b hb => h2.2.2 a ha b (by simp [hb])⟩
    · intro i hi hh
      rw [h.hd i hi hh]
      constructor
      · rintro (q | ⟨y, hy, e⟩)
        · exact .inl (by omega)
        · by_cases r : y.1.i = x.1.i
          · exact .inl (by omega)
          · refine .inr ⟨y, ?_, e⟩
            rcases List.mem_append.1 hy with q | q
            · simp [q]
            · rcases List.mem_cons.1 q with rfl | q
              · exact absurd rfl r
              · simp [q]
      · rintro (q | ⟨y, hy, e⟩)
        · by_cases r : i = x.1.i
          · exact .inr ⟨x, by simp, r.symm⟩
          · left
            rcases Nat.lt_or_ge i p with s | s
            · exact s
            · have := hl i s (by omega)
              rcases light_or_heavy hc.len hi with ⟨_, b,_⟩ | ⟨b,_,_⟩
              · rw [b] at hh; cases hh
              · rw [b] at this; cases this
        · exact .inr ⟨y, by rcases List.mem_append.1 hy with q | q <;> simp [q], e⟩
    · intro y hy
      exact h.sl y (by rcases List.mem_append.1 hy with q | q <;> simp [q])
    · intro t v hv
      by_cases e : t = x.1.d
      · subst e
        rw [ev1_cons_eq] at hv
        cases hv
        exact h.sl x hx
      · rw [ev1_cons_ne e] at hv; exact h.eh1 t v hv
    · intro t hn i hi hh
      have e : t ≠ x.1.d := fun e => by subst e; rw [ev1_cons_eq] at hn; cases hn
      rw [ev1_cons_ne e] at hn
      by_cases r : i = x.1.i
      · rw [r, hdi]; exact beqne' e
      · refine h.eh2 t hn i ?_ hh
        rcases Nat.lt_or_ge i p with s | s
        · exact s
        · have := hl i s (by omega)
          rcases light_or_heavy hc.len (show i < l.length by omega) with ⟨_, b,_⟩ | ⟨b,_,_⟩
          · rw [b] at hh; cases hh
          · rw [b] at this; cases this
    · intro t hn
      by_cases e : t = x.1.d
      · subst e; exact ⟨x.1.i, by omega, hhv, hdx⟩
      · rw [ev1_cons_ne e] at hn
        obtain ⟨i, a, b, c⟩ := h.eh3 t hn
        exact ⟨i, by omega, b, c⟩
    · intro t k hn hs
      have e : t ≠ x.1.d := fun e => hs x.1 hxF e.symm
      rw [ev1_cons_ne e] at hn
      exact h.top t k hn hs
    · intro t hn hs
      have e : t ≠ x.1.d := fun e => hs x.1 hxF e.symm
      rw [ev1_cons_ne e] at hn
      exact h.base t hn hs
    · intro i t hi hip hd
      obtain ⟨g1, g2, g3, d, g4, g5⟩ := hc.dd i hi
      have e : t ≠ x.1.d := fun e => by
        have := hc.uq hi hd hil (by rw [e]; exact hdx)
        rw [← this, hF] at g3; cases g3
      rw [ev1_cons_ne e]
      refine h.de i t hi ?_ hd
      rcases Nat.lt_or_ge i p with s | s
      · exact s
      · exfalso
        have hne : i ≠ x.1.i := fun e => by rw [e, hF] at g3; cases g3
        have := hl i s (by omega)
        rcases light_or_heavy hc.len g1 with ⟨_, b,_⟩ | ⟨b,_,_⟩
        · rw [b] at g2; cases g2
        · rw [b] at this; cases this
  · rw [hF] at hn; cases hn

theorem HzE.norm {l : List Oper} {ms : List (Option Nat)} {js : List (List Nat)} {V : Nat → Value} {listed : Array Bool} {a : Act} {w : World} (hc : ChkD l ms js FT D) : ∀ (n : Nat) {p : Nat} {eh : Env} {L : List Res} {E : List (FS × Nat)}, E.length = n →
    HzE P β N ds J Q FT D l ms V env listed p eh L E a w → ∃ p' eh' L' E', HzE P β N ds J Q FT D l ms V env listed p' eh' L' E' a w ∧ Nrm l ms listed p' := by
  intro n
  induction n using Nat.strongRecOn with
  | _ n ih =>
    intro p eh L E hn h
    by_cases q : Nrm l ms listed p
    · exact ⟨p, eh, L, E, h, q⟩
    · unfold Nrm at q
      simp only [Classical.not_forall] at q
      obtain ⟨i, h1, h2, h3, h4, h5⟩ := q
      have h5 := Classical.not_not.1 h5
      rcases (h.hd i h2 h3).1 h5 with r | ⟨x, hx, e⟩
      · omega
      · subst e
        obtain ⟨eh', L', E', hz, hlt⟩ := h.catch hc hx h4
        exact ih E'.length (by omega) rfl hz

set_option maxHeartbeats 2000000 in
theorem HzE.step {l : List Oper} {ms : List (Option Nat)} {js : List (List Nat)} {L0 : List Res} {V : Nat → Value} {listed : Array Bool} {p : Nat} {eh : Env} {E : List (FS × Nat)} {a : Act} {w : World} {Q' : Exit → Act → World → Prop} (hc : ChkD l ms js FT D) (hJe : J = fun m => sel L0 (js.getD m []))
    (hV : ∀ k o m, l[k]? = some o → ms[k]? = some (some m) → ∃ d, o.dst = some d ∧ d < N ∧ ∀ L, (∀ w, St β L w → St β (J m) w) → OpOk P β l.toArray L o (envK l (mD D 0 ms) V env k) (V k))
    (hF : ∀ s, s ∈ FT → s.d < N ∧ ∃ o, l[s.i]? = some o ∧ FO P (envK l (mD D 0 ms) V env l.length) o s)
    (h : HzE P β N ds J Q FT D l ms V env listed p eh L E a w) (hn : Nrm l ms listed p) {i : Nat} (hi : i ∈ Region.ready .any l.toArray listed) {K : Act → World → Prop}
    (hK : ∀ p' eh' L' E' a' w', HzE P β N ds J Q FT D l ms V env (listed.setIfInBounds i true) p' eh' L' E' a' w' → K a' w') : wpOpIn (Wf ro) 0 P l.toArray Q' i K a w := by
  have hlen := hc.len
  simp only [Region.ready, List.mem_filter, List.mem_range, Bool.and_eq_true, Bool.not_eq_true'] at hi
  obtain ⟨hin, hnl, hready⟩ := hi
  have hil : i < l.length := by simpa using hin
  have hiz : i < listed.size := by rw [h.lsz]; exact hil
  obtain ⟨o, ho⟩ : ∃ o, l[i]? = some o := ⟨l[i], by simp [hil]⟩
  have hnot : listed[i]? ≠ some true := by
    intro e
    have : listed.getD i true = true := by simp [e]
    rw [this] at hnl; cases hnl
  have hdone : ∀ e, e ∈ o.after.toList → Region.binds .any e = true → listed[e.on]? = some true := by
    intro e he hb
    have h1 : (o.after.all fun e => !Region.binds .any e || listed.getD e.on false) = true := by simpa [ho] using hready
    have h2 := (Array.all_eq_true_iff_forall_mem.1 h1) e (by simpa using he)
    simp only [hb, Bool.not_true, Bool.false_or] at h2
    cases q : listed[e.on]? with
    | none => simp [q] at h2
    | some b => simp [q] at h2; rw [h2]
  obtain ⟨c1, c2, c3, c4, c5, c6⟩ := hc.ops i o ho
  have hcl : ∀ j, j ∈ (clOf l).getD i [] → listed[j]? = some true := by
    intro j hj
    obtain ⟨e, he, hb, hx⟩ := c2 j hj
    rcases hx with rfl | hx
    · exact hdone e he hb
    · exact h.closed _ (hdone e he hb) j hx
  have closed' : ∀ j, (listed.setIfInBounds i true)[j]? = some true → ∀ k, k ∈ (clOf l).getD j [] → (listed.setIfInBounds i true)[k]? = some true := by
    intro j hj k hk
    rw [get_set_true hiz] at hj ⊢
    rcases hj with rfl | hj
    · exact .inr (hcl k hk)
    · exact .inr (h.closed j hj k hk)
  have ho' : l.toArray[i]? = some o := by simpa using ho
  have dstI : ∀ d, o.dst = some d → ∀ t, dstIs l i t = Nat.beq d t := by
    intro d hd t; simp [dstIs, ho, hd]
  have hEl : ∀ x, x ∈ E → listed[x.1.i]? = some true := fun x hx => (h.hd _ (hc.fi x.1 (h.eE x hx).1).1 (hc.fi x.1 (h.eE x hx).1).2.1).2 (.inr ⟨x, hx, rfl⟩)
  have before : ∀ t, t ∈ readsOf l.toArray o → ∀ k, k < l.length → dstIs l k t = true → ahead ms k i = true → listed[k]? = some true := fun t ht k hk hw ha => by
    rcases (c6 t ht).1 k hk hw with ⟨_, q,_⟩ | ⟨_, q,_⟩
    · exact hcl k q
    · exact hcl k (q ha)
  have behind : ∀ t, t ∈ readsOf l.toArray o → ∀ k, k < l.length → D.contains k = false → dstIs l k t = true → ahead ms i k = true → listed[k]? ≠ some true := fun t ht k hk hD hw ha hl => by
    rcases (c6 t ht).1 k hk hw with ⟨q,_⟩ | ⟨_,_, q⟩
    · rw [hD] at q; cases q
    · exact hnot (h.closed k hl i (q ha))
  have declared : ∀ t, t ∈ readsOf l.toArray o → ∀ k, k < l.length → D.contains k = true → dstIs l k t = true → ev1 eh t = some (V k) ∧ k < i := fun t ht k hk hD hw => by
    rcases (c6 t ht).1 k hk hw with ⟨_, q, q2⟩ | ⟨q,_⟩
    · obtain ⟨g1, g2, g3,_⟩ := hc.dd k hD
      refine ⟨h.de k t hD ?_ hw, q2⟩
      rcases (h.hd k hk g2).1 (hcl k q) with r | ⟨x, hx, e⟩
      · exact r
      · rw [← e, isF_mem hc.ni (h.eE x hx).1] at g3; cases g3
    · rw [hD] at q; cases q
  unfold wpOpIn
  simp only [ho']
  rcases light_or_heavy hlen hil with ⟨hli, hhv, m, hm⟩ | ⟨hli, hhv, hm⟩
  · -- a light one
    obtain ⟨d, hd, hdN, hok⟩ := hV i o m ho hm
    have hfn : isF FT i = none := by
      cases q : isF FT i with
      | none => rfl
      | some s =>
        obtain ⟨h1, h2⟩ := isF_some q
        have := (hc.fi s h1).2.1
        rw [h2, hhv] at this; cases this
    have hnd : ∀ s, s ∈ FT → s.d ≠ d := (c5 d hd).2 hfn
    have hstage : rank ms p ≤ m := by
      rcases Nat.lt_or_ge m (rank ms p) with q | q
      · exfalso
        obtain ⟨j, hjp, hjh, hjr⟩ := rank_find (ms := ms) (m := m) p (by rw [hlen]; exact h.hp) q
        have hjl : j < l.length := Nat.lt_of_lt_of_le hjp h.hp
        rcases c4 m hm j hjl hjh with r | r
        · omega
        · exact hnot (h.closed j ((h.hd j hjl hjh).2 (.inl hjp)) i r)
      · exact q
    have hJm : ∀ w, St β (L ++ E.map fun x => x.1.res x.2) w → St β (J m) w := by
      intro w hw
      have h1 : St β L w := by
        have hw2 := hw.of_perm (List.perm_append_comm (l₁ := L) (l₂ := E.map fun x => x.1.res x.2))
        exact St.callG (L1 := E.map fun x => x.1.res x.2) (L2 := L) (R := []) (O := fun _ => False) hw2 (fun _ f => f.elim) (St.refl w)
      have := h.hJ w h1
      rw [hJe] at this ⊢
      exact J_mono hc.jn hc.js hstage this
    have hno : ev1 eh d = none := by
      cases q : ev1 eh d with
      | none => rfl
      | some v =>
        exfalso
        obtain ⟨k, hkp, hkh, hkd⟩ := h.eh3 d (by rw [q]; simp)
        have hkl : k < l.length := Nat.lt_of_lt_of_le hkp h.hp
        have hnl : isLight ms k = false := by
          rcases light_or_heavy hlen hkl with ⟨_, b,_⟩ | ⟨a,_,_⟩
          · rw [b] at hkh; cases hkh
          · exact a
        obtain ⟨_,_,_,_, g5,_⟩ := hc.ops k l[k] (by simp [hkl])
        have hkd' : l[k].dst = some d := by
          simp only [dstIs, List.getElem?_eq_getElem hkl] at hkd
          cases r : l[k].dst with
          | none => simp [r] at hkd
          | some d' => simp only [r] at hkd; rw [Nat.eq_of_beq_eq_true hkd]
        exact hnot (h.closed k ((h.hd k hkl hkh).2 (.inl hkp)) i ((g5 d hkd').1 i hil (by rw [dstI d hd]; exact Nat.beq_refl _) (by simp [ahead, hli, hnl])))
    have fin : ∀ w', St β (L ++ E.map fun x => x.1.res x.2) w' → HzE P β N ds J Q FT D l ms V env (listed.setIfInBounds i true) p eh L E (a.put (some d) (V i)) w' := by
      intro w' hs
      refine ⟨by simp [h.lsz], by simp [Act.put, h.size], h.dfr, hs, h.hJ, h.hp, h.hy, h.eE, h.en, ?_, closed', ?_, ?_, h.eh2, h.eh3, ?_, ?_, ?_⟩
      · intro k hk hkh
        rw [get_set_true hiz, ← h.hd k hk hkh]
        have : k ≠ i := fun e => by subst e; rw [hhv] at hkh; cases hkh
        simp [this]
      · intro x hx
        have e : x.1.d ≠ d := hnd x.1 (h.eE x hx).1
        simp only [Act.put]
        rw [Array.getElem?_setIfInBounds_ne (Ne.symm e)]
        exact h.sl x hx
      · intro t v hv
        have e : t ≠ d := fun e => by subst e; rw [hno] at hv; cases hv
        simp only [Act.put]
        rw [Array.getElem?_setIfInBounds_ne (Ne.symm e)]
        exact h.eh1 t v hv
      · intro t k hn hns hk hkl hkd hdn hmax
        by_cases e : t = d
        · subst e
          have hki : k = i := by
            have g := hmax i hil hli (by rw [dstI t hd]; exact Nat.beq_refl _) ((get_set_true hiz).2 (.inl rfl))
            rcases Nat.lt_or_ge i k with q | q
            · exfalso
              have hl' : listed[k]? = some true := by
                rcases (get_set_true hiz).1 hdn with e | e
                · omega
                · exact e
              obtain ⟨_,_,_,_, g5,_⟩ := hc.ops k l[k] (by simp [hk])
              have hkd' : l[k].dst = some t := by
                simp only [dstIs, List.getElem?_eq_getElem hk] at hkd
                cases r : l[k].dst with
                | none => simp [r] at hkd
                | some d' => simp only [r] at hkd; rw [Nat.eq_of_beq_eq_true hkd]
              exact hnot (h.closed k hl' i ((g5 t hkd').1 i hil (by rw [dstI t hd]; exact Nat.beq_refl _) (by simp only [ahead, hli, hkl, if_true]; exact Nat.ble_eq_true_of_le q)))
            · omega
          subst hki
          simp [Act.put, h.size, hdN]
        · have hki : k ≠ i := fun q => by subst q; rw [dstI d hd, beqne' e] at hkd; cases hkd
          simp only [Act.put]
          rw [Array.getElem?_setIfInBounds_ne (Ne.symm e)]
          refine h.top t k hn hns hk hkl hkd ?_ fun k' a b c d => hmax k' a b c ((get_set_true hiz).2 (.inr d))
          rcases (get_set_true hiz).1 hdn with q | q
          · exact absurd q hki
          · exact q
      · intro t hn hns hnone v hv
        have e : t ≠ d := fun q => by subst q; exact hnone i hil hli (by rw [dstI t hd]; exact Nat.beq_refl _) ((get_set_true hiz).2 (.inl rfl))
        simp only [Act.put]
        rw [Array.getElem?_setIfInBounds_ne (Ne.symm e)]
        exact h.base t hn hns (fun k a b c d => hnone k a b c ((get_set_true hiz).2 (.inr d))) v hv
      · exact h.de
    have rd : ∀ t, t ∈ readsOf l.toArray o → ∀ u, ev1 (envK l (mD D 0 ms) V env i) t = some u → a.tmps[t]? = some u := by
      intro t ht u hu
      by_cases hex : ∃ k, k < l.length ∧ D.contains k = true ∧ dstIs l k t = true
      · obtain ⟨k, hk, hD, hw⟩ := hex
        obtain ⟨d1, d2⟩ := declared t ht k hk hD hw
        have hm := h.eh1 t _ d1
        rcases ev1_envK l (mD D 0 ms) V env t u i hu with ⟨k', h1, h2, h3, h4, h5⟩ | ⟨h1, h2⟩
        · have := hc.uq hD hw (k := k') (by omega) h3
          subst this; rw [← h4]; exact hm
        · have := h1 k d2 (light_mD.2 (.inr ⟨by omega, hD⟩))
          rw [hw] at this; cases this
      have hnD : ∀ k, k < l.length → dstIs l k t = true → D.contains k = false := fun k hk hw => by
        cases q : D.contains k with
        | false => rfl
        | true => exact absurd ⟨k, hk, q, hw⟩ hex
      have hns : ∀ s, s ∈ FT → s.d ≠ t := (c6 t ht).2.1 (.inl hli)
      have hno : ev1 eh t = none := by
        cases q : ev1 eh t with
        | none => rfl
        | some v =>
          exfalso
          obtain ⟨k, hkp, hkh, hkd⟩ := h.eh3 t (by rw [q]; simp)
          have hkl : k < l.length := Nat.lt_of_lt_of_le hkp h.hp
          have hnl : isLight ms k = false := by
            rcases light_or_heavy hlen hkl with ⟨_, b,_⟩ | ⟨a,_,_⟩
            · rw [b] at hkh; cases hkh
            · exact a
          exact behind t ht k hkl (hnD k hkl hkd) hkd (by simp [ahead, hli, hnl]) ((h.hd k hkl hkh).2 (.inl hkp))
      have late : ∀ k', k' < l.length → isLight ms k' = true → dstIs l k' t = true → listed[k']? = some true → k' < i := by
        intro k' hk' hl' hd' hdn
        rcases Nat.lt_trichotomy k' i with q | q | q
        · exact q
        · subst q; exact absurd hdn hnot
        · exact absurd hdn (behind t ht k' hk' (hnD k' hk' hd') hd' (by simp only [ahead, hli, hl', if_true]; exact Nat.ble_eq_true_of_le q))
      rcases ev1_envK l (mD D 0 ms) V env t u i hu with ⟨k, h1, h2, h3, h4, h5⟩ | ⟨h1, h2⟩
      · rw [← h4]
        have h2' : isLight ms k = true := by
          rcases light_mD.1 h2 with q | ⟨_, q⟩
          · exact q
          · rw [hnD k (by omega) h3] at q; cases q
        refine h.top t k hno hns (by omega) h2' h3 (before t ht k (by omega) h3 (by simp only [ahead, hli, h2', if_true]; exact Nat.ble_eq_true_of_le h1)) fun k' a b c d => ?_
        rcases Nat.lt_or_ge k k' with q | q
        · have := h5 k' q (late k' a b c d) (light_mD.2 (.inl b))
          rw [c] at this; cases this
        · exact q
      · refine h.base t hno hns (fun k a b c d => ?_) u h2
        have := h1 k (late k a b c d) (light_mD.2 (.inl b))
        rw [c] at this; cases this
    have opr : ∀ x, x ∈ o.op.operands → ∀ u, ev (envK l (mD D 0 ms) V env i) x = some u → a.eval x = u := by
      intro x hx u hu
      cases x with
      | tmp t =>
        have := rd t (List.mem_append_left _ (List.mem_filterMap.2 ⟨.tmp t, by simpa using hx, rfl⟩)) u hu
        simp [Act.eval, this]
      | const c => simpa [ev, Act.eval] using hu
      | global g => simpa [ev, Act.eval] using hu
      | func f => simpa [ev, Act.eval] using hu
    have hok' := hok _ hJm
    generalize hVi : V i = vi at hok' fin
    rcases hok' with ⟨hg, hlo⟩ | ⟨j, want, t, u, c, v', hg, hj, ht, hgd, hlo, rfl⟩
    · rw [if_pos (by simp [Region.wanted, hg])]
      exact (hlo a w opr h.st).wp (ro := ro) (Q := Q') (K := K) fun w' hs => by rw [hd]; exact hK _ _ _ _ _ _ (fin w' hs)
    · have ht' : a.tmps[t]? = some u := rd t (List.mem_append_right _ (by rw [hg]; show t ∈ ((l.toArray[j]?).bind (·.dst)).toList; rw [hj]; simp)) u ht
      have hy : yielded l.toArray a.tmps j = vb u := by
        unfold yielded; rw [hj]; simp only [Option.bind_some, ht']; cases u <;> rfl
      simp only [Region.wanted, hg, hy]
      cases c with
      | true =>
        have hu := hgd.1 rfl
        subst hu
        simp only [vb, beq_self_eq_true, if_true]
        exact (hlo rfl a w opr h.st).wp (ro := ro) (Q := Q') (K := K) fun w' hs => by
          rw [hd]
          have := fin w' hs
          rw [show gv true v' = v' from rfl] at this
          exact hK _ _ _ _ _ _ this
      | false =>
        have hu := hgd.2 rfl
        have hne := vb_ne hu
        simp only [hne, Bool.false_eq_true, if_false]
        have := fin w h.st
        rw [show gv false v' = undef from rfl] at this
        rw [hd]
        exact ⟨fun _ _ => True.intro, hK _ _ _ _ _ _ this⟩
  · have hpi : p ≤ i := by
      rcases Nat.lt_or_ge i p with q | q
      · exact absurd ((h.hd i hil hhv).2 (.inl q)) hnot
      · exact q
    -- what the heavy ones read
    have rd : ∀ t, t ∈ readsOf l.toArray o → ∀ u, ev1 (eh ++ envK l (mD D 0 ms) V env l.length) t = some u → (ev1 eh t = none → ∀ s, s ∈ FT → s.d ≠ t) → a.tmps[t]? = some u := by
      intro t ht u hu hns
      rw [ev1_append] at hu
      cases q : ev1 eh t with
      | some v => rw [q] at hu; simp only [Option.some.injEq] at hu; subst hu; exact h.eh1 t v q
      | none =>
        rw [q] at hu
        simp only at hu
        have hnD : ∀ k, k < l.length → dstIs l k t = true → D.contains k = false := fun k hk hw => by
          cases r : D.contains k with
          | false => rfl
          | true => have := (declared t ht k hk r hw).1; rw [q] at this; cases this
        rcases ev1_envK l (mD D 0 ms) V env t u l.length hu with ⟨k, h1, h2, h3, h4, h5⟩ | ⟨h1, h2⟩
        · rw [← h4]
          have h2' : isLight ms k = true := by
            rcases light_mD.1 h2 with r | ⟨_, r⟩
            · exact r
            · rw [hnD k h1 h3] at r; cases r
          refine h.top t k q (hns q) h1 h2' h3 (before t ht k h1 h3 (by simp [ahead, hli, h2'])) fun k' a b c d => ?_
          rcases Nat.lt_or_ge k k' with r | r
          · have := h5 k' r a (light_mD.2 (.inl b))
            rw [c] at this; cases this
          · exact r
        · refine h.base t q (hns q) (fun k a b c d => ?_) u h2
          have := h1 k a (light_mD.2 (.inl b))
          rw [c] at this; cases this
    cases hf : isF FT i with
    | some s =>
      -- a new block
      obtain ⟨hsF, hsi⟩ := isF_some hf
      obtain ⟨hdN, o2, ho2, hfo⟩ := hF s hsF
      rw [hsi, ho] at ho2
      cases ho2
      obtain ⟨hdst, hg, hrun⟩ := hfo
      rw [if_pos (by simp [Region.wanted, hg])]
      have opr : ∀ x, x ∈ o.op.operands → ∀ u, ev (envK l (mD D 0 ms) V env l.length) x = some u → a.eval x = u := by
        intro x hx u hu
        cases x with
        | tmp t =>
          have ht : t ∈ readsOf l.toArray o := List.mem_append_left _ (List.mem_filterMap.2 ⟨.tmp t, by simpa using hx, rfl⟩)
          have hno : ev1 eh t = none := by
            cases q : ev1 eh t with
            | none => rfl
            | some v =>
              obtain ⟨k, hkp, hkh, hkd⟩ := h.eh3 t (by rw [q]; simp)
              have := (c6 t ht).2.2.1 (by rw [hf]; simp) k (Nat.lt_of_lt_of_le hkp h.hp) hkh
              rw [hkd] at this; cases this
          have := rd t ht u (by rw [ev1_append, hno]; exact hu) (fun _ => (c6 t ht).2.1 (.inr (by rw [hf]; simp)))
          simp [Act.eval, this]
        | const c => simpa [ev, Act.eval] using hu
        | global g => simpa [ev, Act.eval] using hu
        | func f => simpa [ev, Act.eval] using hu
      have hrun' := hrun a w opr
      have hho : HO P β (envK l (mD D 0 ms) V env l.length) (L ++ E.map fun x => x.1.res x.2) o fun v L' => ∃ b, v = s.val b ∧ L' = s.res b :: (L ++ E.map fun x => x.1.res x.2) := by
        intro a w hx hw
        exact .inl ⟨_,_,_,_, hrun a w hx, .inl rfl, ⟨w.heap.size, rfl, rfl⟩, hw.alloc _⟩
      refine hho.wp (ro := ro) (Q := Q') opr h.st fun v L' w' hk hst => ?_
      obtain ⟨b, rfl, rfl⟩ := hk
      have hfresh : ∀ x, x ∈ E → x.1.i ≠ i := fun x hx e => hnot (by rw [← e]; exact hEl x hx)
      have hold : ∀ t, ev1 eh t ≠ none → t ≠ s.d := fun t hne e => by
        obtain ⟨k, hkp, hkh, hkd⟩ := h.eh3 t hne
        have hkl : k < l.length := Nat.lt_of_lt_of_le hkp h.hp
        have hki : k ≠ i := by omega
        have hkd' : l[k].dst = some t := by
          simp only [dstIs, List.getElem?_eq_getElem hkl] at hkd
          cases r : l[k].dst with
          | none => simp [r] at hkd
          | some d' => simp only [r] at hkd; rw [Nat.eq_of_beq_eq_true hkd]
        cases q : isF FT k with
        | none => exact ((hc.ops k l[k] (by simp [hkl])).2.2.2.2.1 t hkd').2 q s hsF e.symm
        | some s2 =>
          obtain ⟨g1, g2⟩ := isF_some q
          have hd2 := (hc.fi s2 g1).2.2
          rw [g2] at hd2
          simp only [dstIs, List.getElem?_eq_getElem hkl, hkd'] at hd2
          have e2 : t = s2.d := Nat.eq_of_beq_eq_true hd2
          have := inj_of_nodup hc.nd g1 hsF (by show s2.d = s.d; rw [← e2, e])
          rw [this] at g2; omega
      refine hK p eh L ((s, b) :: E) _ w' ⟨by simp [h.lsz], by rw [hdst]; simp [Act.put, h.size], by rw [hdst]; exact h.dfr, ?_, h.hJ, h.hp, h.hy, ?_, ?_, ?_, closed', ?_, ?_, h.eh2, h.eh3, ?_, ?_, h.de⟩
      · exact hst.of_perm (by simpa using (List.perm_middle (a := s.res b) (l₁ := L) (l₂ := E.map fun x => x.1.res x.2)).symm)
      · intro x hx
        rcases List.mem_cons.1 hx with rfl | hx
        · exact ⟨hsF, by show p ≤ s.i; omega⟩
        · exact h.eE x hx
      · rw [List.map_cons, List.nodup_cons]
        refine ⟨fun hm => ?_, h.en⟩
        obtain ⟨x, hx, e⟩ := List.mem_map.1 hm
        exact hfresh x hx (by rw [e]; exact hsi)
      · intro k hk hkh
        rw [get_set_true hiz, h.hd k hk hkh]
        constructor
        · rintro (rfl | q | ⟨x, hx, e⟩)
          · exact .inr ⟨(s, b), by simp, hsi⟩
          · exact .inl q
          · exact .inr ⟨x, by simp [hx], e⟩
        · rintro (q | ⟨x, hx, e⟩)
          · exact .inr (.inl q)
          · rcases List.mem_cons.1 hx with rfl | hx
            · left; rw [← e]; exact hsi
            · exact .inr (.inr ⟨x, hx, e⟩)
      · intro x hx
        rw [hdst]
        rcases List.mem_cons.1 hx with rfl | hx
        · simp [Act.put, h.size, hdN]
        · have hne : x.1.d ≠ s.d := fun e => by
            have := inj_of_nodup hc.nd (h.eE x hx).1 hsF e
            exact hfresh x hx (by rw [this]; exact hsi)
          simp only [Act.put]
          rw [Array.getElem?_setIfInBounds_ne (Ne.symm hne)]
          exact h.sl x hx
      · intro t v hv
        rw [hdst]
        have e : t ≠ s.d := hold t (by rw [hv]; simp)
        simp only [Act.put]
        rw [Array.getElem?_setIfInBounds_ne (Ne.symm e)]
        exact h.eh1 t v hv
      · intro t k hn hns hk hkl hkd hdn hmax
        have hki : k ≠ i := fun e => by subst e; rw [hli] at hkl; cases hkl
        rw [hdst]
        simp only [Act.put]
        rw [Array.getElem?_setIfInBounds_ne (hns s hsF)]
        refine h.top t k hn hns hk hkl hkd ?_ fun k' a b c d => hmax k' a b c ((get_set_true hiz).2 (.inr d))
        rcases (get_set_true hiz).1 hdn with q | q
        · exact absurd q hki
        · exact q
      · intro t hn hns hnone v hv
        rw [hdst]
        simp only [Act.put]
        rw [Array.getElem?_setIfInBounds_ne (hns s hsF)]
        exact h.base t hn hns (fun k a b c d => hnone k a b c ((get_set_true hiz).2 (.inr d))) v hv
    | none =>
      -- the next of the chain
      have hall : ∀ k, k < i → isHeavy ms k = true → listed[k]? = some true := fun k hk hh => hcl k (c3 hhv hf k hk hh)
      have hlights : ∀ k, p ≤ k → k < i → isLight ms k = true := by
        -- the first heavy one behind p would be laid
        refine Classical.byContradiction fun hcon => ?_
        simp only [Classical.not_forall] at hcon
        obtain ⟨k, hk1, hk2, hk3⟩ := hcon
        have hmin : ∃ j, (p ≤ j ∧ j < i ∧ isLight ms j = false) ∧ ∀ j', p ≤ j' → j' < j → isLight ms j' = true := by
          have : ∀ n j, j = n → p ≤ j → j < i → isLight ms j = false → ∃ j, (p ≤ j ∧ j < i ∧ isLight ms j = false) ∧ ∀ j', p ≤ j' → j' < j → isLight ms j' = true := by
            intro n
            induction n using Nat.strongRecOn with
            | _ n ih =>
              rintro j rfl h1 h2 h3
              by_cases q : ∀ j', p ≤ j' → j' < j → isLight ms j' = true
              · exact ⟨j, ⟨h1, h2, h3⟩, q⟩
              · simp only [Classical.not_forall] at q
                obtain ⟨j', q1, q2, q3⟩ := q
                exact ih j' q2 j' rfl q1 (by omega) (by simpa using q3)
          exact this k k rfl hk1 hk2 (by simpa using hk3)
        obtain ⟨j, ⟨j1, j2, j3⟩, j4⟩ := hmin
        have hjl : j < l.length := by omega
        have hjh : isHeavy ms j = true := by
          rcases light_or_heavy hlen hjl with ⟨a,_,_⟩ | ⟨_, b,_⟩
          · rw [a] at j3; cases j3
          · exact b
        exact hn j j1 hjl hjh j4 (hall j j2 hjh)
      have hy := HYE.drop (i - p) h.hy (by omega) (fun k a b => hlights k a (by omega))
      rw [show p + (i - p) = i by omega] at hy
      have hml : i < ms.length := by omega
      have e1 : l[i] = o := by simpa [List.getElem?_eq_getElem hil] using ho
      have e2 : ms[i] = none := by simpa [List.getElem?_eq_getElem hml] using hm
      rw [List.drop_eq_getElem_cons hil, List.drop_eq_getElem_cons hml, e1, e2] at hy
      have hrk : rank ms i = rank ms p := rank_lights hpi (by omega) hlights
      have hrk1 : rank ms (i + 1) = rank ms p + 1 := by rw [rank_succ hml, e2, hrk]; simp
      rcases hy with ⟨s, hs,_⟩ | ⟨_, hg, hdN, hho⟩
      · rw [hf] at hs; cases hs
      have hnsE : ∀ t, t ∈ readsOf l.toArray o → ev1 eh t = none → ∀ s, s ∈ FT → s.d ≠ t := fun t ht hno s hs e => by
        have h1 := (c6 t ht).2.2.2 s hs e
        obtain ⟨g1, g2, g3⟩ := hc.fi s hs
        rw [e] at g3
        have h2 : s.i < p := by
          rcases Nat.lt_or_ge s.i p with q | q
          · exact q
          · have := hlights s.i q h1
            rcases light_or_heavy hlen g1 with ⟨_, b,_⟩ | ⟨b,_,_⟩
            · rw [b] at g2; cases g2
            · rw [b] at this; cases this
        have := h.eh2 t hno s.i h2 g2
        rw [g3] at this; cases this
      have opr : ∀ x, x ∈ o.op.operands → ∀ u, ev (eh ++ envK l (mD D 0 ms) V env l.length) x = some u → a.eval x = u := by
        intro x hx u hu
        cases x with
        | tmp t =>
          have ht : t ∈ readsOf l.toArray o := List.mem_append_left _ (List.mem_filterMap.2 ⟨.tmp t, by simpa using hx, rfl⟩)
          have := rd t ht u hu (hnsE t ht)
          simp [Act.eval, this]
        | const c => simpa [ev, Act.eval] using hu
        | global g => simpa [ev, Act.eval] using hu
        | func f => simpa [ev, Act.eval] using hu
      rw [if_pos (by
        rcases hg with hg | ⟨j, want, t, hg, hj, ht⟩
        · simp [Region.wanted, hg]
        · have hm : t ∈ readsOf l.toArray o := List.mem_append_right _ (by rw [hg]; show t ∈ ((l.toArray[j]?).bind (·.dst)).toList; rw [hj]; simp)
          have ht' : a.tmps[t]? = some (.bool want) := rd t hm _ ht (hnsE t hm)
          have hy : yielded l.toArray a.tmps j = some want := by unfold yielded; rw [hj]; simp only [Option.bind_some, ht']
          simp [Region.wanted, hg, hy])]
      refine ((hho (E.map fun x => x.1.res x.2)).wp (ro := ro) (Q := Q') opr h.st fun v L'' w' hk hs => ?_)
      obtain ⟨hkD, L', rfl, hk1, hk2⟩ := hk
      have envE : putE o v (eh ++ envK l (mD D 0 ms) V env l.length) = putE o v eh ++ envK l (mD D 0 ms) V env l.length := by
        unfold putE; cases o.dst <;> rfl
      have hnd : ∀ d, o.dst = some d → ∀ s, s ∈ FT → s.d ≠ d := fun d hd => (c5 d hd).2 hf
      have hgt : ∀ x, x ∈ E → i + 1 ≤ x.1.i := fun x hx => by
        have h1 := (h.eE x hx).2
        have hne : x.1.i ≠ i := fun e => hnot (by rw [← e]; exact hEl x hx)
        rcases Nat.lt_or_ge x.1.i i with q | q
        · have := hlights x.1.i h1 q
          obtain ⟨g1, g2,_⟩ := hc.fi x.1 (h.eE x hx).1
          rcases light_or_heavy hlen g1 with ⟨_, b,_⟩ | ⟨b,_,_⟩
          · rw [b] at g2; cases g2
          · rw [b] at this; cases this
        · omega
      refine hK (i + 1) (putE o v eh) L' E _ w' ⟨by simp [h.lsz], ?_, (by cases o.dst <;> exact h.dfr), hs, ?_, by omega, ?_, fun x hx => ⟨(h.eE x hx).1, hgt x hx⟩, h.en, ?_, closed', ?_, ?_, ?_, ?_, ?_, ?_, ?_⟩
      · cases q : o.dst with
        | none => exact h.size
        | some d => simp [Act.put, h.size]
      · rw [hrk1, ← hrk]; exact hrk ▸ hk1
      · rw [hrk1, ← envE]; exact hk2
      · intro k hk hkh
        rw [get_set_true hiz, h.hd k hk hkh]
        constructor
        · rintro (rfl | q | q)
          · exact .inl (by omega)
          · exact .inl (by omega)
          · exact .inr q
        · rintro (q | q)
          · by_cases r : k = i
            · exact .inl r
            · right; left
              rcases Nat.lt_or_ge k p with s | s
              · exact s
              · have := hlights k s (by omega)
                rcases light_or_heavy hlen hk with ⟨_, b,_⟩ | ⟨b,_,_⟩
                · rw [b] at hkh; cases hkh
                · rw [b] at this; cases this
          · exact .inr (.inr q)
      · intro x hx
        cases q : o.dst with
        | none => exact h.sl x hx
        | some d =>
          have e : x.1.d ≠ d := hnd d q x.1 (h.eE x hx).1
          simp only [Act.put]
          rw [Array.getElem?_setIfInBounds_ne (Ne.symm e)]
          exact h.sl x hx
      · intro t u hu
        unfold putE at hu
        cases q : o.dst with
        | none => simp only [q] at hu; exact h.eh1 t u hu
        | some d =>
          simp only [q] at hu
          by_cases e : t = d
          · subst e
            rw [ev1_cons_eq] at hu
            cases hu
            simp [Act.put, h.size, hdN t q]
          · rw [ev1_cons_ne e] at hu
            simp only [Act.put]
            rw [Array.getElem?_setIfInBounds_ne (Ne.symm e)]
            exact h.eh1 t u hu
      · intro t hn k hk hkh
        unfold putE at hn
        have hn' : ev1 eh t = none := by
          cases q : o.dst with
          | none => simpa only [q] using hn
          | some d =>
            simp only [q] at hn
            by_cases e : t = d
            · subst e; rw [ev1_cons_eq] at hn; cases hn
            · rwa [ev1_cons_ne e] at hn
        by_cases r : k = i
        · subst r
          cases q : o.dst with
          | none => simp [dstIs, ho, q]
          | some d =>
            rw [dstI d q]
            refine beqne' fun e => ?_
            subst e
            simp only [q] at hn
            rw [ev1_cons_eq] at hn
            cases hn
        · refine h.eh2 t hn' k ?_ hkh
          rcases Nat.lt_or_ge k p with s | s
          · exact s
          · exfalso
            have := hlights k s (by omega)
            rcases light_or_heavy hlen (k := k) (by omega) with ⟨_, b,_⟩ | ⟨b,_,_⟩
            · rw [b] at hkh; cases hkh
            · rw [b] at this; cases this
      · intro t hn
        unfold putE at hn
        cases q : o.dst with
        | none =>
          simp only [q] at hn
          obtain ⟨k, a, b, c⟩ := h.eh3 t hn
          exact ⟨k, by omega, b, c⟩
        | some d =>
          simp only [q] at hn
          by_cases e : t = d
          · subst e
            exact ⟨i, by omega, hhv, by rw [dstI t q]; exact Nat.beq_refl _⟩
          · rw [ev1_cons_ne e] at hn
            obtain ⟨k, a, b, c⟩ := h.eh3 t hn
            exact ⟨k, by omega, b, c⟩
      · intro t k hn hns hk hkl hkd hdn hmax
        have hki : k ≠ i := fun e => by subst e; rw [hli] at hkl; cases hkl
        unfold putE at hn
        have hn' : ev1 eh t = none ∧ ∀ d, o.dst = some d → t ≠ d := by
          cases q : o.dst with
          | none => exact ⟨by simpa only [q] using hn, by simp⟩
          | some d =>
            simp only [q] at hn
            by_cases e : t = d
            · subst e; rw [ev1_cons_eq] at hn; cases hn
            · exact ⟨by rwa [ev1_cons_ne e] at hn, fun d' hd' => by cases hd'; exact e⟩
        have hdn' : listed[k]? = some true := by
          rcases (get_set_true hiz).1 hdn with q | q
          · exact absurd q hki
          · exact q
        have := h.top t k hn'.1 hns hk hkl hkd hdn' fun k' a b c d => hmax k' a b c ((get_set_true hiz).2 (.inr d))
        cases q : o.dst with
        | none => exact this
        | some d =>
          simp only [Act.put]
          rw [Array.getElem?_setIfInBounds_ne (Ne.symm (hn'.2 d q))]
          exact this
      · intro t hn hns hnone u hu
        unfold putE at hn
        have hn' : ev1 eh t = none ∧ ∀ d, o.dst = some d → t ≠ d := by
          cases q : o.dst with
          | none => exact ⟨by simpa only [q] using hn, by simp⟩
          | some d =>
            simp only [q] at hn
            by_cases e : t = d
            · subst e; rw [ev1_cons_eq] at hn; cases hn
            · exact ⟨by rwa [ev1_cons_ne e] at hn, fun d' hd' => by cases hd'; exact e⟩
        have := h.base t hn'.1 hns (fun k a b c d => hnone k a b c ((get_set_true hiz).2 (.inr d))) u hu
        cases q : o.dst with
        | none => exact this
        | some d =>
          simp only [Act.put]
          rw [Array.getElem?_setIfInBounds_ne (Ne.symm (hn'.2 d q))]
          exact this
      · intro k t hD hk hw
        by_cases r : k = i
        · subst r
          have hdt : o.dst = some t := by
            simp only [dstIs, ho] at hw
            cases q : o.dst with
            | none => simp [q] at hw
            | some d => simp only [q] at hw; rw [Nat.eq_of_beq_eq_true hw]
          have hv := hkD hD t hdt
          unfold putE
          rw [hdt]
          simp only
          rw [ev1_cons_eq]
          rw [ev1_append] at hv
          cases q : ev1 eh t with
          | some u =>
            obtain ⟨k', a, b, c⟩ := h.eh3 t (by rw [q]; simp)
            have := hc.uq hD hw (k := k') (by omega) c
            omega
          | none =>
            rw [q] at hv
            simp only at hv
            rcases ev1_envK l (mD D 0 ms) V env t v l.length hv with ⟨k', h1, h2, h3, h4, h5⟩ | ⟨h1, h2⟩
            · have := hc.uq hD hw (k := k') h1 h3
              rw [← this, h4]
            · have := h1 k hil (light_mD.2 (.inr ⟨hml, hD⟩))
              rw [hw] at this; cases this
        · have hkp : k < p := by
            rcases Nat.lt_or_ge k p with s | s
            · exact s
            · exfalso
              have := hlights k s (by omega)
              obtain ⟨g1, g2,_⟩ := hc.dd k hD
              rcases light_or_heavy hlen g1 with ⟨_, b,_⟩ | ⟨b,_,_⟩
              · rw [b] at g2; cases g2
              · rw [b] at this; cases this
          have hm := h.de k t hD hkp hw
          unfold putE
          cases q : o.dst with
          | none => exact hm
          | some d =>
            have e : t ≠ d := fun e => r (hc.uq hD hw hil (by rw [dstI d q, e]; exact Nat.beq_refl _)).symm
            simp only
            rw [ev1_cons_ne e]; exact hm

theorem HzE.end_ {l : List Oper} {ms : List (Option Nat)} {js : List (List Nat)} {V : Nat → Value} {listed : Array Bool} {p : Nat} {eh : Env} {E : List (FS × Nat)} {a : Act} {w : World} (hc : ChkD l ms js FT D)
    (h : HzE P β N ds J Q FT D l ms V env listed p eh L E a w) (hn : Nrm l ms listed p) (hall : ∀ k, k < l.length → listed[k]? = some true) : Q .normal a w := by
  have hlen := hc.len
  have hl : ∀ k, p ≤ k → k < l.length → isLight ms k = true := by
    have : ∀ n k, k = n → p ≤ k → k < l.length → isLight ms k = true := by
      intro n
      induction n using Nat.strongRecOn with
      | _ n ih =>
        rintro k rfl h1 h2
        rcases light_or_heavy hlen h2 with ⟨a,_,_⟩ | ⟨_, b,_⟩
        · exact a
        · exact absurd (hall k h2) (hn k h1 h2 b fun j j1 j2 => ih j j2 j rfl j1 (by omega))
    exact fun k => this k k rfl
  have hE : E = [] := by
    cases E with
    | nil => rfl
    | cons x E =>
      exfalso
      obtain ⟨h1, h2⟩ := h.eE x (by simp)
      obtain ⟨g1, g2,_⟩ := hc.fi x.1 h1
      have := hl x.1.i h2 g1
      rcases light_or_heavy hlen g1 with ⟨_, b,_⟩ | ⟨b,_,_⟩
      · rw [b] at g2; cases g2
      · rw [b] at this; cases this
  subst hE
  have hx := HYE.drop (l.length - p) h.hy (by have := h.hp; omega) (fun k a b => hl k a (by have := h.hp; omega))
  rw [show p + (l.length - p) = l.length by have := h.hp; omega] at hx
  rw [List.drop_length] at hx
  have hst := h.st
  rw [List.map_nil, List.append_nil] at hst
  refine hx a w ⟨h.size, h.dfr, fun t u hu => ?_⟩ hst
  rw [ev1_append] at hu
  cases q : ev1 eh t with
  | some v => rw [q] at hu; simp only [Option.some.injEq] at hu; subst hu; exact h.eh1 t v q
  | none =>
    rw [q] at hu
    simp only at hu
    have hns : ∀ s, s ∈ FT → s.d ≠ t := fun s hs e => by
      obtain ⟨g1, g2, g3⟩ := hc.fi s hs
      rw [e] at g3
      have h2 : s.i < p := by
        rcases Nat.lt_or_ge s.i p with r | r
        · exact r
        · have := hl s.i r g1
          rcases light_or_heavy hlen g1 with ⟨_, b,_⟩ | ⟨b,_,_⟩
          · rw [b] at g2; cases g2
          · rw [b] at this; cases this
      have := h.eh2 t q s.i h2 g2
      rw [g3] at this; cases this
    have hnD : ∀ k, k < l.length → dstIs l k t = true → D.contains k = false := fun k hk hw => by
      cases r : D.contains k with
      | false => rfl
      | true =>
        obtain ⟨g1, g2,_⟩ := hc.dd k r
        have hkp : k < p := by
          rcases (h.hd k hk g2).1 (hall k hk) with s | ⟨x, hx,_⟩
          · exact s
          · cases hx
        have := h.de k t r hkp hw
        rw [q] at this; cases this
    rcases ev1_envK l (mD D 0 ms) V env t u l.length hu with ⟨k, h1, h2, h3, h4, h5⟩ | ⟨h1, h2⟩
    · rw [← h4]
      have h2' : isLight ms k = true := by
        rcases light_mD.1 h2 with r | ⟨_, r⟩
        · exact r
        · rw [hnD k h1 h3] at r; cases r
      refine h.top t k q hns h1 h2' h3 (hall k h1) fun k' a b c d => ?_
      rcases Nat.lt_or_ge k k' with r | r
      · have := h5 k' r a (light_mD.2 (.inl b))
        rw [c] at this; cases this
      · exact r
    · refine h.base t q hns (fun k a b c d => ?_) u h2
      have := h1 k a (light_mD.2 (.inl b))
      rw [c] at this; cases this

set_option maxHeartbeats 1000000 in
theorem VC.drawG (FT : List FS) (D : List Nat) (js : List (List Nat)) (ms : List (Option Nat)) {env' : Env} {id : Nat} {l : List Oper} (hm : P.follows .mixedOrders = true) (hc : chkD l ms js (FT.map fun s => (s.i, s.d)) D = true) (h0 : js.getD 0 [] = List.range L.length)
    (h : LXD P β N l.toArray (fun m => sel L (js.getD m [])) D 0 l ms env env') (hF : FOk P N l env' FT) (k : HYE P β N ds (fun m => sel L (js.getD m [])) Q FT D l.toArray 0 0 l ms env' L) :
    VC P ro β N ds env L (.region id l.toArray true) Q := by
  intro a w ha hw
  obtain ⟨V, hV1, hV2⟩ := h.vals
  have hC := ChkD.of hc
  subst hV1
  refine wpIn_region_any hm ?_
  have key : ∀ fuel listed p eh L' E a w, HzE P β N ds (fun m => sel L (js.getD m [])) Q FT D l ms V env listed p eh L' E a w → (∀ k, k < l.length → listed[k]? ≠ some true → 0 < fuel) → ((List.range l.length).filter fun k => !(listed[k]? == some true)).length ≤ fuel → wpAnyIn (Wf ro) 0 P .any l.toArray Q fuel listed a w := by
    intro fuel
    induction fuel with
    | zero =>
      intro listed p eh L' E a w hI0 hz _
      obtain ⟨p', eh', L'', E', hI, hn⟩ := hI0.norm hC _ rfl
      have hall : ∀ k, k < l.length → listed[k]? = some true := fun k hk => Classical.byContradiction fun hn => by have := hz k hk hn; omega
      refine ⟨?_, hI.end_ hC hn hall⟩
      simp only [Region.ready, List.filter_eq_nil_iff, List.mem_range, Bool.and_eq_true, Bool.not_eq_true', not_and]
      intro i hi hf
      have := hall i (by simpa using hi)
      simp [this] at hf
    | succ fuel ih =>
      intro listed p eh L' E a w hI0 hz hcnt
      obtain ⟨p', eh', L'', E', hI, hn⟩ := hI0.norm hC _ rfl
      refine ⟨fun hr => hI.end_ hC hn (ready_all hI.lsz (fun k o ho => (hC.ops k o ho).1) hr), fun i hi => ?_⟩
      refine hI.step hC rfl hV2 hF.mem hn hi fun p' eh' L'' E' a' w' hI' => ih _ _ _ _ _ _ _ hI' ?_ ?_
      · intro k hk hn
        rcases Nat.eq_zero_or_pos fuel with e | e
        · exfalso
          subst e
          simp only [Region.ready, List.mem_filter, List.mem_range, Bool.and_eq_true, Bool.not_eq_true'] at hi
          have hil : i < l.length := by simpa using hi.1
          have hiz : i < listed.size := by rw [hI.lsz]; exact hil
          rw [Ne, get_set_true hiz, not_or] at hn
          have hni : listed[i]? ≠ some true := fun e => by have h2 := hi.2.1; simp [e] at h2
          have m1 : i ∈ (List.range l.length).filter fun k => !(listed[k]? == some true) := by simp [hil, hni]
          have m2 : k ∈ (List.range l.length).filter fun k => !(listed[k]? == some true) := by simp [hk, hn.2]
          match hf : (List.range l.length).filter fun k => !(listed[k]? == some true), hcnt with
          | [],_ => rw [hf] at m1; simp at m1
          | [x],_ => rw [hf] at m1 m2; simp at m1 m2; exact hn.1 (by omega)
          | _ :: _ :: _, hcnt => simp at hcnt
        · exact e
      · simp only [Region.ready, List.mem_filter, List.mem_range, Bool.and_eq_true, Bool.not_eq_true'] at hi
        have hil : i < l.length := by simpa using hi.1
        have hiz : i < listed.size := by rw [hI.lsz]; exact hil
        have hni : listed[i]? ≠ some true := fun e => by have h2 := hi.2.1; simp [e] at h2
        have hlt2 : ((List.range l.length).filter fun k => !((listed.setIfInBounds i true)[k]? == some true)).length < ((List.range l.length).filter fun k => !(listed[k]? == some true)).length := by
          refine filter_lt (i := i) ?_ (by simp [hil]) ?_ ?_
          · intro k hk
            simp only [Bool.not_eq_true', beq_eq_false_iff_ne, ne_eq] at hk ⊢
            exact fun e => hk ((get_set_true hiz).2 (.inr e))
          · simpa using hni
          · simp [hiz]
        omega
  have hnone : ∀ j : Nat, (Array.replicate l.toArray.size false)[j]? ≠ some true := by
    intro j hj
    simp [Array.getElem?_replicate] at hj
  refine key _ _ 0 [] L [] _ _ ⟨by simp, ha.size, ha.dfr, (by rw [List.map_nil, List.append_nil]; exact hw.drew _), ?_, Nat.zero_le _, ?_, by simp, by simp, ?_, ?_, by simp, ?_, ?_, ?_, ?_, ?_, ?_⟩ ?_ ?_
  · intro w hw
    have : rank ms 0 = 0 := by simp [rank]
    rw [this]
    simp only [h0]
    refine hw.sel _ ?_
    have := hC.jn 0
    rwa [h0] at this
  · simpa [rank] using k
  · intro i _ _
    exact ⟨fun e => absurd e (hnone i), fun q => by rcases q with q | ⟨x, hx,_⟩; omega; cases hx⟩
  · intro j hj; exact absurd hj (hnone j)
  · intro t v hv; simp [ev1] at hv
  · intro t _ i hi; omega
  · intro t ht; simp [ev1] at ht
  · intro t k _ _ _ _ _ hl; exact absurd hl (hnone k)
  · intro t _ _ _ v hv; exact ha.get t v hv
  · intro i t _ hi; omega
  · intro k hk _
    simpa using Nat.lt_of_le_of_lt (Nat.zero_le _) hk
  · refine Nat.le_trans (List.length_filter_le _ _) ?_
    simp


end
end Go.SL

namespace Go.SL
set_option linter.unusedVariables false

theorem selKT {β : Bs} {L L1 L2 X : List Res} (is : List Nat) (hn : nodupB is = true) (h : sel L is = L1 ++ L2) (hlt : is.all (fun i => Nat.blt i L.length) = true) : ∀ w, St β (L ++ X) w → St β (L1 ++ (L2 ++ X)) w := fun w hw => by
  rw [← List.append_assoc, ← h]
  have hle : (sel L is).length = is.length := by unfold sel; exact List.length_map _
  have hb : ∀ j (hj : j < is.length), is[j] < L.length := fun j hj => Nat.le_of_ble_eq_true (List.all_eq_true.1 hlt _ (List.getElem_mem hj))
  have hfl : ∀ j (hj : j < is.length), is.getD j 0 = is[j] := fun j hj => by rw [List.getD_eq_getElem?_getD, List.getElem?_eq_getElem hj]; rfl
  refine hw.map (fun j => if j < is.length then is.getD j 0 else L.length + (j - is.length)) ?_ ?_
  · intro j l hjl hj hl
    by_cases h1 : j < is.length
    · by_cases h2 : l < is.length
      · rw [if_pos h1, if_pos h2, hfl j h1, hfl l h2]
        exact nodupB_spec hn j l h1 h2 hjl
      · rw [if_pos h1, if_neg h2, hfl j h1]
        have := hb j h1; omega
    · by_cases h2 : l < is.length
      · rw [if_neg h1, if_pos h2, hfl l h2]
        have := hb l h2; omega
      · rw [if_neg h1, if_neg h2]; omega
  · intro j r hr
    by_cases h1 : j < is.length
    · refine .inr ?_
      rw [if_pos h1, hfl j h1, List.getElem?_append_left (hb j h1)]
      rw [List.getElem?_append_left (by rw [hle]; exact h1)] at hr
      unfold sel at hr
      rw [List.getElem?_map, List.getElem?_eq_getElem h1] at hr
      simp only [Option.map_some, Option.some.injEq] at hr
      rw [List.getD_eq_getElem?_getD, List.getElem?_eq_getElem (hb j h1)] at hr
      rw [List.getElem?_eq_getElem (hb j h1), ← hr]; rfl
    · refine .inr ?_
      rw [if_neg h1, List.getElem?_append_right (by omega), show L.length + (j - is.length) - L.length = j - is.length by omega]
      rw [List.getElem?_append_right (by rw [hle]; omega), hle] at hr
      exact hr
theorem LXD.dg {P : Program} {β : Bs} {N : Nat} {ops : Array Oper} {J : Nat → List Res} {D : List Nat} {env env' : Env} {i d : Nat} {op : Op} {ty : TypeId} {pos : String} {aft : Array Edge} {q : Nat × Bool} {rest : List Oper} {ms : List (Option Nat)} (v : Value) (hD : D.contains i = true) (k : LXD P β N ops J D (i + 1) rest ms ((d, v) :: env) env') : LXD P β N ops J D i (⟨some d, op, ty, pos, aft, some q⟩ :: rest) (none :: ms) env env' := .inr ⟨hD, d, v, rfl, k⟩
end Go.SL

namespace Go.SL
set_option linter.unusedVariables false
open Go.RowKit
section
variable {P : Program} {ro : Option Nat} {β : Bs} {N : Nat} {ds : List Deferred} {env : Env} {L : List Res} {Q : Exit → Act → World → Prop}

/-- A range over a function, inside whatever. 'I n': behind n rounds. -/
theorem VC.rangeFuncD {α : Type} {gop : Operand} {ps : Array Tmp} {asg body : Code} {gf : FuncId} {lb : List Value} {Cap : World → Prop} {xs : List (List Value)} (F : α → List Res) (I : Nat → α → Prop) (Ix : Code → Nat → α → Prop) (x0 : α) (envb : List Value → Env)
    (hg : ev env gop = some (.func (.func gf) #[] lb.toArray)) (hf : IsFn P gf) (hseq : SeqC P gf lb Cap xs) (hF0 : ∀ w, St β L w → St β (F x0) w) (h0 : I 0 x0)
    (hps : ∀ vs, vs ∈ xs → vs.length = ps.size) (hpN : ps.toList.all (fun t => Nat.blt t N) = true)
    (hCap : ∀ n x w, I n x → (∀ (i : Nat) (r : Res), (F x)[i]? = some r → r.inv w) → (∀ k, k < β.w.heap.size → ¬ β.O k → w.heap[k]? = β.w.heap[k]?) → Cap w)
    (hasg : ∀ (n : Nat) (x : α) (vs : List Value) l T w1, I n x → xs[n]? = some vs → St β (F x ++ T) w1 → VC P (some l) ⟨w1, fpL (F x ++ T)⟩ N [] (penv ps vs ++ env) (F x ++ T) asg (AP ⟨w1, fpL (F x ++ T)⟩ N (envb vs) (F x ++ T)))
    (hbody : ∀ (n : Nat) (x : α) (vs : List Value) l T w1, I n x → xs[n]? = some vs → St β (F x ++ T) w1 → VC P (some l) ⟨w1, fpL (F x ++ T)⟩ N [] (envb vs) (F x ++ T) body (RB ⟨w1, fpL (F x ++ T)⟩ F T (I (n + 1)) (fun c => Ix c (n + 1))))
    (hdone : ∀ D x, I xs.length x → VE β N (mark D :: ds) env (F x ++ [dR D]) .normal Q)
    (hstop : ∀ D c n x, n ≤ xs.length → Ix c n x → VC P none β N (mark D :: ds) env (F x ++ [dR D]) c Q) :
    VC P none β N ds env L (.rangeFunc gop ps asg body) Q := by
  intro a w ha hw
  have hw0 := hF0 w hw
  refine wpIn_rangeFunc fun fn _ => ?_
  obtain ⟨rec, hrec⟩ : ∃ rec : LoopState → Option Code → Loop, rec = fun st pe => { state := st, pending := pe, fn, tmps := a.tmps, params := ps, assign := asg, body, defers := w.heap.size } := ⟨_, rfl⟩
  obtain ⟨D, hD⟩ : ∃ D, D = w.heap.size := ⟨_, rfl⟩
  obtain ⟨l, hl⟩ : ∃ l, l = w.heap.size + 1 := ⟨_, rfl⟩
  obtain ⟨W1, hW1⟩ : ∃ W1, (w.alloc (.deferred (some []))).alloc (.loop (rec .ready none)) = W1 := ⟨_, rfl⟩
  obtain ⟨T, hT⟩ : ∃ T : LoopState → Option Code → List Res, T = fun st pe => [blk l (.loop (rec st pe)), dR D] := ⟨_, rfl⟩
  have hTget : ∀ x st pe, (F x ++ T st pe)[(F x).length]? = some (blk l (.loop (rec st pe))) := by intro x st pe; simp [hT]
  have hTset : ∀ x st pe st' pe', (F x ++ T st pe).set (F x).length (blk l (.loop (rec st' pe'))) = F x ++ T st' pe' := by intro x st pe st' pe'; simp [hT]
  have hst1 : St β (F x0 ++ T .ready none) W1 := by
    have h1 := (hw0.alloc (.deferred (some []))).alloc (.loop (rec .ready none))
    rw [hW1, World.size_alloc] at h1
    refine h1.map (fun j => if j < (F x0).length then j + 2 else if j = (F x0).length then 0 else 1) ?_ ?_
    · intro a b hab ha hb
      simp [hT] at ha hb
      split <;> split <;> (try split) <;> (try split) <;> omega
    · intro j r hr
      right
      rw [List.getElem?_append] at hr
      by_cases q : j < (F x0).length
      · simp only [q, if_true] at hr ⊢
        simpa using hr
      · simp only [q, if_false] at hr ⊢
        by_cases e : j = (F x0).length
        · subst e; simp [hT] at hr; subst hr; simp [hl]
        · have : j = (F x0).length + 1 := by
            rcases Nat.lt_or_ge (j - (F x0).length) 2 with s | s
            · omega
            · simp only [hT] at hr; rw [List.getElem?_eq_none (by simpa using s)] at hr; cases hr
          subst this
          simp [hT] at hr; subst hr; simp [dR, hD]
  -- from the record's states to the world
  have endx : ∀ x st pe w', St β (F x ++ T st pe) w' → st ≠ .busy → ∃ w4, (Instr.endLoop l).run P w' = .ok pe w4 ∧ St β (F x ++ [dR D]) w4 := by
    intro x st pe w' hs hne
    have hrl : w'.heap[l]? = some (.loop (rec st pe)) := hs.inv _ _ (hTget x st pe)
    refine ⟨w'.putObj l (.loop { rec st pe with state := .exhausted }), ?_, ?_⟩
    · have := run_endLoop (P := P) hrl (by rw [hrec]; exact hne)
      rw [this]; congr 1; rw [hrec]
    · have h2 := hs.obj (o' := .loop { rec st pe with state := .exhausted }) _ (hTget x st pe)
      refine h2.map (fun j => if j < (F x).length then j else j + 1) ?_ ?_
      · intro a b hab ha hb
        split <;> split <;> omega
      · intro j r hr
        right
        rw [List.getElem?_append] at hr
        by_cases q : j < (F x).length
        · simp only [q, if_true] at hr ⊢
          rw [List.getElem?_set_ne (by omega), List.getElem?_append_left q]; exact hr
        · simp only [q, if_false] at hr ⊢
          have : j = (F x).length := by
            rcases Nat.lt_or_ge (j - (F x).length) 1 with s | s
            · omega
            · rw [List.getElem?_eq_none (by simpa using s)] at hr; cases hr
          subst this
          simp at hr; subst hr
          rw [List.getElem?_set_ne (by omega), List.getElem?_append_right (by omega)]
          simp [hT]
  refine ⟨l, [mark D], W1, { target := .fn (.func gf) lb.toArray, args := #[yv l] }, W1, gf, (yv l :: lb).toArray, W1, ?_, ?_, ?_, ?_, fun h => by simp [Wf, Fence.wide] at h, ?_⟩
  · rw [← hW1, hrec, hl, hD]; exact run_enterLoop_outer _ _ _ _ _
  · have e : a.eval gop = .func (.func gf) #[] lb.toArray := ha.eval hg
    simp only [resolve, e]
    simp [Deferred.ofValue, yv, Act.eval]
  · intro f' _; exact True.intro
  · simp [invoke, run_call hf]
  · refine callsIn_wf.2 ((hseq l (fun n r => ∃ x, I n x ∧ r = big β (F x ++ T .ready none) ∧ Fits β (F x ++ T .ready none)) (fun n r => ∃ c x, Ix c n x ∧ r = big β (F x ++ T .done (some c)) ∧ Fits β (F x ++ T .done (some c)))
      W1 (big β (F x0 ++ T .ready none)) ?_ ?_ ⟨x0, h0, rfl, hst1.fits⟩ ⟨hst1.inv, hst1.fr⟩ ?_).mono ?_)
    · rintro n r w' ⟨x, hI, rfl,_⟩ hinv
      exact hCap n x w' hI (fun i r hr => hinv.1 i r (by
        rw [List.getElem?_append_left]
        · exact hr
        · rcases Nat.lt_or_ge i (F x).length with q | q
          · exact q
          · simp [List.getElem?_eq_none q] at hr)) hinv.2
    · -- one round
      rintro n vs hvs r w1 ⟨x, hI, rfl, hfit⟩ hinv hb hos
      have hs1 : St β (F x ++ T .ready none) w1 := St.of_big (w1 := w1) (O := β.O) hfit ⟨hos.1.trans hst1.os, hos.2.1.trans hst1.tape, hos.2.2.1.trans hst1.output, Nat.le_trans hst1.size hos.2.2.2⟩ hinv hb
      have hrl : w1.heap[l]? = some (.loop (rec .ready none)) := hs1.inv _ _ (hTget x .ready none)
      have hlen : vs.toArray.size = ps.size := by simpa using hps vs (List.mem_of_getElem? hvs)
      have hy := run_yield (P := P) (args := vs.toArray) hrl (by rw [hrec]; exact hlen)
      refine ⟨_,_,_,_, hy, ?_⟩
      refine roundIn_of_wpIn (F := Fence.wide) (n := 0) True.intro ?_
      have hA : Ag N [] (penv ps vs ++ env) { tmps := (ps.zip vs.toArray).foldl (fun t (p, v) => t.setIfInBounds p v) a.tmps, defers := [] } := by
        have h1 := ag_zip (N := N) (ds := []) (ps.toList.zip vs) env { tmps := a.tmps, defers := [] } (fun z hz => by
          have hm : z.1 ∈ ps.toList := (List.of_mem_zip (a := z.1) (b := z.2) hz).1
          exact Nat.le_of_ble_eq_true (List.all_eq_true.1 hpN z.1 hm)) ⟨ha.size, rfl, ha.get⟩
        have e : (ps.zip vs.toArray).foldl (fun t (p, v) => t.setIfInBounds p v) a.tmps = (ps.toList.zip vs).foldl (fun t (p, v) => t.setIfInBounds p v) a.tmps := by
          rw [← Array.foldl_toList, Array.toList_zip]
        rw [e]; exact h1
      have ha1 := hasg n x vs l (T .ready none) w1 hI hvs hs1 _ w1 hA hs1.rebase
      rw [hrec]
      refine Code.wpIn_mono ?_ ha1
      rintro e a2 w2 ⟨rfl, hag, hs2⟩
      have hs2' := hs1.back hs2
      have hrl2 : w2.heap[l]? = some (.loop (rec .ready none)) := hs2.inv _ _ (hTget x .ready none)
      refine ⟨w2.putObj l (.loop { rec .ready none with state := .busy }), run_beginRound hrl2 (by rw [hrec]), ?_⟩
      have eb : ({ rec .ready none with state := .busy } : Loop) = rec .busy none := by rw [hrec]
      rw [eb]
      have hs3 := hs2'.obj (o' := .loop (rec .busy none)) _ (hTget x .ready none)
      rw [hTset] at hs3
      have hs3' := hs2.obj (o' := .loop (rec .busy none)) _ (hTget x .ready none)
      rw [hTset] at hs3'
      have hb1 := hbody n x vs l (T .busy none) _ hI hvs hs3 _ _ hag hs3.rebase
      refine Code.wpIn_mono ?_ hb1
      intro e a3 w3 hq
      have fin : ∀ y (jump : Option Code), St ⟨w2.putObj l (.loop (rec .busy none)), fpL (F x ++ T .busy none)⟩ (F y ++ T .busy none) w3 →
          ∃ w4, (Instr.endRound l jump).run P w3 = .ok (.bool jump.isNone) w4 ∧ St ⟨w1, (big β (F x ++ T .ready none)).fp⟩ [big β (F y ++ T (if jump.isNone then .ready else .done) jump)] w4 ∧ Fits β (F y ++ T (if jump.isNone then .ready else .done) jump) := by
        intro y jump hsy
        have h4 := hs3'.back hsy
        have hrl3 : w3.heap[l]? = some (.loop (rec .busy none)) := h4.inv _ _ (hTget y .busy none)
        refine ⟨_, run_endRound jump hrl3, ?_⟩
        have er : ({ rec .busy none with state := if jump.isNone then .ready else .done, pending := jump } : Loop) = rec (if jump.isNone then .ready else .done) jump := by rw [hrec]
        rw [er]
        have h5 := h4.obj (o' := .loop (rec (if jump.isNone then .ready else .done) jump)) _ (hTget y .busy none)
        rw [hTset] at h5
        exact ⟨St.to_big hs1 h5, (hs1.back h5).fits⟩
      cases e with
      | normal =>
        obtain ⟨y, hy1, hy2⟩ := hq
        obtain ⟨w4, h1, h2, h3⟩ := fin y none hy2
        exact ⟨_, w4, h1, true,_, rfl, ⟨y, hy1, rfl, h3⟩, h2⟩
      | ret =>
        obtain ⟨y, hy1, hy2⟩ := hq
        obtain ⟨w4, h1, h2, h3⟩ := fin y (some .ret) hy2
        exact ⟨_, w4, h1, false,_, rfl, ⟨_, y, hy1, rfl, h3⟩, h2⟩
      | exit id =>
        obtain ⟨y, hy1, hy2⟩ := hq
        obtain ⟨w4, h1, h2, h3⟩ := fin y (some (.exit id)) hy2
        exact ⟨_, w4, h1, false,_, rfl, ⟨_, y, hy1, rfl, h3⟩, h2⟩
      | goto t => exact hq.elim
      | panic ch => exact hq.elim
      | outgrown => exact hq.elim
    · intro k hk
      rcases hk with ⟨i, r, hr, hk⟩ | ⟨hk,_⟩
      · exact (hst1.rng i r hr k hk).2
      · exact Nat.lt_of_lt_of_le hk hst1.size
    · rintro e w' ⟨rfl, n, r', hJ, hs⟩
      have toSt : ∀ L2, r' = big β L2 → Fits β L2 → St β L2 w' := by
        rintro L2 rfl hfit
        have hb := hs.rng 0 _ rfl
        exact St.of_big (w1 := w') (O := β.O) hfit ⟨hs.os.trans hst1.os, hs.tape.trans hst1.tape, hs.output.trans hst1.output, Nat.le_trans hst1.size hs.size⟩ (hs.inv 0 _ rfl) (fun k hk => (hb k hk).2)
      have hag : Ag N (mark D :: ds) env { a with defers := [mark D] ++ a.defers } := ⟨ha.size, by simp [ha.dfr], ha.get⟩
      rcases hJ with ⟨x, hI, hr, hfit⟩ | ⟨hle, c, x, hI, hr, hfit⟩
      · obtain ⟨w4, h1, h2⟩ := endx x .ready none w' (toSt _ hr hfit) (by simp)
        exact ⟨none, w4, h1, hdone D x hI _ _ hag h2⟩
      · obtain ⟨w4, h1, h2⟩ := endx x .done (some c) w' (toSt _ hr hfit) (by simp)
        exact ⟨some c, w4, h1, hstop D c n x hle hI _ _ hag h2⟩


/-- The marks of some ranges, and what they hold. -/
def Dm (Ds : List Nat) : List Deferred := Ds.map mark
def Db (Ds : List Nat) : Res := bagD (Ds.map dR)
theorem St.db0 {w : World} (h : St β L w) : St β (Db [] :: L) w := St.bagD (Rs := []) h
/-- The new mark stands behind all others. -/
theorem St.dbAdd {w : World} {A : List Res} {D : Nat} {Ds : List Nat} (h : St β (A ++ [Db Ds] ++ [dR D]) w) : St β (A ++ [Db (D :: Ds)]) w := by
  have h1 : St β (dR D :: Db Ds :: A) w := h.perm (by
    rw [List.append_assoc]
    refine (List.perm_append_comm).trans ?_
    exact List.Perm.swap _ _ _)
  have h2 : St β (Db (D :: Ds) :: A) w := by
    have h3 := St.unfocus (A := []) (B := Ds.map dR) (r := dR D) (L := A) h1
    exact h3
  exact h2.perm (List.perm_append_comm (l₁ := [Db (D :: Ds)]) (l₂ := A))

theorem VC.rangeFuncB {α : Type} {gop : Operand} {ps : Array Tmp} {asg body : Code} {gf : FuncId} {lb : List Value} {Cap : World → Prop} {xs : List (List Value)} {Ds : List Nat} (F : α → List Res) (I : Nat → α → Prop) (Ix : Code → Nat → α → Prop) (x0 : α) (envb : List Value → Env)
    (hg : ev env gop = some (.func (.func gf) #[] lb.toArray)) (hf : IsFn P gf) (hseq : SeqC P gf lb Cap xs) (hF0 : ∀ w, St β L w → St β (F x0 ++ [Db Ds]) w) (h0 : I 0 x0)
    (hps : ∀ vs, vs ∈ xs → vs.length = ps.size) (hpN : ps.toList.all (fun t => Nat.blt t N) = true)
    (hCap : ∀ n x w, I n x → (∀ (i : Nat) (r : Res), (F x)[i]? = some r → r.inv w) → Cap w)
    (hasg : ∀ (n : Nat) (x : α) (vs : List Value) l T w1, I n x → xs[n]? = some vs → St β (F x ++ T) w1 → VC P (some l) ⟨w1, fpL (F x ++ T)⟩ N [] (penv ps vs ++ env) (F x ++ T) asg (AP ⟨w1, fpL (F x ++ T)⟩ N (envb vs) (F x ++ T)))
    (hbody : ∀ (n : Nat) (x : α) (vs : List Value) l T w1, I n x → xs[n]? = some vs → St β (F x ++ T) w1 → VC P (some l) ⟨w1, fpL (F x ++ T)⟩ N [] (envb vs) (F x ++ T) body (RB ⟨w1, fpL (F x ++ T)⟩ F T (I (n + 1)) (fun c => Ix c (n + 1))))
    (hdone : ∀ D x, I xs.length x → VE β N (Dm (D :: Ds)) env (F x ++ [Db (D :: Ds)]) .normal Q)
    (hstop : ∀ D c n x, n ≤ xs.length → Ix c n x → VC P none β N (Dm (D :: Ds)) env (F x ++ [Db (D :: Ds)]) c Q) :
    VC P none β N (Dm Ds) env L (.rangeFunc gop ps asg body) Q := by
  have as1 : ∀ (x : α) (T : List Res), (F x ++ [Db Ds]) ++ T = F x ++ ([Db Ds] ++ T) := fun x T => List.append_assoc _ _ _
  refine VC.rangeFuncD (fun x => F x ++ [Db Ds]) I Ix x0 envb hg hf hseq hF0 h0 hps hpN (fun n x w h1 h2 _ => hCap n x w h1 fun i r hr => h2 i r (by
      rw [List.getElem?_append_left (List.getElem?_eq_some_iff.1 hr).1]; exact hr)) ?_ ?_ (fun D x hI => ?_) (fun D c n x hn hI => ?_)
  · intro n x vs l T w1 h1 h2 h3
    rw [as1] at h3 ⊢
    exact hasg n x vs l _ w1 h1 h2 h3
  · intro n x vs l T w1 h1 h2 h3
    rw [as1] at h3 ⊢
    refine fun a w ha hw => Code.wpIn_mono ?_ (hbody n x vs l _ w1 h1 h2 h3 a w ha hw)
    intro e a w q
    cases e with
    | normal => obtain ⟨y, q1, q2⟩ := q; exact ⟨y, q1, by rw [as1]; exact q2⟩
    | ret => obtain ⟨y, q1, q2⟩ := q; exact ⟨y, q1, by rw [as1]; exact q2⟩
    | exit id => obtain ⟨y, q1, q2⟩ := q; exact ⟨y, q1, by rw [as1]; exact q2⟩
    | _ => exact q
  · intro a w ha hw
    exact hdone D x hI a w ha (St.dbAdd hw)
  · intro a w ha hw
    exact hstop D c n x hn hI a w ha (St.dbAdd hw)

theorem VC.rangeFuncC {α : Type} {gop : Operand} {ps : Array Tmp} {asg body : Code} {gf : FuncId} {lb : List Value} {Cap : World → Prop} {xs : List (List Value)} {Ds : List Nat} (R : List Res) (F : α → List Res) (I : Nat → α → Prop) (Ix : Code → Nat → α → Prop) (x0 : α) (envb : List Value → Env)
    (hg : ev env gop = some (.func (.func gf) #[] lb.toArray)) (hf : IsFn P gf) (hseq : SeqC P gf lb Cap xs) (hF0 : ∀ w, St β L w → St β ((F x0 ++ R) ++ [Db Ds]) w) (h0 : I 0 x0)
    (hps : ∀ vs, vs ∈ xs → vs.length = ps.size) (hpN : ps.toList.all (fun t => Nat.blt t N) = true)
    (hCap : ∀ n x w, I n x → (∀ (i : Nat) (r : Res), (F x ++ R)[i]? = some r → r.inv w) → Cap w)
    (hasg : ∀ (n : Nat) (x : α) (vs : List Value) l T w1, I n x → xs[n]? = some vs → St β ((F x ++ R) ++ T) w1 → VC P (some l) ⟨w1, fpL ((F x ++ R) ++ T)⟩ N [] (penv ps vs ++ env) ((F x ++ R) ++ T) asg (AP ⟨w1, fpL ((F x ++ R) ++ T)⟩ N (envb vs) ((F x ++ R) ++ T)))
    (hbody : ∀ (n : Nat) (x : α) (vs : List Value) l T w1, I n x → xs[n]? = some vs → St β ((F x ++ R) ++ T) w1 → VC P (some l) ⟨w1, fpL ((F x ++ R) ++ T)⟩ N [] (envb vs) ((F x ++ R) ++ T) body (RB ⟨w1, fpL ((F x ++ R) ++ T)⟩ (fun x => F x ++ R) T (I (n + 1)) (fun c => Ix c (n + 1))))
    (hdone : ∀ D x, I xs.length x → VE β N (Dm (D :: Ds)) env ((F x ++ R) ++ [Db (D :: Ds)]) .normal Q)
    (hstop : ∀ D c n x, n ≤ xs.length → Ix c n x → VC P none β N (Dm (D :: Ds)) env ((F x ++ R) ++ [Db (D :: Ds)]) c Q) :
    VC P none β N (Dm Ds) env L (.rangeFunc gop ps asg body) Q :=
  VC.rangeFuncB (fun x => F x ++ R) I Ix x0 envb hg hf hseq hF0 h0 hps hpN hCap hasg hbody hdone hstop

/-- A loop in which the marks grow. -/
theorem VC.loopD {α : Type} (n : Nat) (E : α → Env) (Ek : Env) (F : α → List Res) (Df : α → List Nat) (I : α → Prop) (μ : α → Nat) (x0 : α) {Ds : List Nat} {c : Code} (hd : Df x0 = Ds) (h0 : I x0) (hE : Sub (E x0 ++ Ek) env)
    (hF : ∀ w, St β L w → St β (F x0 ++ L.drop n) w)
    (hr : ∀ x, I x → VC P ro β N (Dm (Df x)) (E x ++ Ek) (F x ++ L.drop n) c (Exit.then (fun a w => ∃ y, I y ∧ μ y < μ x ∧ Ag N (Dm (Df y)) (E y ++ Ek) a ∧ St β (F y ++ L.drop n) w) Q)) : VC P ro β N (Dm Ds) env L (.loop c) Q := by
  intro a w ha hw
  refine wp_loop_n (fun n' a w => ∃ x, I x ∧ μ x = n' ∧ Ag N (Dm (Df x)) (E x ++ Ek) a ∧ St β (F x ++ L.drop n) w) (μ x0) ⟨x0, h0, rfl, by rw [hd]; exact ha.sub hE, hF w hw⟩ ?_
  rintro n' a w ⟨x, hI, rfl, hA, hS⟩
  refine Code.wpIn_mono ?_ (hr x hI a w hA hS)
  intro e a w q
  cases e with
  | normal => obtain ⟨y, h1, h2, h3, h4⟩ := q; exact ⟨μ y, h2, y, h1, rfl, h3, h4⟩
  | _ => exact q

theorem run_marks {fn : Func} {R : Ending → World → Prop} {tmps : Array Value} : ∀ {Ds : List Nat} {A : List Res} {w : World}, St β (Db Ds :: A) w → (∀ w', St β A w' → LeavesInM (Wf none) 0 P fn tmps R [] .returning w') → LeavesInM (Wf none) 0 P fn tmps R (Dm Ds) .returning w
  | [], A, w, h, k => k w (h.perm (List.Perm.refl _) |> fun h => h.unbagD)
  | D :: Ds, A, w, h, k => by
    have h1 : St β (dR D :: Db Ds :: A) w := St.focus (A := []) (B := Ds.map dR) (r := dR D) (L := A) h
    have hd : w.heap[D]? = some (.deferred (some [])) := h1.inv 0 _ rfl
    have hs := h1.obj (o' := .deferred none) 0 rfl
    refine ⟨by simp, .inl ⟨D,_, rfl, run_takeDeferred hd, ?_⟩⟩
    have h2 : St β (Db Ds :: A) (w.putObj D (.deferred none)) := by
      have : ([dR D] ++ (Db Ds :: A)).set 0 (blk D (.deferred none)) = blk D (.deferred none) :: Db Ds :: A := rfl
      exact (hs.map (fun j => j + 1) (fun a b hab _ _ => by omega) (fun j r hr => .inr (by simpa using hr)) : St β (Db Ds :: A) _)
    exact run_marks h2 k

/-- The end of a function that has ranged over functions. -/
theorem VE.resDm {fn : Func} {R : Ending → World → Prop} {xs : List ResultVar} {vs : List Value} {Ds : List Nat} {A : List Res} (hr : fn.results = xs.toArray) (hL : ∀ w, St β L w → St β (Db Ds :: A) w) (h : RVs P β A env xs vs)
    (k : ∀ w, St β A w → R (.returned (resV vs)) w) : VE β N (Dm Ds) env L .ret (FP P fn R) := by
  intro a w ha hw
  show LeavesInM (Wf none) 0 P fn a.tmps R a.defers .returning w
  rw [ha.dfr]
  refine run_marks (hL w hw) fun w' hw' => ?_
  exact ⟨_, run_results (ds := []) (a := { tmps := a.tmps, defers := [] }) hr ⟨ha.size, rfl, ha.get⟩ hw' h, k _ hw'⟩
theorem VC.dm0 {c : Code} (h : VC P ro β N (Dm []) env (Db [] :: L) c Q) : VC P ro β N [] env L c Q := fun a w ha hw => h a w ha hw.db0
end
end Go.SL

namespace Go.SL
set_option linter.unusedVariables false
open Go.RowKit
/-- What a round's assignment comes to, where it may lay blocks. -/
def APy {γ : Type} (β : Bs) (N : Nat) (env : γ → Env) (L : γ → List Res) : Exit → Act → World → Prop := fun e a w => e = .normal ∧ ∃ y, Ag N [] (env y) a ∧ St β (L y) w
section
variable {P : Program} {ro : Option Nat} {β : Bs} {N : Nat} {ds : List Deferred} {env : Env} {L : List Res} {Q : Exit → Act → World → Prop}
/-- The marks of some ranges, and what they hold. -/

theorem VC.label {l : Nat} (h : VE β N ds env L .normal Q) : VC P ro β N ds env L (.label l) Q := fun a w ha hw => wpIn_label (h a w ha hw)
end
end Go.SL

namespace Go.SL
set_option linter.unusedVariables false
open Go.RowKit
section
variable {P : Program}
theorem findNow_str {n : ByteArray} : ∀ {es : List MapEntry} (i : Nat), (∀ e, e ∈ es → ∃ m, e.key = .string m) →
    (∃ j e, Instr.findNow .string (.string n) es i = some (some (j, e.val)) ∧ i ≤ j ∧ es[j - i]? = some e ∧ e.key = .string n) ∨ (Instr.findNow .string (.string n) es i = some none ∧ ∀ e, e ∈ es → e.key ≠ .string n)
  | [], i,_ => .inr ⟨rfl, by simp⟩
  | e :: es, i, h => by
    obtain ⟨m, hm⟩ := h e (by simp)
    simp only [Instr.findNow, hm, Instr.sameNow, if_true]
    by_cases q : n = m
    · subst q
      left
      rw [ba_refl]
      exact ⟨i, e, rfl, Nat.le_refl _, by simp, hm⟩
    · have : (n == m) = false := ba_ne q
      rw [this]
      rcases findNow_str (n := n) (es := es) (i + 1) (fun e' he => h e' (by simp [he])) with ⟨j, e', h1, h2, h3, h4⟩ | ⟨h1, h2⟩
      · left
        refine ⟨j, e', h1, by omega, ?_, h4⟩
        rw [show j - i = (j - (i + 1)) + 1 by omega]
        simpa using h3
      · right
        refine ⟨h1, ?_⟩
        intro e' he
        rcases List.mem_cons.1 he with rfl | he
        · rw [hm]; exact fun e => q (strV_inj e).symm
        · exact h2 e' he
variable {γ : Type} {nm : γ → ByteArray}
theorem key_nm {K : TypeId} (hK : P.underlying K = some .string) (hi : ∀ {a b : γ}, nm a = nm b → a = b) : KeyE P K (fun r : γ => Value.string (nm r)) where
  inj := fun h => hi (strV_inj h)
  chk := fun e n a w => checkKey_str hK e (n + 1) _ w
  find := fun n es w h => by
    simp only [Instr.findKey, Sem.run_bind, run_underlying hK, Result.andThen_ok]
    rcases findNow_str (n := nm n) (es := es) 0 (fun e he => by obtain ⟨m, hm⟩ := h e he; exact ⟨_, hm⟩) with ⟨j, e, h1, h2, h3, h4⟩ | ⟨h1, h2⟩
    · rw [h1]; exact .inl ⟨j, e, rfl, by simpa using h3, h4⟩
    · rw [h1]; exact .inr ⟨rfl, h2⟩
  bits := fun a => by simp [Instr.sameBits, ba_refl]
theorem cell1_nm [DecidableEq γ] {T : TypeId} (hT : P.underlying T = some .string) (h1 : IsOne P T) (hi : ∀ {a b : γ}, nm a = nm b → a = b) : Cell1 P T (fun r : γ => Value.string (nm r)) where
  inj := fun h => hi (strV_inj h)
  chk := fun e n a w => checkKey_str hT e n _ w
  eql := fun d a b w => by
    simp only [Op.equalIn, Sem.run_bind, run_underlying hT, Result.andThen_ok, Sem.run_pure]
    by_cases q : a = b
    · subst q; simp [ba_refl]
    · have : nm a ≠ nm b := fun z => q (hi z)
      simp [q, ba_ne this]
  one := h1
  bits := fun n a => by cases n <;> simp [Instr.sameBits, ba_refl]
def IsS3 (P : Program) (K T0 T1 T2 : TypeId) : Prop := ∃ F0 F1 F2 : Field, P.underlying K = some (.struct #[F0, F1, F2]) ∧ (F0.name ≠ "_" ∧ F1.name ≠ "_" ∧ F2.name ≠ "_") ∧ (F0.offset = 0 ∧ F1.offset = 1 ∧ F2.offset = 2) ∧ (F0.type = T0 ∧ F1.type = T1 ∧ F2.type = T2) ∧ P.stoodInHeld K = false
variable {γ0 γ1 γ2 : Type} [DecidableEq γ0] [DecidableEq γ1] [DecidableEq γ2] {c0 : γ0 → Value} {c1 : γ1 → Value} {c2 : γ2 → Value} {K T0 T1 T2 : TypeId}
abbrev triV (c0 : γ0 → Value) (c1 : γ1 → Value) (c2 : γ2 → Value) (x : γ0 × γ1 × γ2) : Value := .agg #[c0 x.1, c1 x.2.1, c2 x.2.2]
theorem triV_inj (h0 : Cell1 P T0 c0) (h1 : Cell1 P T1 c1) (h2 : Cell1 P T2 c2) {a b : γ0 × γ1 × γ2} (h : triV c0 c1 c2 a = triV c0 c1 c2 b) : a = b := by
  have e := Array.toList_inj.2 (Value.agg.inj h)
  simp at e
  exact Prod.ext (h0.inj e.1) (Prod.ext (h1.inj e.2.1) (h2.inj e.2.2))
theorem triV_eq (h0 : Cell1 P T0 c0) (h1 : Cell1 P T1 c1) (h2 : Cell1 P T2 c2) (hK : IsS3 P K T0 T1 T2) (x y : γ0 × γ1 × γ2) (d : Nat) (w : World) : (Op.equalIn (d + 2) K (triV c0 c1 c2 x) (triV c0 c1 c2 y)).run P w = .ok (decide (x = y)) w := by
  obtain ⟨F0, F1, F2, hu, ⟨n0, n1, n2⟩, ⟨o0, o1, o2⟩, ⟨t0, t1, t2⟩, hs⟩ := hK
  have hfs : P.fieldsOf K = #[F0, F1, F2] := by simp [Program.fieldsOf, hu]
  rw [triV, triV, run_equalIn_struct w (d + 1) K _ _ (by rw [hfs]; exact hu) hs, hfs]
  simp only [Op.eqFields, n0, n1, n2, ne_eq, not_false_eq_true, if_true, Sem.run_bind, o0, o1, o2, t0, t1, t2]
  rw [part_one h0.one (v := c0 x.1) rfl, Result.andThen_ok, part_one h0.one (v := c0 y.1) rfl, Result.andThen_ok, h0.eql, Result.andThen_ok]
  obtain ⟨x0, x1, x2⟩ := x
  obtain ⟨y0, y1, y2⟩ := y
  by_cases e0 : x0 = y0
  · subst e0
    simp only [decide_true, Bool.not_true, Bool.false_eq_true, if_false, Sem.run_bind]
    rw [part_one h1.one (v := c1 x1) rfl, Result.andThen_ok, part_one h1.one (v := c1 y1) rfl, Result.andThen_ok, h1.eql, Result.andThen_ok]
    by_cases e1 : x1 = y1
    · subst e1
      simp only [decide_true, Bool.not_true, Bool.false_eq_true, if_false, Sem.run_bind]
      rw [part_one h2.one (v := c2 x2) rfl, Result.andThen_ok, part_one h2.one (v := c2 y2) rfl, Result.andThen_ok, h2.eql, Result.andThen_ok]
      by_cases e2 : x2 = y2
      · subst e2; simp
      · simp [e2]
    · simp [e1]
  · simp [e0]
theorem key_tri (h0 : Cell1 P T0 c0) (h1 : Cell1 P T1 c1) (h2 : Cell1 P T2 c2) (hK : IsS3 P K T0 T1 T2) : KeyE P K (triV c0 c1 c2) where
  inj := triV_inj h0 h1 h2
  chk := fun e n x w => by
    obtain ⟨F0, F1, F2, hu, ⟨n0, n1, n2⟩, ⟨o0, o1, o2⟩, ⟨t0, t1, t2⟩, hs⟩ := hK
    unfold Instr.checkKey
    simp only [Sem.run_bind, run_underlying hu, Result.andThen_ok]
    rw [← Array.forIn_toList]
    simp only [List.forIn_cons, List.forIn_nil, n0, n1, n2, ne_eq, not_false_eq_true, if_true, Sem.run_bind, o0, o1, o2, t0, t1, t2]
    rw [part_one h0.one (v := c0 x.1) rfl, Result.andThen_ok, h0.chk]
    simp only [Result.andThen_ok, Sem.run_pure, Sem.run_bind]
    rw [part_one h1.one (v := c1 x.2.1) rfl, Result.andThen_ok, h1.chk]
    simp only [Result.andThen_ok, Sem.run_pure, Sem.run_bind]
    rw [part_one h2.one (v := c2 x.2.2) rfl, Result.andThen_ok, h2.chk]
    rfl
  find := fun n es w h => by
    have heq : ∀ (a b : γ0 × γ1 × γ2) (w : World), (Op.equal K (triV c0 c1 c2 a) (triV c0 c1 c2 b)).run P w = .ok (decide (a = b)) w := fun a b w => triV_eq h0 h1 h2 hK a b 9998 w
    have hin : ∀ {a b : γ0 × γ1 × γ2}, triV c0 c1 c2 a = triV c0 c1 c2 b → a = b := triV_inj h0 h1 h2
    obtain ⟨F0, F1, F2, hu,_⟩ := hK
    simp only [Instr.findKey, Sem.run_bind, run_underlying hu, Result.andThen_ok, findNow_struct]
    by_cases q : es = []
    · subst q; exact .inr ⟨rfl, by simp⟩
    · rw [if_neg q]
      rcases findAsking_run hin heq n w es 0 h with ⟨j, e, h1, h2, h3, h4⟩ | ⟨h1, h2⟩
      · exact .inl ⟨j, e, h1, by simpa using h3, h4⟩
      · exact .inr ⟨h1, h2⟩
  bits := fun x => by simp [Instr.sameBits, h0.bits, h1.bits, h2.bits]
variable {β : Bs} {env : Env} {L : List Res} {d : Option Nat} {ty : TypeId} {pos : String} {aft : Array Edge} {g : Option (Nat × Bool)}
theorem LO.eqT {x y : Operand} {yT : Nat} {a b : γ0 × γ1 × γ2} (h0 : Cell1 P T0 c0) (h1 : Cell1 P T1 c1) (h2 : Cell1 P T2 c2) (hK : IsS3 P K T0 T1 T2) (hG : P.eqGuardType P.depth K = false) (hx : OV env x (triV c0 c1 c2 a)) (hy : OV env y (triV c0 c1 c2 b)) : LO P β env L ⟨d, .binOp .eql K x y yT, ty, pos, aft, g⟩ (.bool (decide (a = b))) :=
  .of_run fun ac w h hw => ⟨w, by
    have h3 := triV_eq h0 h1 h2 hK a b 9998 w
    simp only [execOp, h x (by simp [Op.operands]) _ hx, h y (by simp [Op.operands]) _ hy, Sem.run_bind, run_eqGuard_agg w .eql K x y _ _ hG, Result.andThen_ok, run_eql_struct, h3, Sem.run_pure], hw⟩
end
end Go.SL

namespace Go.SL
set_option linter.unusedVariables false
open Go.RowKit
section
variable {P : Program} {ro : Option Nat} {β : Bs} {N : Nat} {ds : List Deferred} {env : Env} {L : List Res} {Q : Exit → Act → World → Prop}
/-- A range over a function, inside whatever. 'I n': behind n rounds. -/
theorem VC.rangeFuncLo {α γ : Type} {gop : Operand} {ps : Array Tmp} {asg body : Code} {gf : FuncId} {lb : List Value} {Cap : World → Prop} {Nx : List (List Value) → List Value → Prop} {En : List (List Value) → Prop} (F : α → List Res) (I : List (List Value) → α → Prop) (Ix : Code → List (List Value) → α → Prop) (x0 : α) (A : List Value → γ → List Res) (envb : List Value → γ → Env)
    (hg : ev env gop = some (.func (.func gf) #[] lb.toArray)) (hf : IsFn P gf) (hseq : SeqG P gf lb Cap Nx En) (hF0 : ∀ w, St β L w → St β (F x0) w) (h0 : I [] x0)
    (hps : ∀ n vs, Nx n vs → vs.length = ps.size) (hpN : ps.toList.all (fun t => Nat.blt t N) = true)
    (hCap : ∀ n x w, I n x → (∀ (i : Nat) (r : Res), (F x)[i]? = some r → r.inv w) → (∀ k, k < β.w.heap.size → ¬ β.O k → w.heap[k]? = β.w.heap[k]?) → Cap w)
    (hasg : ∀ (n : List (List Value)) (x : α) (vs : List Value) l T w1, I n x → Nx n vs → St β (F x ++ T) w1 → VC P (some l) ⟨w1, fpL (F x ++ T)⟩ N [] (penv ps vs ++ env) (F x ++ T) asg (APy ⟨w1, fpL (F x ++ T)⟩ N (envb vs) (fun y => A vs y ++ (F x ++ T))))
    (hbody : ∀ (n : List (List Value)) (x : α) (vs : List Value) (y : γ) l T w1, I n x → Nx n vs → St β (A vs y ++ (F x ++ T)) w1 → VC P (some l) ⟨w1, fpL (A vs y ++ (F x ++ T))⟩ N [] (envb vs y) (A vs y ++ (F x ++ T)) body (RB ⟨w1, fpL (A vs y ++ (F x ++ T))⟩ F T (I (n ++ [vs])) (fun c => Ix c (n ++ [vs]))))
    (hdone : ∀ D n x, En n → I n x → VE β N (mark D :: ds) env (F x ++ [dR D]) .normal Q)
    (hstop : ∀ D c n x, Ix c n x → VC P none β N (mark D :: ds) env (F x ++ [dR D]) c Q) :
    VC P none β N ds env L (.rangeFunc gop ps asg body) Q := by
  intro a w ha hw
  have hw0 := hF0 w hw
  refine wpIn_rangeFunc fun fn _ => ?_
  obtain ⟨rec, hrec⟩ : ∃ rec : LoopState → Option Code → Loop, rec = fun st pe => { state := st, pending := pe, fn, tmps := a.tmps, params := ps, assign := asg, body, defers := w.heap.size } := ⟨_, rfl⟩
  obtain ⟨D, hD⟩ : ∃ D, D = w.heap.size := ⟨_, rfl⟩
  obtain ⟨l, hl⟩ : ∃ l, l = w.heap.size + 1 := ⟨_, rfl⟩
  obtain ⟨W1, hW1⟩ : ∃ W1, (w.alloc (.deferred (some []))).alloc (.loop (rec .ready none)) = W1 := ⟨_, rfl⟩
  obtain ⟨T, hT⟩ : ∃ T : LoopState → Option Code → List Res, T = fun st pe => [blk l (.loop (rec st pe)), dR D] := ⟨_, rfl⟩
  have hTget : ∀ x st pe, (F x ++ T st pe)[(F x).length]? = some (blk l (.loop (rec st pe))) := by intro x st pe; simp [hT]
  have hTset : ∀ x st pe st' pe', (F x ++ T st pe).set (F x).length (blk l (.loop (rec st' pe'))) = F x ++ T st' pe' := by intro x st pe st' pe'; simp [hT]
  have hst1 : St β (F x0 ++ T .ready none) W1 := by
    have h1 := (hw0.alloc (.deferred (some []))).alloc (.loop (rec .ready none))
    rw [hW1, World.size_alloc] at h1
    refine h1.map (fun j => if j < (F x0).length then j + 2 else if j = (F x0).length then 0 else 1) ?_ ?_
    · intro a b hab ha hb
      simp [hT] at ha hb
      split <;> split <;> (try split) <;> (try split) <;> omega
    · intro j r hr
      right
      rw [List.getElem?_append] at hr
      by_cases q : j < (F x0).length
      · simp only [q, if_true] at hr ⊢
        simpa using hr
      · simp only [q, if_false] at hr ⊢
        by_cases e : j = (F x0).length
        · subst e; simp [hT] at hr; subst hr; simp [hl]
        · have : j = (F x0).length + 1 := by
            rcases Nat.lt_or_ge (j - (F x0).length) 2 with s | s
            · omega
            · simp only [hT] at hr; rw [List.getElem?_eq_none (by simpa using s)] at hr; cases hr
          subst this
          simp [hT] at hr; subst hr; simp [dR, hD]
  -- from the record's states to the world
  have endx : ∀ x st pe w', St β (F x ++ T st pe) w' → st ≠ .busy → ∃ w4, (Instr.endLoop l).run P w' = .ok pe w4 ∧ St β (F x ++ [dR D]) w4 := by
    intro x st pe w' hs hne
    have hrl : w'.heap[l]? = some (.loop (rec st pe)) := hs.inv _ _ (hTget x st pe)
    refine ⟨w'.putObj l (.loop { rec st pe with state := .exhausted }), ?_, ?_⟩
    · have := run_endLoop (P := P) hrl (by rw [hrec]; exact hne)
      rw [this]; congr 1; rw [hrec]
    · have h2 := hs.obj (o' := .loop { rec st pe with state := .exhausted }) _ (hTget x st pe)
      refine h2.map (fun j => if j < (F x).length then j else j + 1) ?_ ?_
      · intro a b hab ha hb
        split <;> split <;> omega
      · intro j r hr
        right
        rw [List.getElem?_append] at hr
        by_cases q : j < (F x).length
        · simp only [q, if_true] at hr ⊢
          rw [List.getElem?_set_ne (by omega), List.getElem?_append_left q]; exact hr
        · simp only [q, if_false] at hr ⊢
          have : j = (F x).length := by
            rcases Nat.lt_or_ge (j - (F x).length) 1 with s | s
            · omega
            · rw [List.getElem?_eq_none (by simpa using s)] at hr; cases hr
          subst this
          simp at hr; subst hr
          rw [List.getElem?_set_ne (by omega), List.getElem?_append_right (by omega)]
          simp [hT]
  refine ⟨l, [mark D], W1, { target := .fn (.func gf) lb.toArray, args := #[yv l] }, W1, gf, (yv l :: lb).toArray, W1, ?_, ?_, ?_, ?_, fun h => by simp [Wf, Fence.wide] at h, ?_⟩
  · rw [← hW1, hrec, hl, hD]; exact run_enterLoop_outer _ _ _ _ _
  · have e : a.eval gop = .func (.func gf) #[] lb.toArray := ha.eval hg
    simp only [resolve, e]
    simp [Deferred.ofValue, yv, Act.eval]
  · intro f' _; exact True.intro
  · simp [invoke, run_call hf]
  · refine callsIn_wf.2 ((hseq l (fun n r => ∃ x, I n x ∧ r = big β (F x ++ T .ready none) ∧ Fits β (F x ++ T .ready none)) (fun n r => ∃ c x, Ix c n x ∧ r = big β (F x ++ T .done (some c)) ∧ Fits β (F x ++ T .done (some c)))
      W1 (big β (F x0 ++ T .ready none)) ?_ ?_ ⟨x0, h0, rfl, hst1.fits⟩ ⟨hst1.inv, hst1.fr⟩ ?_).mono ?_)
    · rintro n r w' ⟨x, hI, rfl,_⟩ hinv
      exact hCap n x w' hI (fun i r hr => hinv.1 i r (by
        rw [List.getElem?_append_left]
        · exact hr
        · rcases Nat.lt_or_ge i (F x).length with q | q
          · exact q
          · simp [List.getElem?_eq_none q] at hr)) hinv.2
    · -- one round
      rintro n vs hvs r w1 ⟨x, hI, rfl, hfit⟩ hinv hb hos
      have hs1 : St β (F x ++ T .ready none) w1 := St.of_big (w1 := w1) (O := β.O) hfit ⟨hos.1.trans hst1.os, hos.2.1.trans hst1.tape, hos.2.2.1.trans hst1.output, Nat.le_trans hst1.size hos.2.2.2⟩ hinv hb
      have hrl : w1.heap[l]? = some (.loop (rec .ready none)) := hs1.inv _ _ (hTget x .ready none)
      have hlen : vs.toArray.size = ps.size := by simpa using hps n vs hvs
      have hy := run_yield (P := P) (args := vs.toArray) hrl (by rw [hrec]; exact hlen)
      refine ⟨_,_,_,_, hy, ?_⟩
      refine roundIn_of_wpIn (F := Fence.wide) (n := 0) True.intro ?_
      have hA : Ag N [] (penv ps vs ++ env) { tmps := (ps.zip vs.toArray).foldl (fun t (p, v) => t.setIfInBounds p v) a.tmps, defers := [] } := by
        have h1 := ag_zip (N := N) (ds := []) (ps.toList.zip vs) env { tmps := a.tmps, defers := [] } (fun z hz => by
          have hm : z.1 ∈ ps.toList := (List.of_mem_zip (a := z.1) (b := z.2) hz).1
          exact Nat.le_of_ble_eq_true (List.all_eq_true.1 hpN z.1 hm)) ⟨ha.size, rfl, ha.get⟩
        have e : (ps.zip vs.toArray).foldl (fun t (p, v) => t.setIfInBounds p v) a.tmps = (ps.toList.zip vs).foldl (fun t (p, v) => t.setIfInBounds p v) a.tmps := by
          rw [← Array.foldl_toList, Array.toList_zip]
        rw [e]; exact h1
      have ha1 := hasg n x vs l (T .ready none) w1 hI hvs hs1 _ w1 hA hs1.rebase
      rw [hrec]
      refine Code.wpIn_mono ?_ ha1
      rintro e a2 w2 ⟨rfl, y, hag, hs2⟩
      have hs2' := hs1.back hs2
      have hAget : ∀ st pe, (A vs y ++ (F x ++ T st pe))[(A vs y).length + (F x).length]? = some (blk l (.loop (rec st pe))) := by intro st pe; simp [hT]
      have hAset : ∀ st pe st' pe', (A vs y ++ (F x ++ T st pe)).set ((A vs y).length + (F x).length) (blk l (.loop (rec st' pe'))) = A vs y ++ (F x ++ T st' pe') := by intro st pe st' pe'; simp [hT]
      have hrl2 : w2.heap[l]? = some (.loop (rec .ready none)) := hs2.inv _ _ (hAget .ready none)
      refine ⟨w2.putObj l (.loop { rec .ready none with state := .busy }), run_beginRound hrl2 (by rw [hrec]), ?_⟩
      have eb : ({ rec .ready none with state := .busy } : Loop) = rec .busy none := by rw [hrec]
      rw [eb]
      have hs3 := hs2'.obj (o' := .loop (rec .busy none)) _ (hAget .ready none)
      rw [hAset] at hs3
      have hs3' := hs2.obj (o' := .loop (rec .busy none)) _ (hAget .ready none)
      rw [hAset] at hs3'
      have hb1 := hbody n x vs y l (T .busy none) _ hI hvs hs3 _ _ hag hs3.rebase
      refine Code.wpIn_mono ?_ hb1
      intro e a3 w3 hq
      have fin : ∀ y0 (jump : Option Code), St ⟨w2.putObj l (.loop (rec .busy none)), fpL (A vs y ++ (F x ++ T .busy none))⟩ (F y0 ++ T .busy none) w3 →
          ∃ w4, (Instr.endRound l jump).run P w3 = .ok (.bool jump.isNone) w4 ∧ St ⟨w1, (big β (F x ++ T .ready none)).fp⟩ [big β (F y0 ++ T (if jump.isNone then .ready else .done) jump)] w4 ∧ Fits β (F y0 ++ T (if jump.isNone then .ready else .done) jump) := by
        intro y0 jump hsy
        have h4 := hs3'.back hsy
        have hrl3 : w3.heap[l]? = some (.loop (rec .busy none)) := h4.inv _ _ (hTget y0 .busy none)
        refine ⟨_, run_endRound jump hrl3, ?_⟩
        have er : ({ rec .busy none with state := if jump.isNone then .ready else .done, pending := jump } : Loop) = rec (if jump.isNone then .ready else .done) jump := by rw [hrec]
        rw [er]
        have h5 := h4.obj (o' := .loop (rec (if jump.isNone then .ready else .done) jump)) _ (hTget y0 .busy none)
        rw [hTset] at h5
        exact ⟨St.to_big hs1 h5, (hs1.back h5).fits⟩
      cases e with
      | normal =>
        obtain ⟨z, hy1, hy2⟩ := hq
        obtain ⟨w4, h1, h2, h3⟩ := fin z none hy2
        exact ⟨_, w4, h1, true,_, rfl, ⟨z, hy1, rfl, h3⟩, h2⟩
      | ret =>
        obtain ⟨z, hy1, hy2⟩ := hq
        obtain ⟨w4, h1, h2, h3⟩ := fin z (some .ret) hy2
        exact ⟨_, w4, h1, false,_, rfl, ⟨_, z, hy1, rfl, h3⟩, h2⟩
      | exit id =>
        obtain ⟨z, hy1, hy2⟩ := hq
        obtain ⟨w4, h1, h2, h3⟩ := fin z (some (.exit id)) hy2
        exact ⟨_, w4, h1, false,_, rfl, ⟨_, z, hy1, rfl, h3⟩, h2⟩
      | goto t => exact hq.elim
      | panic ch => exact hq.elim
      | outgrown => exact hq.elim
    · intro k hk
      rcases hk with ⟨i, r, hr, hk⟩ | ⟨hk,_⟩
      · exact (hst1.rng i r hr k hk).2
      · exact Nat.lt_of_lt_of_le hk hst1.size
    · rintro e w' ⟨rfl, n, r', hJ, hs⟩
      have toSt : ∀ L2, r' = big β L2 → Fits β L2 → St β L2 w' := by
        rintro L2 rfl hfit
        have hb := hs.rng 0 _ rfl
        exact St.of_big (w1 := w') (O := β.O) hfit ⟨hs.os.trans hst1.os, hs.tape.trans hst1.tape, hs.output.trans hst1.output, Nat.le_trans hst1.size hs.size⟩ (hs.inv 0 _ rfl) (fun k hk => (hb k hk).2)
      have hag : Ag N (mark D :: ds) env { a with defers := [mark D] ++ a.defers } := ⟨ha.size, by simp [ha.dfr], ha.get⟩
      rcases hJ with ⟨hE, x, hI, hr, hfit⟩ | ⟨c, x, hI, hr, hfit⟩
      · obtain ⟨w4, h1, h2⟩ := endx x .ready none w' (toSt _ hr hfit) (by simp)
        exact ⟨none, w4, h1, hdone D n x hE hI _ _ hag h2⟩
      · obtain ⟨w4, h1, h2⟩ := endx x .done (some c) w' (toSt _ hr hfit) (by simp)
        exact ⟨some c, w4, h1, hstop D c n x hI _ _ hag h2⟩


/-- The marks of some ranges, and what they hold. -/

theorem VC.rangeFuncMo {α γ : Type} {gop : Operand} {ps : Array Tmp} {asg body : Code} {gf : FuncId} {lb : List Value} {Cap : World → Prop} {Nx : List (List Value) → List Value → Prop} {En : List (List Value) → Prop} {Ds : List Nat} (F : α → List Res) (I : List (List Value) → α → Prop) (Ix : Code → List (List Value) → α → Prop) (x0 : α) (A : List Value → γ → List Res) (envb : List Value → γ → Env)
    (hg : ev env gop = some (.func (.func gf) #[] lb.toArray)) (hf : IsFn P gf) (hseq : SeqG P gf lb Cap Nx En) (hF0 : ∀ w, St β L w → St β (F x0 ++ [Db Ds]) w) (h0 : I [] x0)
    (hps : ∀ n vs, Nx n vs → vs.length = ps.size) (hpN : ps.toList.all (fun t => Nat.blt t N) = true)
    (hCap : ∀ n x w, I n x → (∀ (i : Nat) (r : Res), (F x)[i]? = some r → r.inv w) → (∀ k, k < β.w.heap.size → ¬ β.O k → w.heap[k]? = β.w.heap[k]?) → Cap w)
    (hasg : ∀ (n : List (List Value)) (x : α) (vs : List Value) l T w1, I n x → Nx n vs → St β (F x ++ T) w1 → VC P (some l) ⟨w1, fpL (F x ++ T)⟩ N [] (penv ps vs ++ env) (F x ++ T) asg (APy ⟨w1, fpL (F x ++ T)⟩ N (envb vs) (fun y => A vs y ++ (F x ++ T))))
    (hbody : ∀ (n : List (List Value)) (x : α) (vs : List Value) (y : γ) l T w1, I n x → Nx n vs → St β (A vs y ++ (F x ++ T)) w1 → VC P (some l) ⟨w1, fpL (A vs y ++ (F x ++ T))⟩ N [] (envb vs y) (A vs y ++ (F x ++ T)) body (RB ⟨w1, fpL (A vs y ++ (F x ++ T))⟩ F T (I (n ++ [vs])) (fun c => Ix c (n ++ [vs]))))
    (hdone : ∀ D n x, En n → I n x → VE β N (Dm (D :: Ds)) env (F x ++ [Db (D :: Ds)]) .normal Q)
    (hstop : ∀ D c n x, Ix c n x → VC P none β N (Dm (D :: Ds)) env (F x ++ [Db (D :: Ds)]) c Q) :
    VC P none β N (Dm Ds) env L (.rangeFunc gop ps asg body) Q := by
  have as1 : ∀ (x : α) (T : List Res), (F x ++ [Db Ds]) ++ T = F x ++ ([Db Ds] ++ T) := fun x T => List.append_assoc _ _ _
  refine VC.rangeFuncLo (fun x => F x ++ [Db Ds]) I Ix x0 A envb hg hf hseq hF0 h0 hps hpN (fun n x w h1 h2 h3 => hCap n x w h1 (fun i r hr => h2 i r (by
      rw [List.getElem?_append_left (List.getElem?_eq_some_iff.1 hr).1]; exact hr)) h3) ?_ ?_ (fun D n x hE hI => ?_) (fun D c n x hI => ?_)
  · intro n x vs l T w1 h1 h2 h3
    rw [as1] at h3 ⊢
    exact hasg n x vs l _ w1 h1 h2 h3
  · intro n x vs y l T w1 h1 h2 h3
    rw [as1] at h3 ⊢
    refine fun a w ha hw => Code.wpIn_mono ?_ (hbody n x vs y l _ w1 h1 h2 h3 a w ha hw)
    intro e a w q
    cases e with
    | normal => obtain ⟨y, q1, q2⟩ := q; exact ⟨y, q1, by rw [as1]; exact q2⟩
    | ret => obtain ⟨y, q1, q2⟩ := q; exact ⟨y, q1, by rw [as1]; exact q2⟩
    | exit id => obtain ⟨y, q1, q2⟩ := q; exact ⟨y, q1, by rw [as1]; exact q2⟩
    | _ => exact q
  · intro a w ha hw
    exact hdone D n x hE hI a w ha (St.dbAdd hw)
  · intro a w ha hw
    exact hstop D c n x hI a w ha (St.dbAdd hw)


/-- A range over a function inside a loop, whose round's assignment may lay blocks. -/
theorem VC.rangeFuncNo {α γ : Type} {gop : Operand} {ps : Array Tmp} {asg body : Code} {gf : FuncId} {lb : List Value} {Cap : World → Prop} {Nx : List (List Value) → List Value → Prop} {En : List (List Value) → Prop} {Ds : List Nat} (R : List Res) (F : α → List Res) (I : List (List Value) → α → Prop) (Ix : Code → List (List Value) → α → Prop) (x0 : α) (A : List Value → γ → List Res) (envb : List Value → γ → Env)
    (hg : ev env gop = some (.func (.func gf) #[] lb.toArray)) (hf : IsFn P gf) (hseq : SeqG P gf lb Cap Nx En) (hF0 : ∀ w, St β L w → St β ((F x0 ++ R) ++ [Db Ds]) w) (h0 : I [] x0)
    (hps : ∀ n vs, Nx n vs → vs.length = ps.size) (hpN : ps.toList.all (fun t => Nat.blt t N) = true)
    (hCap : ∀ n x w, I n x → (∀ (i : Nat) (r : Res), (F x ++ R)[i]? = some r → r.inv w) → (∀ k, k < β.w.heap.size → ¬ β.O k → w.heap[k]? = β.w.heap[k]?) → Cap w)
    (hasg : ∀ (n : List (List Value)) (x : α) (vs : List Value) l T w1, I n x → Nx n vs → St β ((F x ++ R) ++ T) w1 → VC P (some l) ⟨w1, fpL ((F x ++ R) ++ T)⟩ N [] (penv ps vs ++ env) ((F x ++ R) ++ T) asg (APy ⟨w1, fpL ((F x ++ R) ++ T)⟩ N (envb vs) (fun y => A vs y ++ ((F x ++ R) ++ T))))
    (hbody : ∀ (n : List (List Value)) (x : α) (vs : List Value) (y : γ) l T w1, I n x → Nx n vs → St β (A vs y ++ ((F x ++ R) ++ T)) w1 → VC P (some l) ⟨w1, fpL (A vs y ++ ((F x ++ R) ++ T))⟩ N [] (envb vs y) (A vs y ++ ((F x ++ R) ++ T)) body (RB ⟨w1, fpL (A vs y ++ ((F x ++ R) ++ T))⟩ (fun x => F x ++ R) T (I (n ++ [vs])) (fun c => Ix c (n ++ [vs]))))
    (hdone : ∀ D n x, En n → I n x → VE β N (Dm (D :: Ds)) env ((F x ++ R) ++ [Db (D :: Ds)]) .normal Q)
    (hstop : ∀ D c n x, Ix c n x → VC P none β N (Dm (D :: Ds)) env ((F x ++ R) ++ [Db (D :: Ds)]) c Q) :
    VC P none β N (Dm Ds) env L (.rangeFunc gop ps asg body) Q :=
  VC.rangeFuncMo (fun x => F x ++ R) I Ix x0 A envb hg hf hseq hF0 h0 hps hpN hCap hasg hbody hdone hstop

end
/-! ### The keys of a map, one behind the other -/
section
variable {α δ : Type} {kE : α → Value} {vE : δ → Value} {M : α → Option δ} {es : Array MapEntry} {ck : Nat}
/-- What the keys of a map have come to so far. -/
structure SeenK (kE : α → Value) (es : List MapEntry) (seen : Array Nat) (ks : List α) : Prop where
  m : ∀ k, k ∈ ks ↔ ∃ e, e ∈ es ∧ e.key = kE k ∧ e.born ∈ seen
  n : ks.Nodup
theorem SeenK.zero : SeenK kE es.toList #[] [] := ⟨fun k => ⟨fun h => (by cases h), fun ⟨e,_,_, h⟩ => (by simp at h)⟩, List.nodup_nil⟩
theorem SeenK.next (hi : ∀ {a b : α}, kE a = kE b → a = b) (hM : MapG kE vE es.toList M) (hS : Stamps es.toList ck) {seen : Array Nat} {ks : List α} (h : SeenK kE es.toList seen ks) {e : MapEntry} (he : e ∈ (leftOf es seen).toList) :
    ∃ k, e.key = kE k ∧ k ∉ ks ∧ (M k).isSome = true ∧ SeenK kE es.toList (seen.push e.born) (ks ++ [k]) := by
  obtain ⟨he1, he2⟩ := left_mem.1 he
  obtain ⟨k, v, h1, h2, h3⟩ := hM.ent e he1
  have key : ∀ e2, e2 ∈ es.toList → e2.key = kE k → e2 = e := fun e2 q1 q2 => by
    refine Classical.byContradiction fun z => ?_
    have hp := hM.nod
    obtain ⟨i, hi1, hi2⟩ := List.getElem_of_mem he1
    obtain ⟨j, hj1, hj2⟩ := List.getElem_of_mem q1
    rw [List.pairwise_iff_getElem] at hp
    rcases Nat.lt_trichotomy i j with q | q | q
    · exact hp i j hi1 hj1 q (by rw [hi2, hj2, h1, q2])
    · subst q; exact z (hj2.symm.trans hi2)
    · exact hp j i hj1 hi1 q (by rw [hi2, hj2, h1, q2])
  have hk : k ∉ ks := fun q => by
    obtain ⟨e2, q1, q2, q3⟩ := (h.m k).1 q
    rw [key e2 q1 q2] at q3
    exact he2 q3
  refine ⟨k, h1, hk, by rw [h3]; rfl, fun m => ?_, ?_⟩
  · rw [List.mem_append, List.mem_singleton]
    constructor
    · rintro (q | q)
      · obtain ⟨e2, q1, q2, q3⟩ := (h.m m).1 q
        exact ⟨e2, q1, q2, by simp [q3]⟩
      · subst q; exact ⟨e, he1, h1, by simp⟩
    · rintro ⟨e2, q1, q2, q3⟩
      rcases Array.mem_push.1 q3 with q | q
      · exact .inl ((h.m m).2 ⟨e2, q1, q2, q⟩)
      · have hb := hS.1
        rw [List.Nodup, List.pairwise_map, List.pairwise_iff_getElem] at hb
        have : e2 = e := by
          refine Classical.byContradiction fun z => ?_
          obtain ⟨i, hi1, hi2⟩ := List.getElem_of_mem he1
          obtain ⟨j, hj1, hj2⟩ := List.getElem_of_mem q1
          rcases Nat.lt_trichotomy i j with y | y | y
          · exact hb i j hi1 hj1 y (by rw [hi2, hj2, q])
          · subst y; exact z (hj2.symm.trans hi2)
          · exact hb j i hj1 hi1 y (by rw [hi2, hj2, q])
        subst this
        exact .inr (hi (q2.symm.trans h1))
  · rw [List.nodup_append]
    exact ⟨h.n, by simp, fun a ha b hb q => by rw [List.mem_singleton.1 hb] at q; exact hk (q ▸ ha)⟩
theorem SeenK.done (hM : MapG kE vE es.toList M) {seen : Array Nat} {ks : List α} (h : SeenK kE es.toList seen ks) (h0 : (leftOf es seen).size = 0) (hi : ∀ {a b : α}, kE a = kE b → a = b) : ∀ k, k ∈ ks ↔ (M k).isSome = true := fun k => by
  rw [h.m]
  constructor
  · rintro ⟨e, h1, h2,_⟩
    obtain ⟨v,_, q⟩ := mapG_get hi hM h1 h2
    rw [q]; rfl
  · intro q
    obtain ⟨v, hv⟩ := Option.isSome_iff_exists.1 q
    obtain ⟨e, h1, h2,_⟩ := hM.mem k v hv
    exact ⟨e, h1, h2, left_end h0 h1⟩
/-- One of a map's keys that has not come yet. -/
def NxK (kE : α → Value) (M : α → Option δ) (n : List (List Value)) (vs : List Value) : Prop := ∃ (ks : List α) (k : α), n = ks.map (fun k => [kE k]) ∧ vs = [kE k] ∧ (ks ++ [k]).Nodup ∧ ∀ m, m ∈ ks ++ [k] → (M m).isSome = true
def EnK (kE : α → Value) (M : α → Option δ) (n : List (List Value)) : Prop := ∃ ks : List α, n = ks.map (fun k => [kE k]) ∧ ks.Nodup ∧ ∀ m, m ∈ ks ↔ (M m).isSome = true
/-- The values of a list, one behind the other. -/
def NxL (kE : α → Value) (xs : List α) (n : List (List Value)) (vs : List Value) : Prop := ∃ (j : Nat) (k : α), xs[j]? = some k ∧ n = (xs.take j).map (fun k => [kE k]) ∧ vs = [kE k]
def EnL (kE : α → Value) (xs : List α) (n : List (List Value)) : Prop := n = xs.map (fun k => [kE k])
end
end Go.SL

namespace Go.SL
set_option linter.unusedVariables false
open Go.RowKit
section
variable {P : Program}
/-- A value equals itself. -/
def SelfE (P : Program) (T : TypeId) (d : Nat) (v : Value) : Prop := ∀ w, (Op.equalIn d T v v).run P w = .ok true w
theorem SelfE.one {γ : Type} [DecidableEq γ] {T : TypeId} {c : γ → Value} (h : Cell1 P T c) (a : γ) (d : Nat) : SelfE P T (d + 1) (c a) := fun w => by rw [h.eql]; simp
theorem SelfE.flat {T n d : Nat} {xs : List Int} (hT : Flat P T n) (ha : xs.length = n) (hd : 20 ≤ d) : SelfE P T d (.agg (xs.map intV).toArray) := fun w => by
  obtain ⟨⟨fs, hu⟩, hf, hg⟩ := hT
  have h1 := equalIn_flat (P := P) 20 hf («as» := xs) (bs := xs) ha ha d hd w
  simp only [valN, hu] at h1
  simpa using h1
theorem part_agg {T n o : Nat} (h : IsAgg P T n) {cs : Array Value} (w : World) : (part T cs o).run P w = .ok (.agg (cs.extract o (o + n))) w := by
  simp [part, run_isAgg h, run_size h.2]
theorem SelfE.struct {K : TypeId} {d : Nat} {fs : Array Field} {cs : Array Value} (hu : P.underlying K = some (.struct fs)) (hs : P.stoodInHeld K = false) (h : ∀ F, F ∈ fs.toList → ∃ v, (∀ w, (part F.type cs F.offset).run P w = .ok v w) ∧ SelfE P F.type d v) : SelfE P K (d + 1) (.agg cs) := fun w => by
  have hfs : P.fieldsOf K = fs := by simp [Program.fieldsOf, hu]
  rw [run_equalIn_struct w d K _ _ (by rw [hfs]; exact hu) hs, hfs]
  generalize fs.toList = l at h
  induction l with
  | nil => simp [Op.eqFields]
  | cons F l ih =>
    obtain ⟨v, h1, h2⟩ := h F List.mem_cons_self
    have hr := ih fun F hF => h F (List.mem_cons_of_mem _ hF)
    simp only [Op.eqFields, Sem.run_bind, Sem.run_ite]
    split
    · rw [h1, Result.andThen_ok, h1, Result.andThen_ok, h2 w, Result.andThen_ok]
      simpa using hr
    · exact hr
variable {β : Bs} {env : Env} {L : List Res} {d : Option Nat} {ty : TypeId} {pos : String} {aft : Array Edge} {g : Option (Nat × Bool)}
theorem LO.neSelf {K : TypeId} {x y : Operand} {yT : Nat} {cs : Array Value} (h3 : SelfE P K 10000 (.agg cs)) (hG : P.eqGuardType P.depth K = false) (hx : OV env x (.agg cs)) (hy : OV env y (.agg cs)) : LO P β env L ⟨d, .binOp .neq K x y yT, ty, pos, aft, g⟩ (.bool false) :=
  .of_run fun ac w h hw => ⟨w, by
    simp only [execOp, h x (by simp [Op.operands]) _ hx, h y (by simp [Op.operands]) _ hy, Sem.run_bind, run_eqGuard_agg w .neq K x y _ _ hG, Result.andThen_ok, run_neq_struct, h3 w, Sem.run_pure]; rfl, hw⟩
end
end Go.SL

namespace Go.Cast

structure Grid where
  x : Int
  y : Int
  size : Int
  wide : Int
  high : Int

def gridOk (g : Grid) : Prop := (-1048576 ≤ g.x ∧ g.x ≤ 1048576) ∧ (-1048576 ≤ g.y ∧ g.y ≤ 1048576) ∧ (1 ≤ g.size ∧ g.size ≤ 10000) ∧ (1 ≤ g.wide ∧ g.wide ≤ 64) ∧ (1 ≤ g.high ∧ g.high ≤ 64)
instance (g : Grid) : Decidable (gridOk g) := by unfold gridOk; exact inferInstance
def gridE (g : Grid) : Int := if gridOk g then 0 else 3
/-- The first that is not 0. -/
def firstE (f : Nat → Int) : Nat → Int
  | 0 => 0
  | n + 1 => if firstE f n ≠ 0 then firstE f n else f n
theorem firstE_zero {f : Nat → Int} : ∀ {n : Nat}, (∀ k, k < n → f k = 0) → firstE f n = 0
  | 0,_ => rfl
  | n + 1, h => by
    have := firstE_zero (f := f) (n := n) (fun k hk => h k (by omega))
    simp [firstE, this, h n (by omega)]
theorem firstE_at {f : Nat → Int} {i : Nat} (h : ∀ k, k < i → f k = 0) (hi : f i ≠ 0) : ∀ {n : Nat}, i < n → firstE f n = f i
  | 0, hn => by omega
  | n + 1, hn => by
    by_cases e : i = n
    · subst e; simp [firstE, firstE_zero h]
    · have := firstE_at h hi (n := n) (by omega)
      simp [firstE, this, hi]
theorem firstE_eq {f : Nat → Int} : ∀ {n : Nat}, firstE f n = 0 → ∀ k, k < n → f k = 0
  | 0,_, k, hk => by omega
  | n + 1, h, k, hk => by
    unfold firstE at h
    split at h
    · rename_i q; exact absurd h q
    · rename_i q
      simp only [ne_eq, Classical.not_not] at q
      by_cases e : k = n
      · subst e; exact h
      · exact firstE_eq q k (by omega)

theorem tdiv_bd (a b : Int) (hb : 0 < b) (h1 : -9223372036854775807 ≤ a) (h2 : a ≤ 9223372036854775807) : -9223372036854775807 ≤ a.tdiv b ∧ a.tdiv b ≤ 9223372036854775807 ∧ (a.tmod b < 0 → a / b = a.tdiv b - 1) ∧ (0 ≤ a.tmod b → a / b = a.tdiv b) ∧ -9223372036854775807 ≤ a / b := by
  have e := Int.mul_tdiv_add_tmod a b
  have f := Int.mul_ediv_add_emod a b
  have hm := Int.emod_nonneg a (by omega : b ≠ 0)
  have hm2 := Int.emod_lt_of_pos a hb
  rcases Int.le_total 0 a with h | h
  · have r1 := Int.tmod_nonneg b h
    have e1 : a.tdiv b = a / b := Int.tdiv_eq_ediv_of_nonneg h
    have d1 : 0 ≤ a / b := Int.ediv_nonneg h (by omega)
    have d2 : a / b ≤ a := Int.ediv_le_self b h
    refine ⟨by omega, by omega, fun q => by omega, fun _ => e1.symm, by omega⟩
  · have r1 : a.tdiv b = -((-a) / b) := by
      have := Int.neg_tdiv (a := -a) (b := b)
      rw [Int.neg_neg] at this
      rw [this, Int.tdiv_eq_ediv_of_nonneg (by omega)]
    have d1 : 0 ≤ (-a) / b := Int.ediv_nonneg (by omega) (by omega)
    have d2 : (-a) / b ≤ -a := Int.ediv_le_self b (by omega)
    have d3 := Int.mul_ediv_add_emod (-a) b
    have d4 := Int.emod_nonneg (-a) (by omega : b ≠ 0)
    have d5 := Int.emod_lt_of_pos (-a) hb
    have t1 : a.tmod b = a - b * a.tdiv b := by omega
    have key : b * a.tdiv b = -(b * ((-a) / b)) := by rw [r1, Int.mul_neg]
    refine ⟨by omega, by omega, fun q => ?_, fun q => ?_, ?_⟩
    · have h7 : 0 < (-a) % b := by omega
      have : a / b = -((-a) / b) - 1 := by
        have : a = b * (-((-a) / b) - 1) + (b - (-a) % b) := by rw [Int.mul_sub, Int.mul_neg]; omega
        have h8 := Int.ediv_emod_unique (a := a) (b := b) (r := b - (-a) % b) (q := -((-a) / b) - 1) hb
        exact (h8.2 ⟨by omega, by omega, by omega⟩).1
      omega
    · have h7 : (-a) % b = 0 := by omega
      have : a / b = -((-a) / b) := by
        have h8 := Int.ediv_emod_unique (a := a) (b := b) (r := 0) (q := -((-a) / b)) hb
        exact (h8.2 ⟨by rw [Int.mul_neg]; omega, by omega, by omega⟩).1
      omega
    · by_cases h7 : (-a) % b = 0
      · have h8 := Int.ediv_emod_unique (a := a) (b := b) (r := 0) (q := -((-a) / b)) hb
        have := (h8.2 ⟨by rw [Int.mul_neg]; omega, by omega, by omega⟩).1
        omega
      · have h8 := Int.ediv_emod_unique (a := a) (b := b) (r := b - (-a) % b) (q := -((-a) / b) - 1) hb
        have := (h8.2 ⟨by rw [Int.mul_sub, Int.mul_neg]; omega, by omega, by omega⟩).1
        have : (-a) / b ≤ 9223372036854775806 := by
          rcases Nat.lt_or_ge 1 b.toNat with h9 | h9
          · have h10 : b * ((-a) / b) ≥ 2 * ((-a) / b) := Int.mul_le_mul_of_nonneg_right (by omega) d1
            omega
          · have : b = 1 := by omega
            subst this
            omega
        omega
/-- The quotient, rounded down, is no greater than the greatest number is. -/
theorem gridOk_of {g : Grid} (h : ¬ gridE g ≠ 0) : gridOk g := by
  unfold gridE at h
  by_cases q : gridOk g
  · exact q
  · simp [q] at h
theorem area_bd {g : Grid} (h : gridOk g) : 1 ≤ g.wide * g.high ∧ g.wide * g.high ≤ 4096 := by
  obtain ⟨_,_,_, ⟨h1, h2⟩, h3, h4⟩ := h
  constructor
  · have := Int.mul_le_mul h1 h3 (by omega) (by omega); omega
  · have := Int.mul_le_mul h2 h4 (by omega) (by omega); omega

theorem step_zero {f : Nat → Int} {j : Nat} (hz : ∀ k, k < j → f k = 0) (h : f j = 0) : ∀ k, k < j + 1 → f k = 0 := by
  intro k hk
  rcases Nat.lt_or_ge k j with q | q
  · exact hz k q
  · have : k = j := by omega
    subst this; exact h
section

end

theorem tdiv_up (a b : Int) (hb : 0 < b) (h2 : a ≤ 9223372036854775807) : a / b ≤ 9223372036854775807 := by
  rcases Int.le_total 0 a with h | h
  · exact Int.le_trans (Int.ediv_le_self b h) h2
  · have : a / b ≤ 0 := Int.ediv_nonpos_of_nonpos_of_neg (by omega) (by omega)
    omega

theorem mul_bd {a t : Int} (h1 : -110000 ≤ a) (h2 : a ≤ 110000) (h3 : 0 ≤ t) (h4 : t ≤ 7200) : -792000000 ≤ a * t ∧ a * t ≤ 792000000 := by
  constructor
  · have : -110000 * t ≤ a * t := Int.mul_le_mul_of_nonneg_right h1 h3
    omega
  · have : a * t ≤ 110000 * t := Int.mul_le_mul_of_nonneg_right h2 h3
    omega
end Go.Cast

namespace Go.Proofs.YtffbohecdocajaaGreat
open Go.SL Go.Proofs Go.Cast Go.Cell
set_option linter.unusedVariables false

theorem F88_0 : FieldAt Tryz.prog 88 0 0 := ⟨_,_, Tryz.underlying88, rfl, rfl, 0, by kernel_rfl⟩
theorem O3v : IsOne Tryz.prog 3 := ⟨⟨_, Tryz.underlying3, rfl⟩, by kernel_rfl⟩
theorem C119v : IsFn Tryz.prog 119 := ⟨_, Tryz.func119, by decide, rfl⟩
theorem F88_1 : FieldAt Tryz.prog 88 1 1 := ⟨_,_, Tryz.underlying88, rfl, rfl, 0, by kernel_rfl⟩
theorem F88_2 : FieldAt Tryz.prog 88 2 2 := ⟨_,_, Tryz.underlying88, rfl, rfl, 0, by kernel_rfl⟩
theorem F88_3v : FieldAt Tryz.prog 88 3 3 := ⟨_,_, Tryz.underlying88, rfl, rfl, 0, by kernel_rfl⟩
theorem F88_4v : FieldAt Tryz.prog 88 4 4 := ⟨_,_, Tryz.underlying88, rfl, rfl, 0, by kernel_rfl⟩


abbrev gridV (g : Grid) : Value := .agg #[.int .i64 g.x, .int .i64 g.y, .int .i64 g.size, .int .i64 g.wide, .int .i64 g.high]
set_option maxRecDepth 20000 in
theorem bwithin_cv (n lo hi : Int) (w : World) :
  Calls Tryz.prog 119 #[.int .i64 n, .int .i64 lo, .int .i64 hi] w fun e w' => e = .returned (.bool (decide (lo ≤ n) && decide (n ≤ hi))) ∧ St (bs w) [] w' := by
  refine enter (vs := [_,_,_]) (env := [(0,_), (1,_), (2,_)]) Tryz.func119 rfl rfl rfl rfl ?_
  refine VC.seq ?_
  refine VC.reg (VO.l (LO.as (.r rfl)) rfl<|VO.nil ?_)
  refine VE.seqN ?_
  refine VC.seq ?_
  refine VC.reg (VO.l (LO.mv (.r rfl)) rfl<|VO.l (LO.mv (.r rfl)) rfl<|VO.l (LO.le (.r rfl) (.r rfl)) rfl<|VO.l (LO.mv (.r rfl)) rfl<|VO.lg rfl rfl (GD.t _) (fun hg => LO.mv (.r rfl)) rfl<|VO.lg rfl rfl (GD.t _) (fun hg => LO.mv (.r rfl)) rfl<|VO.lg rfl rfl (GD.t _) (fun hg => LO.le (.g hg rfl) (.g hg rfl)) rfl<|VO.l (LO.pkA (.r rfl) rfl rfl (.r rfl)) rfl<|VO.l (LO.as (.r rfl)) rfl<|VO.nil ?_)
  refine VE.seqN ?_
  refine VC.ret (VE.res (vs := [_]) rfl ⟨rfl, trivial⟩ (fun w hw => ?_))
  exact ⟨rfl, hw.nil⟩

set_option maxRecDepth 20000 in
theorem checkGrid_c (g : Grid) (w : World) :
  Calls Tryz.prog 83 #[gridV g] w fun e w' => e = .returned (.int .i64 (gridE g)) ∧ St (bs w) [] w' := by
  refine enter (vs := [_]) (env := [(0,_)]) Tryz.func83 rfl rfl rfl rfl ?_
  refine VC.seq ?_
  refine VC.reg (VO.h rfl<|HO.box (C := #[_,_,_,_,_]) rfl rfl fun b1 => VO.l (LO.as (.r rfl)) rfl<|VO.nil ?_)
  refine VE.seqN ?_
  refine VC.seq ?_
  refine VC.block ?_
  refine VC.seq ?_
  refine VC.seq ?_
  refine VC.reg (VO.l (LO.fa (r := 0) F88_0 (.r rfl) rfl) rfl<|VO.l (LO.ld O3v (.r rfl) (fun _ hw => cells_at hw 0 rfl ⟨_, rfl⟩)) rfl<|VO.l (LO.call (xs := [_,_,_]) (vs := [_,_,_]) C119v ⟨(.r rfl), (.r rfl), (.r rfl), trivial⟩ (fun w _ => bwithin_cv _ _ _ w)) rfl<|VO.l (LO.not (.r rfl)) rfl<|VO.l (LO.as (.r rfl)) rfl<|VO.nil ?_)
  refine VE.seqN ?_
  refine VC.cond rfl (fun h1 => ?_) (fun h1 => ?_)
  ·
    refine VC.skip (VE.seqN ?_)
    refine VC.cond rfl (fun h2 => ?_) (fun h2 => ?_)
    ·
      refine VC.seq ?_
      refine VC.reg (VO.l (LO.as (.r rfl)) rfl<|VO.nil ?_)
      refine VE.seqN ?_
      refine VC.ret (VE.inR (VE.thenR (VE.res (vs := [_]) rfl ⟨rfl, trivial⟩ (fun w hw => ?_))))
      exact ⟨by simp only [resV, gridE]; first | rw [if_pos (by unfold gridOk; omega)] | rw [if_neg (by unfold gridOk; omega)], hw.nil⟩
    ·
      refine VC.skip (VE.inN (VE.seqN ?_))
      refine VC.seq ?_
      refine VC.reg (VO.l (LO.as (.r rfl)) rfl<|VO.nil ?_)
      refine VE.seqN ?_
      refine VC.ret (VE.res (vs := [_]) rfl ⟨rfl, trivial⟩ (fun w hw => ?_))
      exact ⟨by simp only [resV, gridE]; first | rw [if_pos (by unfold gridOk; omega)] | rw [if_neg (by unfold gridOk; omega)], hw.nil⟩
  ·
    refine VC.seq ?_
    refine VC.reg (VO.l (LO.fa (r := 1) F88_1 (.r rfl) rfl) rfl<|VO.l (LO.ld O3v (.r rfl) (fun _ hw => cells_at hw 0 rfl ⟨_, rfl⟩)) rfl<|VO.l (LO.call (xs := [_,_,_]) (vs := [_,_,_]) C119v ⟨(.r rfl), (.r rfl), (.r rfl), trivial⟩ (fun w _ => bwithin_cv _ _ _ w)) rfl<|VO.l (LO.not (.r rfl)) rfl<|VO.l (LO.as (.r rfl)) rfl<|VO.nil ?_)
    refine VE.seqN ?_
    refine VC.cond rfl (fun h3 => ?_) (fun h3 => ?_)
    ·
      refine VC.skip (VE.seqN ?_)
      refine VC.cond rfl (fun h4 => ?_) (fun h4 => ?_)
      ·
        refine VC.seq ?_
        refine VC.reg (VO.l (LO.as (.r rfl)) rfl<|VO.nil ?_)
        refine VE.seqN ?_
        refine VC.ret (VE.inR (VE.thenR (VE.res (vs := [_]) rfl ⟨rfl, trivial⟩ (fun w hw => ?_))))
        exact ⟨by simp only [resV, gridE]; first | rw [if_pos (by unfold gridOk; omega)] | rw [if_neg (by unfold gridOk; omega)], hw.nil⟩
      ·
        refine VC.skip (VE.inN (VE.seqN ?_))
        refine VC.seq ?_
        refine VC.reg (VO.l (LO.as (.r rfl)) rfl<|VO.nil ?_)
        refine VE.seqN ?_
        refine VC.ret (VE.res (vs := [_]) rfl ⟨rfl, trivial⟩ (fun w hw => ?_))
        exact ⟨by simp only [resV, gridE]; first | rw [if_pos (by unfold gridOk; omega)] | rw [if_neg (by unfold gridOk; omega)], hw.nil⟩
    ·
      refine VC.seq ?_
      refine VC.reg (VO.l (LO.fa (r := 2) F88_2 (.r rfl) rfl) rfl<|VO.l (LO.ld O3v (.r rfl) (fun _ hw => cells_at hw 0 rfl ⟨_, rfl⟩)) rfl<|VO.l (LO.call (xs := [_,_,_]) (vs := [_,_,_]) C119v ⟨(.r rfl), (.r rfl), (.r rfl), trivial⟩ (fun w _ => bwithin_cv _ _ _ w)) rfl<|VO.l (LO.not (.r rfl)) rfl<|VO.l (LO.as (.r rfl)) rfl<|VO.nil ?_)
      refine VE.seqN ?_
      refine VC.cond rfl (fun h5 => ?_) (fun h5 => ?_)
      ·
        refine VC.skip (VE.seqN ?_)
        refine VC.cond rfl (fun h6 => ?_) (fun h6 => ?_)
        ·
          refine VC.seq ?_
          refine VC.reg (VO.l (LO.as (.r rfl)) rfl<|VO.nil ?_)
          refine VE.seqN ?_
          refine VC.ret (VE.inR (VE.thenR (VE.res (vs := [_]) rfl ⟨rfl, trivial⟩ (fun w hw => ?_))))
          exact ⟨by simp only [resV, gridE]; first | rw [if_pos (by unfold gridOk; omega)] | rw [if_neg (by unfold gridOk; omega)], hw.nil⟩
        ·
          refine VC.skip (VE.inN (VE.seqN ?_))
          refine VC.seq ?_
          refine VC.reg (VO.l (LO.as (.r rfl)) rfl<|VO.nil ?_)
          refine VE.seqN ?_
          refine VC.ret (VE.res (vs := [_]) rfl ⟨rfl, trivial⟩ (fun w hw => ?_))
          exact ⟨by simp only [resV, gridE]; first | rw [if_pos (by unfold gridOk; omega)] | rw [if_neg (by unfold gridOk; omega)], hw.nil⟩
      ·
        refine VC.seq ?_
        refine VC.reg (VO.l (LO.fa (r := 3) F88_3v (.r rfl) rfl) rfl<|VO.l (LO.ld O3v (.r rfl) (fun _ hw => cells_at hw 0 rfl ⟨_, rfl⟩)) rfl<|VO.l (LO.call (xs := [_,_,_]) (vs := [_,_,_]) C119v ⟨(.r rfl), (.r rfl), (.r rfl), trivial⟩ (fun w _ => bwithin_cv _ _ _ w)) rfl<|VO.l (LO.not (.r rfl)) rfl<|VO.l (LO.as (.r rfl)) rfl<|VO.nil ?_)
        refine VE.seqN ?_
        refine VC.cond rfl (fun h7 => ?_) (fun h7 => ?_)
        ·
          refine VC.skip (VE.seqN ?_)
          refine VC.cond rfl (fun h8 => ?_) (fun h8 => ?_)
          ·
            refine VC.seq ?_
            refine VC.reg (VO.l (LO.as (.r rfl)) rfl<|VO.nil ?_)
            refine VE.seqN ?_
            refine VC.ret (VE.inR (VE.thenR (VE.res (vs := [_]) rfl ⟨rfl, trivial⟩ (fun w hw => ?_))))
            exact ⟨by simp only [resV, gridE]; first | rw [if_pos (by unfold gridOk; omega)] | rw [if_neg (by unfold gridOk; omega)], hw.nil⟩
          ·
            refine VC.skip (VE.inN (VE.seqN ?_))
            refine VC.seq ?_
            refine VC.reg (VO.l (LO.as (.r rfl)) rfl<|VO.nil ?_)
            refine VE.seqN ?_
            refine VC.ret (VE.res (vs := [_]) rfl ⟨rfl, trivial⟩ (fun w hw => ?_))
            exact ⟨by simp only [resV, gridE]; first | rw [if_pos (by unfold gridOk; omega)] | rw [if_neg (by unfold gridOk; omega)], hw.nil⟩
        ·
          refine VC.reg (VO.l (LO.fa (r := 4) F88_4v (.r rfl) rfl) rfl<|VO.l (LO.ld O3v (.r rfl) (fun _ hw => cells_at hw 0 rfl ⟨_, rfl⟩)) rfl<|VO.l (LO.call (xs := [_,_,_]) (vs := [_,_,_]) C119v ⟨(.r rfl), (.r rfl), (.r rfl), trivial⟩ (fun w _ => bwithin_cv _ _ _ w)) rfl<|VO.l (LO.not (.r rfl)) rfl<|VO.l (LO.as (.r rfl)) rfl<|VO.nil ?_)
          refine VE.seqN ?_
          refine VC.cond rfl (fun h9 => ?_) (fun h9 => ?_)
          ·
            refine VC.seq ?_
            refine VC.reg (VO.l (LO.as (.r rfl)) rfl<|VO.nil ?_)
            refine VE.seqN ?_
            refine VC.ret (VE.inR (VE.thenR (VE.res (vs := [_]) rfl ⟨rfl, trivial⟩ (fun w hw => ?_))))
            exact ⟨by simp only [resV, gridE]; first | rw [if_pos (by unfold gridOk; omega)] | rw [if_neg (by unfold gridOk; omega)], hw.nil⟩
          ·
            refine VC.skip (VE.inN (VE.seqN ?_))
            refine VC.seq ?_
            refine VC.reg (VO.l (LO.as (.r rfl)) rfl<|VO.nil ?_)
            refine VE.seqN ?_
            refine VC.ret (VE.res (vs := [_]) rfl ⟨rfl, trivial⟩ (fun w hw => ?_))
            exact ⟨by simp only [resV, gridE]; first | rw [if_pos (by unfold gridOk; omega)] | rw [if_neg (by unfold gridOk; omega)], hw.nil⟩

end Go.Proofs.YtffbohecdocajaaGreat

namespace Go.Proofs.YtffbohecdocajaaGreat
open Go.SL Go.Proofs Go.Cast Go.Cell
set_option linter.unusedVariables false

theorem F25_0v : FieldAt Tryz.prog 25 0 0 := ⟨_,_, Tryz.underlying25, rfl, rfl, 0, by kernel_rfl⟩
theorem F25_1v : FieldAt Tryz.prog 25 1 1 := ⟨_,_, Tryz.underlying25, rfl, rfl, 0, by kernel_rfl⟩
end Go.Proofs.YtffbohecdocajaaGreat

namespace Go.Proofs.YtffbohecdocajaaGreat
open Go.SL Go.Proofs Go.Cast Go.Cell
set_option linter.unusedVariables false

theorem F108_0 : FieldAt Tryz.prog 108 0 0 := ⟨_,_, Tryz.underlying108, rfl, rfl, 4, by kernel_rfl⟩
theorem A88v : IsAgg Tryz.prog 88 5 := ⟨⟨_, Tryz.underlying88, rfl⟩, by kernel_rfl⟩
theorem C83 : IsFn Tryz.prog 83 := ⟨_, Tryz.func83, by decide, rfl⟩
theorem F108_1 : FieldAt Tryz.prog 108 1 5 := ⟨_,_, Tryz.underlying108, rfl, rfl, 0, by kernel_rfl⟩
theorem O45v : IsOne Tryz.prog 45 := ⟨⟨_, Tryz.underlying45, rfl⟩, by kernel_rfl⟩
theorem S45v : IsSlice Tryz.prog 45 25 := Tryz.underlying45
theorem N25v : (Tryz.prog.info? 25).map (·.size) = some 2 := by kernel_rfl
theorem A25v : IsAgg Tryz.prog 25 2 := ⟨⟨_, Tryz.underlying25, rfl⟩, by kernel_rfl⟩
theorem Z25v : ZeroOf Tryz.prog 25 (.agg #[.int .i64 0, .int .i64 0]) := by unfold ZeroOf; kernel_rfl
theorem A108 : IsAgg Tryz.prog 108 6 := ⟨⟨_, Tryz.underlying108, rfl⟩, by kernel_rfl⟩
theorem C157 : IsFn Tryz.prog 157 := ⟨_, Tryz.func157, by decide, rfl⟩
structure Spanv where
  lo : Int
  hi : Int
def Spanv.cells (s : Spanv) : List Value := [.int .i64 s.lo, .int .i64 s.hi]
structure Field where
  g : Grid
  vals : List Spanv
def Spansv (w : World) (p : Option Addr) (l : List Spanv) : Prop := Go.SL.Rows w 2 p (l.map Spanv.cells)
theorem Spansv.some {w : World} {p : Option Addr} {l : List Spanv} (h : Spansv w p l) : SlSome p l.length := Go.SL.Rows.some h (by simp)
theorem Spansv.keep {w0 : World} {p : Option Addr} {l : List Spanv} (h : Spansv w0 p l) {L : List Res} : ∀ w, St (bs w0) L w → Spansv w p l := Go.SL.Rows.keep h
theorem Spansv.at {w0 : World} {p : Option Addr} {l : List Spanv} (h : Spansv w0 p l) {L : List Res} {j : Nat} (hj : j < l.length) : ∀ w, St (bs w0) L w → Cells w ⟨pb p, po p + j * 2, none⟩ [.int .i64 (l.getD j ⟨0,0⟩).lo, .int .i64 (l.getD j ⟨0,0⟩).hi] :=
  fun w hw => (h.keep w hw).cells j _ (by simp [List.getElem?_eq_getElem hj, List.getD, Spanv.cells])
theorem cells_part {w : World} {b o off : Nat} {C vs : List Value} (h : Cells w ⟨b, o, none⟩ C) (hv : ∃ r, C.drop off = vs ++ r) : Cells w ⟨b, o + off, none⟩ vs := by
  intro j v hj
  obtain ⟨r, hr⟩ := hv
  have h1 : C[off + j]? = some v := by
    rw [← List.getElem?_drop, hr, List.getElem?_append_left (List.getElem?_eq_some_iff.1 hj).1]; exact hj
  have h2 := h (off + j) v h1
  have e1 : (⟨b, o, none⟩ : Addr).add (off + j) = ⟨b, o + (off + j), none⟩ := by unfold Addr.add; split <;> simp_all
  have e2 : (⟨b, o + off, none⟩ : Addr).add j = ⟨b, o + off + j, none⟩ := by unfold Addr.add; split <;> simp_all
  rw [e1] at h2; rw [e2, Nat.add_assoc]; exact h2
def spanOk (m : Int) (s : Spanv) : Prop := 0 ≤ s.lo ∧ s.lo ≤ s.hi ∧ s.hi ≤ m
instance (m : Int) (s : Spanv) : Decidable (spanOk m s) := by unfold spanOk; exact inferInstance
def valE (m : Int) (l : List Spanv) (i : Nat) : Int := if spanOk m (l.getD i ⟨0,0⟩) then 0 else 3
def fieldE (m : Int) (f : Field) : Int := if ¬ gridOk f.g then 3 else if (f.vals.length : Int) ≠ f.g.wide * f.g.high then 11 else firstE (valE m f.vals) f.vals.length
section
variable {m : Int} {f : Field} {s l : List Int} {lv : Int} {j : Nat}
theorem valE_zero (h : spanOk m (f.vals.getD j ⟨0,0⟩)) : valE m f.vals j = 0 := if_pos h
theorem fE1 (h : ¬ gridE f.g = 0) : gridE f.g = fieldE m f := by
  unfold fieldE
  by_cases q : gridOk f.g
  · exact absurd (if_pos q) h
  · rw [if_pos q]; exact if_neg q
theorem fE2 (hg : gridOk f.g) (h : ¬ (f.vals.length : Int) = f.g.wide * f.g.high) : 11 = fieldE m f := by
  unfold fieldE
  rw [if_neg (fun q => q hg), if_pos h]
theorem fE3 (hg : gridOk f.g) (h : (f.vals.length : Int) = f.g.wide * f.g.high) (hz : ∀ k, k < j → valE m f.vals k = 0) (hj : j < f.vals.length) (h4 : ¬ spanOk m (f.vals.getD j ⟨0,0⟩)) : 3 = fieldE m f := by
  have e : valE m f.vals j = 3 := if_neg h4
  unfold fieldE
  rw [if_neg (fun q => q hg), if_neg (fun q => q h), firstE_at hz (by omega) hj, e]
theorem fE4 (hg : gridOk f.g) (h : (f.vals.length : Int) = f.g.wide * f.g.high) (hz : ∀ k, k < j → valE m f.vals k = 0) (hj : f.vals.length ≤ j) : 0 = fieldE m f := by
  unfold fieldE
  rw [if_neg (fun q => q hg), if_neg (fun q => q h), firstE_zero (fun k hk => hz k (by omega))]
end

set_option maxRecDepth 20000 in
theorem bcheck_c (f : Field) (pv : Option Addr) (cv : Nat) (m : Int) (w : World) (hv : Spansv w pv f.vals) :
  Calls Tryz.prog 157 #[.agg #[.int .i64 f.g.x, .int .i64 f.g.y, .int .i64 f.g.size, .int .i64 f.g.wide, .int .i64 f.g.high, .slice pv f.vals.length cv], .int .i64 m] w fun e w' => e = .returned (.int .i64 (fieldE m f)) ∧ St (bs w) [] w' := by
  refine enter (vs := [_,_]) (env := [(0,_), (1,_)]) Tryz.func157 rfl rfl rfl rfl ?_
  refine VC.seq ?_
  refine VC.reg (VO.h rfl<|HO.box (C := #[_,_,_,_,_,_]) rfl rfl fun b1 => VO.l (LO.as (.r rfl)) rfl<|VO.nil ?_)
  refine VE.seqN ?_
  refine VC.seq ?_
  refine VC.seq ?_
  refine VC.reg (VO.l (LO.fa (r := 0) F108_0 (.r rfl) rfl) rfl<|VO.l (LO.lda (vs := [_,_,_,_,_]) A88v (.r rfl) (fun _ hw => cells_at hw 0 rfl ⟨_, rfl⟩) rfl) rfl<|VO.l (LO.call (xs := [_]) (vs := [_]) C83 ⟨(.r rfl), trivial⟩ (fun w _ => checkGrid_c f.g w)) rfl<|VO.l (LO.as (.r rfl)) rfl<|VO.nil ?_)
  refine VE.seqN ?_
  refine VC.seq ?_
  refine VC.reg (VO.l (LO.mv (.r rfl)) rfl<|VO.l (LO.ne (.r rfl) (.r rfl)) rfl<|VO.nil ?_)
  refine VE.seqN ?_
  refine VC.cond rfl (fun h1 => ?_) (fun h1 => ?_)
  ·
    refine VC.seq ?_
    refine VC.reg (VO.l (LO.mv (.r rfl)) rfl<|VO.l (LO.as (.r rfl)) rfl<|VO.nil ?_)
    refine VE.seqN ?_
    refine VC.ret (VE.thenR (VE.res (vs := [_]) rfl ⟨rfl, trivial⟩ (fun w hw => ?_)))
    refine ⟨?_, hw.nil⟩
    simp only [resV]
    congr 2
    first | exact fE1 (by simpa using h1) | exact fE2 hgo (by simpa using h2) | exact fE3 hgo (by simpa using h2) hz (by omega) (by unfold spanOk; omega) | exact fE4 hgo (by simpa using h2) hz (by omega)
  ·
    have hgo : gridOk f.g := gridOk_of (by simpa using h1)
    have har := area_bd hgo
    refine VC.skip (VE.seqN ?_)
    refine VC.seq ?_
    refine VC.seq ?_
    refine VC.reg (VO.l (LO.fa (r := 5) F108_1 (.r rfl) rfl) rfl<|VO.l (LO.ld O45v (.r rfl) (fun _ hw => cells_at hw 0 rfl ⟨_, rfl⟩)) rfl<|VO.l (LO.len S45v (.r rfl) rfl) rfl<|VO.l (LO.fa (r := 0) F108_0 (.r rfl) rfl) rfl<|VO.l (LO.fa (r := 3) F88_3v (.r rfl) rfl) rfl<|VO.l (LO.ld O3v (.r rfl) (fun _ hw => cells_at hw 0 rfl ⟨_, rfl⟩)) rfl<|VO.l (LO.fa (r := 0) F108_0 (.r rfl) rfl) rfl<|VO.l (LO.fa (r := 4) F88_4v (.r rfl) rfl) rfl<|VO.l (LO.ld O3v (.r rfl) (fun _ hw => cells_at hw 0 rfl ⟨_, rfl⟩)) rfl<|VO.l (LO.mul (.r rfl) (.r rfl) (wi (by omega) (by omega))) rfl<|VO.l (LO.ne (.r rfl) (.r rfl)) rfl<|VO.nil ?_)
    refine VE.seqN ?_
    refine VC.cond rfl (fun h2 => ?_) (fun h2 => ?_)
    ·
      refine VC.seq ?_
      refine VC.reg (VO.l (LO.as (.r rfl)) rfl<|VO.nil ?_)
      refine VE.seqN ?_
      refine VC.ret (VE.thenR (VE.res (vs := [_]) rfl ⟨rfl, trivial⟩ (fun w hw => ?_)))
      refine ⟨?_, hw.nil⟩
      simp only [resV]
      congr 2
      first | exact fE1 (by simpa using h1) | exact fE2 hgo (by simpa using h2) | exact fE3 hgo (by simpa using h2) hz (by omega) (by unfold spanOk; omega) | exact fE4 hgo (by simpa using h2) hz (by omega)
    ·
      refine VC.skip (VE.seqN ?_)
      refine VC.seq ?_
      refine VC.seq ?_
      refine VC.reg (VO.l (LO.fa (r := 5) F108_1 (.r rfl) rfl) rfl<|VO.l (LO.ld O45v (.r rfl) (fun _ hw => cells_at hw 0 rfl ⟨_, rfl⟩)) rfl<|VO.l (LO.len S45v (.r rfl) rfl) rfl<|VO.l (LO.mv (.r rfl)) rfl<|VO.nil ?_)
      refine VE.seqN ?_
      refine VC.block ?_
      refine VC.loopK (α := Nat) 0 (fun gx => [(28, .int .i64 (gx : Nat))]) [(1,_), (26,_), (27,_)] (fun gx => []) (fun gx => gx ≤ f.vals.length ∧ ∀ k, k < gx → valE m f.vals k = 0) (fun gx => f.vals.length - gx) 0 (by exact ⟨by omega, fun k hk => by omega⟩) (.cons rfl (.cons rfl (.cons rfl (.cons rfl .nil)))) (fun _ h => h) ?_
      rintro j ⟨hj, hz⟩
      refine VC.seq ?_
      refine VC.reg (VO.l (LO.lt (.r rfl) (.r rfl)) rfl<|VO.nil ?_)
      refine VE.seqN ?_
      refine VC.seq ?_
      refine VC.cond rfl (fun h3 => ?_) (fun h3 => ?_)
      ·
        refine VC.skip (VE.seqN ?_)
        refine VC.seq ?_
        refine VC.block ?_
        refine VC.seq ?_
        refine VC.reg (VO.l (LO.ixs S45v N25v hv.some (.r rfl) (.r rfl) rfl (by omega)) rfl<|VO.l (LO.lda (vs := [_,_]) A25v (.r rfl) (fun w hw => cells_part (off := 0) ((hv.at (j := j) (by omega)) w hw) ⟨_, rfl⟩) rfl) rfl<|VO.h rfl<|HO.alloc (C := #[_,_]) Z25v rfl fun b2 => VO.h0<|HO.st 0 (vs := [_,_]) (C' := [_,_]) (L' := [_,_]) N25v rfl rfl rfl rfl rfl rfl rfl rfl<|VO.nil ?_)
        refine VE.seqN ?_
        refine VC.seq ?_
        refine VC.reg (VO.l (LO.fa (r := 0) F25_0v (.r rfl) rfl) rfl<|VO.l (LO.ld O3v (.r rfl) (fun _ hw => cells_at hw 0 rfl ⟨_, rfl⟩)) rfl<|VO.l (LO.lt (.r rfl) (.r rfl)) rfl<|VO.l (LO.mv (.r rfl)) rfl<|VO.lg rfl rfl (GD.f _) (fun hg => LO.fa (r := 1) F25_1v (.r rfl) rfl) rfl<|VO.lg rfl rfl (GD.f _) (fun hg => LO.ld O3v (.g hg rfl) (fun _ hw => cells_at hw 0 rfl ⟨_, rfl⟩)) rfl<|VO.lg rfl rfl (GD.f _) (fun hg => LO.fa (r := 0) F25_0v (.r rfl) rfl) rfl<|VO.lg rfl rfl (GD.f _) (fun hg => LO.ld O3v (.g hg rfl) (fun _ hw => cells_at hw 0 rfl ⟨_, rfl⟩)) rfl<|VO.lg rfl rfl (GD.f _) (fun hg => LO.lt (.g hg rfl) (.g hg rfl)) rfl<|VO.l (LO.pkO (.r rfl) (.r rfl) rfl rfl) rfl<|VO.l (LO.mv (.r rfl)) rfl<|VO.lg rfl rfl (GD.f _) (fun hg => LO.fa (r := 1) F25_1v (.r rfl) rfl) rfl<|VO.lg rfl rfl (GD.f _) (fun hg => LO.ld O3v (.g hg rfl) (fun _ hw => cells_at hw 0 rfl ⟨_, rfl⟩)) rfl<|VO.lg rfl rfl (GD.f _) (fun hg => LO.mv (.r rfl)) rfl<|VO.lg rfl rfl (GD.f _) (fun hg => LO.gt (.g hg rfl) (.g hg rfl)) rfl<|VO.l (LO.pkO (.r rfl) (.r rfl) rfl rfl) rfl<|VO.nil ?_)
        refine VE.seqN ?_
        refine VC.cond rfl (fun h4 => ?_) (fun h4 => ?_)
        ·
          refine VC.seq ?_
          refine VC.reg (VO.l (LO.as (.r rfl)) rfl<|VO.nil ?_)
          refine VE.seqN ?_
          refine VC.ret (VE.inR (VE.thenR (VE.thenR (VE.inR (VE.thenR (VE.res (vs := [_]) rfl ⟨rfl, trivial⟩ (fun w hw => ?_)))))))
          refine ⟨?_, hw.nil⟩
          simp only [resV]
          congr 2
          first | exact fE1 (by simpa using h1) | exact fE2 hgo (by simpa using h2) | exact fE3 hgo (by simpa using h2) hz (by omega) (by unfold spanOk; omega) | exact fE4 hgo (by simpa using h2) hz (by omega)
        ·
          refine VC.skip (VE.inN (VE.seqN ?_))
          refine VC.reg (VO.l (LO.add (.r rfl) (.r rfl) (wi (by omega) (by omega))) rfl<|VO.l (LO.mv (.r rfl)) rfl<|VO.nil ?_)
          refine VE.thenN fun a w ha hw => ⟨j + 1, ⟨by omega, step_zero hz (valE_zero (by unfold spanOk; omega))⟩, (by omega), ha.sub (.cons rfl (.cons rfl (.cons rfl (.cons rfl .nil)))), hw.sel [1] rfl⟩
      ·
        refine VC.exit (VE.thenX (VE.thenX (VE.inX (VE.seqN ?_))))
        refine VC.seq ?_
        refine VC.reg (VO.l (LO.as (.r rfl)) rfl<|VO.nil ?_)
        refine VE.seqN ?_
        refine VC.ret (VE.res (vs := [_]) rfl ⟨rfl, trivial⟩ (fun w hw => ?_))
        refine ⟨?_, hw.nil⟩
        simp only [resV]
        congr 2
        first | exact fE1 (by simpa using h1) | exact fE2 hgo (by simpa using h2) | exact fE3 hgo (by simpa using h2) hz (by omega) (by unfold spanOk; omega) | exact fE4 hgo (by simpa using h2) hz (by omega)

set_option maxRecDepth 20000 in
theorem bCheckField_c (f : Field) (pv : Option Addr) (cv : Nat) (w : World) (hv : Spansv w pv f.vals) :
  Calls Tryz.prog 79 #[.agg #[.int .i64 f.g.x, .int .i64 f.g.y, .int .i64 f.g.size, .int .i64 f.g.wide, .int .i64 f.g.high, .slice pv f.vals.length cv]] w fun e w' => e = .returned (.int .i64 (fieldE 1073741824 f)) ∧ St (bs w) [] w' := by
  refine enter (vs := [_]) (env := [(0,_)]) Tryz.func79 rfl rfl rfl rfl ?_
  refine VC.seq ?_
  refine VC.reg (VO.h rfl<|HO.box (C := #[_,_,_,_,_,_]) rfl rfl fun b1 => VO.l (LO.as (.r rfl)) rfl<|VO.nil ?_)
  refine VE.seqN ?_
  refine VC.seq ?_
  refine VC.reg (VO.l (LO.lda (vs := [_,_,_,_,_,_]) A108 (.r rfl) (fun _ hw => cells_at hw 0 rfl ⟨_, rfl⟩) rfl) rfl<|VO.l (LO.call (xs := [_,_]) (vs := [_,_]) C157 ⟨(.r rfl), (.r rfl), trivial⟩ (fun w hw => bcheck_c f pv cv _ w (hv.keep w hw))) rfl<|VO.l (LO.as (.r rfl)) rfl<|VO.nil ?_)
  refine VE.seqN ?_
  refine VC.ret (VE.res (vs := [_]) rfl ⟨rfl, trivial⟩ (fun w hw => ?_))
  exact ⟨rfl, hw.nil⟩

end Go.Proofs.YtffbohecdocajaaGreat

namespace Go.Cell
set_option linter.unusedVariables false

/-- The neighbors of a pixel, as the program yields them. -/
def nb (W H p : Nat) : List Nat := (if 0 < p / W then [p - W] else []) ++ (if 0 < p % W then [p - 1] else []) ++ (if p % W + 1 < W then [p + 1] else []) ++ (if p / W + 1 < H then [p + W] else [])

theorem mem_nb {W H p r : Nat} : r ∈ nb W H p ↔ (0 < p / W ∧ r = p - W) ∨ (0 < p % W ∧ r = p - 1) ∨ (p % W + 1 < W ∧ r = p + 1) ∨ (p / W + 1 < H ∧ r = p + W) := by
  unfold nb
  simp only [List.mem_append]
  constructor
  · rintro (((h | h) | h) | h) <;> split at h <;> simp at h <;> omega
  · rintro (⟨h, e⟩ | ⟨h, e⟩ | ⟨h, e⟩ | ⟨h, e⟩)
    · left; left; left; rw [if_pos h]; simp [e]
    · left; left; right; rw [if_pos h]; simp [e]
    · left; right; rw [if_pos h]; simp [e]
    · right; rw [if_pos h]; simp [e]

theorem dm (W p : Nat) (hW : 0 < W) : p = W * (p / W) + p % W ∧ p % W < W := ⟨(Nat.div_add_mod p W).symm, Nat.mod_lt p hW⟩
theorem dm_eq {W p a b : Nat} (h : p = W * a + b) (hb : b < W) : p / W = a ∧ p % W = b := by
  subst h
  constructor
  · rw [Nat.mul_add_div (by omega), Nat.div_eq_of_lt hb, Nat.add_zero]
  · rw [Nat.mul_add_mod, Nat.mod_eq_of_lt hb]
theorem row_lt {W H p : Nat} (hp : p < W * H) : p / W < H := by
  have hW : 0 < W := by rcases Nat.eq_zero_or_pos W with q | q; subst q; simp at hp; exact q
  exact (Nat.div_lt_iff_lt_mul hW).2 (by rw [Nat.mul_comm]; exact hp)
theorem pix_lt {W H x y : Nat} (hx : x < W) (hy : y < H) : W * y + x < W * H := by
  have : W * (y + 1) ≤ W * H := Nat.mul_le_mul_left W hy
  rw [Nat.mul_add] at this
  omega

/-- Columns and rows of neighbors. -/
theorem nb_xy {W H p r : Nat} (hp : p < W * H) (hr : r ∈ nb W H p) : r < W * H ∧ ((r % W = p % W ∧ (r / W + 1 = p / W ∨ r / W = p / W + 1)) ∨ (r / W = p / W ∧ (r % W + 1 = p % W ∨ r % W = p % W + 1))) := by
  have hW : 0 < W := by rcases Nat.eq_zero_or_pos W with q | q; subst q; simp at hp; exact q
  obtain ⟨h1, h2⟩ := dm W p hW
  have hy := row_lt hp
  generalize ea : p / W = a at *
  generalize eb : p % W = b at *
  rcases mem_nb.1 hr with ⟨h, e⟩ | ⟨h, e⟩ | ⟨h, e⟩ | ⟨h, e⟩
  · obtain ⟨c, rfl⟩ : ∃ c, a = c + 1 := ⟨a - 1, by omega⟩
    have e2 : r = W * c + b := by rw [Nat.mul_add] at h1; omega
    obtain ⟨z1, z2⟩ := dm_eq e2 h2
    exact ⟨by rw [e2]; exact pix_lt h2 (by omega), .inl ⟨z2, .inl (by omega)⟩⟩
  · have e2 : r = W * a + (b - 1) := by omega
    obtain ⟨z1, z2⟩ := dm_eq e2 (by omega)
    exact ⟨by rw [e2]; exact pix_lt (by omega) hy, .inr ⟨z1, .inl (by omega)⟩⟩
  · have e2 : r = W * a + (b + 1) := by omega
    obtain ⟨z1, z2⟩ := dm_eq e2 (by omega)
    exact ⟨by rw [e2]; exact pix_lt (by omega) hy, .inr ⟨z1, .inr (by omega)⟩⟩
  · have e2 : r = W * (a + 1) + b := by rw [Nat.mul_add]; omega
    obtain ⟨z1, z2⟩ := dm_eq e2 h2
    exact ⟨by rw [e2]; exact pix_lt h2 (by omega), .inl ⟨z2, .inr (by omega)⟩⟩
theorem nb_of_xy {W H p r : Nat} (hp : p < W * H) (hr : r < W * H) (h : (r % W = p % W ∧ (r / W + 1 = p / W ∨ r / W = p / W + 1)) ∨ (r / W = p / W ∧ (r % W + 1 = p % W ∨ r % W = p % W + 1))) : r ∈ nb W H p := by
  have hW : 0 < W := by rcases Nat.eq_zero_or_pos W with q | q; subst q; simp at hp; exact q
  obtain ⟨h1, h2⟩ := dm W p hW
  obtain ⟨h3, h4⟩ := dm W r hW
  have hy := row_lt hp
  have hy2 := row_lt hr
  refine mem_nb.2 ?_
  rcases h with ⟨e, f | f⟩ | ⟨e, f | f⟩
  · left; rw [← f, Nat.mul_add] at h1; rw [e] at h3; exact ⟨by rw [← f]; exact Nat.succ_pos _, by omega⟩
  · right; right; right; rw [f, Nat.mul_add, e] at h3; exact ⟨by rw [← f]; exact hy2, by omega⟩
  · right; left; rw [e] at h3; exact ⟨by rw [← f]; exact Nat.succ_pos _, by omega⟩
  · right; right; left; rw [e] at h3; exact ⟨by rw [← f]; exact h4, by omega⟩
theorem nb_lt {W H p r : Nat} (hp : p < W * H) (hr : r ∈ nb W H p) : r < W * H := (nb_xy hp hr).1
theorem nb_symm {W H p r : Nat} (hp : p < W * H) (hr : r ∈ nb W H p) : p ∈ nb W H r := by
  obtain ⟨h1, h2⟩ := nb_xy hp hr
  exact nb_of_xy h1 hp (by omega)

/-- Two pixels of a set are joined. -/
inductive Cn (W H : Nat) (S : Nat → Bool) (p : Nat) : Nat → Prop
  | refl : S p = true → Cn W H S p p
  | step {q r : Nat} : Cn W H S p q → r ∈ nb W H q → S r = true → Cn W H S p r

section
variable {W H : Nat} {S T : Nat → Bool} {p q r : Nat}
theorem Cn.left (h : Cn W H S p q) : S p = true := by induction h with | refl h => exact h | step _ _ _ ih => exact ih
theorem Cn.right (h : Cn W H S p q) : S q = true := by cases h with | refl h => exact h | step _ _ h => exact h
theorem Cn.lt (h : Cn W H S p q) (hp : p < W * H) : q < W * H := by induction h with | refl _ => exact hp | step _ h _ ih => exact nb_lt ih h
theorem Cn.trans (h : Cn W H S p q) (k : Cn W H S q r) : Cn W H S p r := by induction k with | refl _ => exact h | step _ h2 h3 ih => exact .step ih h2 h3
theorem Cn.symm (h : Cn W H S p q) (hp : p < W * H) : Cn W H S q p := by
  induction h with
  | refl h => exact .refl h
  | step h1 h2 h3 ih => exact Cn.trans (.step (.refl h3) (nb_symm (h1.lt hp) h2) h1.right) ih
/-- A closed set that has the one pixel has all. -/
theorem Cn.closed {X : Nat → Prop} (h : Cn W H S p q) (hp : X p) (hc : ∀ a b, X a → b ∈ nb W H a → S b = true → X b) : X q := by
  induction h with
  | refl _ => exact hp
  | step _ h2 h3 ih => exact hc _ _ ih h2 h3
end

/-! ### The part of a pixel -/
section
variable (W H : Nat) (S : Nat → Bool)
def grow (l : List Nat) : List Nat := (List.range (W * H)).filter fun q => decide (q ∈ l) || (S q && (nb W H q).any fun r => decide (r ∈ l))
def clo (p : Nat) : Nat → List Nat
  | 0 => [p]
  | k + 1 => grow W H S (clo p k)
/-- The part of a pixel, ascending. -/
def compL (p : Nat) : List Nat := clo W H S p (W * H)
end

section
variable {W H : Nat} {S T : Nat → Bool} {p q r : Nat}
theorem mem_grow {l : List Nat} : q ∈ grow W H S l ↔ q < W * H ∧ (q ∈ l ∨ (S q = true ∧ ∃ r, r ∈ nb W H q ∧ r ∈ l)) := by
  unfold grow
  simp only [List.mem_filter, List.mem_range, Bool.or_eq_true, decide_eq_true_eq, Bool.and_eq_true, List.any_eq_true]
theorem clo_lt (hp : p < W * H) : ∀ {k q}, q ∈ clo W H S p k → q < W * H
  | 0, q, h => by simp [clo] at h; omega
  | k + 1, q, h => (mem_grow.1 h).1
theorem clo_sound (hp : p < W * H) (hs : S p = true) : ∀ {k q}, q ∈ clo W H S p k → Cn W H S p q
  | 0, q, h => by simp [clo] at h; subst h; exact .refl hs
  | k + 1, q, h => by
    obtain ⟨h1, h2 | ⟨h2, r, h3, h4⟩⟩ := mem_grow.1 h
    · exact clo_sound hp hs h2
    · exact .step (clo_sound hp hs h4) (nb_symm h1 h3) h2
theorem clo_mono (hp : p < W * H) {k : Nat} (h : q ∈ clo W H S p k) : q ∈ clo W H S p (k + 1) := mem_grow.2 ⟨clo_lt hp h, .inl h⟩
theorem clo_nodup (hp : p < W * H) : ∀ k, (clo W H S p k).Nodup
  | 0 => by simp [clo]
  | k + 1 => by unfold clo grow; exact List.Pairwise.filter _ List.nodup_range
theorem length_le_of_subset : ∀ {l m : List Nat}, l.Nodup → (∀ x, x ∈ l → x ∈ m) → l.length ≤ m.length
  | [],_,_,_ => Nat.zero_le _
  | a :: l, m, hn, hs => by
    have h1 : a ∈ m := hs a (by simp)
    have h2 := length_le_of_subset (l := l) (m := m.erase a) (List.nodup_cons.1 hn).2 (fun x hx => (List.mem_erase_of_ne (fun e => (List.nodup_cons.1 hn).1 (by rw [← e]; exact hx))).2 (hs x (by simp [hx])))
    have h3 := List.length_erase_of_mem h1
    have h4 : 0 < m.length := List.length_pos_of_mem h1
    simp only [List.length_cons]
    omega
theorem subset_of_length {l m : List Nat} (hl : l.Nodup) (hs : ∀ x, x ∈ l → x ∈ m) (hlen : m.length ≤ l.length) (hm : m.Nodup) : ∀ x, x ∈ m → x ∈ l := by
  intro x hx
  by_cases q : x ∈ l
  · exact q
  · have := length_le_of_subset (l := x :: l) (m := m) (List.nodup_cons.2 ⟨q, hl⟩) (fun y hy => by rcases List.mem_cons.1 hy with e | e; exact e ▸ hx; exact hs y e)
    simp only [List.length_cons] at this
    omega
/-- Some round adds nothing. -/
theorem clo_stable (hp : p < W * H) : ∀ k, k ≤ (clo W H S p k).length ∨ ∃ j, j < k ∧ ∀ x, x ∈ clo W H S p (j + 1) → x ∈ clo W H S p j
  | 0 => .inl (Nat.zero_le _)
  | k + 1 => by
    rcases clo_stable hp k with h | ⟨j, h1, h2⟩
    · by_cases q : (clo W H S p (k + 1)).length ≤ (clo W H S p k).length
      · right
        exact ⟨k, by omega, subset_of_length (clo_nodup hp k) (fun x hx => clo_mono hp hx) q (clo_nodup hp (k + 1))⟩
      · left; omega
    · exact .inr ⟨j, by omega, h2⟩
theorem clo_const {j : Nat} (hp : p < W * H) (h : ∀ x, x ∈ clo W H S p (j + 1) → x ∈ clo W H S p j) : ∀ k x, x ∈ clo W H S p (j + k) → x ∈ clo W H S p j
  | 0, x, hx => hx
  | k + 1, x, hx => by
    apply h
    obtain ⟨h1, h2⟩ := mem_grow.1 (show x ∈ grow W H S (clo W H S p (j + k)) from hx)
    refine mem_grow.2 ⟨h1, ?_⟩
    rcases h2 with h2 | ⟨h2, r, h3, h4⟩
    · exact .inl (clo_const hp h k x h2)
    · exact .inr ⟨h2, r, h3, clo_const hp h k r h4⟩
theorem clo_up (hp : p < W * H) {j : Nat} : ∀ {k x}, x ∈ clo W H S p j → x ∈ clo W H S p (j + k)
  | 0, x, h => h
  | k + 1, x, h => clo_mono hp (clo_up hp h)
theorem compL_closed (hp : p < W * H) {a b : Nat} (ha : a ∈ compL W H S p) (hb : b ∈ nb W H a) (hs : S b = true) : b ∈ compL W H S p := by
  unfold compL at *
  have hstep : ∀ j, a ∈ clo W H S p j → b ∈ clo W H S p (j + 1) := fun j h => mem_grow.2 ⟨nb_lt (clo_lt hp h) hb, .inr ⟨hs, a, nb_symm (clo_lt hp h) hb, h⟩⟩
  rcases clo_stable (S := S) hp (W * H) with h | ⟨j, h1, h2⟩
  · -- all pixels are in
    have hall := subset_of_length (clo_nodup (S := S) hp (W * H)) (m := List.range (W * H)) (fun x hx => List.mem_range.2 (clo_lt hp hx)) (by simpa using h) List.nodup_range
    exact hall b (List.mem_range.2 (nb_lt (clo_lt hp ha) hb))
  · have e : W * H = j + (W * H - j) := by omega
    have ha' : a ∈ clo W H S p j := by rw [e] at ha; exact clo_const hp h2 _ a ha
    have := clo_up hp (k := W * H - j) (h2 b (hstep j ha'))
    rw [← e] at this
    exact this
theorem mem_self (hp : p < W * H) : p ∈ compL W H S p := by
  have := clo_up (S := S) hp (j := 0) (k := W * H) (x := p) (by simp [clo])
  rw [Nat.zero_add] at this
  exact this
theorem mem_compL (hp : p < W * H) (hs : S p = true) : q ∈ compL W H S p ↔ Cn W H S p q :=
  ⟨clo_sound hp hs, fun h => h.closed (X := fun x => x ∈ compL W H S p) (mem_self hp) fun a b ha hb hS => compL_closed hp ha hb hS⟩
theorem compL_sorted (hp : p < W * H) : (compL W H S p).Pairwise (· < ·) := by
  unfold compL
  obtain ⟨k, e⟩ : ∃ k, W * H = k + 1 := ⟨W * H - 1, by omega⟩
  rw [e]
  unfold clo grow
  exact List.Pairwise.filter _ List.pairwise_lt_range
theorem compL_lt (hp : p < W * H) (h : q ∈ compL W H S p) : q < W * H := clo_lt hp h
end

/-- Lists that ascend and have the same numbers are the same. -/
theorem asc_ext : ∀ {l m : List Nat}, l.Pairwise (· < ·) → m.Pairwise (· < ·) → (∀ x, x ∈ l ↔ x ∈ m) → l = m
  | [], [],_,_,_ => rfl
  | [], b :: m,_,_, h => by have := (h b).2 (by simp); simp at this
  | a :: l, [],_,_, h => by have := (h a).1 (by simp); simp at this
  | a :: l, b :: m, hl, hm, h => by
    obtain ⟨h1, h2⟩ := List.pairwise_cons.1 hl
    obtain ⟨h3, h4⟩ := List.pairwise_cons.1 hm
    have e : a = b := by
      rcases List.mem_cons.1 ((h a).1 (by simp)) with e | e
      · exact e
      · rcases List.mem_cons.1 ((h b).2 (by simp)) with f | f
        · exact f.symm
        · have := h3 a e; have := h1 b f; omega
    subst e
    congr 1
    refine asc_ext h2 h4 fun x => ?_
    have hx := h x
    simp only [List.mem_cons] at hx
    constructor
    · intro q
      rcases hx.1 (.inr q) with e | e
      · subst e; exact absurd (h1 _ q) (Nat.lt_irrefl _)
      · exact e
    · intro q
      rcases hx.2 (.inr q) with e | e
      · subst e; exact absurd (h3 _ q) (Nat.lt_irrefl _)
      · exact e
theorem compL_eq {W H : Nat} {S : Nat → Bool} {p q : Nat} (hp : p < W * H) (h : Cn W H S p q) : compL W H S q = compL W H S p :=
  asc_ext (compL_sorted (h.lt hp)) (compL_sorted hp) fun x => by
    rw [mem_compL (h.lt hp) h.right, mem_compL hp h.left]
    exact ⟨fun k => h.trans k, fun k => (h.symm hp).trans k⟩

/-! ### All parts -/
section
variable (W H : Nat) (S : Nat → Bool)
/-- The parts whose least pixel is below a number. -/
def partsTo : Nat → List (List Nat)
  | 0 => []
  | p + 1 => if (S p && !(partsTo p).any fun l => decide (p ∈ l)) = true then partsTo p ++ [compL W H S p] else partsTo p
def partsL : List (List Nat) := partsTo W H S (W * H)
end
/-- The number of the list that has a pixel, or -1. -/
def idxL : List (List Nat) → Nat → Int
  | [],_ => -1
  | l :: ls, q => if q ∈ l then 0 else if idxL ls q = -1 then -1 else idxL ls q + 1
section
variable {W H : Nat} {S : Nat → Bool} {p q r : Nat}
theorem partsTo_new (h : S p = true) (k : ∀ l, l ∈ partsTo W H S p → p ∉ l) : partsTo W H S (p + 1) = partsTo W H S p ++ [compL W H S p] := by
  rw [partsTo, if_pos]
  rw [Bool.and_eq_true, Bool.not_eq_true', List.any_eq_false]
  exact ⟨h, fun l hl => by simpa using k l hl⟩
theorem partsTo_old (h : ¬ (S p = true ∧ ∀ l, l ∈ partsTo W H S p → p ∉ l)) : partsTo W H S (p + 1) = partsTo W H S p := by
  rw [partsTo, if_neg]
  intro q
  rw [Bool.and_eq_true, Bool.not_eq_true', List.any_eq_false] at q
  exact h ⟨q.1, fun l hl => by simpa using q.2 l hl⟩
theorem mem_partsTo {l : List Nat} : ∀ {p}, l ∈ partsTo W H S p → ∃ r, r < p ∧ S r = true ∧ l = compL W H S r
  | 0, h => by simp [partsTo] at h
  | p + 1, h => by
    by_cases q : S p = true ∧ ∀ l, l ∈ partsTo W H S p → p ∉ l
    · rw [partsTo_new q.1 q.2] at h
      rcases List.mem_append.1 h with h | h
      · obtain ⟨r, h1, h2⟩ := mem_partsTo h; exact ⟨r, by omega, h2⟩
      · exact ⟨p, by omega, q.1, by simpa using h⟩
    · rw [partsTo_old q] at h
      obtain ⟨r, h1, h2⟩ := mem_partsTo h; exact ⟨r, by omega, h2⟩
/-- A part is closed. -/
theorem parts_cn {l : List Nat} (hp : p ≤ W * H) (hl : l ∈ partsTo W H S p) (ha : q ∈ l) : S q = true ∧ q < W * H ∧ (∀ x, x ∈ l ↔ Cn W H S q x) ∧ l = compL W H S q := by
  obtain ⟨r, h1, h2, rfl⟩ := mem_partsTo hl
  have hr : r < W * H := by omega
  have h3 := (mem_compL hr h2).1 ha
  have e := compL_eq hr h3
  exact ⟨h3.right, h3.lt hr, fun x => by rw [← e]; exact mem_compL (h3.lt hr) h3.right, e.symm⟩
theorem parts_all (hp : p ≤ W * H) (hq : q < p) (hs : S q = true) : ∃ l, l ∈ partsTo W H S p ∧ q ∈ l := by
  induction p with
  | zero => omega
  | succ p ih =>
    by_cases z : S p = true ∧ ∀ l, l ∈ partsTo W H S p → p ∉ l
    · rw [partsTo_new z.1 z.2]
      rcases Nat.lt_or_ge q p with h | h
      · obtain ⟨l, h1, h2⟩ := ih (by omega) h; exact ⟨l, by simp [h1], h2⟩
      · have : q = p := by omega
        subst this
        exact ⟨compL W H S q, by simp, mem_self (by omega)⟩
    · rw [partsTo_old z]
      rcases Nat.lt_or_ge q p with h | h
      · exact ih (by omega) h
      · have : q = p := by omega
        subst this
        exact Classical.byContradiction fun k => z ⟨hs, fun l h1 h2 => k ⟨l, h1, h2⟩⟩
/-- No two parts have a pixel in common. -/
theorem parts_apart (hp : p ≤ W * H) : (partsTo W H S p).Pairwise fun a b => ∀ x, x ∈ a → x ∉ b := by
  induction p with
  | zero => exact List.Pairwise.nil
  | succ p ih =>
    by_cases z : S p = true ∧ ∀ l, l ∈ partsTo W H S p → p ∉ l
    · rw [partsTo_new z.1 z.2]
      refine List.pairwise_append.2 ⟨ih (by omega), List.pairwise_singleton _ _, fun a ha b hb x hx hx2 => ?_⟩
      simp at hb; subst hb
      have h1 := (mem_compL (by omega : p < W * H) z.1).1 hx2
      obtain ⟨_, h2, h3,_⟩ := parts_cn (by omega) ha hx
      exact z.2 a ha ((h3 p).2 (h1.symm (by omega)))
    · rw [partsTo_old z]; exact ih (by omega)
theorem idx_neg : ∀ {ls : List (List Nat)}, (∀ l, l ∈ ls → q ∉ l) → idxL ls q = -1
  | [],_ => rfl
  | l :: ls, h => by
    unfold idxL
    rw [if_neg (h l (by simp)), if_pos (idx_neg fun m hm => h m (by simp [hm]))]
theorem idx_ge {q : Nat} : ∀ {ls : List (List Nat)}, -1 ≤ idxL ls q
  | [] => by simp [idxL]
  | l :: ls => by have := idx_ge (q := q) (ls := ls); unfold idxL; split <;> (try split) <;> omega
theorem idx_at : ∀ {ls : List (List Nat)} {i : Nat} {l : List Nat}, ls.Pairwise (fun a b => ∀ x, x ∈ a → x ∉ b) → ls[i]? = some l → q ∈ l → idxL ls q = i
  | [], i, l,_, h,_ => by simp at h
  | m :: ls, 0, l,_, h, hq => by simp at h; subst h; unfold idxL; rw [if_pos hq]; rfl
  | m :: ls, i + 1, l, hp, h, hq => by
    obtain ⟨h1, h2⟩ := List.pairwise_cons.1 hp
    have h3 : ls[i]? = some l := by simpa using h
    have h4 := idx_at h2 h3 hq
    have hm : q ∉ m := fun z => h1 l (List.mem_of_getElem? h3) q z hq
    unfold idxL
    rw [if_neg hm, h4, if_neg (by omega)]
    omega
theorem idx_neg_iff {ls : List (List Nat)} : idxL ls q < 0 ↔ ∀ l, l ∈ ls → q ∉ l := by
  constructor
  · intro h l hl hq
    obtain ⟨i, hi⟩ := List.mem_iff_getElem?.1 hl
    have : ∀ {ls : List (List Nat)}, l ∈ ls → 0 ≤ idxL ls q := fun {ls} => by
      induction ls with
      | nil => intro h; cases h
      | cons m ls ih =>
        intro h
        unfold idxL
        rcases List.mem_cons.1 h with e | e
        · subst e; rw [if_pos hq]; exact Int.le_refl _
        · have := ih e; split
          · exact Int.le_refl _
          · split <;> omega
    have := this hl; omega
  · intro h; rw [idx_neg h]; omega
theorem idx_app {ls : List (List Nat)} {l : List Nat} : idxL (ls ++ [l]) q = if idxL ls q = -1 then (if q ∈ l then (ls.length : Int) else -1) else idxL ls q := by
  induction ls with
  | nil => simp [idxL]
  | cons m ls ih =>
    rw [List.cons_append, idxL, idxL, ih]
    by_cases z : q ∈ m
    · rw [if_pos z, if_pos z, if_neg (by omega)]
    · rw [if_neg z, if_neg z]
      have h0 := idx_ge (q := q) (ls := ls)
      by_cases y : idxL ls q = -1
      · rw [if_pos y, if_pos y, if_pos rfl]
        by_cases x : q ∈ l
        · rw [if_pos x, if_pos x, if_neg (by omega)]; simp only [List.length_cons]; omega
        · rw [if_neg x, if_neg x, if_pos rfl]
      · rw [if_neg y, if_neg y, if_neg (by omega)]
end
end Go.Cell

namespace Go.Cell
set_option linter.unusedVariables false
section
variable {W H : Nat} {S T : Nat → Bool} {p q r : Nat}
theorem compL_ne (hp : p < W * H) : compL W H S p ≠ [] := fun e => by have := mem_self (S := S) hp; rw [e] at this; cases this
theorem headD_mem {l : List Nat} (h : l ≠ []) : l.headD 0 ∈ l := by cases l with | nil => exact absurd rfl h | cons a l => simp
end
end Go.Cell

namespace Go.Proofs.YtffbohecdocajaaGreat
open Go.SL Go.Proofs Go.Cast Go.Cell
set_option linter.unusedVariables false

theorem F304_0 : FieldAt Tryz.prog 304 0 0 := ⟨_,_, Tryz.underlying304, rfl, rfl, 5, by kernel_rfl⟩
theorem F304_1 : FieldAt Tryz.prog 304 1 6 := ⟨_,_, Tryz.underlying304, rfl, rfl, 0, by kernel_rfl⟩
theorem mixedv : Tryz.prog.follows .mixedOrders = true := by kernel_rfl
theorem B25v : Builds Tryz.prog 25 [(0,1), (1,1)] [.int .i64 0, .int .i64 0] := Builds.mk fun _ => by kernel_rfl
theorem Z304 : ZeroOf Tryz.prog 304 (.agg #[.int .i64 0, .int .i64 0, .int .i64 0, .int .i64 0, .int .i64 0, .slice none 0 0, .int .i64 0]) := by unfold ZeroOf; kernel_rfl
theorem C79 : IsFn Tryz.prog 79 := ⟨_, Tryz.func79, by decide, rfl⟩
theorem B304 : Builds Tryz.prog 304 [(0,6), (6,1)] [.int .i64 0, .int .i64 0, .int .i64 0, .int .i64 0, .int .i64 0, .slice none 0 0, .int .i64 0] := Builds.mk fun _ => by kernel_rfl
theorem N304 : (Tryz.prog.info? 304).map (·.size) = some 7 := by kernel_rfl
theorem A304 : IsAgg Tryz.prog 304 7 := ⟨⟨_, Tryz.underlying304, rfl⟩, by kernel_rfl⟩


abbrev nC (p : Nat) : List Value := [.int .i64 (p : Int)]
abbrev iC (n : Int) : List Value := [.int .i64 n]
abbrev fieldV (g : Grid) (pv : Option Addr) (n cv : Nat) : Value := .agg #[.int .i64 g.x, .int .i64 g.y, .int .i64 g.size, .int .i64 g.wide, .int .i64 g.high, .slice pv n cv]
abbrev sheetV (g : Grid) (pv : Option Addr) (n cv : Nat) (lv : Int) : Value := .agg #[.int .i64 g.x, .int .i64 g.y, .int .i64 g.size, .int .i64 g.wide, .int .i64 g.high, .slice pv n cv, .int .i64 lv]
/-- Which pixels may be in, and which are in. -/
def mayB (vs : List Spanv) (lv : Int) (p : Nat) : Bool := decide (lv ≤ (vs.getD p ⟨0,0⟩).hi)
def inBv (vs : List Spanv) (lv : Int) (p : Nat) : Bool := decide (lv ≤ (vs.getD p ⟨0,0⟩).lo)
def openE (g : Grid) (vs : List Spanv) (lv : Int) : Int := if fieldE 1073741824 ⟨g, vs⟩ ≠ 0 then fieldE 1073741824 ⟨g, vs⟩ else if lv < 1 ∨ 1073741824 < lv then 3 else 0
theorem oE1 {g : Grid} {vs : List Spanv} {lv : Int} (h : fieldE 1073741824 ⟨g, vs⟩ ≠ 0) : fieldE 1073741824 ⟨g, vs⟩ = openE g vs lv := (if_pos h).symm
theorem openOk {g : Grid} {vs : List Spanv} {lv : Int} (h : openE g vs lv = 0) : gridOk g ∧ (vs.length : Int) = g.wide * g.high ∧ (∀ j, j < vs.length → spanOk 1073741824 (vs.getD j ⟨0,0⟩)) ∧ 1 ≤ lv ∧ lv ≤ 1073741824 := by
  unfold openE at h
  split at h
  · rename_i q; exact absurd h q
  · rename_i q
    split at h
    · omega
    · rename_i z
      have q := Classical.not_not.1 q
      unfold fieldE at q
      split at q
      · omega
      · rename_i y
        split at q
        · omega
        · rename_i x
          refine ⟨Classical.not_not.1 y, Classical.not_not.1 x, fun j hj => ?_, by omega, by omega⟩
          have := firstE_eq q j hj
          unfold valE at this
          split at this
          · assumption
          · omega

set_option maxRecDepth 20000 in
theorem may_c (g : Grid) (vs : List Spanv) (pv : Option Addr) (cv : Nat) (lv : Int) (p : Nat) (w : World) (hv : Spansv w pv vs) (hp : p < vs.length) :
  Calls Tryz.prog 175 #[sheetV g pv vs.length cv lv, .int .i64 (p : Int)] w fun e w' => e = .returned (.bool (mayB vs lv p)) ∧ St (bs w) [] w' := by
  refine enter (vs := [_,_]) (env := [(0,_), (1,_)]) Tryz.func175 rfl rfl rfl rfl ?_
  refine VC.seq ?_
  refine VC.reg (VO.h rfl<|HO.box (C := #[_,_,_,_,_,_,_]) rfl rfl fun b1 => VO.l (LO.as (.r rfl)) rfl<|VO.nil ?_)
  refine VE.seqN ?_
  refine VC.seq ?_
  refine VC.draw mixedv (LL.l (LO.fa (r := 0) F304_0 (.r rfl) rfl) rfl<|LL.l (LO.fa (r := 5) F108_1 (.r rfl) rfl) rfl<|LL.l (LO.ld O45v (.r rfl) (fun _ hw => cells_at hw 0 rfl ⟨_, rfl⟩)) rfl<|LL.l (LO.mv (.r rfl)) rfl<|LL.l (LO.ixs S45v N25v hv.some (.r rfl) (.r rfl) rfl (by omega)) rfl<|LL.l (LO.fa F25_1v (.r rfl) rfl) rfl<|LL.l (LO.ld O3v (.r rfl) (fun w hw => cells_part (off := 1) ((hv.at (j := p) (by omega)) w hw) ⟨_, rfl⟩)) rfl<|LL.l (LO.fa (r := 6) F304_1 (.r rfl) rfl) rfl<|LL.l (LO.ld O3v (.r rfl) (fun _ hw => cells_at hw 0 rfl ⟨_, rfl⟩)) rfl<|LL.l (LO.ge (.r rfl) (.r rfl)) rfl<|LL.l (LO.as (.r rfl)) rfl<|LL.nil) (by kernel_rfl) ?_
  refine VE.seqN ?_
  refine VC.ret (VE.res (vs := [_]) rfl ⟨rfl, trivial⟩ (fun w hw => ?_))
  exact ⟨rfl, hw.nil⟩

set_option maxRecDepth 20000 in
theorem in_c (g : Grid) (vs : List Spanv) (pv : Option Addr) (cv : Nat) (lv : Int) (p : Nat) (w : World) (hv : Spansv w pv vs) (hp : p < vs.length) :
  Calls Tryz.prog 177 #[sheetV g pv vs.length cv lv, .int .i64 (p : Int)] w fun e w' => e = .returned (.bool (inBv vs lv p)) ∧ St (bs w) [] w' := by
  refine enter (vs := [_,_]) (env := [(0,_), (1,_)]) Tryz.func177 rfl rfl rfl rfl ?_
  refine VC.seq ?_
  refine VC.reg (VO.h rfl<|HO.box (C := #[_,_,_,_,_,_,_]) rfl rfl fun b1 => VO.l (LO.as (.r rfl)) rfl<|VO.nil ?_)
  refine VE.seqN ?_
  refine VC.seq ?_
  refine VC.draw mixedv (LL.l (LO.fa (r := 0) F304_0 (.r rfl) rfl) rfl<|LL.l (LO.fa (r := 5) F108_1 (.r rfl) rfl) rfl<|LL.l (LO.ld O45v (.r rfl) (fun _ hw => cells_at hw 0 rfl ⟨_, rfl⟩)) rfl<|LL.l (LO.mv (.r rfl)) rfl<|LL.l (LO.ixs S45v N25v hv.some (.r rfl) (.r rfl) rfl (by omega)) rfl<|LL.l (LO.fa F25_0v (.r rfl) rfl) rfl<|LL.l (LO.ld O3v (.r rfl) (fun w hw => cells_part (off := 0) ((hv.at (j := p) (by omega)) w hw) ⟨_, rfl⟩)) rfl<|LL.l (LO.fa (r := 6) F304_1 (.r rfl) rfl) rfl<|LL.l (LO.ld O3v (.r rfl) (fun _ hw => cells_at hw 0 rfl ⟨_, rfl⟩)) rfl<|LL.l (LO.ge (.r rfl) (.r rfl)) rfl<|LL.l (LO.as (.r rfl)) rfl<|LL.nil) (by kernel_rfl) ?_
  refine VE.seqN ?_
  refine VC.ret (VE.res (vs := [_]) rfl ⟨rfl, trivial⟩ (fun w hw => ?_))
  exact ⟨rfl, hw.nil⟩

set_option maxRecDepth 20000 in
theorem hull_c (a b n : Int) (w : World) :
  Calls Tryz.prog 176 #[.agg #[.int .i64 a, .int .i64 b], .int .i64 n] w fun e w' => e = .returned (.agg #[.int .i64 (min a n), .int .i64 (max b n)]) ∧ St (bs w) [] w' := by
  refine enter (vs := [_,_]) (env := [(0,_), (1,_)]) Tryz.func176 rfl rfl rfl rfl ?_
  refine VC.seq ?_
  refine VC.reg (VO.h rfl<|HO.box (C := #[_,_]) rfl rfl fun b1 => VO.h rfl<|HO.alloc (C := #[_,_]) Z25v rfl fun b2 => VO.nil ?_)
  refine VE.seqN ?_
  refine VC.seq ?_
  refine VC.reg (VO.l (LO.fa (r := 0) F25_0v (.r rfl) rfl) rfl<|VO.l (LO.ld O3v (.r rfl) (fun _ hw => cells_at hw 1 rfl ⟨_, rfl⟩)) rfl<|VO.l (LO.mv (.r rfl)) rfl<|VO.l (LO.min (.r rfl) (.r rfl)) rfl<|VO.l (LO.fa (r := 1) F25_1v (.r rfl) rfl) rfl<|VO.l (LO.ld O3v (.r rfl) (fun _ hw => cells_at hw 1 rfl ⟨_, rfl⟩)) rfl<|VO.l (LO.mv (.r rfl)) rfl<|VO.l (LO.max (.r rfl) (.r rfl)) rfl<|VO.l (LO.bd (ps := [(_,_), (_,_)]) (vs := [(_,_), (_,_)]) (C := [_,_]) B25v  ⟨(.r rfl), (.r rfl), trivial⟩ rfl ⟨_, [_], [_,_], rfl, rfl, rfl, rfl, ⟨_, [_], [_,_], rfl, rfl, rfl, rfl, rfl⟩⟩) rfl<|VO.h0<|HO.st 0 (vs := [_,_]) (C' := [_,_]) (L' := [_,_]) N25v rfl rfl rfl rfl rfl rfl rfl rfl<|VO.nil ?_)
  refine VE.seqN ?_
  refine VC.ret (VE.res (vs := [_]) rfl ⟨RV.agg (vs := [_,_]) A25v rfl (cells_blk 0 rfl ⟨_, rfl⟩) rfl, trivial⟩ (fun w hw => ?_))
  exact ⟨rfl, hw.nil⟩

set_option maxRecDepth 20000 in
theorem opened_ok (g : Grid) (vs : List Spanv) (pv : Option Addr) (cv : Nat) (lv : Int) (w : World) (hv : Spansv w pv vs) (hok : openE g vs lv = 0) :
  Calls Tryz.prog 109 #[fieldV g pv vs.length cv, .int .i64 lv] w fun e w' => e = .returned (.tuple #[sheetV g pv vs.length cv lv, .int .i64 0]) ∧ St (bs w) [] w' := by
  refine enter (vs := [_,_]) (env := [(0,_), (1,_)]) Tryz.func109 rfl rfl rfl rfl ?_
  refine VC.seq ?_
  refine VC.reg (VO.h rfl<|HO.box (C := #[_,_,_,_,_,_]) rfl rfl fun b1 => VO.h rfl<|HO.alloc (C := #[_,_,_,_,_,_,_]) Z304 rfl fun b2 => VO.l (LO.as (.r rfl)) rfl<|VO.nil ?_)
  refine VE.seqN ?_
  refine VC.seq ?_
  refine VC.seq ?_
  refine VC.reg (VO.l (LO.lda (vs := [_,_,_,_,_,_]) A108 (.r rfl) (fun _ hw => cells_at hw 1 rfl ⟨_, rfl⟩) rfl) rfl<|VO.l (LO.call (xs := [_]) (vs := [_]) C79 ⟨(.r rfl), trivial⟩ (fun w hw => bCheckField_c ⟨g, vs⟩ pv cv w (hv.keep w hw))) rfl<|VO.l (LO.as (.r rfl)) rfl<|VO.nil ?_)
  refine VE.seqN ?_
  refine VC.seq ?_
  refine VC.reg (VO.l (LO.mv (.r rfl)) rfl<|VO.l (LO.ne (.r rfl) (.r rfl)) rfl<|VO.nil ?_)
  refine VE.seqN ?_
  refine VC.cond rfl (fun h1 => ?_) (fun h1 => ?_)
  ·
    (exfalso; exact h1 (by have z := oE1 (lv := lv) h1; rw [hok] at z; exact z))
  ·
    refine VC.skip (VE.seqN ?_)
    refine VC.seq ?_
    refine VC.seq ?_
    refine VC.reg (VO.l (LO.mv (.r rfl)) rfl<|VO.l (LO.lt (.r rfl) (.r rfl)) rfl<|VO.l (LO.mv (.r rfl)) rfl<|VO.lg rfl rfl (GD.f _) (fun hg => LO.mv (.r rfl)) rfl<|VO.lg rfl rfl (GD.f _) (fun hg => LO.gt (.g hg rfl) (.r rfl)) rfl<|VO.l (LO.pkO (.r rfl) (.r rfl) rfl rfl) rfl<|VO.nil ?_)
    refine VE.seqN ?_
    refine VC.cond rfl (fun h2 => ?_) (fun h2 => ?_)
    ·
      (exfalso; have z := openOk hok; first | omega | (simp at h2; omega))
    ·
      refine VC.skip (VE.seqN ?_)
      refine VC.seq ?_
      refine VC.reg (VO.l (LO.lda (vs := [_,_,_,_,_,_]) A108 (.r rfl) (fun _ hw => cells_at hw 1 rfl ⟨_, rfl⟩) rfl) rfl<|VO.l (LO.mv (.r rfl)) rfl<|VO.l (LO.bd (ps := [(_,_), (_,_)]) (vs := [(_,_), (_,_)]) (C := [_,_,_,_,_,_,_]) B304  ⟨(.r rfl), (.r rfl), trivial⟩ rfl ⟨_, [_,_,_,_,_,_], [_,_,_,_,_,_,_], rfl, rfl, rfl, rfl, ⟨_, [_], [_,_,_,_,_,_,_], rfl, rfl, rfl, rfl, rfl⟩⟩) rfl<|VO.h0<|HO.st 0 (vs := [_,_,_,_,_,_,_]) (C' := [_,_,_,_,_,_,_]) (L' := [_,_]) N304 rfl rfl rfl rfl rfl rfl rfl rfl<|VO.l (LO.as (.r rfl)) rfl<|VO.nil ?_)
      refine VE.seqN ?_
      refine VC.ret (VE.res (vs := [_,_]) rfl ⟨RV.agg (vs := [_,_,_,_,_,_,_]) A304 rfl (cells_blk 0 rfl ⟨_, rfl⟩) rfl, rfl, trivial⟩ (fun w hw => ?_))
      exact ⟨rfl, hw.nil⟩

end Go.Proofs.YtffbohecdocajaaGreat

namespace Go.Proofs.YtffbohecdocajaaGreat
open Go.SL Go.Proofs Go.Cast Go.Cell
set_option linter.unusedVariables false



abbrev arF (bp bg : Nat) : Value := .func (.func 264) #[] #[.pointer (some ⟨bp, 0, none⟩), .pointer (some ⟨bg, 0, none⟩)]
abbrev gridC (g : Grid) : List Value := [.int .i64 g.x, .int .i64 g.y, .int .i64 g.size, .int .i64 g.wide, .int .i64 g.high]
structure arCap (g : Grid) (p : Nat) (bp bg : Nat) (w : World) : Prop where
  p : Cells w ⟨bp, 0, none⟩ [.int .i64 (p : Int)]
  g : Cells w ⟨bg, 0, none⟩ (gridC g)
/-- Wide and high, as numbers. -/
abbrev gW (g : Grid) : Nat := g.wide.toNat
abbrev gH (g : Grid) : Nat := g.high.toNat
theorem gWi {g : Grid} (h : gridOk g) : (gW g : Int) = g.wide ∧ (gH g : Int) = g.high ∧ 1 ≤ gW g ∧ gW g ≤ 64 ∧ 1 ≤ gH g ∧ gH g ≤ 64 := by
  obtain ⟨_,_,_, h4, h5⟩ := h; unfold gW gH; omega
theorem mod_n {g : Grid} (h : gridOk g) (p : Nat) : ((p : Int)).tmod g.wide = ((p % gW g : Nat) : Int) := by
  rw [← (gWi h).1]; rfl
theorem div_n {g : Grid} (h : gridOk g) (p : Nat) : ((p : Int)).tdiv g.wide = ((p / gW g : Nat) : Int) := by
  rw [← (gWi h).1]; rfl
theorem area_n {g : Grid} (h : gridOk g) : ((gW g * gH g : Nat) : Int) = g.wide * g.high := by rw [Int.natCast_mul, (gWi h).1, (gWi h).2.1]
theorem len_n {g : Grid} (h : gridOk g) {n : Nat} (k : (n : Int) = g.wide * g.high) : n = gW g * gH g := by rw [← area_n h] at k; omega
theorem area_le {g : Grid} (h : gridOk g) : gW g * gH g ≤ 4096 := by have := area_bd h; have := area_n h; omega
/-- A stage of a sequence: stopped ahead, or not. -/
theorem stage {J Jx : Nat → Res → Prop} {s d b : Bool} {k len : Nat} {r r' : Res} (h1 : s = false → J k r) (h2 : s = true → ∃ n, n ≤ len ∧ Jx n r) (hk : d = true → k + 1 ≤ len) (hp : (!s && d) = true → if b = true then J (k + 1) r' else Jx (k + 1) r') (hq : (!s && d) = false → r' = r) :
    ((s || (d && !b)) = false → J (k + d.toNat) r') ∧ ((s || (d && !b)) = true → ∃ n, n ≤ len ∧ Jx n r') := by
  cases s with
  | true => exact ⟨fun h => (by cases h), fun _ => by rw [hq rfl]; exact h2 rfl⟩
  | false =>
    cases d with
    | false => exact ⟨fun _ => by rw [hq rfl]; exact h1 rfl, fun h => (by cases h)⟩
    | true =>
      cases b with
      | true => exact ⟨fun _ => by have := hp rfl; rw [if_pos rfl] at this; exact this, fun h => (by cases h)⟩
      | false => exact ⟨fun h => (by cases h), fun _ => ⟨k + 1, hk rfl, by have := hp rfl; rw [if_neg (by decide)] at this; exact this⟩⟩
theorem nb_1 {W H p : Nat} (h : 0 < p / W) : (nb W H p)[0]? = some (p - W) := by unfold nb; rw [if_pos h]; rfl
theorem nb_2 {W H p : Nat} (h : 0 < p % W) : (nb W H p)[(decide (0 < p / W)).toNat]? = some (p - 1) := by
  unfold nb; rw [if_pos h]
  by_cases q : 0 < p / W
  · rw [if_pos q, decide_eq_true q]; rfl
  · rw [if_neg q, decide_eq_false q]; rfl
theorem nb_3 {W H p : Nat} (h : p % W + 1 < W) : (nb W H p)[(decide (0 < p / W)).toNat + (decide (0 < p % W)).toNat]? = some (p + 1) := by
  unfold nb; rw [if_pos h]
  by_cases q : 0 < p / W <;> by_cases z : 0 < p % W
  · rw [if_pos q, decide_eq_true q, if_pos z, decide_eq_true z]; rfl
  · rw [if_pos q, decide_eq_true q, if_neg z, decide_eq_false z]; rfl
  · rw [if_neg q, decide_eq_false q, if_pos z, decide_eq_true z]; rfl
  · rw [if_neg q, decide_eq_false q, if_neg z, decide_eq_false z]; rfl
theorem nb_len {W H p : Nat} : (nb W H p).length = (decide (0 < p / W)).toNat + (decide (0 < p % W)).toNat + (decide (p % W + 1 < W)).toNat + (decide (p / W + 1 < H)).toNat := by
  unfold nb
  simp only [List.length_append]
  have key : ∀ {c : Prop} [Decidable c] {x : Nat}, (if c then [x] else []).length = (decide c).toNat := fun {c} _ {x} => by
    by_cases q : c
    · rw [if_pos q, decide_eq_true q]; rfl
    · rw [if_neg q, decide_eq_false q]; rfl
  rw [key, key, key, key]
theorem nb_4 {W H p : Nat} (h : p / W + 1 < H) : (nb W H p)[(decide (0 < p / W)).toNat + (decide (0 < p % W)).toNat + (decide (p % W + 1 < W)).toNat]? = some (p + W) := by
  have hl := nb_len (W := W) (H := H) (p := p)
  rw [decide_eq_true h] at hl
  have hl2 : ((if 0 < p / W then [p - W] else []) ++ (if 0 < p % W then [p - 1] else []) ++ (if p % W + 1 < W then [p + 1] else []) : List Nat).length = (decide (0 < p / W)).toNat + (decide (0 < p % W)).toNat + (decide (p % W + 1 < W)).toNat := by
    have e : (nb W H p).length = ((if 0 < p / W then [p - W] else []) ++ (if 0 < p % W then [p - 1] else []) ++ (if p % W + 1 < W then [p + 1] else []) : List Nat).length + 1 := by
      unfold nb; rw [if_pos h, List.length_append]; rfl
    simp only [Bool.toNat_true] at hl
    omega
  unfold nb
  rw [if_pos h, List.getElem?_append_right (by omega), hl2, Nat.sub_self]
  rfl
theorem sub_n {g : Grid} (h : gridOk g) {p : Nat} (q : 0 < p / gW g) : (p : Int) - g.wide = ((p - gW g : Nat) : Int) := by
  have h1 := (gWi h).1
  have h2 : gW g ≤ p := by
    rcases Nat.lt_or_ge p (gW g) with z | z
    · rw [Nat.div_eq_of_lt z] at q; omega
    · exact z
  omega
theorem sub1_n {p W : Nat} (q : 0 < p % W) : (p : Int) - 1 = ((p - 1 : Nat) : Int) := by
  have : 0 < p := by
    rcases Nat.eq_zero_or_pos p with z | z
    · subst z; simp at q
    · exact z
  omega
theorem seq_stop {J Jx : Nat → Res → Prop} {xs : List (List Value)} {n : Nat} {r : Res} (h : n ≤ xs.length) (k : Jx n r) : J xs.length r ∨ ∃ n, n ≤ xs.length ∧ Jx n r := .inr ⟨n, h, k⟩
theorem seq_full {J Jx : Nat → Res → Prop} {xs : List (List Value)} {r : Res} (k : J xs.length r) : J xs.length r ∨ ∃ n, n ≤ xs.length ∧ Jx n r := .inl k
theorem seq_endv {J Jx : Nat → Res → Prop} {xs : List (List Value)} {r : Res} {β : Bs} {w : World} (h : J xs.length r ∨ ∃ n, n ≤ xs.length ∧ Jx n r) (hw : St β [r] w) : ∃ n r', (J xs.length r' ∨ (n ≤ xs.length ∧ Jx n r')) ∧ St β [r'] w := by
  rcases h with h | ⟨n, h1, h2⟩
  · exact ⟨0, r, .inl h, hw⟩
  · exact ⟨n, r, .inr ⟨h1, h2⟩, hw⟩

set_option maxRecDepth 20000 in
theorem around_c (g : Grid) (p : Nat) (w : World) :
  Calls Tryz.prog 225 #[gridV g, .int .i64 (p : Int)] w fun e w' => ∃ y : Nat × Nat, True ∧ e = .returned (arF y.1 y.2) ∧ St (bs w) [blk y.1 (.cells #[.int .i64 (p : Int)] 3), blk y.2 (.cells (gridC g).toArray 88)] w' := by
  refine enter (vs := [_,_]) (env := [(0,_), (1,_)]) Tryz.func225 rfl rfl rfl rfl ?_
  refine VC.seq ?_
  refine VC.reg (VO.h rfl<|HO.box (C := #[_,_,_,_,_]) rfl rfl fun b1 => VO.h rfl<|HO.box (C := #[_]) rfl rfl fun b2 => VO.l (LO.as (.r rfl)) rfl<|VO.nil ?_)
  refine VE.seqN ?_
  refine VC.seq ?_
  refine VC.reg (VO.h rfl<|HO.lo (LO.mf (cap := [_,_]) ⟨(.r rfl), (.r rfl), trivial⟩)<|VO.h rfl<|HO.lo (LO.as (.r rfl))<|VO.nil ?_)
  refine VE.seqN ?_
  refine VC.ret (VE.res (vs := [_]) rfl ⟨rfl, trivial⟩ (fun w hw => ?_))
  exact ⟨(b2, b1), trivial, rfl, hw⟩

end Go.Proofs.YtffbohecdocajaaGreat
