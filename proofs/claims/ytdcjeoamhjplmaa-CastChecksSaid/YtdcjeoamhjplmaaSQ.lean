/-
  Sets of ints: maps from int to bool whose values are all true.
-/
import Derived.Test.YtdcjeoamhjplmaaSR
namespace Go.SL
set_option linter.unusedVariables false
open Go.RowKit

/-- The entries are those of a set. -/
structure SetE (es : List MapEntry) (S : Int → Bool) : Prop where
  ent : ∀ e, e ∈ es → ∃ n, e.key = intV n ∧ e.val = .bool true ∧ S n = true
  mem : ∀ n, S n = true → ∃ e, e ∈ es ∧ e.key = intV n
  nod : es.Pairwise fun a b => a.key ≠ b.key

/-- Each entry bears a stamp of its own, of a time before now. -/
def Stamps (es : List MapEntry) (clock : Nat) : Prop := (es.map (·.born)).Nodup ∧ ∀ e, e ∈ es → e.born < clock

def setR (b : Nat) (S : Int → Bool) : Res := ⟨fun k => k = b, fun w => ∃ es clock, w.heap[b]? = some (.map es clock) ∧ SetE es.toList S ∧ Stamps es.toList clock, fun h ⟨es, c, h1, h2⟩ => ⟨es, c, (h b rfl).trans h1, h2⟩⟩

theorem intV_inj {a b : Int} (h : intV a = intV b) : a = b := by simpa [intV] using h

theorem findNow_set {k : IntKind} {n : Int} : ∀ {es : List MapEntry} (i : Nat), (∀ e, e ∈ es → ∃ m, e.key = intV m ∧ e.val = .bool true) →
    (∃ j, Instr.findNow (.int k) (intV n) es i = some (some (j, .bool true)) ∧ i ≤ j ∧ ∃ e, es[j - i]? = some e ∧ e.key = intV n) ∨ (Instr.findNow (.int k) (intV n) es i = some none ∧ ∀ e, e ∈ es → e.key ≠ intV n)
  | [], i, _ => .inr ⟨rfl, by simp⟩
  | e :: es, i, h => by
    obtain ⟨m, hm, hv⟩ := h e (by simp)
    simp only [Instr.findNow, hm, intV, Instr.sameNow, if_true]
    by_cases q : n = m
    · subst q
      left
      simp only [beq_self_eq_true]
      exact ⟨i, by rw [hv], Nat.le_refl _, e, by simp, hm⟩
    · have : (n == m) = false := by simp [q]
      rw [this]
      rcases findNow_set (k := k) (n := n) (es := es) (i + 1) (fun e' he => h e' (by simp [he])) with ⟨j, h1, h2, e', h3, h4⟩ | ⟨h1, h2⟩
      · left
        refine ⟨j, h1, by omega, e', ?_, h4⟩
        rw [show j - i = (j - (i + 1)) + 1 by omega]
        simpa using h3
      · right
        refine ⟨h1, ?_⟩
        intro e' he
        rcases List.mem_cons.1 he with rfl | he
        · rw [hm]; exact fun e => q (intV_inj e).symm
        · exact h2 e' he

section
variable {P : Program} {ro : Option Nat} {β : Bs} {N : Nat} {ds : List Deferred} {env : Env} {L : List Res} {Q : Exit → Act → World → Prop}
variable {d : Option Nat} {ty : TypeId} {pos : String} {aft : Array Edge} {g : Option (Nat × Bool)}

def IsSet (P : Program) (T : Nat) : Prop := ∃ K E k, P.underlying T = some (.map K E) ∧ P.underlying K = some (.int k) ∧ ZeroOf P E (.bool false)

theorem checkKey_int {K : TypeId} {k : IntKind} (hK : P.underlying K = some (.int k)) (e : Bool) (n : Nat) (v : Value) (w : World) : (Instr.checkKey e (n + 1) K v).run P w = .ok () w := by
  simp [Instr.checkKey, run_underlying hK]

theorem run_lookup_set {T b : Nat} {S : Int → Bool} {n : Int} {w : World} (hT : IsSet P T) (hi : (setR b S).inv w) : (Instr.lookup T (.map (some b)) (intV n) false).run P w = .ok (.bool (S n)) w := by
  obtain ⟨K, E, k, hu, hK, hz⟩ := hT
  obtain ⟨es, clock, hb, hs, _⟩ := hi
  have hobj : (getObj b).run P w = .ok (.map es clock) w := by simp [getObj, Sem.run, hb]
  simp only [Instr.lookup, Sem.run_bind, run_underlying hu, Result.andThen_ok, hobj, Sem.run_pure, checkKey_int hK, Instr.findKey, run_underlying hK]
  rcases findNow_set (k := k) (n := n) (es := es.toList) 0 (fun e he => by obtain ⟨m, h1, h2, _⟩ := hs.ent e he; exact ⟨m, h1, h2⟩) with ⟨j, h1, h2, e, h3, h4⟩ | ⟨h1, h2⟩
  · rw [h1]
    have hm : e ∈ es.toList := List.mem_of_getElem? h3
    obtain ⟨m, g1, g2, g3⟩ := hs.ent e hm
    have : m = n := intV_inj (g1.symm.trans h4)
    subst this
    simp [g3]
  · rw [h1]
    have : S n = false := by
      cases q : S n
      · rfl
      · obtain ⟨e, he, hk⟩ := hs.mem n q
        exact absurd hk (h2 e he)
    simp [run_zero hz, this]

theorem LO.lk {x y : Operand} {T b : Nat} {S : Int → Bool} {n : Int} (hT : IsSet P T) (hx : OV env x (.map (some b))) (hy : OV env y (.int .i64 n)) (hi : ∀ w, St β L w → (setR b S).inv w) : LO P β env L ⟨d, .lookup T x y false, ty, pos, aft, g⟩ (.bool (S n)) :=
  .of_run fun a w h hw => ⟨w, by
    have := run_lookup_set (n := n) hT (hi w hw)
    simp only [intV] at this
    simp [execOp, h x (by simp [Op.operands]) _ hx, h y (by simp [Op.operands]) _ hy, this], hw⟩

def insB (S : Int → Bool) (n : Int) : Int → Bool := fun m => decide (m = n) || S m

theorem run_mapUpdate_set {T b : Nat} {S : Int → Bool} {n : Int} {w : World} (hT : IsSet P T) (i : Nat) (hw : St β L w) (hi : L[i]? = some (setR b S)) :
    ∃ w', (Instr.mapUpdate T (.map (some b)) (intV n) (.bool true)).run P w = .ok () w' ∧ St β (L.set i (setR b (insB S n))) w' := by
  obtain ⟨K, E, k, hu, hK, hz⟩ := hT
  obtain ⟨es, clock, hb, hs, hst⟩ := hw.inv i _ hi
  have hobj : (getObj b).run P w = .ok (.map es clock) w := by simp [getObj, Sem.run, hb]
  have hlt : i < L.length := by
    rcases Nat.lt_or_ge i L.length with q | q
    · exact q
    · simp [List.getElem?_eq_none q] at hi
  have hset : ∀ o, (setObj b o).run P w = .ok () (w.putObj b o) := fun o => by simp [setObj, Sem.run, hb, World.putObj]
  -- the set's block as a block
  have h1 : St β (L.set i (blk b (.map es clock))) w := hw.conv i hi (fun k hk => hk) hb
  have upd : ∀ es' clock', SetE es'.toList (insB S n) → Stamps es'.toList clock' → St β (L.set i (setR b (insB S n))) (w.putObj b (.map es' clock')) := by
    intro es' clock' hse hst'
    have hg : (L.set i (blk b (.map es clock)))[i]? = some (blk b (.map es clock)) := by simp [hlt]
    have h2 := h1.obj (o' := .map es' clock') i hg
    rw [List.set_set] at h2
    have hg2 : (L.set i (blk b (.map es' clock')))[i]? = some (blk b (.map es' clock')) := by simp [hlt]
    have h3 := h2.conv i (r' := setR b (insB S n)) hg2 (fun k hk => hk) ⟨es', clock', h2.inv i _ hg2, hse, hst'⟩
    rwa [List.set_set] at h3
  simp only [Instr.mapUpdate, Sem.run_bind, run_underlying hu, Result.andThen_ok, hobj, checkKey_int hK, Instr.findKey, run_underlying hK]
  rcases findNow_set (k := k) (n := n) (es := es.toList) 0 (fun e he => by obtain ⟨m, h1, h2, _⟩ := hs.ent e he; exact ⟨m, h1, h2⟩) with ⟨j, h1', h2, e, h3, h4⟩ | ⟨h1', h2⟩
  · rw [h1']
    simp only [Nat.sub_zero] at h3
    have hj : es[j]? = some e := by simpa using h3
    have hjl : j < es.size := (Array.getElem?_eq_some_iff.1 hj).1
    have hme : es[j] = e := (Array.getElem?_eq_some_iff.1 hj).2
    obtain ⟨m, g1, g2, g3⟩ := hs.ent e (List.mem_of_getElem? h3)
    have hmn : m = n := intV_inj (g1.symm.trans h4)
    subst hmn
    have hmod : (es.modify j fun e => { e with key := intV m, val := .bool true }) = es := by
      apply Array.ext
      · simp
      · intro k hk1 hk2
        rw [Array.getElem_modify]
        split
        · rename_i q
          subst q
          rw [hme, ← g1, ← g2]
        · rfl
    refine ⟨w.putObj b (.map es clock), ?_, upd es clock ?_ hst⟩
    · simp [hj, g1, Instr.keyThatStays, intV, Instr.sameBits]
      rw [show (es.modify j fun e => { key := Value.int .i64 m, val := Value.bool true, born := e.born }) = es from hmod, hset]
    · refine ⟨fun e' he' => ?_, fun k hk => ?_, hs.nod⟩
      · obtain ⟨a, b1, b2, b3⟩ := hs.ent e' he'
        exact ⟨a, b1, b2, by simp [insB, b3]⟩
      · simp only [insB, Bool.or_eq_true, decide_eq_true_eq] at hk
        rcases hk with rfl | hk
        · exact hs.mem _ g3
        · exact hs.mem k hk
  · rw [h1']
    refine ⟨_, hset _, upd (es.push { key := intV n, val := .bool true, born := clock }) (clock + 1) ?_ ?_⟩
    case refine_2 =>
      simp only [Array.toList_push]
      refine ⟨?_, fun e' he' => ?_⟩
      · rw [List.map_append, List.nodup_append]
        refine ⟨hst.1, by simp, ?_⟩
        intro a ha b hb
        obtain ⟨x, hx, rfl⟩ := List.mem_map.1 ha
        have := hst.2 x hx
        simp at hb
        omega
      · rcases List.mem_append.1 he' with q | q
        · have := hst.2 e' q; omega
        · simp at q; subst q; exact Nat.lt_succ_self _
    refine ⟨fun e' he' => ?_, fun k hk => ?_, ?_⟩
    · simp only [Array.toList_push, List.mem_append, List.mem_singleton] at he'
      rcases he' with he' | rfl
      · obtain ⟨a, b1, b2, b3⟩ := hs.ent e' he'
        exact ⟨a, b1, b2, by simp [insB, b3]⟩
      · exact ⟨n, rfl, rfl, by simp [insB]⟩
    · simp only [insB, Bool.or_eq_true, decide_eq_true_eq] at hk
      by_cases q : k = n
      · exact ⟨{ key := intV n, val := .bool true, born := clock }, by simp, by rw [q]⟩
      · obtain ⟨e, he, hke⟩ := hs.mem k (by simpa [q] using hk)
        exact ⟨e, by simp [he], hke⟩
    · simp only [Array.toList_push]
      rw [List.pairwise_append]
      refine ⟨hs.nod, by simp, ?_⟩
      intro a ha b hb
      simp at hb; subst hb
      exact h2 a ha

section
variable {K : Value → List Res → Prop} {dd : Option Nat}
theorem HO.mkset {T : Nat} (k : ∀ b, K (.map (some b)) (setR b (fun _ => false) :: L)) : HO P β env L ⟨dd, .makeMap T none, ty, pos, aft, none⟩ K := by
  intro a w h hw
  refine .inl ⟨_, w.alloc (.map #[] 0), _, _, ?_, .inl rfl, k w.heap.size, ?_⟩
  · simp [execOp, run_makeMap]
  · have h1 := hw.alloc (.map #[] 0)
    have := h1.conv 0 (r' := setR w.heap.size (fun _ => false)) rfl (fun k hk => hk) ⟨#[], 0, h1.inv 0 _ rfl, ⟨by simp, by simp, by simp⟩, by simp, by simp⟩
    simpa using this
theorem HO.mu (i : Nat) (LF : Res → List Res) {x y z : Operand} {T b : Nat} {S : Int → Bool} {n : Int} (hT : IsSet P T) (hx : OV env x (.map (some b))) (hy : OV env y (.int .i64 n)) (hz : OV env z (.bool true)) (hi : L[i]? = some (setR b S)) (hL : ∀ R : Res, L.set i R = LF R)
    (k : K undef (LF (setR b (insB S n)))) : HO P β env L ⟨dd, .mapUpdate T x y z, ty, pos, aft, none⟩ K := by
  intro a w h hw
  obtain ⟨w', h1, h2⟩ := run_mapUpdate_set (n := n) hT i hw hi
  simp only [intV] at h1
  refine .inl ⟨.skip, w', undef, _, ?_, .inr ⟨rfl, rfl⟩, k, by rw [← hL]; exact h2⟩
  have ex : a.eval x = .map (some b) := by obtain ⟨u, hu, e⟩ := hx; subst e; exact h x (by simp [Op.operands]) _ hu
  have ey : a.eval y = .int .i64 n := by obtain ⟨u, hu, e⟩ := hy; subst e; exact h y (by simp [Op.operands]) _ hu
  have ez : a.eval z = .bool true := by obtain ⟨u, hu, e⟩ := hz; subst e; exact h z (by simp [Op.operands]) _ hu
  simp [execOp, ex, ey, ez, h1]
end

/-- A call that leaves resources, said by a ghost. -/
theorem HO.callx {α : Type} {K : Value → List Res → Prop} {dd : Option Nat} {f : FuncId} {xs : List Operand} {vs : List Value} {aT : Array TypeId} {v : α → Value} {R : α → List Res} {I : α → Prop} (hf : IsFn P f) (hx : OVs env xs vs)
    (hc : ∀ w, St β L w → Calls P f vs.toArray w fun e w' => ∃ x, I x ∧ e = .returned (v x) ∧ St (Go.SL.bs w) (R x) w') (k : ∀ x, I x → K (v x) (R x ++ L)) : HO P β env L ⟨dd, .call ⟨.value (.func f), xs.toArray, aT⟩, ty, pos, aft, none⟩ K :=
  HO.call (post := fun v' R' => ∃ x, I x ∧ v' = v x ∧ R' = R x) hf hx (fun w hw => (hc w hw).mono fun e w' ⟨x, h1, h2, h3⟩ => ⟨v x, R x, h2, ⟨x, h1, rfl, rfl⟩, h3⟩) (fun v' R' ⟨x, h1, h2, h3⟩ => by subst h2; subst h3; exact k x h1)
end
end Go.SL
