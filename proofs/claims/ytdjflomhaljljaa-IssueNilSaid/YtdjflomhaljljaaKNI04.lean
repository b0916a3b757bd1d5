/-
  A range over a function whose order is open; a range over a map that is not written meanwhile.
  The entry of a range over a map; empty literals, capacities, slices up to a bound, zeros that are appended.
  Empty literals among blocks whose order is open.
  Resources in any order, bags of resources that lie apart, and calls that are handed several of them. No program stands in this text.
  Stores into a slice that is owned, and values of interfaces. No program stands in this text.
  Sets of strings: maps from string to bool whose values are all true.
  The rest of an owned slice is cleared; calls that are handed resources from anywhere. No program stands in this text.
-/
import Derived.Test.YtdjflomhaljljaaKNI03
import Derived.Laws.IdiomRangeMap

namespace Go.SL
set_option linter.unusedVariables false
open Go.RowKit

/-- What an iterator value promises whose order is open: what comes next is one of 'Nx' of what has come; it ends where 'En' holds. -/
def SeqG (P : Program) (gf : FuncId) (lb : List Value) (Cap : World → Prop) (Nx : List (List Value) → List Value → Prop) (En : List (List Value) → Prop) : Prop :=
  ∀ (l : Nat) (J Jx : List (List Value) → Res → Prop) (w : World) (r0 : Res),
    (∀ n r w, J n r → r.inv w → Cap w) →
    (∀ n vs, Nx n vs → ∀ r w1, J n r → r.inv w1 → (∀ k, r.fp k → k < w1.heap.size) → (w1.os = w.os ∧ w1.tape = w.tape ∧ w1.output = w.output ∧ w.heap.size ≤ w1.heap.size) → YieldsTo P l vs w1 fun e w' => ∃ b r', e = .returned (.bool b) ∧ (if b then J (n ++ [vs]) r' else Jx (n ++ [vs]) r') ∧ St ⟨w1, r.fp⟩ [r'] w') →
    J [] r0 → r0.inv w → (∀ k, r0.fp k → k < w.heap.size) →
    Calls P gf (yv l :: lb).toArray w fun e w' => e = .returned (.tuple #[]) ∧ ∃ n r', ((En n ∧ J n r') ∨ Jx n r') ∧ St ⟨w, r0.fp⟩ [r'] w'

section
variable {P : Program} {ro : Option Nat} {β : Bs} {ds : List Deferred} {N : Nat} {env : Env} {L : List Res} {Q : Exit → Act → World → Prop}
/-- A range over a function whose order is open: 'n' is what has come so far. -/
theorem VC.rangeFuncG {α : Type} {gop : Operand} {ps : Array Tmp} {asg body : Code} {gf : FuncId} {lb : List Value} {Cap : World → Prop} {Nx : List (List Value) → List Value → Prop} {En : List (List Value) → Prop} (F : α → List Res) (I : List (List Value) → α → Prop) (Ix : Code → List (List Value) → α → Prop) (x0 : α) (envb : List Value → Env)
    (hg : ev env gop = some (.func (.func gf) #[] lb.toArray)) (hf : IsFn P gf) (hseq : SeqG P gf lb Cap Nx En) (hF0 : ∀ w, St β L w → St β (F x0) w) (h0 : I [] x0)
    (hps : ∀ n vs, Nx n vs → vs.length = ps.size) (hpN : ps.toList.all (fun t => Nat.blt t N) = true)
    (hCap : ∀ n x w, I n x → (∀ (i : Nat) (r : Res), (F x)[i]? = some r → r.inv w) → (∀ k, k < β.w.heap.size → ¬ β.O k → w.heap[k]? = β.w.heap[k]?) → Cap w)
    (hasg : ∀ (n : List (List Value)) (x : α) (vs : List Value) l T w1, I n x → Nx n vs → St β (F x ++ T) w1 → VC P (some l) ⟨w1, fpL (F x ++ T)⟩ N [] (penv ps vs ++ env) (F x ++ T) asg (AP ⟨w1, fpL (F x ++ T)⟩ N (envb vs) (F x ++ T)))
    (hbody : ∀ (n : List (List Value)) (x : α) (vs : List Value) l T w1, I n x → Nx n vs → St β (F x ++ T) w1 → VC P (some l) ⟨w1, fpL (F x ++ T)⟩ N [] (envb vs) (F x ++ T) body (RB ⟨w1, fpL (F x ++ T)⟩ F T (I (n ++ [vs])) (fun c => Ix c (n ++ [vs]))))
    (hdone : ∀ D n x, En n → I n x → VE β N [mark D] env (F x ++ [dR D]) .normal Q)
    (hstop : ∀ D c n x, Ix c n x → VC P none β N [mark D] env (F x ++ [dR D]) c Q) :
    VC P none β N [] env L (.rangeFunc gop ps asg body) Q := by
  intro a w ha hw
  have hw0 := hF0 w hw
  refine wpIn_rangeFunc fun fn _ => ?_
  obtain ⟨rec, hrec⟩ : ∃ rec : LoopState → Option Code → Loop, rec = fun st pe => { state := st, pending := pe, fn, tmps := a.tmps, params := ps, assign := asg, body, defers := w.heap.size } := ⟨_, rfl⟩
  obtain ⟨D, hD⟩ : ∃ D, D = w.heap.size := ⟨_, rfl⟩
  obtain ⟨l, hl⟩ : ∃ l, l = w.heap.size + 1 := ⟨_, rfl⟩
  obtain ⟨W1, hW1⟩ : ∃ W1, (w.alloc (.deferred (some []))).alloc (.loop (rec .ready none)) = W1 := ⟨_, rfl⟩
  obtain ⟨T, hT⟩ : ∃ T : LoopState → Option Code → List Res, T = fun st pe => [blk l (.loop (rec st pe)), dR D] := ⟨_, rfl⟩
  have hTget : ∀ x st pe, (F x ++ T st pe)[(F x).length]? = some (blk l (.loop (rec st pe))) := by intro x st pe; simp [hT]
  have hTset : ∀ x st pe st' pe', (F x ++ T st pe).set (F x).length (blk l (.loop (rec st' pe'))) = F x ++ T st' pe' := by intro x st pe st' pe'; simp [hT]
  have hst1 : St β (F x0 ++ T .ready none) W1 := by
    have h1 := (hw0.alloc (.deferred (some []))).alloc (.loop (rec .ready none))
    rw [hW1, World.size_alloc] at h1
    refine h1.map (fun j => if j < (F x0).length then j + 2 else if j = (F x0).length then 0 else 1) ?_ ?_
    · intro a b hab ha hb
      simp [hT] at ha hb
      split <;> split <;> (try split) <;> (try split) <;> omega
    · intro j r hr
      right
      rw [List.getElem?_append] at hr
      by_cases q : j < (F x0).length
      · simp only [q, if_true] at hr ⊢
        simpa using hr
      · simp only [q, if_false] at hr ⊢
        by_cases e : j = (F x0).length
        · subst e; simp [hT] at hr; subst hr; simp [hl]
        · have : j = (F x0).length + 1 := by
            rcases Nat.lt_or_ge (j - (F x0).length) 2 with s | s
            · omega
            · simp only [hT] at hr; rw [List.getElem?_eq_none (by simpa using s)] at hr; cases hr
          subst this
          simp [hT] at hr; subst hr; simp [dR, hD]
  -- from the record's states to the world
  have endx : ∀ x st pe w', St β (F x ++ T st pe) w' → st ≠ .busy → ∃ w4, (Instr.endLoop l).run P w' = .ok pe w4 ∧ St β (F x ++ [dR D]) w4 := by
    intro x st pe w' hs hne
    have hrl : w'.heap[l]? = some (.loop (rec st pe)) := hs.inv _ _ (hTget x st pe)
    refine ⟨w'.putObj l (.loop { rec st pe with state := .exhausted }), ?_, ?_⟩
    · have := run_endLoop (P := P) hrl (by rw [hrec]; exact hne)
      rw [this]; congr 1; rw [hrec]
    · have h2 := hs.obj (o' := .loop { rec st pe with state := .exhausted }) _ (hTget x st pe)
      refine h2.map (fun j => if j < (F x).length then j else j + 1) ?_ ?_
      · intro a b hab ha hb
        split <;> split <;> omega
      · intro j r hr
        right
        rw [List.getElem?_append] at hr
        by_cases q : j < (F x).length
        · simp only [q, if_true] at hr ⊢
          rw [List.getElem?_set_ne (by omega), List.getElem?_append_left q]; exact hr
        · simp only [q, if_false] at hr ⊢
          have : j = (F x).length := by
            rcases Nat.lt_or_ge (j - (F x).length) 1 with s | s
            · omega
            · rw [List.getElem?_eq_none (by simpa using s)] at hr; cases hr
          subst this
          simp at hr; subst hr
          rw [List.getElem?_set_ne (by omega), List.getElem?_append_right (by omega)]
          simp [hT]
  refine ⟨l, [mark D], W1, { target := .fn (.func gf) lb.toArray, args := #[yv l] }, W1, gf, (yv l :: lb).toArray, W1, ?_, ?_, ?_, ?_, fun h => by simp [Wf, Fence.wide] at h, ?_⟩
  · rw [← hW1, hrec, hl, hD]; exact run_enterLoop_outer _ _ _ _ _
  · have e : a.eval gop = .func (.func gf) #[] lb.toArray := ha.eval hg
    simp only [resolve, e]
    simp [Deferred.ofValue, yv, Act.eval]
  · intro f' _; exact True.intro
  · simp [invoke, run_call hf]
  · refine callsIn_wf.2 ((hseq l (fun n r => ∃ x, I n x ∧ r = big β (F x ++ T .ready none) ∧ Fits β (F x ++ T .ready none)) (fun n r => ∃ c x, Ix c n x ∧ r = big β (F x ++ T .done (some c)) ∧ Fits β (F x ++ T .done (some c)))
      W1 (big β (F x0 ++ T .ready none)) ?_ ?_ ⟨x0, h0, rfl, hst1.fits⟩ ⟨hst1.inv, hst1.fr⟩ ?_).mono ?_)
    · rintro n r w' ⟨x, hI, rfl, _⟩ hinv
      exact hCap n x w' hI (fun i r hr => hinv.1 i r (by
        rw [List.getElem?_append_left]
        · exact hr
        · rcases Nat.lt_or_ge i (F x).length with q | q
          · exact q
          · simp [List.getElem?_eq_none q] at hr)) hinv.2
    · -- one round
      rintro n vs hvs r w1 ⟨x, hI, rfl, hfit⟩ hinv hb hos
      have hs1 : St β (F x ++ T .ready none) w1 := St.of_big (w1 := w1) (O := β.O) hfit ⟨hos.1.trans hst1.os, hos.2.1.trans hst1.tape, hos.2.2.1.trans hst1.output, Nat.le_trans hst1.size hos.2.2.2⟩ hinv hb
      have hrl : w1.heap[l]? = some (.loop (rec .ready none)) := hs1.inv _ _ (hTget x .ready none)
      have hlen : vs.toArray.size = ps.size := by simpa using hps n vs hvs
      have hy := run_yield (P := P) (args := vs.toArray) hrl (by rw [hrec]; exact hlen)
      refine ⟨_, _, _, _, hy, ?_⟩
      refine roundIn_of_wpIn (F := Fence.wide) (n := 0) True.intro ?_
      have hA : Ag N [] (penv ps vs ++ env) { tmps := (ps.zip vs.toArray).foldl (fun t (p, v) => t.setIfInBounds p v) a.tmps, defers := [] } := by
        have h1 := ag_zip (N := N) (ds := []) (ps.toList.zip vs) env { tmps := a.tmps, defers := [] } (fun z hz => by
          have hm : z.1 ∈ ps.toList := (List.of_mem_zip (a := z.1) (b := z.2) hz).1
          exact Nat.le_of_ble_eq_true (List.all_eq_true.1 hpN z.1 hm)) ⟨ha.size, rfl, ha.get⟩
        have e : (ps.zip vs.toArray).foldl (fun t (p, v) => t.setIfInBounds p v) a.tmps = (ps.toList.zip vs).foldl (fun t (p, v) => t.setIfInBounds p v) a.tmps := by
          rw [← Array.foldl_toList, Array.toList_zip]
        rw [e]; exact h1
      have ha1 := hasg n x vs l (T .ready none) w1 hI hvs hs1 _ w1 hA hs1.rebase
      rw [hrec]
      refine Code.wpIn_mono ?_ ha1
      rintro e a2 w2 ⟨rfl, hag, hs2⟩
      have hs2' := hs1.back hs2
      have hrl2 : w2.heap[l]? = some (.loop (rec .ready none)) := hs2.inv _ _ (hTget x .ready none)
      refine ⟨w2.putObj l (.loop { rec .ready none with state := .busy }), run_beginRound hrl2 (by rw [hrec]), ?_⟩
      have eb : ({ rec .ready none with state := .busy } : Loop) = rec .busy none := by rw [hrec]
      rw [eb]
      have hs3 := hs2'.obj (o' := .loop (rec .busy none)) _ (hTget x .ready none)
      rw [hTset] at hs3
      have hs3' := hs2.obj (o' := .loop (rec .busy none)) _ (hTget x .ready none)
      rw [hTset] at hs3'
      have hb1 := hbody n x vs l (T .busy none) _ hI hvs hs3 _ _ hag hs3.rebase
      refine Code.wpIn_mono ?_ hb1
      intro e a3 w3 hq
      have fin : ∀ y (jump : Option Code), St ⟨w2.putObj l (.loop (rec .busy none)), fpL (F x ++ T .busy none)⟩ (F y ++ T .busy none) w3 →
          ∃ w4, (Instr.endRound l jump).run P w3 = .ok (.bool jump.isNone) w4 ∧ St ⟨w1, (big β (F x ++ T .ready none)).fp⟩ [big β (F y ++ T (if jump.isNone then .ready else .done) jump)] w4 ∧ Fits β (F y ++ T (if jump.isNone then .ready else .done) jump) := by
        intro y jump hsy
        have h4 := hs3'.back hsy
        have hrl3 : w3.heap[l]? = some (.loop (rec .busy none)) := h4.inv _ _ (hTget y .busy none)
        refine ⟨_, run_endRound jump hrl3, ?_⟩
        have er : ({ rec .busy none with state := if jump.isNone then .ready else .done, pending := jump } : Loop) = rec (if jump.isNone then .ready else .done) jump := by rw [hrec]
        rw [er]
        have h5 := h4.obj (o' := .loop (rec (if jump.isNone then .ready else .done) jump)) _ (hTget y .busy none)
        rw [hTset] at h5
        exact ⟨St.to_big hs1 h5, (hs1.back h5).fits⟩
      cases e with
      | normal =>
        obtain ⟨y, hy1, hy2⟩ := hq
        obtain ⟨w4, h1, h2, h3⟩ := fin y none hy2
        exact ⟨_, w4, h1, true, _, rfl, ⟨y, hy1, rfl, h3⟩, h2⟩
      | ret =>
        obtain ⟨y, hy1, hy2⟩ := hq
        obtain ⟨w4, h1, h2, h3⟩ := fin y (some .ret) hy2
        exact ⟨_, w4, h1, false, _, rfl, ⟨_, y, hy1, rfl, h3⟩, h2⟩
      | exit id =>
        obtain ⟨y, hy1, hy2⟩ := hq
        obtain ⟨w4, h1, h2, h3⟩ := fin y (some (.exit id)) hy2
        exact ⟨_, w4, h1, false, _, rfl, ⟨_, y, hy1, rfl, h3⟩, h2⟩
      | goto t => exact hq.elim
      | panic ch => exact hq.elim
      | outgrown => exact hq.elim
    · intro k hk
      rcases hk with ⟨i, r, hr, hk⟩ | ⟨hk, _⟩
      · exact (hst1.rng i r hr k hk).2
      · exact Nat.lt_of_lt_of_le hk hst1.size
    · rintro e w' ⟨rfl, n, r', hJ, hs⟩
      have toSt : ∀ L2, r' = big β L2 → Fits β L2 → St β L2 w' := by
        rintro L2 rfl hfit
        have hb := hs.rng 0 _ rfl
        exact St.of_big (w1 := w') (O := β.O) hfit ⟨hs.os.trans hst1.os, hs.tape.trans hst1.tape, hs.output.trans hst1.output, Nat.le_trans hst1.size hs.size⟩ (hs.inv 0 _ rfl) (fun k hk => (hb k hk).2)
      have hag : Ag N [mark D] env { a with defers := [mark D] ++ a.defers } := ⟨ha.size, by simp [ha.dfr], ha.get⟩
      rcases hJ with ⟨hE, x, hI, hr, hfit⟩ | ⟨c, x, hI, hr, hfit⟩
      · obtain ⟨w4, h1, h2⟩ := endx x .ready none w' (toSt _ hr hfit) (by simp)
        exact ⟨none, w4, h1, hdone D n x hE hI _ _ hag h2⟩
      · obtain ⟨w4, h1, h2⟩ := endx x .done (some c) w' (toSt _ hr hfit) (by simp)
        exact ⟨some c, w4, h1, hstop D c n x hI _ _ hag h2⟩

/-! ### A range over a map -/
variable {d : Option Nat} {ty : TypeId} {pos : String} {aft : Array Edge} {g : Option (Nat × Bool)}
variable {K : Value → List Res → Prop} {dd : Option Nat}
theorem run_next_map_at (w : World) (ir : Nat) (ty : TypeId) (bm since c0 : Nat) (seen : Array Nat) (es : Array MapEntry) (clock : Nat) (hi : w.heap[ir]? = some (.mapIter (some bm) since seen c0)) (hb : w.heap[bm]? = some (.map es clock)) (hold : ∀ x ∈ es.toList, x.born < since) (hsc : since ≤ c0) :
    ((leftOf es seen).size = 0 ∧ (Instr.next (.pointer (some ⟨ir, 0, none⟩)) false ty).run P w = .ok (.tuple #[.bool false]) w) ∨
    ∃ e ∈ (leftOf es seen).toList, ∃ n : Nat, (Instr.next (.pointer (some ⟨ir, 0, none⟩)) false ty).run P w = .ok (.tuple #[.bool true, e.key, e.val]) (({ w with drawn := n } : World).putObj ir (.mapIter (some bm) since (seen.push e.born) clock)) := by
  simp only [Instr.next, getObj, Sem.run_bind, Sem.run, hi, hb, Result.andThen, next_test_false seen es since c0 hold hsc, Bool.false_eq_true, if_false]
  unfold leftOf
  have hmem : ∀ x ∈ (Array.filter (fun e => !seen.contains e.born) es).toList, x.born < since := fun x hx => hold x (by simp at hx ⊢; exact hx.1)
  generalize Array.filter (fun e => !seen.contains e.born) es = L at hmem ⊢
  have e1 : L.filter (fun x => decide (x.born < since)) = L := Array.filter_eq_self.2 (fun x hx => by simpa using hmem x (by simpa using hx))
  have e2 : L.filter (fun x => decide (x.born ≥ since)) = #[] := by
    rw [Array.filter_eq_empty_iff]
    intro x hx
    have := hmem x (by simpa using hx)
    simp
    omega
  simp only [e1, e2, Array.append_empty]
  by_cases h0 : L.size = 0
  · left
    have : L = #[] := Array.eq_empty_of_size_eq_zero h0
    subst this
    refine ⟨rfl, ?_⟩
    simp [choose, Sem.run, Question.forced]
  · right
    have hne : L.isEmpty = false := by simp [Array.isEmpty, h0]
    simp only [hne, Bool.false_eq_true, if_false, Array.empty_append, Array.size_map]
    have hch : ∃ (j : Nat) (n : Nat), j < L.size ∧ (choose (Question.mapNext L.size)).run P w = .ok j ({ w with drawn := n } : World) := by
      by_cases hf : L.size ≤ 1
      · exact ⟨0, w.drawn, by omega, by simp [choose, Sem.run, Question.forced, hf]⟩
      · exact ⟨_, _, Nat.mod_lt _ (by omega), by
          simp only [choose, Sem.run, Question.forced, decide_eq_true_eq, hf, if_false, Question.cut]
          rfl⟩
    obtain ⟨j, n, hj, hrun⟩ := hch
    refine ⟨L[j], by simp, n, ?_⟩
    have hset : (setObj ir (.mapIter (some bm) since (seen.push L[j].born) clock)).run P ({ w with drawn := n } : World) = .ok () (({ w with drawn := n } : World).putObj ir (.mapIter (some bm) since (seen.push L[j].born) clock)) := by
      simp only [setObj, Sem.run, hi]; rfl
    simp only [hrun, Array.getElem?_map, Array.getElem?_eq_getElem hj, Option.map_some, Sem.run_bind, hset, Result.andThen]
    rfl

theorem HO.rangeM {T k e : Nat} {x : Operand} {b : Nat} {es : Array MapEntry} {clock : Nat} (hT : P.underlying T = some (.map k e)) (hx : ev env x = some (.map (some b))) (hc : ∀ w, St β L w → w.heap[b]? = some (.map es clock))
    (kk : ∀ ib, K (.pointer (some ⟨ib, 0, none⟩)) (blk ib (.mapIter (some b) clock #[] clock) :: L)) : HO P β env L ⟨dd, .range T x, ty, pos, aft, g⟩ K := by
  intro a w h hw
  refine .inl ⟨_, w.alloc (.mapIter (some b) clock #[] clock), _, _, ?_, .inl rfl, kk w.heap.size, hw.alloc _⟩
  simp [execOp, h x (by simp [Op.operands]) _ hx, run_range_map w T k e b es clock hT (hc w hw)]
/-- One more of the entries, whichever, or none is left. -/
theorem HO.nextM (i : Nat) (LF : Res → List Res) {x : Operand} {b ib since c0 clock : Nat} {seen : Array Nat} {es : Array MapEntry} (hx : ev env x = some (.pointer (some ⟨ib, 0, none⟩))) (hi : L[i]? = some (blk ib (.mapIter (some b) since seen c0))) (hL : ∀ R : Res, L.set i R = LF R)
    (hc : ∀ w, St β L w → w.heap[b]? = some (.map es clock)) (hold : ∀ x ∈ es.toList, x.born < since) (hsc : since ≤ c0)
    (k0 : (leftOf es seen).size = 0 → K (.tuple #[.bool false]) L) (k1 : ∀ e, e ∈ (leftOf es seen).toList → K (.tuple #[.bool true, e.key, e.val]) (LF (blk ib (.mapIter (some b) since (seen.push e.born) clock)))) : HO P β env L ⟨dd, .next x false, ty, pos, aft, g⟩ K := by
  intro a w h hw
  have hb : w.heap[ib]? = some (.mapIter (some b) since seen c0) := hw.inv i _ hi
  rcases run_next_map_at (P := P) w ib ty b since c0 seen es clock hb (hc w hw) hold hsc with ⟨h0, hr⟩ | ⟨e, he, n, hr⟩
  · refine .inl ⟨_, w, _, _, ?_, .inl rfl, k0 h0, hw⟩
    simp [execOp, h x (by simp [Op.operands]) _ hx, hr]
  · refine .inl ⟨_, ({ w with drawn := n } : World).putObj ib (.mapIter (some b) since (seen.push e.born) clock), .tuple #[.bool true, e.key, e.val], LF (blk ib (.mapIter (some b) since (seen.push e.born) clock)), ?_, .inl rfl, k1 e he, ?_⟩
    · simp [execOp, h x (by simp [Op.operands]) _ hx, hr]
    · rw [← hL]
      exact (hw.drew n).obj i hi
end
end Go.SL

namespace Go.SL
set_option linter.unusedVariables false
open Go.RowKit
section
variable {P : Program} {ro : Option Nat} {β : Bs} {ds : List Deferred} {N : Nat} {env : Env} {L : List Res} {Q : Exit → Act → World → Prop}
variable {d : Option Nat} {ty : TypeId} {pos : String} {aft : Array Edge} {g : Option (Nat × Bool)}
variable {K : Value → List Res → Prop} {dd : Option Nat}

theorem find_stamp {e : MapEntry} : ∀ {l : List MapEntry}, (l.map (·.born)).Nodup → e ∈ l → l.find? (·.born == e.born) = some e := fun {l} hn he => find_born e l hn he
theorem run_entry_at (w : World) (ir bm since : Nat) (seen : Array Nat) (es : Array MapEntry) (clock : Nat) (e : MapEntry) (hi : w.heap[ir]? = some (.mapIter (some bm) since (seen.push e.born) clock)) (hb : w.heap[bm]? = some (.map es clock)) (he : e ∈ es.toList) (hn : (es.toList.map (·.born)).Nodup) :
    (Instr.entry (.pointer (some ⟨ir, 0, none⟩))).run P w = .ok (.tuple #[e.key, e.val]) w := by
  have hf : es.find? (·.born == e.born) = some e := by rw [← Array.find?_toList]; exact find_born e es.toList hn he
  simp only [Instr.entry, getObj, Sem.run_bind, Sem.run, hi, hb, Result.andThen, Array.back?_push, bne_self_eq_false, Bool.false_eq_true, if_false, hf]
  rfl
theorem LO.entry {x : Operand} {ib b since clock : Nat} {seen : Array Nat} {es : Array MapEntry} {e : MapEntry} (hx : OV env x (.pointer (some ⟨ib, 0, none⟩))) (hi : ∀ w, St β L w → w.heap[ib]? = some (.mapIter (some b) since (seen.push e.born) clock)) (hc : ∀ w, St β L w → w.heap[b]? = some (.map es clock)) (he : e ∈ es.toList) (hn : (es.toList.map (·.born)).Nodup) : LO P β env L ⟨d, .entry x, ty, pos, aft, g⟩ (.tuple #[e.key, e.val]) :=
  .of_run fun a w h hw => ⟨w, by
    have := run_entry_at (P := P) w ib b since seen es clock e (hi w hw) (hc w hw) he hn
    simp [execOp, h x (by simp [Op.operands]) _ hx, this], hw⟩
theorem HO.nextM0 (i : Nat) {x : Operand} {b ib since c0 clock : Nat} {seen : Array Nat} {es : Array MapEntry} (hx : ev env x = some (.pointer (some ⟨ib, 0, none⟩))) (hi : L[i]? = some (blk ib (.mapIter (some b) since seen c0)))
    (hc : ∀ w, St β L w → w.heap[b]? = some (.map es clock)) (hold : ∀ x ∈ es.toList, x.born < since) (hsc : since ≤ c0) (h0 : (leftOf es seen).size = 0)
    (k : K (.tuple #[.bool false]) L) : HO P β env L ⟨dd, .next x false, ty, pos, aft, g⟩ K :=
  HO.nextM i (fun R => L.set i R) hx hi (fun _ => rfl) hc hold hsc (fun _ => k) (fun e he => by
    have : (leftOf es seen).toList.length = 0 := by rw [Array.length_toList]; exact h0
    rw [List.length_eq_zero_iff.1 this] at he; cases he)
theorem HO.nextM1 (i : Nat) (LF : Res → List Res) {x : Operand} {b ib since c0 clock : Nat} {seen : Array Nat} {es : Array MapEntry} (hx : ev env x = some (.pointer (some ⟨ib, 0, none⟩))) (hi : L[i]? = some (blk ib (.mapIter (some b) since seen c0))) (hL : ∀ R : Res, L.set i R = LF R)
    (hc : ∀ w, St β L w → w.heap[b]? = some (.map es clock)) (hold : ∀ x ∈ es.toList, x.born < since) (hsc : since ≤ c0) (h0 : ¬ (leftOf es seen).size = 0)
    (k : ∀ e, e ∈ (leftOf es seen).toList → K (.tuple #[.bool true, e.key, e.val]) (LF (blk ib (.mapIter (some b) since (seen.push e.born) clock)))) : HO P β env L ⟨dd, .next x false, ty, pos, aft, g⟩ K :=
  HO.nextM i LF hx hi hL hc hold hsc (fun h => absurd h h0) k

theorem HO.bs0 {T E z : Nat} (hT : IsSlice P T E) (hs : (P.info? E).map (·.size) = some z) (k : ∀ b, K (.slice (some ⟨b, 0, none⟩) 0 0) (own E z (some ⟨b, 0, none⟩) 0 [] :: L)) : HO P β env L ⟨dd, .buildSlice T 0 #[], ty, pos, aft, none⟩ K := by
  intro a w h hw
  refine .inl ⟨_, w.alloc (.cells #[] E), _, _, ?_, .inl rfl, k w.heap.size, ?_⟩
  · simp [execOp, Instr.buildSlice, run_underlying hT, run_size hs, Instr.fill, newRow]
    rw [Array.eq_empty_of_size_eq_zero (xs := Array.map (fun x => default) (Array.range 0)) (by simp)]
  · have h1 := hw.alloc (.cells #[] E)
    have := h1.conv 0 (r' := own E z (some ⟨w.heap.size, 0, none⟩) 0 []) rfl (fun k hk => hk.2) ⟨by simp, by simp, fun q => (by cases q), fun a ha => by cases ha; exact ⟨rfl, rfl, #[], [], h1.inv 0 _ rfl, rfl, by simp⟩⟩
    simpa using this
theorem LO.cap {T E : Nat} {x : Operand} {p : Option Addr} {n c : Nat} {aT : Array TypeId} (hT : IsSlice P T E) (hx : OV env x (.slice p n c)) (ha : aT[0]? = some T) : LO P β env L ⟨d, .call ⟨.builtin .cap, #[x], aT⟩, ty, pos, aft, g⟩ (.int .i64 c) :=
  .of_run fun a w h hw => ⟨w, by simp [execOp, resolve, invoke, builtin, h x (by simp [Op.operands, Call.operands]) _ hx, Builtin.cap_, ha, run_underlying hT, goInt], hw⟩
theorem LO.slH {T E z : Nat} {x j : Operand} {p : Option Addr} {n c k : Nat} {e : Int} (hT : IsSlice P T E) (hz : (P.info? E).map (·.size) = some z) (hx : OV env x (.slice p n c)) (hj : OV env j (.int .i64 e)) (he : e = (k : Int)) (hk : k ≤ c) : LO P β env L ⟨d, .slice T x none (some j) none, ty, pos, aft, g⟩ (.slice p k c) :=
  .of_run fun a w h hw => ⟨w, by
    subst he
    have h0 : ∀ q : Addr, q.add 0 = q := fun q => by simp [Addr.add]
    have h2 : p.map (fun x => x.add 0) = p := by cases p <;> simp [h0]
    simp [execOp, h x (by simp [Op.operands]) _ hx, h j (by simp [Op.operands]) _ hj, Instr.sliceAt, run_underlying hT, Instr.slice, Instr.sliceBounds, Instr.sliceBound, asIntOf, hk, run_size hz, h2], hw⟩
end
end Go.SL

namespace Go.SL
set_option linter.unusedVariables false
open Go.RowKit
section
variable {P : Program} {β : Bs} {env : Env} {L L' : List Res}
theorem FO.bs0 {T E z d i : Nat} {ty : TypeId} {pos : String} {aft : Array Edge} (hT : IsSlice P T E) (hs : (P.info? E).map (·.size) = some z) : FO P env ⟨some d, .buildSlice T 0 #[], ty, pos, aft, none⟩ ⟨i, d, fun b => .slice (some ⟨b, 0, none⟩) 0 0, E, #[]⟩ :=
  ⟨rfl, rfl, fun a w _ => by
    simp [execOp, Instr.buildSlice, run_underlying hT, run_size hs, Instr.fill, newRow]
    rw [Array.eq_empty_of_size_eq_zero (xs := Array.map (fun x => default) (Array.range 0)) (by simp)]⟩
theorem HO.pre {o : Oper} {K : Value → List Res → Prop} (hc : ∀ w, St β L w → St β L' w) (h : HO P β env L' o K) : HO P β env L o K := fun a w ha hw => h a w ha (hc w hw)
theorem St.blkOwn {E b : Nat} {w : World} (i z : Nat) (hi : L[i]? = some (blk b (.cells #[] E))) (hw : St β L w) : St β (L.set i (own E z (some ⟨b, 0, none⟩) 0 [])) w :=
  hw.conv i hi (fun k hk => hk.2) ⟨by simp, by simp, fun q => (by cases q), fun a ha => by cases ha; exact ⟨rfl, rfl, #[], [], hw.inv i _ hi, rfl, by simp⟩⟩
variable {ty : TypeId} {pos : String} {aft : Array Edge} {dd : Option Nat}
/-- append(x, y...), x empty and owned, y read. -/
theorem HO.appN0 {α : Type} {f : α → List Value} {m : List α} (i : Nat) (LF : Res → List Res) {K : Value → List Res → Prop} {x y : Operand} {T T' E z by_ : Nat} {aT : Array TypeId} {zero : Value} {p q : Option Addr} {n2 cap c2 : Nat} (hT : IsSlice P T E) (hT' : IsSlice P T' E) (hE : EInfo P E z by_ zero) (hx : OV env x (.slice p 0 cap)) (hy : OV env y (.slice q n2 c2))
    (hi : L[i]? = some (own E z p cap [])) (hq : ∀ w, St β L w → Go.SL.Rows w z q (m.map f)) (hz : ∀ a, (f a).length = z) (h1 : ∀ a, allOne (f a) = true) (ha0 : aT[0]? = some T) (ha1 : aT[1]? = some T') (hL : ∀ R : Res, L.set i R = LF R) (hn2 : n2 = m.length) (hs : (2 * n2 + 768) * by_ ≤ 281474976710656)
    (k : ∀ p' cap', (m ≠ [] ∨ p ≠ none → p' ≠ none) → K (.slice p' n2 cap') (LF (own E z p' cap' (m.map f)))) : HO P β env L ⟨dd, .call ⟨.builtin .append, #[x, y], aT⟩, ty, pos, aft, none⟩ K :=
  HO.appN (f := f) (l := []) (m := m) i LF hT hT' hE hx hy hi hq hz h1 ha0 ha1 hL rfl hn2 (by rw [Nat.zero_add]; exact hs) (fun p' c' h => by rw [Nat.zero_add]; exact k p' c' h)
end
end Go.SL

namespace Go.SL
set_option linter.unusedVariables false
open Go.RowKit

def Apart (r s : Res) : Prop := ∀ k, r.fp k → ¬ s.fp k
theorem Apart.symm {r s : Res} (h : Apart r s) : Apart s r := fun k hk hk2 => h k hk2 hk

section
variable {β : Bs} {L L' Rs : List Res} {w w' : World}

theorem St.mem (h : St β L w) {r : Res} (hr : r ∈ L) : r.inv w := by
  obtain ⟨i, hi⟩ := List.mem_iff_getElem?.1 hr
  exact h.inv i r hi
theorem St.rngM (h : St β L w) {r : Res} (hr : r ∈ L) : ∀ k, r.fp k → (β.O k ∨ β.w.heap.size ≤ k) ∧ k < w.heap.size := by
  obtain ⟨i, hi⟩ := List.mem_iff_getElem?.1 hr
  exact h.rng i r hi
theorem St.pw (h : St β L w) : L.Pairwise Apart := by
  rw [List.pairwise_iff_getElem]
  intro i j hi hj hij
  exact h.dis i j _ _ (by omega) (List.getElem?_eq_getElem hi) (List.getElem?_eq_getElem hj)
theorem st_mk (os : w.os = β.w.os) (tape : w.tape = β.w.tape) (output : w.output = β.w.output) (size : β.w.heap.size ≤ w.heap.size) (fr : ∀ k, k < β.w.heap.size → ¬ β.O k → w.heap[k]? = β.w.heap[k]?)
    (inv : ∀ r, r ∈ L → r.inv w) (rng : ∀ r, r ∈ L → ∀ k, r.fp k → (β.O k ∨ β.w.heap.size ≤ k) ∧ k < w.heap.size) (pw : L.Pairwise Apart) : St β L w := by
  refine ⟨os, tape, output, size, fr, fun i r hr => inv r (List.mem_of_getElem? hr), fun i r hr => rng r (List.mem_of_getElem? hr), ?_⟩
  intro i j r s hij hr hs
  obtain ⟨hi, rfl⟩ := List.getElem?_eq_some_iff.1 hr
  obtain ⟨hj, rfl⟩ := List.getElem?_eq_some_iff.1 hs
  have := List.pairwise_iff_getElem.1 pw
  rcases Nat.lt_or_gt_of_ne hij with q | q
  · exact this i j hi hj q
  · exact (this j i hj hi q).symm

/-- The resources in another order. -/
theorem St.perm (h : St β L w) (hp : L.Perm L') : St β L' w :=
  st_mk h.os h.tape h.output h.size h.fr (fun r hr => h.mem (hp.mem_iff.2 hr)) (fun r hr => h.rngM (hp.mem_iff.2 hr)) ((hp.pairwise_iff (fun h => Apart.symm h)).1 h.pw)

/-- Resources that lie apart, as one. -/
def bagD (Rs : List Res) : Res where
  fp := fun k => ∃ r, r ∈ Rs ∧ r.fp k
  inv := fun w => (∀ r, r ∈ Rs → r.inv w) ∧ Rs.Pairwise Apart
  loc := fun h hi => ⟨fun r hr => r.loc (fun k hk => h k ⟨r, hr, hk⟩) (hi.1 r hr), hi.2⟩

theorem St.unbagD (h : St β (bagD Rs :: L) w) : St β (Rs ++ L) w := by
  have hb := h.mem (List.mem_cons_self)
  have hp := List.pairwise_cons.1 h.pw
  refine st_mk h.os h.tape h.output h.size h.fr (fun r hr => ?_) (fun r hr k hk => ?_) ?_
  · rcases List.mem_append.1 hr with q | q
    · exact hb.1 r q
    · exact h.mem (List.mem_cons_of_mem _ q)
  · rcases List.mem_append.1 hr with q | q
    · exact h.rngM List.mem_cons_self k ⟨r, q, hk⟩
    · exact h.rngM (List.mem_cons_of_mem _ q) k hk
  · exact List.pairwise_append.2 ⟨hb.2, hp.2, fun r hr s hs k hk => hp.1 s hs k ⟨r, hr, hk⟩⟩

theorem St.bagD (h : St β (Rs ++ L) w) : St β (Go.SL.bagD Rs :: L) w := by
  obtain ⟨p1, p2, p3⟩ := List.pairwise_append.1 h.pw
  refine st_mk h.os h.tape h.output h.size h.fr (fun r hr => ?_) (fun r hr k hk => ?_) ?_
  · rcases List.mem_cons.1 hr with rfl | q
    · exact ⟨fun r hr => h.mem (List.mem_append_left _ hr), p1⟩
    · exact h.mem (List.mem_append_right _ q)
  · rcases List.mem_cons.1 hr with rfl | q
    · obtain ⟨s, hs, hk⟩ := hk
      exact h.rngM (List.mem_append_left _ hs) k hk
    · exact h.rngM (List.mem_append_right _ q) k hk
  · exact List.pairwise_cons.2 ⟨fun s hs k ⟨r, hr, hk⟩ => p3 r hr s hs k hk, p2⟩

/-- One of a bag is taken out. -/
theorem St.focus {A B : List Res} {r : Res} (h : St β (Go.SL.bagD (A ++ r :: B) :: L) w) : St β (r :: Go.SL.bagD (A ++ B) :: L) w := by
  have h1 := h.unbagD.perm (L' := (A ++ B) ++ (r :: L)) (by
    simp only [List.append_assoc, List.cons_append]
    exact List.Perm.append_left A (List.perm_middle.symm))
  exact (h1.bagD).perm (List.Perm.swap _ _ _)
/-- And put back, as it is now. -/
theorem St.unfocus {A B : List Res} {r : Res} (h : St β (r :: Go.SL.bagD (A ++ B) :: L) w) : St β (Go.SL.bagD (A ++ r :: B) :: L) w := by
  have h1 := (h.perm (List.Perm.swap _ _ _)).unbagD.perm (L' := (A ++ r :: B) ++ L) (by
    simp only [List.append_assoc, List.cons_append]
    exact List.Perm.append_left A List.perm_middle)
  exact h1.bagD

/-- At 'w' lie these resources. -/
def Has (w : World) (R : List Res) : Prop := St ⟨w, fpL R⟩ R w
theorem fpL_mem {R : List Res} {k : Nat} : fpL R k ↔ ∃ r, r ∈ R ∧ r.fp k :=
  ⟨fun ⟨i, r, hr, hk⟩ => ⟨r, List.mem_of_getElem? hr, hk⟩, fun ⟨r, hr, hk⟩ => by obtain ⟨i, hi⟩ := List.mem_iff_getElem?.1 hr; exact ⟨i, r, hi, hk⟩⟩
theorem has_mk {R : List Res} (h1 : ∀ r, r ∈ R → r.inv w) (h2 : ∀ r, r ∈ R → ∀ k, r.fp k → k < w.heap.size) (h3 : R.Pairwise Apart) : Has w R :=
  st_mk rfl rfl rfl (Nat.le_refl _) (fun _ _ _ => rfl) h1 (fun r hr k hk => ⟨.inl (fpL_mem.2 ⟨r, hr, hk⟩), h2 r hr k hk⟩) h3
theorem St.has {R : List Res} (h : St β L w) (hs : R.Sublist L) : Has w R :=
  has_mk (fun r hr => h.mem (hs.subset hr)) (fun r hr k hk => (h.rngM (hs.subset hr) k hk).2) (h.pw.sublist hs)
theorem St.hasL {R : List Res} (h : St β (R ++ L) w) : Has w R := h.has (List.sublist_append_left R L)
theorem Has.keep {R : List Res} (h : Has w R) (k : St (bs w) L w') : Has w' R :=
  has_mk (fun r hr => r.loc (fun b hb => k.fr b (h.rngM hr b hb).2 (fun f => f)) (h.mem hr)) (fun r hr b hb => Nat.lt_of_lt_of_le (h.rngM hr b hb).2 k.size) h.pw
theorem Has.sub {R R' : List Res} (h : Has w R) (hs : R'.Sublist R) : Has w R' := St.has h hs
theorem Has.perm {R R' : List Res} (h : Has w R) (hp : R.Perm R') : Has w R' :=
  has_mk (fun r hr => h.mem (hp.mem_iff.2 hr)) (fun r hr k hk => (h.rngM (hp.mem_iff.2 hr) k hk).2) ((hp.pairwise_iff (fun h => Apart.symm h)).1 h.pw)
theorem Has.unbag {R : List Res} (h : Has w (Go.SL.bagD Rs :: R)) : Has w (Rs ++ R) := St.has (St.unbagD h) (List.Sublist.refl _)
theorem Has.enter (h : Has w L) : St ⟨w, fpL L⟩ L w := h
end

section
variable {P : Program} {ro : Option Nat} {β : Bs} {N : Nat} {ds : List Deferred} {env : Env} {L : List Res} {Q : Exit → Act → World → Prop}
  {ty : TypeId} {pos : String} {aft : Array Edge} {g : Option (Nat × Bool)}

/-- A call that is handed the first resources, and leaves others in their place. -/
theorem HO.callM {α : Type} (L1 L2 : List Res) {K : Value → List Res → Prop} {dd : Option Nat} {f : FuncId} {fx : Operand} {xs : List Operand} {vs first cap : List Value} {aT : Array TypeId} {v : α → Value} {R : α → List Res} {I : α → Prop} (hL : L = L1 ++ L2) (hfx : OV env fx (.func (.func f) first.toArray cap.toArray)) (hf : IsFn P f) (hx : OVs env xs vs)
    (hc : ∀ w, St β L w → Has w L1 → Calls P f (first ++ vs ++ cap).toArray w fun e w' => ∃ x, I x ∧ e = .returned (v x) ∧ St ⟨w, fpL L1⟩ (R x) w') (k : ∀ x, I x → K (v x) (R x ++ L2)) : HO P β env L ⟨dd, .call ⟨.value fx, xs.toArray, aT⟩, ty, pos, aft, none⟩ K := by
  intro a w h hw
  refine .inr (.inl ⟨f, (first ++ vs ++ cap).toArray, ?_, ?_⟩)
  · have hm : xs.map a.eval = vs := hx.map fun x hm u hu => by obtain ⟨u', hu', e⟩ := hu; subst e; exact h x (by simp [Op.operands, Call.operands, hm]) u' hu'
    have hfe : a.eval fx = .func (.func f) first.toArray cap.toArray := by obtain ⟨u', hu', e⟩ := hfx; subst e; exact h fx (by simp [Op.operands, Call.operands]) _ hu'
    simp [execOp, resolve, hfe, Deferred.ofValue, invoke, run_call hf, hm]
  · have hw2 : St β (L1 ++ L2) w := hL ▸ hw
    exact (hc w hw hw2.hasL).mono fun e w' ⟨x, hI, he, hs⟩ => ⟨v x, _, he, k x hI, hw2.callG (fun k hk => hk) hs⟩

/-- Another list of resources, said by a lemma on states. -/
theorem VC.res {L' : List Res} {c : Code} (hL : ∀ w, St β L w → St β L' w) (h : VC P ro β N ds env L' c Q) : VC P ro β N ds env L c Q := fun a w ha hw => h a w ha (hL w hw)
theorem VE.resL {L' : List Res} {e : Exit} (hL : ∀ w, St β L w → St β L' w) (h : VE β N ds env L' e Q) : VE β N ds env L e Q := fun a w ha hw => h a w ha (hL w hw)
theorem VE.pur {φ : Prop} {e : Exit} (h : ∀ w, St β L w → φ) (k : φ → VE β N ds env L e Q) : VE β N ds env L e Q := fun a w ha hw => k (h w hw) a w ha hw
end
end Go.SL

namespace Go.SL
set_option linter.unusedVariables false
open Go.RowKit

theorem flatten_set {z : Nat} : ∀ {rows : List (List Value)} {j o : Nat} {r vs : List Value}, (∀ r ∈ rows, r.length = z) → rows[j]? = some r → o + vs.length ≤ z →
    rows.flatten.take (j * z + o) ++ vs ++ rows.flatten.drop (j * z + o + vs.length) = (rows.set j (r.take o ++ vs ++ r.drop (o + vs.length))).flatten
  | [], j, o, r, vs, _, h, _ => by simp at h
  | x :: xs, 0, o, r, vs, hz, h, hl => by
    simp at h; subst h
    have hx : x.length = z := hz x (by simp)
    simp only [Nat.zero_mul, Nat.zero_add, List.flatten_cons, List.set_cons_zero]
    rw [List.take_append_of_le_length (by omega), List.drop_append_of_le_length (by omega)]
    simp only [List.append_assoc]
  | x :: xs, j + 1, o, r, vs, hz, h, hl => by
    have hx : x.length = z := hz x (by simp)
    have ih := flatten_set (rows := xs) (j := j) (o := o) (r := r) (vs := vs) (fun r hr => hz r (by simp [hr])) (by simpa using h) hl
    simp only [List.flatten_cons, List.set_cons_succ, ← ih]
    have e : (j + 1) * z + o = x.length + (j * z + o) := by rw [Nat.add_mul]; omega
    rw [e, List.take_length_add_append, show x.length + (j * z + o) + vs.length = x.length + (j * z + o + vs.length) by omega, List.drop_length_add_append]
    simp only [List.append_assoc]

section
variable {P : Program} {ro : Option Nat} {β : Bs} {N : Nat} {ds : List Deferred} {env : Env} {L : List Res} {Q : Exit → Act → World → Prop}
  {ty : TypeId} {pos : String} {aft : Array Edge} {g : Option (Nat × Bool)}

/-- A store into a part of an element. -/
theorem HO.sto (i : Nat) (LF : Res → List Res) {K : Value → List Res → Prop} {dd : Option Nat} {x y : Operand} {T E z cap j o q : Nat} {p : Option Addr} {rows : List (List Value)} {r : List Value} {v : Value} {vs : List Value} (hT : (P.info? T).map (·.size) = some vs.length) (hx : OV env x (.pointer (some ⟨pb p, q, none⟩))) (hy : OV env y v)
    (hi : L[i]? = some (own E z p cap rows)) (hj : rows[j]? = some r) (hq : q = po p + j * z + o) (hv : v.cells = vs.toArray) (hfit : o + vs.length ≤ z) (h1 : allOne vs = true) (hL : ∀ R : Res, L.set i R = LF R)
    (k : K undef (LF (own E z p cap (rows.set j (r.take o ++ vs ++ r.drop (o + vs.length)))))) : HO P β env L ⟨dd, .store T x y, ty, pos, aft, none⟩ K := by
  intro a w h hw
  have ex : a.eval x = .pointer (some ⟨pb p, q, none⟩) := by obtain ⟨u, hu, e⟩ := hx; subst e; exact h x (by simp [Op.operands]) _ hu
  have ey : a.eval y = v := by obtain ⟨u, hu, e⟩ := hy; subst e; exact h y (by simp [Op.operands]) _ hu
  obtain ⟨g1, g2, g3, g4⟩ := hw.inv i _ hi
  have hlt : i < L.length := by
    rcases Nat.lt_or_ge i L.length with q | q
    · exact q
    · simp [List.getElem?_eq_none q] at hi
  cases p with
  | none => rw [(g3 rfl).1] at hj; simp at hj
  | some ad =>
    obtain ⟨k1, k2, C, sp, k3, k4, k5⟩ := g4 ad rfl
    have hq' : q = j * z + o := by rw [hq]; simp only [po, k1]; omega
    have hjl : j < rows.length := (List.getElem?_eq_some_iff.1 hj).1
    have hfl : rows.flatten.length = rows.length * z := flatten_len g2
    have hle : j * z + o + vs.length ≤ rows.flatten.length := by
      rw [hfl]
      have : (j + 1) * z ≤ rows.length * z := Nat.mul_le_mul_right z hjl
      rw [Nat.add_mul] at this; omega
    have hCl : C.size = C.toList.length := by simp
    have hrun := run_store_blk (P := P) (o := q) hT hv k3 (by rw [hCl, k4, List.length_append]; omega) (allOne_spec h1)
    have hr : r.length = z := g2 r (List.mem_of_getElem? hj)
    have hC : C.toList.take q ++ vs ++ C.toList.drop (q + vs.length) = (rows.set j (r.take o ++ vs ++ r.drop (o + vs.length))).flatten ++ sp := by
      rw [← flatten_set g2 hj hfit, hq', k4, List.take_append_of_le_length (by omega), List.drop_append_of_le_length (by omega)]
      simp only [List.append_assoc]
    refine .inl ⟨.skip, w.setRow ad.block (C.toList.take q ++ vs ++ C.toList.drop (q + vs.length)).toArray, undef, _, ?_, .inr ⟨rfl, rfl⟩, k, ?_⟩
    · simp only [execOp, ex, ey, pb, Instr.storeAt, Instr.sureAddr, Sem.run_bind, Sem.run_pure, Result.andThen_ok, hrun]
    · rw [← hL]
      have s1 : St β (L.set i (blk ad.block (.cells C E))) w := hw.conv i hi (fun k hk => ⟨by simp, hk⟩) k3
      have hg : (L.set i (blk ad.block (.cells C E)))[i]? = some (blk ad.block (.cells C E)) := by simp [hlt]
      have s2 := s1.setRow (C' := (C.toList.take q ++ vs ++ C.toList.drop (q + vs.length)).toArray) hg
      rw [List.set_set] at s2
      have hg2 : (L.set i (blk ad.block (.cells (C.toList.take q ++ vs ++ C.toList.drop (q + vs.length)).toArray E)))[i]? = some (blk ad.block (.cells (C.toList.take q ++ vs ++ C.toList.drop (q + vs.length)).toArray E)) := by simp [hlt]
      have s3 := s2.conv i (r' := own E z (some ad) cap (rows.set j (r.take o ++ vs ++ r.drop (o + vs.length)))) hg2 (fun k hk => hk.2) (by
        refine ⟨by simpa using g1, ?_, fun e => (by cases e), ?_⟩
        · intro s hs
          rcases List.mem_or_eq_of_mem_set hs with q1 | q1
          · exact g2 s q1
          · subst q1; simp; omega
        · intro a' ha'
          cases ha'
          refine ⟨k1, k2, _, sp, s2.inv i _ hg2, by simpa using hC, ?_⟩
          simp only [List.size_toArray]
          have e1 : (C.toList.take q ++ vs ++ C.toList.drop (q + vs.length)).length = C.toList.length := by
            have := hle
            have : q + vs.length ≤ C.toList.length := by rw [k4, List.length_append]; omega
            simp; omega
          rw [e1, ← hCl, k5])
      rwa [List.set_set] at s3

theorem LO.mi {d : Option Nat} {x : Operand} {T : Nat} {v : Value} (hT : ∃ u, P.underlying T = some u ∧ (match u with | .interface _ => false | _ => true) = true) (hx : OV env x v) : LO P β env L ⟨d, .makeInterface T x, ty, pos, aft, g⟩ (.iface T v) :=
  .of_run fun a w h hw => ⟨w, by
    obtain ⟨u, hu, hb⟩ := hT
    have hm : (Instr.makeInterface T v).run P w = .ok (.iface T v) w := by
      unfold Instr.makeInterface
      rw [Sem.run_bind, run_underlying hu]
      cases u <;> simp_all
    simp [execOp, h x (by simp [Op.operands]) _ hx, hm], hw⟩

end
end Go.SL

namespace Go.SL
set_option linter.unusedVariables false
open Go.RowKit

/-- The entries are those of a set. -/
structure SetS (es : List MapEntry) (S : ByteArray → Bool) : Prop where
  ent : ∀ e, e ∈ es → ∃ n, e.key = .string n ∧ e.val = .bool true ∧ S n = true
  mem : ∀ n, S n = true → ∃ e, e ∈ es ∧ e.key = .string n
  nod : es.Pairwise fun a b => a.key ≠ b.key

def setRs (b : Nat) (S : ByteArray → Bool) : Res := ⟨fun k => k = b, fun w => ∃ es clock, w.heap[b]? = some (.map es clock) ∧ SetS es.toList S, fun h ⟨es, c, h1, h2⟩ => ⟨es, c, (h b rfl).trans h1, h2⟩⟩

theorem strV_inj {a b : ByteArray} (h : Value.string a = .string b) : a = b := by simpa using h

theorem ba_refl (a : ByteArray) : (a == a) = true := by cases a; exact beq_self_eq_true (α := Array UInt8) _
theorem ba_ne {a b : ByteArray} (h : a ≠ b) : (a == b) = false := by cases a; cases b; exact beq_false_of_ne (α := Array UInt8) (fun e => h (congrArg _ e))

theorem findNow_sets {n : ByteArray} : ∀ {es : List MapEntry} (i : Nat), (∀ e, e ∈ es → ∃ m, e.key = .string m ∧ e.val = .bool true) →
    (∃ j, Instr.findNow .string (.string n) es i = some (some (j, .bool true)) ∧ i ≤ j ∧ ∃ e, es[j - i]? = some e ∧ e.key = .string n) ∨ (Instr.findNow .string (.string n) es i = some none ∧ ∀ e, e ∈ es → e.key ≠ .string n)
  | [], i, _ => .inr ⟨rfl, by simp⟩
  | e :: es, i, h => by
    obtain ⟨m, hm, hv⟩ := h e (by simp)
    simp only [Instr.findNow, hm, Instr.sameNow, if_true]
    by_cases q : n = m
    · subst q
      left
      rw [ba_refl]; skip
      exact ⟨i, by rw [hv], Nat.le_refl _, e, by simp, hm⟩
    · have : (n == m) = false := ba_ne q
      rw [this]
      rcases findNow_sets (n := n) (es := es) (i + 1) (fun e' he => h e' (by simp [he])) with ⟨j, h1, h2, e', h3, h4⟩ | ⟨h1, h2⟩
      · left
        refine ⟨j, h1, by omega, e', ?_, h4⟩
        rw [show j - i = (j - (i + 1)) + 1 by omega]
        simpa using h3
      · right
        refine ⟨h1, ?_⟩
        intro e' he
        rcases List.mem_cons.1 he with rfl | he
        · rw [hm]; exact fun e => q (strV_inj e).symm
        · exact h2 e' he

section
variable {P : Program} {ro : Option Nat} {β : Bs} {N : Nat} {ds : List Deferred} {env : Env} {L : List Res} {Q : Exit → Act → World → Prop}
variable {d : Option Nat} {ty : TypeId} {pos : String} {aft : Array Edge} {g : Option (Nat × Bool)}

def IsSetS (P : Program) (T : Nat) : Prop := ∃ K E, P.underlying T = some (.map K E) ∧ P.underlying K = some .string ∧ ZeroOf P E (.bool false)

theorem checkKey_str {K : TypeId} (hK : P.underlying K = some .string) (e : Bool) (n : Nat) (v : Value) (w : World) : (Instr.checkKey e (n + 1) K v).run P w = .ok () w := by
  simp [Instr.checkKey, run_underlying hK]

theorem run_lookup_sets {T b : Nat} {S : ByteArray → Bool} {n : ByteArray} {w : World} (hT : IsSetS P T) (hi : (setRs b S).inv w) : (Instr.lookup T (.map (some b)) (.string n) false).run P w = .ok (.bool (S n)) w := by
  obtain ⟨K, E, hu, hK, hz⟩ := hT
  obtain ⟨es, clock, hb, hs⟩ := hi
  have hobj : (getObj b).run P w = .ok (.map es clock) w := by simp [getObj, Sem.run, hb]
  simp only [Instr.lookup, Sem.run_bind, run_underlying hu, Result.andThen_ok, hobj, Sem.run_pure, checkKey_str hK, Instr.findKey, run_underlying hK]
  rcases findNow_sets (n := n) (es := es.toList) 0 (fun e he => by obtain ⟨m, h1, h2, _⟩ := hs.ent e he; exact ⟨m, h1, h2⟩) with ⟨j, h1, h2, e, h3, h4⟩ | ⟨h1, h2⟩
  · rw [h1]
    have hm : e ∈ es.toList := List.mem_of_getElem? h3
    obtain ⟨m, g1, g2, g3⟩ := hs.ent e hm
    have : m = n := strV_inj (g1.symm.trans h4)
    subst this
    simp [g3]
  · rw [h1]
    have : S n = false := by
      cases q : S n
      · rfl
      · obtain ⟨e, he, hk⟩ := hs.mem n q
        exact absurd hk (h2 e he)
    simp [run_zero hz, this]

theorem LO.lks {x y : Operand} {T b : Nat} {S : ByteArray → Bool} {n : ByteArray} (hT : IsSetS P T) (hx : OV env x (.map (some b))) (hy : OV env y (.string n)) (hi : ∀ w, St β L w → (setRs b S).inv w) : LO P β env L ⟨d, .lookup T x y false, ty, pos, aft, g⟩ (.bool (S n)) :=
  .of_run fun a w h hw => ⟨w, by
    have := run_lookup_sets (n := n) hT (hi w hw)
    skip
    simp [execOp, h x (by simp [Op.operands]) _ hx, h y (by simp [Op.operands]) _ hy, this], hw⟩

def insS (S : ByteArray → Bool) (n : ByteArray) : ByteArray → Bool := fun m => decide (m = n) || S m

theorem run_mapUpdate_sets {T b : Nat} {S : ByteArray → Bool} {n : ByteArray} {w : World} (hT : IsSetS P T) (i : Nat) (hw : St β L w) (hi : L[i]? = some (setRs b S)) :
    ∃ w', (Instr.mapUpdate T (.map (some b)) (.string n) (.bool true)).run P w = .ok () w' ∧ St β (L.set i (setRs b (insS S n))) w' := by
  obtain ⟨K, E, hu, hK, hz⟩ := hT
  obtain ⟨es, clock, hb, hs⟩ := hw.inv i _ hi
  have hobj : (getObj b).run P w = .ok (.map es clock) w := by simp [getObj, Sem.run, hb]
  have hlt : i < L.length := by
    rcases Nat.lt_or_ge i L.length with q | q
    · exact q
    · simp [List.getElem?_eq_none q] at hi
  have hset : ∀ o, (setObj b o).run P w = .ok () (w.putObj b o) := fun o => by simp [setObj, Sem.run, hb, World.putObj]
  -- the set's block «as» a block
  have h1 : St β (L.set i (blk b (.map es clock))) w := hw.conv i hi (fun k hk => hk) hb
  have upd : ∀ es' clock', SetS es'.toList (insS S n) → St β (L.set i (setRs b (insS S n))) (w.putObj b (.map es' clock')) := by
    intro es' clock' hse
    have hg : (L.set i (blk b (.map es clock)))[i]? = some (blk b (.map es clock)) := by simp [hlt]
    have h2 := h1.obj (o' := .map es' clock') i hg
    rw [List.set_set] at h2
    have hg2 : (L.set i (blk b (.map es' clock')))[i]? = some (blk b (.map es' clock')) := by simp [hlt]
    have h3 := h2.conv i (r' := setRs b (insS S n)) hg2 (fun k hk => hk) ⟨es', clock', h2.inv i _ hg2, hse⟩
    rwa [List.set_set] at h3
  simp only [Instr.mapUpdate, Sem.run_bind, run_underlying hu, Result.andThen_ok, hobj, checkKey_str hK, Instr.findKey, run_underlying hK]
  rcases findNow_sets (n := n) (es := es.toList) 0 (fun e he => by obtain ⟨m, h1, h2, _⟩ := hs.ent e he; exact ⟨m, h1, h2⟩) with ⟨j, h1', h2, e, h3, h4⟩ | ⟨h1', h2⟩
  · rw [h1']
    simp only [Nat.sub_zero] at h3
    have hj : es[j]? = some e := by simpa using h3
    have hjl : j < es.size := (Array.getElem?_eq_some_iff.1 hj).1
    have hme : es[j] = e := (Array.getElem?_eq_some_iff.1 hj).2
    obtain ⟨m, g1, g2, g3⟩ := hs.ent e (List.mem_of_getElem? h3)
    have hmn : m = n := strV_inj (g1.symm.trans h4)
    subst hmn
    have hmod : (es.modify j fun e => { e with key := .string m, val := .bool true }) = es := by
      apply Array.ext
      · simp
      · intro k hk1 hk2
        rw [Array.getElem_modify]
        split
        · rename_i q
          subst q
          rw [hme, ← g1, ← g2]
        · rfl
    refine ⟨w.putObj b (.map es clock), ?_, upd es clock ?_⟩
    · simp [hj, g1, Instr.keyThatStays, Instr.sameBits, ba_refl]
      rw [show (es.modify j fun e => { key := Value.string m, val := Value.bool true, born := e.born }) = es from hmod, hset]
    · refine ⟨fun e' he' => ?_, fun k hk => ?_, hs.nod⟩
      · obtain ⟨a, b1, b2, b3⟩ := hs.ent e' he'
        exact ⟨a, b1, b2, by simp [insS, b3]⟩
      · simp only [insS, Bool.or_eq_true, decide_eq_true_eq] at hk
        rcases hk with rfl | hk
        · exact hs.mem _ g3
        · exact hs.mem k hk
  · rw [h1']
    refine ⟨_, hset _, upd (es.push { key := .string n, val := .bool true, born := clock }) (clock + 1) ?_⟩
    refine ⟨fun e' he' => ?_, fun k hk => ?_, ?_⟩
    · simp only [Array.toList_push, List.mem_append, List.mem_singleton] at he'
      rcases he' with he' | rfl
      · obtain ⟨a, b1, b2, b3⟩ := hs.ent e' he'
        exact ⟨a, b1, b2, by simp [insS, b3]⟩
      · exact ⟨n, rfl, rfl, by simp [insS]⟩
    · simp only [insS, Bool.or_eq_true, decide_eq_true_eq] at hk
      by_cases q : k = n
      · exact ⟨{ key := .string n, val := .bool true, born := clock }, by simp, by rw [q]⟩
      · obtain ⟨e, he, hke⟩ := hs.mem k (by simpa [q] using hk)
        exact ⟨e, by simp [he], hke⟩
    · simp only [Array.toList_push]
      rw [List.pairwise_append]
      refine ⟨hs.nod, by simp, ?_⟩
      intro a ha b hb
      simp at hb; subst hb
      exact h2 a ha

section
variable {K : Value → List Res → Prop} {dd : Option Nat}
theorem HO.mksets {T : Nat} (k : ∀ b, K (.map (some b)) (setRs b (fun _ => false) :: L)) : HO P β env L ⟨dd, .makeMap T none, ty, pos, aft, none⟩ K := by
  intro a w h hw
  refine .inl ⟨_, w.alloc (.map #[] 0), _, _, ?_, .inl rfl, k w.heap.size, ?_⟩
  · simp [execOp, run_makeMap]
  · have h1 := hw.alloc (.map #[] 0)
    have := h1.conv 0 (r' := setRs w.heap.size (fun _ => false)) rfl (fun k hk => hk) ⟨#[], 0, h1.inv 0 _ rfl, by simp, by simp, by simp⟩
    simpa using this
theorem HO.mus (i : Nat) (LF : Res → List Res) {x y z : Operand} {T b : Nat} {S : ByteArray → Bool} {n : ByteArray} (hT : IsSetS P T) (hx : OV env x (.map (some b))) (hy : OV env y (.string n)) (hz : OV env z (.bool true)) (hi : L[i]? = some (setRs b S)) (hL : ∀ R : Res, L.set i R = LF R)
    (k : K undef (LF (setRs b (insS S n)))) : HO P β env L ⟨dd, .mapUpdate T x y z, ty, pos, aft, none⟩ K := by
  intro a w h hw
  obtain ⟨w', h1, h2⟩ := run_mapUpdate_sets (n := n) hT i hw hi
  skip
  refine .inl ⟨.skip, w', undef, _, ?_, .inr ⟨rfl, rfl⟩, k, by rw [← hL]; exact h2⟩
  have ex : a.eval x = .map (some b) := by obtain ⟨u, hu, e⟩ := hx; subst e; exact h x (by simp [Op.operands]) _ hu
  have ey : a.eval y = .string n := by obtain ⟨u, hu, e⟩ := hy; subst e; exact h y (by simp [Op.operands]) _ hu
  have ez : a.eval z = .bool true := by obtain ⟨u, hu, e⟩ := hz; subst e; exact h z (by simp [Op.operands]) _ hu
  simp [execOp, ex, ey, ez, h1]
end

end
end Go.SL

namespace Go.SL
set_option linter.unusedVariables false
open Go.RowKit

section
variable {P : Program} {ro : Option Nat} {β : Bs} {N : Nat} {ds : List Deferred} {env : Env} {L : List Res} {Q : Exit → Act → World → Prop}
  {ty : TypeId} {pos : String} {aft : Array Edge} {g : Option (Nat × Bool)}

theorem set_self {α : Type} {l : List α} {i : Nat} {x : α} (h : l[i]? = some x) : l.set i x = l := by
  refine List.ext_getElem? fun j => ?_
  rw [List.getElem?_set]
  split
  · rename_i q; subst q; rw [h]; split
    · rfl
    · rename_i q; rw [List.getElem?_eq_none (by omega)] at h; cases h
  · rfl

theorem zeroCells_mem {zs : Array Value} {n : Nat} {u : Value} (h : u ∈ (Builtin.zeroCells zs n).toList) : u ∈ zs.toList := by
  unfold Builtin.zeroCells at h
  rw [Array.toList_map, List.mem_map] at h
  obtain ⟨i, hi, rfl⟩ := h
  have h0 : 0 < zs.size := by
    rw [Array.toList_range, List.mem_range] at hi
    rcases Nat.eq_zero_or_pos zs.size with q | q
    · rw [q] at hi; omega
    · exact q
  have hm : i % zs.size < zs.size := Nat.mod_lt _ h0
  rw [getElem!_pos zs _ hm]
  exact Array.getElem_mem_toList hm

/-- An owned slice whose cells are turned. -/
theorem St.ownRow {w : World} (hw : St β L w) (i : Nat) {E z cap : Nat} {ad : Addr} {rows rows' : List (List Value)} {C C' : Array Value} {sp : List Value} (hi : L[i]? = some (own E z (some ad) cap rows)) (hC : w.heap[ad.block]? = some (.cells C E (0, 0)))
    (h1 : rows'.length ≤ cap) (h2 : ∀ r ∈ rows', r.length = z) (h3 : C'.toList = rows'.flatten ++ sp) (h4 : C'.size = C.size) : St β (L.set i (own E z (some ad) cap rows')) (w.setRow ad.block C') := by
  obtain ⟨g1, g2, g3, g4⟩ := hw.inv i _ hi
  have hlt : i < L.length := by
    rcases Nat.lt_or_ge i L.length with q | q
    · exact q
    · simp [List.getElem?_eq_none q] at hi
  obtain ⟨k1, k2, D, sp0, k3, k4, k5⟩ := g4 ad rfl
  rw [hC] at k3
  cases k3
  have s1 : St β (L.set i (blk ad.block (.cells C E))) w := hw.conv i hi (fun k hk => ⟨by simp, hk⟩) hC
  have hg : (L.set i (blk ad.block (.cells C E)))[i]? = some (blk ad.block (.cells C E)) := by simp [hlt]
  have s2 := s1.setRow (C' := C') hg
  rw [List.set_set] at s2
  have hg2 : (L.set i (blk ad.block (.cells C' E)))[i]? = some (blk ad.block (.cells C' E)) := by simp [hlt]
  have s3 := s2.conv i (r' := own E z (some ad) cap rows') hg2 (fun k hk => hk.2) ⟨h1, h2, fun e => (by cases e), fun a' ha' => by cases ha'; exact ⟨k1, k2, C', sp, s2.inv i _ hg2, h3, by rw [h4, k5]⟩⟩
  rwa [List.set_set] at s3

/-- The elements from 'k' on are cleared; they are left to the spare room. -/
theorem HO.clr (i k : Nat) (LF : Res → List Res) {K : Value → List Res → Prop} {dd : Option Nat} {x : Operand} {T E z cap n : Nat} {p : Option Addr} {zero : Value} {rows : List (List Value)} {aT : Array TypeId} (hT : IsSlice P T E) (hz : ZeroOf P E zero) (hzs : zero.cells.size = z) (hz1 : allOne zero.cells.toList = true)
    (hx : OV env x (.slice (slFrom p cap k z) (n - k) (cap - k))) (hi : L[i]? = some (own E z p cap rows)) (hn : n = rows.length) (hk : k ≤ rows.length) (ha : aT[0]? = some T) (hL : ∀ R : Res, L.set i R = LF R)
    (kk : K (.tuple #[]) (LF (own E z p cap (rows.take k)))) : HO P β env L ⟨dd, .call ⟨.builtin .clear, #[x], aT⟩, ty, pos, aft, none⟩ K := by
  intro a w h hw
  have ex : a.eval x = .slice (slFrom p cap k z) (n - k) (cap - k) := by obtain ⟨u, hu, e⟩ := hx; subst e; exact h x (by simp [Op.operands, Call.operands]) _ hu
  obtain ⟨g1, g2, g3, g4⟩ := hw.inv i _ hi
  have hlt : i < L.length := by
    rcases Nat.lt_or_ge i L.length with q | q
    · exact q
    · simp [List.getElem?_eq_none q] at hi
  subst hn
  rcases Nat.lt_or_ge k rows.length with q | q
  · cases p with
    | none => rw [(g3 rfl).1] at q; simp at q
    | some ad =>
      obtain ⟨k1, k2, C, sp, k3, k4, k5⟩ := g4 ad rfl
      have hfl : rows.flatten.length = rows.length * z := flatten_len g2
      have hCl : C.size = C.toList.length := by simp
      have hmul : k * z + (rows.length - k) * z = rows.length * z := by rw [← Nat.add_mul]; congr 1; omega
      have hzl : (Builtin.zeroCells zero.cells (rows.length - k)).toList.length = (rows.length - k) * z := by
        rw [Array.length_toList, zeroCells_size, hzs]
      have hfit : k * z + (Builtin.zeroCells zero.cells (rows.length - k)).toList.length ≤ C.size := by
        rw [hzl, hCl, k4, List.length_append, hfl]; omega
      have h1 : ∀ u ∈ (Builtin.zeroCells zero.cells (rows.length - k)).toList, u.oneCell' = true := fun u hu => allOne_spec hz1 u (zeroCells_mem hu)
      have hrun := run_storeCells_at P ad.block (k * z) E (Builtin.zeroCells zero.cells (rows.length - k)).toList 0 C w k3 (by simpa using hfit) h1
      simp only [Nat.add_zero] at hrun
      have hsl : slFrom (some ad) cap k z = some ⟨ad.block, k * z, none⟩ := by
        unfold slFrom
        rw [if_neg (by omega)]
        simp only [Option.map_some]
        congr 1
        unfold Addr.add
        cases ad; simp_all
      have hne : ∃ m, rows.length - k = m + 1 := ⟨rows.length - k - 1, by omega⟩
      have hev : (Builtin.clear_ aT ty #[.slice (slFrom (some ad) cap k z) (rows.length - k) (cap - k)]).run P w = .ok (.tuple #[]) (w.setRow ad.block (C.toList.take (k * z) ++ (Builtin.zeroCells zero.cells (rows.length - k)).toList ++ C.toList.drop (k * z + (Builtin.zeroCells zero.cells (rows.length - k)).toList.length)).toArray) := by
        obtain ⟨m, hm⟩ := hne
        rw [hm] at hrun ⊢
        simp [Builtin.clear_, ha, run_underlying hT, hsl, run_zero hz, hrun]
      refine .inl ⟨.value (.tuple #[]), w.setRow ad.block (C.toList.take (k * z) ++ (Builtin.zeroCells zero.cells (rows.length - k)).toList ++ C.toList.drop (k * z + (Builtin.zeroCells zero.cells (rows.length - k)).toList.length)).toArray, .tuple #[], _, ?_, .inl rfl, kk, ?_⟩
      · simp only [execOp, resolve, invoke, builtin, ex, List.map_toArray, List.map_cons, List.map_nil, Sem.run_bind, Sem.run_pure, Result.andThen_ok, hev]
      · rw [← hL]
        refine hw.ownRow i (sp := (Builtin.zeroCells zero.cells (rows.length - k)).toList ++ C.toList.drop (k * z + (Builtin.zeroCells zero.cells (rows.length - k)).toList.length)) hi k3 (by rw [List.length_take]; omega) (fun r hr => g2 r (List.mem_of_mem_take hr)) ?_ ?_
        · have : C.toList.take (k * z) = (rows.take k).flatten := by
            have e1 : ((rows.take k).flatten ++ (rows.drop k).flatten) = rows.flatten := by rw [← List.flatten_append, List.take_append_drop]
            have e2 : (rows.take k).flatten.length = k * z := by rw [flatten_len (fun r hr => g2 r (List.mem_of_mem_take hr)), List.length_take]; congr 1; omega
            rw [k4, ← e1, List.append_assoc, List.take_append_of_le_length (by omega), ← e2, List.take_length]
          simp [this]
        · rw [List.size_toArray, List.length_append, List.length_append, List.length_take, List.length_drop]; omega
  · have hke : k = rows.length := by omega
    have hev : (Builtin.clear_ aT ty #[.slice (slFrom p cap k z) (rows.length - k) (cap - k)]).run P w = .ok (.tuple #[]) w := by
      rw [show rows.length - k = 0 by omega]
      cases slFrom p cap k z <;> simp [Builtin.clear_, ha, run_underlying hT]
    refine .inl ⟨.value (.tuple #[]), w, .tuple #[], _, ?_, .inl rfl, kk, ?_⟩
    · simp only [execOp, resolve, invoke, builtin, ex, List.map_toArray, List.map_cons, List.map_nil, Sem.run_bind, Sem.run_pure, Result.andThen_ok, hev]
    · rw [← hL, List.take_of_length_le (by omega), set_self hi]
      exact hw

theorem LO.mf2 {d : Option Nat} {fn : Fn} {ys xs : List Operand} {first cap : List Value} (hy : OVs env ys first) (hx : OVs env xs cap) : LO P β env L ⟨d, .makeFunc fn ys.toArray xs.toArray, ty, pos, aft, g⟩ (.func fn first.toArray cap.toArray) :=
  .of_run fun a w h hw => ⟨w, by
    have hm : xs.map a.eval = cap := hx.map fun x hm u hu => h x (by simp [Op.operands, hm]) u hu
    have hm2 : ys.map a.eval = first := hy.map fun x hm u hu => h x (by simp [Op.operands, hm]) u hu
    simp [execOp, Instr.makeFunc, hm, hm2], hw⟩

/-- A call that is handed some of the resources, and leaves others in their place. -/
theorem HO.callP {α : Type} (L1 L2 : List Res) {K : Value → List Res → Prop} {dd : Option Nat} {f : FuncId} {fx : Operand} {xs : List Operand} {vs first cap : List Value} {aT : Array TypeId} {v : α → Value} {R : α → List Res} {I : α → Prop} (hL : ∀ w, St β L w → St β (L1 ++ L2) w) (hfx : OV env fx (.func (.func f) first.toArray cap.toArray)) (hf : IsFn P f) (hx : OVs env xs vs)
    (hc : ∀ w, St β L w → Has w L1 → Calls P f (first ++ vs ++ cap).toArray w fun e w' => ∃ x, I x ∧ e = .returned (v x) ∧ St ⟨w, fpL L1⟩ (R x) w') (k : ∀ x, I x → K (v x) (R x ++ L2)) : HO P β env L ⟨dd, .call ⟨.value fx, xs.toArray, aT⟩, ty, pos, aft, none⟩ K := by
  intro a w h hw
  refine .inr (.inl ⟨f, (first ++ vs ++ cap).toArray, ?_, ?_⟩)
  · have hm : xs.map a.eval = vs := hx.map fun x hm u hu => by obtain ⟨u', hu', e⟩ := hu; subst e; exact h x (by simp [Op.operands, Call.operands, hm]) u' hu'
    have hfe : a.eval fx = .func (.func f) first.toArray cap.toArray := by obtain ⟨u', hu', e⟩ := hfx; subst e; exact h fx (by simp [Op.operands, Call.operands]) _ hu'
    simp [execOp, resolve, hfe, Deferred.ofValue, invoke, run_call hf, hm]
  · have hw2 : St β (L1 ++ L2) w := hL w hw
    exact (hc w hw hw2.hasL).mono fun e w' ⟨x, hI, he, hs⟩ => ⟨v x, _, he, k x hI, hw2.callG (fun k hk => hk) hs⟩
end
end Go.SL
