/-
  A range over a function whose order is open; a range over a map that is not written meanwhile.
-/
import Derived.Test.YtdcjeoamhjplmaaSF
import Derived.Laws.IdiomRangeMap
namespace Go.SL
set_option linter.unusedVariables false
open Go.RowKit

/-- What an iterator value promises whose order is open: what comes next is one of 'Nx' of what has come; it ends where 'En' holds. -/
def SeqG (P : Program) (gf : FuncId) (lb : List Value) (Cap : World → Prop) (Nx : List (List Value) → List Value → Prop) (En : List (List Value) → Prop) : Prop :=
  ∀ (l : Nat) (J Jx : List (List Value) → Res → Prop) (w : World) (r0 : Res),
    (∀ n r w, J n r → r.inv w → Cap w) →
    (∀ n vs, Nx n vs → ∀ r w1, J n r → r.inv w1 → (∀ k, r.fp k → k < w1.heap.size) → (w1.os = w.os ∧ w1.tape = w.tape ∧ w1.output = w.output ∧ w.heap.size ≤ w1.heap.size) → YieldsTo P l vs w1 fun e w' => ∃ b r', e = .returned (.bool b) ∧ (if b then J (n ++ [vs]) r' else Jx (n ++ [vs]) r') ∧ St ⟨w1, r.fp⟩ [r'] w') →
    J [] r0 → r0.inv w → (∀ k, r0.fp k → k < w.heap.size) →
    Calls P gf (yv l :: lb).toArray w fun e w' => e = .returned (.tuple #[]) ∧ ∃ n r', ((En n ∧ J n r') ∨ Jx n r') ∧ St ⟨w, r0.fp⟩ [r'] w'

section
variable {P : Program} {ro : Option Nat} {β : Bs} {ds : List Deferred} {N : Nat} {env : Env} {L : List Res} {Q : Exit → Act → World → Prop}
/-- A range over a function whose order is open: 'n' is what has come so far. -/
theorem VC.rangeFuncG {α : Type} {gop : Operand} {ps : Array Tmp} {asg body : Code} {gf : FuncId} {lb : List Value} {Cap : World → Prop} {Nx : List (List Value) → List Value → Prop} {En : List (List Value) → Prop} (F : α → List Res) (I : List (List Value) → α → Prop) (Ix : Code → List (List Value) → α → Prop) (x0 : α) (envb : List Value → Env)
    (hg : ev env gop = some (.func (.func gf) #[] lb.toArray)) (hf : IsFn P gf) (hseq : SeqG P gf lb Cap Nx En) (hF0 : ∀ w, St β L w → St β (F x0) w) (h0 : I [] x0)
    (hps : ∀ n vs, Nx n vs → vs.length = ps.size) (hpN : ps.toList.all (fun t => Nat.blt t N) = true)
    (hCap : ∀ n x w, I n x → (∀ (i : Nat) (r : Res), (F x)[i]? = some r → r.inv w) → (∀ k, k < β.w.heap.size → ¬ β.O k → w.heap[k]? = β.w.heap[k]?) → Cap w)
    (hasg : ∀ (n : List (List Value)) (x : α) (vs : List Value) l T w1, I n x → Nx n vs → St β (F x ++ T) w1 → VC P (some l) ⟨w1, fpL (F x ++ T)⟩ N [] (penv ps vs ++ env) (F x ++ T) asg (AP ⟨w1, fpL (F x ++ T)⟩ N (envb vs) (F x ++ T)))
    (hbody : ∀ (n : List (List Value)) (x : α) (vs : List Value) l T w1, I n x → Nx n vs → St β (F x ++ T) w1 → VC P (some l) ⟨w1, fpL (F x ++ T)⟩ N [] (envb vs) (F x ++ T) body (RB ⟨w1, fpL (F x ++ T)⟩ F T (I (n ++ [vs])) (fun c => Ix c (n ++ [vs]))))
    (hdone : ∀ D n x, En n → I n x → VE β N [mark D] env (F x ++ [dR D]) .normal Q)
    (hstop : ∀ D c n x, Ix c n x → VC P none β N [mark D] env (F x ++ [dR D]) c Q) :
    VC P none β N [] env L (.rangeFunc gop ps asg body) Q := by
  intro a w ha hw
  have hw0 := hF0 w hw
  refine wpIn_rangeFunc fun fn _ => ?_
  obtain ⟨rec, hrec⟩ : ∃ rec : LoopState → Option Code → Loop, rec = fun st pe => { state := st, pending := pe, fn, tmps := a.tmps, params := ps, assign := asg, body, defers := w.heap.size } := ⟨_, rfl⟩
  obtain ⟨D, hD⟩ : ∃ D, D = w.heap.size := ⟨_, rfl⟩
  obtain ⟨l, hl⟩ : ∃ l, l = w.heap.size + 1 := ⟨_, rfl⟩
  obtain ⟨W1, hW1⟩ : ∃ W1, (w.alloc (.deferred (some []))).alloc (.loop (rec .ready none)) = W1 := ⟨_, rfl⟩
  obtain ⟨T, hT⟩ : ∃ T : LoopState → Option Code → List Res, T = fun st pe => [blk l (.loop (rec st pe)), dR D] := ⟨_, rfl⟩
  have hTget : ∀ x st pe, (F x ++ T st pe)[(F x).length]? = some (blk l (.loop (rec st pe))) := by intro x st pe; simp [hT]
  have hTset : ∀ x st pe st' pe', (F x ++ T st pe).set (F x).length (blk l (.loop (rec st' pe'))) = F x ++ T st' pe' := by intro x st pe st' pe'; simp [hT]
  have hst1 : St β (F x0 ++ T .ready none) W1 := by
    have h1 := (hw0.alloc (.deferred (some []))).alloc (.loop (rec .ready none))
    rw [hW1, World.size_alloc] at h1
    refine h1.map (fun j => if j < (F x0).length then j + 2 else if j = (F x0).length then 0 else 1) ?_ ?_
    · intro a b hab ha hb
      simp [hT] at ha hb
      split <;> split <;> (try split) <;> (try split) <;> omega
    · intro j r hr
      right
      rw [List.getElem?_append] at hr
      by_cases q : j < (F x0).length
      · simp only [q, if_true] at hr ⊢
        simpa using hr
      · simp only [q, if_false] at hr ⊢
        by_cases e : j = (F x0).length
        · subst e; simp [hT] at hr; subst hr; simp [hl]
        · have : j = (F x0).length + 1 := by
            rcases Nat.lt_or_ge (j - (F x0).length) 2 with s | s
            · omega
            · simp only [hT] at hr; rw [List.getElem?_eq_none (by simpa using s)] at hr; cases hr
          subst this
          simp [hT] at hr; subst hr; simp [dR, hD]
  -- from the record's states to the world
  have endx : ∀ x st pe w', St β (F x ++ T st pe) w' → st ≠ .busy → ∃ w4, (Instr.endLoop l).run P w' = .ok pe w4 ∧ St β (F x ++ [dR D]) w4 := by
    intro x st pe w' hs hne
    have hrl : w'.heap[l]? = some (.loop (rec st pe)) := hs.inv _ _ (hTget x st pe)
    refine ⟨w'.putObj l (.loop { rec st pe with state := .exhausted }), ?_, ?_⟩
    · have := run_endLoop (P := P) hrl (by rw [hrec]; exact hne)
      rw [this]; congr 1; rw [hrec]
    · have h2 := hs.obj (o' := .loop { rec st pe with state := .exhausted }) _ (hTget x st pe)
      refine h2.map (fun j => if j < (F x).length then j else j + 1) ?_ ?_
      · intro a b hab ha hb
        split <;> split <;> omega
      · intro j r hr
        right
        rw [List.getElem?_append] at hr
        by_cases q : j < (F x).length
        · simp only [q, if_true] at hr ⊢
          rw [List.getElem?_set_ne (by omega), List.getElem?_append_left q]; exact hr
        · simp only [q, if_false] at hr ⊢
          have : j = (F x).length := by
            rcases Nat.lt_or_ge (j - (F x).length) 1 with s | s
            · omega
            · rw [List.getElem?_eq_none (by simpa using s)] at hr; cases hr
          subst this
          simp at hr; subst hr
          rw [List.getElem?_set_ne (by omega), List.getElem?_append_right (by omega)]
          simp [hT]
  refine ⟨l, [mark D], W1, { target := .fn (.func gf) lb.toArray, args := #[yv l] }, W1, gf, (yv l :: lb).toArray, W1, ?_, ?_, ?_, ?_, fun h => by simp [Wf, Fence.wide] at h, ?_⟩
  · rw [← hW1, hrec, hl, hD]; exact run_enterLoop_outer _ _ _ _ _
  · have e : a.eval gop = .func (.func gf) #[] lb.toArray := ha.eval hg
    simp only [resolve, e]
    simp [Deferred.ofValue, yv, Act.eval]
  · intro f' _; exact True.intro
  · simp [invoke, run_call hf]
  · refine callsIn_wf.2 ((hseq l (fun n r => ∃ x, I n x ∧ r = big β (F x ++ T .ready none) ∧ Fits β (F x ++ T .ready none)) (fun n r => ∃ c x, Ix c n x ∧ r = big β (F x ++ T .done (some c)) ∧ Fits β (F x ++ T .done (some c)))
      W1 (big β (F x0 ++ T .ready none)) ?_ ?_ ⟨x0, h0, rfl, hst1.fits⟩ ⟨hst1.inv, hst1.fr⟩ ?_).mono ?_)
    · rintro n r w' ⟨x, hI, rfl, _⟩ hinv
      exact hCap n x w' hI (fun i r hr => hinv.1 i r (by
        rw [List.getElem?_append_left]
        · exact hr
        · rcases Nat.lt_or_ge i (F x).length with q | q
          · exact q
          · simp [List.getElem?_eq_none q] at hr)) hinv.2
    · -- one round
      rintro n vs hvs r w1 ⟨x, hI, rfl, hfit⟩ hinv hb hos
      have hs1 : St β (F x ++ T .ready none) w1 := St.of_big (w1 := w1) (O := β.O) hfit ⟨hos.1.trans hst1.os, hos.2.1.trans hst1.tape, hos.2.2.1.trans hst1.output, Nat.le_trans hst1.size hos.2.2.2⟩ hinv hb
      have hrl : w1.heap[l]? = some (.loop (rec .ready none)) := hs1.inv _ _ (hTget x .ready none)
      have hlen : vs.toArray.size = ps.size := by simpa using hps n vs hvs
      have hy := run_yield (P := P) (args := vs.toArray) hrl (by rw [hrec]; exact hlen)
      refine ⟨_, _, _, _, hy, ?_⟩
      refine roundIn_of_wpIn (F := Fence.wide) (n := 0) True.intro ?_
      have hA : Ag N [] (penv ps vs ++ env) { tmps := (ps.zip vs.toArray).foldl (fun t (p, v) => t.setIfInBounds p v) a.tmps, defers := [] } := by
        have h1 := ag_zip (N := N) (ds := []) (ps.toList.zip vs) env { tmps := a.tmps, defers := [] } (fun z hz => by
          have hm : z.1 ∈ ps.toList := (List.of_mem_zip (a := z.1) (b := z.2) hz).1
          exact Nat.le_of_ble_eq_true (List.all_eq_true.1 hpN z.1 hm)) ⟨ha.size, rfl, ha.get⟩
        have e : (ps.zip vs.toArray).foldl (fun t (p, v) => t.setIfInBounds p v) a.tmps = (ps.toList.zip vs).foldl (fun t (p, v) => t.setIfInBounds p v) a.tmps := by
          rw [← Array.foldl_toList, Array.toList_zip]
        rw [e]; exact h1
      have ha1 := hasg n x vs l (T .ready none) w1 hI hvs hs1 _ w1 hA hs1.rebase
      rw [hrec]
      refine Code.wpIn_mono ?_ ha1
      rintro e a2 w2 ⟨rfl, hag, hs2⟩
      have hs2' := hs1.back hs2
      have hrl2 : w2.heap[l]? = some (.loop (rec .ready none)) := hs2.inv _ _ (hTget x .ready none)
      refine ⟨w2.putObj l (.loop { rec .ready none with state := .busy }), run_beginRound hrl2 (by rw [hrec]), ?_⟩
      have eb : ({ rec .ready none with state := .busy } : Loop) = rec .busy none := by rw [hrec]
      rw [eb]
      have hs3 := hs2'.obj (o' := .loop (rec .busy none)) _ (hTget x .ready none)
      rw [hTset] at hs3
      have hs3' := hs2.obj (o' := .loop (rec .busy none)) _ (hTget x .ready none)
      rw [hTset] at hs3'
      have hb1 := hbody n x vs l (T .busy none) _ hI hvs hs3 _ _ hag hs3.rebase
      refine Code.wpIn_mono ?_ hb1
      intro e a3 w3 hq
      have fin : ∀ y (jump : Option Code), St ⟨w2.putObj l (.loop (rec .busy none)), fpL (F x ++ T .busy none)⟩ (F y ++ T .busy none) w3 →
          ∃ w4, (Instr.endRound l jump).run P w3 = .ok (.bool jump.isNone) w4 ∧ St ⟨w1, (big β (F x ++ T .ready none)).fp⟩ [big β (F y ++ T (if jump.isNone then .ready else .done) jump)] w4 ∧ Fits β (F y ++ T (if jump.isNone then .ready else .done) jump) := by
        intro y jump hsy
        have h4 := hs3'.back hsy
        have hrl3 : w3.heap[l]? = some (.loop (rec .busy none)) := h4.inv _ _ (hTget y .busy none)
        refine ⟨_, run_endRound jump hrl3, ?_⟩
        have er : ({ rec .busy none with state := if jump.isNone then .ready else .done, pending := jump } : Loop) = rec (if jump.isNone then .ready else .done) jump := by rw [hrec]
        rw [er]
        have h5 := h4.obj (o' := .loop (rec (if jump.isNone then .ready else .done) jump)) _ (hTget y .busy none)
        rw [hTset] at h5
        exact ⟨St.to_big hs1 h5, (hs1.back h5).fits⟩
      cases e with
      | normal =>
        obtain ⟨y, hy1, hy2⟩ := hq
        obtain ⟨w4, h1, h2, h3⟩ := fin y none hy2
        exact ⟨_, w4, h1, true, _, rfl, ⟨y, hy1, rfl, h3⟩, h2⟩
      | ret =>
        obtain ⟨y, hy1, hy2⟩ := hq
        obtain ⟨w4, h1, h2, h3⟩ := fin y (some .ret) hy2
        exact ⟨_, w4, h1, false, _, rfl, ⟨_, y, hy1, rfl, h3⟩, h2⟩
      | exit id =>
        obtain ⟨y, hy1, hy2⟩ := hq
        obtain ⟨w4, h1, h2, h3⟩ := fin y (some (.exit id)) hy2
        exact ⟨_, w4, h1, false, _, rfl, ⟨_, y, hy1, rfl, h3⟩, h2⟩
      | goto t => exact hq.elim
      | panic ch => exact hq.elim
      | outgrown => exact hq.elim
    · intro k hk
      rcases hk with ⟨i, r, hr, hk⟩ | ⟨hk, _⟩
      · exact (hst1.rng i r hr k hk).2
      · exact Nat.lt_of_lt_of_le hk hst1.size
    · rintro e w' ⟨rfl, n, r', hJ, hs⟩
      have toSt : ∀ L2, r' = big β L2 → Fits β L2 → St β L2 w' := by
        rintro L2 rfl hfit
        have hb := hs.rng 0 _ rfl
        exact St.of_big (w1 := w') (O := β.O) hfit ⟨hs.os.trans hst1.os, hs.tape.trans hst1.tape, hs.output.trans hst1.output, Nat.le_trans hst1.size hs.size⟩ (hs.inv 0 _ rfl) (fun k hk => (hb k hk).2)
      have hag : Ag N [mark D] env { a with defers := [mark D] ++ a.defers } := ⟨ha.size, by simp [ha.dfr], ha.get⟩
      rcases hJ with ⟨hE, x, hI, hr, hfit⟩ | ⟨c, x, hI, hr, hfit⟩
      · obtain ⟨w4, h1, h2⟩ := endx x .ready none w' (toSt _ hr hfit) (by simp)
        exact ⟨none, w4, h1, hdone D n x hE hI _ _ hag h2⟩
      · obtain ⟨w4, h1, h2⟩ := endx x .done (some c) w' (toSt _ hr hfit) (by simp)
        exact ⟨some c, w4, h1, hstop D c n x hI _ _ hag h2⟩

/-! ### A range over a map -/
variable {d : Option Nat} {ty : TypeId} {pos : String} {aft : Array Edge} {g : Option (Nat × Bool)}
variable {K : Value → List Res → Prop} {dd : Option Nat}
theorem run_next_map_at (w : World) (ir : Nat) (ty : TypeId) (bm since c0 : Nat) (seen : Array Nat) (es : Array MapEntry) (clock : Nat) (hi : w.heap[ir]? = some (.mapIter (some bm) since seen c0)) (hb : w.heap[bm]? = some (.map es clock)) (hold : ∀ x ∈ es.toList, x.born < since) (hsc : since ≤ c0) :
    ((leftOf es seen).size = 0 ∧ (Instr.next (.pointer (some ⟨ir, 0, none⟩)) false ty).run P w = .ok (.tuple #[.bool false]) w) ∨
    ∃ e ∈ (leftOf es seen).toList, ∃ n : Nat, (Instr.next (.pointer (some ⟨ir, 0, none⟩)) false ty).run P w = .ok (.tuple #[.bool true, e.key, e.val]) (({ w with drawn := n } : World).putObj ir (.mapIter (some bm) since (seen.push e.born) clock)) := by
  simp only [Instr.next, getObj, Sem.run_bind, Sem.run, hi, hb, Result.andThen, next_test_false seen es since c0 hold hsc, Bool.false_eq_true, if_false]
  unfold leftOf
  have hmem : ∀ x ∈ (Array.filter (fun e => !seen.contains e.born) es).toList, x.born < since := fun x hx => hold x (by simp at hx ⊢; exact hx.1)
  generalize Array.filter (fun e => !seen.contains e.born) es = L at hmem ⊢
  have e1 : L.filter (fun x => decide (x.born < since)) = L := Array.filter_eq_self.2 (fun x hx => by simpa using hmem x (by simpa using hx))
  have e2 : L.filter (fun x => decide (x.born ≥ since)) = #[] := by
    rw [Array.filter_eq_empty_iff]
    intro x hx
    have := hmem x (by simpa using hx)
    simp
    omega
  simp only [e1, e2, Array.append_empty]
  by_cases h0 : L.size = 0
  · left
    have : L = #[] := Array.eq_empty_of_size_eq_zero h0
    subst this
    refine ⟨rfl, ?_⟩
    simp [choose, Sem.run, Question.forced]
  · right
    have hne : L.isEmpty = false := by simp [Array.isEmpty, h0]
    simp only [hne, Bool.false_eq_true, if_false, Array.empty_append, Array.size_map]
    have hch : ∃ (j : Nat) (n : Nat), j < L.size ∧ (choose (Question.mapNext L.size)).run P w = .ok j ({ w with drawn := n } : World) := by
      by_cases hf : L.size ≤ 1
      · exact ⟨0, w.drawn, by omega, by simp [choose, Sem.run, Question.forced, hf]⟩
      · exact ⟨_, _, Nat.mod_lt _ (by omega), by
          simp only [choose, Sem.run, Question.forced, decide_eq_true_eq, hf, if_false, Question.cut]
          rfl⟩
    obtain ⟨j, n, hj, hrun⟩ := hch
    refine ⟨L[j], by simp, n, ?_⟩
    have hset : (setObj ir (.mapIter (some bm) since (seen.push L[j].born) clock)).run P ({ w with drawn := n } : World) = .ok () (({ w with drawn := n } : World).putObj ir (.mapIter (some bm) since (seen.push L[j].born) clock)) := by
      simp only [setObj, Sem.run, hi]; rfl
    simp only [hrun, Array.getElem?_map, Array.getElem?_eq_getElem hj, Option.map_some, Sem.run_bind, hset, Result.andThen]
    rfl

theorem HO.rangeM {T k e : Nat} {x : Operand} {b : Nat} {es : Array MapEntry} {clock : Nat} (hT : P.underlying T = some (.map k e)) (hx : ev env x = some (.map (some b))) (hc : ∀ w, St β L w → w.heap[b]? = some (.map es clock))
    (kk : ∀ ib, K (.pointer (some ⟨ib, 0, none⟩)) (blk ib (.mapIter (some b) clock #[] clock) :: L)) : HO P β env L ⟨dd, .range T x, ty, pos, aft, g⟩ K := by
  intro a w h hw
  refine .inl ⟨_, w.alloc (.mapIter (some b) clock #[] clock), _, _, ?_, .inl rfl, kk w.heap.size, hw.alloc _⟩
  simp [execOp, h x (by simp [Op.operands]) _ hx, run_range_map w T k e b es clock hT (hc w hw)]
/-- One more of the entries, whichever, or none is left. -/
theorem HO.nextM (i : Nat) (LF : Res → List Res) {x : Operand} {b ib since c0 clock : Nat} {seen : Array Nat} {es : Array MapEntry} (hx : ev env x = some (.pointer (some ⟨ib, 0, none⟩))) (hi : L[i]? = some (blk ib (.mapIter (some b) since seen c0))) (hL : ∀ R : Res, L.set i R = LF R)
    (hc : ∀ w, St β L w → w.heap[b]? = some (.map es clock)) (hold : ∀ x ∈ es.toList, x.born < since) (hsc : since ≤ c0)
    (k0 : (leftOf es seen).size = 0 → K (.tuple #[.bool false]) L) (k1 : ∀ e, e ∈ (leftOf es seen).toList → K (.tuple #[.bool true, e.key, e.val]) (LF (blk ib (.mapIter (some b) since (seen.push e.born) clock)))) : HO P β env L ⟨dd, .next x false, ty, pos, aft, g⟩ K := by
  intro a w h hw
  have hb : w.heap[ib]? = some (.mapIter (some b) since seen c0) := hw.inv i _ hi
  rcases run_next_map_at (P := P) w ib ty b since c0 seen es clock hb (hc w hw) hold hsc with ⟨h0, hr⟩ | ⟨e, he, n, hr⟩
  · refine .inl ⟨_, w, _, _, ?_, .inl rfl, k0 h0, hw⟩
    simp [execOp, h x (by simp [Op.operands]) _ hx, hr]
  · refine .inl ⟨_, ({ w with drawn := n } : World).putObj ib (.mapIter (some b) since (seen.push e.born) clock), .tuple #[.bool true, e.key, e.val], LF (blk ib (.mapIter (some b) since (seen.push e.born) clock)), ?_, .inl rfl, k1 e he, ?_⟩
    · simp [execOp, h x (by simp [Op.operands]) _ hx, hr]
    · rw [← hL]
      exact (hw.drew n).obj i hi
end
end Go.SL
