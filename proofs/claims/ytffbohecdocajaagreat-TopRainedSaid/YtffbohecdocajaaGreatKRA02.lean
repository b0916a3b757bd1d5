/-
  Resources in another order, ahead of a tail that stays.
  Ranges over functions inside loops: the marks of deferred calls that they leave are a list that grows.
  Ranges over functions inside loops, whose round's assignment lays blocks (a variable of its own in each round). No program stands in this text.
-/
import Derived.Test.YtffbohecdocajaaGreatKRA01

set_option linter.unusedSimpArgs false
namespace Go.SL
set_option linter.unusedVariables false

theorem selKT {β : Bs} {L L1 L2 X : List Res} (is : List Nat) (hn : nodupB is = true) (h : sel L is = L1 ++ L2) (hlt : is.all (fun i => Nat.blt i L.length) = true) : ∀ w, St β (L ++ X) w → St β (L1 ++ (L2 ++ X)) w := fun w hw => by
  rw [← List.append_assoc, ← h]
  have hle : (sel L is).length = is.length := by unfold sel; exact List.length_map _
  have hb : ∀ j (hj : j < is.length), is[j] < L.length := fun j hj => Nat.le_of_ble_eq_true (List.all_eq_true.1 hlt _ (List.getElem_mem hj))
  have hfl : ∀ j (hj : j < is.length), is.getD j 0 = is[j] := fun j hj => by rw [List.getD_eq_getElem?_getD, List.getElem?_eq_getElem hj]; rfl
  refine hw.map (fun j => if j < is.length then is.getD j 0 else L.length + (j - is.length)) ?_ ?_
  · intro j l hjl hj hl
    by_cases h1 : j < is.length
    · by_cases h2 : l < is.length
      · rw [if_pos h1, if_pos h2, hfl j h1, hfl l h2]
        exact nodupB_spec hn j l h1 h2 hjl
      · rw [if_pos h1, if_neg h2, hfl j h1]
        have := hb j h1; omega
    · by_cases h2 : l < is.length
      · rw [if_neg h1, if_pos h2, hfl l h2]
        have := hb l h2; omega
      · rw [if_neg h1, if_neg h2]; omega
  · intro j r hr
    by_cases h1 : j < is.length
    · refine .inr ?_
      rw [if_pos h1, hfl j h1, List.getElem?_append_left (hb j h1)]
      rw [List.getElem?_append_left (by rw [hle]; exact h1)] at hr
      unfold sel at hr
      rw [List.getElem?_map, List.getElem?_eq_getElem h1] at hr
      simp only [Option.map_some, Option.some.injEq] at hr
      rw [List.getD_eq_getElem?_getD, List.getElem?_eq_getElem (hb j h1)] at hr
      rw [List.getElem?_eq_getElem (hb j h1), ← hr]; rfl
    · refine .inr ?_
      rw [if_neg h1, List.getElem?_append_right (by omega), show L.length + (j - is.length) - L.length = j - is.length by omega]
      rw [List.getElem?_append_right (by rw [hle]; omega), hle] at hr
      exact hr
end Go.SL

namespace Go.SL
set_option linter.unusedVariables false
open Go.RowKit
section
variable {P : Program} {ro : Option Nat} {β : Bs} {N : Nat} {ds : List Deferred} {env : Env} {L : List Res} {Q : Exit → Act → World → Prop}

/-- The marks of some ranges, and what they hold. -/
def Dm (Ds : List Nat) : List Deferred := Ds.map mark
def Db (Ds : List Nat) : Res := bagD (Ds.map dR)
theorem St.db0 {w : World} (h : St β L w) : St β (Db [] :: L) w := St.bagD (Rs := []) h
/-- The new mark stands behind all others. -/
theorem St.dbAdd {w : World} {A : List Res} {D : Nat} {Ds : List Nat} (h : St β (A ++ [Db Ds] ++ [dR D]) w) : St β (A ++ [Db (D :: Ds)]) w := by
  have h1 : St β (dR D :: Db Ds :: A) w := h.perm (by
    rw [List.append_assoc]
    refine (List.perm_append_comm).trans ?_
    exact List.Perm.swap _ _ _)
  have h2 : St β (Db (D :: Ds) :: A) w := by
    have h3 := St.unfocus (A := []) (B := Ds.map dR) (r := dR D) (L := A) h1
    exact h3
  exact h2.perm (List.perm_append_comm (l₁ := [Db (D :: Ds)]) (l₂ := A))

/-- A loop in which the marks grow. -/
theorem VC.loopD {α : Type} (n : Nat) (E : α → Env) (Ek : Env) (F : α → List Res) (Df : α → List Nat) (I : α → Prop) (μ : α → Nat) (x0 : α) {Ds : List Nat} {c : Code} (hd : Df x0 = Ds) (h0 : I x0) (hE : Sub (E x0 ++ Ek) env)
    (hF : ∀ w, St β L w → St β (F x0 ++ L.drop n) w)
    (hr : ∀ x, I x → VC P ro β N (Dm (Df x)) (E x ++ Ek) (F x ++ L.drop n) c (Exit.then (fun a w => ∃ y, I y ∧ μ y < μ x ∧ Ag N (Dm (Df y)) (E y ++ Ek) a ∧ St β (F y ++ L.drop n) w) Q)) : VC P ro β N (Dm Ds) env L (.loop c) Q := by
  intro a w ha hw
  refine wp_loop_n (fun n' a w => ∃ x, I x ∧ μ x = n' ∧ Ag N (Dm (Df x)) (E x ++ Ek) a ∧ St β (F x ++ L.drop n) w) (μ x0) ⟨x0, h0, rfl, by rw [hd]; exact ha.sub hE, hF w hw⟩ ?_
  rintro n' a w ⟨x, hI, rfl, hA, hS⟩
  refine Code.wpIn_mono ?_ (hr x hI a w hA hS)
  intro e a w q
  cases e with
  | normal => obtain ⟨y, h1, h2, h3, h4⟩ := q; exact ⟨μ y, h2, y, h1, rfl, h3, h4⟩
  | _ => exact q

theorem run_marks {fn : Func} {R : Ending → World → Prop} {tmps : Array Value} : ∀ {Ds : List Nat} {A : List Res} {w : World}, St β (Db Ds :: A) w → (∀ w', St β A w' → LeavesInM (Wf none) 0 P fn tmps R [] .returning w') → LeavesInM (Wf none) 0 P fn tmps R (Dm Ds) .returning w
  | [], A, w, h, k => k w (h.perm (List.Perm.refl _) |> fun h => h.unbagD)
  | D :: Ds, A, w, h, k => by
    have h1 : St β (dR D :: Db Ds :: A) w := St.focus (A := []) (B := Ds.map dR) (r := dR D) (L := A) h
    have hd : w.heap[D]? = some (.deferred (some [])) := h1.inv 0 _ rfl
    have hs := h1.obj (o' := .deferred none) 0 rfl
    refine ⟨by simp, .inl ⟨D,_, rfl, run_takeDeferred hd, ?_⟩⟩
    have h2 : St β (Db Ds :: A) (w.putObj D (.deferred none)) := by
      have : ([dR D] ++ (Db Ds :: A)).set 0 (blk D (.deferred none)) = blk D (.deferred none) :: Db Ds :: A := rfl
      exact (hs.map (fun j => j + 1) (fun a b hab _ _ => by omega) (fun j r hr => .inr (by simpa using hr)) : St β (Db Ds :: A) _)
    exact run_marks h2 k

/-- The end of a function that has ranged over functions. -/
theorem VE.resDm {fn : Func} {R : Ending → World → Prop} {xs : List ResultVar} {vs : List Value} {Ds : List Nat} {A : List Res} (hr : fn.results = xs.toArray) (hL : ∀ w, St β L w → St β (Db Ds :: A) w) (h : RVs P β A env xs vs)
    (k : ∀ w, St β A w → R (.returned (resV vs)) w) : VE β N (Dm Ds) env L .ret (FP P fn R) := by
  intro a w ha hw
  show LeavesInM (Wf none) 0 P fn a.tmps R a.defers .returning w
  rw [ha.dfr]
  refine run_marks (hL w hw) fun w' hw' => ?_
  exact ⟨_, run_results (ds := []) (a := { tmps := a.tmps, defers := [] }) hr ⟨ha.size, rfl, ha.get⟩ hw' h, k _ hw'⟩
theorem VC.dm0 {c : Code} (h : VC P ro β N (Dm []) env (Db [] :: L) c Q) : VC P ro β N [] env L c Q := fun a w ha hw => h a w ha hw.db0
end
end Go.SL

namespace Go.SL
set_option linter.unusedVariables false
open Go.RowKit
/-- What a round's assignment comes to, where it may lay blocks. -/
def APy {γ : Type} (β : Bs) (N : Nat) (env : γ → Env) (L : γ → List Res) : Exit → Act → World → Prop := fun e a w => e = .normal ∧ ∃ y, Ag N [] (env y) a ∧ St β (L y) w
section
variable {P : Program} {ro : Option Nat} {β : Bs} {N : Nat} {ds : List Deferred} {env : Env} {L : List Res} {Q : Exit → Act → World → Prop}
/-- A range over a function, inside whatever. 'I n': behind n rounds. -/
theorem VC.rangeFuncL {α γ : Type} {gop : Operand} {ps : Array Tmp} {asg body : Code} {gf : FuncId} {lb : List Value} {Cap : World → Prop} {xs : List (List Value)} (F : α → List Res) (I : Nat → α → Prop) (Ix : Code → Nat → α → Prop) (x0 : α) (A : List Value → γ → List Res) (envb : List Value → γ → Env)
    (hg : ev env gop = some (.func (.func gf) #[] lb.toArray)) (hf : IsFn P gf) (hseq : SeqC P gf lb Cap xs) (hF0 : ∀ w, St β L w → St β (F x0) w) (h0 : I 0 x0)
    (hps : ∀ vs, vs ∈ xs → vs.length = ps.size) (hpN : ps.toList.all (fun t => Nat.blt t N) = true)
    (hCap : ∀ n x w, I n x → (∀ (i : Nat) (r : Res), (F x)[i]? = some r → r.inv w) → (∀ k, k < β.w.heap.size → ¬ β.O k → w.heap[k]? = β.w.heap[k]?) → Cap w)
    (hasg : ∀ (n : Nat) (x : α) (vs : List Value) l T w1, I n x → xs[n]? = some vs → St β (F x ++ T) w1 → VC P (some l) ⟨w1, fpL (F x ++ T)⟩ N [] (penv ps vs ++ env) (F x ++ T) asg (APy ⟨w1, fpL (F x ++ T)⟩ N (envb vs) (fun y => A vs y ++ (F x ++ T))))
    (hbody : ∀ (n : Nat) (x : α) (vs : List Value) (y : γ) l T w1, I n x → xs[n]? = some vs → St β (A vs y ++ (F x ++ T)) w1 → VC P (some l) ⟨w1, fpL (A vs y ++ (F x ++ T))⟩ N [] (envb vs y) (A vs y ++ (F x ++ T)) body (RB ⟨w1, fpL (A vs y ++ (F x ++ T))⟩ F T (I (n + 1)) (fun c => Ix c (n + 1))))
    (hdone : ∀ D x, I xs.length x → VE β N (mark D :: ds) env (F x ++ [dR D]) .normal Q)
    (hstop : ∀ D c n x, n ≤ xs.length → Ix c n x → VC P none β N (mark D :: ds) env (F x ++ [dR D]) c Q) :
    VC P none β N ds env L (.rangeFunc gop ps asg body) Q := by
  intro a w ha hw
  have hw0 := hF0 w hw
  refine wpIn_rangeFunc fun fn _ => ?_
  obtain ⟨rec, hrec⟩ : ∃ rec : LoopState → Option Code → Loop, rec = fun st pe => { state := st, pending := pe, fn, tmps := a.tmps, params := ps, assign := asg, body, defers := w.heap.size } := ⟨_, rfl⟩
  obtain ⟨D, hD⟩ : ∃ D, D = w.heap.size := ⟨_, rfl⟩
  obtain ⟨l, hl⟩ : ∃ l, l = w.heap.size + 1 := ⟨_, rfl⟩
  obtain ⟨W1, hW1⟩ : ∃ W1, (w.alloc (.deferred (some []))).alloc (.loop (rec .ready none)) = W1 := ⟨_, rfl⟩
  obtain ⟨T, hT⟩ : ∃ T : LoopState → Option Code → List Res, T = fun st pe => [blk l (.loop (rec st pe)), dR D] := ⟨_, rfl⟩
  have hTget : ∀ x st pe, (F x ++ T st pe)[(F x).length]? = some (blk l (.loop (rec st pe))) := by intro x st pe; simp [hT]
  have hTset : ∀ x st pe st' pe', (F x ++ T st pe).set (F x).length (blk l (.loop (rec st' pe'))) = F x ++ T st' pe' := by intro x st pe st' pe'; simp [hT]
  have hst1 : St β (F x0 ++ T .ready none) W1 := by
    have h1 := (hw0.alloc (.deferred (some []))).alloc (.loop (rec .ready none))
    rw [hW1, World.size_alloc] at h1
    refine h1.map (fun j => if j < (F x0).length then j + 2 else if j = (F x0).length then 0 else 1) ?_ ?_
    · intro a b hab ha hb
      simp [hT] at ha hb
      split <;> split <;> (try split) <;> (try split) <;> omega
    · intro j r hr
      right
      rw [List.getElem?_append] at hr
      by_cases q : j < (F x0).length
      · simp only [q, if_true] at hr ⊢
        simpa using hr
      · simp only [q, if_false] at hr ⊢
        by_cases e : j = (F x0).length
        · subst e; simp [hT] at hr; subst hr; simp [hl]
        · have : j = (F x0).length + 1 := by
            rcases Nat.lt_or_ge (j - (F x0).length) 2 with s | s
            · omega
            · simp only [hT] at hr; rw [List.getElem?_eq_none (by simpa using s)] at hr; cases hr
          subst this
          simp [hT] at hr; subst hr; simp [dR, hD]
  -- from the record's states to the world
  have endx : ∀ x st pe w', St β (F x ++ T st pe) w' → st ≠ .busy → ∃ w4, (Instr.endLoop l).run P w' = .ok pe w4 ∧ St β (F x ++ [dR D]) w4 := by
    intro x st pe w' hs hne
    have hrl : w'.heap[l]? = some (.loop (rec st pe)) := hs.inv _ _ (hTget x st pe)
    refine ⟨w'.putObj l (.loop { rec st pe with state := .exhausted }), ?_, ?_⟩
    · have := run_endLoop (P := P) hrl (by rw [hrec]; exact hne)
      rw [this]; congr 1; rw [hrec]
    · have h2 := hs.obj (o' := .loop { rec st pe with state := .exhausted }) _ (hTget x st pe)
      refine h2.map (fun j => if j < (F x).length then j else j + 1) ?_ ?_
      · intro a b hab ha hb
        split <;> split <;> omega
      · intro j r hr
        right
        rw [List.getElem?_append] at hr
        by_cases q : j < (F x).length
        · simp only [q, if_true] at hr ⊢
          rw [List.getElem?_set_ne (by omega), List.getElem?_append_left q]; exact hr
        · simp only [q, if_false] at hr ⊢
          have : j = (F x).length := by
            rcases Nat.lt_or_ge (j - (F x).length) 1 with s | s
            · omega
            · rw [List.getElem?_eq_none (by simpa using s)] at hr; cases hr
          subst this
          simp at hr; subst hr
          rw [List.getElem?_set_ne (by omega), List.getElem?_append_right (by omega)]
          simp [hT]
  refine ⟨l, [mark D], W1, { target := .fn (.func gf) lb.toArray, args := #[yv l] }, W1, gf, (yv l :: lb).toArray, W1, ?_, ?_, ?_, ?_, fun h => by simp [Wf, Fence.wide] at h, ?_⟩
  · rw [← hW1, hrec, hl, hD]; exact run_enterLoop_outer _ _ _ _ _
  · have e : a.eval gop = .func (.func gf) #[] lb.toArray := ha.eval hg
    simp only [resolve, e]
    simp [Deferred.ofValue, yv, Act.eval]
  · intro f' _; exact True.intro
  · simp [invoke, run_call hf]
  · refine callsIn_wf.2 ((hseq l (fun n r => ∃ x, I n x ∧ r = big β (F x ++ T .ready none) ∧ Fits β (F x ++ T .ready none)) (fun n r => ∃ c x, Ix c n x ∧ r = big β (F x ++ T .done (some c)) ∧ Fits β (F x ++ T .done (some c)))
      W1 (big β (F x0 ++ T .ready none)) ?_ ?_ ⟨x0, h0, rfl, hst1.fits⟩ ⟨hst1.inv, hst1.fr⟩ ?_).mono ?_)
    · rintro n r w' ⟨x, hI, rfl,_⟩ hinv
      exact hCap n x w' hI (fun i r hr => hinv.1 i r (by
        rw [List.getElem?_append_left]
        · exact hr
        · rcases Nat.lt_or_ge i (F x).length with q | q
          · exact q
          · simp [List.getElem?_eq_none q] at hr)) hinv.2
    · -- one round
      rintro n vs hvs r w1 ⟨x, hI, rfl, hfit⟩ hinv hb hos
      have hs1 : St β (F x ++ T .ready none) w1 := St.of_big (w1 := w1) (O := β.O) hfit ⟨hos.1.trans hst1.os, hos.2.1.trans hst1.tape, hos.2.2.1.trans hst1.output, Nat.le_trans hst1.size hos.2.2.2⟩ hinv hb
      have hrl : w1.heap[l]? = some (.loop (rec .ready none)) := hs1.inv _ _ (hTget x .ready none)
      have hlen : vs.toArray.size = ps.size := by simpa using hps vs (List.mem_of_getElem? hvs)
      have hy := run_yield (P := P) (args := vs.toArray) hrl (by rw [hrec]; exact hlen)
      refine ⟨_,_,_,_, hy, ?_⟩
      refine roundIn_of_wpIn (F := Fence.wide) (n := 0) True.intro ?_
      have hA : Ag N [] (penv ps vs ++ env) { tmps := (ps.zip vs.toArray).foldl (fun t (p, v) => t.setIfInBounds p v) a.tmps, defers := [] } := by
        have h1 := ag_zip (N := N) (ds := []) (ps.toList.zip vs) env { tmps := a.tmps, defers := [] } (fun z hz => by
          have hm : z.1 ∈ ps.toList := (List.of_mem_zip (a := z.1) (b := z.2) hz).1
          exact Nat.le_of_ble_eq_true (List.all_eq_true.1 hpN z.1 hm)) ⟨ha.size, rfl, ha.get⟩
        have e : (ps.zip vs.toArray).foldl (fun t (p, v) => t.setIfInBounds p v) a.tmps = (ps.toList.zip vs).foldl (fun t (p, v) => t.setIfInBounds p v) a.tmps := by
          rw [← Array.foldl_toList, Array.toList_zip]
        rw [e]; exact h1
      have ha1 := hasg n x vs l (T .ready none) w1 hI hvs hs1 _ w1 hA hs1.rebase
      rw [hrec]
      refine Code.wpIn_mono ?_ ha1
      rintro e a2 w2 ⟨rfl, y, hag, hs2⟩
      have hs2' := hs1.back hs2
      have hAget : ∀ st pe, (A vs y ++ (F x ++ T st pe))[(A vs y).length + (F x).length]? = some (blk l (.loop (rec st pe))) := by intro st pe; simp [hT]
      have hAset : ∀ st pe st' pe', (A vs y ++ (F x ++ T st pe)).set ((A vs y).length + (F x).length) (blk l (.loop (rec st' pe'))) = A vs y ++ (F x ++ T st' pe') := by intro st pe st' pe'; simp [hT]
      have hrl2 : w2.heap[l]? = some (.loop (rec .ready none)) := hs2.inv _ _ (hAget .ready none)
      refine ⟨w2.putObj l (.loop { rec .ready none with state := .busy }), run_beginRound hrl2 (by rw [hrec]), ?_⟩
      have eb : ({ rec .ready none with state := .busy } : Loop) = rec .busy none := by rw [hrec]
      rw [eb]
      have hs3 := hs2'.obj (o' := .loop (rec .busy none)) _ (hAget .ready none)
      rw [hAset] at hs3
      have hs3' := hs2.obj (o' := .loop (rec .busy none)) _ (hAget .ready none)
      rw [hAset] at hs3'
      have hb1 := hbody n x vs y l (T .busy none) _ hI hvs hs3 _ _ hag hs3.rebase
      refine Code.wpIn_mono ?_ hb1
      intro e a3 w3 hq
      have fin : ∀ y0 (jump : Option Code), St ⟨w2.putObj l (.loop (rec .busy none)), fpL (A vs y ++ (F x ++ T .busy none))⟩ (F y0 ++ T .busy none) w3 →
          ∃ w4, (Instr.endRound l jump).run P w3 = .ok (.bool jump.isNone) w4 ∧ St ⟨w1, (big β (F x ++ T .ready none)).fp⟩ [big β (F y0 ++ T (if jump.isNone then .ready else .done) jump)] w4 ∧ Fits β (F y0 ++ T (if jump.isNone then .ready else .done) jump) := by
        intro y0 jump hsy
        have h4 := hs3'.back hsy
        have hrl3 : w3.heap[l]? = some (.loop (rec .busy none)) := h4.inv _ _ (hTget y0 .busy none)
        refine ⟨_, run_endRound jump hrl3, ?_⟩
        have er : ({ rec .busy none with state := if jump.isNone then .ready else .done, pending := jump } : Loop) = rec (if jump.isNone then .ready else .done) jump := by rw [hrec]
        rw [er]
        have h5 := h4.obj (o' := .loop (rec (if jump.isNone then .ready else .done) jump)) _ (hTget y0 .busy none)
        rw [hTset] at h5
        exact ⟨St.to_big hs1 h5, (hs1.back h5).fits⟩
      cases e with
      | normal =>
        obtain ⟨z, hy1, hy2⟩ := hq
        obtain ⟨w4, h1, h2, h3⟩ := fin z none hy2
        exact ⟨_, w4, h1, true,_, rfl, ⟨z, hy1, rfl, h3⟩, h2⟩
      | ret =>
        obtain ⟨z, hy1, hy2⟩ := hq
        obtain ⟨w4, h1, h2, h3⟩ := fin z (some .ret) hy2
        exact ⟨_, w4, h1, false,_, rfl, ⟨_, z, hy1, rfl, h3⟩, h2⟩
      | exit id =>
        obtain ⟨z, hy1, hy2⟩ := hq
        obtain ⟨w4, h1, h2, h3⟩ := fin z (some (.exit id)) hy2
        exact ⟨_, w4, h1, false,_, rfl, ⟨_, z, hy1, rfl, h3⟩, h2⟩
      | goto t => exact hq.elim
      | panic ch => exact hq.elim
      | outgrown => exact hq.elim
    · intro k hk
      rcases hk with ⟨i, r, hr, hk⟩ | ⟨hk,_⟩
      · exact (hst1.rng i r hr k hk).2
      · exact Nat.lt_of_lt_of_le hk hst1.size
    · rintro e w' ⟨rfl, n, r', hJ, hs⟩
      have toSt : ∀ L2, r' = big β L2 → Fits β L2 → St β L2 w' := by
        rintro L2 rfl hfit
        have hb := hs.rng 0 _ rfl
        exact St.of_big (w1 := w') (O := β.O) hfit ⟨hs.os.trans hst1.os, hs.tape.trans hst1.tape, hs.output.trans hst1.output, Nat.le_trans hst1.size hs.size⟩ (hs.inv 0 _ rfl) (fun k hk => (hb k hk).2)
      have hag : Ag N (mark D :: ds) env { a with defers := [mark D] ++ a.defers } := ⟨ha.size, by simp [ha.dfr], ha.get⟩
      rcases hJ with ⟨x, hI, hr, hfit⟩ | ⟨hle, c, x, hI, hr, hfit⟩
      · obtain ⟨w4, h1, h2⟩ := endx x .ready none w' (toSt _ hr hfit) (by simp)
        exact ⟨none, w4, h1, hdone D x hI _ _ hag h2⟩
      · obtain ⟨w4, h1, h2⟩ := endx x .done (some c) w' (toSt _ hr hfit) (by simp)
        exact ⟨some c, w4, h1, hstop D c n x hle hI _ _ hag h2⟩


/-- The marks of some ranges, and what they hold. -/

theorem VC.rangeFuncM {α γ : Type} {gop : Operand} {ps : Array Tmp} {asg body : Code} {gf : FuncId} {lb : List Value} {Cap : World → Prop} {xs : List (List Value)} {Ds : List Nat} (F : α → List Res) (I : Nat → α → Prop) (Ix : Code → Nat → α → Prop) (x0 : α) (A : List Value → γ → List Res) (envb : List Value → γ → Env)
    (hg : ev env gop = some (.func (.func gf) #[] lb.toArray)) (hf : IsFn P gf) (hseq : SeqC P gf lb Cap xs) (hF0 : ∀ w, St β L w → St β (F x0 ++ [Db Ds]) w) (h0 : I 0 x0)
    (hps : ∀ vs, vs ∈ xs → vs.length = ps.size) (hpN : ps.toList.all (fun t => Nat.blt t N) = true)
    (hCap : ∀ n x w, I n x → (∀ (i : Nat) (r : Res), (F x)[i]? = some r → r.inv w) → (∀ k, k < β.w.heap.size → ¬ β.O k → w.heap[k]? = β.w.heap[k]?) → Cap w)
    (hasg : ∀ (n : Nat) (x : α) (vs : List Value) l T w1, I n x → xs[n]? = some vs → St β (F x ++ T) w1 → VC P (some l) ⟨w1, fpL (F x ++ T)⟩ N [] (penv ps vs ++ env) (F x ++ T) asg (APy ⟨w1, fpL (F x ++ T)⟩ N (envb vs) (fun y => A vs y ++ (F x ++ T))))
    (hbody : ∀ (n : Nat) (x : α) (vs : List Value) (y : γ) l T w1, I n x → xs[n]? = some vs → St β (A vs y ++ (F x ++ T)) w1 → VC P (some l) ⟨w1, fpL (A vs y ++ (F x ++ T))⟩ N [] (envb vs y) (A vs y ++ (F x ++ T)) body (RB ⟨w1, fpL (A vs y ++ (F x ++ T))⟩ F T (I (n + 1)) (fun c => Ix c (n + 1))))
    (hdone : ∀ D x, I xs.length x → VE β N (Dm (D :: Ds)) env (F x ++ [Db (D :: Ds)]) .normal Q)
    (hstop : ∀ D c n x, n ≤ xs.length → Ix c n x → VC P none β N (Dm (D :: Ds)) env (F x ++ [Db (D :: Ds)]) c Q) :
    VC P none β N (Dm Ds) env L (.rangeFunc gop ps asg body) Q := by
  have as1 : ∀ (x : α) (T : List Res), (F x ++ [Db Ds]) ++ T = F x ++ ([Db Ds] ++ T) := fun x T => List.append_assoc _ _ _
  refine VC.rangeFuncL (fun x => F x ++ [Db Ds]) I Ix x0 A envb hg hf hseq hF0 h0 hps hpN (fun n x w h1 h2 h3 => hCap n x w h1 (fun i r hr => h2 i r (by
      rw [List.getElem?_append_left (List.getElem?_eq_some_iff.1 hr).1]; exact hr)) h3) ?_ ?_ (fun D x hI => ?_) (fun D c n x hn hI => ?_)
  · intro n x vs l T w1 h1 h2 h3
    rw [as1] at h3 ⊢
    exact hasg n x vs l _ w1 h1 h2 h3
  · intro n x vs y l T w1 h1 h2 h3
    rw [as1] at h3 ⊢
    refine fun a w ha hw => Code.wpIn_mono ?_ (hbody n x vs y l _ w1 h1 h2 h3 a w ha hw)
    intro e a w q
    cases e with
    | normal => obtain ⟨y, q1, q2⟩ := q; exact ⟨y, q1, by rw [as1]; exact q2⟩
    | ret => obtain ⟨y, q1, q2⟩ := q; exact ⟨y, q1, by rw [as1]; exact q2⟩
    | exit id => obtain ⟨y, q1, q2⟩ := q; exact ⟨y, q1, by rw [as1]; exact q2⟩
    | _ => exact q
  · intro a w ha hw
    exact hdone D x hI a w ha (St.dbAdd hw)
  · intro a w ha hw
    exact hstop D c n x hn hI a w ha (St.dbAdd hw)


/-- A range over a function inside a loop, whose round's assignment may lay blocks. -/
theorem VC.rangeFuncN {α γ : Type} {gop : Operand} {ps : Array Tmp} {asg body : Code} {gf : FuncId} {lb : List Value} {Cap : World → Prop} {xs : List (List Value)} {Ds : List Nat} (R : List Res) (F : α → List Res) (I : Nat → α → Prop) (Ix : Code → Nat → α → Prop) (x0 : α) (A : List Value → γ → List Res) (envb : List Value → γ → Env)
    (hg : ev env gop = some (.func (.func gf) #[] lb.toArray)) (hf : IsFn P gf) (hseq : SeqC P gf lb Cap xs) (hF0 : ∀ w, St β L w → St β ((F x0 ++ R) ++ [Db Ds]) w) (h0 : I 0 x0)
    (hps : ∀ vs, vs ∈ xs → vs.length = ps.size) (hpN : ps.toList.all (fun t => Nat.blt t N) = true)
    (hCap : ∀ n x w, I n x → (∀ (i : Nat) (r : Res), (F x ++ R)[i]? = some r → r.inv w) → (∀ k, k < β.w.heap.size → ¬ β.O k → w.heap[k]? = β.w.heap[k]?) → Cap w)
    (hasg : ∀ (n : Nat) (x : α) (vs : List Value) l T w1, I n x → xs[n]? = some vs → St β ((F x ++ R) ++ T) w1 → VC P (some l) ⟨w1, fpL ((F x ++ R) ++ T)⟩ N [] (penv ps vs ++ env) ((F x ++ R) ++ T) asg (APy ⟨w1, fpL ((F x ++ R) ++ T)⟩ N (envb vs) (fun y => A vs y ++ ((F x ++ R) ++ T))))
    (hbody : ∀ (n : Nat) (x : α) (vs : List Value) (y : γ) l T w1, I n x → xs[n]? = some vs → St β (A vs y ++ ((F x ++ R) ++ T)) w1 → VC P (some l) ⟨w1, fpL (A vs y ++ ((F x ++ R) ++ T))⟩ N [] (envb vs y) (A vs y ++ ((F x ++ R) ++ T)) body (RB ⟨w1, fpL (A vs y ++ ((F x ++ R) ++ T))⟩ (fun x => F x ++ R) T (I (n + 1)) (fun c => Ix c (n + 1))))
    (hdone : ∀ D x, I xs.length x → VE β N (Dm (D :: Ds)) env ((F x ++ R) ++ [Db (D :: Ds)]) .normal Q)
    (hstop : ∀ D c n x, n ≤ xs.length → Ix c n x → VC P none β N (Dm (D :: Ds)) env ((F x ++ R) ++ [Db (D :: Ds)]) c Q) :
    VC P none β N (Dm Ds) env L (.rangeFunc gop ps asg body) Q :=
  VC.rangeFuncM (fun x => F x ++ R) I Ix x0 A envb hg hf hseq hF0 h0 hps hpN hCap hasg hbody hdone hstop

theorem VC.label {l : Nat} (h : VE β N ds env L .normal Q) : VC P ro β N ds env L (.label l) Q := fun a w ha hw => wpIn_label (h a w ha hw)
end
end Go.SL
