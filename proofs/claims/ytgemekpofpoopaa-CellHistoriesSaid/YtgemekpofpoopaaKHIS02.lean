/-
  Ranges over functions inside loops: the marks of deferred calls that they leave are a list that grows.
  The entry of a range over a map; empty literals, capacities, slices up to a bound, zeros that are appended.
  A new base in the midst of a walk: all that lies there is old from now on. Whole elements stored into slices. No program stands in this text.
  Maps from int to int, and assertions about the type of what lies in an interface. No program stands in this text.
  Sheets.
  The neighbors of a pixel.
  The neighbors of a pixel, one by one.
  How parts are found pixel by pixel: plain.
  A new base at which some resources stay in hand; one of a bag by its number. No program stands in this text.
  Gaps: plain.
  Maps from keys of any kind, and keys that are structs of two cells. No program stands in this text.
  Groups, and events out of groups, in plain Lean.
  Which areas of two maps are near each other, pair by pair, in plain Lean.
  Comparisons with nil, the length of a map, one cell of a block at a place that is not a number: for a small program logic.
  The parts of a set as the document finds them: plain.
  The histories of areas, map by map, in plain Lean.
  The histories of areas: what a further map makes of them, in plain Lean.
  The histories of areas: those that begin with a map, in plain Lean.
  Events that are found are as histories need them, in plain Lean.
  Empty literals among blocks whose order is open.
-/
import Derived.Test.YtgemekpofpoopaaKHIS01
import Derived.Laws.IdiomRangeMap

set_option linter.unusedSimpArgs false
namespace Go.SL
set_option linter.unusedVariables false
open Go.RowKit
section
variable {P : Program} {ro : Option Nat} {β : Bs} {N : Nat} {ds : List Deferred} {env : Env} {L : List Res} {Q : Exit → Act → World → Prop}

/-- A range over a function, inside whatever. 'I n': behind n rounds. -/
theorem VC.rangeFuncD {α : Type} {gop : Operand} {ps : Array Tmp} {asg body : Code} {gf : FuncId} {lb : List Value} {Cap : World → Prop} {xs : List (List Value)} (F : α → List Res) (I : Nat → α → Prop) (Ix : Code → Nat → α → Prop) (x0 : α) (envb : List Value → Env)
    (hg : ev env gop = some (.func (.func gf) #[] lb.toArray)) (hf : IsFn P gf) (hseq : SeqC P gf lb Cap xs) (hF0 : ∀ w, St β L w → St β (F x0) w) (h0 : I 0 x0)
    (hps : ∀ vs, vs ∈ xs → vs.length = ps.size) (hpN : ps.toList.all (fun t => Nat.blt t N) = true)
    (hCap : ∀ n x w, I n x → (∀ (i : Nat) (r : Res), (F x)[i]? = some r → r.inv w) → (∀ k, k < β.w.heap.size → ¬ β.O k → w.heap[k]? = β.w.heap[k]?) → Cap w)
    (hasg : ∀ (n : Nat) (x : α) (vs : List Value) l T w1, I n x → xs[n]? = some vs → St β (F x ++ T) w1 → VC P (some l) ⟨w1, fpL (F x ++ T)⟩ N [] (penv ps vs ++ env) (F x ++ T) asg (AP ⟨w1, fpL (F x ++ T)⟩ N (envb vs) (F x ++ T)))
    (hbody : ∀ (n : Nat) (x : α) (vs : List Value) l T w1, I n x → xs[n]? = some vs → St β (F x ++ T) w1 → VC P (some l) ⟨w1, fpL (F x ++ T)⟩ N [] (envb vs) (F x ++ T) body (RB ⟨w1, fpL (F x ++ T)⟩ F T (I (n + 1)) (fun c => Ix c (n + 1))))
    (hdone : ∀ D x, I xs.length x → VE β N (mark D :: ds) env (F x ++ [dR D]) .normal Q)
    (hstop : ∀ D c n x, n ≤ xs.length → Ix c n x → VC P none β N (mark D :: ds) env (F x ++ [dR D]) c Q) :
    VC P none β N ds env L (.rangeFunc gop ps asg body) Q := by
  intro a w ha hw
  have hw0 := hF0 w hw
  refine wpIn_rangeFunc fun fn _ => ?_
  obtain ⟨rec, hrec⟩ : ∃ rec : LoopState → Option Code → Loop, rec = fun st pe => { state := st, pending := pe, fn, tmps := a.tmps, params := ps, assign := asg, body, defers := w.heap.size } := ⟨_, rfl⟩
  obtain ⟨D, hD⟩ : ∃ D, D = w.heap.size := ⟨_, rfl⟩
  obtain ⟨l, hl⟩ : ∃ l, l = w.heap.size + 1 := ⟨_, rfl⟩
  obtain ⟨W1, hW1⟩ : ∃ W1, (w.alloc (.deferred (some []))).alloc (.loop (rec .ready none)) = W1 := ⟨_, rfl⟩
  obtain ⟨T, hT⟩ : ∃ T : LoopState → Option Code → List Res, T = fun st pe => [blk l (.loop (rec st pe)), dR D] := ⟨_, rfl⟩
  have hTget : ∀ x st pe, (F x ++ T st pe)[(F x).length]? = some (blk l (.loop (rec st pe))) := by intro x st pe; simp [hT]
  have hTset : ∀ x st pe st' pe', (F x ++ T st pe).set (F x).length (blk l (.loop (rec st' pe'))) = F x ++ T st' pe' := by intro x st pe st' pe'; simp [hT]
  have hst1 : St β (F x0 ++ T .ready none) W1 := by
    have h1 := (hw0.alloc (.deferred (some []))).alloc (.loop (rec .ready none))
    rw [hW1, World.size_alloc] at h1
    refine h1.map (fun j => if j < (F x0).length then j + 2 else if j = (F x0).length then 0 else 1) ?_ ?_
    · intro a b hab ha hb
      simp [hT] at ha hb
      split <;> split <;> (try split) <;> (try split) <;> omega
    · intro j r hr
      right
      rw [List.getElem?_append] at hr
      by_cases q : j < (F x0).length
      · simp only [q, if_true] at hr ⊢
        simpa using hr
      · simp only [q, if_false] at hr ⊢
        by_cases e : j = (F x0).length
        · subst e; simp [hT] at hr; subst hr; simp [hl]
        · have : j = (F x0).length + 1 := by
            rcases Nat.lt_or_ge (j - (F x0).length) 2 with s | s
            · omega
            · simp only [hT] at hr; rw [List.getElem?_eq_none (by simpa using s)] at hr; cases hr
          subst this
          simp [hT] at hr; subst hr; simp [dR, hD]
  -- from the record's states to the world
  have endx : ∀ x st pe w', St β (F x ++ T st pe) w' → st ≠ .busy → ∃ w4, (Instr.endLoop l).run P w' = .ok pe w4 ∧ St β (F x ++ [dR D]) w4 := by
    intro x st pe w' hs hne
    have hrl : w'.heap[l]? = some (.loop (rec st pe)) := hs.inv _ _ (hTget x st pe)
    refine ⟨w'.putObj l (.loop { rec st pe with state := .exhausted }), ?_, ?_⟩
    · have := run_endLoop (P := P) hrl (by rw [hrec]; exact hne)
      rw [this]; congr 1; rw [hrec]
    · have h2 := hs.obj (o' := .loop { rec st pe with state := .exhausted }) _ (hTget x st pe)
      refine h2.map (fun j => if j < (F x).length then j else j + 1) ?_ ?_
      · intro a b hab ha hb
        split <;> split <;> omega
      · intro j r hr
        right
        rw [List.getElem?_append] at hr
        by_cases q : j < (F x).length
        · simp only [q, if_true] at hr ⊢
          rw [List.getElem?_set_ne (by omega), List.getElem?_append_left q]; exact hr
        · simp only [q, if_false] at hr ⊢
          have : j = (F x).length := by
            rcases Nat.lt_or_ge (j - (F x).length) 1 with s | s
            · omega
            · rw [List.getElem?_eq_none (by simpa using s)] at hr; cases hr
          subst this
          simp at hr; subst hr
          rw [List.getElem?_set_ne (by omega), List.getElem?_append_right (by omega)]
          simp [hT]
  refine ⟨l, [mark D], W1, { target := .fn (.func gf) lb.toArray, args := #[yv l] }, W1, gf, (yv l :: lb).toArray, W1, ?_, ?_, ?_, ?_, fun h => by simp [Wf, Fence.wide] at h, ?_⟩
  · rw [← hW1, hrec, hl, hD]; exact run_enterLoop_outer _ _ _ _ _
  · have e : a.eval gop = .func (.func gf) #[] lb.toArray := ha.eval hg
    simp only [resolve, e]
    simp [Deferred.ofValue, yv, Act.eval]
  · intro f' _; exact True.intro
  · simp [invoke, run_call hf]
  · refine callsIn_wf.2 ((hseq l (fun n r => ∃ x, I n x ∧ r = big β (F x ++ T .ready none) ∧ Fits β (F x ++ T .ready none)) (fun n r => ∃ c x, Ix c n x ∧ r = big β (F x ++ T .done (some c)) ∧ Fits β (F x ++ T .done (some c)))
      W1 (big β (F x0 ++ T .ready none)) ?_ ?_ ⟨x0, h0, rfl, hst1.fits⟩ ⟨hst1.inv, hst1.fr⟩ ?_).mono ?_)
    · rintro n r w' ⟨x, hI, rfl,_⟩ hinv
      exact hCap n x w' hI (fun i r hr => hinv.1 i r (by
        rw [List.getElem?_append_left]
        · exact hr
        · rcases Nat.lt_or_ge i (F x).length with q | q
          · exact q
          · simp [List.getElem?_eq_none q] at hr)) hinv.2
    · -- one round
      rintro n vs hvs r w1 ⟨x, hI, rfl, hfit⟩ hinv hb hos
      have hs1 : St β (F x ++ T .ready none) w1 := St.of_big (w1 := w1) (O := β.O) hfit ⟨hos.1.trans hst1.os, hos.2.1.trans hst1.tape, hos.2.2.1.trans hst1.output, Nat.le_trans hst1.size hos.2.2.2⟩ hinv hb
      have hrl : w1.heap[l]? = some (.loop (rec .ready none)) := hs1.inv _ _ (hTget x .ready none)
      have hlen : vs.toArray.size = ps.size := by simpa using hps vs (List.mem_of_getElem? hvs)
      have hy := run_yield (P := P) (args := vs.toArray) hrl (by rw [hrec]; exact hlen)
      refine ⟨_,_,_,_, hy, ?_⟩
      refine roundIn_of_wpIn (F := Fence.wide) (n := 0) True.intro ?_
      have hA : Ag N [] (penv ps vs ++ env) { tmps := (ps.zip vs.toArray).foldl (fun t (p, v) => t.setIfInBounds p v) a.tmps, defers := [] } := by
        have h1 := ag_zip (N := N) (ds := []) (ps.toList.zip vs) env { tmps := a.tmps, defers := [] } (fun z hz => by
          have hm : z.1 ∈ ps.toList := (List.of_mem_zip (a := z.1) (b := z.2) hz).1
          exact Nat.le_of_ble_eq_true (List.all_eq_true.1 hpN z.1 hm)) ⟨ha.size, rfl, ha.get⟩
        have e : (ps.zip vs.toArray).foldl (fun t (p, v) => t.setIfInBounds p v) a.tmps = (ps.toList.zip vs).foldl (fun t (p, v) => t.setIfInBounds p v) a.tmps := by
          rw [← Array.foldl_toList, Array.toList_zip]
        rw [e]; exact h1
      have ha1 := hasg n x vs l (T .ready none) w1 hI hvs hs1 _ w1 hA hs1.rebase
      rw [hrec]
      refine Code.wpIn_mono ?_ ha1
      rintro e a2 w2 ⟨rfl, hag, hs2⟩
      have hs2' := hs1.back hs2
      have hrl2 : w2.heap[l]? = some (.loop (rec .ready none)) := hs2.inv _ _ (hTget x .ready none)
      refine ⟨w2.putObj l (.loop { rec .ready none with state := .busy }), run_beginRound hrl2 (by rw [hrec]), ?_⟩
      have eb : ({ rec .ready none with state := .busy } : Loop) = rec .busy none := by rw [hrec]
      rw [eb]
      have hs3 := hs2'.obj (o' := .loop (rec .busy none)) _ (hTget x .ready none)
      rw [hTset] at hs3
      have hs3' := hs2.obj (o' := .loop (rec .busy none)) _ (hTget x .ready none)
      rw [hTset] at hs3'
      have hb1 := hbody n x vs l (T .busy none) _ hI hvs hs3 _ _ hag hs3.rebase
      refine Code.wpIn_mono ?_ hb1
      intro e a3 w3 hq
      have fin : ∀ y (jump : Option Code), St ⟨w2.putObj l (.loop (rec .busy none)), fpL (F x ++ T .busy none)⟩ (F y ++ T .busy none) w3 →
          ∃ w4, (Instr.endRound l jump).run P w3 = .ok (.bool jump.isNone) w4 ∧ St ⟨w1, (big β (F x ++ T .ready none)).fp⟩ [big β (F y ++ T (if jump.isNone then .ready else .done) jump)] w4 ∧ Fits β (F y ++ T (if jump.isNone then .ready else .done) jump) := by
        intro y jump hsy
        have h4 := hs3'.back hsy
        have hrl3 : w3.heap[l]? = some (.loop (rec .busy none)) := h4.inv _ _ (hTget y .busy none)
        refine ⟨_, run_endRound jump hrl3, ?_⟩
        have er : ({ rec .busy none with state := if jump.isNone then .ready else .done, pending := jump } : Loop) = rec (if jump.isNone then .ready else .done) jump := by rw [hrec]
        rw [er]
        have h5 := h4.obj (o' := .loop (rec (if jump.isNone then .ready else .done) jump)) _ (hTget y .busy none)
        rw [hTset] at h5
        exact ⟨St.to_big hs1 h5, (hs1.back h5).fits⟩
      cases e with
      | normal =>
        obtain ⟨y, hy1, hy2⟩ := hq
        obtain ⟨w4, h1, h2, h3⟩ := fin y none hy2
        exact ⟨_, w4, h1, true,_, rfl, ⟨y, hy1, rfl, h3⟩, h2⟩
      | ret =>
        obtain ⟨y, hy1, hy2⟩ := hq
        obtain ⟨w4, h1, h2, h3⟩ := fin y (some .ret) hy2
        exact ⟨_, w4, h1, false,_, rfl, ⟨_, y, hy1, rfl, h3⟩, h2⟩
      | exit id =>
        obtain ⟨y, hy1, hy2⟩ := hq
        obtain ⟨w4, h1, h2, h3⟩ := fin y (some (.exit id)) hy2
        exact ⟨_, w4, h1, false,_, rfl, ⟨_, y, hy1, rfl, h3⟩, h2⟩
      | goto t => exact hq.elim
      | panic ch => exact hq.elim
      | outgrown => exact hq.elim
    · intro k hk
      rcases hk with ⟨i, r, hr, hk⟩ | ⟨hk,_⟩
      · exact (hst1.rng i r hr k hk).2
      · exact Nat.lt_of_lt_of_le hk hst1.size
    · rintro e w' ⟨rfl, n, r', hJ, hs⟩
      have toSt : ∀ L2, r' = big β L2 → Fits β L2 → St β L2 w' := by
        rintro L2 rfl hfit
        have hb := hs.rng 0 _ rfl
        exact St.of_big (w1 := w') (O := β.O) hfit ⟨hs.os.trans hst1.os, hs.tape.trans hst1.tape, hs.output.trans hst1.output, Nat.le_trans hst1.size hs.size⟩ (hs.inv 0 _ rfl) (fun k hk => (hb k hk).2)
      have hag : Ag N (mark D :: ds) env { a with defers := [mark D] ++ a.defers } := ⟨ha.size, by simp [ha.dfr], ha.get⟩
      rcases hJ with ⟨x, hI, hr, hfit⟩ | ⟨hle, c, x, hI, hr, hfit⟩
      · obtain ⟨w4, h1, h2⟩ := endx x .ready none w' (toSt _ hr hfit) (by simp)
        exact ⟨none, w4, h1, hdone D x hI _ _ hag h2⟩
      · obtain ⟨w4, h1, h2⟩ := endx x .done (some c) w' (toSt _ hr hfit) (by simp)
        exact ⟨some c, w4, h1, hstop D c n x hle hI _ _ hag h2⟩


/-- The marks of some ranges, and what they hold. -/
def Dm (Ds : List Nat) : List Deferred := Ds.map mark
def Db (Ds : List Nat) : Res := bagD (Ds.map dR)
theorem St.db0 {w : World} (h : St β L w) : St β (Db [] :: L) w := St.bagD (Rs := []) h
/-- The new mark stands behind all others. -/
theorem St.dbAdd {w : World} {A : List Res} {D : Nat} {Ds : List Nat} (h : St β (A ++ [Db Ds] ++ [dR D]) w) : St β (A ++ [Db (D :: Ds)]) w := by
  have h1 : St β (dR D :: Db Ds :: A) w := h.perm (by
    rw [List.append_assoc]
    refine (List.perm_append_comm).trans ?_
    exact List.Perm.swap _ _ _)
  have h2 : St β (Db (D :: Ds) :: A) w := by
    have h3 := St.unfocus (A := []) (B := Ds.map dR) (r := dR D) (L := A) h1
    exact h3
  exact h2.perm (List.perm_append_comm (l₁ := [Db (D :: Ds)]) (l₂ := A))

theorem VC.rangeFuncB {α : Type} {gop : Operand} {ps : Array Tmp} {asg body : Code} {gf : FuncId} {lb : List Value} {Cap : World → Prop} {xs : List (List Value)} {Ds : List Nat} (F : α → List Res) (I : Nat → α → Prop) (Ix : Code → Nat → α → Prop) (x0 : α) (envb : List Value → Env)
    (hg : ev env gop = some (.func (.func gf) #[] lb.toArray)) (hf : IsFn P gf) (hseq : SeqC P gf lb Cap xs) (hF0 : ∀ w, St β L w → St β (F x0 ++ [Db Ds]) w) (h0 : I 0 x0)
    (hps : ∀ vs, vs ∈ xs → vs.length = ps.size) (hpN : ps.toList.all (fun t => Nat.blt t N) = true)
    (hCap : ∀ n x w, I n x → (∀ (i : Nat) (r : Res), (F x)[i]? = some r → r.inv w) → Cap w)
    (hasg : ∀ (n : Nat) (x : α) (vs : List Value) l T w1, I n x → xs[n]? = some vs → St β (F x ++ T) w1 → VC P (some l) ⟨w1, fpL (F x ++ T)⟩ N [] (penv ps vs ++ env) (F x ++ T) asg (AP ⟨w1, fpL (F x ++ T)⟩ N (envb vs) (F x ++ T)))
    (hbody : ∀ (n : Nat) (x : α) (vs : List Value) l T w1, I n x → xs[n]? = some vs → St β (F x ++ T) w1 → VC P (some l) ⟨w1, fpL (F x ++ T)⟩ N [] (envb vs) (F x ++ T) body (RB ⟨w1, fpL (F x ++ T)⟩ F T (I (n + 1)) (fun c => Ix c (n + 1))))
    (hdone : ∀ D x, I xs.length x → VE β N (Dm (D :: Ds)) env (F x ++ [Db (D :: Ds)]) .normal Q)
    (hstop : ∀ D c n x, n ≤ xs.length → Ix c n x → VC P none β N (Dm (D :: Ds)) env (F x ++ [Db (D :: Ds)]) c Q) :
    VC P none β N (Dm Ds) env L (.rangeFunc gop ps asg body) Q := by
  have as1 : ∀ (x : α) (T : List Res), (F x ++ [Db Ds]) ++ T = F x ++ ([Db Ds] ++ T) := fun x T => List.append_assoc _ _ _
  refine VC.rangeFuncD (fun x => F x ++ [Db Ds]) I Ix x0 envb hg hf hseq hF0 h0 hps hpN (fun n x w h1 h2 _ => hCap n x w h1 fun i r hr => h2 i r (by
      rw [List.getElem?_append_left (List.getElem?_eq_some_iff.1 hr).1]; exact hr)) ?_ ?_ (fun D x hI => ?_) (fun D c n x hn hI => ?_)
  · intro n x vs l T w1 h1 h2 h3
    rw [as1] at h3 ⊢
    exact hasg n x vs l _ w1 h1 h2 h3
  · intro n x vs l T w1 h1 h2 h3
    rw [as1] at h3 ⊢
    refine fun a w ha hw => Code.wpIn_mono ?_ (hbody n x vs l _ w1 h1 h2 h3 a w ha hw)
    intro e a w q
    cases e with
    | normal => obtain ⟨y, q1, q2⟩ := q; exact ⟨y, q1, by rw [as1]; exact q2⟩
    | ret => obtain ⟨y, q1, q2⟩ := q; exact ⟨y, q1, by rw [as1]; exact q2⟩
    | exit id => obtain ⟨y, q1, q2⟩ := q; exact ⟨y, q1, by rw [as1]; exact q2⟩
    | _ => exact q
  · intro a w ha hw
    exact hdone D x hI a w ha (St.dbAdd hw)
  · intro a w ha hw
    exact hstop D c n x hn hI a w ha (St.dbAdd hw)

theorem VC.rangeFuncC {α : Type} {gop : Operand} {ps : Array Tmp} {asg body : Code} {gf : FuncId} {lb : List Value} {Cap : World → Prop} {xs : List (List Value)} {Ds : List Nat} (R : List Res) (F : α → List Res) (I : Nat → α → Prop) (Ix : Code → Nat → α → Prop) (x0 : α) (envb : List Value → Env)
    (hg : ev env gop = some (.func (.func gf) #[] lb.toArray)) (hf : IsFn P gf) (hseq : SeqC P gf lb Cap xs) (hF0 : ∀ w, St β L w → St β ((F x0 ++ R) ++ [Db Ds]) w) (h0 : I 0 x0)
    (hps : ∀ vs, vs ∈ xs → vs.length = ps.size) (hpN : ps.toList.all (fun t => Nat.blt t N) = true)
    (hCap : ∀ n x w, I n x → (∀ (i : Nat) (r : Res), (F x ++ R)[i]? = some r → r.inv w) → Cap w)
    (hasg : ∀ (n : Nat) (x : α) (vs : List Value) l T w1, I n x → xs[n]? = some vs → St β ((F x ++ R) ++ T) w1 → VC P (some l) ⟨w1, fpL ((F x ++ R) ++ T)⟩ N [] (penv ps vs ++ env) ((F x ++ R) ++ T) asg (AP ⟨w1, fpL ((F x ++ R) ++ T)⟩ N (envb vs) ((F x ++ R) ++ T)))
    (hbody : ∀ (n : Nat) (x : α) (vs : List Value) l T w1, I n x → xs[n]? = some vs → St β ((F x ++ R) ++ T) w1 → VC P (some l) ⟨w1, fpL ((F x ++ R) ++ T)⟩ N [] (envb vs) ((F x ++ R) ++ T) body (RB ⟨w1, fpL ((F x ++ R) ++ T)⟩ (fun x => F x ++ R) T (I (n + 1)) (fun c => Ix c (n + 1))))
    (hdone : ∀ D x, I xs.length x → VE β N (Dm (D :: Ds)) env ((F x ++ R) ++ [Db (D :: Ds)]) .normal Q)
    (hstop : ∀ D c n x, n ≤ xs.length → Ix c n x → VC P none β N (Dm (D :: Ds)) env ((F x ++ R) ++ [Db (D :: Ds)]) c Q) :
    VC P none β N (Dm Ds) env L (.rangeFunc gop ps asg body) Q :=
  VC.rangeFuncB (fun x => F x ++ R) I Ix x0 envb hg hf hseq hF0 h0 hps hpN hCap hasg hbody hdone hstop

/-- A loop in which the marks grow. -/
theorem VC.loopD {α : Type} (n : Nat) (E : α → Env) (Ek : Env) (F : α → List Res) (Df : α → List Nat) (I : α → Prop) (μ : α → Nat) (x0 : α) {Ds : List Nat} {c : Code} (hd : Df x0 = Ds) (h0 : I x0) (hE : Sub (E x0 ++ Ek) env)
    (hF : ∀ w, St β L w → St β (F x0 ++ L.drop n) w)
    (hr : ∀ x, I x → VC P ro β N (Dm (Df x)) (E x ++ Ek) (F x ++ L.drop n) c (Exit.then (fun a w => ∃ y, I y ∧ μ y < μ x ∧ Ag N (Dm (Df y)) (E y ++ Ek) a ∧ St β (F y ++ L.drop n) w) Q)) : VC P ro β N (Dm Ds) env L (.loop c) Q := by
  intro a w ha hw
  refine wp_loop_n (fun n' a w => ∃ x, I x ∧ μ x = n' ∧ Ag N (Dm (Df x)) (E x ++ Ek) a ∧ St β (F x ++ L.drop n) w) (μ x0) ⟨x0, h0, rfl, by rw [hd]; exact ha.sub hE, hF w hw⟩ ?_
  rintro n' a w ⟨x, hI, rfl, hA, hS⟩
  refine Code.wpIn_mono ?_ (hr x hI a w hA hS)
  intro e a w q
  cases e with
  | normal => obtain ⟨y, h1, h2, h3, h4⟩ := q; exact ⟨μ y, h2, y, h1, rfl, h3, h4⟩
  | _ => exact q

theorem run_marks {fn : Func} {R : Ending → World → Prop} {tmps : Array Value} : ∀ {Ds : List Nat} {A : List Res} {w : World}, St β (Db Ds :: A) w → (∀ w', St β A w' → LeavesInM (Wf none) 0 P fn tmps R [] .returning w') → LeavesInM (Wf none) 0 P fn tmps R (Dm Ds) .returning w
  | [], A, w, h, k => k w (h.perm (List.Perm.refl _) |> fun h => h.unbagD)
  | D :: Ds, A, w, h, k => by
    have h1 : St β (dR D :: Db Ds :: A) w := St.focus (A := []) (B := Ds.map dR) (r := dR D) (L := A) h
    have hd : w.heap[D]? = some (.deferred (some [])) := h1.inv 0 _ rfl
    have hs := h1.obj (o' := .deferred none) 0 rfl
    refine ⟨by simp, .inl ⟨D,_, rfl, run_takeDeferred hd, ?_⟩⟩
    have h2 : St β (Db Ds :: A) (w.putObj D (.deferred none)) := by
      have : ([dR D] ++ (Db Ds :: A)).set 0 (blk D (.deferred none)) = blk D (.deferred none) :: Db Ds :: A := rfl
      exact (hs.map (fun j => j + 1) (fun a b hab _ _ => by omega) (fun j r hr => .inr (by simpa using hr)) : St β (Db Ds :: A) _)
    exact run_marks h2 k

/-- The end of a function that has ranged over functions. -/
theorem VE.resDm {fn : Func} {R : Ending → World → Prop} {xs : List ResultVar} {vs : List Value} {Ds : List Nat} {A : List Res} (hr : fn.results = xs.toArray) (hL : ∀ w, St β L w → St β (Db Ds :: A) w) (h : RVs P β A env xs vs)
    (k : ∀ w, St β A w → R (.returned (resV vs)) w) : VE β N (Dm Ds) env L .ret (FP P fn R) := by
  intro a w ha hw
  show LeavesInM (Wf none) 0 P fn a.tmps R a.defers .returning w
  rw [ha.dfr]
  refine run_marks (hL w hw) fun w' hw' => ?_
  exact ⟨_, run_results (ds := []) (a := { tmps := a.tmps, defers := [] }) hr ⟨ha.size, rfl, ha.get⟩ hw' h, k _ hw'⟩
theorem VC.dm0 {c : Code} (h : VC P ro β N (Dm []) env (Db [] :: L) c Q) : VC P ro β N [] env L c Q := fun a w ha hw => h a w ha hw.db0
end
end Go.SL

namespace Go.SL
set_option linter.unusedVariables false
open Go.RowKit
section
variable {P : Program} {ro : Option Nat} {β : Bs} {ds : List Deferred} {N : Nat} {env : Env} {L : List Res} {Q : Exit → Act → World → Prop}
variable {d : Option Nat} {ty : TypeId} {pos : String} {aft : Array Edge} {g : Option (Nat × Bool)}
variable {K : Value → List Res → Prop} {dd : Option Nat}

theorem HO.bs0 {T E z : Nat} (hT : IsSlice P T E) (hs : (P.info? E).map (·.size) = some z) (k : ∀ b, K (.slice (some ⟨b, 0, none⟩) 0 0) (own E z (some ⟨b, 0, none⟩) 0 [] :: L)) : HO P β env L ⟨dd, .buildSlice T 0 #[], ty, pos, aft, none⟩ K := by
  intro a w h hw
  refine .inl ⟨_, w.alloc (.cells #[] E),_,_, ?_, .inl rfl, k w.heap.size, ?_⟩
  · simp [execOp, Instr.buildSlice, run_underlying hT, run_size hs, Instr.fill, newRow]
    rw [Array.eq_empty_of_size_eq_zero (xs := Array.map (fun x => default) (Array.range 0)) (by simp)]
  · have h1 := hw.alloc (.cells #[] E)
    have := h1.conv 0 (r' := own E z (some ⟨w.heap.size, 0, none⟩) 0 []) rfl (fun k hk => hk.2) ⟨by simp, by simp, fun q => (by cases q), fun a ha => by cases ha; exact ⟨rfl, rfl, #[], [], h1.inv 0 _ rfl, rfl, by simp⟩⟩
    simpa using this
theorem LO.slH {T E z : Nat} {x j : Operand} {p : Option Addr} {n c k : Nat} {e : Int} (hT : IsSlice P T E) (hz : (P.info? E).map (·.size) = some z) (hx : OV env x (.slice p n c)) (hj : OV env j (.int .i64 e)) (he : e = (k : Int)) (hk : k ≤ c) : LO P β env L ⟨d, .slice T x none (some j) none, ty, pos, aft, g⟩ (.slice p k c) :=
  .of_run fun a w h hw => ⟨w, by
    subst he
    have h0 : ∀ q : Addr, q.add 0 = q := fun q => by simp [Addr.add]
    have h2 : p.map (fun x => x.add 0) = p := by cases p <;> simp [h0]
    simp [execOp, h x (by simp [Op.operands]) _ hx, h j (by simp [Op.operands]) _ hj, Instr.sliceAt, run_underlying hT, Instr.slice, Instr.sliceBounds, Instr.sliceBound, asIntOf, hk, run_size hz, h2], hw⟩
end
end Go.SL

namespace Go.SL
set_option linter.unusedVariables false
open Go.RowKit

section
variable {P : Program} {ro : Option Nat} {β : Bs} {N : Nat} {ds : List Deferred} {env : Env} {L : List Res} {Q : Exit → Act → World → Prop}
  {ty : TypeId} {pos : String} {aft : Array Edge} {g : Option (Nat × Bool)}

theorem VC.rebase {c : Code} (h : ∀ w1, St β L w1 → VC P ro (bs w1) N ds env [] c Q) : VC P ro β N ds env L c Q := fun a w ha hw => h w hw a w ha (St.refl w)
theorem St.based {w0 w1 w2 : World} {L L' : List Res} (h : St (bs w0) L w1) (k : St (bs w1) L' w2) : St (bs w0) [] w2 := (h.call k).nil

/-- A slice that is made, as rows of what a function encodes. -/
theorem HO.mksM {α : Type} {f : α → List Value} {z0 : α} {K : Value → List Res → Prop} {dd : Option Nat} {x y : Operand} {T E z by_ n : Nat} {zero : Value} {e : Int} (hf : zero.cells.toList = f z0) (hT : IsSlice P T E) (hE : EInfo P E z by_ zero) (hx : OV env x (.int .i64 e)) (hy : OV env y (.int .i64 e)) (he : e = (n : Int)) (hz1 : 0 < z) (hn : by_ * n ≤ 281474976710656) (hn2 : n ≤ 281474976710656)
    (k : ∀ b, K (.slice (some ⟨b, 0, none⟩) n n) (own E z (some ⟨b, 0, none⟩) n ((List.replicate n z0).map f) :: L)) : HO P β env L ⟨dd, .makeSlice T x y, ty, pos, aft, none⟩ K :=
  HO.mks hT hE hx hy he hz1 hn hn2 fun b => by
    have := k b
    rw [List.map_replicate, ← hf] at this
    exact this

/-- A whole element is stored. -/
theorem HO.stm {α : Type} {f : α → List Value} {l : List α} (i : Nat) (LF : Res → List Res) (v0 : α) {K : Value → List Res → Prop} {dd : Option Nat} {x y : Operand} {T E z cap j q : Nat} {p : Option Addr} {v : Value} {vs : List Value} (hT : (P.info? T).map (·.size) = some vs.length) (hx : OV env x (.pointer (some ⟨pb p, q, none⟩))) (hy : OV env y v)
    (hi : L[i]? = some (own E z p cap (l.map f))) (hj : j < l.length) (hq : q = po p + j * z) (hv : v.cells = vs.toArray) (hfv : f v0 = vs) (hz : vs.length = z) (h1 : allOne vs = true) (hL : ∀ R : Res, L.set i R = LF R)
    (k : K undef (LF (own E z p cap ((l.set j v0).map f)))) : HO P β env L ⟨dd, .store T x y, ty, pos, aft, none⟩ K := by
  obtain ⟨r, hr⟩ : ∃ r, (l.map f)[j]? = some r := ⟨_, List.getElem?_eq_getElem (by simpa using hj)⟩
  intro a w h hw
  have hrz : r.length = z := (hw.inv i _ hi).2.1 r (List.mem_of_getElem? hr)
  refine HO.sto i LF (o := 0) (vs := vs) (rows := l.map f) (r := r) (j := j) hT hx hy hi hr (by rw [hq]; rfl) hv (by omega) h1 hL ?_ a w h hw
  have e : (l.map f).set j (r.take 0 ++ vs ++ r.drop (0 + vs.length)) = (l.set j v0).map f := by
    rw [List.map_set, hfv, List.take_zero, List.nil_append, Nat.zero_add, hz, ← hrz, List.drop_length, List.append_nil]
  rw [e]
  exact k

theorem LO.neB {d : Option Nat} {x y : Operand} {T T2 : TypeId} {b c : Bool} (hT : P.underlying T = some .bool) (hx : OV env x (.bool b)) (hy : OV env y (.bool c)) : LO P β env L ⟨d, .binOp .neq T x y T2, ty, pos, aft, g⟩ (.bool (decide (¬ b = c))) :=
  .of_run fun a w h hw => ⟨w, by
    have key : (Op.equalIn Op.maxDepth T (.bool b) (.bool c)).run P w = .ok (b == c) w := by
      show (Op.equalIn (9999 + 1) T (.bool b) (.bool c)).run P w = _
      unfold Op.equalIn
      rw [Sem.run_bind, run_underlying hT]
      rfl
    have e : decide (¬ b = c) = !(b == c) := by cases b <;> cases c <;> rfl
    rw [e]
    simp [execOp, h x (by simp [Op.operands]) _ hx, h y (by simp [Op.operands]) _ hy, eqGuard, binOp, Op.equal, key], hw⟩
end
end Go.SL

namespace Go.SL
set_option linter.unusedVariables false
open Go.RowKit

theorem findNow_int {k : IntKind} {n : Int} : ∀ {es : List MapEntry} (i : Nat), (∀ e, e ∈ es → ∃ m, e.key = intV m) →
    (∃ j e, Instr.findNow (.int k) (intV n) es i = some (some (j, e.val)) ∧ i ≤ j ∧ es[j - i]? = some e ∧ e.key = intV n) ∨ (Instr.findNow (.int k) (intV n) es i = some none ∧ ∀ e, e ∈ es → e.key ≠ intV n)
  | [], i,_ => .inr ⟨rfl, by simp⟩
  | e :: es, i, h => by
    obtain ⟨m, hm⟩ := h e (by simp)
    simp only [Instr.findNow, hm, intV, Instr.sameNow, if_true]
    by_cases q : n = m
    · subst q
      left
      simp only [beq_self_eq_true]
      exact ⟨i, e, rfl, Nat.le_refl _, by simp, hm⟩
    · have : (n == m) = false := by simp [q]
      rw [this]
      rcases findNow_int (k := k) (n := n) (es := es) (i + 1) (fun e' he => h e' (by simp [he])) with ⟨j, e', h1, h2, h3, h4⟩ | ⟨h1, h2⟩
      · left
        refine ⟨j, e', h1, by omega, ?_, h4⟩
        rw [show j - i = (j - (i + 1)) + 1 by omega]
        simpa using h3
      · right
        refine ⟨h1, ?_⟩
        intro e' he
        rcases List.mem_cons.1 he with rfl | he
        · rw [hm]; exact fun e => q (intV_inj e).symm
        · exact h2 e' he
theorem stamps_set {es : List MapEntry} {j c : Nat} {e : MapEntry} {k v : Value} (h : Stamps es c) (hj : es[j]? = some e) : Stamps (es.set j ⟨k, v, e.born⟩) c := by
  have hm : (es.set j ⟨k, v, e.born⟩).map (·.born) = es.map (·.born) := by
    rw [List.map_set]
    refine List.ext_getElem? fun i => ?_
    by_cases q : j = i
    · subst q
      have := (List.getElem?_eq_some_iff.1 hj).1
      rw [List.getElem?_set_self (by simpa using this), List.getElem?_map, hj]; rfl
    · rw [List.getElem?_set_ne q]
  refine ⟨by rw [hm]; exact h.1, fun x hx => ?_⟩
  have : x.born ∈ (es.set j ⟨k, v, e.born⟩).map (·.born) := List.mem_map_of_mem hx
  rw [hm] at this
  obtain ⟨y, h1, h2⟩ := List.mem_map.1 this
  rw [← h2]; exact h.2 y h1
theorem stamps_push {es : List MapEntry} {c : Nat} {k v : Value} (h : Stamps es c) : Stamps (es ++ [⟨k, v, c⟩]) (c + 1) := by
  refine ⟨?_, fun x hx => ?_⟩
  · rw [List.map_append, List.nodup_append]
    refine ⟨h.1, by simp, ?_⟩
    intro a ha b hb
    obtain ⟨x, hx, rfl⟩ := List.mem_map.1 ha
    have := h.2 x hx
    simp at hb
    omega
  · rcases List.mem_append.1 hx with q | q
    · have := h.2 x q; omega
    · have := List.mem_singleton.1 q; subst this; exact Nat.lt_succ_self _
theorem modify_set {es : Array MapEntry} {j : Nat} {e : MapEntry} {f : MapEntry → MapEntry} (hj : es.toList[j]? = some e) : (es.modify j f).toList = es.toList.set j (f e) := by
  refine List.ext_getElem? fun i => ?_
  have hjl := (List.getElem?_eq_some_iff.1 hj).1
  rw [Array.toList_modify]
  by_cases q : j = i
  · subst q
    rw [List.getElem?_modify_eq, hj, List.getElem?_set_self hjl]; rfl
  · rw [List.getElem?_set_ne q]; simp [List.getElem?_modify, q]

section
variable {P : Program} {ro : Option Nat} {β : Bs} {N : Nat} {ds : List Deferred} {env : Env} {L : List Res} {Q : Exit → Act → World → Prop}
variable {d : Option Nat} {ty : TypeId} {pos : String} {aft : Array Edge} {g : Option (Nat × Bool)}
section
variable {K : Value → List Res → Prop} {dd : Option Nat}
theorem skip_of {s : Sem Unit} {w w' : World} (h : s.run P w = .ok () w') : (s.run P w).andThen (fun _ w => .ok Next.skip w) = .ok Next.skip w' := by rw [h]; rfl
end
end
end Go.SL

namespace Go.Proofs.Ytgemekpofpoopaa
open Go.SL Go.Proofs Go.Cast Go.Cell
set_option linter.unusedVariables false

theorem F128_0 : FieldAt Try.prog 128 0 0 := ⟨_,_, Try.underlying128, rfl, rfl, 5, by kernel_rfl⟩
theorem F128_1 : FieldAt Try.prog 128 1 6 := ⟨_,_, Try.underlying128, rfl, rfl, 0, by kernel_rfl⟩
theorem mixed : Try.prog.follows .mixedOrders = true := by kernel_rfl
theorem B71 : Builds Try.prog 71 [(0,1), (1,1)] [.int .i64 0, .int .i64 0] := Builds.mk fun _ => by kernel_rfl
theorem Z128 : ZeroOf Try.prog 128 (.agg #[.int .i64 0, .int .i64 0, .int .i64 0, .int .i64 0, .int .i64 0, .slice none 0 0, .int .i64 0]) := by unfold ZeroOf; kernel_rfl
theorem C73 : IsFn Try.prog 73 := ⟨_, Try.func73, by decide, rfl⟩
theorem B128 : Builds Try.prog 128 [(0,6), (6,1)] [.int .i64 0, .int .i64 0, .int .i64 0, .int .i64 0, .int .i64 0, .slice none 0 0, .int .i64 0] := Builds.mk fun _ => by kernel_rfl
theorem N128 : (Try.prog.info? 128).map (·.size) = some 7 := by kernel_rfl
theorem A128 : IsAgg Try.prog 128 7 := ⟨⟨_, Try.underlying128, rfl⟩, by kernel_rfl⟩


abbrev nC (p : Nat) : List Value := [.int .i64 (p : Int)]
abbrev iC (n : Int) : List Value := [.int .i64 n]
abbrev fieldV (g : Grid) (pv : Option Addr) (n cv : Nat) : Value := .agg #[.int .i64 g.x, .int .i64 g.y, .int .i64 g.size, .int .i64 g.wide, .int .i64 g.high, .slice pv n cv]
abbrev sheetV (g : Grid) (pv : Option Addr) (n cv : Nat) (lv : Int) : Value := .agg #[.int .i64 g.x, .int .i64 g.y, .int .i64 g.size, .int .i64 g.wide, .int .i64 g.high, .slice pv n cv, .int .i64 lv]
abbrev sheetZ : Value := .agg #[.int .i64 0, .int .i64 0, .int .i64 0, .int .i64 0, .int .i64 0, .slice none 0 0, .int .i64 0]
/-- Which pixels may be in, and which are in. -/
def mayB (vs : List Span) (lv : Int) (p : Nat) : Bool := decide (lv ≤ (vs.getD p ⟨0,0⟩).hi)
def inB (vs : List Span) (lv : Int) (p : Nat) : Bool := decide (lv ≤ (vs.getD p ⟨0,0⟩).lo)
def openE (g : Grid) (vs : List Span) (lv : Int) : Int := if fieldE 1073741824 ⟨g, vs⟩ ≠ 0 then fieldE 1073741824 ⟨g, vs⟩ else if lv < 1 ∨ 1073741824 < lv then 3 else 0
theorem oE1 {g : Grid} {vs : List Span} {lv : Int} (h : fieldE 1073741824 ⟨g, vs⟩ ≠ 0) : fieldE 1073741824 ⟨g, vs⟩ = openE g vs lv := (if_pos h).symm
theorem oE2 {g : Grid} {vs : List Span} {lv : Int} (h : ¬ fieldE 1073741824 ⟨g, vs⟩ ≠ 0) (k : lv < 1 ∨ 1073741824 < lv) : 3 = openE g vs lv := by unfold openE; rw [if_neg h, if_pos k]
theorem oE3 {g : Grid} {vs : List Span} {lv : Int} (h : ¬ fieldE 1073741824 ⟨g, vs⟩ ≠ 0) (k : ¬ (lv < 1 ∨ 1073741824 < lv)) : 0 = openE g vs lv := by unfold openE; rw [if_neg h, if_neg k]
theorem openOk {g : Grid} {vs : List Span} {lv : Int} (h : openE g vs lv = 0) : gridOk g ∧ (vs.length : Int) = g.wide * g.high ∧ (∀ j, j < vs.length → spanOk 1073741824 (vs.getD j ⟨0,0⟩)) ∧ 1 ≤ lv ∧ lv ≤ 1073741824 := by
  unfold openE at h
  split at h
  · rename_i q; exact absurd h q
  · rename_i q
    split at h
    · omega
    · rename_i z
      have q := Classical.not_not.1 q
      unfold fieldE at q
      split at q
      · omega
      · rename_i y
        split at q
        · omega
        · rename_i x
          refine ⟨Classical.not_not.1 y, Classical.not_not.1 x, fun j hj => ?_, by omega, by omega⟩
          have := firstE_eq q j hj
          unfold valE at this
          split at this
          · assumption
          · omega

set_option maxRecDepth 20000 in
theorem may_c (g : Grid) (vs : List Span) (pv : Option Addr) (cv : Nat) (lv : Int) (p : Nat) (w : World) (hv : Spans w pv vs) (hp : p < vs.length) :
  Calls Try.prog 64 #[sheetV g pv vs.length cv lv, .int .i64 (p : Int)] w fun e w' => e = .returned (.bool (mayB vs lv p)) ∧ St (bs w) [] w' := by
  refine enter (vs := [_,_]) (env := [(0,_), (1,_)]) Try.func64 rfl rfl rfl rfl ?_
  refine VC.seq ?_
  refine VC.reg (VO.h rfl<|HO.box (C := #[_,_,_,_,_,_,_]) rfl rfl fun b1 => VO.l (LO.as (.r rfl)) rfl<|VO.nil ?_)
  refine VE.seqN ?_
  refine VC.seq ?_
  refine VC.draw mixed (LL.l (LO.fa (r := 0) F128_0 (.r rfl) rfl) rfl<|LL.l (LO.fa (r := 5) F26_1 (.r rfl) rfl) rfl<|LL.l (LO.ld O24 (.r rfl) (fun _ hw => cells_at hw 0 rfl ⟨_, rfl⟩)) rfl<|LL.l (LO.mv (.r rfl)) rfl<|LL.l (LO.ixs S24 N71 hv.some (.r rfl) (.r rfl) rfl (by omega)) rfl<|LL.l (LO.fa F71_1 (.r rfl) rfl) rfl<|LL.l (LO.ld O3 (.r rfl) (fun w hw => cells_part (off := 1) ((hv.at (j := p) (by omega)) w hw) ⟨_, rfl⟩)) rfl<|LL.l (LO.fa (r := 6) F128_1 (.r rfl) rfl) rfl<|LL.l (LO.ld O3 (.r rfl) (fun _ hw => cells_at hw 0 rfl ⟨_, rfl⟩)) rfl<|LL.l (LO.ge (.r rfl) (.r rfl)) rfl<|LL.l (LO.as (.r rfl)) rfl<|LL.nil) (by kernel_rfl) ?_
  refine VE.seqN ?_
  refine VC.ret (VE.res (vs := [_]) rfl ⟨rfl, trivial⟩ (fun w hw => ?_))
  exact ⟨rfl, hw.nil⟩

set_option maxRecDepth 20000 in
theorem in_c (g : Grid) (vs : List Span) (pv : Option Addr) (cv : Nat) (lv : Int) (p : Nat) (w : World) (hv : Spans w pv vs) (hp : p < vs.length) :
  Calls Try.prog 63 #[sheetV g pv vs.length cv lv, .int .i64 (p : Int)] w fun e w' => e = .returned (.bool (inB vs lv p)) ∧ St (bs w) [] w' := by
  refine enter (vs := [_,_]) (env := [(0,_), (1,_)]) Try.func63 rfl rfl rfl rfl ?_
  refine VC.seq ?_
  refine VC.reg (VO.h rfl<|HO.box (C := #[_,_,_,_,_,_,_]) rfl rfl fun b1 => VO.l (LO.as (.r rfl)) rfl<|VO.nil ?_)
  refine VE.seqN ?_
  refine VC.seq ?_
  refine VC.draw mixed (LL.l (LO.fa (r := 0) F128_0 (.r rfl) rfl) rfl<|LL.l (LO.fa (r := 5) F26_1 (.r rfl) rfl) rfl<|LL.l (LO.ld O24 (.r rfl) (fun _ hw => cells_at hw 0 rfl ⟨_, rfl⟩)) rfl<|LL.l (LO.mv (.r rfl)) rfl<|LL.l (LO.ixs S24 N71 hv.some (.r rfl) (.r rfl) rfl (by omega)) rfl<|LL.l (LO.fa F71_0 (.r rfl) rfl) rfl<|LL.l (LO.ld O3 (.r rfl) (fun w hw => cells_part (off := 0) ((hv.at (j := p) (by omega)) w hw) ⟨_, rfl⟩)) rfl<|LL.l (LO.fa (r := 6) F128_1 (.r rfl) rfl) rfl<|LL.l (LO.ld O3 (.r rfl) (fun _ hw => cells_at hw 0 rfl ⟨_, rfl⟩)) rfl<|LL.l (LO.ge (.r rfl) (.r rfl)) rfl<|LL.l (LO.as (.r rfl)) rfl<|LL.nil) (by kernel_rfl) ?_
  refine VE.seqN ?_
  refine VC.ret (VE.res (vs := [_]) rfl ⟨rfl, trivial⟩ (fun w hw => ?_))
  exact ⟨rfl, hw.nil⟩

set_option maxRecDepth 20000 in
theorem hull_c (a b n : Int) (w : World) :
  Calls Try.prog 101 #[.agg #[.int .i64 a, .int .i64 b], .int .i64 n] w fun e w' => e = .returned (.agg #[.int .i64 (min a n), .int .i64 (max b n)]) ∧ St (bs w) [] w' := by
  refine enter (vs := [_,_]) (env := [(0,_), (1,_)]) Try.func101 rfl rfl rfl rfl ?_
  refine VC.seq ?_
  refine VC.reg (VO.h rfl<|HO.box (C := #[_,_]) rfl rfl fun b1 => VO.h rfl<|HO.alloc (C := #[_,_]) Z71 rfl fun b2 => VO.nil ?_)
  refine VE.seqN ?_
  refine VC.seq ?_
  refine VC.reg (VO.l (LO.fa (r := 0) F71_0 (.r rfl) rfl) rfl<|VO.l (LO.ld O3 (.r rfl) (fun _ hw => cells_at hw 1 rfl ⟨_, rfl⟩)) rfl<|VO.l (LO.mv (.r rfl)) rfl<|VO.l (LO.min (.r rfl) (.r rfl)) rfl<|VO.l (LO.fa (r := 1) F71_1 (.r rfl) rfl) rfl<|VO.l (LO.ld O3 (.r rfl) (fun _ hw => cells_at hw 1 rfl ⟨_, rfl⟩)) rfl<|VO.l (LO.mv (.r rfl)) rfl<|VO.l (LO.max (.r rfl) (.r rfl)) rfl<|VO.l (LO.bd (ps := [(_,_), (_,_)]) (vs := [(_,_), (_,_)]) (C := [_,_]) B71  ⟨(.r rfl), (.r rfl), trivial⟩ rfl ⟨_, [_], [_,_], rfl, rfl, rfl, rfl, ⟨_, [_], [_,_], rfl, rfl, rfl, rfl, rfl⟩⟩) rfl<|VO.h0<|HO.st 0 (vs := [_,_]) (C' := [_,_]) (L' := [_,_]) N71 rfl rfl rfl rfl rfl rfl rfl rfl<|VO.nil ?_)
  refine VE.seqN ?_
  refine VC.ret (VE.res (vs := [_]) rfl ⟨RV.agg (vs := [_,_]) A71 rfl (cells_blk 0 rfl ⟨_, rfl⟩) rfl, trivial⟩ (fun w hw => ?_))
  exact ⟨rfl, hw.nil⟩

set_option maxRecDepth 20000 in
theorem opened_ok (g : Grid) (vs : List Span) (pv : Option Addr) (cv : Nat) (lv : Int) (w : World) (hv : Spans w pv vs) (hok : openE g vs lv = 0) :
  Calls Try.prog 57 #[fieldV g pv vs.length cv, .int .i64 lv] w fun e w' => e = .returned (.tuple #[sheetV g pv vs.length cv lv, .int .i64 0]) ∧ St (bs w) [] w' := by
  refine enter (vs := [_,_]) (env := [(0,_), (1,_)]) Try.func57 rfl rfl rfl rfl ?_
  refine VC.seq ?_
  refine VC.reg (VO.h rfl<|HO.box (C := #[_,_,_,_,_,_]) rfl rfl fun b1 => VO.h rfl<|HO.alloc (C := #[_,_,_,_,_,_,_]) Z128 rfl fun b2 => VO.l (LO.as (.r rfl)) rfl<|VO.nil ?_)
  refine VE.seqN ?_
  refine VC.seq ?_
  refine VC.seq ?_
  refine VC.reg (VO.l (LO.lda (vs := [_,_,_,_,_,_]) A26 (.r rfl) (fun _ hw => cells_at hw 1 rfl ⟨_, rfl⟩) rfl) rfl<|VO.l (LO.call (xs := [_]) (vs := [_]) C73 ⟨(.r rfl), trivial⟩ (fun w hw => bCheckField_c ⟨g, vs⟩ pv cv w (hv.keep w hw))) rfl<|VO.l (LO.as (.r rfl)) rfl<|VO.nil ?_)
  refine VE.seqN ?_
  refine VC.seq ?_
  refine VC.reg (VO.l (LO.mv (.r rfl)) rfl<|VO.l (LO.ne (.r rfl) (.r rfl)) rfl<|VO.nil ?_)
  refine VE.seqN ?_
  refine VC.cond rfl (fun h1 => ?_) (fun h1 => ?_)
  ·
    (exfalso; exact h1 (by have z := oE1 (lv := lv) h1; rw [hok] at z; exact z))
  ·
    refine VC.skip (VE.seqN ?_)
    refine VC.seq ?_
    refine VC.seq ?_
    refine VC.reg (VO.l (LO.mv (.r rfl)) rfl<|VO.l (LO.lt (.r rfl) (.r rfl)) rfl<|VO.l (LO.mv (.r rfl)) rfl<|VO.lg rfl rfl (GD.f _) (fun hg => LO.mv (.r rfl)) rfl<|VO.lg rfl rfl (GD.f _) (fun hg => LO.gt (.g hg rfl) (.r rfl)) rfl<|VO.l (LO.pkO (.r rfl) (.r rfl) rfl rfl) rfl<|VO.nil ?_)
    refine VE.seqN ?_
    refine VC.cond rfl (fun h2 => ?_) (fun h2 => ?_)
    ·
      (exfalso; have z := openOk hok; first | omega | (simp at h2; omega))
    ·
      refine VC.skip (VE.seqN ?_)
      refine VC.seq ?_
      refine VC.reg (VO.l (LO.lda (vs := [_,_,_,_,_,_]) A26 (.r rfl) (fun _ hw => cells_at hw 1 rfl ⟨_, rfl⟩) rfl) rfl<|VO.l (LO.mv (.r rfl)) rfl<|VO.l (LO.bd (ps := [(_,_), (_,_)]) (vs := [(_,_), (_,_)]) (C := [_,_,_,_,_,_,_]) B128  ⟨(.r rfl), (.r rfl), trivial⟩ rfl ⟨_, [_,_,_,_,_,_], [_,_,_,_,_,_,_], rfl, rfl, rfl, rfl, ⟨_, [_], [_,_,_,_,_,_,_], rfl, rfl, rfl, rfl, rfl⟩⟩) rfl<|VO.h0<|HO.st 0 (vs := [_,_,_,_,_,_,_]) (C' := [_,_,_,_,_,_,_]) (L' := [_,_]) N128 rfl rfl rfl rfl rfl rfl rfl rfl<|VO.l (LO.as (.r rfl)) rfl<|VO.nil ?_)
      refine VE.seqN ?_
      refine VC.ret (VE.res (vs := [_,_]) rfl ⟨RV.agg (vs := [_,_,_,_,_,_,_]) A128 rfl (cells_blk 0 rfl ⟨_, rfl⟩) rfl, rfl, trivial⟩ (fun w hw => ?_))
      exact ⟨rfl, hw.nil⟩

set_option maxRecDepth 20000 in
theorem opened_e (g : Grid) (vs : List Span) (pv : Option Addr) (cv : Nat) (lv : Int) (w : World) (hv : Spans w pv vs) (hne : openE g vs lv ≠ 0) :
  Calls Try.prog 57 #[fieldV g pv vs.length cv, .int .i64 lv] w fun e w' => e = .returned (.tuple #[sheetZ, .int .i64 (openE g vs lv)]) ∧ St (bs w) [] w' := by
  refine enter (vs := [_,_]) (env := [(0,_), (1,_)]) Try.func57 rfl rfl rfl rfl ?_
  refine VC.seq ?_
  refine VC.reg (VO.h rfl<|HO.box (C := #[_,_,_,_,_,_]) rfl rfl fun b1 => VO.h rfl<|HO.alloc (C := #[_,_,_,_,_,_,_]) Z128 rfl fun b2 => VO.l (LO.as (.r rfl)) rfl<|VO.nil ?_)
  refine VE.seqN ?_
  refine VC.seq ?_
  refine VC.seq ?_
  refine VC.reg (VO.l (LO.lda (vs := [_,_,_,_,_,_]) A26 (.r rfl) (fun _ hw => cells_at hw 1 rfl ⟨_, rfl⟩) rfl) rfl<|VO.l (LO.call (xs := [_]) (vs := [_]) C73 ⟨(.r rfl), trivial⟩ (fun w hw => bCheckField_c ⟨g, vs⟩ pv cv w (hv.keep w hw))) rfl<|VO.l (LO.as (.r rfl)) rfl<|VO.nil ?_)
  refine VE.seqN ?_
  refine VC.seq ?_
  refine VC.reg (VO.l (LO.mv (.r rfl)) rfl<|VO.l (LO.ne (.r rfl) (.r rfl)) rfl<|VO.nil ?_)
  refine VE.seqN ?_
  refine VC.cond rfl (fun h1 => ?_) (fun h1 => ?_)
  ·
    refine VC.seq ?_
    refine VC.reg (VO.l (LO.bd (ps := []) (vs := []) (C := [_,_,_,_,_,_,_]) B128  trivial rfl rfl) rfl<|VO.l (LO.mv (.r rfl)) rfl<|VO.h0<|HO.st 0 (vs := [_,_,_,_,_,_,_]) (C' := [_,_,_,_,_,_,_]) (L' := [_,_]) N128 rfl rfl rfl rfl rfl rfl rfl rfl<|VO.l (LO.as (.r rfl)) rfl<|VO.nil ?_)
    refine VE.seqN ?_
    refine VC.ret (VE.thenR (VE.res (vs := [_,_]) rfl ⟨RV.agg (vs := [_,_,_,_,_,_,_]) A128 rfl (cells_blk 0 rfl ⟨_, rfl⟩) rfl, rfl, trivial⟩ (fun w hw => ?_)))
    refine ⟨?_, hw.nil⟩
    refine congrArg (fun z => Ending.returned (.tuple #[sheetZ, .int .i64 z])) ?_
    first | exact oE1 h1 | exact oE2 h1 (by first | omega | (simp at h2; omega))
  ·
    refine VC.skip (VE.seqN ?_)
    refine VC.seq ?_
    refine VC.seq ?_
    refine VC.reg (VO.l (LO.mv (.r rfl)) rfl<|VO.l (LO.lt (.r rfl) (.r rfl)) rfl<|VO.l (LO.mv (.r rfl)) rfl<|VO.lg rfl rfl (GD.f _) (fun hg => LO.mv (.r rfl)) rfl<|VO.lg rfl rfl (GD.f _) (fun hg => LO.gt (.g hg rfl) (.r rfl)) rfl<|VO.l (LO.pkO (.r rfl) (.r rfl) rfl rfl) rfl<|VO.nil ?_)
    refine VE.seqN ?_
    refine VC.cond rfl (fun h2 => ?_) (fun h2 => ?_)
    ·
      refine VC.seq ?_
      refine VC.reg (VO.l (LO.bd (ps := []) (vs := []) (C := [_,_,_,_,_,_,_]) B128  trivial rfl rfl) rfl<|VO.h0<|HO.st 0 (vs := [_,_,_,_,_,_,_]) (C' := [_,_,_,_,_,_,_]) (L' := [_,_]) N128 rfl rfl rfl rfl rfl rfl rfl rfl<|VO.l (LO.as (.r rfl)) rfl<|VO.nil ?_)
      refine VE.seqN ?_
      refine VC.ret (VE.thenR (VE.res (vs := [_,_]) rfl ⟨RV.agg (vs := [_,_,_,_,_,_,_]) A128 rfl (cells_blk 0 rfl ⟨_, rfl⟩) rfl, rfl, trivial⟩ (fun w hw => ?_)))
      refine ⟨?_, hw.nil⟩
      refine congrArg (fun z => Ending.returned (.tuple #[sheetZ, .int .i64 z])) ?_
      first | exact oE1 h1 | exact oE2 h1 (by first | omega | (simp at h2; omega))
    ·
      (exfalso; exact hne (oE3 h1 (by first | omega | (simp at h2; omega))).symm)

end Go.Proofs.Ytgemekpofpoopaa

namespace Go.Proofs.Ytgemekpofpoopaa
open Go.SL Go.Proofs Go.Cast Go.Cell
set_option linter.unusedVariables false



abbrev arF (bp bg : Nat) : Value := .func (.func 107) #[] #[.pointer (some ⟨bp, 0, none⟩), .pointer (some ⟨bg, 0, none⟩)]
abbrev gridC (g : Grid) : List Value := [.int .i64 g.x, .int .i64 g.y, .int .i64 g.size, .int .i64 g.wide, .int .i64 g.high]
structure arCap (g : Grid) (p : Nat) (bp bg : Nat) (w : World) : Prop where
  p : Cells w ⟨bp, 0, none⟩ [.int .i64 (p : Int)]
  g : Cells w ⟨bg, 0, none⟩ (gridC g)
/-- Wide and high, as numbers. -/
abbrev gW (g : Grid) : Nat := g.wide.toNat
abbrev gH (g : Grid) : Nat := g.high.toNat
theorem gWi {g : Grid} (h : gridOk g) : (gW g : Int) = g.wide ∧ (gH g : Int) = g.high ∧ 1 ≤ gW g ∧ gW g ≤ 64 ∧ 1 ≤ gH g ∧ gH g ≤ 64 := by
  obtain ⟨_,_,_, h4, h5⟩ := h; unfold gW gH; omega
theorem mod_n {g : Grid} (h : gridOk g) (p : Nat) : ((p : Int)).tmod g.wide = ((p % gW g : Nat) : Int) := by
  rw [← (gWi h).1]; rfl
theorem div_n {g : Grid} (h : gridOk g) (p : Nat) : ((p : Int)).tdiv g.wide = ((p / gW g : Nat) : Int) := by
  rw [← (gWi h).1]; rfl
theorem area_n {g : Grid} (h : gridOk g) : ((gW g * gH g : Nat) : Int) = g.wide * g.high := by rw [Int.natCast_mul, (gWi h).1, (gWi h).2.1]
theorem len_n {g : Grid} (h : gridOk g) {n : Nat} (k : (n : Int) = g.wide * g.high) : n = gW g * gH g := by rw [← area_n h] at k; omega
theorem area_le {g : Grid} (h : gridOk g) : gW g * gH g ≤ 4096 := by have := area_bd h; have := area_n h; omega
/-- A stage of a sequence: stopped ahead, or not. -/
theorem stage {J Jx : Nat → Res → Prop} {s d b : Bool} {k len : Nat} {r r' : Res} (h1 : s = false → J k r) (h2 : s = true → ∃ n, n ≤ len ∧ Jx n r) (hk : d = true → k + 1 ≤ len) (hp : (!s && d) = true → if b = true then J (k + 1) r' else Jx (k + 1) r') (hq : (!s && d) = false → r' = r) :
    ((s || (d && !b)) = false → J (k + d.toNat) r') ∧ ((s || (d && !b)) = true → ∃ n, n ≤ len ∧ Jx n r') := by
  cases s with
  | true => exact ⟨fun h => (by cases h), fun _ => by rw [hq rfl]; exact h2 rfl⟩
  | false =>
    cases d with
    | false => exact ⟨fun _ => by rw [hq rfl]; exact h1 rfl, fun h => (by cases h)⟩
    | true =>
      cases b with
      | true => exact ⟨fun _ => by have := hp rfl; rw [if_pos rfl] at this; exact this, fun h => (by cases h)⟩
      | false => exact ⟨fun h => (by cases h), fun _ => ⟨k + 1, hk rfl, by have := hp rfl; rw [if_neg (by decide)] at this; exact this⟩⟩
theorem nb_1 {W H p : Nat} (h : 0 < p / W) : (nb W H p)[0]? = some (p - W) := by unfold nb; rw [if_pos h]; rfl
theorem nb_2 {W H p : Nat} (h : 0 < p % W) : (nb W H p)[(decide (0 < p / W)).toNat]? = some (p - 1) := by
  unfold nb; rw [if_pos h]
  by_cases q : 0 < p / W
  · rw [if_pos q, decide_eq_true q]; rfl
  · rw [if_neg q, decide_eq_false q]; rfl
theorem nb_3 {W H p : Nat} (h : p % W + 1 < W) : (nb W H p)[(decide (0 < p / W)).toNat + (decide (0 < p % W)).toNat]? = some (p + 1) := by
  unfold nb; rw [if_pos h]
  by_cases q : 0 < p / W <;> by_cases z : 0 < p % W
  · rw [if_pos q, decide_eq_true q, if_pos z, decide_eq_true z]; rfl
  · rw [if_pos q, decide_eq_true q, if_neg z, decide_eq_false z]; rfl
  · rw [if_neg q, decide_eq_false q, if_pos z, decide_eq_true z]; rfl
  · rw [if_neg q, decide_eq_false q, if_neg z, decide_eq_false z]; rfl
theorem nb_len {W H p : Nat} : (nb W H p).length = (decide (0 < p / W)).toNat + (decide (0 < p % W)).toNat + (decide (p % W + 1 < W)).toNat + (decide (p / W + 1 < H)).toNat := by
  unfold nb
  simp only [List.length_append]
  have key : ∀ {c : Prop} [Decidable c] {x : Nat}, (if c then [x] else []).length = (decide c).toNat := fun {c} _ {x} => by
    by_cases q : c
    · rw [if_pos q, decide_eq_true q]; rfl
    · rw [if_neg q, decide_eq_false q]; rfl
  rw [key, key, key, key]
theorem nb_4 {W H p : Nat} (h : p / W + 1 < H) : (nb W H p)[(decide (0 < p / W)).toNat + (decide (0 < p % W)).toNat + (decide (p % W + 1 < W)).toNat]? = some (p + W) := by
  have hl := nb_len (W := W) (H := H) (p := p)
  rw [decide_eq_true h] at hl
  have hl2 : ((if 0 < p / W then [p - W] else []) ++ (if 0 < p % W then [p - 1] else []) ++ (if p % W + 1 < W then [p + 1] else []) : List Nat).length = (decide (0 < p / W)).toNat + (decide (0 < p % W)).toNat + (decide (p % W + 1 < W)).toNat := by
    have e : (nb W H p).length = ((if 0 < p / W then [p - W] else []) ++ (if 0 < p % W then [p - 1] else []) ++ (if p % W + 1 < W then [p + 1] else []) : List Nat).length + 1 := by
      unfold nb; rw [if_pos h, List.length_append]; rfl
    simp only [Bool.toNat_true] at hl
    omega
  unfold nb
  rw [if_pos h, List.getElem?_append_right (by omega), hl2, Nat.sub_self]
  rfl
theorem sub_n {g : Grid} (h : gridOk g) {p : Nat} (q : 0 < p / gW g) : (p : Int) - g.wide = ((p - gW g : Nat) : Int) := by
  have h1 := (gWi h).1
  have h2 : gW g ≤ p := by
    rcases Nat.lt_or_ge p (gW g) with z | z
    · rw [Nat.div_eq_of_lt z] at q; omega
    · exact z
  omega
theorem sub1_n {p W : Nat} (q : 0 < p % W) : (p : Int) - 1 = ((p - 1 : Nat) : Int) := by
  have : 0 < p := by
    rcases Nat.eq_zero_or_pos p with z | z
    · subst z; simp at q
    · exact z
  omega
theorem seq_stop {J Jx : Nat → Res → Prop} {xs : List (List Value)} {n : Nat} {r : Res} (h : n ≤ xs.length) (k : Jx n r) : J xs.length r ∨ ∃ n, n ≤ xs.length ∧ Jx n r := .inr ⟨n, h, k⟩
theorem seq_full {J Jx : Nat → Res → Prop} {xs : List (List Value)} {r : Res} (k : J xs.length r) : J xs.length r ∨ ∃ n, n ≤ xs.length ∧ Jx n r := .inl k
theorem seq_end {J Jx : Nat → Res → Prop} {xs : List (List Value)} {r : Res} {β : Bs} {w : World} (h : J xs.length r ∨ ∃ n, n ≤ xs.length ∧ Jx n r) (hw : St β [r] w) : ∃ n r', (J xs.length r' ∨ (n ≤ xs.length ∧ Jx n r')) ∧ St β [r'] w := by
  rcases h with h | ⟨n, h1, h2⟩
  · exact ⟨0, r, .inl h, hw⟩
  · exact ⟨n, r, .inr ⟨h1, h2⟩, hw⟩

set_option maxRecDepth 20000 in
theorem around_c (g : Grid) (p : Nat) (w : World) :
  Calls Try.prog 71 #[gridV g, .int .i64 (p : Int)] w fun e w' => ∃ y : Nat × Nat, True ∧ e = .returned (arF y.1 y.2) ∧ St (bs w) [blk y.1 (.cells #[.int .i64 (p : Int)] 3), blk y.2 (.cells (gridC g).toArray 23)] w' := by
  refine enter (vs := [_,_]) (env := [(0,_), (1,_)]) Try.func71 rfl rfl rfl rfl ?_
  refine VC.seq ?_
  refine VC.reg (VO.h rfl<|HO.box (C := #[_,_,_,_,_]) rfl rfl fun b1 => VO.h rfl<|HO.box (C := #[_]) rfl rfl fun b2 => VO.l (LO.as (.r rfl)) rfl<|VO.nil ?_)
  refine VE.seqN ?_
  refine VC.seq ?_
  refine VC.reg (VO.h rfl<|HO.lo (LO.mf (cap := [_,_]) ⟨(.r rfl), (.r rfl), trivial⟩)<|VO.h rfl<|HO.lo (LO.as (.r rfl))<|VO.nil ?_)
  refine VE.seqN ?_
  refine VC.ret (VE.res (vs := [_]) rfl ⟨rfl, trivial⟩ (fun w hw => ?_))
  exact ⟨(b2, b1), trivial, rfl, hw⟩

end Go.Proofs.Ytgemekpofpoopaa

namespace Go.Proofs.Ytgemekpofpoopaa
open Go.SL Go.Proofs Go.Cast Go.Cell
set_option linter.unusedVariables false



theorem LO.eqv {P : Program} {β : Bs} {env : Env} {L : List Res} {o : Oper} {v v' : Value} (h : LO P β env L o v) (e : v = v') : LO P β env L o v' := e ▸ h
theorem dlt {a b : Nat} {x y : Int} (h1 : x = a) (h2 : y = b) : Value.bool (decide (x < y)) = .bool (decide (a < b)) := by
  subst h1; subst h2; exact congrArg Value.bool (decide_eq_decide.2 (by omega))
theorem yg2 {P : Program} {ro : Option Nat} {β : Bs} {N : Nat} {ds : List Deferred} {env : Env} {L : List Res} {Q : Exit → Act → World → Prop} (i : Nat) {ops : Array Oper} {d j t : Nat} {want c : Bool} {ty : TypeId} {pos : String} {aft : Array Edge} {rest : List Oper} {u : Value} {fx : Operand} {xs : List Operand} {vs : List Value} {aT : Array TypeId} {l : Nat} {r : Res} {post : Bool → Res → Prop} (hj : (ops[j]?).bind (·.dst) = some t) (ht : ev1 env t = some u) (hg : GD u want c) (hd : Nat.blt d N = true)
    (hfx : c = true → OV env fx (yv l)) (hx : c = true → OVs env xs vs) (hi : L[i]? = some r)
    (hy : c = true → ∀ w, r.inv w → (∀ k, r.fp k → k < w.heap.size) → (w.os = β.w.os ∧ w.tape = β.w.tape ∧ w.output = β.w.output ∧ β.w.heap.size ≤ w.heap.size) → YieldsTo P l vs w fun e w' => ∃ b r', e = .returned (.bool b) ∧ post b r' ∧ St ⟨w, r.fp⟩ [r'] w')
    (k : ∀ b r', (c = true → post b r') → (c = false → r' = r) → VO P ro β N ds ops ((d, gv c (.bool b)) :: env) (L.set i r') rest Q) :
    VO P ro β N ds ops env L (⟨some d, .call ⟨.value fx, xs.toArray, aT⟩, ty, pos, aft, some (j, want)⟩ :: rest) Q := by
  cases c with
  | true =>
    exact VO.hg (Kx := fun v L' => ∃ b r', v = .bool b ∧ L' = L.set i r' ∧ post b r') hj ht hg (fun q => HO.yield i (hfx q) (hx q) hi (hy q) fun b r' hp => ⟨b, r', rfl, rfl, hp⟩) hd fun v L' h1 _ => by
      obtain ⟨b, r', h2, h3, h4⟩ := h1 rfl
      subst h2; subst h3
      exact k b r' (fun _ => h4) (fun q => by cases q)
  | false =>
    refine VO.hg (Kx := fun _ _ => False) hj ht hg (fun q => by cases q) hd fun v L' _ h2 => ?_
    have h3 := h2 rfl
    subst h3
    have h4 := k true r (fun q => by cases q) (fun _ => rfl)
    have h5 : L'.set i r = L' := by
      apply List.ext_getElem?
      intro n
      rw [List.getElem?_set]
      split
      · rename_i q; subst q
        split
        · exact hi.symm
        · rename_i q; simp [List.getElem?_eq_none (Nat.not_lt.1 q)] at hi
      · rfl
    rw [h5] at h4
    exact h4
theorem nS {a b : Bool} (h : (!a && b) = true) : a = false := by cases a <;> simp_all
theorem nT {a b : Bool} (h : (!a && b) = true) : b = true := by cases a <;> simp_all
theorem nN {a : Bool} (h : (!a) = true) : a = false := by cases a <;> simp_all

set_option maxRecDepth 20000 in
theorem around_seq (g : Grid) (p bp bg : Nat) (hg0 : gridOk g) (hp : p < gW g * gH g) :
  SeqC Try.prog 107 [.pointer (some ⟨bp, 0, none⟩), .pointer (some ⟨bg, 0, none⟩)] (arCap g p bp bg) ((nb (gW g) (gH g) p).map nC) := by
  intro l J Jx w r hCap hyl hJ hi0 hf0
  obtain ⟨hW, hH, hW1, hW2, hH1, hH2⟩ := gWi hg0
  have hal := area_le hg0
  have hxl : p % gW g < gW g := Nat.mod_lt _ (by omega)
  have hyl2 : p / gW g < gH g := row_lt hp
  have hdy : (0 : Int) ≤ ((p / gW g : Nat) : Int) ∧ (0 : Int) ≤ ((p % gW g : Nat) : Int) := ⟨Int.natCast_nonneg _, Int.natCast_nonneg _⟩
  obtain ⟨D1, hD1⟩ : ∃ D, D = (decide (0 < p / gW g)) := ⟨_, rfl⟩
  obtain ⟨D2, hD2⟩ : ∃ D, D = (decide (0 < p % gW g)) := ⟨_, rfl⟩
  obtain ⟨D3, hD3⟩ : ∃ D, D = (decide (p % gW g + 1 < gW g)) := ⟨_, rfl⟩
  obtain ⟨D4, hD4⟩ : ∃ D, D = (decide (p / gW g + 1 < gH g)) := ⟨_, rfl⟩
  have hlen : ((nb (gW g) (gH g) p).map nC).length = D1.toNat + D2.toNat + D3.toNat + D4.toNat := by rw [List.length_map, nb_len, hD1, hD2, hD3, hD4]
  have hk1 : D1 = true → 0 + 1 ≤ ((nb (gW g) (gH g) p).map nC).length := fun h => by rw [hlen, h]; simp only [Bool.toNat_true]; omega
  have hk2 : D2 = true → 0 + D1.toNat + 1 ≤ ((nb (gW g) (gH g) p).map nC).length := fun h => by rw [hlen, h]; simp only [Bool.toNat_true]; omega
  have hk3 : D3 = true → 0 + D1.toNat + D2.toNat + 1 ≤ ((nb (gW g) (gH g) p).map nC).length := fun h => by rw [hlen, h]; simp only [Bool.toNat_true]; omega
  refine enterO (vs := [_,_,_]) (env := [(0,_), (1,_), (2,_)]) (St.one hi0 hf0) Try.func107 rfl rfl rfl rfl ?_
  refine VC.seq ?_
  refine VC.draw mixed (LL.l (LO.ld O3 (.r rfl) (fun _ hw => sub_cells (off := 0) (hCap _ _ _ hJ (St.inv hw 0 _ rfl)).p ⟨_, rfl⟩)) rfl<|LL.l (LO.fa (r := 3) F23_3 (.r rfl) rfl) rfl<|LL.l (LO.ld O3 (.r rfl) (fun _ hw => sub_cells (off := 3) (hCap _ _ _ hJ (St.inv hw 0 _ rfl)).g ⟨_, rfl⟩)) rfl<|LL.l (LO.eqv (LO.rem (.r rfl) (.r rfl) (by omega)) (congrArg (Value.int .i64) (mod_n hg0 p))) rfl<|LL.l (LO.ld O3 (.r rfl) (fun _ hw => sub_cells (off := 0) (hCap _ _ _ hJ (St.inv hw 0 _ rfl)).p ⟨_, rfl⟩)) rfl<|LL.l (LO.fa (r := 3) F23_3 (.r rfl) rfl) rfl<|LL.l (LO.ld O3 (.r rfl) (fun _ hw => sub_cells (off := 3) (hCap _ _ _ hJ (St.inv hw 0 _ rfl)).g ⟨_, rfl⟩)) rfl<|LL.l (LO.eqv (LO.quo (.r rfl) (.r rfl) (by omega) (wi (by rw [div_n hg0]; omega) (by rw [div_n hg0]; omega))) (congrArg (Value.int .i64) (div_n hg0 p))) rfl<|LL.l (LO.as (.r rfl)) rfl<|LL.l (LO.as (.r rfl)) rfl<|LL.nil) (by kernel_rfl) ?_
  refine VE.seqN ?_
  refine VC.seq ?_
  refine VC.seq ?_
  refine VC.reg (VO.l (LO.mv (.r rfl)) rfl<|VO.l (LO.eqv (v' := .bool D1) (LO.gt (.r rfl) (.r rfl)) (by rw [hD1]; exact dlt rfl rfl)) rfl<|VO.l (LO.mv (.r rfl)) rfl<|VO.lg rfl rfl (GD.t _) (fun hg => LO.mv (.r rfl)) rfl<|VO.lg rfl rfl (GD.t _) (fun hg => LO.ld O3 (.r rfl) (fun _ hw => sub_cells (off := 0) (hCap _ _ _ hJ (St.inv hw 0 _ rfl)).p ⟨_, rfl⟩)) rfl<|VO.lg rfl rfl (GD.t _) (fun hg => LO.fa (r := 3) F23_3 (.r rfl) rfl) rfl<|VO.lg rfl rfl (GD.t _) (fun hg => LO.ld O3 (.g hg rfl) (fun _ hw => sub_cells (off := 3) (hCap _ _ _ hJ (St.inv hw 0 _ rfl)).g ⟨_, rfl⟩)) rfl<|VO.lg rfl rfl (GD.t _) (fun hg => LO.eqv (LO.sub (.g hg rfl) (.g hg rfl) (wi (by omega) (by omega))) (congrArg (Value.int .i64) (sub_n hg0 (of_decide_eq_true (hD1 ▸ hg))))) rfl<|yg2 0 (r := r) (vs := [_]) (post := fun b r' => if b = true then J (0 + 1) r' else Jx (0 + 1) r') rfl rfl (GD.t _) rfl (fun hg => .g hg rfl) (fun hg => ⟨.g hg rfl, trivial⟩) rfl (fun hg w2 hi hr hs => hyl (0) _ (by rw [List.getElem?_map, nb_1 (of_decide_eq_true (hD1 ▸ hg))]; rfl) r w2 (hJ) hi hr hs) fun b1 r1 hp1 hq1 => have hA1 := stage (J := J) (Jx := Jx) (s := false) (d := D1) (len := ((nb (gW g) (gH g) p).map nC).length) (fun _ => hJ) (fun q => by cases q) (hk1) hp1 hq1; VO.lg rfl rfl (GD.t _) (fun hg => LO.not (.g hg rfl)) rfl<|VO.l (LO.pkA (.r rfl) rfl rfl (.r rfl)) rfl<|VO.l (LO.mv (.r rfl)) rfl<|VO.lg rfl rfl (GD.f _) (fun hg => LO.mv (.r rfl)) rfl<|VO.lg rfl rfl (GD.f _) (fun hg => LO.eqv (v' := .bool D2) (LO.gt (.g hg rfl) (.r rfl)) (by rw [hD2]; exact dlt rfl rfl)) rfl<|VO.lg rfl rfl (GD.f _) (fun hg => LO.mv (.g hg rfl)) rfl<|VO.lg rfl rfl (GD.nt _ _) (fun hg => LO.mv (.r rfl)) rfl<|VO.lg rfl rfl (GD.nt _ _) (fun hg => LO.ld O3 (.r rfl) (fun _ hw => (hCap _ _ _ (hA1.1 (nS hg)) (St.inv hw 0 _ rfl)).p)) rfl<|VO.lg rfl rfl (GD.nt _ _) (fun hg => LO.eqv (LO.sub (.g hg rfl) (.r rfl) (wi (by omega) (by omega))) (congrArg (Value.int .i64) (sub1_n (of_decide_eq_true (hD2 ▸ nT hg))))) rfl<|yg2 0 (r := r1) (vs := [_]) (post := fun b r' => if b = true then J ((0 + D1.toNat) + 1) r' else Jx ((0 + D1.toNat) + 1) r') rfl rfl (GD.nt _ _) rfl (fun hg => .g hg rfl) (fun hg => ⟨.g hg rfl, trivial⟩) rfl (fun hg w2 hi hr hs => hyl ((0 + D1.toNat)) _ (by rw [hD1, List.getElem?_map, Nat.zero_add, nb_2 (of_decide_eq_true (hD2 ▸ nT hg))]; rfl) r1 w2 (hA1.1 (nS hg)) hi hr hs) fun b2 r2 hp2 hq2 => have hA2 := stage (J := J) (Jx := Jx) (s := (D1 && !b1)) (d := D2) (len := ((nb (gW g) (gH g) p).map nC).length) hA1.1 hA1.2 (hk2) hp2 hq2; VO.lg rfl rfl (GD.nt _ _) (fun hg => LO.not (.g hg rfl)) rfl<|VO.lg rfl rfl (GD.f _) (fun hg => LO.pkA (.g hg rfl) rfl (and_e hg) (.r rfl)) rfl<|VO.l (LO.pkO (.r rfl) (.r rfl) rfl rfl) rfl<|VO.l (LO.mv (.r rfl)) rfl<|VO.lg rfl rfl (GD.f _) (fun hg => LO.mv (.r rfl)) rfl<|VO.lg rfl rfl (GD.f _) (fun hg => LO.add (.g hg rfl) (.r rfl) (wi (by omega) (by omega))) rfl<|VO.lg rfl rfl (GD.f _) (fun hg => LO.fa (r := 3) F23_3 (.r rfl) rfl) rfl<|VO.lg rfl rfl (GD.f _) (fun hg => LO.ld (v := .int .i64 g.wide) O3 (.g hg rfl) (fun _ hw => sub_cells (off := 3) (hCap _ _ _ (hA2.1 (nN hg)) (St.inv hw 0 _ rfl)).g ⟨_, rfl⟩)) rfl<|VO.lg rfl rfl (GD.f _) (fun hg => LO.eqv (v' := .bool D3) (LO.lt (.g hg rfl) (.g hg rfl)) (by rw [hD3]; exact dlt rfl hW.symm)) rfl<|VO.lg rfl rfl (GD.f _) (fun hg => LO.mv (.g hg rfl)) rfl<|VO.lg rfl rfl (GD.nt _ _) (fun hg => LO.mv (.r rfl)) rfl<|VO.lg rfl rfl (GD.nt _ _) (fun hg => LO.ld O3 (.r rfl) (fun _ hw => (hCap _ _ _ (hA2.1 (nS hg)) (St.inv hw 0 _ rfl)).p)) rfl<|VO.lg rfl rfl (GD.nt _ _) (fun hg => LO.add (.g hg rfl) (.r rfl) (wi (by omega) (by omega))) rfl<|yg2 0 (r := r2) (vs := [_]) (post := fun b r' => if b = true then J ((0 + D1.toNat + D2.toNat) + 1) r' else Jx ((0 + D1.toNat + D2.toNat) + 1) r') rfl rfl (GD.nt _ _) rfl (fun hg => .g hg rfl) (fun hg => ⟨.g hg rfl, trivial⟩) rfl (fun hg w2 hi hr hs => hyl ((0 + D1.toNat + D2.toNat)) _ (by rw [hD1, hD2, List.getElem?_map, Nat.zero_add, nb_3 (of_decide_eq_true (hD3 ▸ nT hg))]; rfl) r2 w2 (hA2.1 (nS hg)) hi hr hs) fun b3 r3 hp3 hq3 => have hA3 := stage (J := J) (Jx := Jx) (s := ((D1 && !b1) || (D2 && !b2))) (d := D3) (len := ((nb (gW g) (gH g) p).map nC).length) hA2.1 hA2.2 (hk3) hp3 hq3; VO.lg rfl rfl (GD.nt _ _) (fun hg => LO.not (.g hg rfl)) rfl<|VO.lg rfl rfl (GD.f _) (fun hg => LO.pkA (.g hg rfl) rfl (and_e hg) (.r rfl)) rfl<|VO.l (LO.pkO (.r rfl) (.r rfl) rfl rfl) rfl<|VO.nil ?_)
  refine VE.seqN ?_
  refine VC.cond rfl (fun h49 => ?_) (fun h49 => ?_)
  ·
    obtain ⟨n3, hn3, hx3⟩ := hA3.2 (by simpa using h49)
    have hE := seq_stop (J := J) (xs := ((nb (gW g) (gH g) p).map nC)) hn3 hx3
    refine VC.ret (VE.thenR (VE.res (vs := []) rfl trivial (fun w hw => ?_)))
    exact ⟨rfl, seq_end hE hw⟩
  ·
    have hJ := hA3.1 (by simpa using h49)
    refine VC.skip (VE.seqN ?_)
    refine VC.seq ?_
    refine VC.reg (VO.l (LO.mv (.r rfl)) rfl<|VO.l (LO.add (.r rfl) (.r rfl) (wi (by omega) (by omega))) rfl<|VO.l (LO.fa (r := 4) F23_4 (.r rfl) rfl) rfl<|VO.l (LO.ld O3 (.r rfl) (fun _ hw => sub_cells (off := 4) (hCap _ _ _ hJ (St.inv hw 0 _ rfl)).g ⟨_, rfl⟩)) rfl<|VO.l (LO.eqv (v' := .bool D4) (LO.lt (.r rfl) (.r rfl)) (by rw [hD4]; exact dlt rfl hH.symm)) rfl<|VO.nil ?_)
    refine VE.seqN ?_
    refine VC.cond rfl (fun h54 => ?_) (fun h54 => ?_)
    ·
      refine VC.reg (VO.l (LO.mv (.r rfl)) rfl<|VO.l (LO.ld O3 (.r rfl) (fun _ hw => sub_cells (off := 0) (hCap _ _ _ hJ (St.inv hw 0 _ rfl)).p ⟨_, rfl⟩)) rfl<|VO.l (LO.fa (r := 3) F23_3 (.r rfl) rfl) rfl<|VO.l (LO.ld O3 (.r rfl) (fun _ hw => sub_cells (off := 3) (hCap _ _ _ hJ (St.inv hw 0 _ rfl)).g ⟨_, rfl⟩)) rfl<|VO.l (LO.add (.r rfl) (.r rfl) (wi (by omega) (by omega))) rfl<|VO.h rfl<|HO.yield 0 (r := r3) (vs := [_]) (post := fun b r' => if b = true then J (0 + D1.toNat + D2.toNat + D3.toNat + 1) r' else Jx (0 + D1.toNat + D2.toNat + D3.toNat + 1) r') (.r rfl) ⟨.r rfl, trivial⟩ rfl (fun w2 hi hr hs => hyl (0 + D1.toNat + D2.toNat + D3.toNat) _ (by rw [hD1, hD2, hD3, List.getElem?_map, Nat.zero_add, nb_4 (of_decide_eq_true (hD4 ▸ h54))]; show some [Value.int .i64 ((p + gW g : Nat) : Int)] = some [Value.int .i64 ((p : Int) + g.wide)]; rw [← hW]; rfl) r3 w2 hJ hi hr hs) fun b4 r4 hp4 => VO.nil ?_)
      have hE : J ((nb (gW g) (gH g) p).map nC).length r4 ∨ ∃ n, n ≤ ((nb (gW g) (gH g) p).map nC).length ∧ Jx n r4 := by
        have e4 : 0 + D1.toNat + D2.toNat + D3.toNat + 1 = ((nb (gW g) (gH g) p).map nC).length := by rw [hlen, show D4 = true from h54]; simp only [Bool.toNat_true]; omega
        rw [e4] at hp4
        cases b4 with
        | true => rw [if_pos rfl] at hp4; exact .inl hp4
        | false => rw [if_neg (by decide)] at hp4; exact .inr ⟨_, Nat.le_refl _, hp4⟩
      refine VE.resN (vs := []) rfl trivial (fun w hw => ?_)
      exact ⟨rfl, seq_end hE hw⟩
    ·
      have hE := seq_full (J := J) (Jx := Jx) (xs := ((nb (gW g) (gH g) p).map nC)) (r := r3) (by rw [hlen, show D4 = false by simpa using h54]; simp only [Bool.toNat_false, Nat.add_zero]; rw [Nat.zero_add] at hJ; exact hJ)
      refine VC.skip (VE.resN (vs := []) rfl trivial (fun w hw => ?_))
      exact ⟨rfl, seq_end hE hw⟩

end Go.Proofs.Ytgemekpofpoopaa

namespace Go.Cell
set_option linter.unusedVariables false
section
variable (W H : Nat) (S : Nat → Bool)
/-- The number of a pixel's part while the pixels of 'l' are given the next number. -/
def ofV (p : Nat) (l : List Nat) (q : Nat) : Int := if q ∈ l then ((partsTo W H S p).length : Int) else idxL (partsTo W H S p) q
def ofA (p : Nat) (l : List Nat) : List Int := (List.range (W * H)).map (ofV W H S p l)
end
section
variable {W H : Nat} {S : Nat → Bool} {p q r : Nat} {l : List Nat}
theorem ofA_len : (ofA W H S p l).length = W * H := by unfold ofA; simp
theorem ofA_get (h : q < W * H) : (ofA W H S p l)[q]? = some (ofV W H S p l q) := by
  unfold ofA; rw [List.getElem?_map, List.getElem?_range h]; rfl
theorem ofA_zero : List.replicate (W * H) (-1 : Int) = ofA W H S 0 [] := by
  refine List.ext_getElem? fun q => ?_
  by_cases h : q < W * H
  · rw [ofA_get h, List.getElem?_replicate, if_pos h]; simp [ofV, partsTo, idxL]
  · rw [List.getElem?_eq_none (by simpa using h), List.getElem?_eq_none (by rw [ofA_len]; omega)]
theorem ofA_set (hr : r < W * H) : (ofA W H S p l).set r ((partsTo W H S p).length : Int) = ofA W H S p (l ++ [r]) := by
  refine List.ext_getElem? fun q => ?_
  by_cases h : q < W * H
  · rw [ofA_get h, List.getElem?_set]
    by_cases e : r = q
    · subst e
      rw [if_pos rfl, if_pos (by rw [ofA_len]; exact h)]
      unfold ofV; rw [if_pos (by simp)]
    · rw [if_neg e, ofA_get h]
      unfold ofV
      have : (q ∈ l ++ [r]) ↔ q ∈ l := by simp; intro z; exact absurd z.symm e
      by_cases z : q ∈ l
      · rw [if_pos z, if_pos (this.2 z)]
      · rw [if_neg z, if_neg (fun y => z (this.1 y))]
  · rw [List.getElem?_eq_none (by rw [List.length_set, ofA_len]; omega), List.getElem?_eq_none (by rw [ofA_len]; omega)]
/-- A pixel that begins no new part. -/
theorem of_old (hp : p < W * H) (h : 0 ≤ ofV W H S p [] p ∨ S p = false) : partsTo W H S (p + 1) = partsTo W H S p := by
  refine partsTo_old fun ⟨h1, h2⟩ => ?_
  rcases h with h | h
  · unfold ofV at h
    rw [if_neg (by simp), idx_neg h2] at h
    omega
  · rw [h] at h1; cases h1
theorem ofA_old (h : partsTo W H S (p + 1) = partsTo W H S p) : ofA W H S (p + 1) [] = ofA W H S p [] := by unfold ofA ofV; rw [h]
/-- One that begins a new part. -/
theorem of_new (h : ¬ 0 ≤ ofV W H S p [] p) : ∀ l, l ∈ partsTo W H S p → p ∉ l := by
  unfold ofV at h
  rw [if_neg (by simp)] at h
  exact idx_neg_iff.1 (by omega)
/-- What holds of the list of a part's pixels found so far, of which so many have been looked at. -/
structure WL (W H : Nat) (S : Nat → Bool) (p : Nat) (l : List Nat) (i : Nat) : Prop where
  nod : l.Nodup
  mem : ∀ q, q ∈ l → q < W * H ∧ Cn W H S p q
  self : p ∈ l
  cl : ∀ (j q r : Nat), j < i → l[j]? = some q → r ∈ nb W H q → S r = true → r ∈ l
  le : i ≤ l.length
theorem WL.one (hp : p < W * H) (hs : S p = true) : WL W H S p [p] 0 := ⟨by simp, fun q hq => by simp at hq; subst hq; exact ⟨hp, .refl hs⟩, by simp, fun j q r hj => absurd hj (Nat.not_lt_zero _), Nat.zero_le _⟩
theorem WL.len {i : Nat} (h : WL W H S p l i) : l.length ≤ W * H := by
  have := length_le_of_subset (m := List.range (W * H)) h.nod (fun x hx => List.mem_range.2 (h.mem x hx).1)
  simpa using this
theorem WL.full (h : WL W H S p l l.length) (hp : p < W * H) (hs : S p = true) : ∀ q, q ∈ l ↔ q ∈ compL W H S p := fun q => by
  rw [mem_compL hp hs]
  refine ⟨fun z => (h.mem q z).2, fun z => ?_⟩
  refine z.closed (X := fun x => x ∈ l) h.self fun a b ha hb hS => ?_
  obtain ⟨j, hj⟩ := List.mem_iff_getElem?.1 ha
  exact h.cl j a b (List.getElem?_eq_some_iff.1 hj).1 hj hb hS
theorem ofA_next (hp : p < W * H) (hs : S p = true) (hn : ∀ l, l ∈ partsTo W H S p → p ∉ l) (h : ∀ q, q ∈ l ↔ q ∈ compL W H S p) : ofA W H S p l = ofA W H S (p + 1) [] := by
  unfold ofA
  refine List.map_congr_left fun q hq => ?_
  have hq := List.mem_range.1 hq
  have e2 : ofV W H S (p + 1) [] q = if idxL (partsTo W H S p) q = -1 then (if q ∈ compL W H S p then ((partsTo W H S p).length : Int) else -1) else idxL (partsTo W H S p) q := by
    unfold ofV
    rw [if_neg (by simp), partsTo_new hs hn, idx_app]
  rw [e2]
  unfold ofV
  by_cases z : q ∈ l
  · rw [if_pos z]
    have z2 := (h q).1 z
    have hno : ∀ m, m ∈ partsTo W H S p → q ∉ m := fun m hm hqm => by
      have h1 := (mem_compL hp hs).1 z2
      obtain ⟨_,_, h2,_⟩ := parts_cn (Nat.le_of_lt hp) hm hqm
      exact hn m hm ((h2 p).2 (h1.symm hp))
    rw [if_pos (idx_neg hno), if_pos z2]
  · rw [if_neg z]
    by_cases y : idxL (partsTo W H S p) q = -1
    · rw [if_pos y, if_neg (fun z2 => z ((h q).2 z2)), y]
    · rw [if_neg y]
/-- The neighbors of one pixel are looked at, one by one. -/
structure WN (W H : Nat) (S : Nat → Bool) (p : Nat) (l : List Nat) (q k : Nat) (m : List Nat) : Prop where
  nod : m.Nodup
  mem : ∀ z, z ∈ m → z < W * H ∧ Cn W H S p z
  pre : ∃ t, m = l ++ t
  dn : ∀ (j r : Nat), j < k → (nb W H q)[j]? = some r → S r = true → r ∈ m
theorem WN.zero {i : Nat} (h : WL W H S p l i) : WN W H S p l q 0 l := ⟨h.nod, h.mem, ⟨[], by simp⟩, fun j r hj => absurd hj (Nat.not_lt_zero _)⟩
theorem WN.len {k : Nat} {m : List Nat} (h : WN W H S p l q k m) : m.length ≤ W * H := by
  have := length_le_of_subset (m := List.range (W * H)) h.nod (fun x hx => List.mem_range.2 (h.mem x hx).1)
  simpa using this
/-- A neighbor that is not taken. -/
theorem WN.skip {k : Nat} {m : List Nat} (h : WN W H S p l q k m) (hr : (nb W H q)[k]? = some r) (hx : S r = true → r ∈ m) : WN W H S p l q (k + 1) m := by
  refine ⟨h.nod, h.mem, h.pre, fun j z hj hz hs => ?_⟩
  rcases Nat.lt_or_ge j k with y | y
  · exact h.dn j z y hz hs
  · have : j = k := by omega
    subst this
    rw [hr] at hz; cases hz
    exact hx hs
/-- One that is taken. -/
theorem WN.take {k i : Nat} {m : List Nat} (h : WN W H S p l q k m) (h0 : WL W H S p l i) (hi : l[i]? = some q) (hr : (nb W H q)[k]? = some r) (hx : r ∉ m) (hs : S r = true) : WN W H S p l q (k + 1) (m ++ [r]) := by
  have hq := h0.mem q (List.mem_of_getElem? hi)
  have hrn := List.mem_of_getElem? hr
  obtain ⟨t, ht⟩ := h.pre
  refine ⟨List.nodup_append.2 ⟨h.nod, by simp, fun a ha b hb => by simp at hb; subst hb; intro e; subst e; exact hx ha⟩, fun z hz => ?_, ⟨t ++ [r], by rw [ht, List.append_assoc]⟩, fun j z hj hz hS => ?_⟩
  · rcases List.mem_append.1 hz with y | y
    · exact h.mem z y
    · simp at y; subst y; exact ⟨nb_lt hq.1 hrn, .step hq.2 hrn hs⟩
  · rcases Nat.lt_or_ge j k with y | y
    · exact List.mem_append_left _ (h.dn j z y hz hS)
    · have : j = k := by omega
      subst this
      rw [hr] at hz; cases hz
      simp
/-- Whether a neighbor has no number yet. -/
theorem of_neg {k i : Nat} {m : List Nat} (h : WN W H S p l q k m) (h0 : WL W H S p l i) (hp : p < W * H) (hi : l[i]? = some q) (hr : (nb W H q)[k]? = some r) (hn : ∀ l, l ∈ partsTo W H S p → p ∉ l) (hs : S r = true) : ofV W H S p m r < 0 ↔ r ∉ m := by
  have hq := h0.mem q (List.mem_of_getElem? hi)
  have hrn := List.mem_of_getElem? hr
  unfold ofV
  by_cases z : r ∈ m
  · rw [if_pos z]; exact ⟨fun y => by omega, fun y => absurd z y⟩
  · rw [if_neg z]
    refine ⟨fun _ => z, fun _ => ?_⟩
    refine idx_neg_iff.2 fun x hx hrx => ?_
    obtain ⟨_,_, h2,_⟩ := parts_cn (Nat.le_of_lt hp) hx hrx
    have hc : Cn W H S p r := .step hq.2 hrn hs
    exact hn x hx ((h2 p).2 (hc.symm hp))
theorem WN.done {k i : Nat} {m : List Nat} (h : WN W H S p l q k m) (h0 : WL W H S p l i) (hi : l[i]? = some q) (hk : (nb W H q).length ≤ k) : WL W H S p m (i + 1) := by
  obtain ⟨t, ht⟩ := h.pre
  have hil := (List.getElem?_eq_some_iff.1 hi).1
  refine ⟨h.nod, h.mem, by rw [ht]; exact List.mem_append_left _ h0.self, fun j z r hj hz hr hs => ?_, by rw [ht, List.length_append]; omega⟩
  rcases Nat.lt_or_ge j i with y | y
  · rw [ht, List.getElem?_append_left (by omega)] at hz
    rw [ht]; exact List.mem_append_left _ (h0.cl j z r y hz hr hs)
  · have : j = i := by omega
    subst this
    rw [ht, List.getElem?_append_left hil, hi] at hz; cases hz
    obtain ⟨n, hn⟩ := List.mem_iff_getElem?.1 hr
    exact h.dn n r (by have := (List.getElem?_eq_some_iff.1 hn).1; omega) hn hs
end
end Go.Cell

namespace Go.SL
set_option linter.unusedVariables false
section
variable {P : Program} {ro : Option Nat} {β : Bs} {N : Nat} {ds : List Deferred} {env : Env} {L : List Res} {Q : Exit → Act → World → Prop} {w v : World}
theorem VC.rebaseO {Lk Lf : List Res} {c : Code} (h : ∀ w1, St β (Lk ++ Lf) w1 → VC P ro ⟨w1, fpL Lk⟩ N ds env Lk c Q) : VC P ro β N ds env (Lk ++ Lf) c Q := fun a w ha hw => h w hw a w ha (hw.has (List.sublist_append_left _ _))
/-- What was in hand at a base, and what lay there. -/
theorem St.fz {R rest : List Res} (h : St β (R ++ rest) w) (hs : St ⟨w, fpL R⟩ L v) : St β (L ++ rest) v := h.callG (fun k hk => hk) hs
theorem St.rightOf {A B : List Res} (h : St β (A ++ B) w) : St β B w := h.map (fun j => A.length + j) (fun a b hab _ _ => by omega) (fun j r hr => .inr (by rw [List.getElem?_append_right (by omega), show A.length + j - A.length = j by omega]; exact hr))
variable {α : Type} {f : α → Res} {as_ : List α} {a : α} {i : Nat}
theorem St.focusAt (h : St β (Go.SL.bagD (as_.map f) :: L) w) (hi : as_[i]? = some a) : St β (f a :: Go.SL.bagD ((as_.eraseIdx i).map f) :: L) w := by
  obtain ⟨hl, rfl⟩ := List.getElem?_eq_some_iff.1 hi
  have e : as_.map f = (as_.take i).map f ++ f as_[i] :: (as_.drop (i + 1)).map f := by
    rw [← List.map_cons, ← List.map_append, ← List.drop_eq_getElem_cons hl, List.take_append_drop]
  rw [e] at h
  have h2 := St.focus h
  rw [List.eraseIdx_eq_take_drop_succ, List.map_append]
  exact h2
theorem St.unfocusAt (h : St β (f a :: Go.SL.bagD ((as_.eraseIdx i).map f) :: L) w) (hl : i < as_.length) : St β (Go.SL.bagD ((as_.set i a).map f) :: L) w := by
  rw [List.eraseIdx_eq_take_drop_succ, List.map_append] at h
  have h2 := St.unfocus h
  have e : (as_.set i a).map f = (as_.take i).map f ++ f a :: (as_.drop (i + 1)).map f := by
    rw [List.set_eq_take_append_cons_drop, if_pos hl, List.map_append, List.map_cons]
  rw [e]
  exact h2
end
end Go.SL

namespace Go.Cell
set_option linter.unusedVariables false
/-- A way from 'p' to a pixel, through pixels that may be in, and how many of them are not surely in. -/
inductive Gp (W H : Nat) (M : Nat → Bool) (C : Nat → Nat) (p : Nat) : Nat → Nat → Prop
  | start : M p = true → Gp W H M C p (C p) p
  | step {c q r : Nat} : Gp W H M C p c q → r ∈ nb W H q → M r = true → Gp W H M C p (c + C r) r
/-- The gap: the least number, or -1. -/
def IsGap (W H : Nat) (M : Nat → Bool) (C : Nat → Nat) (p q : Nat) (c : Int) : Prop := (c = -1 ∧ ∀ n, ¬ Gp W H M C p n q) ∨ ∃ n : Nat, c = n ∧ Gp W H M C p n q ∧ ∀ m, Gp W H M C p m q → n ≤ m
/-- How many numbers are below 0. -/
def unset (ls : List Int) : Nat := (ls.filter fun x => decide (x < 0)).length
theorem unset_set : ∀ {ls : List Int} {r : Nat} {v : Int}, r < ls.length → ls.getD r (-1) < 0 → 0 ≤ v → unset (ls.set r v) + 1 = unset ls
  | [], r, v, h,_,_ => by simp at h
  | x :: ls, 0, v,_, hx, hv => by
    have hx : x < 0 := hx
    unfold unset
    rw [List.set_cons_zero, List.filter_cons, List.filter_cons, if_neg (by simpa using hv), if_pos (by simpa using hx)]
    rfl
  | x :: ls, r + 1, v, h, hx, hv => by
    have ih := unset_set (ls := ls) (r := r) (v := v) (by simpa using h) hx hv
    unfold unset at *
    rw [List.set_cons_succ, List.filter_cons, List.filter_cons]
    split
    · simp only [List.length_cons]; omega
    · exact ih
section
variable {W H : Nat} {M : Nat → Bool} {C : Nat → Nat} {p n q : Nat}
theorem Gp.may (h : Gp W H M C p n q) : M q = true := by cases h with | start h => exact h | step _ _ h => exact h
theorem Gp.lt (hp : p < W * H) (h : Gp W H M C p n q) : q < W * H := by induction h with | start _ => exact hp | step _ h _ ih => exact nb_lt ih h
end
/-- What holds of a number that is looked for. -/
def Pend (n : Nat) (ls : List Int) (now next : List Nat) (e t : Nat) : Prop := (0 ≤ ls.getD t (-1) ∧ ls.getD t (-1) ≤ e) ∨ (e = n ∧ t ∈ now) ∨ (e = n + 1 ∧ t ∈ next)
structure GI (W H : Nat) (M : Nat → Bool) (C : Nat → Nat) (p n : Nat) (ls : List Int) (now next : List Nat) (X : Nat → Nat → Prop) : Prop where
  len : ls.length = W * H
  set : ∀ r, r < W * H → 0 ≤ ls.getD r (-1) → ∃ d : Nat, ls.getD r (-1) = d ∧ d ≤ n ∧ Gp W H M C p d r
  neg : ∀ r, r < W * H → -1 ≤ ls.getD r (-1)
  now_ : ∀ r, r ∈ now → r < W * H ∧ Gp W H M C p n r
  nxt : ∀ r, r ∈ next → r < W * H ∧ Gp W H M C p (n + 1) r
  cl : ∀ (r t d : Nat), r < W * H → ls.getD r (-1) = d → t ∈ nb W H r → M t = true → ¬ X r t → Pend n ls now next (d + C t) t
  st : Pend n ls now next (C p) p
  bd : 5 * unset ls + now.length + next.length ≤ 5 * (W * H) + 1
def X0 : Nat → Nat → Prop := fun _ _ => False
/-- The neighbors of 'r' from the k-th one on are not looked at. -/
def XN (W H r k : Nat) : Nat → Nat → Prop := fun a t => a = r ∧ ¬ ∃ j, j < k ∧ (nb W H r)[j]? = some t
section
variable {W H : Nat} {M : Nat → Bool} {C : Nat → Nat} {p n r : Nat} {ls : List Int} {now next : List Nat} {X : Nat → Nat → Prop}
theorem getD_rep {m : Nat} {r : Nat} : (List.replicate m (-1 : Int)).getD r (-1) = -1 := by
  rw [List.getD_eq_getElem?_getD, List.getElem?_replicate]; split <;> rfl
theorem unset_rep {m : Nat} : unset (List.replicate m (-1 : Int)) = m := by
  unfold unset
  rw [List.filter_replicate]
  simp
theorem GI.init0 (hp : p < W * H) (hM : M p = true) (hC : C p = 0) : GI W H M C p 0 (List.replicate (W * H) (-1)) [p] [] X0 := by
  refine ⟨by simp, fun r _ h => by rw [getD_rep] at h; omega, fun r _ => by rw [getD_rep]; omega, fun r hr => ?_, fun r hr => (by cases hr), fun r t d _ h => by rw [getD_rep] at h; omega, .inr (.inl ⟨hC, by simp⟩), by rw [unset_rep]; simp⟩
  simp at hr; subst hr
  exact ⟨hp, hC ▸ .start hM⟩
theorem GI.init1 (hp : p < W * H) (hM : M p = true) (hC : C p = 1) : GI W H M C p 0 (List.replicate (W * H) (-1)) [] [p] X0 := by
  refine ⟨by simp, fun r _ h => by rw [getD_rep] at h; omega, fun r _ => by rw [getD_rep]; omega, fun r hr => (by cases hr), fun r hr => ?_, fun r t d _ h => by rw [getD_rep] at h; omega, .inr (.inr ⟨hC, by simp⟩), by rw [unset_rep]; simp⟩
  simp at hr; subst hr
  exact ⟨hp, by have := Gp.start (W := W) (H := H) (C := C) hM; rw [hC] at this; exact this⟩
/-- One that has a number is dropped. -/
theorem GI.skip (h : GI W H M C p n ls (now ++ [r]) next X) (hr : 0 ≤ ls.getD r (-1)) : GI W H M C p n ls now next X := by
  have hrn := h.now_ r (by simp)
  obtain ⟨d, hd, hdn,_⟩ := h.set r hrn.1 hr
  have pd : ∀ e t, Pend n ls (now ++ [r]) next e t → Pend n ls now next e t := fun e t k => by
    rcases k with k | ⟨k1, k2⟩ | k
    · exact .inl k
    · rcases List.mem_append.1 k2 with z | z
      · exact .inr (.inl ⟨k1, z⟩)
      · simp at z; subst z
        exact .inl ⟨hr, by omega⟩
    · exact .inr (.inr k)
  have hb := h.bd
  rw [List.length_append] at hb
  exact ⟨h.len, h.set, h.neg, fun a ha => h.now_ a (by simp [ha]), h.nxt, fun a t d h1 h2 h3 h4 h5 => pd _ _ (h.cl a t d h1 h2 h3 h4 h5), pd _ _ h.st, by simp at hb; omega⟩
theorem getD_set {ls : List Int} {r t : Nat} {v : Int} (hr : r < ls.length) : (ls.set r v).getD t (-1) = if r = t then v else ls.getD t (-1) := by
  rw [List.getD_eq_getElem?_getD, List.getD_eq_getElem?_getD, List.getElem?_set]
  by_cases e : r = t
  · subst e; rw [if_pos rfl, if_pos rfl, if_pos hr]; rfl
  · rw [if_neg e, if_neg e]
/-- One that has none gets this one. -/
theorem GI.put (h : GI W H M C p n ls (now ++ [r]) next X0) (hr : ls.getD r (-1) < 0) : GI W H M C p n (ls.set r n) now next (XN W H r 0) ∧ unset (ls.set r (n : Int)) + 1 = unset ls := by
  have hrn := h.now_ r (by simp)
  have hrl : r < ls.length := by rw [h.len]; exact hrn.1
  have hu := unset_set hrl hr (v := (n : Int)) (Int.natCast_nonneg _)
  have pd : ∀ e t, Pend n ls (now ++ [r]) next e t → Pend n (ls.set r n) now next e t := fun e t k => by
    unfold Pend
    rw [getD_set hrl]
    by_cases z : r = t
    · subst z
      rw [if_pos rfl]
      rcases k with ⟨k1,_⟩ | ⟨k1,_⟩ | ⟨k1,_⟩
      · omega
      · exact .inl ⟨by omega, by omega⟩
      · exact .inl ⟨by omega, by omega⟩
    · rw [if_neg z]
      rcases k with k | ⟨k1, k2⟩ | k
      · exact .inl k
      · rcases List.mem_append.1 k2 with y | y
        · exact .inr (.inl ⟨k1, y⟩)
        · simp at y; exact absurd y.symm z
      · exact .inr (.inr k)
  have hb := h.bd
  rw [List.length_append] at hb
  refine ⟨⟨by rw [List.length_set]; exact h.len, fun a ha k => ?_, fun a ha => ?_, fun a ha => h.now_ a (by simp [ha]), h.nxt, fun a t d h1 h2 h3 h4 h5 => ?_, pd _ _ h.st, by simp at hb; omega⟩, hu⟩
  · rw [getD_set hrl] at k ⊢
    by_cases z : r = a
    · subst z; rw [if_pos rfl]; exact ⟨n, rfl, Nat.le_refl _, hrn.2⟩
    · rw [if_neg z] at k ⊢; exact h.set a ha k
  · rw [getD_set hrl]
    split
    · omega
    · exact h.neg a ha
  · rw [getD_set hrl] at h2
    by_cases z : r = a
    · exfalso; exact h5 ⟨z.symm, fun ⟨j, hj,_⟩ => absurd hj (Nat.not_lt_zero _)⟩
    · rw [if_neg z] at h2; exact pd _ _ (h.cl a t d h1 h2 h3 h4 (fun f => f))
theorem xn_step {r k t a x : Nat} (ht : (nb W H r)[k]? = some t) (h : ¬ XN W H r (k + 1) a x) : ¬ XN W H r k a x ∨ (a = r ∧ x = t) := by
  by_cases z : XN W H r k a x
  · right
    obtain ⟨h1, h2⟩ := z
    refine ⟨h1, ?_⟩
    have h3 : ∃ j, j < k + 1 ∧ (nb W H r)[j]? = some x := Classical.byContradiction fun y => h ⟨h1, y⟩
    obtain ⟨j, hj, hx⟩ := h3
    have : j = k := by
      rcases Nat.lt_or_ge j k with y | y
      · exact absurd ⟨j, y, hx⟩ h2
      · omega
    subst this
    rw [ht] at hx; exact (Option.some.inj hx).symm
  · exact .inl z
/-- A neighbor is passed over. -/
theorem GI.nbSkip {k t : Nat} (h : GI W H M C p n ls now next (XN W H r k)) (hr : r < W * H) (hrd : ls.getD r (-1) = n) (ht : (nb W H r)[k]? = some t) (hx : ¬ (M t = true ∧ ls.getD t (-1) < 0)) : GI W H M C p n ls now next (XN W H r (k + 1)) := by
  refine ⟨h.len, h.set, h.neg, h.now_, h.nxt, fun a x d h1 h2 h3 h4 h5 => ?_, h.st, h.bd⟩
  rcases xn_step ht h5 with z | ⟨rfl, rfl⟩
  · exact h.cl a x d h1 h2 h3 h4 z
  · have hge : 0 ≤ ls.getD x (-1) := by
      rcases Int.lt_or_le (ls.getD x (-1)) 0 with y | y
      · exact absurd ⟨h4, y⟩ hx
      · exact y
    obtain ⟨e, he, hen,_⟩ := h.set x (nb_lt hr (List.mem_of_getElem? ht)) hge
    exact .inl ⟨hge, by rw [he]; omega⟩
/-- A neighbor that is in goes to the front, another one behind. -/
theorem GI.nbNow {k t : Nat} (h : GI W H M C p n ls now next (XN W H r k)) (hb : 5 * unset ls + now.length + next.length + 1 ≤ 5 * (W * H) + 1) (hr : r < W * H) (hrd : ls.getD r (-1) = n) (ht : (nb W H r)[k]? = some t) (hM : M t = true) (hC : C t = 0) : GI W H M C p n ls (now ++ [t]) next (XN W H r (k + 1)) := by
  obtain ⟨d, hd, hdn, hg⟩ := h.set r hr (by rw [hrd]; omega)
  have hdn2 : d = n := by rw [hrd] at hd; omega
  subst hdn2
  have hgt : Gp W H M C p d t := by have := Gp.step hg (List.mem_of_getElem? ht) hM; rw [hC] at this; exact this
  have pd : ∀ e x, Pend d ls now next e x → Pend d ls (now ++ [t]) next e x := fun e x k => by
    rcases k with k | ⟨k1, k2⟩ | k
    · exact .inl k
    · exact .inr (.inl ⟨k1, List.mem_append_left _ k2⟩)
    · exact .inr (.inr k)
  refine ⟨h.len, h.set, h.neg, fun a ha => ?_, h.nxt, fun a x e h1 h2 h3 h4 h5 => ?_, pd _ _ h.st, by rw [List.length_append]; simp; omega⟩
  · rcases List.mem_append.1 ha with z | z
    · exact h.now_ a z
    · simp at z; subst z; exact ⟨nb_lt hr (List.mem_of_getElem? ht), hgt⟩
  · rcases xn_step ht h5 with z | ⟨rfl, rfl⟩
    · exact pd _ _ (h.cl a x e h1 h2 h3 h4 z)
    · have : e = d := by rw [hrd] at h2; omega
      subst this
      exact .inr (.inl ⟨by omega, by simp⟩)
theorem GI.nbNext {k t : Nat} (h : GI W H M C p n ls now next (XN W H r k)) (hb : 5 * unset ls + now.length + next.length + 1 ≤ 5 * (W * H) + 1) (hr : r < W * H) (hrd : ls.getD r (-1) = n) (ht : (nb W H r)[k]? = some t) (hM : M t = true) (hC : C t = 1) : GI W H M C p n ls now (next ++ [t]) (XN W H r (k + 1)) := by
  obtain ⟨d, hd, hdn, hg⟩ := h.set r hr (by rw [hrd]; omega)
  have hdn2 : d = n := by rw [hrd] at hd; omega
  subst hdn2
  have hgt : Gp W H M C p (d + 1) t := by have := Gp.step hg (List.mem_of_getElem? ht) hM; rw [hC] at this; exact this
  have pd : ∀ e x, Pend d ls now next e x → Pend d ls now (next ++ [t]) e x := fun e x k => by
    rcases k with k | k | ⟨k1, k2⟩
    · exact .inl k
    · exact .inr (.inl k)
    · exact .inr (.inr ⟨k1, List.mem_append_left _ k2⟩)
  refine ⟨h.len, h.set, h.neg, h.now_, fun a ha => ?_, fun a x e h1 h2 h3 h4 h5 => ?_, pd _ _ h.st, by rw [List.length_append]; simp; omega⟩
  · rcases List.mem_append.1 ha with z | z
    · exact h.nxt a z
    · simp at z; subst z; exact ⟨nb_lt hr (List.mem_of_getElem? ht), hgt⟩
  · rcases xn_step ht h5 with z | ⟨rfl, rfl⟩
    · exact pd _ _ (h.cl a x e h1 h2 h3 h4 z)
    · have : e = d := by rw [hrd] at h2; omega
      subst this
      exact .inr (.inr ⟨by omega, by simp⟩)
theorem GI.nbDone {k : Nat} (h : GI W H M C p n ls now next (XN W H r k)) (hk : (nb W H r).length ≤ k) : GI W H M C p n ls now next X0 := by
  refine ⟨h.len, h.set, h.neg, h.now_, h.nxt, fun a x e h1 h2 h3 h4 h5 => ?_, h.st, h.bd⟩
  refine h.cl a x e h1 h2 h3 h4 fun ⟨z1, z2⟩ => ?_
  subst z1
  obtain ⟨j, hj⟩ := List.mem_iff_getElem?.1 h3
  exact z2 ⟨j, by have := (List.getElem?_eq_some_iff.1 hj).1; omega, hj⟩
/-- The next round. -/
theorem GI.swap (h : GI W H M C p n ls [] next X0) : GI W H M C p (n + 1) ls next [] X0 := by
  have pd : ∀ e x, Pend n ls [] next e x → Pend (n + 1) ls next [] e x := fun e x k => by
    rcases k with k | ⟨_, k2⟩ | ⟨k1, k2⟩
    · exact .inl k
    · cases k2
    · exact .inr (.inl ⟨k1, k2⟩)
  refine ⟨h.len, fun r h1 h2 => ?_, h.neg, h.nxt, fun r hr => (by cases hr), fun a x e h1 h2 h3 h4 h5 => pd _ _ (h.cl a x e h1 h2 h3 h4 h5), pd _ _ h.st, by have := h.bd; simp at this ⊢; omega⟩
  obtain ⟨d, hd, hn, hg⟩ := h.set r h1 h2
  exact ⟨d, hd, by omega, hg⟩
theorem GI.fin (h : GI W H M C p n ls [] [] X0) (hp : p < W * H) {c q : Nat} (hg : Gp W H M C p c q) : 0 ≤ ls.getD q (-1) ∧ ls.getD q (-1) ≤ c := by
  induction hg with
  | start _ =>
    rcases h.st with k | ⟨_, k⟩ | ⟨_, k⟩
    · exact k
    · cases k
    · cases k
  | step hq hr hM ih =>
    obtain ⟨d, hd,_,_⟩ := h.set _ (hq.lt hp) ih.1
    rcases h.cl _ _ d (hq.lt hp) hd hr hM (fun f => f) with k | ⟨_, k⟩ | ⟨_, k⟩
    · exact ⟨k.1, by omega⟩
    · cases k
    · cases k
theorem GI.gap (h : GI W H M C p n ls [] [] X0) (hp : p < W * H) {q : Nat} (hq : q < W * H) : IsGap W H M C p q (ls.getD q (-1)) := by
  rcases Int.lt_or_le (ls.getD q (-1)) 0 with z | z
  · left
    have := h.neg q hq
    exact ⟨by omega, fun n hg => by have := h.fin hp hg; omega⟩
  · right
    obtain ⟨d, hd,_, hg⟩ := h.set q hq z
    exact ⟨d, hd, hg, fun m hm => by have := h.fin hp hm; omega⟩
end
end Go.Cell

namespace Go.SL
set_option linter.unusedVariables false
open Go.RowKit

/-- What can be a key. -/
structure KeyE {α : Type} (P : Program) (K : TypeId) (kE : α → Value) : Prop where
  inj : ∀ {a b : α}, kE a = kE b → a = b
  chk : ∀ (e : Bool) (n : Nat) (a : α) (w : World), (Instr.checkKey e (n + 2) K (kE a)).run P w = .ok () w
  find : ∀ (n : α) (es : List MapEntry) (w : World), (∀ e, e ∈ es → ∃ m, e.key = kE m) →
    (∃ j e, (Instr.findKey K (kE n) es).run P w = .ok (some (j, e.val)) w ∧ es[j]? = some e ∧ e.key = kE n) ∨ ((Instr.findKey K (kE n) es).run P w = .ok none w ∧ ∀ e, e ∈ es → e.key ≠ kE n)
  bits : ∀ a : α, Instr.sameBits 10000 (kE a) (kE a) = true

section
variable {α δ : Type} {kE : α → Value} {vE : δ → Value}
/-- The entries of a map. -/
structure MapG (kE : α → Value) (vE : δ → Value) (es : List MapEntry) (M : α → Option δ) : Prop where
  ent : ∀ e, e ∈ es → ∃ n v, e.key = kE n ∧ e.val = vE v ∧ M n = some v
  mem : ∀ n v, M n = some v → ∃ e, e ∈ es ∧ e.key = kE n ∧ e.val = vE v
  nod : es.Pairwise fun a b => a.key ≠ b.key
def updG [DecidableEq α] (M : α → Option δ) (n : α) (v : δ) : α → Option δ := fun m => if m = n then some v else M m
def mapR (kE : α → Value) (vE : δ → Value) (b : Nat) (M : α → Option δ) : Res := ⟨fun k => k = b, fun w => ∃ es clock, w.heap[b]? = some (.map es clock) ∧ MapG kE vE es.toList M ∧ Stamps es.toList clock, fun h ⟨es, c, h1, h2⟩ => ⟨es, c, (h b rfl).trans h1, h2⟩⟩
variable {es : List MapEntry} {M : α → Option δ}
theorem mapG_get (hi : ∀ {a b : α}, kE a = kE b → a = b) (h : MapG kE vE es M) {e : MapEntry} {n : α} (he : e ∈ es) (hk : e.key = kE n) : ∃ v, e.val = vE v ∧ M n = some v := by
  obtain ⟨m, v, h1, h2, h3⟩ := h.ent e he
  have : m = n := hi (h1.symm.trans hk)
  subst this
  exact ⟨v, h2, h3⟩
theorem mapG_none (h : MapG kE vE es M) {n : α} (hn : ∀ e, e ∈ es → e.key ≠ kE n) : M n = none := by
  cases q : M n with
  | none => rfl
  | some v => obtain ⟨e, h1, h2,_⟩ := h.mem n v q; exact absurd h2 (hn e h1)
theorem mapG_nil : MapG kE vE [] (fun _ => none) := ⟨fun _ h => (by cases h), fun _ _ h => (by cases h), List.Pairwise.nil⟩
variable [DecidableEq α]
theorem mapG_push (h : MapG kE vE es M) {n : α} {v : δ} {c : Nat} (hn : ∀ e, e ∈ es → e.key ≠ kE n) : MapG kE vE (es ++ [⟨kE n, vE v, c⟩]) (updG M n v) := by
  refine ⟨fun e he => ?_, fun m u hm => ?_, ?_⟩
  · rcases List.mem_append.1 he with q | q
    · obtain ⟨m, u, h1, h2, h3⟩ := h.ent e q
      refine ⟨m, u, h1, h2, ?_⟩
      unfold updG
      rw [if_neg (fun z => hn e q (by rw [h1, z]))]; exact h3
    · have := List.mem_singleton.1 q; subst this
      exact ⟨n, v, rfl, rfl, if_pos rfl⟩
  · unfold updG at hm
    split at hm
    · rename_i q; cases hm; subst q; exact ⟨_, List.mem_append_right _ (List.mem_singleton.2 rfl), rfl, rfl⟩
    · obtain ⟨e, h1, h2, h3⟩ := h.mem m u hm; exact ⟨e, List.mem_append_left _ h1, h2, h3⟩
  · rw [List.pairwise_append]
    refine ⟨h.nod, by simp, fun a ha b hb => ?_⟩
    have := List.mem_singleton.1 hb; subst this
    exact hn a ha
theorem mapG_set (hinj : ∀ {a b : α}, kE a = kE b → a = b) (h : MapG kE vE es M) {j : Nat} {e : MapEntry} {n : α} {v : δ} (hj : es[j]? = some e) (hk : e.key = kE n) : MapG kE vE (es.set j ⟨kE n, vE v, e.born⟩) (updG M n v) := by
  have hjl := (List.getElem?_eq_some_iff.1 hj).1
  have hje := (List.getElem?_eq_some_iff.1 hj).2
  have hkey : ∀ i (h1 : i < (es.set j ⟨kE n, vE v, e.born⟩).length) (h2 : i < es.length), (es.set j ⟨kE n, vE v, e.born⟩)[i].key = es[i].key := fun i h1 h2 => by
    rw [List.getElem_set]
    split
    · rename_i q; subst q; rw [hje, hk]
    · rfl
  have hne : ∀ i, i < es.length → (hi : i < es.length) → i ≠ j → es[i].key ≠ kE n := fun i _ hi hij z => by
    have pw := List.pairwise_iff_getElem.1 h.nod
    rcases Nat.lt_or_gt_of_ne hij with q | q
    · exact pw i j hi hjl q (by rw [z, hje, hk])
    · exact pw j i hjl hi q (by rw [z, hje, hk])
  refine ⟨fun x hx => ?_, fun m u hm => ?_, ?_⟩
  · obtain ⟨i, hi, rfl⟩ := List.getElem_of_mem hx
    have hi2 : i < es.length := by simpa using hi
    by_cases q : j = i
    · subst q
      rw [List.getElem_set_self]
      exact ⟨n, v, rfl, rfl, if_pos rfl⟩
    · rw [List.getElem_set_ne q]
      obtain ⟨m, u, h1, h2, h3⟩ := h.ent _ (List.getElem_mem hi2)
      refine ⟨m, u, h1, h2, ?_⟩
      unfold updG
      rw [if_neg (fun z => hne i hi2 hi2 (fun y => q y.symm) (by rw [h1, z]))]; exact h3
  · unfold updG at hm
    split at hm
    · rename_i q; cases hm; subst q
      exact ⟨_, List.mem_of_getElem? (i := j) (by rw [List.getElem?_set_self hjl]), rfl, rfl⟩
    · rename_i q
      obtain ⟨x, h1, h2, h3⟩ := h.mem m u hm
      obtain ⟨i, hi, rfl⟩ := List.getElem_of_mem h1
      have hij : j ≠ i := fun z => by subst z; rw [hje, hk] at h2; exact q (hinj h2).symm
      exact ⟨_, List.mem_of_getElem? (i := i) (by rw [List.getElem?_set_ne hij, List.getElem?_eq_getElem hi]), h2, h3⟩
  · rw [List.pairwise_iff_getElem]
    intro a b ha hb hab
    rw [hkey a ha (by simpa using ha), hkey b hb (by simpa using hb)]
    exact List.pairwise_iff_getElem.1 h.nod a b _ _ hab
/-- How many entries there are. -/
theorem mapG_size {α : Type} {kE : α → Value} {M : α → Option δ} (hinj : ∀ {a b : α}, kE a = kE b → a = b) (h : MapG kE vE es M) {ks : List α} (hn : ks.Nodup) (hk : ∀ a, a ∈ ks ↔ (M a).isSome = true) : es.length = ks.length := by
  have h1 : (es.map (·.key)).Nodup := by rw [List.nodup_iff_pairwise_ne, List.pairwise_map]; exact h.nod
  have h2 : (ks.map kE).Nodup := by
    rw [List.nodup_iff_pairwise_ne, List.pairwise_map]
    exact (List.nodup_iff_pairwise_ne.1 hn).imp fun {a b} q z => q (hinj z)
  have h3 : ∀ x, x ∈ es.map (·.key) ↔ x ∈ ks.map kE := fun x => by
    constructor
    · intro hx
      obtain ⟨e, he, rfl⟩ := List.mem_map.1 hx
      obtain ⟨n, v, g1,_, g3⟩ := h.ent e he
      exact List.mem_map.2 ⟨n, (hk n).2 (by rw [g3]; rfl), g1.symm⟩
    · intro hx
      obtain ⟨n, hn, rfl⟩ := List.mem_map.1 hx
      obtain ⟨v, hv⟩ := Option.isSome_iff_exists.1 ((hk n).1 hn)
      obtain ⟨e, g1, g2,_⟩ := h.mem n v hv
      exact List.mem_map.2 ⟨e, g1, g2⟩
  have a1 := List.Nodup.length_le_of_subset h1 (fun x hx => (h3 x).1 hx)
  have a2 := List.Nodup.length_le_of_subset h2 (fun x hx => (h3 x).2 hx)
  simp only [List.length_map] at a1 a2
  omega
end

section
variable {P : Program} {ro : Option Nat} {β : Bs} {N : Nat} {ds : List Deferred} {env : Env} {L : List Res} {Q : Exit → Act → World → Prop}
variable {d : Option Nat} {ty : TypeId} {pos : String} {aft : Array Edge} {g : Option (Nat × Bool)}
variable {α δ : Type} {kE : α → Value} {vE : δ → Value}
def IsMapG (P : Program) (T : Nat) (kE : α → Value) (vE : δ → Value) (d0 : δ) : Prop := ∃ K E, P.underlying T = some (.map K E) ∧ KeyE P K kE ∧ ZeroOf P E (vE d0)
theorem run_lookup_g {T b : Nat} {M : α → Option δ} {d0 : δ} {n : α} {w : World} (c : Bool) (hT : IsMapG P T kE vE d0) (hb : (mapR kE vE b M).inv w) : (Instr.lookup T (.map (some b)) (kE n) c).run P w = .ok (if c then .tuple #[vE ((M n).getD d0), .bool (M n).isSome] else vE ((M n).getD d0)) w := by
  obtain ⟨K, E, hu, hK, hz⟩ := hT
  obtain ⟨es, clock, hb, hs,_⟩ := hb
  have hobj : (getObj b).run P w = .ok (.map es clock) w := by simp [getObj, Sem.run, hb]
  simp only [Instr.lookup, Sem.run_bind, run_underlying hu, Result.andThen_ok, hobj, Sem.run_pure, hK.chk]
  rcases hK.find n es.toList w (fun e he => by obtain ⟨m,_, h1,_⟩ := hs.ent e he; exact ⟨m, h1⟩) with ⟨j, e, h1, h3, h4⟩ | ⟨h1, h2⟩
  · rw [h1]
    obtain ⟨v, g1, g2⟩ := mapG_get hK.inj hs (List.mem_of_getElem? h3) h4
    cases c <;> simp [g1, g2]
  · rw [h1, mapG_none hs h2]
    cases c <;> simp [run_zero hz]
theorem LO.lkG {x y : Operand} {T b : Nat} {M : α → Option δ} {d0 : δ} {n : α} (hT : IsMapG P T kE vE d0) (hx : OV env x (.map (some b))) (hy : OV env y (kE n)) (hi : ∀ w, St β L w → (mapR kE vE b M).inv w) : LO P β env L ⟨d, .lookup T x y true, ty, pos, aft, g⟩ (.tuple #[vE ((M n).getD d0), .bool (M n).isSome]) :=
  .of_run fun a w h hw => ⟨w, by
    have := run_lookup_g (n := n) true hT (hi w hw)
    simp only [if_true] at this
    simp [execOp, h x (by simp [Op.operands]) _ hx, h y (by simp [Op.operands]) _ hy, this], hw⟩
theorem LO.lkG1 {x y : Operand} {T b : Nat} {M : α → Option δ} {d0 : δ} {n : α} (hT : IsMapG P T kE vE d0) (hx : OV env x (.map (some b))) (hy : OV env y (kE n)) (hi : ∀ w, St β L w → (mapR kE vE b M).inv w) : LO P β env L ⟨d, .lookup T x y false, ty, pos, aft, g⟩ (vE ((M n).getD d0)) :=
  .of_run fun a w h hw => ⟨w, by
    have := run_lookup_g (n := n) false hT (hi w hw)
    simp only [Bool.false_eq_true, if_false] at this
    simp [execOp, h x (by simp [Op.operands]) _ hx, h y (by simp [Op.operands]) _ hy, this], hw⟩
section
variable {K : Value → List Res → Prop} {dd : Option Nat}
theorem HO.mkmapG {T : Nat} (kE : α → Value) (vE : δ → Value) (k : ∀ b, K (.map (some b)) (mapR kE vE b (fun _ => none) :: L)) : HO P β env L ⟨dd, .makeMap T none, ty, pos, aft, none⟩ K := by
  intro a w h hw
  refine .inl ⟨_, w.alloc (.map #[] 0),_,_, ?_, .inl rfl, k w.heap.size, ?_⟩
  · simp only [execOp]
    rfl
  · have h1 := hw.alloc (.map #[] 0)
    have := h1.conv 0 (r' := mapR kE vE w.heap.size (fun _ => none)) rfl (fun k hk => hk) ⟨#[], 0, h1.inv 0 _ rfl, mapG_nil, by simp, by simp⟩
    simpa using this
variable [DecidableEq α]
theorem HO.mupG (i : Nat) (LF : Res → List Res) {x y z : Operand} {T b : Nat} {M : α → Option δ} {d0 : δ} (n : α) (v : δ) (hT : IsMapG P T kE vE d0) (hx : OV env x (.map (some b))) (hy : OV env y (kE n)) (hz : OV env z (vE v)) (hi : L[i]? = some (mapR kE vE b M)) (hL : ∀ R : Res, L.set i R = LF R)
    (k : K undef (LF (mapR kE vE b (updG M n v)))) : HO P β env L ⟨dd, .mapUpdate T x y z, ty, pos, aft, none⟩ K := by
  intro a w h hw
  obtain ⟨KT, E, hu, hK,_⟩ := hT
  obtain ⟨es, clock, hb, hs, hst⟩ := hw.inv i _ hi
  have hlt : i < L.length := by
    rcases Nat.lt_or_ge i L.length with q | q
    · exact q
    · simp [List.getElem?_eq_none q] at hi
  have hobj : (getObj b).run P w = .ok (.map es clock) w := by simp [getObj, Sem.run, hb]
  have hset : ∀ o, (setObj b o).run P w = .ok () (w.putObj b o) := fun o => by simp [setObj, Sem.run, hb, World.putObj]
  have ex : a.eval x = .map (some b) := by obtain ⟨u, hu, e⟩ := hx; subst e; exact h x (by simp [Op.operands]) _ hu
  have ey : a.eval y = kE n := by obtain ⟨u, hu, e⟩ := hy; subst e; exact h y (by simp [Op.operands]) _ hu
  have ez : a.eval z = vE v := by obtain ⟨u, hu, e⟩ := hz; subst e; exact h z (by simp [Op.operands]) _ hu
  have h1 : St β (L.set i (blk b (.map es clock))) w := hw.conv i hi (fun k hk => hk) hb
  have upd : ∀ es' clock', MapG kE vE es'.toList (updG M n v) → Stamps es'.toList clock' → St β (L.set i (mapR kE vE b (updG M n v))) (w.putObj b (.map es' clock')) := by
    intro es' clock' hse hst'
    have hg : (L.set i (blk b (.map es clock)))[i]? = some (blk b (.map es clock)) := by simp [hlt]
    have h2 := h1.obj (o' := .map es' clock') i hg
    rw [List.set_set] at h2
    have hg2 : (L.set i (blk b (.map es' clock')))[i]? = some (blk b (.map es' clock')) := by simp [hlt]
    have h3 := h2.conv i (r' := mapR kE vE b (updG M n v)) hg2 (fun k hk => hk) ⟨es', clock', h2.inv i _ hg2, hse, hst'⟩
    rwa [List.set_set] at h3
  rcases hK.find n es.toList w (fun e he => by obtain ⟨m,_, h1,_⟩ := hs.ent e he; exact ⟨m, h1⟩) with ⟨j, e, h1, h3, h4⟩ | ⟨h1, h2⟩
  · have hj : es[j]? = some e := by simpa using h3
    refine .inl ⟨.skip, w.putObj b (.map (es.modify j fun e => { e with key := kE n, val := vE v }) clock), undef,_, ?_, .inr ⟨rfl, rfl⟩, k, by rw [← hL]; exact upd _ _ (by rw [modify_set h3]; exact mapG_set hK.inj hs h3 h4) (by rw [modify_set h3]; exact stamps_set hst h3)⟩
    simp only [execOp, ex, ey, ez, Sem.run_bind, Sem.run_pure]
    refine skip_of ?_
    simp only [Instr.mapUpdate, Sem.run_bind, run_underlying hu, Result.andThen_ok, hobj, hK.chk]
    rw [h1]
    simp [hj, h4, Instr.keyThatStays, hK.bits]
    exact hset _
  · refine .inl ⟨.skip, w.putObj b (.map (es.push { key := kE n, val := vE v, born := clock }) (clock + 1)), undef,_, ?_, .inr ⟨rfl, rfl⟩, k, by rw [← hL]; exact upd _ _ (by rw [Array.toList_push]; exact mapG_push hs h2) (by rw [Array.toList_push]; exact stamps_push hst)⟩
    simp only [execOp, ex, ey, ez, Sem.run_bind, Sem.run_pure]
    refine skip_of ?_
    simp only [Instr.mapUpdate, Sem.run_bind, run_underlying hu, Result.andThen_ok, hobj, hK.chk]
    rw [h1]
    exact hset _
end
end

/-! ### Keys -/
section
variable {P : Program}
theorem key_int {K : TypeId} (hK : P.underlying K = some (.int .i64)) : KeyE P K intV where
  inj := intV_inj
  chk := fun e n a w => checkKey_int hK e (n + 1) _ w
  find := fun n es w h => by
    simp only [Instr.findKey, Sem.run_bind, run_underlying hK, Result.andThen_ok]
    rcases findNow_int (k := .i64) (n := n) (es := es) 0 h with ⟨j, e, h1, h2, h3, h4⟩ | ⟨h1, h2⟩
    · rw [h1]; exact .inl ⟨j, e, rfl, by simpa using h3, h4⟩
    · rw [h1]; exact .inr ⟨rfl, h2⟩
  bits := fun a => by simp [Instr.sameBits, intV]
/-- A field of one cell. -/
structure Cell1 {γ : Type} [DecidableEq γ] (P : Program) (T : TypeId) (c : γ → Value) : Prop where
  inj : ∀ {a b : γ}, c a = c b → a = b
  chk : ∀ (e : Bool) (n : Nat) (a : γ) (w : World), (Instr.checkKey e (n + 1) T (c a)).run P w = .ok () w
  eql : ∀ (d : Nat) (a b : γ) (w : World), (Op.equalIn (d + 1) T (c a) (c b)).run P w = .ok (decide (a = b)) w
  one : IsOne P T
  bits : ∀ (n : Nat) (a : γ), Instr.sameBits n (c a) (c a) = true
theorem cell1_int {T : TypeId} (hT : P.underlying T = some (.int .i64)) (h1 : IsOne P T) : Cell1 P T intV where
  inj := intV_inj
  chk := fun e n a w => checkKey_int hT e n _ w
  eql := fun d a b w => by rw [intV, intV, run_equalIn_int w d T .i64 .i64 a b hT]; rfl
  one := h1
  bits := fun n a => by cases n <;> simp [Instr.sameBits, intV]
theorem cell1_bool {T : TypeId} (hT : P.underlying T = some .bool) (h1 : IsOne P T) : Cell1 P T Value.bool where
  inj := fun h => by simpa using h
  chk := fun e n a w => by simp [Instr.checkKey, run_underlying hT]
  eql := fun d a b w => by
    simp only [Op.equalIn, Sem.run_bind, run_underlying hT, Result.andThen_ok, Sem.run_pure]
    cases a <;> cases b <;> rfl
  one := h1
  bits := fun n a => by cases n <;> simp [Instr.sameBits]
def IsS2 (P : Program) (K T0 T1 : TypeId) : Prop := ∃ F0 F1 : Field, P.underlying K = some (.struct #[F0, F1]) ∧ F0.name ≠ "_" ∧ F1.name ≠ "_" ∧ F0.offset = 0 ∧ F1.offset = 1 ∧ F0.type = T0 ∧ F1.type = T1 ∧ P.stoodInHeld K = false
variable {γ0 γ1 : Type} [DecidableEq γ0] [DecidableEq γ1] {c0 : γ0 → Value} {c1 : γ1 → Value} {K T0 T1 : TypeId}
abbrev pairV (c0 : γ0 → Value) (c1 : γ1 → Value) (x : γ0 × γ1) : Value := .agg #[c0 x.1, c1 x.2]
theorem part_one {T : TypeId} (h : IsOne P T) {cs : Array Value} {o : Nat} {v : Value} (hv : cs[o]? = some v) (w : World) : (part T cs o).run P w = .ok v w := by
  simp [part, run_isOne h, hv]
theorem pairV_eq (h0 : Cell1 P T0 c0) (h1 : Cell1 P T1 c1) (hK : IsS2 P K T0 T1) (x y : γ0 × γ1) (d : Nat) (w : World) : (Op.equalIn (d + 2) K (pairV c0 c1 x) (pairV c0 c1 y)).run P w = .ok (decide (x = y)) w := by
  obtain ⟨F0, F1, hu, n0, n1, o0, o1, t0, t1, hs⟩ := hK
  have hfs : P.fieldsOf K = #[F0, F1] := by simp [Program.fieldsOf, hu]
  rw [pairV, pairV, run_equalIn_struct w (d + 1) K _ _ (by rw [hfs]; exact hu) hs, hfs]
  simp only [Op.eqFields, n0, n1, ne_eq, not_false_eq_true, if_true, Sem.run_bind, o0, o1, t0, t1]
  rw [part_one h0.one (v := c0 x.1) rfl, Result.andThen_ok, part_one h0.one (v := c0 y.1) rfl, Result.andThen_ok, h0.eql, Result.andThen_ok]
  obtain ⟨x0, x1⟩ := x
  obtain ⟨y0, y1⟩ := y
  by_cases e0 : x0 = y0
  · subst e0
    simp only [decide_true, Bool.not_true, Bool.false_eq_true, if_false, Sem.run_bind]
    rw [part_one h1.one (v := c1 x1) rfl, Result.andThen_ok, part_one h1.one (v := c1 y1) rfl, Result.andThen_ok, h1.eql, Result.andThen_ok]
    by_cases e1 : x1 = y1
    · subst e1; simp
    · simp [e1]
  · simp [e0]
theorem findNow_struct {fs : Array Field} {k : Value} {es : List MapEntry} {i : Nat} : Instr.findNow (.struct fs) k es i = if es = [] then some none else none := by
  cases es with
  | nil => rfl
  | cons e es => simp [Instr.findNow, Instr.sameNow]
theorem findAsking_run {α : Type} [DecidableEq α] {kE : α → Value} (hinj : ∀ {a b : α}, kE a = kE b → a = b) (heq : ∀ (a b : α) (w : World), (Op.equal K (kE a) (kE b)).run P w = .ok (decide (a = b)) w) (n : α) (w : World) : ∀ (es : List MapEntry) (i : Nat), (∀ e, e ∈ es → ∃ m, e.key = kE m) →
    (∃ j e, (Instr.findAsking K (kE n) es i).run P w = .ok (some (j, e.val)) w ∧ i ≤ j ∧ es[j - i]? = some e ∧ e.key = kE n) ∨ ((Instr.findAsking K (kE n) es i).run P w = .ok none w ∧ ∀ e, e ∈ es → e.key ≠ kE n)
  | [], i,_ => .inr ⟨rfl, by simp⟩
  | e :: es, i, h => by
    obtain ⟨m, hm⟩ := h e (by simp)
    simp only [Instr.findAsking, Sem.run_bind, hm, heq, Result.andThen_ok]
    by_cases q : n = m
    · subst q
      left
      exact ⟨i, e, by simp, Nat.le_refl _, by simp, hm⟩
    · simp only [q, decide_false, Bool.false_eq_true, if_false]
      rcases findAsking_run hinj heq n w es (i + 1) (fun e' he => h e' (by simp [he])) with ⟨j, e', h1, h2, h3, h4⟩ | ⟨h1, h2⟩
      · left
        refine ⟨j, e', h1, by omega, ?_, h4⟩
        rw [show j - i = (j - (i + 1)) + 1 by omega]
        simpa using h3
      · right
        refine ⟨h1, fun e' he' => ?_⟩
        rcases List.mem_cons.1 he' with rfl | he'
        · rw [hm]; exact fun z => q (hinj z).symm
        · exact h2 e' he'
theorem key_pair (h0 : Cell1 P T0 c0) (h1 : Cell1 P T1 c1) (hK : IsS2 P K T0 T1) : KeyE P K (pairV c0 c1) where
  inj := fun {a b} h => by
    have e := Array.toList_inj.2 (Value.agg.inj h)
    simp at e
    exact Prod.ext (h0.inj e.1) (h1.inj e.2)
  chk := fun e n x w => by
    obtain ⟨F0, F1, hu, n0, n1, o0, o1, t0, t1, hs⟩ := hK
    unfold Instr.checkKey
    simp only [Sem.run_bind, run_underlying hu, Result.andThen_ok]
    rw [← Array.forIn_toList]
    simp only [List.forIn_cons, List.forIn_nil, n0, n1, ne_eq, not_false_eq_true, if_true, Sem.run_bind, o0, o1, t0, t1]
    rw [part_one h0.one (v := c0 x.1) rfl, Result.andThen_ok, h0.chk]
    simp only [Result.andThen_ok, Sem.run_pure, Sem.run_bind]
    rw [part_one h1.one (v := c1 x.2) rfl, Result.andThen_ok, h1.chk]
    rfl
  find := fun n es w h => by
    have hinj : ∀ {a b : γ0 × γ1}, pairV c0 c1 a = pairV c0 c1 b → a = b := fun {a b} h => by
      have e := Array.toList_inj.2 (Value.agg.inj h)
      simp at e
      exact Prod.ext (h0.inj e.1) (h1.inj e.2)
    have heq : ∀ (a b : γ0 × γ1) (w : World), (Op.equal K (pairV c0 c1 a) (pairV c0 c1 b)).run P w = .ok (decide (a = b)) w := fun a b w => pairV_eq h0 h1 hK a b 9998 w
    obtain ⟨F0, F1, hu,_⟩ := hK
    simp only [Instr.findKey, Sem.run_bind, run_underlying hu, Result.andThen_ok, findNow_struct]
    by_cases q : es = []
    · subst q; exact .inr ⟨rfl, by simp⟩
    · rw [if_neg q]
      rcases findAsking_run hinj heq n w es 0 h with ⟨j, e, h1, h2, h3, h4⟩ | ⟨h1, h2⟩
      · exact .inl ⟨j, e, h1, by simpa using h3, h4⟩
      · exact .inr ⟨h1, h2⟩
  bits := fun x => by simp [Instr.sameBits, h0.bits, h1.bits]
variable {ro : Option Nat} {β : Bs} {env : Env} {L : List Res} {d : Option Nat} {ty : TypeId} {pos : String} {aft : Array Edge} {g : Option (Nat × Bool)}
theorem LO.neP {x y : Operand} {yT : Nat} {a b : γ0 × γ1} (h0 : Cell1 P T0 c0) (h1 : Cell1 P T1 c1) (hK : IsS2 P K T0 T1) (hG : P.eqGuardType P.depth K = false) (hx : OV env x (pairV c0 c1 a)) (hy : OV env y (pairV c0 c1 b)) : LO P β env L ⟨d, .binOp .neq K x y yT, ty, pos, aft, g⟩ (.bool (!decide (a = b))) :=
  .of_run fun ac w h hw => ⟨w, by
    have h2 := pairV_eq h0 h1 hK a b 9998 w
    simp only [execOp, h x (by simp [Op.operands]) _ hx, h y (by simp [Op.operands]) _ hy, Sem.run_bind, run_eqGuard_agg w .neq K x y _ _ hG, Result.andThen_ok, run_neq_struct, h2, Sem.run_pure], hw⟩
end
end Go.SL

namespace Go.Proofs.Ytgemekpofpoopaa
open Go.SL
set_option linter.unusedVariables false

/-! ### Groups -/
section
variable {α : Type} [DecidableEq α]
/-- What stands for what, when each follows another one. -/
structure Frs (M : α → Option α) (ld : α → α) : Prop where
  fix : ∀ x, M (ld x) = none
  stay : ∀ x, M x = none → ld x = x
  go : ∀ x y, M x = some y → ld y = ld x
  rank : ∃ r : α → Nat, ∀ x y, M x = some y → r y < r x
inductive Eqv (J : α → α → Prop) : α → α → Prop
  | refl (x) : Eqv J x x
  | base {x y} : J x y → Eqv J x y
  | symm {x y} : Eqv J x y → Eqv J y x
  | trans {x y z} : Eqv J x y → Eqv J y z → Eqv J x z
theorem Eqv.mono {α : Type} {J K : α → α → Prop} (h : ∀ x y, J x y → K x y) {x y : α} (k : Eqv J x y) : Eqv K x y := by
  induction k with
  | refl x => exact .refl x
  | base j => exact .base (h _ _ j)
  | symm _ ih => exact ih.symm
  | trans _ _ i1 i2 => exact i1.trans i2
theorem Frs.nil {α : Type} : Frs (fun _ : α => none) id := ⟨fun _ => rfl, fun _ _ => rfl, fun _ _ h => (by cases h), ⟨fun _ => 0, fun _ _ h => (by cases h)⟩⟩
def joinM (M : α → Option α) (ld : α → α) (x y : α) : α → Option α := if ld x = ld y then M else updG M (ld y) (ld x)
def joinL (ld : α → α) (x y : α) : α → α := fun z => if ld z = ld y then ld x else ld z
theorem Frs.idem {α : Type} {M : α → Option α} {ld : α → α} (h : Frs M ld) (x : α) : ld (ld x) = ld x := h.stay _ (h.fix x)
theorem Frs.join {M : α → Option α} {ld : α → α} (h : Frs M ld) (x y : α) : Frs (joinM M ld x y) (joinL ld x y) := by
  unfold joinM
  split
  · rename_i e
    have : joinL ld x y = ld := by funext z; unfold joinL; split <;> simp_all
    rw [this]; exact h
  · rename_i e
    obtain ⟨r, hr⟩ := h.rank
    have lx := h.idem x
    have ly := h.idem y
    refine ⟨fun z => ?_, fun z hz => ?_, fun z u hz => ?_, ⟨fun z => if ld z = ld y then r z + r (ld x) + 1 else r z, fun z u hz => ?_⟩⟩
    · show updG M (ld y) (ld x) (joinL ld x y z) = none
      unfold joinL
      by_cases q : ld z = ld y
      · rw [if_pos q]; unfold updG; rw [if_neg e]; exact h.fix x
      · rw [if_neg q]; unfold updG; rw [if_neg q]; exact h.fix z
    · unfold updG at hz
      split at hz
      · cases hz
      · rename_i q
        have hs := h.stay z hz
        unfold joinL
        rw [hs, if_neg q]
    · unfold updG at hz
      split at hz
      · rename_i q
        cases hz
        subst q
        unfold joinL
        rw [lx, ly, if_neg e, if_pos rfl]
      · unfold joinL
        rw [h.go z u hz]
    · unfold updG at hz
      dsimp only
      split at hz
      · rename_i q
        cases hz
        subst q
        rw [lx, ly, if_neg e, if_pos rfl]; omega
      · have := hr z u hz
        rw [h.go z u hz]
        split <;> omega
theorem join_eqv {J : α → α → Prop} {ld : α → α} (h : ∀ a b, ld a = ld b ↔ Eqv J a b) (x y : α) (a b : α) : joinL ld x y a = joinL ld x y b ↔ Eqv (fun a b => J a b ∨ (a = x ∧ b = y)) a b := by
  have up : ∀ {a b}, ld a = ld b → Eqv (fun a b => J a b ∨ (a = x ∧ b = y)) a b := fun e => ((h _ _).1 e).mono fun _ _ j => .inl j
  have xy : Eqv (fun a b => J a b ∨ (a = x ∧ b = y)) x y := .base (.inr ⟨rfl, rfl⟩)
  constructor
  · unfold joinL
    intro e
    split at e
    · rename_i ha
      split at e
      · rename_i hb; exact up (ha.trans hb.symm)
      · exact (up ha).trans (xy.symm.trans (up e))
    · rename_i ha
      split at e
      · rename_i hb; exact (up e).trans (xy.trans (up hb).symm)
      · exact up e
  · intro k
    induction k with
    | refl x => rfl
    | base j =>
      rcases j with j | ⟨rfl, rfl⟩
      · unfold joinL; rw [(h _ _).2 (.base j)]
      · unfold joinL; rw [if_pos rfl]; split <;> rfl
    | symm _ ih => exact ih.symm
    | trans _ _ i1 i2 => exact i1.trans i2
end

theorem modify_ne {α : Type} {l : List α} {i j : Nat} {f : α → α} (h : i ≠ j) : (l.modify i f)[j]? = l[j]? := by simp [List.getElem?_modify, h]
/-! ### Events -/
structure EvM where
  kd : Int
  f : List Nat
  t : List Nat
def kindM (a b : Nat) : Int := if a = 0 then 2 else if b = 0 then 3 else if a = 1 then (if b = 1 then 4 else 5) else if b = 1 then 6 else 7
section
variable {α : Type} [DecidableEq α] {κ : Nat → α} {n t : Nat}
def isFirst (κ : Nat → α) (k : Nat) : Bool := decide (∀ j, j < k → κ j ≠ κ k)
def firsts (κ : Nat → α) (t : Nat) : List Nat := (List.range t).filter (isFirst κ)
def evF (κ : Nat → α) (n t k : Nat) : EvM := ⟨0, (List.range (min t n)).filter (fun i => decide (κ i = κ k)), (List.range (t - n)).filter (fun j => decide (κ (n + j) = κ k))⟩
def evT (κ : Nat → α) (n t : Nat) : List EvM := (firsts κ t).map (evF κ n t)
def addEv (n t : Nat) (e : EvM) : EvM := if t < n then { e with f := e.f ++ [t] } else { e with t := e.t ++ [t - n] }
theorem mem_firsts {k : Nat} : k ∈ firsts κ t ↔ k < t ∧ ∀ j, j < k → κ j ≠ κ k := by unfold firsts isFirst; rw [List.mem_filter, List.mem_range, decide_eq_true_eq]
theorem firsts_nodup : (firsts κ t).Nodup := List.Pairwise.filter _ List.nodup_range
theorem firsts_eq {i j : Nat} (hi : i ∈ firsts κ t) (hj : j ∈ firsts κ t) (e : κ i = κ j) : i = j := by
  have a := (mem_firsts.1 hi).2
  have b := (mem_firsts.1 hj).2
  rcases Nat.lt_trichotomy i j with q | q | q
  · exact absurd e (b i q)
  · exact q
  · exact absurd e.symm (a j q)
theorem firsts_succ : firsts κ (t + 1) = firsts κ t ++ if isFirst κ t then [t] else [] := by
  unfold firsts; rw [List.range_succ, List.filter_append]
  congr 1
  by_cases h : isFirst κ t = true
  · simp [h]
  · simp [h]
theorem first_of (κ : Nat → α) : ∀ k, ∃ j, j ≤ k ∧ κ j = κ k ∧ isFirst κ j = true := fun k => by
  induction k using Nat.strongRecOn with
  | _ k ih =>
    by_cases h : isFirst κ k = true
    · exact ⟨k, Nat.le_refl _, rfl, h⟩
    · unfold isFirst at h
      rw [decide_eq_true_eq] at h
      obtain ⟨j, hj⟩ := Classical.not_forall.1 h
      have hj2 : j < k ∧ κ j = κ k := by
        by_cases q : j < k
        · exact ⟨q, Classical.not_not.1 (fun z => hj (fun _ => z))⟩
        · exact absurd (fun z => absurd z q) hj
      obtain ⟨i, h1, h2, h3⟩ := ih j hj2.1
      exact ⟨i, by omega, h2.trans hj2.2, h3⟩
theorem evF_succ {k : Nat} : evF κ n (t + 1) k = if κ t = κ k then addEv n t (evF κ n t k) else evF κ n t k := by
  unfold evF addEv
  by_cases h : t < n
  · rw [show min (t + 1) n = min t n + 1 by omega, List.range_succ, List.filter_append, show min t n = t by omega, show t + 1 - n = t - n by omega]
    by_cases e : κ t = κ k
    · rw [if_pos e, if_pos h]; simp [e]
    · rw [if_neg e]; simp [e]
  · rw [show min (t + 1) n = min t n by omega, show t + 1 - n = (t - n) + 1 by omega, List.range_succ, List.filter_append]
    have : n + (t - n) = t := by omega
    by_cases e : κ t = κ k
    · rw [if_pos e, if_neg h]; simp [this, e]
    · rw [if_neg e]; simp [this, e]
/-- An area that belongs to an event. -/
theorem evT_old {p k0 : Nat} (hp : (firsts κ t)[p]? = some k0) (he : κ k0 = κ t) : firsts κ (t + 1) = firsts κ t ∧ evT κ n (t + 1) = (evT κ n t).modify p (addEv n t) := by
  have hk0 := List.mem_of_getElem? hp
  have h1 : firsts κ (t + 1) = firsts κ t := by
    have : ¬ isFirst κ t = true := fun h => by
      unfold isFirst at h; rw [decide_eq_true_eq] at h
      exact h k0 (mem_firsts.1 hk0).1 he
    rw [firsts_succ, if_neg this, List.append_nil]
  refine ⟨h1, ?_⟩
  unfold evT
  rw [h1]
  refine List.ext_getElem? fun i => ?_
  rw [List.getElem?_map]
  by_cases q : i = p
  · subst q
    rw [List.getElem?_modify_eq, List.getElem?_map, hp]
    simp only [Option.map_some]
    rw [evF_succ, if_pos he.symm]; rfl
  · rw [modify_ne (fun z => q z.symm), List.getElem?_map]
    cases hi : (firsts κ t)[i]? with
    | none => rfl
    | some k =>
      simp only [Option.map_some]
      rw [evF_succ, if_neg]
      intro e
      have : k = k0 := firsts_eq (List.mem_of_getElem? hi) hk0 (e.symm.trans he.symm)
      subst this
      exact q ((List.getElem?_inj (List.getElem?_eq_some_iff.1 hi).1 firsts_nodup).1 (hi.trans hp.symm))
/-- An area with which an event begins. -/
theorem evT_new (h : ∀ j, j < t → κ j ≠ κ t) : firsts κ (t + 1) = firsts κ t ++ [t] ∧ evT κ n (t + 1) = evT κ n t ++ [addEv n t ⟨0, [], []⟩] := by
  have h1 : firsts κ (t + 1) = firsts κ t ++ [t] := by
    have : isFirst κ t = true := decide_eq_true h
    rw [firsts_succ, if_pos this]
  refine ⟨h1, ?_⟩
  unfold evT
  rw [h1, List.map_append]
  congr 1
  · refine List.map_congr_left fun k hk => ?_
    rw [evF_succ, if_neg fun e => h k (mem_firsts.1 hk).1 e.symm]
  · rw [List.map_singleton, evF_succ, if_pos rfl]
    congr 2
    unfold evF
    congr 1
    · exact List.filter_eq_nil_iff.2 fun i hi => by have := List.mem_range.1 hi; simpa using h i (by omega)
    · exact List.filter_eq_nil_iff.2 fun i hi => by have := List.mem_range.1 hi; simpa using h (n + i) (by omega)
/-- What is known of an index of the groups by what stands for them. -/
structure KI (κ : Nat → α) (n t : Nat) (A : α → Option Nat) (l : List EvM) : Prop where
  l : l = evT κ n t
  ix : ∀ q p, A q = some p → ∃ k, (firsts κ t)[p]? = some k ∧ κ k = q
  has : ∀ j, j < t → (A (κ j)).isSome = true
theorem KI.zero : KI κ n 0 (fun _ => none) [] := ⟨rfl, fun _ _ h => (by cases h), fun j h => absurd h (Nat.not_lt_zero _)⟩
theorem KI.lt {A : α → Option Nat} {l : List EvM} (h : KI κ n t A l) {q : α} {p : Nat} (hp : A q = some p) : p < l.length := by
  obtain ⟨k, h1,_⟩ := h.ix q p hp
  rw [h.l]; unfold evT; rw [List.length_map]
  exact (List.getElem?_eq_some_iff.1 h1).1
def findA (A : α → Option Nat) (q : α) (len : Nat) : α → Option Nat := if (A q).isSome = true then A else updG A q len
def findK (A : α → Option Nat) (q : α) (len : Nat) : Nat := (A q).getD len
theorem KI.step {A : α → Option Nat} {l : List EvM} (h : KI κ n t A l) : KI κ n (t + 1) (findA A (κ t) l.length) ((if (A (κ t)).isSome = true then l else l ++ [⟨0, [], []⟩]).modify (findK A (κ t) l.length) (addEv n t)) := by
  unfold findA findK
  cases hA : A (κ t) with
  | some p =>
    obtain ⟨k0, h1, h2⟩ := h.ix _ _ hA
    obtain ⟨g1, g2⟩ := evT_old (n := n) h1 h2
    simp only [Option.isSome_some, if_true, Option.getD_some]
    refine ⟨by rw [g2, ← h.l], fun q p hq => by rw [g1]; exact h.ix q p hq, fun j hj => ?_⟩
    rcases Nat.lt_succ_iff_lt_or_eq.1 hj with q | rfl
    · exact h.has j q
    · rw [hA]; rfl
  | none =>
    have hn : ∀ j, j < t → κ j ≠ κ t := fun j hj e => by
      have := h.has j hj
      rw [e, hA] at this
      cases this
    obtain ⟨g1, g2⟩ := evT_new (n := n) hn
    have hl : l.length = (firsts κ t).length := by rw [h.l]; unfold evT; rw [List.length_map]
    simp only [Option.isSome_none, Bool.false_eq_true, if_false, Option.getD_none]
    refine ⟨?_, fun q p hq => ?_, fun j hj => ?_⟩
    · rw [g2, ← h.l]
      refine List.ext_getElem? fun i => ?_
      by_cases q : i = l.length
      · subst q
        rw [List.getElem?_modify_eq, List.getElem?_append_right (Nat.le_refl _), List.getElem?_append_right (Nat.le_refl _), Nat.sub_self]; rfl
      · rw [modify_ne (fun z => q z.symm)]
        rcases Nat.lt_or_ge i l.length with z | z
        · rw [List.getElem?_append_left z, List.getElem?_append_left z]
        · rw [List.getElem?_eq_none (by simp; omega), List.getElem?_eq_none (by simp; omega)]
    · rw [g1]
      unfold updG at hq
      split at hq
      · rename_i e
        cases hq; subst e
        exact ⟨t, by rw [hl, List.getElem?_append_right (Nat.le_refl _), Nat.sub_self]; rfl, rfl⟩
      · obtain ⟨k, h1, h2⟩ := h.ix q p hq
        exact ⟨k, by rw [List.getElem?_append_left (List.getElem?_eq_some_iff.1 h1).1]; exact h1, h2⟩
    · unfold updG
      split
      · rfl
      · rename_i e
        rcases Nat.lt_succ_iff_lt_or_eq.1 hj with q | rfl
        · exact h.has j q
        · exact absurd rfl e
/-- The events, when it is known which areas belong together. -/
def evsM (κ : Nat → α) (n m : Nat) : List EvM := (evT κ n (n + m)).map fun e => { e with kd := kindM e.f.length e.t.length }
theorem evsM_congr {β : Type} [DecidableEq β] {κ' : Nat → β} {m : Nat} (h : ∀ i j, i < n + m → j < n + m → (κ i = κ j ↔ κ' i = κ' j)) : evsM κ n m = evsM κ' n m := by
  have hf : firsts κ (n + m) = firsts κ' (n + m) := by
    unfold firsts
    refine List.filter_congr fun k hk => ?_
    have hk := List.mem_range.1 hk
    unfold isFirst
    rw [decide_eq_decide]
    exact ⟨fun g j hj e => g j hj ((h j k (by omega) hk).2 e), fun g j hj e => g j hj ((h j k (by omega) hk).1 e)⟩
  unfold evsM evT
  rw [hf]
  congr 1
  refine List.map_congr_left fun k hk => ?_
  have hk := (mem_firsts.1 hk).1
  unfold evF
  congr 1
  · refine List.filter_congr fun i hi => ?_
    have hi := List.mem_range.1 hi
    rw [decide_eq_decide]; exact h i k (by omega) hk
  · refine List.filter_congr fun i hi => ?_
    have hi := List.mem_range.1 hi
    rw [decide_eq_decide]; exact h (n + i) k (by omega) hk
end
end Go.Proofs.Ytgemekpofpoopaa

namespace Go.Proofs.Ytgemekpofpoopaa
open Go.SL
set_option linter.unusedVariables false

section
variable {W H r : Nat} {oa ob : List Int} {p v u : Nat} {a b : Bool × Int}
/-- Two pixels near each other, of two areas. -/
structure Pr (W H r : Nat) (oa ob : List Int) (p v u : Nat) (a b : Bool × Int) : Prop where
  hp : p < W * H
  hv : v ≤ p / W + r ∧ p / W ≤ v + r ∧ v < H
  hu : u ≤ p % W + r ∧ p % W ≤ u + r ∧ u < W
  ha : a = (false, oa.getD p (-1)) ∧ 0 ≤ oa.getD p (-1)
  hb : b = (true, ob.getD (v * W + u) (-1)) ∧ 0 ≤ ob.getD (v * W + u) (-1)
abbrev Bef (p v u p2 v2 u2 : Nat) : Prop := p < p2 ∨ p = p2 ∧ (v < v2 ∨ v = v2 ∧ u < u2)
structure Jw (W H r : Nat) (oa ob : List Int) (p2 v2 u2 : Nat) (a b : Bool × Int) : Prop where
  ex : ∃ p v u, Bef p v u p2 v2 u2 ∧ Pr W H r oa ob p v u a b
structure Jal (W H r : Nat) (oa ob : List Int) (a b : Bool × Int) : Prop where
  ex : ∃ p v u, Pr W H r oa ob p v u a b
structure GInv (J : Bool × Int → Bool × Int → Prop) (M : Bool × Int → Option (Bool × Int)) : Prop where
  ex : ∃ ld, Frs M ld ∧ ∀ a b, ld a = ld b ↔ Eqv J a b
theorem Eqv.iff {α : Type} [DecidableEq α] {J K : α → α → Prop} (h : ∀ a b, J a b ↔ K a b) {a b : α} : Eqv J a b ↔ Eqv K a b := ⟨fun k => k.mono fun x y => (h x y).1, fun k => k.mono fun x y => (h x y).2⟩
theorem GInv.congr {J K : Bool × Int → Bool × Int → Prop} {M : Bool × Int → Option (Bool × Int)} (g : GInv J M) (h : ∀ a b, J a b ↔ K a b) : GInv K M := by
  obtain ⟨ld, h1, h2⟩ := g.ex
  exact ⟨ld, h1, fun a b => (h2 a b).trans (Eqv.iff h)⟩
theorem GInv.zero : GInv (Jw W H r oa ob 0 0 0) (fun _ => none) := ⟨id, Frs.nil, fun a b => ⟨fun e => by cases e; exact .refl _, fun k => by
  induction k with
  | refl _ => rfl
  | base j => obtain ⟨p, v, u, h,_⟩ := j.ex; omega
  | symm _ ih => exact ih.symm
  | trans _ _ i1 i2 => exact i1.trans i2⟩⟩
theorem Jw.same {p1 v1 u1 p2 v2 u2 : Nat} (h : ∀ p v u a b, Pr W H r oa ob p v u a b → (Bef p v u p1 v1 u1 ↔ Bef p v u p2 v2 u2)) (a b : Bool × Int) : Jw W H r oa ob p1 v1 u1 a b ↔ Jw W H r oa ob p2 v2 u2 a b :=
  ⟨fun ⟨p, v, u, h1, h2⟩ => ⟨p, v, u, (h _ _ _ _ _ h2).1 h1, h2⟩, fun ⟨p, v, u, h1, h2⟩ => ⟨p, v, u, (h _ _ _ _ _ h2).2 h1, h2⟩⟩
variable {M : Bool × Int → Option (Bool × Int)}
theorem GInv.skip (g : GInv (Jw W H r oa ob p 0 0) M) (h : oa.getD p (-1) < 0) : GInv (Jw W H r oa ob (p + 1) 0 0) M := g.congr<|Jw.same fun p' v' u' a b hp => by
  have := hp.ha.2
  have : p' ≠ p := fun e => by subst e; omega
  unfold Bef; omega
theorem GInv.row (g : GInv (Jw W H r oa ob p 0 0) M) : GInv (Jw W H r oa ob p (p / W - r) 0) M := g.congr<|Jw.same fun p' v' u' a b hp => by
  have h1 := hp.hv.2.1
  have : p' = p → p / W - r ≤ v' := fun e => by subst e; omega
  unfold Bef; omega
theorem GInv.col (g : GInv (Jw W H r oa ob p v 0) M) : GInv (Jw W H r oa ob p v (p % W - r)) M := g.congr<|Jw.same fun p' v' u' a b hp => by
  have h1 := hp.hu.2.1
  have : p' = p → p % W - r ≤ u' := fun e => by subst e; omega
  unfold Bef; omega
theorem GInv.colEnd (g : GInv (Jw W H r oa ob p v u) M) (h : W ≤ u ∨ p % W + r < u) : GInv (Jw W H r oa ob p (v + 1) 0) M := g.congr<|Jw.same fun p' v' u' a b hp => by
  have h1 := hp.hu
  have : p' = p → u' < u := fun e => by subst e; omega
  unfold Bef; omega
theorem GInv.rowEnd (g : GInv (Jw W H r oa ob p v 0) M) (h : H ≤ v ∨ p / W + r < v) : GInv (Jw W H r oa ob (p + 1) 0 0) M := g.congr<|Jw.same fun p' v' u' a b hp => by
  have h1 := hp.hv
  have : p' = p → v' < v := fun e => by subst e; omega
  unfold Bef; omega
theorem GInv.all (g : GInv (Jw W H r oa ob (W * H) 0 0) M) : GInv (Jal W H r oa ob) M := g.congr fun a b => ⟨fun ⟨p, v, u,_, h⟩ => ⟨p, v, u, h⟩, fun ⟨p, v, u, h⟩ => ⟨p, v, u, .inl h.hp, h⟩⟩
theorem GInv.none_ (g : GInv (Jw W H r oa ob p v u) M) (h : ob.getD (v * W + u) (-1) < 0) : GInv (Jw W H r oa ob p v (u + 1)) M := g.congr<|Jw.same fun p' v' u' a b hp => by
  have h1 := hp.hb.2
  have : ¬ (p' = p ∧ v' = v ∧ u' = u) := fun e => by obtain ⟨rfl, rfl, rfl⟩ := e; omega
  unfold Bef; omega
theorem GInv.join {ld : Bool × Int → Bool × Int} (h1 : Frs M ld) (h2 : ∀ a b, ld a = ld b ↔ Eqv (Jw W H r oa ob p v u) a b) (hp : p < W * H) (hv : v ≤ p / W + r ∧ p / W ≤ v + r ∧ v < H) (hu : u ≤ p % W + r ∧ p % W ≤ u + r ∧ u < W) (ha : 0 ≤ oa.getD p (-1)) (hb : 0 ≤ ob.getD (v * W + u) (-1)) :
    GInv (Jw W H r oa ob p v (u + 1)) (joinM M ld (false, oa.getD p (-1)) (true, ob.getD (v * W + u) (-1))) := by
  refine ⟨_, h1.join _ _, fun a b => (join_eqv h2 _ _ a b).trans (Eqv.iff fun a b => ?_)⟩
  constructor
  · rintro (⟨p', v', u', k1, k2⟩ | ⟨rfl, rfl⟩)
    · exact ⟨p', v', u', by unfold Bef at *; omega, k2⟩
    · exact ⟨p, v, u, by unfold Bef; omega, hp, hv, hu, ⟨rfl, ha⟩, ⟨rfl, hb⟩⟩
  · rintro ⟨p', v', u', k1, k2⟩
    by_cases e : p' = p ∧ v' = v ∧ u' = u
    · obtain ⟨rfl, rfl, rfl⟩ := e
      exact .inr ⟨k2.ha.1, k2.hb.1⟩
    · exact .inl ⟨p', v', u', by unfold Bef at *; omega, k2⟩
/-- The areas of both maps, by one number. -/
def ndx (n t : Nat) : Bool × Int := if t < n then (false, (t : Int)) else (true, ((t - n : Nat) : Int))
theorem ndx_lt {n t : Nat} (h : t < n) : ndx n t = (false, (t : Int)) := if_pos h
theorem ndx_ge {n t : Nat} : ndx n (n + t) = (true, (t : Int)) := by unfold ndx; rw [if_neg (by omega), show n + t - n = t by omega]
/-- The events are those of what is near. -/
structure EvP (W H r : Nat) (oa ob : List Int) (n m : Nat) (l : List EvM) : Prop where
  ex : ∃ ld : Bool × Int → Bool × Int, (∀ a b, ld a = ld b ↔ Eqv (Jal W H r oa ob) a b) ∧ l = evsM (fun t => ld (ndx n t)) n m
end
end Go.Proofs.Ytgemekpofpoopaa

namespace Go.SL
set_option linter.unusedVariables false
open Go.RowKit
section
variable {P : Program} {β : Bs} {env : Env} {L : List Res} {d : Option Nat} {ty : TypeId} {pos : String} {aft : Array Edge} {g : Option (Nat × Bool)} {T T2 : TypeId} {x y : Operand} {u v : Value} {b : Bool} {E : Nat}
structure NilEq (P : Program) (T : TypeId) (u v : Value) (b : Bool) : Prop where
  h : ∀ w, (Op.equalIn Op.maxDepth T u v).run P w = .ok b w
theorem nilP1 {p : Addr} (hT : ∃ E, P.underlying T = some (.pointer E)) : NilEq P T (.pointer (some p)) (.pointer none) false := ⟨fun w => by
  obtain ⟨E, hE⟩ := hT
  show (Op.equalIn (9999 + 1) T (.pointer (some p)) (.pointer none)).run P w = _
  unfold Op.equalIn
  rw [Sem.run_bind, run_underlying hE]
  rfl⟩
theorem nilM {p : Option Nat} (hT : ∃ K E, P.underlying T = some (.map K E)) : NilEq P T (.map p) (.map none) p.isNone := ⟨fun w => by
  obtain ⟨K, E, hE⟩ := hT
  show (Op.equalIn (9999 + 1) T (.map p) (.map none)).run P w = _
  unfold Op.equalIn
  rw [Sem.run_bind, run_underlying hE]
  cases p <;> rfl⟩
theorem nilS {p : Option Addr} {n c : Nat} (hT : IsSlice P T E) : NilEq P T (.slice p n c) (.slice none 0 0) p.isNone := ⟨fun w => by
  show (Op.equalIn (9999 + 1) T (.slice p n c) (.slice none 0 0)).run P w = _
  unfold Op.equalIn
  rw [Sem.run_bind, run_underlying hT]
  cases p <;> rfl⟩
theorem LO.eqNil {op : BinOp} (hb : ∀ w, (binOp op T u v).run P w = .ok (.bool b) w) (hg : ∀ w, (eqGuard op T x y u v).run P w = .ok () w) (hx : OV env x u) (hy : OV env y v) : LO P β env L ⟨d, .binOp op T x y T2, ty, pos, aft, g⟩ (.bool b) :=
  .of_run fun a w h hw => ⟨w, by
    simp only [execOp, h x (by simp [Op.operands]) _ hx, h y (by simp [Op.operands]) _ hy, Sem.run_bind, Sem.run_pure, Result.andThen_ok, hb, hg], hw⟩
theorem LO.neP1 {p : Addr} (hT : ∃ E, P.underlying T = some (.pointer E)) (hx : OV env x (.pointer (some p))) (hy : OV env y (.pointer none)) : LO P β env L ⟨d, .binOp .neq T x y T2, ty, pos, aft, g⟩ (.bool true) := LO.eqNil (fun w => by simp only [binOp, Op.equal, Sem.run_bind, (nilP1 hT).h, Result.andThen_ok, Sem.run_pure]; rfl) (fun _ => rfl) hx hy
theorem LO.neM {p : Option Nat} (hT : ∃ K E, P.underlying T = some (.map K E)) (hx : OV env x (.map p)) (hy : OV env y (.map none)) : LO P β env L ⟨d, .binOp .neq T x y T2, ty, pos, aft, g⟩ (.bool p.isSome) := LO.eqNil (fun w => by simp only [binOp, Op.equal, Sem.run_bind, (nilM hT).h, Result.andThen_ok, Sem.run_pure]; cases p <;> rfl) (fun _ => rfl) hx hy
theorem LO.eqSl {p : Option Addr} {n c : Nat} (hT : IsSlice P T E) (hx : OV env x (.slice p n c)) (hy : OV env y (.slice none 0 0)) : LO P β env L ⟨d, .binOp .eql T x y T2, ty, pos, aft, g⟩ (.bool p.isNone) := LO.eqNil (fun w => by simp only [binOp, Op.equal, Sem.run_bind, (nilS hT).h, Result.andThen_ok, Sem.run_pure]) (fun _ => rfl) hx hy
theorem LO.lenM {α δ : Type} {kE : α → Value} {vE : δ → Value} {M : α → Option δ} {aT : Array TypeId} {n b : Nat} (hT : ∃ K E, P.underlying T = some (.map K E)) (hx : OV env x (.map (some b))) (ha : aT[0]? = some T) (hi : ∀ w, St β L w → (mapR kE vE b M).inv w) (hinj : ∀ {a b : α}, kE a = kE b → a = b) {ks : List α} (hn : ks.Nodup) (hk : ∀ a, a ∈ ks ↔ (M a).isSome = true) (hl : ks.length = n) : LO P β env L ⟨d, .call ⟨.builtin .len, #[x], aT⟩, ty, pos, aft, g⟩ (.int .i64 n) :=
  .of_run fun a w h hw => ⟨w, by
    obtain ⟨K, E, hE⟩ := hT
    obtain ⟨es, clock, hb, hs,_⟩ := hi w hw
    have hobj : (getObj b).run P w = .ok (.map es clock) w := by simp [getObj, Sem.run, hb]
    have hsz : es.size = n := by rw [← hl, ← mapG_size hinj hs hn hk, Array.length_toList]
    simp [execOp, resolve, invoke, builtin, h x (by simp [Op.operands, Call.operands]) _ hx, Builtin.len_, ha, run_underlying hE, goInt, hobj, hsz], hw⟩
end
theorem St.bagAdd {β : Bs} {L Rs : List Res} {r : Res} {w : World} (h : St β (r :: Go.SL.bagD Rs :: L) w) : St β (Go.SL.bagD (Rs ++ [r]) :: L) w := St.unfocus (A := Rs) (B := []) (by rw [List.append_nil]; exact h)
end Go.SL

namespace Go.Cell
set_option linter.unusedVariables false
section
variable {W H : Nat} {S : Nat → Bool} {p q r : Nat} {out out0 : List Bool} {gr : Bool}
theorem sorted_filter {f : Nat → Bool} {n : Nat} : ((List.range n).filter f).Pairwise (· < ·) := List.Pairwise.filter _ (List.pairwise_lt_range)
end
end Go.Cell

namespace Go.Proofs.Ytgemekpofpoopaa
open Go.SL Go.Cell
set_option linter.unusedVariables false
def zEv : EvM := ⟨0, [], []⟩
/-- The event in front of a map that has an area, and the one behind it. -/
def bef (es : List EvM) (j : Nat) : EvM := (es.find? fun e => decide (j ∈ e.t)).getD zEv
def beh (es : List EvM) (i : Nat) : EvM := (es.find? fun e => decide (i ∈ e.f)).getD zEv
structure GoodEv (n m : Nat) (es : List EvM) : Prop where
  kd : ∀ e, e ∈ es → e.kd = kindM e.f.length e.t.length ∧ 0 < e.f.length + e.t.length
  fs : ∀ e, e ∈ es → e.f.Pairwise (· < ·) ∧ ∀ i, i ∈ e.f → i < n
  ts : ∀ e, e ∈ es → e.t.Pairwise (· < ·) ∧ ∀ j, j ∈ e.t → j < m
  apart : es.Pairwise fun a b => (∀ i, i ∈ a.f → i ∉ b.f) ∧ ∀ j, j ∈ a.t → j ∉ b.t
  allF : ∀ i, i < n → ∃ e, e ∈ es ∧ i ∈ e.f
  allT : ∀ j, j < m → ∃ e, e ∈ es ∧ j ∈ e.t
section
variable {n m i j k : Nat} {es es' : List EvM} {e : EvM}
theorem kind_one {a b : Nat} (h : kindM a b = 4) : a = 1 ∧ b = 1 := by
  unfold kindM at h
  repeat' split at h
  all_goals first | omega | (exact absurd h (by decide))
theorem kind_rng (a b : Nat) : 2 ≤ kindM a b ∧ kindM a b ≤ 7 := by
  unfold kindM
  by_cases h1 : a = 0 <;> by_cases h2 : b = 0 <;> by_cases h3 : a = 1 <;> by_cases h4 : b = 1 <;> simp [h1, h2, h3, h4]
theorem one_list {l : List Nat} (h : l.length = 1) : l = [l.headD 0] := by
  cases l with
  | nil => simp at h
  | cons a l => cases l with
    | nil => rfl
    | cons b l => simp at h
theorem GoodEv.kept (h : GoodEv n m es) (he : e ∈ es) (hk : e.kd = 4) : e.f = [e.f.headD 0] ∧ e.t = [e.t.headD 0] := by
  rw [(h.kd e he).1] at hk
  exact ⟨one_list (kind_one hk).1, one_list (kind_one hk).2⟩
theorem GoodEv.uniqF (h : GoodEv n m es) {a b : EvM} (ha : a ∈ es) (hb : b ∈ es) (h1 : i ∈ a.f) (h2 : i ∈ b.f) : a = b := by
  obtain ⟨x, hx, rfl⟩ := List.mem_iff_getElem.1 ha
  obtain ⟨y, hy, rfl⟩ := List.mem_iff_getElem.1 hb
  have hp := List.pairwise_iff_getElem.1 h.apart
  rcases Nat.lt_trichotomy x y with z | z | z
  · exact absurd h2 ((hp x y hx hy z).1 i h1)
  · subst z; rfl
  · exact absurd h1 ((hp y x hy hx z).1 i h2)
theorem GoodEv.uniqT (h : GoodEv n m es) {a b : EvM} (ha : a ∈ es) (hb : b ∈ es) (h1 : j ∈ a.t) (h2 : j ∈ b.t) : a = b := by
  obtain ⟨x, hx, rfl⟩ := List.mem_iff_getElem.1 ha
  obtain ⟨y, hy, rfl⟩ := List.mem_iff_getElem.1 hb
  have hp := List.pairwise_iff_getElem.1 h.apart
  rcases Nat.lt_trichotomy x y with z | z | z
  · exact absurd h2 ((hp x y hx hy z).2 j h1)
  · subst z; rfl
  · exact absurd h1 ((hp y x hy hx z).2 j h2)
theorem find_uniq {P : EvM → Bool} (he : e ∈ es) (hp : P e = true) (hu : ∀ a, a ∈ es → P a = true → a = e) : es.find? P = some e := by
  cases h : es.find? P with
  | none => exact absurd hp (by simpa using List.find?_eq_none.1 h e he)
  | some a => rw [hu a (List.mem_of_find?_eq_some h) (List.find?_some h)]
theorem GoodEv.beh_eq (h : GoodEv n m es) (he : e ∈ es) (hi : i ∈ e.f) : beh es i = e := by
  unfold beh; rw [find_uniq he (decide_eq_true hi) fun a ha hp => h.uniqF ha he (of_decide_eq_true hp) hi]; rfl
theorem GoodEv.bef_eq (h : GoodEv n m es) (he : e ∈ es) (hj : j ∈ e.t) : bef es j = e := by
  unfold bef; rw [find_uniq he (decide_eq_true hj) fun a ha hp => h.uniqT ha he (of_decide_eq_true hp) hj]; rfl
theorem GoodEv.beh_mem (h : GoodEv n m es) (hi : i < n) : beh es i ∈ es ∧ i ∈ (beh es i).f := by
  obtain ⟨e, he, hie⟩ := h.allF i hi
  rw [h.beh_eq he hie]; exact ⟨he, hie⟩
theorem GoodEv.bef_mem (h : GoodEv n m es) (hj : j < m) : bef es j ∈ es ∧ j ∈ (bef es j).t := by
  obtain ⟨e, he, hje⟩ := h.allT j hj
  rw [h.bef_eq he hje]; exact ⟨he, hje⟩
theorem beh_none (h : ∀ e, e ∈ es → i ∉ e.f) : beh es i = zEv := by
  unfold beh; rw [List.find?_eq_none.2 fun e he => by simpa using h e he]; rfl
theorem beh_app : beh (es ++ [e]) i = if (∃ a, a ∈ es ∧ i ∈ a.f) then beh es i else if i ∈ e.f then e else zEv := by
  unfold beh
  rw [List.find?_append]
  split
  · rename_i h
    obtain ⟨a, ha, hi⟩ := h
    cases hq : es.find? (fun e => decide (i ∈ e.f)) with
    | none => exact absurd (decide_eq_true hi) (by simpa using List.find?_eq_none.1 hq a ha)
    | some b => rfl
  · rename_i h
    rw [List.find?_eq_none.2 fun a ha => by simpa using fun hi => h ⟨a, ha, hi⟩]
    split
    · rename_i q; simp [q]
    · rename_i q; simp [q]
end
/-- A history. -/
structure TkM where
  bg : Int
  fr : Nat
  ar : List Nat
  en : Int
  pa : List Nat
  ch : List Nat
def TkM.last (t : TkM) : Nat := t.ar.getD (t.ar.length - 1) 0
def TkM.up (t : TkM) : Nat := t.fr + t.ar.length
/-- What an event makes of a history that ends in front of it. -/
def chE (e : EvM) (t : TkM) : TkM := if e.kd = 4 then { t with ar := t.ar ++ [e.t.headD 0] } else { t with en := e.kd }
def chgB (N : Nat) (es : List EvM) (t : TkM) : TkM := if t.up = N then chE (beh es t.last) t else t
def cut (e : EvM) (j : Nat) : EvM := { e with f := e.f.take j }
section
variable {N n i j k k0 a : Nat} {es es' : List EvM} {e : EvM} {t : TkM} {tk tk0 : List TkM} {of of0 : Nat × Nat → Option Nat}
theorem chE_z (h : t.en = 0) : chE zEv t = t := by
  unfold chE; rw [if_neg (by decide)]; cases t; simp [zEv] at h ⊢; exact h.symm
/-- What holds of the histories of 'N' maps. -/
structure TK0 (N : Nat) (tk : List TkM) (of : Nat × Nat → Option Nat) : Prop where
  ofi : ∀ n i k, of (n, i) = some k ↔ ∃ t, tk[k]? = some t ∧ t.fr ≤ n ∧ t.ar[n - t.fr]? = some i
  pos : ∀ t, t ∈ tk → 0 < t.ar.length ∧ t.up ≤ N
  en : ∀ t, t ∈ tk → t.up = N → t.en = 0
theorem tk_last (h : 0 < t.ar.length) : t.ar[t.ar.length - 1]? = some t.last := by
  unfold TkM.last; rw [List.getD_eq_getElem?_getD, List.getElem?_eq_getElem (by omega)]; rfl
theorem TK0.lt (h : TK0 N tk of) {n i : Nat} (hs : of (n, i) = some k) : n < N ∧ k < tk.length := by
  obtain ⟨t, h1, h2, h3⟩ := (h.ofi n i k).1 hs
  have h4 := (h.pos t (List.mem_of_getElem? h1)).2
  unfold TkM.up at h4
  have h5 := (List.getElem?_eq_some_iff.1 h3).1
  exact ⟨by omega, (List.getElem?_eq_some_iff.1 h1).1⟩
/-- The history that ends with an area of the last map. -/
theorem TK0.at (h : TK0 (N + 1) tk of) (hk : of (N, a) = some k0) : ∃ t, tk[k0]? = some t ∧ t.up = N + 1 ∧ t.last = a := by
  obtain ⟨t, h1, h2, h3⟩ := (h.ofi N a k0).1 hk
  have h4 := h.pos t (List.mem_of_getElem? h1)
  unfold TkM.up at h4
  have h5 := (List.getElem?_eq_some_iff.1 h3).1
  have e : N - t.fr = t.ar.length - 1 := by omega
  refine ⟨t, h1, by unfold TkM.up; omega, ?_⟩
  rw [e, tk_last h4.1] at h3
  exact Option.some.inj h3
theorem TK0.only (h : TK0 (N + 1) tk of) (hk : of (N, a) = some k0) (hi : tk[i]? = some t) (hu : t.up = N + 1) (hl : t.last = a) : i = k0 := by
  have hp := h.pos t (List.mem_of_getElem? hi)
  have : of (N, a) = some i := (h.ofi N a i).2 ⟨t, hi, by unfold TkM.up at hu; omega, by
    have e : N - t.fr = t.ar.length - 1 := by unfold TkM.up at hu; omega
    rw [e, tk_last hp.1, hl]⟩
  rw [hk] at this
  exact (Option.some.inj this).symm
theorem cut_zero (h : ∀ t, t ∈ tk → t.up = N → t.en = 0) : tk.map (chgB N (es ++ [cut e 0])) = tk.map (chgB N es) := by
  refine List.map_congr_left fun t ht => ?_
  unfold chgB
  split
  · rw [beh_app]
    split
    · rfl
    · rename_i q
      rw [if_neg (by simp [cut]), beh_none fun a ha hi => q ⟨a, ha, hi⟩]
  · rfl
theorem cut_all : cut e e.f.length = e := by unfold cut; rw [List.take_length]
theorem chg_nil (h : ∀ t, t ∈ tk → t.up = N → t.en = 0) : tk.map (chgB N []) = tk := by
  conv => rhs; rw [← List.map_id tk]
  refine List.map_congr_left fun t ht => ?_
  unfold chgB
  split
  · rename_i q; rw [beh_none (by simp)]; exact chE_z (h t ht q)
  · rfl
/-- One more area of an event. -/
theorem chg_step (h : TK0 (N + 1) tk of) (hk : of (N, a) = some k0) (ha : e.f[j]? = some a) (hn : e.f.Nodup) (hes : ∀ x, x ∈ es → a ∉ x.f) :
    (tk.map (chgB (N + 1) (es ++ [cut e j]))).modify k0 (chE e) = tk.map (chgB (N + 1) (es ++ [cut e (j + 1)])) := by
  refine List.ext_getElem? fun i => ?_
  rw [List.getElem?_modify, List.getElem?_map, List.getElem?_map]
  cases ht : tk[i]? with
  | none => by_cases q : k0 = i <;> simp [q]
  | some t =>
    obtain ⟨hj, rfl⟩ := List.getElem?_eq_some_iff.1 ha
    have htake : ∀ x, x ∈ (cut e (j + 1)).f ↔ x ∈ (cut e j).f ∨ x = e.f[j] := fun x => by
      unfold cut
      show x ∈ e.f.take (j + 1) ↔ x ∈ e.f.take j ∨ _
      rw [List.take_succ_eq_append_getElem hj, List.mem_append, List.mem_singleton]
    have hnot : e.f[j] ∉ (cut e j).f := fun hm => by
      obtain ⟨x, hx, hx2⟩ := List.mem_iff_getElem.1 hm
      have hx3 : x < j := by
        have : x < (e.f.take j).length := hx
        rw [List.length_take] at this; omega
      have hx4 : e.f[x]'(by omega) = e.f[j] := by
        rw [← hx2]
        have hx' : x < (e.f.take j).length := hx
        have : (e.f.take j)[x]'hx' = e.f[x]'(by omega) := List.getElem_take
        exact this.symm
      exact List.pairwise_iff_getElem.1 hn x j (by omega) hj hx3 hx4
    simp only [Option.map_some]
    by_cases q : k0 = i
    · subst q
      obtain ⟨t', h1, h2, h3⟩ := h.at hk
      rw [ht] at h1; cases h1
      have he0 := h.en t (List.mem_of_getElem? ht) h2
      have hes' : ¬ ∃ x, x ∈ es ∧ e.f[j] ∈ x.f := fun ⟨x, hx, hx2⟩ => hes x hx hx2
      have b1 : beh (es ++ [cut e j]) t.last = zEv := by rw [h3, beh_app, if_neg hes', if_neg hnot]
      have b2 : beh (es ++ [cut e (j + 1)]) t.last = cut e (j + 1) := by rw [h3, beh_app, if_neg hes', if_pos ((htake _).2 (.inr rfl))]
      have e1 : chgB (N + 1) (es ++ [cut e j]) t = t := by unfold chgB; rw [if_pos h2, b1, chE_z he0]
      have e2 : chgB (N + 1) (es ++ [cut e (j + 1)]) t = chE e t := by unfold chgB; rw [if_pos h2, b2]; rfl
      simp only [if_true, e1, e2]; rfl
    · simp only [q, if_false]
      have key : chgB (N + 1) (es ++ [cut e j]) t = chgB (N + 1) (es ++ [cut e (j + 1)]) t := by
        unfold chgB
        split
        · rename_i hu
          have hla : t.last ≠ e.f[j] := fun z => q (h.only hk ht hu z).symm
          rw [beh_app, beh_app]
          split
          · rfl
          · by_cases z : t.last ∈ (cut e j).f
            · rw [if_pos z, if_pos ((htake _).2 (.inl z))]; rfl
            · rw [if_neg z, if_neg fun y => ((htake _).1 y).elim z hla]
        · rfl
      rw [key]; rfl
/-! ### Which history has an area -/
def ofC (N : Nat) (es : List EvM) (of0 : Nat × Nat → Option Nat) (x : Nat × Nat) : Option Nat :=
  if x.1 = N + 1 then ((es.find? fun e => decide (e.kd = 4) && decide (x.2 ∈ e.t)).bind fun e => of0 (N, e.f.headD 0)) else of0 x
theorem ofC_nil (h : TK0 (N + 1) tk of) : ofC N [] of = of := by
  funext x
  unfold ofC
  split
  · rename_i q
    cases hz : of x with
    | none => rfl
    | some k => have := (h.lt (n := x.1) (i := x.2) hz).1; omega
  · rfl
theorem ofC_old {i : Nat} : ofC N es of0 (N, i) = of0 (N, i) := if_neg (Nat.ne_of_lt (Nat.lt_succ_self N))
theorem ofC_skip (h : e.kd ≠ 4) : ofC N (es ++ [e]) of0 = ofC N es of0 := by
  funext x
  unfold ofC
  split
  · rw [List.find?_append]; simp [h]
  · rfl
theorem ofC_take {b : Nat} (hk : e.kd = 4) (hb : e.t = [b]) (h0 : of0 (N, e.f.headD 0) = some k0) (hes : ∀ x, x ∈ es → b ∉ x.t) : updG (ofC N es of0) (N + 1, b) k0 = ofC N (es ++ [e]) of0 := by
  funext x
  obtain ⟨x1, x2⟩ := x
  unfold updG ofC
  by_cases q : x1 = N + 1
  · subst q
    simp only [if_true]
    rw [List.find?_append]
    by_cases z : x2 = b
    · subst z
      rw [if_pos rfl, List.find?_eq_none.2 fun a ha => by simp [hes a ha]]
      simp [hk, hb, h0]
      simp [← h0]
    · rw [if_neg (by simp [z])]
      cases hq : es.find? (fun e => decide (e.kd = 4) && decide (x2 ∈ e.t)) with
      | some a => rfl
      | none => simp [hb, z]
  · rw [if_neg (by simp [q]), if_neg q, if_neg q]
end
end Go.Proofs.Ytgemekpofpoopaa

namespace Go.Proofs.Ytgemekpofpoopaa
open Go.SL Go.Cell
set_option linter.unusedVariables false
def zT : TkM := ⟨0,0, [], 0, [], []⟩
def newB (N : Nat) (evs : List EvM) (j : Nat) : Bool := decide (N = 0 ∨ (bef evs j).kd ≠ 4)
def trB (N : Nat) (evs : List EvM) (ps : List Nat) (j : Nat) : TkM := ⟨if N = 0 then 1 else (bef evs j).kd, N, [j], 0, ps, []⟩
def addCh (tk : List TkM) (ps : List Nat) (n : Nat) : List TkM := tk.mapIdx fun p t => if p ∈ ps then { t with ch := t.ch ++ [n] } else t
def parB (tk : List TkM) (N : Nat) (f : List Nat) : List Nat := (List.range tk.length).filter fun p => decide ((tk.getD p zT).up = N ∧ (tk.getD p zT).last ∈ f)
def parOf (tk : List TkM) (N : Nat) (evs : List EvM) (j : Nat) : List Nat := if N = 0 then [] else parB tk N (bef evs j).f
def lnkT (evss : List (List EvM)) (x y : TkM) : Bool := decide (x.up = y.fr ∧ 0 < y.fr ∧ x.last ∈ (bef (evss.getD y.fr []) (y.ar.headD 0)).f)
structure TInvQ (evss : List (List EvM)) (ms : List Nat) (j : Nat) (tk : List TkM) (of : Nat × Nat → Option Nat) : Prop where
  base : TK0 ms.length tk of
  len : evss.length = ms.length
  tot : ∀ n i, n < ms.length → i < ms.getD n 0 → (n + 1 < ms.length ∨ i < j ∨ newB n (evss.getD n []) i = false) → ∃ k, of (n, i) = some k
  hd : ∀ t, t ∈ tk → t.fr + 1 = ms.length → t.ar.headD 0 < j
  rng : ∀ t, t ∈ tk → ∀ (j a : Nat), t.ar[j]? = some a → a < ms.getD (t.fr + j) 0
  bg : ∀ t, t ∈ tk → (t.fr = 0 ∧ t.bg = 1) ∨ (0 < t.fr ∧ t.bg = (bef (evss.getD t.fr []) (t.ar.headD 0)).kd ∧ t.bg ≠ 4)
  step : ∀ t, t ∈ tk → ∀ (j a b : Nat), t.ar[j]? = some a → t.ar[j + 1]? = some b → (beh (evss.getD (t.fr + j + 1) []) a).kd = 4 ∧ (beh (evss.getD (t.fr + j + 1) []) a).t = [b]
  en : ∀ t, t ∈ tk → t.en = (if t.up = ms.length then 0 else (beh (evss.getD t.up []) t.last).kd) ∧ t.en ≠ 4
  ord : tk.Pairwise fun a b => a.fr < b.fr ∨ a.fr = b.fr ∧ a.ar.headD 0 < b.ar.headD 0
  pa : ∀ (k : Nat) (t : TkM), tk[k]? = some t → t.pa = (List.range tk.length).filter fun i => lnkT evss (tk.getD i zT) t
  ch : ∀ (k : Nat) (t : TkM), tk[k]? = some t → t.ch = (List.range tk.length).filter fun i => lnkT evss t (tk.getD i zT)
structure TInv (evss : List (List EvM)) (ms : List Nat) (tk : List TkM) (of : Nat × Nat → Option Nat) : Prop where
  q : TInvQ evss ms (ms.getD (ms.length - 1) 0) tk of
theorem TInv.zero : TInv [] [] [] (fun _ => none) := ⟨⟨⟨fun n i k => by simp, by simp, by simp⟩, rfl, fun n i h => absurd h (Nat.not_lt_zero _), by simp, by simp, by simp, by simp, by simp, by simp, fun k t h => by simp at h, fun k t h => by simp at h⟩⟩
section
variable {evss : List (List EvM)} {ms : List Nat} {evs : List EvM} {N m j k : Nat} {tk : List TkM} {of : Nat × Nat → Option Nat} {t : TkM}
theorem getD_app1 {α : Type} {l : List α} {x d : α} {i : Nat} (h : i < l.length) : (l ++ [x]).getD i d = l.getD i d := by
  rw [List.getD_eq_getElem?_getD, List.getD_eq_getElem?_getD, List.getElem?_append_left h]
theorem getD_app2 {α : Type} {l : List α} {x d : α} : (l ++ [x]).getD l.length d = x := by
  rw [List.getD_eq_getElem?_getD, List.getElem?_append_right (Nat.le_refl _), Nat.sub_self]; rfl
theorem getD_of {α : Type} {l : List α} {d x : α} {i : Nat} (h : l[i]? = some x) : l.getD i d = x := by rw [List.getD_eq_getElem?_getD, h]; rfl
theorem head_app {l : List Nat} {b : Nat} (h : 0 < l.length) : (l ++ [b]).headD 0 = l.headD 0 := by cases l with | nil => simp at h | cons a l => rfl
theorem head_at {l : List Nat} (h : 0 < l.length) : l[0]? = some (l.headD 0) := by cases l with | nil => simp at h | cons a l => rfl
/-- A history behind the change of a map. -/
theorem chg_cases (N : Nat) (evs : List EvM) (t : TkM) : (t.up ≠ N ∧ chgB N evs t = t) ∨ (t.up = N ∧ (beh evs t.last).kd = 4 ∧ chgB N evs t = { t with ar := t.ar ++ [(beh evs t.last).t.headD 0] }) ∨ (t.up = N ∧ (beh evs t.last).kd ≠ 4 ∧ chgB N evs t = { t with en := (beh evs t.last).kd }) := by
  unfold chgB chE
  by_cases h : t.up = N
  · rw [if_pos h]
    by_cases k : (beh evs t.last).kd = 4
    · rw [if_pos k]; exact .inr (.inl ⟨h, k, rfl⟩)
    · rw [if_neg k]; exact .inr (.inr ⟨h, k, rfl⟩)
  · rw [if_neg h]; exact .inl ⟨h, rfl⟩
theorem chg_fr : (chgB N evs t).fr = t.fr ∧ (chgB N evs t).bg = t.bg ∧ (chgB N evs t).pa = t.pa ∧ (chgB N evs t).ch = t.ch := by
  rcases chg_cases N evs t with ⟨_, e⟩ | ⟨_,_, e⟩ | ⟨_,_, e⟩ <;> rw [e] <;> exact ⟨rfl, rfl, rfl, rfl⟩
theorem chg_head (h : 0 < t.ar.length) : (chgB N evs t).ar.headD 0 = t.ar.headD 0 := by
  rcases chg_cases N evs t with ⟨_, e⟩ | ⟨_,_, e⟩ | ⟨_,_, e⟩ <;> rw [e]
  exact head_app h
/-- The first map. -/
theorem TInvQ.first (h : TInv [] [] tk of) : TInvQ [[]] [m] 0 tk of := by
  have hq := h.q
  have e : tk = [] := by
    cases tk with
    | nil => rfl
    | cons t l => have z := hq.base.pos t (by simp); unfold TkM.up at z; rw [List.length_nil] at z; omega
  subst e
  have ho : ∀ n i, of (n, i) = none := fun n i => by
    cases z : of (n, i) with
    | none => rfl
    | some k => have := (hq.base.lt z).1; simp at this
  exact ⟨⟨fun n i k => by rw [ho]; simp, by simp, by simp⟩, rfl, fun n i h1 h2 h3 => by
    have h1 : n = 0 := by simpa using h1
    subst h1
    rcases h3 with z | z | z
    · simp at z
    · omega
    · simp [newB] at z, by simp, by simp, by simp, by simp, by simp, by simp, fun k t h => by simp at h, fun k t h => by simp at h⟩
/-- A further map: what its events change. -/
theorem TInvQ.change (h : TInv evss ms tk of) (hN : ms.length = N + 1) (hg : GoodEv (ms.getD N 0) m evs) : TInvQ (evss ++ [evs]) (ms ++ [m]) 0 (tk.map (chgB (N + 1) evs)) (ofC N evs of) := by
  have hq := h.q
  have hb := hq.base
  rw [hN] at hb
  have hel : evss.length = N + 1 := by rw [hq.len, hN]
  have hE1 : ∀ n, n < N + 1 → (evss ++ [evs]).getD n [] = evss.getD n [] := fun n hn => getD_app1 (by omega)
  have hE2 : (evss ++ [evs]).getD (N + 1) [] = evs := by rw [← hel]; exact getD_app2
  have hM1 : ∀ n, n < N + 1 → (ms ++ [m]).getD n 0 = ms.getD n 0 := fun n hn => getD_app1 (by omega)
  have hM2 : (ms ++ [m]).getD (N + 1) 0 = m := by rw [← hN]; exact getD_app2
  have hln : (ms ++ [m]).length = N + 2 := by rw [List.length_append, hN]; rfl
  have hlast : ∀ t, t ∈ tk → t.up = N + 1 → t.last < ms.getD N 0 := fun t ht hu => by
    have h1 := hq.rng t ht _ _ (tk_last (hb.pos t ht).1)
    have h2 := (hb.pos t ht).1
    unfold TkM.up at hu
    rwa [show t.fr + (t.ar.length - 1) = N by omega] at h1
  have hkept : ∀ t, t ∈ tk → t.up = N + 1 → (beh evs t.last).kd = 4 → beh evs t.last ∈ evs ∧ (beh evs t.last).f = [t.last] ∧ (beh evs t.last).t = [(beh evs t.last).t.headD 0] ∧ (beh evs t.last).t.headD 0 < m := fun t ht hu hk => by
    obtain ⟨h1, h2⟩ := hg.beh_mem (hlast t ht hu)
    obtain ⟨h3, h4⟩ := hg.kept h1 hk
    refine ⟨h1, ?_, h4, (hg.ts _ h1).2 _ (by rw [h4]; simp)⟩
    have h5 : t.last ∈ [(beh evs t.last).f.headD 0] := by rw [← h3]; exact h2
    exact h3.trans (congrArg (fun x => [x]) (List.mem_singleton.1 h5).symm)
  have hget : ∀ {k t}, (tk.map (chgB (N + 1) evs))[k]? = some t → ∃ t0, tk[k]? = some t0 ∧ t = chgB (N + 1) evs t0 := fun {k t} hk => by
    rw [List.getElem?_map] at hk
    cases z : tk[k]? with
    | none => rw [z] at hk; cases hk
    | some t0 => rw [z] at hk; exact ⟨t0, z, (Option.some.inj hk).symm⟩
  have hmem : ∀ {t}, t ∈ tk.map (chgB (N + 1) evs) → ∃ t0, t0 ∈ tk ∧ t = chgB (N + 1) evs t0 := fun {t} ht => by
    obtain ⟨t0, h1, h2⟩ := List.mem_map.1 ht; exact ⟨t0, h1, h2.symm⟩
  refine ⟨⟨fun n i k => ?_, fun t ht => ?_, fun t ht hu => ?_⟩, by rw [List.length_append, hln, hel]; rfl, fun n i hn hi hc => ?_, fun t ht hf => ?_, fun t ht => ?_, fun t ht => ?_, fun t ht => ?_, fun t ht => ?_, ?_, fun k t hk => ?_, fun k t hk => ?_⟩
  · -- which history has an area
    unfold ofC
    by_cases q : n = N + 1
    · subst q
      simp only [if_true]
      constructor
      · intro hs
        obtain ⟨e, he1, he2⟩ := Option.bind_eq_some_iff.1 hs
        have hem := List.mem_of_find?_eq_some he1
        have hp := List.find?_some he1
        simp only [Bool.and_eq_true, decide_eq_true_eq] at hp
        obtain ⟨hk3, hk4⟩ := hg.kept hem hp.1
        obtain ⟨t, t1, t2, t3⟩ := hb.at he2
        have hbe : beh evs t.last = e := hg.beh_eq hem (by rw [t3, hk3]; simp)
        have hbi : e.t.headD 0 = i := by have := hp.2; rw [hk4] at this; exact (List.mem_singleton.1 this).symm
        refine ⟨chgB (N + 1) evs t, by rw [List.getElem?_map, t1]; rfl, ?_, ?_⟩
        · rw [chg_fr.1]; unfold TkM.up at t2; omega
        · rcases chg_cases (N + 1) evs t with ⟨z,_⟩ | ⟨_,_, z⟩ | ⟨_, z,_⟩
          · exact absurd t2 z
          · rw [z, hbe, hbi]
            show (t.ar ++ [i])[N + 1 - t.fr]? = some i
            rw [List.getElem?_append_right (by unfold TkM.up at t2; omega), show N + 1 - t.fr - t.ar.length = 0 by unfold TkM.up at t2; omega]; rfl
          · rw [hbe] at z; exact absurd hp.1 z
      · rintro ⟨t, h1, h2, h3⟩
        obtain ⟨t0, h4, rfl⟩ := hget h1
        have hp := hb.pos t0 (List.mem_of_getElem? h4)
        have h5 := (List.getElem?_eq_some_iff.1 h3).1
        rw [chg_fr.1] at h2 h3 h5
        rcases chg_cases (N + 1) evs t0 with ⟨z1, z⟩ | ⟨z1, z2, z⟩ | ⟨z1, z2, z⟩
        · rw [z] at h5; unfold TkM.up at hp; omega
        · rw [z] at h3
          have h3 : (t0.ar ++ [(beh evs t0.last).t.headD 0])[N + 1 - t0.fr]? = some i := h3
          rw [List.getElem?_append_right (by unfold TkM.up at z1; omega), show N + 1 - t0.fr - t0.ar.length = 0 by unfold TkM.up at z1; omega] at h3
          have h3 : (beh evs t0.last).t.headD 0 = i := Option.some.inj h3
          obtain ⟨k1, k2, k3, k4⟩ := hkept t0 (List.mem_of_getElem? h4) z1 z2
          rw [find_uniq (e := beh evs t0.last) k1 (by rw [z2, k3, h3]; simp) (fun a ha hp => by
            simp only [Bool.and_eq_true, decide_eq_true_eq] at hp
            exact hg.uniqT ha k1 hp.2 (by rw [k3, h3]; simp))]
          show of (N, (beh evs t0.last).f.headD 0) = some k
          rw [k2]
          show of (N, t0.last) = some k
          refine (hb.ofi N t0.last k).2 ⟨t0, h4, by unfold TkM.up at z1; omega, ?_⟩
          rw [show N - t0.fr = t0.ar.length - 1 by unfold TkM.up at z1; omega]
          exact tk_last hp.1
        · rw [z] at h5
          have h5 : N + 1 - t0.fr < t0.ar.length := h5
          unfold TkM.up at z1; omega
    · rw [if_neg q]
      constructor
      · intro hs
        have hlt := (hb.lt hs).1
        obtain ⟨t, h1, h2, h3⟩ := (hb.ofi n i k).1 hs
        refine ⟨chgB (N + 1) evs t, by rw [List.getElem?_map, h1]; rfl, by rw [chg_fr.1]; exact h2, ?_⟩
        rw [chg_fr.1]
        rcases chg_cases (N + 1) evs t with ⟨_, z⟩ | ⟨_,_, z⟩ | ⟨_,_, z⟩ <;> rw [z]
        · exact h3
        · show (t.ar ++ _)[n - t.fr]? = some i
          rw [List.getElem?_append_left (List.getElem?_eq_some_iff.1 h3).1]; exact h3
        · exact h3
      · rintro ⟨t, h1, h2, h3⟩
        obtain ⟨t0, h4, rfl⟩ := hget h1
        rw [chg_fr.1] at h2 h3
        refine (hb.ofi n i k).2 ⟨t0, h4, h2, ?_⟩
        rcases chg_cases (N + 1) evs t0 with ⟨_, z⟩ | ⟨z1,_, z⟩ | ⟨_,_, z⟩ <;> rw [z] at h3
        · exact h3
        · have h3 : (t0.ar ++ [(beh evs t0.last).t.headD 0])[n - t0.fr]? = some i := h3
          have h5 := (List.getElem?_eq_some_iff.1 h3).1
          rw [List.length_append] at h5
          simp only [List.length_singleton] at h5
          unfold TkM.up at z1
          rwa [List.getElem?_append_left (by omega)] at h3
        · exact h3
  · obtain ⟨t0, h1, rfl⟩ := hmem ht
    have hp := hb.pos t0 h1
    rw [hln]
    rcases chg_cases (N + 1) evs t0 with ⟨_, z⟩ | ⟨z1,_, z⟩ | ⟨_,_, z⟩ <;> rw [z]
    · exact ⟨hp.1, by omega⟩
    · refine ⟨by show 0 < (t0.ar ++ _).length; rw [List.length_append]; omega, ?_⟩
      show t0.fr + (t0.ar ++ _).length ≤ N + 2
      unfold TkM.up at z1; rw [List.length_append, List.length_singleton]; omega
    · exact ⟨hp.1, by show t0.up ≤ N + 2; omega⟩
  · obtain ⟨t0, h1, rfl⟩ := hmem ht
    have hp := hb.pos t0 h1
    rw [hln] at hu
    rcases chg_cases (N + 1) evs t0 with ⟨_, z⟩ | ⟨z1,_, z⟩ | ⟨_,_, z⟩ <;> rw [z] at hu ⊢
    · omega
    · exact hb.en t0 h1 z1
    · have hu : t0.up = N + 2 := hu
      omega
  · rw [hln] at hn hc
    by_cases q : n = N + 1
    · subst q
      rw [hM2] at hi
      rcases hc with z | z | z
      · omega
      · omega
      · rw [hE2] at z
        unfold newB at z
        have z : (bef evs i).kd = 4 := by simpa using z
        obtain ⟨h1, h2⟩ := hg.bef_mem hi
        obtain ⟨h3, h4⟩ := hg.kept h1 z
        have h5 := (hg.fs _ h1).2 ((bef evs i).f.headD 0) (by rw [h3]; simp)
        obtain ⟨k, hk⟩ := hq.tot N _ (by omega) h5 (.inr (.inl (by rw [hN]; exact h5)))
        refine ⟨k, ?_⟩
        unfold ofC
        simp only [if_true]
        rw [find_uniq (e := bef evs i) h1 (by simp [z, h2]) (fun a ha hp => by
          simp only [Bool.and_eq_true, decide_eq_true_eq] at hp
          exact hg.uniqT ha h1 hp.2 h2)]
        exact hk
    · rw [hM1 n (by omega)] at hi
      obtain ⟨k, hk⟩ := hq.tot n i (by omega) hi (by
        rw [hN]
        by_cases y : n + 1 < N + 1
        · exact .inl y
        · have : n = N := by omega
          subst this
          exact .inr (.inl hi))
      refine ⟨k, ?_⟩
      unfold ofC; rw [if_neg q]; exact hk
  · obtain ⟨t0, h1, rfl⟩ := hmem ht
    rw [hln, chg_fr.1] at hf
    have hp := hb.pos t0 h1
    unfold TkM.up at hp; omega
  · obtain ⟨t0, h1, rfl⟩ := hmem ht
    intro j a hj
    have hp := hb.pos t0 h1
    have old : ∀ j a, t0.ar[j]? = some a → a < (ms ++ [m]).getD (t0.fr + j) 0 := fun j a hj => by
      have := (List.getElem?_eq_some_iff.1 hj).1
      unfold TkM.up at hp
      rw [hM1 _ (by omega)]; exact hq.rng t0 h1 j a hj
    rw [chg_fr.1]
    rcases chg_cases (N + 1) evs t0 with ⟨_, z⟩ | ⟨z1, z2, z⟩ | ⟨_,_, z⟩ <;> rw [z] at hj
    · exact old j a hj
    · have hj : (t0.ar ++ [(beh evs t0.last).t.headD 0])[j]? = some a := hj
      by_cases y : j < t0.ar.length
      · rw [List.getElem?_append_left y] at hj; exact old j a hj
      · have h5 := (List.getElem?_eq_some_iff.1 hj).1
        rw [List.length_append, List.length_singleton] at h5
        rw [List.getElem?_append_right (by omega), show j - t0.ar.length = 0 by omega] at hj
        have hj : (beh evs t0.last).t.headD 0 = a := Option.some.inj hj
        unfold TkM.up at z1
        rw [show t0.fr + j = N + 1 by omega, hM2, ← hj]
        exact (hkept t0 h1 z1 z2).2.2.2
    · exact old j a hj
  · obtain ⟨t0, h1, rfl⟩ := hmem ht
    have hp := hb.pos t0 h1
    rw [chg_fr.1, chg_fr.2.1, chg_head hp.1]
    unfold TkM.up at hp
    rw [hE1 _ (by omega)]
    exact hq.bg t0 h1
  · obtain ⟨t0, h1, rfl⟩ := hmem ht
    intro j a b ha hb'
    have hp := hb.pos t0 h1
    have old : ∀ j a b, t0.ar[j]? = some a → t0.ar[j + 1]? = some b → (beh ((evss ++ [evs]).getD (t0.fr + j + 1) []) a).kd = 4 ∧ (beh ((evss ++ [evs]).getD (t0.fr + j + 1) []) a).t = [b] := fun j a b ha hb' => by
      have := (List.getElem?_eq_some_iff.1 hb').1
      unfold TkM.up at hp
      rw [hE1 _ (by omega)]; exact hq.step t0 h1 j a b ha hb'
    rw [chg_fr.1]
    rcases chg_cases (N + 1) evs t0 with ⟨_, z⟩ | ⟨z1, z2, z⟩ | ⟨_,_, z⟩ <;> rw [z] at ha hb'
    · exact old j a b ha hb'
    · have ha : (t0.ar ++ [(beh evs t0.last).t.headD 0])[j]? = some a := ha
      have hb' : (t0.ar ++ [(beh evs t0.last).t.headD 0])[j + 1]? = some b := hb'
      by_cases y : j + 1 < t0.ar.length
      · rw [List.getElem?_append_left (by omega)] at ha hb'; exact old j a b ha hb'
      · have h5 := (List.getElem?_eq_some_iff.1 hb').1
        rw [List.length_append, List.length_singleton] at h5
        rw [List.getElem?_append_right (by omega), show j + 1 - t0.ar.length = 0 by omega] at hb'
        rw [List.getElem?_append_left (by omega), show j = t0.ar.length - 1 by omega, tk_last hp.1] at ha
        have hb' : (beh evs t0.last).t.headD 0 = b := Option.some.inj hb'
        have ha : t0.last = a := Option.some.inj ha
        obtain ⟨k1, k2, k3, k4⟩ := hkept t0 h1 z1 z2
        unfold TkM.up at z1
        rw [show t0.fr + j + 1 = N + 1 by omega, hE2, ← ha, ← hb']
        exact ⟨z2, k3⟩
    · exact old j a b ha hb'
  · obtain ⟨t0, h1, rfl⟩ := hmem ht
    have hp := hb.pos t0 h1
    obtain ⟨e1, e2⟩ := hq.en t0 h1
    rw [hN] at e1
    rw [hln]
    rcases chg_cases (N + 1) evs t0 with ⟨z1, z⟩ | ⟨z1, z2, z⟩ | ⟨z1, z2, z⟩ <;> rw [z]
    · rw [if_neg z1] at e1
      rw [if_neg (by omega), hE1 _ (by omega)]
      exact ⟨e1, e2⟩
    · rw [if_pos z1] at e1
      have : ({ t0 with ar := t0.ar ++ [(beh evs t0.last).t.headD 0] } : TkM).up = N + 2 := by
        show t0.fr + (t0.ar ++ _).length = _
        unfold TkM.up at z1; rw [List.length_append, List.length_singleton]; omega
      rw [if_pos this]; exact ⟨e1, e2⟩
    · have : ({ t0 with en := (beh evs t0.last).kd } : TkM).up = N + 1 := z1
      rw [if_neg (by omega), this, hE2]
      exact ⟨rfl, z2⟩
  · refine List.pairwise_map.2 (hq.ord.imp_of_mem fun {a b} ha hb' hab => ?_)
    rw [chg_fr.1, chg_fr.1, chg_head (hb.pos a ha).1, chg_head (hb.pos b hb').1]; exact hab
  all_goals
    obtain ⟨t0, h4, rfl⟩ := hget hk
    have h1 := List.mem_of_getElem? h4
    have hln1 : ∀ x y, x ∈ tk → y ∈ tk → lnkT (evss ++ [evs]) (chgB (N + 1) evs x) (chgB (N + 1) evs y) = lnkT evss x y := fun x y hx hy => by
      have px := hb.pos x hx
      have py := hb.pos y hy
      unfold lnkT
      rw [chg_fr.1, chg_head py.1]
      have hy2 : y.fr < N + 1 := by unfold TkM.up at py; omega
      rw [hE1 _ hy2]
      refine decide_eq_decide.2 ?_
      rcases chg_cases (N + 1) evs x with ⟨_, z⟩ | ⟨z1,_, z⟩ | ⟨z1,_, z⟩ <;> rw [z]
      · have : ({ x with ar := x.ar ++ [(beh evs x.last).t.headD 0] } : TkM).up = N + 2 := by
          show x.fr + (x.ar ++ _).length = _
          unfold TkM.up at z1; rw [List.length_append, List.length_singleton]; omega
        constructor
        · rintro ⟨c,_⟩; omega
        · rintro ⟨c,_⟩; omega
      · exact Iff.rfl
    have hgd : ∀ i, i < tk.length → (tk.map (chgB (N + 1) evs)).getD i zT = chgB (N + 1) evs (tk.getD i zT) ∧ tk.getD i zT ∈ tk := fun i hi => by
      have e : tk[i]? = some tk[i] := List.getElem?_eq_getElem hi
      rw [getD_of (x := chgB (N + 1) evs tk[i]) (by rw [List.getElem?_map, e]; rfl), getD_of e]
      exact ⟨rfl, List.getElem_mem hi⟩
  · rw [chg_fr.2.2.1, hq.pa k t0 h4, List.length_map]
    refine List.filter_congr fun i hi => ?_
    obtain ⟨g1, g2⟩ := hgd i (List.mem_range.1 hi)
    rw [g1, hln1 _ _ g2 h1]
  · rw [chg_fr.2.2.2, hq.ch k t0 h4, List.length_map]
    refine List.filter_congr fun i hi => ?_
    obtain ⟨g1, g2⟩ := hgd i (List.mem_range.1 hi)
    rw [g1, hln1 _ _ h1 g2]
end
end Go.Proofs.Ytgemekpofpoopaa

namespace Go.Proofs.Ytgemekpofpoopaa
open Go.SL Go.Cell
set_option linter.unusedVariables false
section
variable {E : List (List EvM)} {Ms : List Nat} {N j k n : Nat} {tk : List TkM} {of : Nat × Nat → Option Nat} {t x : TkM} {ps : List Nat}
def adj (ps : List Nat) (K p : Nat) (t : TkM) : TkM := if p ∈ ps then { t with ch := t.ch ++ [K] } else t
theorem adj_same {K p : Nat} : (adj ps K p t).fr = t.fr ∧ (adj ps K p t).ar = t.ar ∧ (adj ps K p t).bg = t.bg ∧ (adj ps K p t).en = t.en ∧ (adj ps K p t).pa = t.pa ∧ (adj ps K p t).up = t.up ∧ (adj ps K p t).last = t.last := by
  unfold adj; split <;> exact ⟨rfl, rfl, rfl, rfl, rfl, rfl, rfl⟩
theorem addCh_len {l : List TkM} {n : Nat} : (addCh l ps n).length = l.length := by unfold addCh; rw [List.length_mapIdx]
theorem addCh_get {l : List TkM} {n : Nat} : (addCh l ps n)[k]? = (l[k]?).map (adj ps n k) := by unfold addCh adj; rw [List.getElem?_mapIdx]
theorem parOf_lt {evs : List EvM} (h : k ∈ parOf tk N evs j) : k < tk.length := by
  unfold parOf parB at h
  split at h
  · simp at h
  · exact List.mem_range.1 (List.mem_filter.1 h).1
theorem born_get (hps : ∀ p, p ∈ ps → p < tk.length) (h : (addCh (tk ++ [x]) ps tk.length)[k]? = some t) : (∃ t0, tk[k]? = some t0 ∧ t = adj ps tk.length k t0) ∨ (k = tk.length ∧ t = x) := by
  rw [addCh_get] at h
  by_cases q : k < tk.length
  · rw [List.getElem?_append_left q, List.getElem?_eq_getElem q] at h
    exact .inl ⟨tk[k], List.getElem?_eq_getElem q, (Option.some.inj h).symm⟩
  · by_cases z : k = tk.length
    · subst z
      rw [List.getElem?_append_right (Nat.le_refl _), Nat.sub_self] at h
      refine .inr ⟨rfl, ?_⟩
      have h := (Option.some.inj h).symm
      rw [h]; unfold adj; rw [if_neg fun y => absurd (hps _ y) (Nat.lt_irrefl _)]
    · rw [List.getElem?_eq_none (by rw [List.length_append, List.length_singleton]; omega)] at h; cases h
theorem born_old (h : tk[k]? = some t) : (addCh (tk ++ [x]) ps tk.length)[k]? = some (adj ps tk.length k t) := by
  rw [addCh_get, List.getElem?_append_left (List.getElem?_eq_some_iff.1 h).1, h]; rfl
theorem born_new (hps : ∀ p, p ∈ ps → p < tk.length) : (addCh (tk ++ [x]) ps tk.length)[tk.length]? = some x := by
  rw [addCh_get, List.getElem?_append_right (Nat.le_refl _), Nat.sub_self]
  show some (adj ps tk.length tk.length x) = _
  unfold adj; rw [if_neg fun y => absurd (hps _ y) (Nat.lt_irrefl _)]
def birthM (N : Nat) (evs : List EvM) (s : List TkM × (Nat × Nat → Option Nat)) (j : Nat) : List TkM × (Nat × Nat → Option Nat) :=
  if newB N evs j = true then (addCh (s.1 ++ [trB N evs (parOf s.1 N evs j) j]) (parOf s.1 N evs j) s.1.length, updG s.2 (N, j) s.1.length) else s
def birthsM (N : Nat) (evs : List EvM) (s : List TkM × (Nat × Nat → Option Nat)) : Nat → List TkM × (Nat × Nat → Option Nat)
  | 0 => s
  | k + 1 => birthM N evs (birthsM N evs s k) k
/-- No area of the last map that has not been looked at has a new history. -/
theorem TInvQ.free (h : TInvQ E Ms j tk of) (hN : Ms.length = N + 1) (hg : 0 < N → GoodEv (Ms.getD (N - 1) 0) (Ms.getD N 0) (E.getD N [])) (hn : newB N (E.getD N []) j = true) : of (N, j) = none := by
  cases z : of (N, j) with
  | none => rfl
  | some k =>
    obtain ⟨t, t1, t2, t3⟩ := (h.base.ofi N j k).1 z
    have tm := List.mem_of_getElem? t1
    exfalso
    by_cases q : t.fr = N
    · have h1 := h.hd t tm (by omega)
      rw [q, Nat.sub_self] at t3
      have := head_at (h.base.pos t tm).1
      rw [t3] at this
      have := Option.some.inj this
      omega
    · obtain ⟨a, ha⟩ : ∃ a, t.ar[N - t.fr - 1]? = some a := ⟨_, List.getElem?_eq_getElem (by have := (List.getElem?_eq_some_iff.1 t3).1; omega)⟩
      have hs := h.step t tm (N - t.fr - 1) a j ha (by rw [show N - t.fr - 1 + 1 = N - t.fr by omega]; exact t3)
      rw [show t.fr + (N - t.fr - 1) + 1 = N by omega] at hs
      have hr := h.rng t tm _ _ ha
      rw [show t.fr + (N - t.fr - 1) = N - 1 by omega] at hr
      have hg := hg (by omega)
      obtain ⟨g1, g2⟩ := hg.beh_mem hr
      have hb : bef (E.getD N []) j = beh (E.getD N []) a := hg.bef_eq g1 (by rw [hs.2]; simp)
      unfold newB at hn
      have hn := of_decide_eq_true hn
      rw [hb] at hn
      rcases hn with y | y
      · omega
      · exact y hs.1
theorem TInvQ.skip (h : TInvQ E Ms j tk of) (hN : Ms.length = N + 1) (hn : ¬ newB N (E.getD N []) j = true) : TInvQ E Ms (j + 1) tk of := by
  refine ⟨h.base, h.len, fun n i h1 h2 h3 => h.tot n i h1 h2 ?_, fun t ht hf => Nat.lt_succ_of_lt (h.hd t ht hf), h.rng, h.bg, h.step, h.en, h.ord, h.pa, h.ch⟩
  rcases h3 with z | z | z
  · exact .inl z
  · rcases Nat.lt_succ_iff_lt_or_eq.1 z with y | y
    · exact .inr (.inl y)
    · subst y
      by_cases q : n + 1 < Ms.length
      · exact .inl q
      · have : n = N := by omega
        subst this
        exact .inr (.inr (by simpa using hn))
  · exact .inr (.inr z)
theorem TInvQ.born (h : TInvQ E Ms j tk of) (hN : Ms.length = N + 1) (hj : j < Ms.getD N 0) (hg : 0 < N → GoodEv (Ms.getD (N - 1) 0) (Ms.getD N 0) (E.getD N [])) (hn : newB N (E.getD N []) j = true) :
    TInvQ E Ms (j + 1) (addCh (tk ++ [trB N (E.getD N []) (parOf tk N (E.getD N []) j) j]) (parOf tk N (E.getD N []) j) tk.length) (updG of (N, j) tk.length) := by
  have hfree := h.free hN hg hn
  obtain ⟨ps, hps0⟩ : ∃ ps, ps = parOf tk N (E.getD N []) j := ⟨_, rfl⟩
  rw [← hps0]
  have hps : ∀ p, p ∈ ps → p < tk.length := fun p hp => parOf_lt (hps0 ▸ hp)
  obtain ⟨x, hx⟩ : ∃ x, x = trB N (E.getD N []) ps j := ⟨_, rfl⟩
  rw [← hx]
  have xfr : x.fr = N := by rw [hx]; rfl
  have xar : x.ar = [j] := by rw [hx]; rfl
  have xen : x.en = 0 := by rw [hx]; rfl
  have xpa : x.pa = ps := by rw [hx]; rfl
  have xch : x.ch = [] := by rw [hx]; rfl
  have xup : x.up = N + 1 := by unfold TkM.up; rw [xfr, xar]; rfl
  have xbg : x.bg = if N = 0 then 1 else (bef (E.getD N []) j).kd := by rw [hx]; rfl
  have hb := h.base
  rw [hN] at hb
  have hfr : ∀ t, t ∈ tk → t.fr ≤ N := fun t ht => by have := hb.pos t ht; unfold TkM.up at this; omega
  have hmem : ∀ {t}, t ∈ addCh (tk ++ [x]) ps tk.length → (∃ t0 k, t0 ∈ tk ∧ t = adj ps tk.length k t0) ∨ t = x := fun {t} ht => by
    obtain ⟨k, hk⟩ := List.mem_iff_getElem?.1 ht
    rcases born_get hps hk with ⟨t0, h1, h2⟩ | ⟨_, h2⟩
    · exact .inl ⟨t0, k, List.mem_of_getElem? h1, h2⟩
    · exact .inr h2
  have hlenA : (addCh (tk ++ [x]) ps tk.length).length = tk.length + 1 := by rw [addCh_len, List.length_append]; rfl
  have hgd : ∀ i, i < tk.length → (addCh (tk ++ [x]) ps tk.length).getD i zT = adj ps tk.length i (tk.getD i zT) ∧ tk.getD i zT ∈ tk := fun i hi => by
    have e : tk[i]? = some tk[i] := List.getElem?_eq_getElem hi
    rw [getD_of (born_old e), getD_of e]; exact ⟨rfl, List.getElem_mem hi⟩
  have hgx : (addCh (tk ++ [x]) ps tk.length).getD tk.length zT = x := getD_of (born_new hps)
  have ladj : ∀ a b K p r, lnkT E (adj ps K p a) (adj ps K r b) = lnkT E a b := fun a b K p r => by
    unfold lnkT
    obtain ⟨a1, a2,_,_,_, a6, a7⟩ := adj_same (ps := ps) (K := K) (p := p) (t := a)
    obtain ⟨b1, b2,_,_,_,_,_⟩ := adj_same (ps := ps) (K := K) (p := r) (t := b)
    rw [a6, a7, b1, b2]
  have ladj2 : ∀ a b K r, lnkT E a (adj ps K r b) = lnkT E a b := fun a b K r => by
    unfold lnkT
    obtain ⟨b1, b2,_,_,_,_,_⟩ := adj_same (ps := ps) (K := K) (p := r) (t := b)
    rw [b1, b2]
  have ladj1 : ∀ a b K p, lnkT E (adj ps K p a) b = lnkT E a b := fun a b K p => by
    unfold lnkT
    obtain ⟨a1, a2,_,_,_, a6, a7⟩ := adj_same (ps := ps) (K := K) (p := p) (t := a)
    rw [a6, a7]
  have lx1 : ∀ t, t.fr ≤ N → lnkT E x t = false := fun t ht => by
    unfold lnkT; rw [xup]; exact decide_eq_false fun z => by omega
  have lx2 : ∀ t, lnkT E t x = decide (0 < N ∧ t.up = N ∧ t.last ∈ (bef (E.getD N []) j).f) := fun t => by
    unfold lnkT; rw [xfr, xar]
    exact decide_eq_decide.2 ⟨fun ⟨a, b, c⟩ => ⟨b, a, c⟩, fun ⟨a, b, c⟩ => ⟨b, a, c⟩⟩
  have hpsm : ∀ p, p < tk.length → (p ∈ ps ↔ (0 < N ∧ (tk.getD p zT).up = N ∧ (tk.getD p zT).last ∈ (bef (E.getD N []) j).f)) := fun p hp => by
    rw [hps0]; unfold parOf parB
    split
    · rename_i q; subst q; simp
    · rename_i q
      rw [List.mem_filter, List.mem_range, decide_eq_true_eq]
      exact ⟨fun ⟨_, a⟩ => ⟨by omega, a⟩, fun ⟨_, a⟩ => ⟨hp, a⟩⟩
  refine ⟨⟨fun n i k => ?_, fun t ht => ?_, fun t ht hu => ?_⟩, h.len, fun n i h1 h2 h3 => ?_, fun t ht hf => ?_, fun t ht => ?_, fun t ht => ?_, fun t ht => ?_, fun t ht => ?_, ?_, fun k t hk => ?_, fun k t hk => ?_⟩
  · unfold updG
    by_cases q : (n, i) = (N, j)
    · rw [if_pos q]
      have q1 : n = N := congrArg Prod.fst q
      have q2 : i = j := congrArg Prod.snd q
      subst q1; subst q2
      constructor
      · intro hs
        have hs := Option.some.inj hs
        subst hs
        exact ⟨x, born_new hps, by omega, by rw [xfr, xar, Nat.sub_self]; rfl⟩
      · rintro ⟨t, t1, t2, t3⟩
        rcases born_get hps t1 with ⟨t0, g1, rfl⟩ | ⟨g1,_⟩
        · obtain ⟨a1, a2,_⟩ := adj_same (ps := ps) (K := tk.length) (p := k) (t := t0)
          rw [a1] at t2 t3; rw [a2] at t3
          have := (hb.ofi n i k).2 ⟨t0, g1, t2, t3⟩
          rw [hfree] at this; cases this
        · rw [g1]
    · rw [if_neg q]
      constructor
      · intro hs
        obtain ⟨t, t1, t2, t3⟩ := (hb.ofi n i k).1 hs
        obtain ⟨a1, a2,_⟩ := adj_same (ps := ps) (K := tk.length) (p := k) (t := t)
        exact ⟨_, born_old t1, by rw [a1]; exact t2, by rw [a1, a2]; exact t3⟩
      · rintro ⟨t, t1, t2, t3⟩
        rcases born_get hps t1 with ⟨t0, g1, rfl⟩ | ⟨_, rfl⟩
        · obtain ⟨a1, a2,_⟩ := adj_same (ps := ps) (K := tk.length) (p := k) (t := t0)
          rw [a1] at t2 t3; rw [a2] at t3
          exact (hb.ofi n i k).2 ⟨t0, g1, t2, t3⟩
        · exfalso
          rw [xfr] at t2 t3; rw [xar] at t3
          have h4 := (List.getElem?_eq_some_iff.1 t3).1
          simp only [List.length_singleton] at h4
          have h5 : n = N := by omega
          subst h5
          rw [Nat.sub_self] at t3
          have h6 : j = i := Option.some.inj t3
          subst h6
          exact q rfl
  · rw [hN]
    rcases hmem ht with ⟨t0, k, g1, rfl⟩ | rfl
    · obtain ⟨a1, a2,_,_,_, a6,_⟩ := adj_same (ps := ps) (K := tk.length) (p := k) (t := t0)
      rw [a2, a6]; exact hb.pos t0 g1
    · rw [xar, xup]; exact ⟨by simp, Nat.le_refl _⟩
  · rw [hN] at hu
    rcases hmem ht with ⟨t0, k, g1, rfl⟩ | rfl
    · obtain ⟨a1, a2,_, a4,_, a6,_⟩ := adj_same (ps := ps) (K := tk.length) (p := k) (t := t0)
      rw [a4]; rw [a6] at hu; exact hb.en t0 g1 hu
    · exact xen
  · unfold updG
    by_cases q : (n, i) = (N, j)
    · rw [if_pos q]; exact ⟨_, rfl⟩
    · rw [if_neg q]
      refine h.tot n i h1 h2 ?_
      rcases h3 with z | z | z
      · exact .inl z
      · rcases Nat.lt_succ_iff_lt_or_eq.1 z with y | y
        · exact .inr (.inl y)
        · subst y
          by_cases w : n + 1 < Ms.length
          · exact .inl w
          · exact absurd (by rw [show n = N by omega]) q
      · exact .inr (.inr z)
  · rcases hmem ht with ⟨t0, k, g1, rfl⟩ | rfl
    · obtain ⟨a1, a2,_⟩ := adj_same (ps := ps) (K := tk.length) (p := k) (t := t0)
      rw [a2]; rw [a1] at hf; exact Nat.lt_succ_of_lt (h.hd t0 g1 hf)
    · rw [xar]; exact Nat.lt_succ_self _
  · rcases hmem ht with ⟨t0, k, g1, rfl⟩ | rfl
    · obtain ⟨a1, a2,_⟩ := adj_same (ps := ps) (K := tk.length) (p := k) (t := t0)
      rw [a1, a2]; exact h.rng t0 g1
    · intro r a ha
      rw [xar] at ha
      have h4 := (List.getElem?_eq_some_iff.1 ha).1
      simp only [List.length_singleton] at h4
      have h5 : r = 0 := by omega
      subst h5
      have h6 : j = a := Option.some.inj ha
      rw [xfr, Nat.add_zero, ← h6]; exact hj
  · rcases hmem ht with ⟨t0, k, g1, rfl⟩ | rfl
    · obtain ⟨a1, a2, a3,_⟩ := adj_same (ps := ps) (K := tk.length) (p := k) (t := t0)
      rw [a1, a2, a3]; exact h.bg t0 g1
    · rw [xfr, xar, xbg]
      by_cases q : N = 0
      · rw [if_pos q]; exact .inl ⟨q, rfl⟩
      · rw [if_neg q]
        unfold newB at hn
        refine .inr ⟨by omega, rfl, ?_⟩
        rcases of_decide_eq_true hn with y | y
        · exact absurd y q
        · exact y
  · rcases hmem ht with ⟨t0, k, g1, rfl⟩ | rfl
    · obtain ⟨a1, a2,_⟩ := adj_same (ps := ps) (K := tk.length) (p := k) (t := t0)
      rw [a1, a2]; exact h.step t0 g1
    · intro r a b ha hb'
      rw [xar] at hb'
      have h4 := (List.getElem?_eq_some_iff.1 hb').1
      simp at h4
  · rcases hmem ht with ⟨t0, k, g1, rfl⟩ | rfl
    · obtain ⟨_,_,_, a4,_, a6, a7⟩ := adj_same (ps := ps) (K := tk.length) (p := k) (t := t0)
      rw [a4, a6, a7]; exact h.en t0 g1
    · rw [xen, xup, hN, if_pos rfl]; exact ⟨rfl, by decide⟩
  · refine List.pairwise_iff_getElem.2 fun a b ha hb' hab => ?_
    have ea := born_get hps (List.getElem?_eq_getElem ha)
    have eb := born_get hps (List.getElem?_eq_getElem hb')
    rcases ea with ⟨t0, g1, g2⟩ | ⟨g1,_⟩
    · obtain ⟨a1, a2,_⟩ := adj_same (ps := ps) (K := tk.length) (p := a) (t := t0)
      rw [g2, a1, a2]
      rcases eb with ⟨t2, g3, g4⟩ | ⟨_, g4⟩
      · obtain ⟨b1, b2,_⟩ := adj_same (ps := ps) (K := tk.length) (p := b) (t := t2)
        rw [g4, b1, b2]
        obtain ⟨q1, rfl⟩ := List.getElem?_eq_some_iff.1 g1
        obtain ⟨q2, rfl⟩ := List.getElem?_eq_some_iff.1 g3
        exact List.pairwise_iff_getElem.1 h.ord a b q1 q2 hab
      · rw [g4, xfr, xar]
        have tm := List.mem_of_getElem? g1
        have := hfr t0 tm
        by_cases q : t0.fr = N
        · exact .inr ⟨q, h.hd t0 tm (by omega)⟩
        · exact .inl (by omega)
    · rw [hlenA] at hb'; omega
  · rw [hlenA, List.range_succ, List.filter_append]
    rcases born_get hps hk with ⟨t0, g1, rfl⟩ | ⟨g1, rfl⟩
    · have tm := List.mem_of_getElem? g1
      obtain ⟨_,_,_,_, a5,_,_⟩ := adj_same (ps := ps) (K := tk.length) (p := k) (t := t0)
      rw [a5, h.pa k t0 g1, List.filter_cons, hgx, ladj2, lx1 _ (hfr t0 tm)]
      simp only [Bool.false_eq_true, if_false, List.filter_nil, List.append_nil]
      refine List.filter_congr fun i hi => ?_
      rw [(hgd i (List.mem_range.1 hi)).1, ladj]
    · rw [List.filter_cons, hgx, lx2, decide_eq_false (fun z => by omega)]
      simp only [Bool.false_eq_true, if_false, List.filter_nil, List.append_nil]
      refine (xpa.trans hps0).trans ?_
      unfold parOf parB
      by_cases q : N = 0
      · rw [if_pos q]
        refine (List.filter_eq_nil_iff.2 fun i hi => ?_).symm
        rw [lx2, decide_eq_false (fun z => by omega)]; decide
      · rw [if_neg q]
        refine List.filter_congr fun i hi => ?_
        rw [(hgd i (List.mem_range.1 hi)).1, ladj1, lx2]
        exact decide_eq_decide.2 ⟨fun z => ⟨by omega, z⟩, fun z => z.2⟩
  · rw [hlenA, List.range_succ, List.filter_append]
    rcases born_get hps hk with ⟨t0, g1, rfl⟩ | ⟨g1, rfl⟩
    · have tm := List.mem_of_getElem? g1
      have hkl := (List.getElem?_eq_some_iff.1 g1).1
      rw [List.filter_cons, hgx, ladj1, lx2]
      have e1 : (List.range tk.length).filter (fun i => lnkT E (adj ps tk.length k t0) ((addCh (tk ++ [x]) ps tk.length).getD i zT)) = t0.ch := by
        rw [h.ch k t0 g1]
        refine List.filter_congr fun i hi => ?_
        rw [(hgd i (List.mem_range.1 hi)).1, ladj]
      rw [e1]
      have e2 := hpsm k hkl
      rw [getD_of g1] at e2
      unfold adj
      by_cases q : k ∈ ps
      · rw [if_pos q, decide_eq_true (e2.1 q)]; rfl
      · rw [if_neg q, decide_eq_false (fun z => q (e2.2 z))]; simp
    · rw [List.filter_cons, hgx, lx1 _ (by omega), xch]
      simp only [Bool.false_eq_true, if_false, List.filter_nil, List.append_nil]
      refine (List.filter_eq_nil_iff.2 fun i hi => ?_).symm
      obtain ⟨g3, g4⟩ := hgd i (List.mem_range.1 hi)
      rw [g3, ladj2, lx1 _ (hfr _ g4)]; decide
theorem TInvQ.birth (h : TInvQ E Ms j tk of) (hN : Ms.length = N + 1) (hj : j < Ms.getD N 0) (hg : 0 < N → GoodEv (Ms.getD (N - 1) 0) (Ms.getD N 0) (E.getD N [])) : TInvQ E Ms (j + 1) (birthM N (E.getD N []) (tk, of) j).1 (birthM N (E.getD N []) (tk, of) j).2 := by
  unfold birthM
  by_cases q : newB N (E.getD N []) j = true
  · rw [if_pos q]; exact h.born hN hj hg q
  · rw [if_neg q]; exact h.skip hN q
theorem TInvQ.births (h : TInvQ E Ms 0 tk of) (hN : Ms.length = N + 1) (hg : 0 < N → GoodEv (Ms.getD (N - 1) 0) (Ms.getD N 0) (E.getD N [])) : ∀ k, k ≤ Ms.getD N 0 → TInvQ E Ms k (birthsM N (E.getD N []) (tk, of) k).1 (birthsM N (E.getD N []) (tk, of) k).2
  | 0,_ => h
  | k + 1, hk => (TInvQ.births h hN hg k (by omega)).birth hN (by omega) hg
theorem TInvQ.done (h : TInvQ E Ms (Ms.getD N 0) tk of) (hN : Ms.length = N + 1) : TInv E Ms tk of := ⟨by rw [hN]; exact h⟩
/-- From whom a new history comes. -/
theorem TInvQ.parents (h : TInvQ E Ms j tk of) (hN : Ms.length = n + 2) (hg : GoodEv (Ms.getD n 0) (Ms.getD (n + 1) 0) (E.getD (n + 1) [])) {e : EvM} (he : e ∈ E.getD (n + 1) []) (hk : e.kd ≠ 4) :
    (∀ i, i ∈ e.f → ∃ k, of (n, i) = some k ∧ k < tk.length) ∧ (e.f.map fun i => (of (n, i)).getD 0).Nodup ∧ ∀ x, x ∈ (e.f.map fun i => (of (n, i)).getD 0) ↔ x ∈ parB tk (n + 1) e.f := by
  have hb := h.base
  rw [hN] at hb
  have tot : ∀ i, i ∈ e.f → ∃ k, of (n, i) = some k ∧ k < tk.length := fun i hi => by
    obtain ⟨k, z⟩ := h.tot n i (by omega) ((hg.fs e he).2 i hi) (.inl (by omega))
    exact ⟨k, z, (h.base.lt z).2⟩
  have key : ∀ i k, i ∈ e.f → of (n, i) = some k → ∃ t, tk[k]? = some t ∧ t.up = n + 1 ∧ t.last = i := fun i k hi hs => by
    obtain ⟨t, t1, t2, t3⟩ := (hb.ofi n i k).1 hs
    have tm := List.mem_of_getElem? t1
    have hp := hb.pos t tm
    have hl := (List.getElem?_eq_some_iff.1 t3).1
    unfold TkM.up at hp
    by_cases q : t.fr + t.ar.length = n + 2
    · exfalso
      obtain ⟨b, hb'⟩ : ∃ b, t.ar[n - t.fr + 1]? = some b := ⟨_, List.getElem?_eq_getElem (by omega)⟩
      have hs := h.step t tm _ _ _ t3 hb'
      rw [show t.fr + (n - t.fr) + 1 = n + 1 by omega, hg.beh_eq he hi] at hs
      exact hk hs.1
    · refine ⟨t, t1, by unfold TkM.up; omega, ?_⟩
      rw [show n - t.fr = t.ar.length - 1 by omega, tk_last hp.1] at t3
      exact Option.some.inj t3
  refine ⟨tot, ?_, fun x => ?_⟩
  · refine List.pairwise_map.2 ((hg.fs e he).1.imp_of_mem fun {a b} ha hb' hab z => ?_)
    obtain ⟨ka, h1,_⟩ := tot a ha
    obtain ⟨kb, h2,_⟩ := tot b hb'
    rw [h1, h2] at z
    have z : ka = kb := z
    subst z
    obtain ⟨t, t1,_, t3⟩ := key a ka ha h1
    obtain ⟨t', t4,_, t6⟩ := key b ka hb' h2
    rw [t1] at t4
    have := Option.some.inj t4
    subst this
    omega
  · unfold parB
    rw [List.mem_map, List.mem_filter, List.mem_range, decide_eq_true_eq]
    constructor
    · rintro ⟨i, hi, rfl⟩
      obtain ⟨k, h1, h2⟩ := tot i hi
      obtain ⟨t, t1, t2, t3⟩ := key i k hi h1
      rw [h1]
      refine ⟨h2, ?_⟩
      show (tk.getD k zT).up = n + 1 ∧ (tk.getD k zT).last ∈ e.f
      rw [getD_of t1]
      exact ⟨t2, by rw [t3]; exact hi⟩
    · rintro ⟨h1, h2, h3⟩
      have e1 : tk[x]? = some tk[x] := List.getElem?_eq_getElem h1
      rw [getD_of e1] at h2 h3
      refine ⟨_, h3, ?_⟩
      have hp := hb.pos tk[x] (List.getElem_mem h1)
      have : of (n, tk[x].last) = some x := (hb.ofi n _ x).2 ⟨tk[x], e1, by unfold TkM.up at h2; omega, by
        rw [show n - tk[x].fr = tk[x].ar.length - 1 by unfold TkM.up at h2; omega]; exact tk_last hp.1⟩
      rw [this]; rfl
end
end Go.Proofs.Ytgemekpofpoopaa

namespace Go.Proofs.Ytgemekpofpoopaa
open Go.SL Go.Cell
set_option linter.unusedVariables false
section
variable {α : Type} [DecidableEq α] {κ : Nat → α} {n m : Nat}
theorem evsM_mem {e : EvM} (h : e ∈ evsM κ n m) : ∃ k, k < n + m ∧ (∀ j, j < k → κ j ≠ κ k) ∧ e.kd = kindM e.f.length e.t.length ∧ e.f = (List.range n).filter (fun i => decide (κ i = κ k)) ∧ e.t = (List.range m).filter (fun j => decide (κ (n + j) = κ k)) := by
  unfold evsM evT at h
  rw [List.map_map] at h
  obtain ⟨k, hk, rfl⟩ := List.mem_map.1 h
  obtain ⟨h1, h2⟩ := mem_firsts.1 hk
  refine ⟨k, h1, h2, rfl, ?_, ?_⟩
  · show (List.range (min (n + m) n)).filter _ = _
    rw [show min (n + m) n = n by omega]
  · show (List.range (n + m - n)).filter _ = _
    rw [show n + m - n = m by omega]
theorem evsM_good : GoodEv n m (evsM κ n m) := by
  refine ⟨fun e he => ?_, fun e he => ?_, fun e he => ?_, ?_, fun i hi => ?_, fun j hj => ?_⟩
  · obtain ⟨k, h1, h2, h3, h4, h5⟩ := evsM_mem he
    refine ⟨h3, ?_⟩
    by_cases q : k < n
    · have : k ∈ e.f := by rw [h4]; exact List.mem_filter.2 ⟨List.mem_range.2 q, by simp⟩
      have := List.length_pos_of_mem this; omega
    · have : k - n ∈ e.t := by rw [h5]; exact List.mem_filter.2 ⟨List.mem_range.2 (by omega), by simp [show n + (k - n) = k by omega]⟩
      have := List.length_pos_of_mem this; omega
  · obtain ⟨k, h1, h2, h3, h4, h5⟩ := evsM_mem he
    rw [h4]
    exact ⟨sorted_filter, fun i hi => List.mem_range.1 (List.mem_filter.1 hi).1⟩
  · obtain ⟨k, h1, h2, h3, h4, h5⟩ := evsM_mem he
    rw [h5]
    exact ⟨sorted_filter, fun i hi => List.mem_range.1 (List.mem_filter.1 hi).1⟩
  · unfold evsM evT
    rw [List.map_map]
    refine List.pairwise_map.2 ((firsts_nodup (κ := κ) (t := n + m)).imp_of_mem fun {a b} ha hb hab => ?_)
    have hne : κ a ≠ κ b := fun e => hab (firsts_eq ha hb e)
    refine ⟨fun i h1 h2 => ?_, fun j h1 h2 => ?_⟩
    · have h1 := (List.mem_filter.1 h1).2
      have h2 := (List.mem_filter.1 h2).2
      exact hne ((of_decide_eq_true h1).symm.trans (of_decide_eq_true h2))
    · have h1 := (List.mem_filter.1 h1).2
      have h2 := (List.mem_filter.1 h2).2
      exact hne ((of_decide_eq_true h1).symm.trans (of_decide_eq_true h2))
  · obtain ⟨k, k1, k2, k3⟩ := first_of κ i
    have hk : k ∈ firsts κ (n + m) := mem_firsts.2 ⟨by omega, by unfold isFirst at k3; exact of_decide_eq_true k3⟩
    refine ⟨{ evF κ n (n + m) k with kd := kindM (evF κ n (n + m) k).f.length (evF κ n (n + m) k).t.length }, ?_, ?_⟩
    · unfold evsM evT; rw [List.map_map]; exact List.mem_map.2 ⟨k, hk, rfl⟩
    · exact List.mem_filter.2 ⟨List.mem_range.2 (by omega), decide_eq_true k2.symm⟩
  · obtain ⟨k, k1, k2, k3⟩ := first_of κ (n + j)
    have hk : k ∈ firsts κ (n + m) := mem_firsts.2 ⟨by omega, by unfold isFirst at k3; exact of_decide_eq_true k3⟩
    refine ⟨{ evF κ n (n + m) k with kd := kindM (evF κ n (n + m) k).f.length (evF κ n (n + m) k).t.length }, ?_, ?_⟩
    · unfold evsM evT; rw [List.map_map]; exact List.mem_map.2 ⟨k, hk, rfl⟩
    · exact List.mem_filter.2 ⟨List.mem_range.2 (by omega), decide_eq_true k2.symm⟩
end
theorem EvP.good {W H r : Nat} {oa ob : List Int} {n m : Nat} {l : List EvM} (h : EvP W H r oa ob n m l) : GoodEv n m l := by
  obtain ⟨ld,_, rfl⟩ := h.ex
  exact evsM_good
end Go.Proofs.Ytgemekpofpoopaa

namespace Go.SL
set_option linter.unusedVariables false
open Go.RowKit
section
variable {P : Program} {β : Bs} {env : Env} {L L' : List Res}
variable {ty : TypeId} {pos : String} {aft : Array Edge} {dd : Option Nat}
/-- append(x, y...), x empty and owned, y read. -/
theorem HO.appN0 {α : Type} {f : α → List Value} {m : List α} (i : Nat) (LF : Res → List Res) {K : Value → List Res → Prop} {x y : Operand} {T T' E z by_ : Nat} {aT : Array TypeId} {zero : Value} {p q : Option Addr} {n2 cap c2 : Nat} (hT : IsSlice P T E) (hT' : IsSlice P T' E) (hE : EInfo P E z by_ zero) (hx : OV env x (.slice p 0 cap)) (hy : OV env y (.slice q n2 c2))
    (hi : L[i]? = some (own E z p cap [])) (hq : ∀ w, St β L w → Go.SL.Rows w z q (m.map f)) (hz : ∀ a, (f a).length = z) (h1 : ∀ a, allOne (f a) = true) (ha0 : aT[0]? = some T) (ha1 : aT[1]? = some T') (hL : ∀ R : Res, L.set i R = LF R) (hn2 : n2 = m.length) (hs : (2 * n2 + 768) * by_ ≤ 281474976710656)
    (k : ∀ p' cap', (m ≠ [] ∨ p ≠ none → p' ≠ none) → K (.slice p' n2 cap') (LF (own E z p' cap' (m.map f)))) : HO P β env L ⟨dd, .call ⟨.builtin .append, #[x, y], aT⟩, ty, pos, aft, none⟩ K :=
  HO.appN (f := f) (l := []) (m := m) i LF hT hT' hE hx hy hi hq hz h1 ha0 ha1 hL rfl hn2 (by rw [Nat.zero_add]; exact hs) (fun p' c' h => by rw [Nat.zero_add]; exact k p' c' h)
end
end Go.SL
