/-
  Ranges over functions: what an iterator promises, a call of yield, the statement.
  (and more)
-/
import Derived.Test.YtdjflomhaljljaaGreatKKRUN00
import Derived.Test.YtdjflomhaljljaaGreatChecked

set_option maxRecDepth 20000
set_option maxHeartbeats 8000000
namespace Go.SL
set_option linter.unusedVariables false
open Go.RowKit
section
variable {P : Program} {ro : Option Nat} {β : Bs} {N : Nat} {ds : List Deferred} {env : Env} {L : List Res} {Q : Exit → Act → World → Prop}
def Dis (L : List Res) : Prop := ∀ (i j : Nat) (r s : Res), i ≠ j → L[i]? = some r → L[j]? = some s → ∀ k, r.fp k → ¬ s.fp k
theorem St.callAt {w w' : World} (i : Nat) {r r' : Res} (h : St β L w) (hi : L[i]? = some r) (k : St ⟨w, r.fp⟩ [r'] w') : St β (L.set i r') w' := by
  have hlt : i < L.length := by
    rcases Nat.lt_or_ge i L.length with q | q
    · exact q
    · simp [List.getElem?_eq_none q] at hi
  -- the one ahead of the others
  have h1 : St β ([r] ++ L.eraseIdx i) w := by
    refine h.map (fun j => if j = 0 then i else if j - 1 < i then j - 1 else j) ?_ ?_
    · intro a b hab ha hb
      split <;> split <;> (try split) <;> (try split) <;> omega
    · intro j s hs
      right
      cases j with
      | zero => simp at hs; subst hs; simpa using hi
      | succ j =>
        simp only [List.singleton_append, List.getElem?_cons_succ, List.getElem?_eraseIdx] at hs
        simp only [Nat.add_one_ne_zero, if_false, Nat.add_sub_cancel]
        by_cases q : j < i
        · simpa [q] using hs
        · simpa [q] using hs
  have h2 := h1.callG (O := r.fp) (fun k hk => ⟨0, r, rfl, hk⟩) k
  refine h2.map (fun j => if j = i then 0 else if j < i then j + 1 else j) ?_ ?_
  · intro a b hab ha hb
    split <;> split <;> (try split) <;> (try split) <;> omega
  · intro j s hs
    right
    by_cases e : j = i
    · subst e; simp [hlt] at hs; subst hs; simp
    · rw [List.getElem?_set_ne (Ne.symm e)] at hs
      simp only [e, if_false]
      by_cases q : j < i
      · simp only [q, if_true, List.singleton_append, List.getElem?_cons_succ, List.getElem?_eraseIdx]
        exact hs
      · simp only [q, if_false]
        obtain ⟨j', rfl⟩ : ∃ j', j = j' + 1 := ⟨j - 1, by omega⟩
        simp only [List.singleton_append, List.getElem?_cons_succ, List.getElem?_eraseIdx]
        rw [if_neg (by omega)]
        exact hs
/-! ### yield -/
def yv (l : Nat) : Value := .func (.yield l) #[] #[]
def YieldsTo (P : Program) (l : Nat) (args : List Value) (w : World) (R : Ending → World → Prop) : Prop :=
  ∃ fn tmps as_ bd, (Instr.yield l args.toArray).run P w = .ok (.round l fn tmps as_ bd) w ∧ RoundIn Fence.wide 0 P l fn tmps as_ bd w R
theorem HO.yield (i : Nat) {K : Value → List Res → Prop} {dd : Option Nat} {ty : TypeId} {pos : String} {aft : Array Edge} {g : Option (Nat × Bool)} {fx : Operand} {xs : List Operand} {vs : List Value} {aT : Array TypeId} {l : Nat} {r : Res} {post : Bool → Res → Prop}
    (hfx : OV env fx (yv l)) (hx : OVs env xs vs) (hi : L[i]? = some r)
    (hy : ∀ w, r.inv w → (∀ k, r.fp k → k < w.heap.size) → (w.os = β.w.os ∧ w.tape = β.w.tape ∧ w.output = β.w.output ∧ β.w.heap.size ≤ w.heap.size) → YieldsTo P l vs w fun e w' => ∃ b r', e = .returned (.bool b) ∧ post b r' ∧ St ⟨w, r.fp⟩ [r'] w')
    (k : ∀ b r', post b r' → K (.bool b) (L.set i r')) : HO P β env L ⟨dd, .call ⟨.value fx, xs.toArray, aT⟩, ty, pos, aft, g⟩ K := by
  intro a w h hw
  obtain ⟨fn, tmps, as_, bd, hrun, hr⟩ := hy w (hw.inv i r hi) (fun k hk => (hw.rng i r hi k hk).2) ⟨hw.os, hw.tape, hw.output, hw.size⟩
  refine .inr (.inr ⟨l, fn, tmps, as_, bd, ?_, ?_⟩)
  · have hm : xs.map a.eval = vs := hx.map fun x hm u hu => by obtain ⟨u', hu', e⟩ := hu; subst e; exact h x (by simp [Op.operands, Call.operands, hm]) u' hu'
    have hfe : a.eval fx = yv l := by obtain ⟨u', hu', e⟩ := hfx; subst e; exact h fx (by simp [Op.operands, Call.operands]) _ hu'
    simp [execOp, resolve, hfe, yv, Deferred.ofValue, invoke, hm, hrun]
  · refine RoundIn.mono hr ?_
    rintro e w' ⟨b, r', rfl, hp, hs⟩
    exact ⟨_,_, rfl, k b r' hp, hw.callAt i hi hs⟩
def SeqC (P : Program) (gf : FuncId) (lb : List Value) (Cap : World → Prop) (xs : List (List Value)) : Prop :=
  ∀ (l : Nat) (J Jx : Nat → Res → Prop) (w : World) (r0 : Res),
    (∀ n r w, J n r → r.inv w → Cap w) →
    (∀ n vs, xs[n]? = some vs → ∀ r w1, J n r → r.inv w1 → (∀ k, r.fp k → k < w1.heap.size) → (w1.os = w.os ∧ w1.tape = w.tape ∧ w1.output = w.output ∧ w.heap.size ≤ w1.heap.size) → YieldsTo P l vs w1 fun e w' => ∃ b r', e = .returned (.bool b) ∧ (if b then J (n + 1) r' else Jx (n + 1) r') ∧ St ⟨w1, r.fp⟩ [r'] w') →
    J 0 r0 → r0.inv w → (∀ k, r0.fp k → k < w.heap.size) →
    Calls P gf (yv l :: lb).toArray w fun e w' => e = .returned (.tuple #[]) ∧ ∃ n r', (J xs.length r' ∨ (n ≤ xs.length ∧ Jx n r')) ∧ St ⟨w, r0.fp⟩ [r'] w'
def RB (β : Bs) {α : Type} (F : α → List Res) (T : List Res) (I : α → Prop) (Ix : Code → α → Prop) : Exit → Act → World → Prop
  | .normal,_, w => ∃ y, I y ∧ St β (F y ++ T) w
  | .ret,_, w => ∃ y, Ix .ret y ∧ St β (F y ++ T) w
  | .exit id,_, w => ∃ y, Ix (.exit id) y ∧ St β (F y ++ T) w
  | _,_,_ => False
def mark (D : Nat) : Deferred := { target := .collected D, args := #[] }
def dR (D : Nat) : Res := blk D (.deferred (some []))
theorem St.obj {w : World} {b : Nat} {o o' : Obj} (i : Nat) (h : St β L w) (hi : L[i]? = some (blk b o)) : St β (L.set i (blk b o')) (w.putObj b o') := by
  have hb : w.heap[b]? = some o := h.inv i _ hi
  have hlt : b < w.heap.size := (Array.getElem?_eq_some_iff.1 hb).1
  exact h.upd hi rfl (World.putObj_heap_same hlt) (fun k hk => World.putObj_heap_other hk) (by simp [World.putObj]) rfl rfl rfl
theorem St.rebase {w : World} (h : St β L w) : St ⟨w, fpL L⟩ L w :=
  ⟨rfl, rfl, rfl, Nat.le_refl _, fun _ _ _ => rfl, h.inv, fun i r hr k hk => ⟨.inl ⟨i, r, hr, hk⟩, (h.rng i r hr k hk).2⟩, h.dis⟩
theorem St.back {w w' : World} {R : List Res} (h : St β L w) (k : St ⟨w, fpL L⟩ R w') : St β R w' := by
  have := St.callG (L1 := L) (L2 := []) (by simpa using h) (fun k hk => hk) k
  simpa using this
def big (β : Bs) (L : List Res) : Res := ⟨fun k => fpL L k ∨ (k < β.w.heap.size ∧ ¬ β.O k), fun w => (∀ (i : Nat) (r : Res), L[i]? = some r → r.inv w) ∧ (∀ k, k < β.w.heap.size → ¬ β.O k → w.heap[k]? = β.w.heap[k]?),
  fun h hi => ⟨fun i r hr => r.loc (fun k hk => h k (.inl ⟨i, r, hr, hk⟩)) (hi.1 i r hr), fun k hk hO => (h k (.inr ⟨hk, hO⟩)).trans (hi.2 k hk hO)⟩⟩
def Fits (β : Bs) (L : List Res) : Prop := Dis L ∧ ∀ k, fpL L k → β.O k ∨ β.w.heap.size ≤ k
theorem St.fits {w : World} (h : St β L w) : Fits β L := ⟨h.dis, fun k ⟨i, r, hr, hk⟩ => (h.rng i r hr k hk).1⟩
theorem St.of_big {w w1 : World} {O : Nat → Prop} (hf : Fits β L) (hos : w.os = β.w.os ∧ w.tape = β.w.tape ∧ w.output = β.w.output ∧ β.w.heap.size ≤ w.heap.size) (hinv : (big β L).inv w) (hb : ∀ k, (big β L).fp k → k < w.heap.size) : St β L w :=
  ⟨hos.1, hos.2.1, hos.2.2.1, hos.2.2.2, hinv.2, hinv.1, fun i r hr k hk => ⟨hf.2 k ⟨i, r, hr, hk⟩, hb k (.inl ⟨i, r, hr, hk⟩)⟩, hf.1⟩
theorem St.to_big {w1 w2 : World} {L2 : List Res} (h1 : St β L w1) (h2 : St ⟨w1, fpL L⟩ L2 w2) : St ⟨w1, (big β L).fp⟩ [big β L2] w2 := by
  have hb := h1.back h2
  refine ⟨h2.os, h2.tape, h2.output, h2.size, fun k hk hO => h2.fr k hk (fun q => hO (.inl q)), ?_, ?_, ?_⟩
  · intro i r hr
    cases i with
    | zero => simp at hr; subst hr; exact ⟨hb.inv, hb.fr⟩
    | succ i => simp at hr
  · intro i r hr k hk
    cases i with
    | zero =>
      simp at hr; subst hr
      rcases hk with ⟨j, s, hs, hk⟩ | ⟨hk, hO⟩
      · have := h2.rng j s hs k hk
        exact ⟨this.1.imp (fun q => .inl q) (fun q => q), this.2⟩
      · exact ⟨.inl (.inr ⟨hk, hO⟩), Nat.lt_of_lt_of_le hk hb.size⟩
    | succ i => simp at hr
  · intro i j r s hij hr hs
    cases i with
    | zero => cases j with | zero => exact absurd rfl hij | succ j => simp at hs
    | succ i => simp at hr
def penv (ps : Array Tmp) (vs : List Value) : Env := (ps.toList.zip vs).reverse
theorem ag_zip {N : Nat} {ds : List Deferred} : ∀ (zs : List (Nat × Value)) (env : Env) (a : Act), (∀ z ∈ zs, z.1 < N) → Ag N ds env a → Ag N ds (zs.reverse ++ env) { a with tmps := zs.foldl (fun t (p, v) => t.setIfInBounds p v) a.tmps }
  | [], env, a,_, ha => by simpa using ha
  | (t, v) :: zs, env, a, h, ha => by
    have h1 := ha.put (h (t, v) (by simp)) v
    have := ag_zip zs _ _ (fun z hz => h z (by simp [hz])) h1
    simpa [Act.put] using this
def AP (β : Bs) (N : Nat) (env : Env) (L : List Res) : Exit → Act → World → Prop := fun e a w => e = .normal ∧ Ag N [] env a ∧ St β L w
theorem VC.rangeFuncF {α : Type} {gop : Operand} {ps : Array Tmp} {asg body : Code} {gf : FuncId} {lb : List Value} {Cap : World → Prop} {xs : List (List Value)} (F : α → List Res) (I : Nat → α → Prop) (Ix : Code → Nat → α → Prop) (x0 : α) (envb : List Value → Env)
    (hg : ev env gop = some (.func (.func gf) #[] lb.toArray)) (hf : IsFn P gf) (hseq : SeqC P gf lb Cap xs) (hF0 : ∀ w, St β L w → St β (F x0) w) (h0 : I 0 x0)
    (hps : ∀ vs, vs ∈ xs → vs.length = ps.size) (hpN : ps.toList.all (fun t => Nat.blt t N) = true)
    (hCap : ∀ n x w, I n x → (∀ (i : Nat) (r : Res), (F x)[i]? = some r → r.inv w) → (∀ k, k < β.w.heap.size → ¬ β.O k → w.heap[k]? = β.w.heap[k]?) → Cap w)
    (hasg : ∀ (n : Nat) (x : α) (vs : List Value) l T w1, I n x → xs[n]? = some vs → St β (F x ++ T) w1 → VC P (some l) ⟨w1, fpL (F x ++ T)⟩ N [] (penv ps vs ++ env) (F x ++ T) asg (AP ⟨w1, fpL (F x ++ T)⟩ N (envb vs) (F x ++ T)))
    (hbody : ∀ (n : Nat) (x : α) (vs : List Value) l T w1, I n x → xs[n]? = some vs → St β (F x ++ T) w1 → VC P (some l) ⟨w1, fpL (F x ++ T)⟩ N [] (envb vs) (F x ++ T) body (RB ⟨w1, fpL (F x ++ T)⟩ F T (I (n + 1)) (fun c => Ix c (n + 1))))
    (hdone : ∀ D x, I xs.length x → VE β N [mark D] env (F x ++ [dR D]) .normal Q)
    (hstop : ∀ D c n x, n ≤ xs.length → Ix c n x → VC P none β N [mark D] env (F x ++ [dR D]) c Q) :
    VC P none β N [] env L (.rangeFunc gop ps asg body) Q := by
  intro a w ha hw
  have hw0 := hF0 w hw
  refine wpIn_rangeFunc fun fn _ => ?_
  obtain ⟨rec, hrec⟩ : ∃ rec : LoopState → Option Code → Loop, rec = fun st pe => { state := st, pending := pe, fn, tmps := a.tmps, params := ps, assign := asg, body, defers := w.heap.size } := ⟨_, rfl⟩
  obtain ⟨D, hD⟩ : ∃ D, D = w.heap.size := ⟨_, rfl⟩
  obtain ⟨l, hl⟩ : ∃ l, l = w.heap.size + 1 := ⟨_, rfl⟩
  obtain ⟨W1, hW1⟩ : ∃ W1, (w.alloc (.deferred (some []))).alloc (.loop (rec .ready none)) = W1 := ⟨_, rfl⟩
  obtain ⟨T, hT⟩ : ∃ T : LoopState → Option Code → List Res, T = fun st pe => [blk l (.loop (rec st pe)), dR D] := ⟨_, rfl⟩
  have hTget : ∀ x st pe, (F x ++ T st pe)[(F x).length]? = some (blk l (.loop (rec st pe))) := by intro x st pe; simp [hT]
  have hTset : ∀ x st pe st' pe', (F x ++ T st pe).set (F x).length (blk l (.loop (rec st' pe'))) = F x ++ T st' pe' := by intro x st pe st' pe'; simp [hT]
  have hst1 : St β (F x0 ++ T .ready none) W1 := by
    have h1 := (hw0.alloc (.deferred (some []))).alloc (.loop (rec .ready none))
    rw [hW1, World.size_alloc] at h1
    refine h1.map (fun j => if j < (F x0).length then j + 2 else if j = (F x0).length then 0 else 1) ?_ ?_
    · intro a b hab ha hb
      simp [hT] at ha hb
      split <;> split <;> (try split) <;> (try split) <;> omega
    · intro j r hr
      right
      rw [List.getElem?_append] at hr
      by_cases q : j < (F x0).length
      · simp only [q, if_true] at hr ⊢
        simpa using hr
      · simp only [q, if_false] at hr ⊢
        by_cases e : j = (F x0).length
        · subst e; simp [hT] at hr; subst hr; simp [hl]
        · have : j = (F x0).length + 1 := by
            rcases Nat.lt_or_ge (j - (F x0).length) 2 with s | s
            · omega
            · simp only [hT] at hr; rw [List.getElem?_eq_none (by simpa using s)] at hr; cases hr
          subst this
          simp [hT] at hr; subst hr; simp [dR, hD]
  -- from the record's states to the world
  have endx : ∀ x st pe w', St β (F x ++ T st pe) w' → st ≠ .busy → ∃ w4, (Instr.endLoop l).run P w' = .ok pe w4 ∧ St β (F x ++ [dR D]) w4 := by
    intro x st pe w' hs hne
    have hrl : w'.heap[l]? = some (.loop (rec st pe)) := hs.inv _ _ (hTget x st pe)
    refine ⟨w'.putObj l (.loop { rec st pe with state := .exhausted }), ?_, ?_⟩
    · have := run_endLoop (P := P) hrl (by rw [hrec]; exact hne)
      rw [this]; congr 1; rw [hrec]
    · have h2 := hs.obj (o' := .loop { rec st pe with state := .exhausted }) _ (hTget x st pe)
      refine h2.map (fun j => if j < (F x).length then j else j + 1) ?_ ?_
      · intro a b hab ha hb
        split <;> split <;> omega
      · intro j r hr
        right
        rw [List.getElem?_append] at hr
        by_cases q : j < (F x).length
        · simp only [q, if_true] at hr ⊢
          rw [List.getElem?_set_ne (by omega), List.getElem?_append_left q]; exact hr
        · simp only [q, if_false] at hr ⊢
          have : j = (F x).length := by
            rcases Nat.lt_or_ge (j - (F x).length) 1 with s | s
            · omega
            · rw [List.getElem?_eq_none (by simpa using s)] at hr; cases hr
          subst this
          simp at hr; subst hr
          rw [List.getElem?_set_ne (by omega), List.getElem?_append_right (by omega)]
          simp [hT]
  refine ⟨l, [mark D], W1, { target := .fn (.func gf) lb.toArray, args := #[yv l] }, W1, gf, (yv l :: lb).toArray, W1, ?_, ?_, ?_, ?_, fun h => by simp [Wf, Fence.wide] at h, ?_⟩
  · rw [← hW1, hrec, hl, hD]; exact run_enterLoop_outer _ _ _ _ _
  · have e : a.eval gop = .func (.func gf) #[] lb.toArray := ha.eval hg
    simp only [resolve, e]
    simp [Deferred.ofValue, yv, Act.eval]
  · intro f' _; exact True.intro
  · simp [invoke, run_call hf]
  · refine callsIn_wf.2 ((hseq l (fun n r => ∃ x, I n x ∧ r = big β (F x ++ T .ready none) ∧ Fits β (F x ++ T .ready none)) (fun n r => ∃ c x, Ix c n x ∧ r = big β (F x ++ T .done (some c)) ∧ Fits β (F x ++ T .done (some c)))
      W1 (big β (F x0 ++ T .ready none)) ?_ ?_ ⟨x0, h0, rfl, hst1.fits⟩ ⟨hst1.inv, hst1.fr⟩ ?_).mono ?_)
    · rintro n r w' ⟨x, hI, rfl,_⟩ hinv
      exact hCap n x w' hI (fun i r hr => hinv.1 i r (by
        rw [List.getElem?_append_left]
        · exact hr
        · rcases Nat.lt_or_ge i (F x).length with q | q
          · exact q
          · simp [List.getElem?_eq_none q] at hr)) hinv.2
    · -- one round
      rintro n vs hvs r w1 ⟨x, hI, rfl, hfit⟩ hinv hb hos
      have hs1 : St β (F x ++ T .ready none) w1 := St.of_big (w1 := w1) (O := β.O) hfit ⟨hos.1.trans hst1.os, hos.2.1.trans hst1.tape, hos.2.2.1.trans hst1.output, Nat.le_trans hst1.size hos.2.2.2⟩ hinv hb
      have hrl : w1.heap[l]? = some (.loop (rec .ready none)) := hs1.inv _ _ (hTget x .ready none)
      have hlen : vs.toArray.size = ps.size := by simpa using hps vs (List.mem_of_getElem? hvs)
      have hy := run_yield (P := P) (args := vs.toArray) hrl (by rw [hrec]; exact hlen)
      refine ⟨_,_,_,_, hy, ?_⟩
      refine roundIn_of_wpIn (F := Fence.wide) (n := 0) True.intro ?_
      have hA : Ag N [] (penv ps vs ++ env) { tmps := (ps.zip vs.toArray).foldl (fun t (p, v) => t.setIfInBounds p v) a.tmps, defers := [] } := by
        have h1 := ag_zip (N := N) (ds := []) (ps.toList.zip vs) env { tmps := a.tmps, defers := [] } (fun z hz => by
          have hm : z.1 ∈ ps.toList := (List.of_mem_zip (a := z.1) (b := z.2) hz).1
          exact Nat.le_of_ble_eq_true (List.all_eq_true.1 hpN z.1 hm)) ⟨ha.size, rfl, ha.get⟩
        have e : (ps.zip vs.toArray).foldl (fun t (p, v) => t.setIfInBounds p v) a.tmps = (ps.toList.zip vs).foldl (fun t (p, v) => t.setIfInBounds p v) a.tmps := by
          rw [← Array.foldl_toList, Array.toList_zip]
        rw [e]; exact h1
      have ha1 := hasg n x vs l (T .ready none) w1 hI hvs hs1 _ w1 hA hs1.rebase
      rw [hrec]
      refine Code.wpIn_mono ?_ ha1
      rintro e a2 w2 ⟨rfl, hag, hs2⟩
      have hs2' := hs1.back hs2
      have hrl2 : w2.heap[l]? = some (.loop (rec .ready none)) := hs2.inv _ _ (hTget x .ready none)
      refine ⟨w2.putObj l (.loop { rec .ready none with state := .busy }), run_beginRound hrl2 (by rw [hrec]), ?_⟩
      have eb : ({ rec .ready none with state := .busy } : Loop) = rec .busy none := by rw [hrec]
      rw [eb]
      have hs3 := hs2'.obj (o' := .loop (rec .busy none)) _ (hTget x .ready none)
      rw [hTset] at hs3
      have hs3' := hs2.obj (o' := .loop (rec .busy none)) _ (hTget x .ready none)
      rw [hTset] at hs3'
      have hb1 := hbody n x vs l (T .busy none) _ hI hvs hs3 _ _ hag hs3.rebase
      refine Code.wpIn_mono ?_ hb1
      intro e a3 w3 hq
      have fin : ∀ y (jump : Option Code), St ⟨w2.putObj l (.loop (rec .busy none)), fpL (F x ++ T .busy none)⟩ (F y ++ T .busy none) w3 →
          ∃ w4, (Instr.endRound l jump).run P w3 = .ok (.bool jump.isNone) w4 ∧ St ⟨w1, (big β (F x ++ T .ready none)).fp⟩ [big β (F y ++ T (if jump.isNone then .ready else .done) jump)] w4 ∧ Fits β (F y ++ T (if jump.isNone then .ready else .done) jump) := by
        intro y jump hsy
        have h4 := hs3'.back hsy
        have hrl3 : w3.heap[l]? = some (.loop (rec .busy none)) := h4.inv _ _ (hTget y .busy none)
        refine ⟨_, run_endRound jump hrl3, ?_⟩
        have er : ({ rec .busy none with state := if jump.isNone then .ready else .done, pending := jump } : Loop) = rec (if jump.isNone then .ready else .done) jump := by rw [hrec]
        rw [er]
        have h5 := h4.obj (o' := .loop (rec (if jump.isNone then .ready else .done) jump)) _ (hTget y .busy none)
        rw [hTset] at h5
        exact ⟨St.to_big hs1 h5, (hs1.back h5).fits⟩
      cases e with
      | normal =>
        obtain ⟨y, hy1, hy2⟩ := hq
        obtain ⟨w4, h1, h2, h3⟩ := fin y none hy2
        exact ⟨_, w4, h1, true,_, rfl, ⟨y, hy1, rfl, h3⟩, h2⟩
      | ret =>
        obtain ⟨y, hy1, hy2⟩ := hq
        obtain ⟨w4, h1, h2, h3⟩ := fin y (some .ret) hy2
        exact ⟨_, w4, h1, false,_, rfl, ⟨_, y, hy1, rfl, h3⟩, h2⟩
      | exit id =>
        obtain ⟨y, hy1, hy2⟩ := hq
        obtain ⟨w4, h1, h2, h3⟩ := fin y (some (.exit id)) hy2
        exact ⟨_, w4, h1, false,_, rfl, ⟨_, y, hy1, rfl, h3⟩, h2⟩
      | goto t => exact hq.elim
      | panic ch => exact hq.elim
      | outgrown => exact hq.elim
    · intro k hk
      rcases hk with ⟨i, r, hr, hk⟩ | ⟨hk,_⟩
      · exact (hst1.rng i r hr k hk).2
      · exact Nat.lt_of_lt_of_le hk hst1.size
    · rintro e w' ⟨rfl, n, r', hJ, hs⟩
      have toSt : ∀ L2, r' = big β L2 → Fits β L2 → St β L2 w' := by
        rintro L2 rfl hfit
        have hb := hs.rng 0 _ rfl
        exact St.of_big (w1 := w') (O := β.O) hfit ⟨hs.os.trans hst1.os, hs.tape.trans hst1.tape, hs.output.trans hst1.output, Nat.le_trans hst1.size hs.size⟩ (hs.inv 0 _ rfl) (fun k hk => (hb k hk).2)
      have hag : Ag N [mark D] env { a with defers := [mark D] ++ a.defers } := ⟨ha.size, by simp [ha.dfr], ha.get⟩
      rcases hJ with ⟨x, hI, hr, hfit⟩ | ⟨hle, c, x, hI, hr, hfit⟩
      · obtain ⟨w4, h1, h2⟩ := endx x .ready none w' (toSt _ hr hfit) (by simp)
        exact ⟨none, w4, h1, hdone D x hI _ _ hag h2⟩
      · obtain ⟨w4, h1, h2⟩ := endx x .done (some c) w' (toSt _ hr hfit) (by simp)
        exact ⟨some c, w4, h1, hstop D c n x hle hI _ _ hag h2⟩
theorem VC.rangeFunc {α : Type} {gop : Operand} {ps : Array Tmp} {asg body : Code} {gf : FuncId} {lb : List Value} {Cap : World → Prop} {xs : List (List Value)} (F : α → List Res) (I : Nat → α → Prop) (Ix : Code → Nat → α → Prop) (x0 : α) (envb : List Value → Env)
    (hg : ev env gop = some (.func (.func gf) #[] lb.toArray)) (hf : IsFn P gf) (hseq : SeqC P gf lb Cap xs) (hF0 : ∀ w, St β L w → St β (F x0) w) (h0 : I 0 x0)
    (hps : ∀ vs, vs ∈ xs → vs.length = ps.size) (hpN : ps.toList.all (fun t => Nat.blt t N) = true)
    (hCap : ∀ n x w, I n x → (∀ (i : Nat) (r : Res), (F x)[i]? = some r → r.inv w) → Cap w)
    (hasg : ∀ (n : Nat) (x : α) (vs : List Value) l T w1, I n x → xs[n]? = some vs → St β (F x ++ T) w1 → VC P (some l) ⟨w1, fpL (F x ++ T)⟩ N [] (penv ps vs ++ env) (F x ++ T) asg (AP ⟨w1, fpL (F x ++ T)⟩ N (envb vs) (F x ++ T)))
    (hbody : ∀ (n : Nat) (x : α) (vs : List Value) l T w1, I n x → xs[n]? = some vs → St β (F x ++ T) w1 → VC P (some l) ⟨w1, fpL (F x ++ T)⟩ N [] (envb vs) (F x ++ T) body (RB ⟨w1, fpL (F x ++ T)⟩ F T (I (n + 1)) (fun c => Ix c (n + 1))))
    (hdone : ∀ D x, I xs.length x → VE β N [mark D] env (F x ++ [dR D]) .normal Q)
    (hstop : ∀ D c n x, n ≤ xs.length → Ix c n x → VC P none β N [mark D] env (F x ++ [dR D]) c Q) :
    VC P none β N [] env L (.rangeFunc gop ps asg body) Q :=
  VC.rangeFuncF F I Ix x0 envb hg hf hseq hF0 h0 hps hpN (fun n x w h1 h2 _ => hCap n x w h1 h2) hasg hbody hdone hstop
theorem VE.resD (i : Nat) {fn : Func} {R : Ending → World → Prop} {xs : List ResultVar} {vs : List Value} {D : Nat} {LF : List Res} (hr : fn.results = xs.toArray) (hi : L[i]? = some (dR D)) (hL : L.set i (blk D (.deferred none)) = LF) (h : RVs P β LF env xs vs)
    (k : ∀ w, St β LF w → R (.returned (resV vs)) w) : VE β N [mark D] env L .ret (FP P fn R) := by
  intro a w ha hw
  show LeavesInM (Wf none) 0 P fn a.tmps R a.defers .returning w
  rw [ha.dfr]
  have hd : w.heap[D]? = some (.deferred (some [])) := hw.inv i _ hi
  have hs := hw.obj (o' := .deferred none) i hi
  rw [hL] at hs
  refine ⟨by simp, .inl ⟨D,_, rfl, run_takeDeferred hd, ?_⟩⟩
  exact ⟨_, run_results (ds := []) (a := { tmps := a.tmps, defers := [] }) hr ⟨ha.size, rfl, ha.get⟩ hs h, k _ hs⟩
end
structure SetE (es : List MapEntry) (S : Int → Bool) : Prop where
  ent : ∀ e, e ∈ es → ∃ n, e.key = intV n ∧ e.val = .bool true ∧ S n = true
  mem : ∀ n, S n = true → ∃ e, e ∈ es ∧ e.key = intV n
  nod : es.Pairwise fun a b => a.key ≠ b.key
def Stamps (es : List MapEntry) (clock : Nat) : Prop := (es.map (·.born)).Nodup ∧ ∀ e, e ∈ es → e.born < clock
def setR (b : Nat) (S : Int → Bool) : Res := ⟨fun k => k = b, fun w => ∃ es clock, w.heap[b]? = some (.map es clock) ∧ SetE es.toList S ∧ Stamps es.toList clock, fun h ⟨es, c, h1, h2⟩ => ⟨es, c, (h b rfl).trans h1, h2⟩⟩
theorem intV_inj {a b : Int} (h : intV a = intV b) : a = b := by simpa [intV] using h
theorem findNow_set {k : IntKind} {n : Int} : ∀ {es : List MapEntry} (i : Nat), (∀ e, e ∈ es → ∃ m, e.key = intV m ∧ e.val = .bool true) →
    (∃ j, Instr.findNow (.int k) (intV n) es i = some (some (j, .bool true)) ∧ i ≤ j ∧ ∃ e, es[j - i]? = some e ∧ e.key = intV n) ∨ (Instr.findNow (.int k) (intV n) es i = some none ∧ ∀ e, e ∈ es → e.key ≠ intV n)
  | [], i,_ => .inr ⟨rfl, by simp⟩
  | e :: es, i, h => by
    obtain ⟨m, hm, hv⟩ := h e (by simp)
    simp only [Instr.findNow, hm, intV, Instr.sameNow, if_true]
    by_cases q : n = m
    · subst q
      left
      simp only [beq_self_eq_true]
      exact ⟨i, by rw [hv], Nat.le_refl _, e, by simp, hm⟩
    · have : (n == m) = false := by simp [q]
      rw [this]
      rcases findNow_set (k := k) (n := n) (es := es) (i + 1) (fun e' he => h e' (by simp [he])) with ⟨j, h1, h2, e', h3, h4⟩ | ⟨h1, h2⟩
      · left
        refine ⟨j, h1, by omega, e', ?_, h4⟩
        rw [show j - i = (j - (i + 1)) + 1 by omega]
        simpa using h3
      · right
        refine ⟨h1, ?_⟩
        intro e' he
        rcases List.mem_cons.1 he with rfl | he
        · rw [hm]; exact fun e => q (intV_inj e).symm
        · exact h2 e' he
section
variable {P : Program} {ro : Option Nat} {β : Bs} {N : Nat} {ds : List Deferred} {env : Env} {L : List Res} {Q : Exit → Act → World → Prop}
variable {d : Option Nat} {ty : TypeId} {pos : String} {aft : Array Edge} {g : Option (Nat × Bool)}
def IsSet (P : Program) (T : Nat) : Prop := ∃ K E k, P.underlying T = some (.map K E) ∧ P.underlying K = some (.int k) ∧ ZeroOf P E (.bool false)
theorem checkKey_int {K : TypeId} {k : IntKind} (hK : P.underlying K = some (.int k)) (e : Bool) (n : Nat) (v : Value) (w : World) : (Instr.checkKey e (n + 1) K v).run P w = .ok () w := by
  simp [Instr.checkKey, run_underlying hK]
theorem run_lookup_set {T b : Nat} {S : Int → Bool} {n : Int} {w : World} (hT : IsSet P T) (hi : (setR b S).inv w) : (Instr.lookup T (.map (some b)) (intV n) false).run P w = .ok (.bool (S n)) w := by
  obtain ⟨K, E, k, hu, hK, hz⟩ := hT
  obtain ⟨es, clock, hb, hs,_⟩ := hi
  have hobj : (getObj b).run P w = .ok (.map es clock) w := by simp [getObj, Sem.run, hb]
  simp only [Instr.lookup, Sem.run_bind, run_underlying hu, Result.andThen_ok, hobj, Sem.run_pure, checkKey_int hK, Instr.findKey, run_underlying hK]
  rcases findNow_set (k := k) (n := n) (es := es.toList) 0 (fun e he => by obtain ⟨m, h1, h2,_⟩ := hs.ent e he; exact ⟨m, h1, h2⟩) with ⟨j, h1, h2, e, h3, h4⟩ | ⟨h1, h2⟩
  · rw [h1]
    have hm : e ∈ es.toList := List.mem_of_getElem? h3
    obtain ⟨m, g1, g2, g3⟩ := hs.ent e hm
    have : m = n := intV_inj (g1.symm.trans h4)
    subst this
    simp [g3]
  · rw [h1]
    have : S n = false := by
      cases q : S n
      · rfl
      · obtain ⟨e, he, hk⟩ := hs.mem n q
        exact absurd hk (h2 e he)
    simp [run_zero hz, this]
theorem LO.lk {x y : Operand} {T b : Nat} {S : Int → Bool} {n : Int} (hT : IsSet P T) (hx : OV env x (.map (some b))) (hy : OV env y (.int .i64 n)) (hi : ∀ w, St β L w → (setR b S).inv w) : LO P β env L ⟨d, .lookup T x y false, ty, pos, aft, g⟩ (.bool (S n)) :=
  .of_run fun a w h hw => ⟨w, by
    have := run_lookup_set (n := n) hT (hi w hw)
    simp only [intV] at this
    simp [execOp, h x (by simp [Op.operands]) _ hx, h y (by simp [Op.operands]) _ hy, this], hw⟩
def insB (S : Int → Bool) (n : Int) : Int → Bool := fun m => decide (m = n) || S m
theorem run_mapUpdate_set {T b : Nat} {S : Int → Bool} {n : Int} {w : World} (hT : IsSet P T) (i : Nat) (hw : St β L w) (hi : L[i]? = some (setR b S)) :
    ∃ w', (Instr.mapUpdate T (.map (some b)) (intV n) (.bool true)).run P w = .ok () w' ∧ St β (L.set i (setR b (insB S n))) w' := by
  obtain ⟨K, E, k, hu, hK, hz⟩ := hT
  obtain ⟨es, clock, hb, hs, hst⟩ := hw.inv i _ hi
  have hobj : (getObj b).run P w = .ok (.map es clock) w := by simp [getObj, Sem.run, hb]
  have hlt : i < L.length := by
    rcases Nat.lt_or_ge i L.length with q | q
    · exact q
    · simp [List.getElem?_eq_none q] at hi
  have hset : ∀ o, (setObj b o).run P w = .ok () (w.putObj b o) := fun o => by simp [setObj, Sem.run, hb, World.putObj]
  -- the set's block «as» a block
  have h1 : St β (L.set i (blk b (.map es clock))) w := hw.conv i hi (fun k hk => hk) hb
  have upd : ∀ es' clock', SetE es'.toList (insB S n) → Stamps es'.toList clock' → St β (L.set i (setR b (insB S n))) (w.putObj b (.map es' clock')) := by
    intro es' clock' hse hst'
    have hg : (L.set i (blk b (.map es clock)))[i]? = some (blk b (.map es clock)) := by simp [hlt]
    have h2 := h1.obj (o' := .map es' clock') i hg
    rw [List.set_set] at h2
    have hg2 : (L.set i (blk b (.map es' clock')))[i]? = some (blk b (.map es' clock')) := by simp [hlt]
    have h3 := h2.conv i (r' := setR b (insB S n)) hg2 (fun k hk => hk) ⟨es', clock', h2.inv i _ hg2, hse, hst'⟩
    rwa [List.set_set] at h3
  simp only [Instr.mapUpdate, Sem.run_bind, run_underlying hu, Result.andThen_ok, hobj, checkKey_int hK, Instr.findKey, run_underlying hK]
  rcases findNow_set (k := k) (n := n) (es := es.toList) 0 (fun e he => by obtain ⟨m, h1, h2,_⟩ := hs.ent e he; exact ⟨m, h1, h2⟩) with ⟨j, h1', h2, e, h3, h4⟩ | ⟨h1', h2⟩
  · rw [h1']
    simp only [Nat.sub_zero] at h3
    have hj : es[j]? = some e := by simpa using h3
    have hjl : j < es.size := (Array.getElem?_eq_some_iff.1 hj).1
    have hme : es[j] = e := (Array.getElem?_eq_some_iff.1 hj).2
    obtain ⟨m, g1, g2, g3⟩ := hs.ent e (List.mem_of_getElem? h3)
    have hmn : m = n := intV_inj (g1.symm.trans h4)
    subst hmn
    have hmod : (es.modify j fun e => { e with key := intV m, val := .bool true }) = es := by
      apply Array.ext
      · simp
      · intro k hk1 hk2
        rw [Array.getElem_modify]
        split
        · rename_i q
          subst q
          rw [hme, ← g1, ← g2]
        · rfl
    refine ⟨w.putObj b (.map es clock), ?_, upd es clock ?_ hst⟩
    · simp [hj, g1, Instr.keyThatStays, intV, Instr.sameBits]
      rw [show (es.modify j fun e => { key := Value.int .i64 m, val := Value.bool true, born := e.born }) = es from hmod, hset]
    · refine ⟨fun e' he' => ?_, fun k hk => ?_, hs.nod⟩
      · obtain ⟨a, b1, b2, b3⟩ := hs.ent e' he'
        exact ⟨a, b1, b2, by simp [insB, b3]⟩
      · simp only [insB, Bool.or_eq_true, decide_eq_true_eq] at hk
        rcases hk with rfl | hk
        · exact hs.mem _ g3
        · exact hs.mem k hk
  · rw [h1']
    refine ⟨_, hset _, upd (es.push { key := intV n, val := .bool true, born := clock }) (clock + 1) ?_ ?_⟩
    case refine_2 =>
      simp only [Array.toList_push]
      refine ⟨?_, fun e' he' => ?_⟩
      · rw [List.map_append, List.nodup_append]
        refine ⟨hst.1, by simp, ?_⟩
        intro a ha b hb
        obtain ⟨x, hx, rfl⟩ := List.mem_map.1 ha
        have := hst.2 x hx
        simp at hb
        omega
      · rcases List.mem_append.1 he' with q | q
        · have := hst.2 e' q; omega
        · simp at q; subst q; exact Nat.lt_succ_self _
    refine ⟨fun e' he' => ?_, fun k hk => ?_, ?_⟩
    · simp only [Array.toList_push, List.mem_append, List.mem_singleton] at he'
      rcases he' with he' | rfl
      · obtain ⟨a, b1, b2, b3⟩ := hs.ent e' he'
        exact ⟨a, b1, b2, by simp [insB, b3]⟩
      · exact ⟨n, rfl, rfl, by simp [insB]⟩
    · simp only [insB, Bool.or_eq_true, decide_eq_true_eq] at hk
      by_cases q : k = n
      · exact ⟨{ key := intV n, val := .bool true, born := clock }, by simp, by rw [q]⟩
      · obtain ⟨e, he, hke⟩ := hs.mem k (by simpa [q] using hk)
        exact ⟨e, by simp [he], hke⟩
    · simp only [Array.toList_push]
      rw [List.pairwise_append]
      refine ⟨hs.nod, by simp, ?_⟩
      intro a ha b hb
      simp at hb; subst hb
      exact h2 a ha
section
variable {K : Value → List Res → Prop} {dd : Option Nat}
theorem HO.mkset {T : Nat} (k : ∀ b, K (.map (some b)) (setR b (fun _ => false) :: L)) : HO P β env L ⟨dd, .makeMap T none, ty, pos, aft, none⟩ K := by
  intro a w h hw
  refine .inl ⟨_, w.alloc (.map #[] 0),_,_, ?_, .inl rfl, k w.heap.size, ?_⟩
  · simp [execOp, run_makeMap]
  · have h1 := hw.alloc (.map #[] 0)
    have := h1.conv 0 (r' := setR w.heap.size (fun _ => false)) rfl (fun k hk => hk) ⟨#[], 0, h1.inv 0 _ rfl, ⟨by simp, by simp, by simp⟩, by simp, by simp⟩
    simpa using this
theorem HO.mu (i : Nat) (LF : Res → List Res) {x y z : Operand} {T b : Nat} {S : Int → Bool} {n : Int} (hT : IsSet P T) (hx : OV env x (.map (some b))) (hy : OV env y (.int .i64 n)) (hz : OV env z (.bool true)) (hi : L[i]? = some (setR b S)) (hL : ∀ R : Res, L.set i R = LF R)
    (k : K undef (LF (setR b (insB S n)))) : HO P β env L ⟨dd, .mapUpdate T x y z, ty, pos, aft, none⟩ K := by
  intro a w h hw
  obtain ⟨w', h1, h2⟩ := run_mapUpdate_set (n := n) hT i hw hi
  simp only [intV] at h1
  refine .inl ⟨.skip, w', undef,_, ?_, .inr ⟨rfl, rfl⟩, k, by rw [← hL]; exact h2⟩
  have ex : a.eval x = .map (some b) := by obtain ⟨u, hu, e⟩ := hx; subst e; exact h x (by simp [Op.operands]) _ hu
  have ey : a.eval y = .int .i64 n := by obtain ⟨u, hu, e⟩ := hy; subst e; exact h y (by simp [Op.operands]) _ hu
  have ez : a.eval z = .bool true := by obtain ⟨u, hu, e⟩ := hz; subst e; exact h z (by simp [Op.operands]) _ hu
  simp [execOp, ex, ey, ez, h1]
end
theorem HO.callx {α : Type} {K : Value → List Res → Prop} {dd : Option Nat} {f : FuncId} {xs : List Operand} {vs : List Value} {aT : Array TypeId} {v : α → Value} {R : α → List Res} {I : α → Prop} (hf : IsFn P f) (hx : OVs env xs vs)
    (hc : ∀ w, St β L w → Calls P f vs.toArray w fun e w' => ∃ x, I x ∧ e = .returned (v x) ∧ St (Go.SL.bs w) (R x) w') (k : ∀ x, I x → K (v x) (R x ++ L)) : HO P β env L ⟨dd, .call ⟨.value (.func f), xs.toArray, aT⟩, ty, pos, aft, none⟩ K :=
  HO.call (post := fun v' R' => ∃ x, I x ∧ v' = v x ∧ R' = R x) hf hx (fun w hw => (hc w hw).mono fun e w' ⟨x, h1, h2, h3⟩ => ⟨v x, R x, h2, ⟨x, h1, rfl, rfl⟩, h3⟩) (fun v' R' ⟨x, h1, h2, h3⟩ => by subst h2; subst h3; exact k x h1)
end
section
variable {P : Program} {ro : Option Nat} {β : Bs} {N : Nat} {ds : List Deferred} {env : Env} {L : List Res} {Q : Exit → Act → World → Prop}
theorem VC.loopK {α : Type} (n : Nat) (E : α → Env) (Ek : Env) (F : α → List Res) (I : α → Prop) (μ : α → Nat) (x0 : α) {c : Code} (h0 : I x0) (hE : Sub (E x0 ++ Ek) env)
    (hF : ∀ w, St β L w → St β (F x0 ++ L.drop n) w)
    (hr : ∀ x, I x → VC P ro β N ds (E x ++ Ek) (F x ++ L.drop n) c (Exit.then (fun a w => ∃ y, I y ∧ μ y < μ x ∧ Ag N ds (E y ++ Ek) a ∧ St β (F y ++ L.drop n) w) Q)) : VC P ro β N ds env L (.loop c) Q :=
  VC.loop (fun x => E x ++ Ek) (fun x => F x ++ L.drop n) I μ x0 h0 hE hF hr
theorem VO.hg {ops : Array Oper} {d j t : Nat} {want c : Bool} {op : Op} {ty : TypeId} {pos : String} {aft : Array Edge} {rest : List Oper} {u : Value} {Kx : Value → List Res → Prop} (hj : (ops[j]?).bind (·.dst) = some t) (ht : ev1 env t = some u) (hg : GD u want c)
    (h : c = true → HO P β env L ⟨some d, op, ty, pos, aft, some (j, want)⟩ Kx) (hd : Nat.blt d N = true)
    (k : ∀ v L', (c = true → Kx v L') → (c = false → L' = L) → VO P ro β N ds ops ((d, gv c v) :: env) L' rest Q) : VO P ro β N ds ops env L (⟨some d, op, ty, pos, aft, some (j, want)⟩ :: rest) Q := by
  intro a w ha hw
  have ht' := ha.get t u ht
  have hy : yielded ops a.tmps j = vb u := by
    unfold yielded; rw [hj]; simp only [Option.bind_some, ht']; cases u <;> rfl
  refine wpListIn_step fun K hK => ?_
  simp only [Region.wanted, hy]
  cases c with
  | true =>
    have hu := hg.1 rfl
    subst hu
    simp only [vb, beq_self_eq_true, if_true]
    exact (h rfl).wp (fun x _ u hu => ha.eval hu) hw fun v L' w' hk hs => hK _ _ (by have := k v L' (fun _ => hk) (fun q => by cases q) _ w' (ha.put (Nat.le_of_ble_eq_true hd) (gv true v)) hs; simpa [gv] using this)
  | false =>
    have hu := hg.2 rfl
    have hne : (vb u == some want) = false := by
      cases u <;> simp_all [vb]
    simp only [hne, Bool.false_eq_true, if_false]
    refine ⟨fun _ _ => True.intro, hK _ _ ?_⟩
    have := k undef L (fun q => by cases q) (fun _ => rfl) _ w (ha.put (Nat.le_of_ble_eq_true hd) (gv false undef)) hw
    simpa [gv] using this
theorem VO.yg (i : Nat) {ops : Array Oper} {d j t : Nat} {want c : Bool} {ty : TypeId} {pos : String} {aft : Array Edge} {rest : List Oper} {u : Value} {fx : Operand} {xs : List Operand} {vs : List Value} {aT : Array TypeId} {l : Nat} {r : Res} {post : Bool → Res → Prop} (hj : (ops[j]?).bind (·.dst) = some t) (ht : ev1 env t = some u) (hg : GD u want c) (hd : Nat.blt d N = true)
    (hfx : c = true → OV env fx (yv l)) (hx : OVs env xs vs) (hi : L[i]? = some r)
    (hy : c = true → ∀ w, r.inv w → (∀ k, r.fp k → k < w.heap.size) → (w.os = β.w.os ∧ w.tape = β.w.tape ∧ w.output = β.w.output ∧ β.w.heap.size ≤ w.heap.size) → YieldsTo P l vs w fun e w' => ∃ b r', e = .returned (.bool b) ∧ post b r' ∧ St ⟨w, r.fp⟩ [r'] w')
    (k : ∀ b r', (c = true → post b r') → (c = false → r' = r) → VO P ro β N ds ops ((d, gv c (.bool b)) :: env) (L.set i r') rest Q) :
    VO P ro β N ds ops env L (⟨some d, .call ⟨.value fx, xs.toArray, aT⟩, ty, pos, aft, some (j, want)⟩ :: rest) Q := by
  cases c with
  | true =>
    exact VO.hg (Kx := fun v L' => ∃ b r', v = .bool b ∧ L' = L.set i r' ∧ post b r') hj ht hg (fun q => HO.yield i (hfx q) hx hi (hy q) fun b r' hp => ⟨b, r', rfl, rfl, hp⟩) hd fun v L' h1 _ => by
      obtain ⟨b, r', h2, h3, h4⟩ := h1 rfl
      subst h2; subst h3
      exact k b r' (fun _ => h4) (fun q => by cases q)
  | false =>
    refine VO.hg (Kx := fun _ _ => False) hj ht hg (fun q => by cases q) hd fun v L' _ h2 => ?_
    have h3 := h2 rfl
    subst h3
    have h4 := k true r (fun q => by cases q) (fun _ => rfl)
    have h5 : L'.set i r = L' := by
      apply List.ext_getElem?
      intro n
      rw [List.getElem?_set]
      split
      · rename_i q; subst q
        split
        · exact hi.symm
        · rename_i q; simp [List.getElem?_eq_none (Nat.not_lt.1 q)] at hi
      · rfl
    rw [h5] at h4
    exact h4
theorem St.one {w : World} {r : Res} (hi : r.inv w) (hb : ∀ k, r.fp k → k < w.heap.size) : St ⟨w, r.fp⟩ [r] w := by
  refine ⟨rfl, rfl, rfl, Nat.le_refl _, fun _ _ _ => rfl, ?_, ?_, ?_⟩
  · intro i s hs
    cases i with
    | zero => simp at hs; subst hs; exact hi
    | succ n => simp at hs
  · intro i s hs k hk
    cases i with
    | zero => simp at hs; subst hs; exact ⟨.inl hk, hb k hk⟩
    | succ n => simp at hs
  · intro i j s t hij hs ht k _ _
    cases i with
    | zero => cases j with
      | zero => exact hij rfl
      | succ n => simp at ht
    | succ n => simp at hs
theorem Builds.mk {T : Nat} {PL : List (Nat × Nat)} {Z : List Value} (h : ∀ ps, P.built T ps = Instr.fill (PL.toArray[·]?) Z.toArray ps) : Builds P T PL Z := fun ps => by
  rw [h]
  have : (fun x => PL.toArray[x]?) = fun x : Nat => PL[x]? := funext fun i => by simp
  rw [this]
end
end Go.SL
namespace Go.Cast
structure Grid where
  x : Int
  y : Int
  size : Int
  wide : Int
  high : Int
structure Flow where
  a : Int
  b : Int
  c : Int
  d : Int
  deriving DecidableEq
structure Cloud where
  sure : List Int
  may : List Int
  flow : Flow
  grow : Int
def gridOk (g : Grid) : Prop := (-1048576 ≤ g.x ∧ g.x ≤ 1048576) ∧ (-1048576 ≤ g.y ∧ g.y ≤ 1048576) ∧ (1 ≤ g.size ∧ g.size ≤ 10000) ∧ (1 ≤ g.wide ∧ g.wide ≤ 64) ∧ (1 ≤ g.high ∧ g.high ≤ 64)
instance (g : Grid) : Decidable (gridOk g) := by unfold gridOk; exact inferInstance
def flowOk (f : Flow) : Prop := (-100000 ≤ f.a ∧ f.a ≤ f.b ∧ f.b ≤ 100000) ∧ (-100000 ≤ f.c ∧ f.c ≤ f.d ∧ f.d ≤ 100000)
instance (f : Flow) : Decidable (flowOk f) := by unfold flowOk; exact inferInstance
def gridE (g : Grid) : Int := if gridOk g then 0 else 3
def flowE (f : Flow) : Int := if flowOk f then 0 else 3
def firstE (f : Nat → Int) : Nat → Int
  | 0 => 0
  | n + 1 => if firstE f n ≠ 0 then firstE f n else f n
theorem firstE_zero {f : Nat → Int} : ∀ {n : Nat}, (∀ k, k < n → f k = 0) → firstE f n = 0
  | 0,_ => rfl
  | n + 1, h => by
    have := firstE_zero (f := f) (n := n) (fun k hk => h k (by omega))
    simp [firstE, this, h n (by omega)]
theorem firstE_at {f : Nat → Int} {i : Nat} (h : ∀ k, k < i → f k = 0) (hi : f i ≠ 0) : ∀ {n : Nat}, i < n → firstE f n = f i
  | 0, hn => by omega
  | n + 1, hn => by
    by_cases e : i = n
    · subst e; simp [firstE, firstE_zero h]
    · have := firstE_at h hi (n := n) (by omega)
      simp [firstE, this, hi]
theorem firstE_eq {f : Nat → Int} : ∀ {n : Nat}, firstE f n = 0 → ∀ k, k < n → f k = 0
  | 0,_, k, hk => by omega
  | n + 1, h, k, hk => by
    unfold firstE at h
    split at h
    · rename_i q; exact absurd h q
    · rename_i q
      simp only [ne_eq, Classical.not_not] at q
      by_cases e : k = n
      · subst e; exact h
      · exact firstE_eq q k (by omega)
def mayE (g : Grid) (l : List Int) (i : Nat) : Int := if ¬ (0 ≤ l.getD i 0 ∧ l.getD i 0 ≤ g.wide * g.high - 1) then 4 else if 0 < i ∧ l.getD i 0 ≤ l.getD (i - 1) 0 then 12 else 0
def sureE (m l : List Int) (i : Nat) : Int := if 0 < i ∧ l.getD i 0 ≤ l.getD (i - 1) 0 then 12 else if l.getD i 0 ∉ m then 11 else 0
def cloudE (g : Grid) (c : Cloud) : Int :=
  if ¬ gridOk g then 3 else if ¬ flowOk c.flow then 3 else if ¬ (0 ≤ c.grow ∧ c.grow ≤ 10000) then 3 else if c.may = [] then 18
  else if firstE (mayE g c.may) c.may.length ≠ 0 then firstE (mayE g c.may) c.may.length else firstE (sureE c.may c.sure) c.sure.length
def memB (l : List Int) (n : Int) : Bool := decide (n ∈ l)
theorem tdiv_bd (a b : Int) (hb : 0 < b) (h1 : -9223372036854775807 ≤ a) (h2 : a ≤ 9223372036854775807) : -9223372036854775807 ≤ a.tdiv b ∧ a.tdiv b ≤ 9223372036854775807 ∧ (a.tmod b < 0 → a / b = a.tdiv b - 1) ∧ (0 ≤ a.tmod b → a / b = a.tdiv b) ∧ -9223372036854775807 ≤ a / b := by
  have e := Int.mul_tdiv_add_tmod a b
  have f := Int.mul_ediv_add_emod a b
  have hm := Int.emod_nonneg a (by omega : b ≠ 0)
  have hm2 := Int.emod_lt_of_pos a hb
  rcases Int.le_total 0 a with h | h
  · have r1 := Int.tmod_nonneg b h
    have e1 : a.tdiv b = a / b := Int.tdiv_eq_ediv_of_nonneg h
    have d1 : 0 ≤ a / b := Int.ediv_nonneg h (by omega)
    have d2 : a / b ≤ a := Int.ediv_le_self b h
    refine ⟨by omega, by omega, fun q => by omega, fun _ => e1.symm, by omega⟩
  · have r1 : a.tdiv b = -((-a) / b) := by
      have := Int.neg_tdiv (a := -a) (b := b)
      rw [Int.neg_neg] at this
      rw [this, Int.tdiv_eq_ediv_of_nonneg (by omega)]
    have d1 : 0 ≤ (-a) / b := Int.ediv_nonneg (by omega) (by omega)
    have d2 : (-a) / b ≤ -a := Int.ediv_le_self b (by omega)
    have d3 := Int.mul_ediv_add_emod (-a) b
    have d4 := Int.emod_nonneg (-a) (by omega : b ≠ 0)
    have d5 := Int.emod_lt_of_pos (-a) hb
    have t1 : a.tmod b = a - b * a.tdiv b := by omega
    have key : b * a.tdiv b = -(b * ((-a) / b)) := by rw [r1, Int.mul_neg]
    refine ⟨by omega, by omega, fun q => ?_, fun q => ?_, ?_⟩
    · have h7 : 0 < (-a) % b := by omega
      have : a / b = -((-a) / b) - 1 := by
        have : a = b * (-((-a) / b) - 1) + (b - (-a) % b) := by rw [Int.mul_sub, Int.mul_neg]; omega
        have h8 := Int.ediv_emod_unique (a := a) (b := b) (r := b - (-a) % b) (q := -((-a) / b) - 1) hb
        exact (h8.2 ⟨by omega, by omega, by omega⟩).1
      omega
    · have h7 : (-a) % b = 0 := by omega
      have : a / b = -((-a) / b) := by
        have h8 := Int.ediv_emod_unique (a := a) (b := b) (r := 0) (q := -((-a) / b)) hb
        exact (h8.2 ⟨by rw [Int.mul_neg]; omega, by omega, by omega⟩).1
      omega
    · by_cases h7 : (-a) % b = 0
      · have h8 := Int.ediv_emod_unique (a := a) (b := b) (r := 0) (q := -((-a) / b)) hb
        have := (h8.2 ⟨by rw [Int.mul_neg]; omega, by omega, by omega⟩).1
        omega
      · have h8 := Int.ediv_emod_unique (a := a) (b := b) (r := b - (-a) % b) (q := -((-a) / b) - 1) hb
        have := (h8.2 ⟨by rw [Int.mul_sub, Int.mul_neg]; omega, by omega, by omega⟩).1
        have : (-a) / b ≤ 9223372036854775806 := by
          rcases Nat.lt_or_ge 1 b.toNat with h9 | h9
          · have h10 : b * ((-a) / b) ≥ 2 * ((-a) / b) := Int.mul_le_mul_of_nonneg_right (by omega) d1
            omega
          · have : b = 1 := by omega
            subst this
            omega
        omega
theorem gridOk_of {g : Grid} (h : ¬ gridE g ≠ 0) : gridOk g := by
  unfold gridE at h
  by_cases q : gridOk g
  · exact q
  · simp [q] at h
theorem flowOk_of {f : Flow} (h : ¬ flowE f ≠ 0) : flowOk f := by
  unfold flowE at h
  by_cases q : flowOk f
  · exact q
  · simp [q] at h
theorem area_bd {g : Grid} (h : gridOk g) : 1 ≤ g.wide * g.high ∧ g.wide * g.high ≤ 4096 := by
  obtain ⟨_,_,_, ⟨h1, h2⟩, h3, h4⟩ := h
  constructor
  · have := Int.mul_le_mul h1 h3 (by omega) (by omega); omega
  · have := Int.mul_le_mul h2 h4 (by omega) (by omega); omega
theorem step_zero {f : Nat → Int} {j : Nat} (hz : ∀ k, k < j → f k = 0) (h : f j = 0) : ∀ k, k < j + 1 → f k = 0 := by
  intro k hk
  rcases Nat.lt_or_ge k j with q | q
  · exact hz k q
  · have : k = j := by omega
    subst this; exact h
theorem mayE_zero {g : Grid} {l : List Int} {j : Nat} (h6 : ¬¬(0 ≤ l.getD j 0 ∧ l.getD j 0 ≤ g.wide * g.high - 1)) (h7 : ¬((0 : Int) < (j : Int) ∧ l.getD j 0 ≤ l.getD (j - 1) 0)) : mayE g l j = 0 := by
  unfold mayE
  rw [if_neg h6, if_neg (by omega)]
theorem sureE_zero {m l : List Int} {j : Nat} (h7 : ¬((0 : Int) < (j : Int) ∧ l.getD j 0 ≤ l.getD (j - 1) 0)) (h8 : ¬¬(memB m (l.getD j 0) = true)) : sureE m l j = 0 := by
  unfold sureE
  rw [if_neg (by omega), if_neg (by simpa [memB] using h8)]
section
variable {g : Grid} {c : Cloud}
theorem cE1 (h : ¬ gridE g = 0) : gridE g = cloudE g c := by
  unfold cloudE
  by_cases q : gridOk g
  · exact absurd (if_pos q) h
  · rw [if_pos q]; exact if_neg q
theorem cE2 (hg : gridOk g) (h : ¬ flowE c.flow = 0) : flowE c.flow = cloudE g c := by
  unfold cloudE
  by_cases q : flowOk c.flow
  · exact absurd (if_pos q) h
  · rw [if_neg (by simpa using hg), if_pos q]; exact if_neg q
theorem cE3 (hg : gridOk g) (hf : flowOk c.flow) (h : ¬ (0 ≤ c.grow ∧ c.grow ≤ 10000)) : 3 = cloudE g c := by
  unfold cloudE
  rw [if_neg (by simpa using hg), if_neg (by simpa using hf), if_pos h]
theorem cE4 (hg : gridOk g) (hf : flowOk c.flow) (hr : ¬¬ (0 ≤ c.grow ∧ c.grow ≤ 10000)) (h : (c.may.length : Int) = 0) : 18 = cloudE g c := by
  unfold cloudE
  rw [if_neg (by simpa using hg), if_neg (by simpa using hf), if_neg hr, if_pos (List.length_eq_zero_iff.1 (by omega))]
theorem cE0 (hg : gridOk g) (hf : flowOk c.flow) (hr : ¬¬ (0 ≤ c.grow ∧ c.grow ≤ 10000)) (h : ¬ (c.may.length : Int) = 0) : cloudE g c = if firstE (mayE g c.may) c.may.length ≠ 0 then firstE (mayE g c.may) c.may.length else firstE (sureE c.may c.sure) c.sure.length := by
  unfold cloudE
  rw [if_neg (by simpa using hg), if_neg (by simpa using hf), if_neg hr, if_neg (fun q => h (by rw [q]; rfl))]
theorem cE5 (hg : gridOk g) (hf : flowOk c.flow) (hr : ¬¬ (0 ≤ c.grow ∧ c.grow ≤ 10000)) (h : ¬ (c.may.length : Int) = 0) {j : Nat} (hz : ∀ k, k < j → mayE g c.may k = 0) (hj : (j : Int) < c.may.length) (h6 : ¬(0 ≤ c.may.getD j 0 ∧ c.may.getD j 0 ≤ g.wide * g.high - 1)) : 4 = cloudE g c := by
  have e : mayE g c.may j = 4 := by unfold mayE; rw [if_pos h6]
  have := firstE_at hz (by omega) (n := c.may.length) (by omega)
  rw [cE0 hg hf hr h, this, e, if_pos (by omega)]
theorem cE6 (hg : gridOk g) (hf : flowOk c.flow) (hr : ¬¬ (0 ≤ c.grow ∧ c.grow ≤ 10000)) (h : ¬ (c.may.length : Int) = 0) {j : Nat} (hz : ∀ k, k < j → mayE g c.may k = 0) (hj : (j : Int) < c.may.length) (h6 : ¬¬(0 ≤ c.may.getD j 0 ∧ c.may.getD j 0 ≤ g.wide * g.high - 1)) (h7 : (0 : Int) < (j : Int) ∧ c.may.getD j 0 ≤ c.may.getD (j - 1) 0) : 12 = cloudE g c := by
  have e : mayE g c.may j = 12 := by unfold mayE; rw [if_neg h6, if_pos (by omega)]
  have := firstE_at hz (by omega) (n := c.may.length) (by omega)
  rw [cE0 hg hf hr h, this, e, if_pos (by omega)]
theorem cE7 (hg : gridOk g) (hf : flowOk c.flow) (hr : ¬¬ (0 ≤ c.grow ∧ c.grow ≤ 10000)) (h : ¬ (c.may.length : Int) = 0) (hm : firstE (mayE g c.may) c.may.length = 0) {j : Nat} (hz : ∀ k, k < j → sureE c.may c.sure k = 0) (hj : (j : Int) < c.sure.length) (h7 : (0 : Int) < (j : Int) ∧ c.sure.getD j 0 ≤ c.sure.getD (j - 1) 0) : 12 = cloudE g c := by
  have e : sureE c.may c.sure j = 12 := by unfold sureE; rw [if_pos (by omega)]
  have := firstE_at hz (by omega) (n := c.sure.length) (by omega)
  rw [cE0 hg hf hr h, this, e, if_neg (by omega)]
theorem cE8 (hg : gridOk g) (hf : flowOk c.flow) (hr : ¬¬ (0 ≤ c.grow ∧ c.grow ≤ 10000)) (h : ¬ (c.may.length : Int) = 0) (hm : firstE (mayE g c.may) c.may.length = 0) {j : Nat} (hz : ∀ k, k < j → sureE c.may c.sure k = 0) (hj : (j : Int) < c.sure.length) (h7 : ¬((0 : Int) < (j : Int) ∧ c.sure.getD j 0 ≤ c.sure.getD (j - 1) 0)) (h8 : ¬ (memB c.may (c.sure.getD j 0) = true)) : 11 = cloudE g c := by
  have e : sureE c.may c.sure j = 11 := by unfold sureE; rw [if_neg (by omega), if_pos (by simpa [memB] using h8)]
  have := firstE_at hz (by omega) (n := c.sure.length) (by omega)
  rw [cE0 hg hf hr h, this, e, if_neg (by omega)]
theorem cE9 (hg : gridOk g) (hf : flowOk c.flow) (hr : ¬¬ (0 ≤ c.grow ∧ c.grow ≤ 10000)) (h : ¬ (c.may.length : Int) = 0) (hm : firstE (mayE g c.may) c.may.length = 0) {j : Nat} (hz : ∀ k, k < j → sureE c.may c.sure k = 0) (hj : ¬ (j : Int) < c.sure.length) : 0 = cloudE g c := by
  rw [cE0 hg hf hr h, firstE_zero (n := c.sure.length) (fun k hk => hz k (by omega)), if_neg (by omega)]
end
theorem tdiv_up (a b : Int) (hb : 0 < b) (h2 : a ≤ 9223372036854775807) : a / b ≤ 9223372036854775807 := by
  rcases Int.le_total 0 a with h | h
  · exact Int.le_trans (Int.ediv_le_self b h) h2
  · have : a / b ≤ 0 := Int.ediv_nonpos_of_nonpos_of_neg (by omega) (by omega)
    omega
theorem memB_step (l : List Int) {j : Nat} (h : j < l.length) : memB (l.take (j + 1)) = fun n => decide (n = l.getD j 0) || memB (l.take j) n := by
  funext n
  have e : l.take (j + 1) = l.take j ++ [l[j]] := by simp
  simp only [memB, e, List.mem_append, List.mem_singleton, List.getD_eq_getElem?_getD, List.getElem?_eq_getElem h, Option.getD_some]
  by_cases q : n = l[j] <;> by_cases r : n ∈ l.take j <;> simp [q, r]
theorem mul_bd {a t : Int} (h1 : -110000 ≤ a) (h2 : a ≤ 110000) (h3 : 0 ≤ t) (h4 : t ≤ 7200) : -792000000 ≤ a * t ∧ a * t ≤ 792000000 := by
  constructor
  · have : -110000 * t ≤ a * t := Int.mul_le_mul_of_nonneg_right h1 h3
    omega
  · have : a * t ≤ 110000 * t := Int.mul_le_mul_of_nonneg_right h2 h3
    omega
def comeLo (lo grow t : Int) : Int := ((lo - grow) * t - 1000000) / 1000000 + 1
def comeHi (hi grow t : Int) : Int := -(-((hi + grow) * t + 1000000) / 1000000) - 1
theorem come_bd {f grow t : Int} (h1 : -100000 ≤ f) (h2 : f ≤ 100000) (h3 : 0 ≤ grow) (h4 : grow ≤ 10000) (h5 : 0 ≤ t) (h6 : t ≤ 7200) : (-1000 ≤ comeLo f grow t ∧ comeLo f grow t ≤ 1000) ∧ (-1000 ≤ comeHi f grow t ∧ comeHi f grow t ≤ 1000) := by
  have m1 := mul_bd (a := f - grow) (t := t) (by omega) (by omega) h5 h6
  have m2 := mul_bd (a := f + grow) (t := t) (by omega) (by omega) h5 h6
  unfold comeLo comeHi
  omega
theorem row_bd {v w : Int} (h1 : 0 ≤ v) (h2 : v ≤ 64) (h3 : 1 ≤ w) (h4 : w ≤ 64) : 0 ≤ v * w ∧ v * w ≤ 4096 := by
  constructor
  · exact Int.mul_nonneg h1 (by omega)
  · have := Int.mul_le_mul h2 h4 (by omega) (by omega); omega
/-! The columns and rows from which something can have come, in the grid, and whether there are others. -/
def sx0 (g : Grid) (c : Cloud) (p t : Int) : Int := max 0 (p.tmod g.wide - comeHi c.flow.b c.grow t)
def sx1 (g : Grid) (c : Cloud) (p t : Int) : Int := min (g.wide - 1) (p.tmod g.wide - comeLo c.flow.a c.grow t)
def sy0 (g : Grid) (c : Cloud) (p t : Int) : Int := max 0 (p.tdiv g.wide - comeHi c.flow.d c.grow t)
def sy1 (g : Grid) (c : Cloud) (p t : Int) : Int := min (g.high - 1) (p.tdiv g.wide - comeLo c.flow.c c.grow t)
def sout (g : Grid) (c : Cloud) (p t : Int) : Bool := ((decide (p.tmod g.wide - comeHi c.flow.b c.grow t < 0) || decide (g.wide ≤ p.tmod g.wide - comeLo c.flow.a c.grow t)) || decide (p.tdiv g.wide - comeHi c.flow.d c.grow t < 0)) || decide (g.high ≤ p.tdiv g.wide - comeLo c.flow.c c.grow t)
def snx (g : Grid) (c : Cloud) (p t : Int) : Nat := (sx1 g c p t + 1 - sx0 g c p t).toNat
def sny (g : Grid) (c : Cloud) (p t : Int) : Nat := (sy1 g c p t + 1 - sy0 g c p t).toNat
def srcs (g : Grid) (c : Cloud) (p t : Int) : List Int :=
  (if sout g c p t then [-1] else []) ++ (List.range (sny g c p t * snx g c p t)).map fun k => (sy0 g c p t + (k / snx g c p t : Nat)) * g.wide + (sx0 g c p t + (k % snx g c p t : Nat))
theorem srcs_length (g : Grid) (c : Cloud) (p t : Int) : (srcs g c p t).length = (sout g c p t).toNat + sny g c p t * snx g c p t := by
  unfold srcs; cases sout g c p t <;> simp <;> omega
theorem srcs_out {g : Grid} {c : Cloud} {p t : Int} (h : sout g c p t = true) : (srcs g c p t)[0]? = some (-1) := by
  simp [srcs, h]
theorem srcs_at {g : Grid} {c : Cloud} {p t : Int} {i j : Nat} (hi : i < sny g c p t) (hj : j < snx g c p t) : (srcs g c p t)[(sout g c p t).toNat + i * snx g c p t + j]? = some ((sy0 g c p t + (i : Int)) * g.wide + (sx0 g c p t + (j : Int))) := by
  have hk : i * snx g c p t + j < sny g c p t * snx g c p t := by
    have : (i + 1) * snx g c p t ≤ sny g c p t * snx g c p t := Nat.mul_le_mul_right _ hi
    rw [Nat.add_mul] at this; omega
  have hd : (i * snx g c p t + j) / snx g c p t = i := by
    rw [Nat.mul_comm, Nat.mul_add_div (by omega), Nat.div_eq_of_lt hj]; omega
  have hm : (i * snx g c p t + j) % snx g c p t = j := by
    rw [Nat.mul_comm, Nat.mul_add_mod, Nat.mod_eq_of_lt hj]
  unfold srcs
  generalize hn : snx g c p t = nx at *
  generalize hm2 : sny g c p t = ny at *
  cases sout g c p t
  · simp only [Bool.false_eq_true, if_false, List.nil_append, Bool.toNat_false, Nat.zero_add]
    rw [List.getElem?_map, List.getElem?_range hk]
    simp only [Option.map_some, hd, hm]
  · simp only [if_true, Bool.toNat_true]
    rw [show 1 + i * nx + j = (i * nx + j) + 1 by omega, List.singleton_append, List.getElem?_cons_succ, List.getElem?_map, List.getElem?_range hk]
    simp only [Option.map_some, hd, hm]
end Go.Cast
namespace Go.Proofs.YtdjflomhaljljaaGreat
open Go.SL Go.Proofs Go.Cast
set_option linter.unusedVariables false
theorem F77_0 : FieldAt Tryz.prog 77 0 0 := ⟨_,_, Tryz.underlying77, rfl, rfl, 0, by kernel_rfl⟩
theorem O3 : IsOne Tryz.prog 3 := ⟨⟨_, Tryz.underlying3, rfl⟩, by kernel_rfl⟩
theorem F77_1 : FieldAt Tryz.prog 77 1 1 := ⟨_,_, Tryz.underlying77, rfl, rfl, 0, by kernel_rfl⟩
theorem F79_0 : FieldAt Tryz.prog 79 0 0 := ⟨_,_, Tryz.underlying79, rfl, rfl, 1, by kernel_rfl⟩
theorem A77 : IsAgg Tryz.prog 77 2 := ⟨⟨_, Tryz.underlying77, rfl⟩, by kernel_rfl⟩
theorem C60 : IsFn Tryz.prog 60 := ⟨_, Tryz.func60, by decide, rfl⟩
theorem F79_1 : FieldAt Tryz.prog 79 1 2 := ⟨_,_, Tryz.underlying79, rfl, rfl, 1, by kernel_rfl⟩
theorem C105 : IsFn Tryz.prog 105 := ⟨_, Tryz.func105, by decide, rfl⟩
theorem F23_0 : FieldAt Tryz.prog 23 0 0 := ⟨_,_, Tryz.underlying23, rfl, rfl, 0, by kernel_rfl⟩
theorem C73 : IsFn Tryz.prog 73 := ⟨_, Tryz.func73, by decide, rfl⟩
theorem F23_1 : FieldAt Tryz.prog 23 1 1 := ⟨_,_, Tryz.underlying23, rfl, rfl, 0, by kernel_rfl⟩
theorem F23_2 : FieldAt Tryz.prog 23 2 2 := ⟨_,_, Tryz.underlying23, rfl, rfl, 0, by kernel_rfl⟩
theorem F23_3 : FieldAt Tryz.prog 23 3 3 := ⟨_,_, Tryz.underlying23, rfl, rfl, 0, by kernel_rfl⟩
theorem F23_4 : FieldAt Tryz.prog 23 4 4 := ⟨_,_, Tryz.underlying23, rfl, rfl, 0, by kernel_rfl⟩
theorem S72 : IsSlice Tryz.prog 72 3 := Tryz.underlying72
theorem N3 : (Tryz.prog.info? 3).map (·.size) = some 1 := by kernel_rfl
theorem M180 : IsSet Tryz.prog 180 := ⟨3,4, .i64, Tryz.underlying180, Tryz.underlying3, by unfold ZeroOf; kernel_rfl⟩
abbrev gridV (g : Grid) : Value := .agg #[.int .i64 g.x, .int .i64 g.y, .int .i64 g.size, .int .i64 g.wide, .int .i64 g.high]
abbrev flowV (f : Flow) : Value := .agg #[.int .i64 f.a, .int .i64 f.b, .int .i64 f.c, .int .i64 f.d]
theorem bwithin_c (n lo hi : Int) (w : World) :
 Calls Tryz.prog 73 #[.int .i64 n, .int .i64 lo, .int .i64 hi] w fun e w' => e = .returned (.bool (decide (lo ≤ n) && decide (n ≤ hi))) ∧ St (bs w) [] w' := by
 refine enter (vs := [_,_,_]) (env := [(0,_), (1,_), (2,_)]) Tryz.func73 rfl rfl rfl rfl ?_
 refine VC.q (VO.a rfl rfl<|VO.n<|VC.q (VO.m rfl rfl<|VO.m rfl rfl<|VO.l (LO.le (.r rfl) (.r rfl)) rfl<|VO.m rfl rfl<|VO.gt rfl rfl (fun hg => LO.mv (.r rfl)) rfl<|VO.gt rfl rfl (fun hg => LO.mv (.r rfl)) rfl<|VO.gt rfl rfl (fun hg => LO.le (.g hg rfl) (.g hg rfl)) rfl<|VO.l (LO.pkA (.r rfl) rfl rfl (.r rfl)) rfl<|VO.a rfl rfl<|VO.n<|VC.ret (VE.s rfl rfl (fun w hw => ?_))))
 exact ⟨rfl, hw.nil⟩
theorem within_c (n lo hi : Int) (w : World) :
 Calls Tryz.prog 80 #[.int .i64 n, .int .i64 lo, .int .i64 hi] w fun e w' => e = .returned (.bool (decide (lo ≤ n) && decide (n ≤ hi))) ∧ St (bs w) [] w' := by
 refine enter (vs := [_,_,_]) (env := [(0,_), (1,_), (2,_)]) Tryz.func80 rfl rfl rfl rfl ?_
 refine VC.q (VO.a rfl rfl<|VO.n<|VC.q (VO.m rfl rfl<|VO.m rfl rfl<|VO.l (LO.le (.r rfl) (.r rfl)) rfl<|VO.m rfl rfl<|VO.gt rfl rfl (fun hg => LO.mv (.r rfl)) rfl<|VO.gt rfl rfl (fun hg => LO.mv (.r rfl)) rfl<|VO.gt rfl rfl (fun hg => LO.le (.g hg rfl) (.g hg rfl)) rfl<|VO.l (LO.pkA (.r rfl) rfl rfl (.r rfl)) rfl<|VO.a rfl rfl<|VO.n<|VC.ret (VE.s rfl rfl (fun w hw => ?_))))
 exact ⟨rfl, hw.nil⟩
theorem inside_c (s t lo hi : Int) (w : World) :
 Calls Tryz.prog 60 #[.agg #[.int .i64 s, .int .i64 t], .int .i64 lo, .int .i64 hi] w fun e w' => e = .returned (.bool ((decide (lo ≤ s) && decide (s ≤ t)) && decide (t ≤ hi))) ∧ St (bs w) [] w' := by
 refine enter (vs := [_,_,_]) (env := [(0,_), (1,_), (2,_)]) Tryz.func60 rfl rfl rfl rfl ?_
 refine VC.q (VO.h rfl<|HO.box (C := #[_,_]) rfl rfl fun b1 => VO.a rfl rfl<|VO.n<|VC.q (VO.m rfl rfl<|VO.f (r := 0) F77_0 rfl rfl rfl<|VO.c 0 O3 rfl rfl ⟨_, rfl⟩ rfl<|VO.l (LO.le (.r rfl) (.r rfl)) rfl<|VO.m rfl rfl<|VO.gt rfl rfl (fun hg => LO.fa (r := 0) F77_0 (.r rfl) rfl) rfl<|VO.gt rfl rfl (fun hg => LO.ld O3 (.g hg rfl) (cells_blk 0 rfl ⟨_, rfl⟩)) rfl<|VO.gt rfl rfl (fun hg => LO.fa (r := 1) F77_1 (.r rfl) rfl) rfl<|VO.gt rfl rfl (fun hg => LO.ld O3 (.g hg rfl) (cells_blk 0 rfl ⟨_, rfl⟩)) rfl<|VO.gt rfl rfl (fun hg => LO.le (.g hg rfl) (.g hg rfl)) rfl<|VO.l (LO.pkA (.r rfl) rfl rfl (.r rfl)) rfl<|VO.m rfl rfl<|VO.gt rfl rfl (fun hg => LO.fa (r := 1) F77_1 (.r rfl) rfl) rfl<|VO.gt rfl rfl (fun hg => LO.ld O3 (.g hg rfl) (cells_blk 0 rfl ⟨_, rfl⟩)) rfl<|VO.gt rfl rfl (fun hg => LO.mv (.r rfl)) rfl<|VO.gt rfl rfl (fun hg => LO.le (.g hg rfl) (.g hg rfl)) rfl<|VO.l (LO.pkA (.r rfl) rfl rfl (.r rfl)) rfl<|VO.a rfl rfl<|VO.n<|VC.ret (VE.s rfl rfl (fun w hw => ?_))))
 exact ⟨rfl, hw.nil⟩
theorem checkFlow_c (f : Flow) (w : World) :
 Calls Tryz.prog 29 #[flowV f] w fun e w' => e = .returned (.int .i64 (flowE f)) ∧ St (bs w) [] w' := by
 refine enter (vs := [_]) (env := [(0,_)]) Tryz.func29 rfl rfl rfl rfl ?_
 refine VC.q (VO.h rfl<|HO.box (C := #[_,_,_,_]) rfl rfl fun b1 => VO.a rfl rfl<|VO.n<|VC.seq<|VC.q (VO.f (r := 0) F79_0 rfl rfl rfl<|VO.l (LO.lda (vs := [_,_]) A77 (.r rfl) (cells_blk 0 rfl ⟨_, rfl⟩) rfl) rfl<|VO.l (LO.call (xs := [_,_,_]) (vs := [_,_,_]) C60 ⟨(.r rfl), (.r rfl), (.r rfl), trivial⟩ (fun w _ => inside_c _ _ _ _ w)) rfl<|VO.l (LO.not (.r rfl)) rfl<|VO.m rfl rfl<|VO.gf rfl rfl (fun hg => LO.fa (r := 2) F79_1 (.r rfl) rfl) rfl<|VO.gf rfl rfl (fun hg => LO.lda (vs := [_,_]) A77 (.g hg rfl) (cells_blk 0 rfl ⟨_, rfl⟩) rfl) rfl<|VO.gf rfl rfl (fun hg => LO.call (xs := [_,_,_]) (vs := [_,_,_]) C60 ⟨(.g hg rfl), (.r rfl), (.r rfl), trivial⟩ (fun w _ => inside_c _ _ _ _ w)) rfl<|VO.gf rfl rfl (fun hg => LO.not (.g hg rfl)) rfl<|VO.l (LO.pkO (.r rfl) (.r rfl) rfl rfl) rfl<|VO.n<|VC.cond rfl (fun h1 => ?_) (fun h1 => ?_)))
 ·
  refine VC.q (VO.a rfl rfl<|VO.n<|VC.ret (VE.thenR (VE.s rfl rfl (fun w hw => ?_))))
  exact ⟨by simp only [resV, flowE]; first | rw [if_pos (by unfold flowOk; omega)] | rw [if_neg (by unfold flowOk; omega)], hw.nil⟩
 ·
  refine VC.skip (VE.seqN<|VC.q (VO.a rfl rfl<|VO.n<|VC.ret (VE.s rfl rfl (fun w hw => ?_))))
  exact ⟨by simp only [resV, flowE]; first | rw [if_pos (by unfold flowOk; omega)] | rw [if_neg (by unfold flowOk; omega)], hw.nil⟩
theorem down_c (a b : Int) (h1 : -9223372036854775807 ≤ a) (h2 : a ≤ 9223372036854775807) (hb : 0 < b) (w : World) :
 Calls Tryz.prog 105 #[.int .i64 a, .int .i64 b] w fun e w' => e = .returned (.int .i64 (a / b)) ∧ St (bs w) [] w' := by
 have ⟨q1, q2, q3, q4, q5⟩ := tdiv_bd a b hb h1 h2
 refine enter (vs := [_,_]) (env := [(0,_), (1,_)]) Tryz.func105 rfl rfl rfl rfl ?_
 refine VC.q (VO.a rfl rfl<|VO.n<|VC.q (VO.m rfl rfl<|VO.m rfl rfl<|VO.l (LO.quo (.r rfl) (.r rfl) (by omega) (wi (by omega) (by omega))) rfl<|VO.a rfl rfl<|VO.n<|VC.seq<|VC.q (VO.m rfl rfl<|VO.m rfl rfl<|VO.l (LO.rem (.r rfl) (.r rfl) (by omega)) rfl<|VO.t rfl rfl rfl<|VO.n<|VC.cond rfl (fun h1 => ?_) (fun h1 => ?_))))
 ·
  refine VC.reg (VO.m rfl rfl<|VO.l (LO.sub (.r rfl) (.r rfl) (wi (by omega) (by omega))) rfl<|VO.a rfl rfl<|VO.n<|VC.q (VO.m rfl rfl<|VO.a rfl rfl<|VO.n<|VC.ret (VE.s rfl rfl (fun w hw => ?_))))
  exact ⟨by simp only [resV]; congr 2; omega, hw.nil⟩
 ·
  refine VC.skip (VE.seqN<|VC.q (VO.m rfl rfl<|VO.a rfl rfl<|VO.n<|VC.ret (VE.s rfl rfl (fun w hw => ?_))))
  exact ⟨by simp only [resV]; congr 2; omega, hw.nil⟩
theorem up_c (a b : Int) (h1 : -9223372036854775807 ≤ a) (h2 : a ≤ 9223372036854775807) (hb : 0 < b) (w : World) :
 Calls Tryz.prog 106 #[.int .i64 a, .int .i64 b] w fun e w' => e = .returned (.int .i64 (-(-a / b))) ∧ St (bs w) [] w' := by
 have ⟨q1, q2, q3, q4, q5⟩ := tdiv_bd (-a) b hb (by omega) (by omega)
 have q6 := tdiv_up (-a) b hb (by omega)
 refine enter (vs := [_,_]) (env := [(0,_), (1,_)]) Tryz.func106 rfl rfl rfl rfl ?_
 refine VC.q (VO.a rfl rfl<|VO.n<|VC.q (VO.m rfl rfl<|VO.l (LO.neg (.r rfl) (wi (by omega) (by omega))) rfl<|VO.m rfl rfl<|VO.l (LO.call (xs := [_,_]) (vs := [_,_]) C105 ⟨(.r rfl), (.r rfl), trivial⟩ (fun w _ => down_c _ _ (by omega) (by omega) (by omega) w)) rfl<|VO.l (LO.neg (.r rfl) (wi (by omega) (by omega))) rfl<|VO.a rfl rfl<|VO.n<|VC.ret (VE.s rfl rfl (fun w hw => ?_))))
 exact ⟨rfl, hw.nil⟩
theorem checkGrid_c (g : Grid) (w : World) :
 Calls Tryz.prog 55 #[gridV g] w fun e w' => e = .returned (.int .i64 (gridE g)) ∧ St (bs w) [] w' := by
 refine enter (vs := [_]) (env := [(0,_)]) Tryz.func55 rfl rfl rfl rfl ?_
 refine VC.q (VO.h rfl<|HO.box (C := #[_,_,_,_,_]) rfl rfl fun b1 => VO.a rfl rfl<|VO.n<|VC.seq<|VC.block<|VC.seq<|VC.q (VO.f (r := 0) F23_0 rfl rfl rfl<|VO.c 0 O3 rfl rfl ⟨_, rfl⟩ rfl<|VO.l (LO.call (xs := [_,_,_]) (vs := [_,_,_]) C73 ⟨(.r rfl), (.r rfl), (.r rfl), trivial⟩ (fun w _ => bwithin_c _ _ _ w)) rfl<|VO.l (LO.not (.r rfl)) rfl<|VO.a rfl rfl<|VO.n<|VC.cond rfl (fun h1 => ?_) (fun h1 => ?_)))
 ·
  refine VC.skip (VE.seqN<|VC.cond rfl (fun h2 => ?_) (fun h2 => ?_))
  ·
   refine VC.q (VO.a rfl rfl<|VO.n<|VC.ret (VE.inR (VE.thenR (VE.s rfl rfl (fun w hw => ?_)))))
   exact ⟨by simp only [resV, gridE]; first | rw [if_pos (by unfold gridOk; omega)] | rw [if_neg (by unfold gridOk; omega)], hw.nil⟩
  ·
   refine VC.skip (VE.inN (VE.seqN<|VC.q (VO.a rfl rfl<|VO.n<|VC.ret (VE.s rfl rfl (fun w hw => ?_)))))
   exact ⟨by simp only [resV, gridE]; first | rw [if_pos (by unfold gridOk; omega)] | rw [if_neg (by unfold gridOk; omega)], hw.nil⟩
 ·
  refine VC.q (VO.f (r := 1) F23_1 rfl rfl rfl<|VO.c 0 O3 rfl rfl ⟨_, rfl⟩ rfl<|VO.l (LO.call (xs := [_,_,_]) (vs := [_,_,_]) C73 ⟨(.r rfl), (.r rfl), (.r rfl), trivial⟩ (fun w _ => bwithin_c _ _ _ w)) rfl<|VO.l (LO.not (.r rfl)) rfl<|VO.a rfl rfl<|VO.n<|VC.cond rfl (fun h3 => ?_) (fun h3 => ?_))
  ·
   refine VC.skip (VE.seqN<|VC.cond rfl (fun h4 => ?_) (fun h4 => ?_))
   ·
    refine VC.q (VO.a rfl rfl<|VO.n<|VC.ret (VE.inR (VE.thenR (VE.s rfl rfl (fun w hw => ?_)))))
    exact ⟨by simp only [resV, gridE]; first | rw [if_pos (by unfold gridOk; omega)] | rw [if_neg (by unfold gridOk; omega)], hw.nil⟩
   ·
    refine VC.skip (VE.inN (VE.seqN<|VC.q (VO.a rfl rfl<|VO.n<|VC.ret (VE.s rfl rfl (fun w hw => ?_)))))
    exact ⟨by simp only [resV, gridE]; first | rw [if_pos (by unfold gridOk; omega)] | rw [if_neg (by unfold gridOk; omega)], hw.nil⟩
  ·
   refine VC.q (VO.f (r := 2) F23_2 rfl rfl rfl<|VO.c 0 O3 rfl rfl ⟨_, rfl⟩ rfl<|VO.l (LO.call (xs := [_,_,_]) (vs := [_,_,_]) C73 ⟨(.r rfl), (.r rfl), (.r rfl), trivial⟩ (fun w _ => bwithin_c _ _ _ w)) rfl<|VO.l (LO.not (.r rfl)) rfl<|VO.a rfl rfl<|VO.n<|VC.cond rfl (fun h5 => ?_) (fun h5 => ?_))
   ·
    refine VC.skip (VE.seqN<|VC.cond rfl (fun h6 => ?_) (fun h6 => ?_))
    ·
     refine VC.q (VO.a rfl rfl<|VO.n<|VC.ret (VE.inR (VE.thenR (VE.s rfl rfl (fun w hw => ?_)))))
     exact ⟨by simp only [resV, gridE]; first | rw [if_pos (by unfold gridOk; omega)] | rw [if_neg (by unfold gridOk; omega)], hw.nil⟩
    ·
     refine VC.skip (VE.inN (VE.seqN<|VC.q (VO.a rfl rfl<|VO.n<|VC.ret (VE.s rfl rfl (fun w hw => ?_)))))
     exact ⟨by simp only [resV, gridE]; first | rw [if_pos (by unfold gridOk; omega)] | rw [if_neg (by unfold gridOk; omega)], hw.nil⟩
   ·
    refine VC.q (VO.f (r := 3) F23_3 rfl rfl rfl<|VO.c 0 O3 rfl rfl ⟨_, rfl⟩ rfl<|VO.l (LO.call (xs := [_,_,_]) (vs := [_,_,_]) C73 ⟨(.r rfl), (.r rfl), (.r rfl), trivial⟩ (fun w _ => bwithin_c _ _ _ w)) rfl<|VO.l (LO.not (.r rfl)) rfl<|VO.a rfl rfl<|VO.n<|VC.cond rfl (fun h7 => ?_) (fun h7 => ?_))
    ·
     refine VC.skip (VE.seqN<|VC.cond rfl (fun h8 => ?_) (fun h8 => ?_))
     ·
      refine VC.q (VO.a rfl rfl<|VO.n<|VC.ret (VE.inR (VE.thenR (VE.s rfl rfl (fun w hw => ?_)))))
      exact ⟨by simp only [resV, gridE]; first | rw [if_pos (by unfold gridOk; omega)] | rw [if_neg (by unfold gridOk; omega)], hw.nil⟩
     ·
      refine VC.skip (VE.inN (VE.seqN<|VC.q (VO.a rfl rfl<|VO.n<|VC.ret (VE.s rfl rfl (fun w hw => ?_)))))
      exact ⟨by simp only [resV, gridE]; first | rw [if_pos (by unfold gridOk; omega)] | rw [if_neg (by unfold gridOk; omega)], hw.nil⟩
    ·
     refine VC.reg (VO.f (r := 4) F23_4 rfl rfl rfl<|VO.c 0 O3 rfl rfl ⟨_, rfl⟩ rfl<|VO.l (LO.call (xs := [_,_,_]) (vs := [_,_,_]) C73 ⟨(.r rfl), (.r rfl), (.r rfl), trivial⟩ (fun w _ => bwithin_c _ _ _ w)) rfl<|VO.l (LO.not (.r rfl)) rfl<|VO.a rfl rfl<|VO.n<|VC.cond rfl (fun h9 => ?_) (fun h9 => ?_))
     ·
      refine VC.q (VO.a rfl rfl<|VO.n<|VC.ret (VE.inR (VE.thenR (VE.s rfl rfl (fun w hw => ?_)))))
      exact ⟨by simp only [resV, gridE]; first | rw [if_pos (by unfold gridOk; omega)] | rw [if_neg (by unfold gridOk; omega)], hw.nil⟩
     ·
      refine VC.skip (VE.inN (VE.seqN<|VC.q (VO.a rfl rfl<|VO.n<|VC.ret (VE.s rfl rfl (fun w hw => ?_)))))
      exact ⟨by simp only [resV, gridE]; first | rw [if_pos (by unfold gridOk; omega)] | rw [if_neg (by unfold gridOk; omega)], hw.nil⟩
theorem set_c (p : Option Addr) (l : List Int) (c : Nat) (w : World) (hn : l.length < 1000000000000) (hl : Ints w p l) :
 Calls Tryz.prog 92 #[.slice p l.length c] w fun e w' => ∃ b, True ∧ e = .returned (.map (some b)) ∧ St (bs w) [setR b (memB l)] w' := by
 refine enter (vs := [_]) (env := [(0,_)]) Tryz.func92 rfl rfl rfl rfl ?_
 refine VC.q (VO.a rfl rfl<|VO.n<|VC.q (VO.h rfl<|HO.mkset fun b1 => VO.h rfl<|HO.lo (LO.as (.r rfl))<|VO.n<|VC.seq<|VC.q (VO.m rfl rfl<|VO.l (LO.len S72 (.r rfl) rfl) rfl<|VO.m rfl rfl<|VO.n<|VC.block<|VC.loopK 1 (fun j => [(9, .int .i64 (j : Nat))]) [(3,_), (7,_), (8,_)] (fun j => [setR b1 (memB (l.take j))]) (fun j => j ≤ l.length) (fun j => l.length - j) 0 (by omega) (.c4 rfl rfl rfl rfl .nil) (fun w h => by rw [show memB (l.take 0) = fun _ => false from funext fun _ => by simp [memB]]; exact h) ?_)))
 rintro j hj
 refine VC.q (VO.t rfl rfl rfl<|VO.n<|VC.seq<|VC.cond rfl (fun h1 => ?_) (fun h1 => ?_))
 ·
  refine VC.skip (VE.seqN<|VC.seq<|VC.block<|VC.q (VO.l (LO.ixs S72 N3 hl.some (.r rfl) (.r rfl) rfl (by omega)) rfl<|VO.l (LO.ld O3 (.r rfl) (hl.at (j := j) (by omega))) rfl<|VO.a rfl rfl<|VO.n<|VC.reg (VO.m rfl rfl<|VO.m rfl rfl<|VO.h0<|HO.mu 0 (fun R => [R]) M180 (.r rfl) (.r rfl) (.r rfl) rfl (fun _ => rfl)<|VO.nil<|VE.inN (VE.seqN<|VC.reg (VO.p rfl rfl (by omega) (by omega) rfl<|VO.m rfl rfl<|VO.nil<|VE.thenN fun a w ha hw => ⟨j + 1, by omega, by omega, ha.sub (.c4 rfl rfl rfl rfl .nil), by have e := memB_step l (j := j) (by omega); rw [e]; exact hw⟩)))))
 ·
  refine VC.exit (VE.thenX (VE.thenX (VE.inX (VE.seqN<|VC.q (VO.m rfl rfl<|VO.a rfl rfl<|VO.n<|VC.ret (VE.s rfl rfl (fun w hw => ?_)))))))
  have e : l.take j = l := List.take_of_length_le (by omega)
  exact ⟨b1, trivial, rfl, by rw [e] at hw; exact hw⟩
theorem A23 : IsAgg Tryz.prog 23 5 := ⟨⟨_, Tryz.underlying23, rfl⟩, by kernel_rfl⟩
theorem C55 : IsFn Tryz.prog 55 := ⟨_, Tryz.func55, by decide, rfl⟩
theorem F81_2 : FieldAt Tryz.prog 81 2 2 := ⟨_,_, Tryz.underlying81, rfl, rfl, 3, by kernel_rfl⟩
theorem A79 : IsAgg Tryz.prog 79 4 := ⟨⟨_, Tryz.underlying79, rfl⟩, by kernel_rfl⟩
theorem C29 : IsFn Tryz.prog 29 := ⟨_, Tryz.func29, by decide, rfl⟩
theorem F81_3 : FieldAt Tryz.prog 81 3 6 := ⟨_,_, Tryz.underlying81, rfl, rfl, 0, by kernel_rfl⟩
theorem C80 : IsFn Tryz.prog 80 := ⟨_, Tryz.func80, by decide, rfl⟩
theorem F81_1 : FieldAt Tryz.prog 81 1 1 := ⟨_,_, Tryz.underlying81, rfl, rfl, 0, by kernel_rfl⟩
theorem O72 : IsOne Tryz.prog 72 := ⟨⟨_, Tryz.underlying72, rfl⟩, by kernel_rfl⟩
theorem C92 : IsFn Tryz.prog 92 := ⟨_, Tryz.func92, by decide, rfl⟩
theorem F81_0 : FieldAt Tryz.prog 81 0 0 := ⟨_,_, Tryz.underlying81, rfl, rfl, 0, by kernel_rfl⟩
abbrev cloudV (ps : Option Addr) (cs : Nat) (pm : Option Addr) (cm : Nat) (c : Cloud) : Value := .agg #[.slice ps c.sure.length cs, .slice pm c.may.length cm, .int .i64 c.flow.a, .int .i64 c.flow.b, .int .i64 c.flow.c, .int .i64 c.flow.d, .int .i64 c.grow]
theorem checkCloud_c (g : Grid) (c : Cloud) (ps pm : Option Addr) (cs cm : Nat) (w : World) (hns : c.sure.length < 1000000000000) (hnm : c.may.length < 1000000000000) (hs : Ints w ps c.sure) (hm : Ints w pm c.may) :
 Calls Tryz.prog 78 #[gridV g, cloudV ps cs pm cm c] w fun e w' => e = .returned (.int .i64 (cloudE g c)) ∧ St (bs w) [] w' := by
 refine enter (vs := [_,_]) (env := [(0,_), (1,_)]) Tryz.func78 rfl rfl rfl rfl ?_
 refine VC.q (VO.h rfl<|HO.box (C := #[_,_,_,_,_]) rfl rfl fun b1 => VO.h rfl<|HO.box (C := #[_,_,_,_,_,_,_]) rfl rfl fun b2 => VO.a rfl rfl<|VO.n<|VC.seq<|VC.q (VO.l (LO.lda (vs := [_,_,_,_,_]) A23 (.r rfl) (cells_blk 1 rfl ⟨_, rfl⟩) rfl) rfl<|VO.l (LO.call (xs := [_]) (vs := [_]) C55 ⟨(.r rfl), trivial⟩ (fun w _ => checkGrid_c g w)) rfl<|VO.a rfl rfl<|VO.n<|VC.q (VO.m rfl rfl<|VO.u rfl rfl rfl<|VO.n<|VC.cond rfl (fun h1 => ?_) (fun h1 => ?_))))
 ·
  refine VC.q (VO.m rfl rfl<|VO.a rfl rfl<|VO.n<|VC.ret (VE.thenR (VE.s rfl rfl (fun w hw => ?_))))
  refine ⟨?_, hw.nil⟩
  simp only [resV]
  congr 2
  first | exact cE1 h1 | exact cE2 hgo h2 | exact cE3 hgo hfo h3 | exact cE4 hgo hfo h3 h4 | exact cE5 hgo hfo h3 h4 hz h5 h6 | exact cE6 hgo hfo h3 h4 hz h5 h6 h7 | exact cE7 hgo hfo h3 h4 hm0 hz h8 h9 | exact cE8 hgo hfo h3 h4 hm0 hz h8 h9 h10 | exact cE9 hgo hfo h3 h4 hm0 hz h8
 ·
  have hgo : gridOk g := gridOk_of h1
  have har := area_bd hgo
  refine VC.skip (VE.seqN<|VC.seq<|VC.q (VO.f (r := 2) F81_2 rfl rfl rfl<|VO.l (LO.lda (vs := [_,_,_,_]) A79 (.r rfl) (cells_blk 0 rfl ⟨_, rfl⟩) rfl) rfl<|VO.l (LO.call (xs := [_]) (vs := [_]) C29 ⟨(.r rfl), trivial⟩ (fun w _ => checkFlow_c c.flow w)) rfl<|VO.a rfl rfl<|VO.n<|VC.q (VO.m rfl rfl<|VO.u rfl rfl rfl<|VO.n<|VC.cond rfl (fun h2 => ?_) (fun h2 => ?_))))
  ·
   refine VC.q (VO.m rfl rfl<|VO.a rfl rfl<|VO.n<|VC.ret (VE.thenR (VE.s rfl rfl (fun w hw => ?_))))
   refine ⟨?_, hw.nil⟩
   simp only [resV]
   congr 2
   first | exact cE1 h1 | exact cE2 hgo h2 | exact cE3 hgo hfo h3 | exact cE4 hgo hfo h3 h4 | exact cE5 hgo hfo h3 h4 hz h5 h6 | exact cE6 hgo hfo h3 h4 hz h5 h6 h7 | exact cE7 hgo hfo h3 h4 hm0 hz h8 h9 | exact cE8 hgo hfo h3 h4 hm0 hz h8 h9 h10 | exact cE9 hgo hfo h3 h4 hm0 hz h8
  ·
   have hfo : flowOk c.flow := flowOk_of h2
   refine VC.skip (VE.seqN<|VC.seq<|VC.block<|VC.q (VO.f (r := 6) F81_3 rfl rfl rfl<|VO.c 0 O3 rfl rfl ⟨_, rfl⟩ rfl<|VO.l (LO.call (xs := [_,_,_]) (vs := [_,_,_]) C80 ⟨(.r rfl), (.r rfl), (.r rfl), trivial⟩ (fun w _ => within_c _ _ _ w)) rfl<|VO.l (LO.not (.r rfl)) rfl<|VO.a rfl rfl<|VO.n<|VC.cond rfl (fun h3 => ?_) (fun h3 => ?_)))
   ·
    refine VC.q (VO.a rfl rfl<|VO.n<|VC.ret (VE.inR (VE.thenR (VE.s rfl rfl (fun w hw => ?_)))))
    refine ⟨?_, hw.nil⟩
    simp only [resV]
    congr 2
    first | exact cE1 h1 | exact cE2 hgo h2 | exact cE3 hgo hfo h3 | exact cE4 hgo hfo h3 h4 | exact cE5 hgo hfo h3 h4 hz h5 h6 | exact cE6 hgo hfo h3 h4 hz h5 h6 h7 | exact cE7 hgo hfo h3 h4 hm0 hz h8 h9 | exact cE8 hgo hfo h3 h4 hm0 hz h8 h9 h10 | exact cE9 hgo hfo h3 h4 hm0 hz h8
   ·
    refine VC.q (VO.f (r := 1) F81_1 rfl rfl rfl<|VO.c 0 O72 rfl rfl ⟨_, rfl⟩ rfl<|VO.l (LO.len S72 (.r rfl) rfl) rfl<|VO.l (LO.eq (.r rfl) (.r rfl)) rfl<|VO.a rfl rfl<|VO.n<|VC.cond rfl (fun h4 => ?_) (fun h4 => ?_))
    ·
     refine VC.q (VO.a rfl rfl<|VO.n<|VC.ret (VE.inR (VE.thenR (VE.s rfl rfl (fun w hw => ?_)))))
     refine ⟨?_, hw.nil⟩
     simp only [resV]
     congr 2
     first | exact cE1 h1 | exact cE2 hgo h2 | exact cE3 hgo hfo h3 | exact cE4 hgo hfo h3 h4 | exact cE5 hgo hfo h3 h4 hz h5 h6 | exact cE6 hgo hfo h3 h4 hz h5 h6 h7 | exact cE7 hgo hfo h3 h4 hm0 hz h8 h9 | exact cE8 hgo hfo h3 h4 hm0 hz h8 h9 h10 | exact cE9 hgo hfo h3 h4 hm0 hz h8
    ·
     refine VC.skip (VE.inN (VE.seqN<|VC.seq<|VC.q (VO.f (r := 1) F81_1 rfl rfl rfl<|VO.c 0 O72 rfl rfl ⟨_, rfl⟩ rfl<|VO.l (LO.len S72 (.r rfl) rfl) rfl<|VO.m rfl rfl<|VO.n<|VC.block<|VC.loopK 0 (fun j => [(36, .int .i64 (j : Nat))]) [(2,_), (3,_), (34,_), (35,_)] (fun j => []) (fun j => j ≤ c.may.length ∧ ∀ k, k < j → mayE g c.may k = 0) (fun j => c.may.length - j) 0 (by exact ⟨by omega, fun k hk => by omega⟩) (.c4 rfl rfl rfl rfl (.cons rfl .nil)) (fun _ h => h) ?_)))
     rintro j ⟨hj, hz⟩
     refine VC.q (VO.t rfl rfl rfl<|VO.n<|VC.seq<|VC.cond rfl (fun h5 => ?_) (fun h5 => ?_))
     ·
      refine VC.skip (VE.seqN<|VC.seq<|VC.block<|VC.q (VO.m rfl rfl<|VO.l (LO.ixs S72 N3 hm.some (.r rfl) (.r rfl) rfl (by omega)) rfl<|VO.l (LO.ld O3 (.r rfl) (hm.at (j := _) (by omega))) rfl<|VO.a rfl rfl<|VO.a rfl rfl<|VO.n<|VC.block<|VC.q (VO.m rfl rfl<|VO.f (r := 3) F23_3 rfl rfl rfl<|VO.c 1 O3 rfl rfl ⟨_, rfl⟩ rfl<|VO.f (r := 4) F23_4 rfl rfl rfl<|VO.c 1 O3 rfl rfl ⟨_, rfl⟩ rfl<|VO.l (LO.mul (.r rfl) (.r rfl) (wi (by omega) (by omega))) rfl<|VO.l (LO.sub (.r rfl) (.r rfl) (wi (by omega) (by omega))) rfl<|VO.l (LO.call (xs := [_,_,_]) (vs := [_,_,_]) C80 ⟨(.r rfl), (.r rfl), (.r rfl), trivial⟩ (fun w _ => within_c _ _ _ w)) rfl<|VO.l (LO.not (.r rfl)) rfl<|VO.a rfl rfl<|VO.n<|VC.cond rfl (fun h6 => ?_) (fun h6 => ?_))))
      ·
       refine VC.q (VO.a rfl rfl<|VO.n<|VC.ret (VE.inR (VE.inR (VE.thenR (VE.thenR (VE.inR (VE.thenR (VE.s rfl rfl (fun w hw => ?_)))))))))
       refine ⟨?_, hw.nil⟩
       simp only [resV]
       congr 2
       first | exact cE1 h1 | exact cE2 hgo h2 | exact cE3 hgo hfo h3 | exact cE4 hgo hfo h3 h4 | exact cE5 hgo hfo h3 h4 hz h5 h6 | exact cE6 hgo hfo h3 h4 hz h5 h6 h7 | exact cE7 hgo hfo h3 h4 hm0 hz h8 h9 | exact cE8 hgo hfo h3 h4 hm0 hz h8 h9 h10 | exact cE9 hgo hfo h3 h4 hm0 hz h8
      ·
       refine VC.q (VO.m rfl rfl<|VO.l (LO.gt (.r rfl) (.r rfl)) rfl<|VO.m rfl rfl<|VO.gt rfl rfl (fun hg => LO.mv (.r rfl)) rfl<|VO.gt rfl rfl (fun hg => LO.fa (r := 1) F81_1 (.r rfl) rfl) rfl<|VO.gt rfl rfl (fun hg => LO.ld O72 (.g hg rfl) (cells_blk 0 rfl ⟨_, rfl⟩)) rfl<|VO.gt rfl rfl (fun hg => LO.mv (.r rfl)) rfl<|VO.gt rfl rfl (fun hg => LO.sub (.g hg rfl) (.r rfl) (wi (by omega) (by omega))) rfl<|VO.gt rfl rfl (fun hg => LO.ixs S72 N3 hm.some (.g hg rfl) (.g hg rfl) (by have := of_decide_eq_true hg; omega) (by omega)) rfl<|VO.gt rfl rfl (fun hg => LO.ld O3 (.g hg rfl) (hm.at (j := (j - 1)) (by omega))) rfl<|VO.gt rfl rfl (fun hg => LO.le (.g hg rfl) (.g hg rfl)) rfl<|VO.l (LO.pkA (.r rfl) rfl rfl (.r rfl)) rfl<|VO.a rfl rfl<|VO.n<|VC.cond rfl (fun h7 => ?_) (fun h7 => ?_))
       ·
        refine VC.q (VO.a rfl rfl<|VO.n<|VC.ret (VE.inR (VE.inR (VE.thenR (VE.thenR (VE.inR (VE.thenR (VE.s rfl rfl (fun w hw => ?_)))))))))
        refine ⟨?_, hw.nil⟩
        simp only [resV]
        congr 2
        first | exact cE1 h1 | exact cE2 hgo h2 | exact cE3 hgo hfo h3 | exact cE4 hgo hfo h3 h4 | exact cE5 hgo hfo h3 h4 hz h5 h6 | exact cE6 hgo hfo h3 h4 hz h5 h6 h7 | exact cE7 hgo hfo h3 h4 hm0 hz h8 h9 | exact cE8 hgo hfo h3 h4 hm0 hz h8 h9 h10 | exact cE9 hgo hfo h3 h4 hm0 hz h8
       ·
        refine VC.skip (VE.inN (VE.inN (VE.seqN<|VC.reg (VO.p rfl rfl (by omega) (by omega) rfl<|VO.m rfl rfl<|VO.nil<|VE.thenN fun a w ha hw => ⟨j + 1, ⟨by omega, step_zero hz (mayE_zero h6 h7)⟩, by omega, ha.sub (.c4 rfl rfl rfl rfl (.cons rfl .nil)), hw⟩))))
     ·
      refine VC.exit (VE.thenX (VE.thenX (VE.inX (VE.seqN<|VC.seq ?_))))
      have hm0 : firstE (mayE g c.may) c.may.length = 0 := firstE_zero (fun k hk => hz k (by omega))
      refine VC.reg (VO.f (r := 1) F81_1 rfl rfl rfl<|VO.c 0 O72 rfl rfl ⟨_, rfl⟩ rfl<|VO.h rfl<|HO.callx (xs := [_]) (vs := [_]) C92 ⟨(.r rfl), trivial⟩ (fun w hw => set_c _ _ _ w (by omega) (hm.keep w hw)) fun qhm _ => VO.h rfl<|HO.lo (LO.as (.r rfl))<|VO.n<|VC.seq<|VC.q (VO.f (r := 0) F81_0 rfl rfl rfl<|VO.c 1 O72 rfl rfl ⟨_, rfl⟩ rfl<|VO.l (LO.len S72 (.r rfl) rfl) rfl<|VO.m rfl rfl<|VO.n<|VC.block<|VC.loopK 0 (fun j => [(71, .int .i64 (j : Nat))]) [(2,_), (3,_), (9,_), (69,_), (70,_)] (fun j => []) (fun j => j ≤ c.sure.length ∧ ∀ k, k < j → sureE c.may c.sure k = 0) (fun j => c.sure.length - j) 0 (by exact ⟨by omega, fun k hk => by omega⟩) (.c4 rfl rfl rfl rfl (.cons rfl (.cons rfl .nil))) (fun _ h => h) ?_))
      rintro j ⟨hj, hz⟩
      refine VC.q (VO.t rfl rfl rfl<|VO.n<|VC.seq<|VC.cond rfl (fun h8 => ?_) (fun h8 => ?_))
      ·
       refine VC.skip (VE.seqN<|VC.seq<|VC.block<|VC.q (VO.m rfl rfl<|VO.l (LO.ixs S72 N3 hs.some (.r rfl) (.r rfl) rfl (by omega)) rfl<|VO.l (LO.ld O3 (.r rfl) (hs.at (j := j) (by omega))) rfl<|VO.a rfl rfl<|VO.a rfl rfl<|VO.n<|VC.block<|VC.q (VO.m rfl rfl<|VO.l (LO.gt (.r rfl) (.r rfl)) rfl<|VO.m rfl rfl<|VO.gt rfl rfl (fun hg => LO.mv (.r rfl)) rfl<|VO.gt rfl rfl (fun hg => LO.fa (r := 0) F81_0 (.r rfl) rfl) rfl<|VO.gt rfl rfl (fun hg => LO.ld O72 (.g hg rfl) (cells_blk 1 rfl ⟨_, rfl⟩)) rfl<|VO.gt rfl rfl (fun hg => LO.mv (.r rfl)) rfl<|VO.gt rfl rfl (fun hg => LO.sub (.g hg rfl) (.r rfl) (wi (by omega) (by omega))) rfl<|VO.gt rfl rfl (fun hg => LO.ixs S72 N3 hs.some (.g hg rfl) (.g hg rfl) (by have := of_decide_eq_true hg; omega) (by omega)) rfl<|VO.gt rfl rfl (fun hg => LO.ld O3 (.g hg rfl) (hs.at (j := (j - 1)) (by omega))) rfl<|VO.gt rfl rfl (fun hg => LO.le (.g hg rfl) (.g hg rfl)) rfl<|VO.l (LO.pkA (.r rfl) rfl rfl (.r rfl)) rfl<|VO.a rfl rfl<|VO.n<|VC.cond rfl (fun h9 => ?_) (fun h9 => ?_))))
       ·
        refine VC.q (VO.a rfl rfl<|VO.n<|VC.ret (VE.inR (VE.inR (VE.thenR (VE.thenR (VE.inR (VE.thenR (VE.s rfl rfl (fun w hw => ?_)))))))))
        refine ⟨?_, hw.nil⟩
        simp only [resV]
        congr 2
        first | exact cE1 h1 | exact cE2 hgo h2 | exact cE3 hgo hfo h3 | exact cE4 hgo hfo h3 h4 | exact cE5 hgo hfo h3 h4 hz h5 h6 | exact cE6 hgo hfo h3 h4 hz h5 h6 h7 | exact cE7 hgo hfo h3 h4 hm0 hz h8 h9 | exact cE8 hgo hfo h3 h4 hm0 hz h8 h9 h10 | exact cE9 hgo hfo h3 h4 hm0 hz h8
       ·
        refine VC.q (VO.m rfl rfl<|VO.m rfl rfl<|VO.l (LO.lk M180 (.r rfl) (.r rfl) (fun _ hw => St.inv hw 0 _ rfl)) rfl<|VO.l (LO.not (.r rfl)) rfl<|VO.a rfl rfl<|VO.n<|VC.cond rfl (fun h10 => ?_) (fun h10 => ?_))
        ·
         refine VC.q (VO.a rfl rfl<|VO.n<|VC.ret (VE.inR (VE.inR (VE.thenR (VE.thenR (VE.inR (VE.thenR (VE.s rfl rfl (fun w hw => ?_)))))))))
         refine ⟨?_, hw.nil⟩
         simp only [resV]
         congr 2
         first | exact cE1 h1 | exact cE2 hgo h2 | exact cE3 hgo hfo h3 | exact cE4 hgo hfo h3 h4 | exact cE5 hgo hfo h3 h4 hz h5 h6 | exact cE6 hgo hfo h3 h4 hz h5 h6 h7 | exact cE7 hgo hfo h3 h4 hm0 hz h8 h9 | exact cE8 hgo hfo h3 h4 hm0 hz h8 h9 h10 | exact cE9 hgo hfo h3 h4 hm0 hz h8
        ·
         refine VC.skip (VE.inN (VE.inN (VE.seqN<|VC.reg (VO.p rfl rfl (by omega) (by omega) rfl<|VO.m rfl rfl<|VO.nil<|VE.thenN fun a w ha hw => ⟨j + 1, ⟨by omega, step_zero hz (sureE_zero h9 h10)⟩, by omega, ha.sub (.c4 rfl rfl rfl rfl (.cons rfl (.cons rfl .nil))), hw⟩))))
      ·
       refine VC.exit (VE.thenX (VE.thenX (VE.inX (VE.seqN<|VC.q (VO.a rfl rfl<|VO.n<|VC.ret (VE.s rfl rfl (fun w hw => ?_)))))))
       refine ⟨?_, hw.nil⟩
       simp only [resV]
       congr 2
       first | exact cE1 h1 | exact cE2 hgo h2 | exact cE3 hgo hfo h3 | exact cE4 hgo hfo h3 h4 | exact cE5 hgo hfo h3 h4 hz h5 h6 | exact cE6 hgo hfo h3 h4 hz h5 h6 h7 | exact cE7 hgo hfo h3 h4 hm0 hz h8 h9 | exact cE8 hgo hfo h3 h4 hm0 hz h8 h9 h10 | exact cE9 hgo hfo h3 h4 hm0 hz h8
theorem Z182 : ZeroOf Tryz.prog 182 (.agg #[.int .i64 0, .int .i64 0, .int .i64 0, .int .i64 0, .int .i64 0, .map none, .map none, .int .i64 0, .int .i64 0, .int .i64 0, .int .i64 0, .int .i64 0]) := by unfold ZeroOf; kernel_rfl
theorem B182 : Builds Tryz.prog 182 [(0,5), (5,1), (6,1), (7,4), (11,1)] [.int .i64 0, .int .i64 0, .int .i64 0, .int .i64 0, .int .i64 0, .map none, .map none, .int .i64 0, .int .i64 0, .int .i64 0, .int .i64 0, .int .i64 0] := Builds.mk fun _ => by kernel_rfl
theorem N182 : (Tryz.prog.info? 182).map (·.size) = some 12 := by kernel_rfl
theorem mixed : Tryz.prog.follows .mixedOrders = true := by kernel_rfl
theorem A182 : IsAgg Tryz.prog 182 12 := ⟨⟨_, Tryz.underlying182, rfl⟩, by kernel_rfl⟩
theorem F182_4 : FieldAt Tryz.prog 182 4 11 := ⟨_,_, Tryz.underlying182, rfl, rfl, 0, by kernel_rfl⟩
theorem C106 : IsFn Tryz.prog 106 := ⟨_, Tryz.func106, by decide, rfl⟩
abbrev shapeV (a b : Nat) (g : Grid) (c : Cloud) : Value := .agg #[.int .i64 g.x, .int .i64 g.y, .int .i64 g.size, .int .i64 g.wide, .int .i64 g.high, .map (some a), .map (some b), .int .i64 c.flow.a, .int .i64 c.flow.b, .int .i64 c.flow.c, .int .i64 c.flow.d, .int .i64 c.grow]
theorem shaped_c (g : Grid) (c : Cloud) (ps pm : Option Addr) (cs cm : Nat) (w : World) (hns : c.sure.length < 1000000000000) (hnm : c.may.length < 1000000000000) (hs : Ints w ps c.sure) (hm : Ints w pm c.may) :
 Calls Tryz.prog 79 #[gridV g, cloudV ps cs pm cm c] w fun e w' => ∃ q : Nat × Nat, True ∧ e = .returned (shapeV q.1 q.2 g c) ∧ St (bs w) [setR q.2 (memB c.may), setR q.1 (memB c.sure)] w' := by
 refine enter (vs := [_,_]) (env := [(0,_), (1,_)]) Tryz.func79 rfl rfl rfl rfl ?_
 refine VC.q (VO.h rfl<|HO.box (C := #[_,_,_,_,_]) rfl rfl fun b1 => VO.h rfl<|HO.box (C := #[_,_,_,_,_,_,_]) rfl rfl fun b2 => VO.h rfl<|HO.alloc (C := #[_,_,_,_,_,_,_,_,_,_,_,_]) Z182 rfl fun b3 => VO.n<|VC.seq<|VC.drawH [[0,1,2], [0,1,2], [0,1,2], [0,1,2], [1,2]] [some 2, some 0, some 0, none, some 1, some 1, none, some 2, some 2, some 2, some 2, none, none] mixed (by kernel_rfl) rfl (LX.l (fun _ hJ => LO.lda (vs := [_,_,_,_,_]) A23 (.r rfl) (fun _ hw => cells_at (hJ _ hw) 2 rfl ⟨_, rfl⟩) rfl) rfl<|LX.l (fun _ hJ => LO.fa (r := 0) F81_0 (.r rfl) rfl) rfl<|LX.l (fun _ hJ => LO.ld O72 (.r rfl) (fun _ hw => cells_at (hJ _ hw) 1 rfl ⟨_, rfl⟩)) rfl<|LX.s<|LX.l (fun _ hJ => LO.fa (r := 1) F81_1 (.r rfl) rfl) rfl<|LX.l (fun _ hJ => LO.ld O72 (.r rfl) (fun _ hw => cells_at (hJ _ hw) 1 rfl ⟨_, rfl⟩)) rfl<|LX.s<|LX.l (fun _ hJ => LO.fa (r := 2) F81_2 (.r rfl) rfl) rfl<|LX.l (fun _ hJ => LO.lda (vs := [_,_,_,_]) A79 (.r rfl) (fun _ hw => cells_at (hJ _ hw) 1 rfl ⟨_, rfl⟩) rfl) rfl<|LX.l (fun _ hJ => LO.fa (r := 6) F81_3 (.r rfl) rfl) rfl<|LX.l (fun _ hJ => LO.ld O3 (.r rfl) (fun _ hw => cells_at (hJ _ hw) 1 rfl ⟨_, rfl⟩)) rfl<|LX.s<|LX.s<|LX.nil) (HX.s<|HX.s<|HX.s<|HX.h rfl<|HO.callx (xs := [_]) (vs := [_]) C92 ⟨(.r rfl), trivial⟩ (fun w hw => set_c _ _ _ w (by omega) (hs.keep w hw)) fun qhs _ => ⟨fun _ hw => hw.sel [1,2,3] rfl, HX.s<|HX.s<|HX.h rfl<|HO.callx (xs := [_]) (vs := [_]) C92 ⟨(.r rfl), trivial⟩ (fun w hw => set_c _ _ _ w (by omega) (hm.keep w hw)) fun qhm _ => ⟨fun _ hw => hw.sel [2,3,4] rfl, HX.s<|HX.s<|HX.s<|HX.s<|HX.h rfl<|HO.lo (LO.bd (ps := [(_,_), (_,_), (_,_), (_,_), (_,_)]) (vs := [(_,_), (_,_), (_,_), (_,_), (_,_)]) (C := [_,_,_,_,_,_,_,_,_,_,_,_]) B182  ⟨(.r rfl), (.r rfl), (.r rfl), (.r rfl), (.r rfl), trivial⟩ rfl ⟨_, [_,_,_,_,_], [_,_,_,_,_,_,_,_,_,_,_,_], rfl, rfl, rfl, rfl, ⟨_, [_], [_,_,_,_,_,_,_,_,_,_,_,_], rfl, rfl, rfl, rfl, ⟨_, [_], [_,_,_,_,_,_,_,_,_,_,_,_], rfl, rfl, rfl, rfl, ⟨_, [_,_,_,_], [_,_,_,_,_,_,_,_,_,_,_,_], rfl, rfl, rfl, rfl, ⟨_, [_], [_,_,_,_,_,_,_,_,_,_,_,_], rfl, rfl, rfl, rfl, rfl⟩⟩⟩⟩⟩)<|⟨fun _ hw => hw.sel [2,3,4] rfl, HX.h0<|HO.st 2 (vs := [_,_,_,_,_,_,_,_,_,_,_,_]) (C' := [_,_,_,_,_,_,_,_,_,_,_,_]) (L' := [_,_,_,_,_]) N182 rfl rfl rfl rfl rfl rfl rfl rfl<|⟨fun _ hw => hw.sel [3,4] rfl, HX.nil ?_⟩⟩⟩⟩))
 refine VE.seqN<|VC.ret (VE.res (vs := [_]) rfl ⟨RV.agg (vs := [_,_,_,_,_,_,_,_,_,_,_,_]) A182 rfl (cells_blk 2 rfl ⟨_, rfl⟩) rfl, trivial⟩ (fun w hw => ?_))
 exact ⟨(qhs, qhm), trivial, rfl, hw.sel [0,1] rfl⟩
theorem come_c (g : Grid) (c : Cloud) (a b : Nat) (lo hi t : Int) (w : World) (h1 : -100000 ≤ lo) (h2 : lo ≤ 100000) (h3 : -100000 ≤ hi) (h4 : hi ≤ 100000) (h5 : 0 ≤ c.grow) (h6 : c.grow ≤ 10000) (h7 : 0 ≤ t) (h8 : t ≤ 7200) :
 Calls Tryz.prog 102 #[shapeV a b g c, .agg #[.int .i64 lo, .int .i64 hi], .int .i64 t] w fun e w' => e = .returned (.tuple #[.int .i64 (comeLo lo c.grow t), .int .i64 (comeHi hi c.grow t)]) ∧ St (bs w) [] w' := by
 have m1 := mul_bd (a := lo - c.grow) (t := t) (by omega) (by omega) h7 h8
 have m2 := mul_bd (a := hi + c.grow) (t := t) (by omega) (by omega) h7 h8
 refine enter (vs := [_,_,_]) (env := [(0,_), (1,_), (2,_)]) Tryz.func102 rfl rfl rfl rfl ?_
 refine VC.q (VO.h rfl<|HO.box (C := #[_,_,_,_,_,_,_,_,_,_,_,_]) rfl rfl fun b1 => VO.h rfl<|HO.box (C := #[_,_]) rfl rfl fun b2 => VO.a rfl rfl<|VO.a rfl rfl<|VO.n<|VC.seq<|VC.draw mixed (LL.l (LO.fa (r := 0) F77_0 (.r rfl) rfl) rfl<|LL.l (LO.ld O3 (.r rfl) (cells_blk 0 rfl ⟨_, rfl⟩)) rfl<|LL.l (LO.fa (r := 11) F182_4 (.r rfl) rfl) rfl<|LL.l (LO.ld O3 (.r rfl) (cells_blk 1 rfl ⟨_, rfl⟩)) rfl<|LL.l (LO.sub (.r rfl) (.r rfl) (wi (by omega) (by omega))) rfl<|LL.m rfl rfl<|LL.l (LO.mul (.r rfl) (.r rfl) (wi (by omega) (by omega))) rfl<|LL.l (LO.sub (.r rfl) (.r rfl) (wi (by omega) (by omega))) rfl<|LL.l (LO.call (xs := [_,_]) (vs := [_,_]) C105 ⟨(.r rfl), (.r rfl), trivial⟩ (fun w _ => down_c _ _ (by omega) (by omega) (by omega) w)) rfl<|LL.l (LO.add (.r rfl) (.r rfl) (wi (by omega) (by omega))) rfl<|LL.l (LO.fa (r := 1) F77_1 (.r rfl) rfl) rfl<|LL.l (LO.ld O3 (.r rfl) (cells_blk 0 rfl ⟨_, rfl⟩)) rfl<|LL.l (LO.fa (r := 11) F182_4 (.r rfl) rfl) rfl<|LL.l (LO.ld O3 (.r rfl) (cells_blk 1 rfl ⟨_, rfl⟩)) rfl<|LL.l (LO.add (.r rfl) (.r rfl) (wi (by omega) (by omega))) rfl<|LL.m rfl rfl<|LL.l (LO.mul (.r rfl) (.r rfl) (wi (by omega) (by omega))) rfl<|LL.l (LO.add (.r rfl) (.r rfl) (wi (by omega) (by omega))) rfl<|LL.l (LO.call (xs := [_,_]) (vs := [_,_]) C106 ⟨(.r rfl), (.r rfl), trivial⟩ (fun w _ => up_c _ _ (by omega) (by omega) (by omega) w)) rfl<|LL.l (LO.sub (.r rfl) (.r rfl) (wi (by omega) (by omega))) rfl<|LL.l (LO.as (.r rfl)) rfl<|LL.l (LO.as (.r rfl)) rfl<|LL.nil) (by kernel_rfl)<|VE.seqN<|VC.ret (VE.res (vs := [_,_]) rfl ⟨rfl, rfl, trivial⟩ (fun w hw => ?_)))
 exact ⟨rfl, hw.nil⟩
theorem F182_0 : FieldAt Tryz.prog 182 0 0 := ⟨_,_, Tryz.underlying182, rfl, rfl, 4, by kernel_rfl⟩
theorem F182_3 : FieldAt Tryz.prog 182 3 7 := ⟨_,_, Tryz.underlying182, rfl, rfl, 3, by kernel_rfl⟩
theorem C102 : IsFn Tryz.prog 102 := ⟨_, Tryz.func102, by decide, rfl⟩
abbrev shapeC (a b : Nat) (g : Grid) (c : Cloud) : Array Value := #[.int .i64 g.x, .int .i64 g.y, .int .i64 g.size, .int .i64 g.wide, .int .i64 g.high, .map (some a), .map (some b), .int .i64 c.flow.a, .int .i64 c.flow.b, .int .i64 c.flow.c, .int .i64 c.flow.d, .int .i64 c.grow]
abbrev srcF (bp bsh bt : Nat) : Value := .func (.func 101) #[] #[.pointer (some ⟨bp, 0, none⟩), .pointer (some ⟨bsh, 0, none⟩), .pointer (some ⟨bt, 0, none⟩)]
def srcCap (g : Grid) (c : Cloud) (a b bp bsh bt : Nat) (p t : Int) (w : World) : Prop := Cells w ⟨bp, 0, none⟩ [.int .i64 p] ∧ Cells w ⟨bsh, 0, none⟩ (shapeC a b g c).toList ∧ Cells w ⟨bt, 0, none⟩ [.int .i64 t]
theorem srcs_le {g : Grid} {c : Cloud} {p t : Int} {i j : Nat} (hi : i < sny g c p t) (hj : j < snx g c p t) : (sout g c p t).toNat + i * snx g c p t + j + 1 ≤ (sout g c p t).toNat + sny g c p t * snx g c p t := by
  have : (i + 1) * snx g c p t ≤ sny g c p t * snx g c p t := Nat.mul_le_mul_right _ hi
  rw [Nat.add_mul] at this; omega
theorem seq_stop {J Jx : Nat → Res → Prop} {xs : List (List Value)} {n : Nat} {r : Res} (h : n ≤ xs.length) (k : Jx n r) : J xs.length r ∨ ∃ n, n ≤ xs.length ∧ Jx n r := .inr ⟨n, h, k⟩
theorem seq_full {J Jx : Nat → Res → Prop} {xs : List (List Value)} {r : Res} (k : J xs.length r) : J xs.length r ∨ ∃ n, n ≤ xs.length ∧ Jx n r := .inl k
theorem seq_end {J Jx : Nat → Res → Prop} {xs : List (List Value)} {r : Res} {β : Bs} {w : World} (h : J xs.length r ∨ ∃ n, n ≤ xs.length ∧ Jx n r) (hw : St β [r] w) : ∃ n r', (J xs.length r' ∨ (n ≤ xs.length ∧ Jx n r')) ∧ St β [r'] w := by
  rcases h with h | ⟨n, h1, h2⟩
  · exact ⟨0, r, .inl h, hw⟩
  · exact ⟨n, r, .inr ⟨h1, h2⟩, hw⟩
theorem tmod_bd {g : Grid} {p : Int} (hg : gridOk g) (h1 : 0 ≤ p) (h2 : p < g.wide * g.high) : (0 ≤ p.tmod g.wide ∧ p.tmod g.wide < g.wide) ∧ 0 ≤ p.tdiv g.wide ∧ p.tdiv g.wide < g.high := by
  obtain ⟨_,_,_, ⟨h3, h4⟩, h5, h6⟩ := hg
  rw [Int.tmod_eq_emod_of_nonneg h1, Int.tdiv_eq_ediv_of_nonneg h1]
  exact ⟨⟨Int.emod_nonneg _ (by omega), Int.emod_lt_of_pos _ (by omega)⟩, Int.ediv_nonneg h1 (by omega), Int.ediv_lt_of_lt_mul (by omega) (by rw [Int.mul_comm]; exact h2)⟩
theorem sources_c (g : Grid) (c : Cloud) (a b : Nat) (p t : Int) (w : World) :
 Calls Tryz.prog 93 #[shapeV a b g c, .int .i64 p, .int .i64 t] w fun e w' => ∃ q : Nat × Nat × Nat, True ∧ e = .returned (srcF q.2.1 q.1 q.2.2) ∧ St (bs w) [blk q.2.2 (.cells #[.int .i64 t] 3), blk q.2.1 (.cells #[.int .i64 p] 3), blk q.1 (.cells (shapeC a b g c) 182)] w' := by
 refine enter (vs := [_,_,_]) (env := [(0,_), (1,_), (2,_)]) Tryz.func93 rfl rfl rfl rfl ?_
 refine VC.q (VO.h rfl<|HO.box (C := #[_,_,_,_,_,_,_,_,_,_,_,_]) rfl rfl fun b1 => VO.h rfl<|HO.box (C := #[_]) rfl rfl fun b2 => VO.h rfl<|HO.box (C := #[_]) rfl rfl fun b3 => VO.a rfl rfl<|VO.n<|VC.q (VO.h rfl<|HO.lo (LO.mf (cap := [_,_,_]) ⟨(.r rfl), (.r rfl), (.r rfl), trivial⟩)<|VO.h rfl<|HO.lo (LO.as (.r rfl))<|VO.n<|VC.ret (VE.s rfl rfl (fun w hw => ?_))))
 exact ⟨(b1, b2, b3), trivial, rfl, hw⟩
theorem sources_seq (g : Grid) (c : Cloud) (a b bp bsh bt : Nat) (p t : Int) (hg : gridOk g) (hf : flowOk c.flow) (hr1 : 0 ≤ c.grow) (hr2 : c.grow ≤ 10000) (ht1 : 0 ≤ t) (ht2 : t ≤ 7200) (hp1 : 0 ≤ p) (hp2 : p < g.wide * g.high) :
  SeqC Tryz.prog 101 [.pointer (some ⟨bp, 0, none⟩), .pointer (some ⟨bsh, 0, none⟩), .pointer (some ⟨bt, 0, none⟩)] (srcCap g c a b bp bsh bt p t) ((srcs g c p t).map fun n => [.int .i64 n]) := by
  intro l J Jx w r hCap hyl hJ hi0 hf0
  have hx := tmod_bd hg hp1 hp2
  obtain ⟨hgx, hgy, hgs, hgw, hgh⟩ := hg
  obtain ⟨⟨hfa, hfb, hfc⟩, hfd, hfe, hff⟩ := hf
  have hc1 := come_bd (f := c.flow.a) (by omega) (by omega) hr1 hr2 ht1 ht2
  have hc2 := come_bd (f := c.flow.b) (by omega) (by omega) hr1 hr2 ht1 ht2
  have hc3 := come_bd (f := c.flow.c) (by omega) (by omega) hr1 hr2 ht1 ht2
  have hc4 := come_bd (f := c.flow.d) (by omega) (by omega) hr1 hr2 ht1 ht2
  have hsx : 0 ≤ sx0 g c p t ∧ sx0 g c p t ≤ 2000 := by unfold sx0; omega
  have hsy : 0 ≤ sy0 g c p t ∧ sy0 g c p t ≤ 2000 := by unfold sy0; omega
  refine enterO (vs := [_,_,_,_]) (env := [(0,_), (1,_), (2,_), (3,_)]) (St.one hi0 hf0) Tryz.func101 rfl rfl rfl rfl ?_
  refine VC.seq<|VC.draw mixed (LL.l (LO.ld O3 (.r rfl) (fun _ hw => sub_cells (off := 0) (hCap _ _ _ hJ (St.inv hw 0 _ rfl)).1 ⟨_, rfl⟩)) rfl<|LL.l (LO.fa (r := 0) F182_0 (.r rfl) rfl) rfl<|LL.l (LO.fa (r := 3) F23_3 (.r rfl) rfl) rfl<|LL.l (LO.ld O3 (.r rfl) (fun _ hw => sub_cells (off := 3) (hCap _ _ _ hJ (St.inv hw 0 _ rfl)).2.1 ⟨_, rfl⟩)) rfl<|LL.l (LO.rem (.r rfl) (.r rfl) (by omega)) rfl<|LL.l (LO.ld O3 (.r rfl) (fun _ hw => sub_cells (off := 0) (hCap _ _ _ hJ (St.inv hw 0 _ rfl)).1 ⟨_, rfl⟩)) rfl<|LL.l (LO.fa (r := 0) F182_0 (.r rfl) rfl) rfl<|LL.l (LO.fa (r := 3) F23_3 (.r rfl) rfl) rfl<|LL.l (LO.ld O3 (.r rfl) (fun _ hw => sub_cells (off := 3) (hCap _ _ _ hJ (St.inv hw 0 _ rfl)).2.1 ⟨_, rfl⟩)) rfl<|LL.l (LO.quo (.r rfl) (.r rfl) (by omega) (wi (by omega) (by omega))) rfl<|LL.l (LO.as (.r rfl)) rfl<|LL.l (LO.as (.r rfl)) rfl<|LL.nil) (by kernel_rfl)<|VE.seqN<|VC.q (VO.l (LO.lda (vs := [_,_,_,_,_,_,_,_,_,_,_,_]) A182 (.r rfl) (fun _ hw => sub_cells (off := 0) (hCap _ _ _ hJ (St.inv hw 0 _ rfl)).2.1 ⟨_, rfl⟩) rfl) rfl<|VO.f (r := 7) F182_3 rfl rfl rfl<|VO.f (r := 7) F79_0 rfl rfl rfl<|VO.l (LO.lda (vs := [_,_]) A77 (.r rfl) (fun _ hw => sub_cells (off := 7) (hCap _ _ _ hJ (St.inv hw 0 _ rfl)).2.1 ⟨_, rfl⟩) rfl) rfl<|VO.l (LO.ld O3 (.r rfl) (fun _ hw => sub_cells (off := 0) (hCap _ _ _ hJ (St.inv hw 0 _ rfl)).2.2 ⟨_, rfl⟩)) rfl<|VO.l (LO.call (xs := [_,_,_]) (vs := [_,_,_]) C102 ⟨(.r rfl), (.r rfl), (.r rfl), trivial⟩ (fun w _ => come_c g c _ _ _ _ _ w (by omega) (by omega) (by omega) (by omega) (by omega) (by omega) (by omega) (by omega))) rfl<|VO.m rfl rfl<|VO.l (LO.ex (.r rfl) rfl) rfl<|VO.l (LO.ex (.r rfl) rfl) rfl<|VO.a rfl rfl<|VO.a rfl rfl<|VO.n<|VC.q (VO.l (LO.lda (vs := [_,_,_,_,_,_,_,_,_,_,_,_]) A182 (.r rfl) (fun _ hw => sub_cells (off := 0) (hCap _ _ _ hJ (St.inv hw 0 _ rfl)).2.1 ⟨_, rfl⟩) rfl) rfl<|VO.f (r := 7) F182_3 rfl rfl rfl<|VO.f (r := 9) F79_1 rfl rfl rfl<|VO.l (LO.lda (vs := [_,_]) A77 (.r rfl) (fun _ hw => sub_cells (off := 9) (hCap _ _ _ hJ (St.inv hw 0 _ rfl)).2.1 ⟨_, rfl⟩) rfl) rfl<|VO.l (LO.ld O3 (.r rfl) (fun _ hw => sub_cells (off := 0) (hCap _ _ _ hJ (St.inv hw 0 _ rfl)).2.2 ⟨_, rfl⟩)) rfl<|VO.l (LO.call (xs := [_,_,_]) (vs := [_,_,_]) C102 ⟨(.r rfl), (.r rfl), (.r rfl), trivial⟩ (fun w _ => come_c g c _ _ _ _ _ w (by omega) (by omega) (by omega) (by omega) (by omega) (by omega) (by omega) (by omega))) rfl<|VO.m rfl rfl<|VO.l (LO.ex (.r rfl) rfl) rfl<|VO.l (LO.ex (.r rfl) rfl) rfl<|VO.a rfl rfl<|VO.a rfl rfl<|VO.n<|VC.q (VO.m rfl rfl<|VO.m rfl rfl<|VO.l (LO.sub (.r rfl) (.r rfl) (wi (by omega) (by omega))) rfl<|VO.t rfl rfl rfl<|VO.m rfl rfl<|VO.gf rfl rfl (fun hg => LO.mv (.r rfl)) rfl<|VO.gf rfl rfl (fun hg => LO.mv (.r rfl)) rfl<|VO.gf rfl rfl (fun hg => LO.sub (.g hg rfl) (.g hg rfl) (wi (by omega) (by omega))) rfl<|VO.gf rfl rfl (fun hg => LO.fa (r := 0) F182_0 (.r rfl) rfl) rfl<|VO.gf rfl rfl (fun hg => LO.fa (r := 3) F23_3 (.g hg rfl) rfl) rfl<|VO.gf rfl rfl (fun hg => LO.ld O3 (.g hg rfl) (fun _ hw => sub_cells (off := 3) (hCap _ _ _ hJ (St.inv hw 0 _ rfl)).2.1 ⟨_, rfl⟩)) rfl<|VO.gf rfl rfl (fun hg => LO.ge (.g hg rfl) (.g hg rfl)) rfl<|VO.l (LO.pkO (.r rfl) (.r rfl) rfl rfl) rfl<|VO.m rfl rfl<|VO.gf rfl rfl (fun hg => LO.mv (.r rfl)) rfl<|VO.gf rfl rfl (fun hg => LO.mv (.r rfl)) rfl<|VO.gf rfl rfl (fun hg => LO.sub (.g hg rfl) (.g hg rfl) (wi (by omega) (by omega))) rfl<|VO.gf rfl rfl (fun hg => LO.lt (.g hg rfl) (.r rfl)) rfl<|VO.l (LO.pkO (.r rfl) (.r rfl) rfl rfl) rfl<|VO.m rfl rfl<|VO.gf rfl rfl (fun hg => LO.mv (.r rfl)) rfl<|VO.gf rfl rfl (fun hg => LO.mv (.r rfl)) rfl<|VO.gf rfl rfl (fun hg => LO.sub (.g hg rfl) (.g hg rfl) (wi (by omega) (by omega))) rfl<|VO.gf rfl rfl (fun hg => LO.fa (r := 0) F182_0 (.r rfl) rfl) rfl<|VO.gf rfl rfl (fun hg => LO.fa (r := 4) F23_4 (.g hg rfl) rfl) rfl<|VO.gf rfl rfl (fun hg => LO.ld O3 (.g hg rfl) (fun _ hw => sub_cells (off := 4) (hCap _ _ _ hJ (St.inv hw 0 _ rfl)).2.1 ⟨_, rfl⟩)) rfl<|VO.gf rfl rfl (fun hg => LO.ge (.g hg rfl) (.g hg rfl)) rfl<|VO.l (LO.pkO (.r rfl) (.r rfl) rfl rfl) rfl<|VO.l (LO.as (v := .bool (sout g c p t)) (.r rfl)) rfl<|VO.n<|VC.seq ?_)))
  refine VC.q (VO.m rfl rfl<|VO.m rfl rfl<|VO.gt rfl rfl (fun hg => LO.mv (.r rfl)) rfl<|VO.yg 0 (r := r) (vs := [_]) (post := fun b r' => if b = true then J (0 + 1) r' else Jx (0 + 1) r') rfl rfl (GD.t _) rfl (fun hg => .g hg rfl) ⟨.r rfl, trivial⟩ rfl (fun hg w2 hi hr hs => hyl 0 _ (by rw [List.getElem?_map, srcs_out hg]; rfl) r w2 hJ hi hr hs) fun b1 r1 hp1 hp2 => VO.gt rfl rfl (fun hg => LO.not (.g hg rfl)) rfl<|VO.l (LO.pkA (.r rfl) rfl rfl (.r rfl)) rfl<|VO.n<|VC.cond rfl (fun h1 => ?_) (fun h1 => ?_))
  ·
    have hE := seq_stop (J := J) (xs := (srcs g c p t).map fun n => [Value.int .i64 n]) (n := 1) (by rw [List.length_map, srcs_length, h1.1]; simp <;> omega) (by have := hp1 h1.1; rw [if_neg h1.2] at this; exact this)
    refine VC.ret (VE.thenR (VE.res (vs := []) rfl trivial (fun w hw => ?_)))
    exact ⟨rfl, seq_end hE hw⟩
  ·
    have hJ : J (sout g c p t).toNat r1 := by
      cases hs : sout g c p t
      · rw [hp2 hs]; exact hJ
      · have h2 := hp1 hs
        have hb : b1 = true := by simpa [hs] using h1
        rw [if_pos hb] at h2; exact h2
    refine VC.skip (VE.seqN<|VC.q (VO.m rfl rfl<|VO.m rfl rfl<|VO.l (LO.sub (.r rfl) (.r rfl) (wi (by omega) (by omega))) rfl<|VO.l (LO.max (.r rfl) (.r rfl)) rfl<|VO.l (LO.as (v := .int .i64 (sy0 g c p t)) (.r rfl)) rfl<|VO.n<|VC.block<|VC.loopK (α := Nat × Res) 1 (fun x => [(12, .int .i64 (sy0 g c p t + (x.1 : Nat)))]) [(0,_), (2,_), (5,_), (6,_), (7,_), (8,_), (9,_), (10,_)] (fun x => [x.2]) (fun x => x.1 ≤ sny g c p t ∧ J ((sout g c p t).toNat + x.1 * snx g c p t) x.2) (fun x => sny g c p t - x.1) (0, r1) (by exact ⟨by omega, by simpa using hJ⟩) (.cons (Eq.trans (b := some (Value.int .i64 (sy0 g c p t))) rfl (by simp)) (.c4 rfl rfl rfl rfl (.c4 rfl rfl rfl rfl .nil))) (fun _ h => h) ?_))
    rintro ⟨i, r⟩ ⟨hi, hJ⟩
    show VC _ _ _ _ _ ([(12, .int .i64 (sy0 g c p t + (i : Nat)))] ++ _) ([r] ++ _) _ _
    refine VC.seq<|VC.q (VO.m rfl rfl<|VO.f (r := 0) F182_0 rfl rfl rfl<|VO.f (r := 4) F23_4 rfl rfl rfl<|VO.l (LO.ld O3 (.r rfl) (fun _ hw => sub_cells (off := 4) (hCap _ _ _ hJ (St.inv hw 0 _ rfl)).2.1 ⟨_, rfl⟩)) rfl<|VO.l (LO.sub (.r rfl) (.r rfl) (wi (by omega) (by omega))) rfl<|VO.m rfl rfl<|VO.m rfl rfl<|VO.l (LO.sub (.r rfl) (.r rfl) (wi (by omega) (by omega))) rfl<|VO.l (LO.min (.r rfl) (.r rfl)) rfl<|VO.l (LO.le (.r rfl) (.r rfl)) rfl<|VO.n<|VC.cond rfl (fun h2 => ?_) (fun h2 => ?_))
    ·
      have hiy : i < sny g c p t := by unfold sny sy1; omega
      have hv := row_bd (v := sy0 g c p t + (i : Int)) (w := g.wide) (by omega) (by omega) (by omega) (by omega)
      refine VC.skip (VE.seqN<|VC.seq<|VC.block<|VC.q (VO.m rfl rfl<|VO.m rfl rfl<|VO.l (LO.sub (.r rfl) (.r rfl) (wi (by omega) (by omega))) rfl<|VO.l (LO.max (.r rfl) (.r rfl)) rfl<|VO.l (LO.as (v := .int .i64 (sx0 g c p t)) (.r rfl)) rfl<|VO.n<|VC.block<|VC.loopK (α := Nat × Res) 1 (fun x => [(13, .int .i64 (sx0 g c p t + (x.1 : Nat)))]) [(0,_), (2,_), (5,_), (6,_), (7,_), (8,_), (9,_), (10,_), (12,_)] (fun x => [x.2]) (fun x => x.1 ≤ snx g c p t ∧ J ((sout g c p t).toNat + i * snx g c p t + x.1) x.2) (fun x => snx g c p t - x.1) (0, r) (by exact ⟨by omega, by simpa using hJ⟩) (.cons (Eq.trans (b := some (Value.int .i64 (sx0 g c p t))) rfl (by simp)) (.c4 rfl rfl rfl rfl (.c4 rfl rfl rfl rfl (.cons rfl .nil)))) (fun _ h => h) ?_))
      rintro ⟨j, r⟩ ⟨hj, hJ⟩
      show VC _ _ _ _ _ ([(13, .int .i64 (sx0 g c p t + (j : Nat)))] ++ _) ([r] ++ _) _ _
      refine VC.seq<|VC.q (VO.m rfl rfl<|VO.f (r := 0) F182_0 rfl rfl rfl<|VO.f (r := 3) F23_3 rfl rfl rfl<|VO.l (LO.ld O3 (.r rfl) (fun _ hw => sub_cells (off := 3) (hCap _ _ _ hJ (St.inv hw 0 _ rfl)).2.1 ⟨_, rfl⟩)) rfl<|VO.l (LO.sub (.r rfl) (.r rfl) (wi (by omega) (by omega))) rfl<|VO.m rfl rfl<|VO.m rfl rfl<|VO.l (LO.sub (.r rfl) (.r rfl) (wi (by omega) (by omega))) rfl<|VO.l (LO.min (.r rfl) (.r rfl)) rfl<|VO.l (LO.le (.r rfl) (.r rfl)) rfl<|VO.n<|VC.cond rfl (fun h3 => ?_) (fun h3 => ?_))
      ·
        have hjx : j < snx g c p t := by unfold snx sx1; omega
        refine VC.skip (VE.seqN<|VC.seq<|VC.block<|VC.q (VO.m rfl rfl<|VO.m rfl rfl<|VO.f (r := 0) F182_0 rfl rfl rfl<|VO.f (r := 3) F23_3 rfl rfl rfl<|VO.l (LO.ld O3 (.r rfl) (fun _ hw => sub_cells (off := 3) (hCap _ _ _ hJ (St.inv hw 0 _ rfl)).2.1 ⟨_, rfl⟩)) rfl<|VO.l (LO.mul (.r rfl) (.r rfl) (wi (by omega) (by omega))) rfl<|VO.m rfl rfl<|VO.p rfl rfl (by omega) (by omega) rfl<|VO.h rfl<|HO.yield 0 (r := r) (vs := [_]) (post := fun b r' => if b = true then J ((sout g c p t).toNat + i * snx g c p t + j + 1) r' else Jx ((sout g c p t).toNat + i * snx g c p t + j + 1) r') (.r rfl) ⟨.r rfl, trivial⟩ rfl (fun w2 hi hr hs => hyl ((sout g c p t).toNat + i * snx g c p t + j) _ (by rw [List.getElem?_map, srcs_at (i := i) (j := j) (by omega) (by omega)]; rfl) r w2 hJ hi hr hs) fun b1 r1 hp => VO.h rfl<|HO.lo (LO.not (.r rfl))<|VO.n<|VC.cond rfl (fun h4 => ?_) (fun h4 => ?_)))
        ·
          rw [if_neg h4] at hp
          have hE := seq_stop (J := J) (xs := (srcs g c p t).map fun n => [Value.int .i64 n]) (n := (sout g c p t).toNat + i * snx g c p t + j + 1) (by rw [List.length_map, srcs_length]; exact srcs_le hiy hjx) hp
          refine VC.ret (VE.inR (VE.thenR (VE.thenR (VE.inR (VE.inR (VE.thenR (VE.thenR (VE.inR (VE.res (vs := []) rfl trivial (fun w hw => ?_))))))))))
          exact ⟨rfl, seq_end hE hw⟩
        ·
          rw [if_pos (by simpa using h4)] at hp
          refine VC.skip (VE.inN (VE.seqN<|VC.reg (VO.m rfl rfl<|VO.p rfl rfl (by omega) (by omega) rfl<|VO.a rfl rfl<|VO.nil<|VE.thenN fun a w ha hw => ⟨(j + 1, r1), ⟨by omega, hp⟩, by omega, ha.sub (.cons (Eq.trans (b := some (Value.int .i64 (sx0 g c p t + (j : Int) + 1))) rfl (by simp only [Int.add_assoc]; rfl)) (.c4 rfl rfl rfl rfl (.c4 rfl rfl rfl rfl (.cons rfl .nil)))), hw⟩)))
      ·
        have hjx : j = snx g c p t := by unfold snx sx1 at hj ⊢; omega
        refine VC.exit (VE.thenX (VE.thenX (VE.inX (VE.inN (VE.seqN<|VC.reg (VO.m rfl rfl<|VO.p rfl rfl (by omega) (by omega) rfl<|VO.a rfl rfl<|VO.nil<|VE.thenN fun a w ha hw => ⟨(i + 1, r), ⟨by omega, by rw [show (sout g c p t).toNat + (i + 1) * snx g c p t = (sout g c p t).toNat + i * snx g c p t + j by rw [hjx, Nat.add_mul]; omega]; exact hJ⟩, by omega, ha.sub (.cons (Eq.trans (b := some (Value.int .i64 (sy0 g c p t + (i : Int) + 1))) rfl (by simp only [Int.add_assoc]; rfl)) (.c4 rfl rfl rfl rfl (.c4 rfl rfl rfl rfl .nil))), hw⟩))))))
    ·
      have hiy : i = sny g c p t := by unfold sny sy1 at hi ⊢; omega
      have hE := seq_full (J := J) (Jx := Jx) (xs := (srcs g c p t).map fun n => [Value.int .i64 n]) (r := r) (by rw [List.length_map, srcs_length, ← hiy]; exact hJ)
      refine VC.exit (VE.thenX (VE.thenX (VE.inX (VE.resN (vs := []) rfl trivial (fun w hw => ?_)))))
      exact ⟨rfl, seq_end hE hw⟩
theorem C101 : IsFn Tryz.prog 101 := ⟨_, Tryz.func101, by decide, rfl⟩
theorem Z186 : ZeroOf Tryz.prog 186 (.int .i64 0) := by unfold ZeroOf; kernel_rfl
theorem Z4 : ZeroOf Tryz.prog 4 (.bool false) := by unfold ZeroOf; kernel_rfl
theorem N4 : (Tryz.prog.info? 4).map (·.size) = some 1 := by kernel_rfl
theorem N186 : (Tryz.prog.info? 186).map (·.size) = some 1 := by kernel_rfl
theorem C93 : IsFn Tryz.prog 93 := ⟨_, Tryz.func93, by decide, rfl⟩
theorem O4 : IsOne Tryz.prog 4 := ⟨⟨_, Tryz.underlying4, rfl⟩, by kernel_rfl⟩
theorem F182_1 : FieldAt Tryz.prog 182 1 5 := ⟨_,_, Tryz.underlying182, rfl, rfl, 0, by kernel_rfl⟩
theorem O180 : IsOne Tryz.prog 180 := ⟨⟨_, Tryz.underlying180, rfl⟩, by kernel_rfl⟩
theorem F182_2 : FieldAt Tryz.prog 182 2 6 := ⟨_,_, Tryz.underlying182, rfl, rfl, 0, by kernel_rfl⟩
theorem O186 : IsOne Tryz.prog 186 := ⟨⟨_, Tryz.underlying186, rfl⟩, by kernel_rfl⟩
def stateOf (g : Grid) (c : Cloud) (p t : Int) : Int := if (srcs g c p t).all (memB c.sure) then 2 else if (srcs g c p t).any (memB c.may) then 1 else 0
def atI (l : List Int) (c : Cloud) (n : Nat) (x : Bool × Int × Int) : Prop := x.1 = (l.take n).all (memB c.sure) ∧ x.2.1 = (if (l.take n).any (memB c.may) then 1 else 0) ∧ x.2.2 = 0
theorem take_at {l : List Int} {n : Nat} {v : Int} (hv : l[n]? = some v) : l.take (n + 1) = l.take n ++ [v] := by
  rw [List.take_add_one, hv]; rfl
theorem atI_step1 {l : List Int} {c : Cloud} {n : Nat} {xa : Bool} {xm xr v : Int} (h : atI l c n (xa, xm, xr)) (hv : l[n]? = some v) (h5 : memB c.may v = true) : atI l c (n + 1) (xa && memB c.sure v, 1, xr) := by
  obtain ⟨h1, h2, h3⟩ := h
  refine ⟨?_, ?_, h3⟩
  · rw [take_at hv, List.all_append, ← h1]; simp
  · rw [take_at hv, List.any_append]; simp [h5]
theorem atI_step0 {l : List Int} {c : Cloud} {n : Nat} {xa : Bool} {xm xr v : Int} (h : atI l c n (xa, xm, xr)) (hv : l[n]? = some v) (h5 : ¬ memB c.may v = true) : atI l c (n + 1) (xa && memB c.sure v, xm, xr) := by
  obtain ⟨h1, h2, h3⟩ := h
  refine ⟨?_, ?_, h3⟩
  · rw [take_at hv, List.all_append, ← h1]; simp
  · rw [take_at hv, List.any_append]
    simp only [Bool.not_eq_true] at h5
    simpa [h5] using h2
theorem st_stop {g : Grid} {c : Cloud} {p t : Int} {n : Nat} {xa : Bool} {xm xr : Int} (h : atI (srcs g c p t) c n (xa, xm, xr)) (k : ¬ xa = true ∧ xm = 1) : stateOf g c p t = 1 := by
  obtain ⟨h1, h2, h3⟩ := h
  have ha : ¬ (srcs g c p t).all (memB c.sure) = true := fun q => k.1 (by
    have h1' : xa = ((srcs g c p t).take n).all (memB c.sure) := h1
    rw [h1', List.all_eq_true]
    intro y hy
    exact List.all_eq_true.1 q y (List.mem_of_mem_take hy))
  have hm : (srcs g c p t).any (memB c.may) = true := by
    have h2' : xm = if ((srcs g c p t).take n).any (memB c.may) = true then 1 else 0 := h2
    by_cases q : ((srcs g c p t).take n).any (memB c.may) = true
    · obtain ⟨y, hy, hb⟩ := List.any_eq_true.1 q
      exact List.any_eq_true.2 ⟨y, List.mem_of_mem_take hy, hb⟩
    · rw [if_neg q] at h2'; omega
  unfold stateOf
  rw [if_neg ha, if_pos hm]
theorem atI_full {g : Grid} {c : Cloud} {p t : Int} {f : Int → List Value} {x : Bool × Int × Int} (h : atI (srcs g c p t) c ((srcs g c p t).map f).length x) : x.1 = (srcs g c p t).all (memB c.sure) ∧ x.2.1 = (if (srcs g c p t).any (memB c.may) then 1 else 0) ∧ x.2.2 = 0 := by
  unfold atI at h
  rw [List.length_map, List.take_length] at h
  exact h
theorem st_t {g : Grid} {c : Cloud} {p t : Int} {x : Bool × Int × Int} (h : x.1 = (srcs g c p t).all (memB c.sure) ∧ x.2.1 = (if (srcs g c p t).any (memB c.may) then 1 else 0) ∧ x.2.2 = 0) (k : x.1 = true) : 2 = stateOf g c p t := by
  unfold stateOf; rw [← h.1, if_pos k]
theorem st_f {g : Grid} {c : Cloud} {p t : Int} {x : Bool × Int × Int} (h : x.1 = (srcs g c p t).all (memB c.sure) ∧ x.2.1 = (if (srcs g c p t).any (memB c.may) then 1 else 0) ∧ x.2.2 = 0) (k : ¬ x.1 = true) : x.2.1 = stateOf g c p t := by
  unfold stateOf; rw [← h.1, if_neg k, h.2.1]
theorem atI_zero {l : List Int} {c : Cloud} : atI l c 0 (true, 0,0) := by simp [atI]
theorem row_of {l : List Int} {n : Nat} {vs : List Value} (h : (l.map fun n => [Value.int .i64 n])[n]? = some vs) : ∃ v, vs = [.int .i64 v] ∧ l[n]? = some v := by
  rw [List.getElem?_map] at h
  cases q : l[n]? with
  | none => rw [q] at h; cases h
  | some v => rw [q] at h; cases h; exact ⟨v, rfl, rfl⟩
theorem cells_inv {w : World} {b : Nat} {C : Array Value} {E : TypeId} (h : (blk b (.cells C E)).inv w) : Cells w ⟨b, 0, none⟩ C.toList :=
  cells_blk (L := [blk b (.cells C E)]) 0 rfl ⟨[], by simp⟩ w (St.one h (fun k hk => by have : k = b := hk; subst this; exact (Array.getElem?_eq_some_iff.1 h).1))
theorem set_keep {w0 w1 w : World} {L0 L : List Res} {b : Nat} {S : Int → Bool} (h : (setR b S).inv w0) (h1 : St (bs w0) L0 w1) (h2 : St ⟨w1, fpL L0⟩ L w) : (setR b S).inv w := by
  have hk := h1.back h2
  refine (setR b S).loc (fun k hkb => ?_) h
  obtain ⟨es, cl, hb,_⟩ := h
  have : k = b := hkb
  subst this
  exact (hk.fr k (Array.getElem?_eq_some_iff.1 hb).1 (fun f => f)).symm ▸ rfl
theorem at_c (g : Grid) (cl : Cloud) (a b : Nat) (p t : Int) (w : World) (hg : gridOk g) (hf : flowOk cl.flow) (hr1 : 0 ≤ cl.grow) (hr2 : cl.grow ≤ 10000) (ht1 : 0 ≤ t) (ht2 : t ≤ 7200) (hp1 : 0 ≤ p) (hp2 : p < g.wide * g.high) (hsa : (setR a (memB cl.sure)).inv w) (hsb : (setR b (memB cl.may)).inv w) :
 Calls Tryz.prog 82 #[shapeV a b g cl, .int .i64 p, .int .i64 t] w fun e w' => e = .returned (.int .i64 (stateOf g cl p t)) ∧ St (bs w) [] w' := by
 refine enter (vs := [_,_,_]) (env := [(0,_), (1,_), (2,_)]) Tryz.func82 rfl rfl rfl rfl ?_
 refine VC.q (VO.h rfl<|HO.box (C := #[_,_,_,_,_,_,_,_,_,_,_,_]) rfl rfl fun b1 => VO.h rfl<|HO.alloc (C := #[_]) Z186 rfl fun b2 => VO.n<|VC.q (VO.h rfl<|HO.alloc (C := #[_]) Z4 rfl fun b3 => VO.h rfl<|HO.alloc (C := #[_]) Z186 rfl fun b4 => VO.h0<|HO.st 1 (vs := [_]) (C' := [_]) (L' := [_,_,_,_]) N4 rfl rfl rfl rfl rfl rfl rfl rfl<|VO.h0<|HO.st 0 (vs := [_]) (C' := [_]) (L' := [_,_,_,_]) N186 rfl rfl rfl rfl rfl rfl rfl rfl<|VO.n<|VC.seq<|VC.q (VO.l (LO.lda (vs := [_,_,_,_,_,_,_,_,_,_,_,_]) A182 (.r rfl) (cells_blk 3 rfl ⟨_, rfl⟩) rfl) rfl<|VO.m rfl rfl<|VO.m rfl rfl<|VO.h rfl<|HO.callx (xs := [_,_,_]) (vs := [_,_,_]) C93 ⟨(.r rfl), (.r rfl), (.r rfl), trivial⟩ (fun w hw => sources_c g cl a b p t w) fun q hq => VO.n<|VC.block<|VC.rangeFunc (α := Bool × Int × Int) (fun x => [blk q.2.2 (.cells #[.int .i64 t] 3), blk q.2.1 (.cells #[.int .i64 p] 3), blk q.1 (.cells (shapeC a b g cl) 182), blk b4 (.cells #[.int .i64 x.2.1] 186), blk b3 (.cells #[.bool x.1] 4), blk b2 (.cells #[.int .i64 x.2.2] 186), blk b1 (.cells (shapeC a b g cl) 182)]) (fun n x => atI (srcs g cl p t) cl n x) (fun c n x => c = Code.ret ∧ x.2.2 = 1 ∧ stateOf g cl p t = 1) (true, 0,0) (fun vs => [(9, vs.getD 0 (.bool false)), (3, .pointer (some ⟨b1,0, none⟩)), (6, .pointer (some ⟨b2,0, none⟩)), (7, .pointer (some ⟨b3,0, none⟩)), (8, .pointer (some ⟨b4,0, none⟩))]) rfl C101 (sources_seq g cl a b q.2.1 q.1 q.2.2 p t hg hf hr1 hr2 ht1 ht2 hp1 hp2) (fun _ h => h) (atI_zero) (fun vs hv => by obtain ⟨n,_, rfl⟩ := List.mem_map.1 hv; rfl) (by decide) (fun n x w _ h => ⟨cells_inv (h 1 _ rfl), cells_inv (h 2 _ rfl), cells_inv (h 0 _ rfl)⟩) ?_ ?_ ?_ ?_)))
 ·
  intro n x vs lY T w1 hI hxs hst
  obtain ⟨v, rfl, hv⟩ := row_of hxs
  obtain ⟨xa, xm, xr⟩ := x
  refine VC.reg (VO.a rfl rfl<|VO.nil ?_)
  exact fun a w ha hw => ⟨rfl, ha.sub (.c4 rfl rfl rfl rfl (.cons rfl .nil)), hw⟩
 ·
  intro n x vs lY T w1 hI hxs hst
  obtain ⟨v, rfl, hv⟩ := row_of hxs
  obtain ⟨xa, xm, xr⟩ := x
  refine VC.block<|VC.q (VO.c 4 O4 rfl rfl ⟨_, rfl⟩ rfl<|VO.m rfl rfl<|VO.gt rfl rfl (fun hg => LO.fa (r := 5) F182_1 (.r rfl) rfl) rfl<|VO.gt rfl rfl (fun hg => LO.ld O180 (.g hg rfl) (cells_blk 6 rfl ⟨_, rfl⟩)) rfl<|VO.gt rfl rfl (fun hg => LO.mv (.r rfl)) rfl<|VO.gt rfl rfl (fun hg => LO.lk M180 (.g hg rfl) (.g hg rfl) (fun _ hw => set_keep hsa hst hw)) rfl<|VO.l (LO.pkA (.r rfl) rfl rfl (.r rfl)) rfl<|VO.h0<|HO.st 4 (vs := [_]) (C' := [_]) N4 rfl rfl rfl rfl rfl rfl rfl rfl<|VO.n<|VC.seq<|VC.q (VO.f (r := 6) F182_2 rfl rfl rfl<|VO.c 6 O180 rfl rfl ⟨_, rfl⟩ rfl<|VO.m rfl rfl<|VO.l (LO.lk M180 (.r rfl) (.r rfl) (fun _ hw => set_keep hsb hst hw)) rfl<|VO.n<|VC.cond rfl (fun h5 => ?_) (fun h5 => ?_)))
  ·
   refine VC.reg (VO.h0<|HO.st 3 (vs := [_]) (C' := [_]) N186 rfl rfl rfl rfl rfl rfl rfl rfl<|VO.n<|VC.q (VO.c 4 O4 rfl rfl ⟨_, rfl⟩ rfl<|VO.l (LO.not (.r rfl)) rfl<|VO.m rfl rfl<|VO.gt rfl rfl (fun hg => LO.ld O186 (.r rfl) (cells_blk 3 rfl ⟨_, rfl⟩)) rfl<|VO.gt rfl rfl (fun hg => LO.eq (.g hg rfl) (.r rfl)) rfl<|VO.l (LO.pkA (.r rfl) rfl rfl (.r rfl)) rfl<|VO.n<|VC.cond rfl (fun h6 => ?_) (fun h6 => ?_)))
   ·
    refine VC.q (VO.h0<|HO.st 5 (vs := [_]) (C' := [_]) N186 rfl rfl rfl rfl rfl rfl rfl rfl<|VO.n<|VC.ret (VE.inR ?_))
    first
    | exact fun a w ha hw => ⟨(xa && memB cl.sure v, 1,1), ⟨rfl, rfl, st_stop (atI_step1 hI hv h5) ⟨by simpa using h6.1, h6.2⟩⟩, hw⟩
    | exact fun a w ha hw => ⟨(xa && memB cl.sure v, xm, 1), ⟨rfl, rfl, st_stop (atI_step0 hI hv h5) ⟨by simpa using h6.1, h6.2⟩⟩, hw⟩
   ·
    refine VC.skip (VE.inN ?_)
    first
    | exact fun a w ha hw => ⟨(xa && memB cl.sure v, 1, xr), atI_step1 hI hv h5, hw⟩
    | exact fun a w ha hw => ⟨(xa && memB cl.sure v, xm, xr), atI_step0 hI hv h5, hw⟩
  ·
   refine VC.skip (VE.seqN<|VC.q (VO.c 4 O4 rfl rfl ⟨_, rfl⟩ rfl<|VO.l (LO.not (.r rfl)) rfl<|VO.m rfl rfl<|VO.gt rfl rfl (fun hg => LO.ld O186 (.r rfl) (cells_blk 3 rfl ⟨_, rfl⟩)) rfl<|VO.gt rfl rfl (fun hg => LO.eq (.g hg rfl) (.r rfl)) rfl<|VO.l (LO.pkA (.r rfl) rfl rfl (.r rfl)) rfl<|VO.n<|VC.cond rfl (fun h6 => ?_) (fun h6 => ?_)))
   ·
    refine VC.q (VO.h0<|HO.st 5 (vs := [_]) (C' := [_]) N186 rfl rfl rfl rfl rfl rfl rfl rfl<|VO.n<|VC.ret (VE.inR ?_))
    first
    | exact fun a w ha hw => ⟨(xa && memB cl.sure v, 1,1), ⟨rfl, rfl, st_stop (atI_step1 hI hv h5) ⟨by simpa using h6.1, h6.2⟩⟩, hw⟩
    | exact fun a w ha hw => ⟨(xa && memB cl.sure v, xm, 1), ⟨rfl, rfl, st_stop (atI_step0 hI hv h5) ⟨by simpa using h6.1, h6.2⟩⟩, hw⟩
   ·
    refine VC.skip (VE.inN ?_)
    first
    | exact fun a w ha hw => ⟨(xa && memB cl.sure v, 1, xr), atI_step1 hI hv h5, hw⟩
    | exact fun a w ha hw => ⟨(xa && memB cl.sure v, xm, xr), atI_step0 hI hv h5, hw⟩
 ·
  intro D x hI
  obtain ⟨xa, xm, xr⟩ := x
  have hE := atI_full hI
  refine VE.inN (VE.seqN<|VC.seq<|VC.q (VO.c 4 O4 rfl rfl ⟨_, rfl⟩ rfl<|VO.n<|VC.cond rfl (fun h9 => ?_) (fun h9 => ?_)))
  ·
   refine VC.q (VO.h0<|HO.st 5 (vs := [_]) (C' := [_]) N186 rfl rfl rfl rfl rfl rfl rfl rfl<|VO.n<|VC.ret (VE.thenR (VE.resD 7 (vs := [_]) rfl rfl rfl ⟨RV.one O186 rfl (cells_blk 5 rfl ⟨_, rfl⟩), trivial⟩ (fun w hw => ?_))))
   refine ⟨?_, hw.nil⟩
   simp only [resV]
   congr 2
   first | exact hs.symm | exact st_t hE h9 | exact st_f hE h9
  ·
   refine VC.skip (VE.seqN<|VC.q (VO.c 3 O186 rfl rfl ⟨_, rfl⟩ rfl<|VO.h0<|HO.st 5 (vs := [_]) (C' := [_]) N186 rfl rfl rfl rfl rfl rfl rfl rfl<|VO.n<|VC.ret (VE.resD 7 (vs := [_]) rfl rfl rfl ⟨RV.one O186 rfl (cells_blk 5 rfl ⟨_, rfl⟩), trivial⟩ (fun w hw => ?_))))
   refine ⟨?_, hw.nil⟩
   simp only [resV]
   congr 2
   first | exact hs.symm | exact st_t hE h9 | exact st_f hE h9
 ·
  intro D c n x hn hI
  obtain ⟨xa, xm, xr⟩ := x
  obtain ⟨hc, hr, hs⟩ := hI
  subst hc
  have hr : xr = 1 := hr
  subst hr
  refine VC.ret (VE.inR (VE.thenR (VE.resD 7 (vs := [_]) rfl rfl rfl ⟨RV.one O186 rfl (cells_blk 5 rfl ⟨_, rfl⟩), trivial⟩ (fun w hw => ?_))))
  refine ⟨?_, hw.nil⟩
  simp only [resV]
  congr 2
  first | exact hs.symm | exact st_t hE h9 | exact st_f hE h9
def setsR (qs : List (Nat × Nat)) (l : List Cloud) : Res where
  fp := fun k => ∃ q, q ∈ qs ∧ (k = q.1 ∨ k = q.2)
  inv := fun w => ∀ (i : Nat) (q : Nat × Nat) (c : Cloud), qs[i]? = some q → l[i]? = some c → (setR q.1 (memB c.sure)).inv w ∧ (setR q.2 (memB c.may)).inv w
  loc := fun {w w'} h hi i q c hq hc => ⟨(setR q.1 _).loc (fun k hk => h k ⟨q, List.mem_of_getElem? hq, .inl hk⟩) (hi i q c hq hc).1, (setR q.2 _).loc (fun k hk => h k ⟨q, List.mem_of_getElem? hq, .inr hk⟩) (hi i q c hq hc).2⟩
theorem St.merge3 {β : Bs} {L : List Res} {w : World} {r s u t : Res} (h : St β (r :: s :: u :: L) w) (hfp : ∀ k, t.fp k → r.fp k ∨ s.fp k ∨ u.fp k) (hinv : r.inv w → s.inv w → u.inv w → t.inv w) : St β (t :: L) w := by
  refine ⟨h.os, h.tape, h.output, h.size, h.fr, ?_, ?_, ?_⟩
  · intro i x hx
    cases i with
    | zero => simp at hx; subst hx; exact hinv (h.inv 0 _ rfl) (h.inv 1 _ rfl) (h.inv 2 _ rfl)
    | succ i => exact h.inv (i + 3) x (by simpa using hx)
  · intro i x hx k hk
    cases i with
    | zero =>
      simp at hx; subst hx
      rcases hfp k hk with q | q | q
      · exact h.rng 0 _ rfl k q
      · exact h.rng 1 _ rfl k q
      · exact h.rng 2 _ rfl k q
    | succ i => exact h.rng (i + 3) x (by simpa using hx) k hk
  · intro i j x y hij hx hy k hk
    cases i with
    | zero =>
      simp at hx; subst hx
      cases j with
      | zero => exact absurd rfl hij
      | succ j =>
        have hy' : (r :: s :: u :: L)[j + 3]? = some y := by simpa using hy
        rcases hfp k hk with q | q | q
        · exact h.dis 0 (j + 3) _ _ (by omega) rfl hy' k q
        · exact h.dis 1 (j + 3) _ _ (by omega) rfl hy' k q
        · exact h.dis 2 (j + 3) _ _ (by omega) rfl hy' k q
    | succ i =>
      have hx' : (r :: s :: u :: L)[i + 3]? = some x := by simpa using hx
      cases j with
      | zero =>
        simp at hy; subst hy
        intro hk2
        rcases hfp k hk2 with q | q | q
        · exact h.dis 0 (i + 3) _ _ (by omega) rfl hx' k q hk
        · exact h.dis 1 (i + 3) _ _ (by omega) rfl hx' k q hk
        · exact h.dis 2 (i + 3) _ _ (by omega) rfl hx' k q hk
      | succ j => exact h.dis (i + 3) (j + 3) x y (by omega) hx' (by simpa using hy) k hk
theorem sets_add {β : Bs} {L : List Res} {w : World} {qs : List (Nat × Nat)} {l : List Cloud} {a b : Nat} {c : Cloud} (hl : qs.length = l.length) (h : St β (setR b (memB c.may) :: setR a (memB c.sure) :: setsR qs l :: L) w) : St β (setsR (qs ++ [(a, b)]) (l ++ [c]) :: L) w := by
  refine St.merge3 h ?_ ?_
  · rintro k ⟨q, hq, hk⟩
    rcases List.mem_append.1 hq with hq | hq
    · exact .inr (.inr ⟨q, hq, hk⟩)
    · simp at hq; subst hq
      rcases hk with hk | hk
      · exact .inr (.inl hk)
      · exact .inl hk
  · intro hb ha hs i q d hq hd
    rcases Nat.lt_or_ge i qs.length with g | g
    · rw [List.getElem?_append_left g] at hq
      rw [List.getElem?_append_left (by omega)] at hd
      exact hs i q d hq hd
    · rw [List.getElem?_append_right g] at hq
      rw [List.getElem?_append_right (by omega), ← hl] at hd
      cases e : i - qs.length with
      | zero => rw [e] at hq hd; simp at hq hd; subst hq; subst hd; exact ⟨ha, hb⟩
      | succ n => rw [e] at hq; simp at hq
theorem or_c (m n : Int) (w : World) :
 Calls Tryz.prog 81 #[.int .i64 m, .int .i64 n] w fun e w' => e = .returned (.int .i64 (max m n)) ∧ St (bs w) [] w' := by
 refine enter (vs := [_,_]) (env := [(0,_), (1,_)]) Tryz.func81 rfl rfl rfl rfl ?_
 refine VC.q (VO.a rfl rfl<|VO.n<|VC.q (VO.m rfl rfl<|VO.m rfl rfl<|VO.l (LO.max (.r rfl) (.r rfl)) rfl<|VO.a rfl rfl<|VO.n<|VC.ret (VE.s rfl rfl (fun w hw => ?_))))
 exact ⟨rfl, hw.nil⟩
theorem number_c (m : Int) (w : World) :
 Calls Tryz.prog 83 #[.int .i64 m] w fun e w' => e = .returned (.int .i64 m) ∧ St (bs w) [] w' := by
 refine enter (vs := [_]) (env := [(0,_)]) Tryz.func83 rfl rfl rfl rfl ?_
 refine VC.q (VO.a rfl rfl<|VO.n<|VC.q (VO.m rfl rfl<|VO.a rfl rfl<|VO.n<|VC.ret (VE.s rfl rfl (fun w hw => ?_))))
 exact ⟨rfl, hw.nil⟩
theorem S45 : IsSlice Tryz.prog 45 81 := Tryz.underlying45
theorem N81 : (Tryz.prog.info? 81).map (·.size) = some 7 := by kernel_rfl
theorem A81 : IsAgg Tryz.prog 81 7 := ⟨⟨_, Tryz.underlying81, rfl⟩, by kernel_rfl⟩
theorem Z81 : ZeroOf Tryz.prog 81 (.agg #[.slice none 0 0, .slice none 0 0, .int .i64 0, .int .i64 0, .int .i64 0, .int .i64 0, .int .i64 0]) := by unfold ZeroOf; kernel_rfl
theorem C78 : IsFn Tryz.prog 78 := ⟨_, Tryz.func78, by decide, rfl⟩
theorem C79 : IsFn Tryz.prog 79 := ⟨_, Tryz.func79, by decide, rfl⟩
theorem S178 : IsSlice Tryz.prog 178 182 := Tryz.underlying178
theorem I182 : EInfo Tryz.prog 182 12 96 (.agg #[.int .i64 0, .int .i64 0, .int .i64 0, .int .i64 0, .int .i64 0, .map none, .map none, .int .i64 0, .int .i64 0, .int .i64 0, .int .i64 0, .int .i64 0]) := ⟨by kernel_rfl, by kernel_rfl, by unfold ZeroOf; kernel_rfl, rfl, by decide⟩
theorem C82 : IsFn Tryz.prog 82 := ⟨_, Tryz.func82, by decide, rfl⟩
theorem C81 : IsFn Tryz.prog 81 := ⟨_, Tryz.func81, by decide, rfl⟩
theorem C83 : IsFn Tryz.prog 83 := ⟨_, Tryz.func83, by decide, rfl⟩
theorem Z3 : ZeroOf Tryz.prog 3 (.int .i64 0) := by unfold ZeroOf; kernel_rfl
theorem I3 : EInfo Tryz.prog 3 1 8 (.int .i64 0) := ⟨by kernel_rfl, by kernel_rfl, by unfold ZeroOf; kernel_rfl, rfl, by decide⟩
structure CP where
  c : Cloud
  ps : Option Addr
  cs : Nat
  pm : Option Addr
  cm : Nat
def CP.cells (x : CP) : List Value := [.slice x.ps x.c.sure.length x.cs, .slice x.pm x.c.may.length x.cm, .int .i64 x.c.flow.a, .int .i64 x.c.flow.b, .int .i64 x.c.flow.c, .int .i64 x.c.flow.d, .int .i64 x.c.grow]
structure Clouds (w : World) (p : Option Addr) (l : List CP) : Prop where
  rows : Go.SL.Rows w 7 p (l.map CP.cells)
  ok : ∀ x, x ∈ l → Ints w x.ps x.c.sure ∧ Ints w x.pm x.c.may ∧ x.c.sure.length < 1000000000000 ∧ x.c.may.length < 1000000000000
theorem Clouds.sl {w : World} {p : Option Addr} {l : List CP} (h : Clouds w p l) : SlSome p l.length := Go.SL.Rows.some h.rows (by simp)
theorem Clouds.at {w0 : World} {p : Option Addr} {l : List CP} (h : Clouds w0 p l) {L : List Res} {j : Nat} {x : CP} (hx : l[j]? = some x) : ∀ w, St (bs w0) L w → Cells w ⟨pb p, po p + j * 7, none⟩ x.cells :=
  fun w hw => (h.rows.keep w hw).cells j _ (by rw [List.getElem?_map, hx]; rfl)
instance : Inhabited Cloud := ⟨⟨[], [], ⟨0,0,0,0⟩, 0⟩⟩
def stateAll (g : Grid) (l : List Cloud) (t p : Int) : Int := l.foldl (fun m c => max m (stateOf g c p t)) 0
def atE (g : Grid) (l : List Cloud) (t : Int) : Int := if ¬ gridOk g then 3 else if 64 < l.length then 9 else if firstE (fun k => cloudE g (l.getD k default)) l.length ≠ 0 then firstE (fun k => cloudE g (l.getD k default)) l.length else if ¬ (0 ≤ t ∧ t ≤ 7200) then 3 else 0
def atL (g : Grid) (l : List Cloud) (t : Int) : List Int := if atE g l t ≠ 0 then [] else (List.range (g.wide * g.high).toNat).map fun p : Nat => stateAll g l t p
def shRows (g : Grid) (qs : List (Nat × Nat)) (l : List Cloud) : List (List Value) := List.zipWith (fun q c => (shapeC q.1 q.2 g c).toList) qs l
theorem take_c {l : List CP} {j : Nat} {x : CP} (hx : l[j]? = some x) : (l.map CP.c).take (j + 1) = (l.map CP.c).take j ++ [x.c] := by
  rw [List.take_add_one, List.getElem?_map, hx]; rfl
theorem shRows_add {g : Grid} {qs : List (Nat × Nat)} {l : List Cloud} {q : Nat × Nat} {c : Cloud} (h : qs.length = l.length) : shRows g (qs ++ [q]) (l ++ [c]) = shRows g qs l ++ [(shapeC q.1 q.2 g c).toList] := by
  unfold shRows; rw [List.zipWith_append h]; rfl
theorem getD_c {l : List CP} {j : Nat} {x : CP} (hx : l[j]? = some x) : (l.map CP.c).getD j default = x.c := by
  rw [List.getD_eq_getElem?_getD, List.getElem?_map, hx]; rfl
section
variable {g : Grid} {l : List CP} {t : Int}
theorem aE1 (h : ¬ gridE g = 0) : gridE g = atE g (l.map CP.c) t := by
  unfold atE
  by_cases q : gridOk g
  · exact absurd (if_pos q) h
  · rw [if_pos q]; exact if_neg q
theorem aE2 (hg : gridOk g) (h : (64 : Int) < (l.length : Int)) : 9 = atE g (l.map CP.c) t := by
  unfold atE
  rw [if_neg (by simpa using hg), if_pos (by simp; omega)]
theorem aE3 (hg : gridOk g) (h : ¬ (64 : Int) < (l.length : Int)) {j : Nat} {x : CP} (hz : ∀ k, k < j → cloudE g ((l.map CP.c).getD k default) = 0) (hx : l[j]? = some x) (h4 : ¬ cloudE g x.c = 0) : cloudE g x.c = atE g (l.map CP.c) t := by
  have hj : j < l.length := (List.getElem?_eq_some_iff.1 hx).1
  have e : firstE (fun k => cloudE g ((l.map CP.c).getD k default)) (l.map CP.c).length = cloudE g x.c := by
    rw [firstE_at (i := j) hz (by rw [getD_c hx]; exact h4) (by simpa using hj), getD_c hx]
  unfold atE
  rw [if_neg (by simpa using hg), if_neg (by simp; omega), e, if_pos h4]
theorem aE4 (hg : gridOk g) (h : ¬ (64 : Int) < (l.length : Int)) (hz : firstE (fun k => cloudE g ((l.map CP.c).getD k default)) (l.map CP.c).length = 0) (h5 : ¬ (0 ≤ t ∧ t ≤ 7200)) : 3 = atE g (l.map CP.c) t := by
  unfold atE
  rw [if_neg (by simpa using hg), if_neg (by simp; omega), if_neg (fun q => q hz), if_pos h5]
theorem aE5 (hg : gridOk g) (h : ¬ (64 : Int) < (l.length : Int)) (hz : firstE (fun k => cloudE g ((l.map CP.c).getD k default)) (l.map CP.c).length = 0) (h5 : 0 ≤ t ∧ t ≤ 7200) : atE g (l.map CP.c) t = 0 := by
  unfold atE
  rw [if_neg (by simpa using hg), if_neg (by simp; omega), if_neg (fun q => q hz), if_neg (by simpa using h5)]
theorem at_err {w w' : World} {L : List Res} {e : Int} (he : e = atE g (l.map CP.c) t) (h0 : ¬ e = 0) (hw : St (bs w) L w') :
    ∃ x : Option Addr × Nat, True ∧ Ending.returned (.tuple #[.slice none 0 0, .int .i64 e]) = .returned (.tuple #[.slice x.1 (atL g (l.map CP.c) t).length x.2, .int .i64 (atE g (l.map CP.c) t)]) ∧ St (bs w) [own 3 1 x.1 x.2 ((atL g (l.map CP.c) t).map fun n => [.int .i64 n])] w' := by
  have hn : atL g (l.map CP.c) t = [] := if_pos (by rw [← he]; exact h0)
  refine ⟨(none, 0), trivial, ?_, ?_⟩
  · rw [hn, ← he]; rfl
  · rw [hn]; exact hw.nil.ownNil 3 1
theorem at_ok {w w' : World} {k cr : Nat} {pr : Option Addr} (he : atE g (l.map CP.c) t = 0) (hk : k = (g.wide * g.high).toNat) (hw : St (bs w) [own 3 1 pr cr ((List.range k).map fun p : Nat => [.int .i64 (stateAll g (l.map CP.c) t p)])] w') :
    ∃ x : Option Addr × Nat, True ∧ Ending.returned (.tuple #[.slice pr k cr, .int .i64 0]) = .returned (.tuple #[.slice x.1 (atL g (l.map CP.c) t).length x.2, .int .i64 (atE g (l.map CP.c) t)]) ∧ St (bs w) [own 3 1 x.1 x.2 ((atL g (l.map CP.c) t).map fun n => [.int .i64 n])] w' := by
  have hn : atL g (l.map CP.c) t = (List.range (g.wide * g.high).toNat).map fun p : Nat => stateAll g (l.map CP.c) t p := if_neg (by simp [he])
  refine ⟨(pr, cr), trivial, ?_, ?_⟩
  · rw [hn, he, hk]; simp
  · rw [hn, List.map_map, ← hk]; exact hw
end
theorem sets_at {w : World} {qs : List (Nat × Nat)} {l : List Cloud} {i : Nat} {q : Nat × Nat} {c : Cloud} (h : (setsR qs l).inv w) (hq : qs[i]? = some q) (hc : l[i]? = some c) : (setR q.1 (memB c.sure)).inv w ∧ (setR q.2 (memB c.may)).inv w := h i q c hq hc
theorem VC.pure {φ : Prop} {P : Program} {ro : Option Nat} {β : Bs} {N : Nat} {ds : List Deferred} {env : Env} {L : List Res} {c : Code} {Q : Exit → Act → World → Prop} (h : ∀ w, St β L w → φ) (k : φ → VC P ro β N ds env L c Q) : VC P ro β N ds env L c Q := fun a w ha hw => k (h w hw) a w ha hw
theorem cloudE_ok {g : Grid} {c : Cloud} (h : cloudE g c = 0) : flowOk c.flow ∧ 0 ≤ c.grow ∧ c.grow ≤ 10000 := by
  unfold cloudE at h
  split at h
  · omega
  · split at h
    · omega
    · rename_i q
      split at h
      · omega
      · rename_i r
        have := Classical.not_not.1 r
        exact ⟨Classical.not_not.1 q, this.1, this.2⟩
theorem setsNil {β : Bs} {L : List Res} {w : World} (h : St β L w) : St β (setsR [] [] :: L) w := by
  refine ⟨h.os, h.tape, h.output, h.size, h.fr, ?_, ?_, ?_⟩
  · intro i x hx
    cases i with
    | zero => simp at hx; subst hx; intro i q c hq; simp at hq
    | succ i => exact h.inv i x (by simpa using hx)
  · intro i x hx k hk
    cases i with
    | zero => simp at hx; subst hx; obtain ⟨q, hq,_⟩ := hk; simp at hq
    | succ i => exact h.rng i x (by simpa using hx) k hk
  · intro i j x y hij hx hy k hk
    cases i with
    | zero => simp at hx; subst hx; obtain ⟨q, hq,_⟩ := hk; simp at hq
    | succ i => cases j with
      | zero => simp at hy; subst hy; rintro ⟨q, hq,_⟩; simp at hq
      | succ j => exact h.dis i j x y (by omega) (by simpa using hx) (by simpa using hy) k hk
theorem At_c (g : Grid) (l : List CP) (pl : Option Addr) (cl : Nat) (lead : Int) (w : World) (hll : l.length < 1000000000000) (hl : Clouds w pl l) :
 Calls Tryz.prog 63 #[gridV g, .slice pl l.length cl, .int .i64 lead] w fun e w' => ∃ x : Option Addr × Nat, True ∧ e = .returned (.tuple #[.slice x.1 (atL g (l.map CP.c) lead).length x.2, .int .i64 (atE g (l.map CP.c) lead)]) ∧ St (bs w) [own 3 1 x.1 x.2 ((atL g (l.map CP.c) lead).map fun n => [.int .i64 n])] w' := by
 refine enter (vs := [_,_,_]) (env := [(0,_), (1,_), (2,_)]) Tryz.func63 rfl rfl rfl rfl ?_
 refine VC.q (VO.h rfl<|HO.box (C := #[_,_,_,_,_]) rfl rfl fun b1 => VO.a rfl rfl<|VO.a rfl rfl<|VO.n<|VC.seq<|VC.q (VO.l (LO.lda (vs := [_,_,_,_,_]) A23 (.r rfl) (cells_blk 0 rfl ⟨_, rfl⟩) rfl) rfl<|VO.l (LO.call (xs := [_]) (vs := [_]) C55 ⟨(.r rfl), trivial⟩ (fun w _ => checkGrid_c g w)) rfl<|VO.a rfl rfl<|VO.n<|VC.q (VO.m rfl rfl<|VO.u rfl rfl rfl<|VO.n<|VC.cond rfl (fun h1 => ?_) (fun h1 => ?_))))
 ·
  refine VC.q (VO.m rfl rfl<|VO.a rfl rfl<|VO.a rfl rfl<|VO.n<|VC.ret (VE.thenR (VE.res (vs := [_,_]) rfl ⟨rfl, rfl, trivial⟩ (fun w hw => ?_))))
  first | exact at_err (aE1 h1) h1 hw | exact at_err (aE2 hgo h2) (by decide) hw | exact at_err (aE3 hgo h2 hz hx h4) h4 hw | exact at_err (aE4 hgo h2 hA0 h5) (by decide) hw | exact at_ok (aE5 hgo h2 hA0 h5) (by omega) (hw.sel [0] rfl)
 ·
  have hgo : gridOk g := gridOk_of h1
  have har := area_bd hgo
  refine VC.skip (VE.seqN<|VC.seq<|VC.q (VO.m rfl rfl<|VO.l (LO.len S45 (.r rfl) rfl) rfl<|VO.l (LO.gt (.r rfl) (.r rfl)) rfl<|VO.n<|VC.cond rfl (fun h2 => ?_) (fun h2 => ?_)))
  ·
   refine VC.q (VO.a rfl rfl<|VO.a rfl rfl<|VO.n<|VC.ret (VE.thenR (VE.res (vs := [_,_]) rfl ⟨rfl, rfl, trivial⟩ (fun w hw => ?_))))
   first | exact at_err (aE1 h1) h1 hw | exact at_err (aE2 hgo h2) (by decide) hw | exact at_err (aE3 hgo h2 hz hx h4) h4 hw | exact at_err (aE4 hgo h2 hA0 h5) (by decide) hw | exact at_ok (aE5 hgo h2 hA0 h5) (by omega) (hw.sel [0] rfl)
  ·
   refine VC.skip (VE.seqN<|VC.q (VO.a rfl rfl<|VO.n<|VC.seq<|VC.q (VO.m rfl rfl<|VO.l (LO.len S45 (.r rfl) rfl) rfl<|VO.m rfl rfl<|VO.n<|VC.block<|VC.loopK (α := Nat × List (Nat × Nat) × Option Addr × Nat) 0 (fun x => [(9, .slice x.2.2.1 x.1 x.2.2.2), (29, .int .i64 (x.1 : Nat))]) [(2,_), (3,_), (27,_), (28,_)] (fun x => [setsR x.2.1 ((l.map CP.c).take x.1), own 182 12 x.2.2.1 x.2.2.2 (shRows g x.2.1 ((l.map CP.c).take x.1))]) (fun x => x.1 ≤ l.length ∧ x.2.1.length = x.1 ∧ ∀ k, k < x.1 → cloudE g ((l.map CP.c).getD k default) = 0) (fun x => l.length - x.1) (0, [], none, 0) (by exact ⟨by omega, rfl, fun k hk => by omega⟩) (.c4 rfl rfl rfl rfl (.cons rfl (.cons rfl .nil))) (fun w h => setsNil (h.ownNil 182 12)) ?_)))
   rintro ⟨j, qs, po, co⟩ ⟨hj, hqs, hz⟩
   show VC _ _ _ _ _ ([(9, .slice po j co), (29, .int .i64 (j : Nat))] ++ _) ([setsR qs ((l.map CP.c).take j), own 182 12 po co (shRows g qs ((l.map CP.c).take j))] ++ _) _ _
   have hqs : qs.length = j := hqs
   have hj : j ≤ l.length := hj
   refine VC.q (VO.t rfl rfl rfl<|VO.n<|VC.seq<|VC.cond rfl (fun h3 => ?_) (fun h3 => ?_))
   ·
    obtain ⟨x, hx⟩ : ∃ x, l[j]? = some x := ⟨_, List.getElem?_eq_getElem (by omega)⟩
    have hxo := hl.ok x (List.mem_of_getElem? hx)
    refine VC.skip (VE.seqN<|VC.seq<|VC.block<|VC.q (VO.l (LO.ixs S45 N81 hl.sl (.r rfl) (.r rfl) rfl (by omega)) rfl<|VO.l (LO.lda (vs := [_,_,_,_,_,_,_]) A81 (.r rfl) (hl.at hx) rfl) rfl<|VO.h rfl<|HO.alloc (C := #[_,_,_,_,_,_,_]) Z81 rfl fun b4 => VO.h0<|HO.st 0 (vs := [_,_,_,_,_,_,_]) (C' := [_,_,_,_,_,_,_]) (L' := [_,_,_,_]) N81 rfl rfl rfl rfl rfl rfl rfl rfl<|VO.n<|VC.seq<|VC.q (VO.l (LO.lda (vs := [_,_,_,_,_]) A23 (.r rfl) (cells_blk 3 rfl ⟨_, rfl⟩) rfl) rfl<|VO.l (LO.lda (vs := [_,_,_,_,_,_,_]) A81 (.r rfl) (cells_blk 0 rfl ⟨_, rfl⟩) rfl) rfl<|VO.l (LO.call (xs := [_,_]) (vs := [_,_]) C78 ⟨(.r rfl), (.r rfl), trivial⟩ (fun w hw => checkCloud_c g x.c x.ps x.pm x.cs x.cm w hxo.2.2.1 hxo.2.2.2 (hxo.1.keep w hw) (hxo.2.1.keep w hw))) rfl<|VO.a rfl rfl<|VO.n<|VC.q (VO.m rfl rfl<|VO.u rfl rfl rfl<|VO.n ?_))))
    refine VC.cond rfl (fun h4 => ?_) (fun h4 => ?_)
    ·
     refine VC.q (VO.m rfl rfl<|VO.a rfl rfl<|VO.a rfl rfl<|VO.n<|VC.ret (VE.thenR (VE.inR (VE.thenR (VE.thenR (VE.inR (VE.thenR (VE.res (vs := [_,_]) rfl ⟨rfl, rfl, trivial⟩ (fun w hw => ?_)))))))))
     first | exact at_err (aE1 h1) h1 hw | exact at_err (aE2 hgo h2) (by decide) hw | exact at_err (aE3 hgo h2 hz hx h4) h4 hw | exact at_err (aE4 hgo h2 hA0 h5) (by decide) hw | exact at_ok (aE5 hgo h2 hA0 h5) (by omega) (hw.sel [0] rfl)
    ·
     refine VC.skip (VE.seqN<|VC.reg (VO.m rfl rfl<|VO.l (LO.lda (vs := [_,_,_,_,_]) A23 (.r rfl) (cells_blk 3 rfl ⟨_, rfl⟩) rfl) rfl<|VO.l (LO.lda (vs := [_,_,_,_,_,_,_]) A81 (.r rfl) (cells_blk 0 rfl ⟨_, rfl⟩) rfl) rfl<|VO.h rfl<|HO.callx (xs := [_,_]) (vs := [_,_]) C79 ⟨(.r rfl), (.r rfl), trivial⟩ (fun w hw => shaped_c g x.c x.ps x.pm x.cs x.cm w hxo.2.2.1 hxo.2.2.2 (hxo.1.keep w hw) (hxo.2.1.keep w hw)) fun q hq => VO.h rfl<|HO.bs (ps := [(_,_)]) (vs := [(_,_)]) (Z := [_,_,_,_,_,_,_,_,_,_,_,_]) (C := [_,_,_,_,_,_,_,_,_,_,_,_]) S178 Z182 N182 ⟨(.r rfl), trivial⟩ rfl rfl rfl rfl ⟨_, [_,_,_,_,_,_,_,_,_,_,_,_], [_,_,_,_,_,_,_,_,_,_,_,_], rfl, rfl, rfl, rfl, rfl⟩ fun b8 => VO.h rfl<|HO.app1 5 0 (fun R => [_,_,_,_,_, R,_]) S178 S178 I182 (.r rfl) (.r rfl) rfl rfl rfl rfl rfl rfl rfl (fun _ => rfl) (by unfold shRows; simp; omega) (by omega) fun p5 c5 => VO.h rfl<|HO.lo (LO.as (.r rfl))<|VO.nil<|VE.inN (VE.seqN<|VC.reg (VO.p rfl rfl (by omega) (by omega) rfl<|VO.m rfl rfl<|VO.nil<|VE.thenN fun a w ha hw => ⟨(j + 1, qs ++ [q],_,_), ⟨by show j + 1 ≤ l.length; omega, by simp [hqs], step_zero hz (by rw [getD_c hx]; simpa using h4)⟩, (by show l.length - (j + 1) < l.length - j; omega), ha.sub (.c4 rfl rfl rfl rfl (.cons rfl (.cons rfl .nil))), by rw [take_c hx, shRows_add (by simp; omega)]; exact sets_add (by simp; omega) (hw.sel [1,2,4,5,6] rfl)⟩))))
   ·
    refine VC.exit (VE.thenX (VE.thenX (VE.inX (VE.seqN<|VC.seq<|VC.seq ?_))))
    have hA0 : firstE (fun k => cloudE g ((l.map CP.c).getD k default)) (l.map CP.c).length = 0 := firstE_zero (fun k hk => hz k (by simp at hk; omega))
    refine VC.reg (VO.m rfl rfl<|VO.l (LO.call (xs := [_,_,_]) (vs := [_,_,_]) C80 ⟨(.r rfl), (.r rfl), (.r rfl), trivial⟩ (fun w _ => within_c _ _ _ w)) rfl<|VO.l (LO.not (.r rfl)) rfl<|VO.n<|VC.cond rfl (fun h5 => ?_) (fun h5 => ?_))
    ·
     refine VC.q (VO.a rfl rfl<|VO.a rfl rfl<|VO.n<|VC.ret (VE.thenR (VE.res (vs := [_,_]) rfl ⟨rfl, rfl, trivial⟩ (fun w hw => ?_))))
     first | exact at_err (aE1 h1) h1 hw | exact at_err (aE2 hgo h2) (by decide) hw | exact at_err (aE3 hgo h2 hz hx h4) h4 hw | exact at_err (aE4 hgo h2 hA0 h5) (by decide) hw | exact at_ok (aE5 hgo h2 hA0 h5) (by omega) (hw.sel [0] rfl)
    ·
     have h5 : 0 ≤ lead ∧ lead ≤ 7200 := by simpa using h5
     refine VC.skip (VE.seqN<|VC.q (VO.a rfl rfl<|VO.n<|VC.q (VO.a rfl rfl<|VO.n<|VC.seq<|VC.q (VO.f (r := 3) F23_3 rfl rfl rfl<|VO.c 2 O3 rfl rfl ⟨_, rfl⟩ rfl<|VO.f (r := 4) F23_4 rfl rfl rfl<|VO.c 2 O3 rfl rfl ⟨_, rfl⟩ rfl<|VO.l (LO.mul (.r rfl) (.r rfl) (wi (by omega) (by omega))) rfl<|VO.m rfl rfl<|VO.n<|VC.block ?_))))
     have hjl : j = l.length := by omega
     have htk : (l.map CP.c).take j = l.map CP.c := List.take_of_length_le (by simp; omega)
     refine VC.pure (φ := SlSome po j) (fun w hw => (own_rows hw 1 rfl).some (by unfold shRows; simp; omega)) fun hso => VC.loopK (α := Nat × Option Addr × Nat) 0 (fun x => [(14, .slice x.2.1 x.1 x.2.2), (54, .int .i64 (x.1 : Nat))]) [(2,_), (3,_), (9,_), (13,_), (53,_)] (fun x => [own 3 1 x.2.1 x.2.2 ((List.range x.1).map fun p : Nat => [.int .i64 (stateAll g (l.map CP.c) lead p)])]) (fun x => x.1 ≤ (g.wide * g.high).toNat) (fun x => (g.wide * g.high).toNat - x.1) (0, none, 0) (by exact Nat.zero_le _) (.c4 rfl rfl rfl rfl (.cons rfl (.cons rfl (.cons rfl .nil)))) (fun w h => h.ownNil 3 1) ?_
     rintro ⟨k, pr, cr⟩ hk
     show VC _ _ _ _ _ ([(14, .slice pr k cr), (54, .int .i64 (k : Nat))] ++ _) ([own 3 1 pr cr ((List.range k).map fun p : Nat => [.int .i64 (stateAll g (l.map CP.c) lead p)])] ++ _) _ _
     have hk : k ≤ (g.wide * g.high).toNat := hk
     refine VC.q (VO.t rfl rfl rfl<|VO.n<|VC.seq<|VC.cond rfl (fun h6 => ?_) (fun h6 => ?_))
     ·
      refine VC.skip (VE.seqN<|VC.seq<|VC.block<|VC.q (VO.m rfl rfl<|VO.a rfl rfl<|VO.n<|VC.q (VO.a rfl rfl<|VO.n<|VC.seq<|VC.q (VO.m rfl rfl<|VO.l (LO.len S178 (.r rfl) rfl) rfl<|VO.m rfl rfl<|VO.n ?_))))
      refine VC.block<|VC.loopK (α := Nat) 0 (fun i => [(16, .int .i64 (((l.map CP.c).take i).foldl (fun m c => max m (stateOf g c (k : Nat) lead)) 0)), (59, .int .i64 (i : Nat))]) [(2,_), (3,_), (9,_), (13,_), (14,_), (15,_), (53,_), (54,_), (57,_), (58,_)] (fun i => []) (fun i => i ≤ j) (fun i => j - i) 0 (by omega) (.c4 rfl rfl rfl rfl (.c4 rfl rfl rfl rfl (.c4 rfl rfl rfl rfl .nil))) (fun _ h => h) ?_
      rintro i hi
      refine VC.q (VO.t rfl rfl rfl<|VO.n<|VC.seq<|VC.cond rfl (fun h7 => ?_) (fun h7 => ?_))
      ·
       obtain ⟨x, hx⟩ : ∃ x, l[i]? = some x := ⟨_, List.getElem?_eq_getElem (by omega)⟩
       obtain ⟨q, hq⟩ : ∃ q, qs[i]? = some q := ⟨_, List.getElem?_eq_getElem (by omega)⟩
       have hrow : (shRows g qs ((l.map CP.c).take j))[i]? = some (shapeC q.1 q.2 g x.c).toList := by unfold shRows; rw [htk, List.getElem?_zipWith, hq, List.getElem?_map, hx]; rfl
       have hxk := cloudE_ok (c := x.c) (by rw [← getD_c hx]; exact hz i (by omega))
       refine VC.skip (VE.seqN<|VC.seq<|VC.block<|VC.q (VO.l (LO.ixs S178 N182 hso (.r rfl) (.r rfl) rfl (by omega)) rfl<|VO.l (LO.lda (vs := [_,_,_,_,_,_,_,_,_,_,_,_]) A182 (.r rfl) (fun _ hw => (own_rows hw 2 rfl).cells i _ hrow) rfl) rfl<|VO.h rfl<|HO.alloc (C := #[_,_,_,_,_,_,_,_,_,_,_,_]) Z182 rfl fun b10 => VO.h0<|HO.st 0 (vs := [_,_,_,_,_,_,_,_,_,_,_,_]) (C' := [_,_,_,_,_,_,_,_,_,_,_,_]) (L' := [_,_,_,_,_]) N182 rfl rfl rfl rfl rfl rfl rfl rfl<|VO.n<|VC.reg (VO.m rfl rfl<|VO.m rfl rfl<|VO.l (LO.lda (vs := [_,_,_,_,_,_,_,_,_,_,_,_]) A182 (.r rfl) (cells_blk 0 rfl ⟨_, rfl⟩) rfl) rfl<|VO.m rfl rfl<|VO.m rfl rfl<|VO.l (LO.call (xs := [_,_,_]) (vs := [_,_,_]) C82 ⟨(.r rfl), (.r rfl), (.r rfl), trivial⟩ (fun w hw => at_c g x.c q.1 q.2 (k : Nat) lead w hgo hxk.1 hxk.2.1 hxk.2.2 h5.1 h5.2 (by omega) (by omega) (sets_at (hw.inv 2 _ rfl) hq (by rw [htk, List.getElem?_map, hx]; rfl)).1 (sets_at (hw.inv 2 _ rfl) hq (by rw [htk, List.getElem?_map, hx]; rfl)).2)) rfl<|VO.l (LO.callv (first := []) (cap := []) (xs := [_,_]) (vs := [_,_]) (.r rfl) C81 ⟨(.r rfl), (.r rfl), trivial⟩ (fun w _ => or_c _ _ w)) rfl<|VO.a rfl rfl<|VO.nil<|VE.inN (VE.seqN<|VC.reg (VO.p rfl rfl (by omega) (by omega) rfl<|VO.m rfl rfl<|VO.nil<|VE.thenN fun a w ha hw => ⟨i + 1, by omega, (by omega), ha.sub (.cons (Eq.trans (b := some (Value.int .i64 (max (((l.map CP.c).take i).foldl (fun m c => max m (stateOf g c (k : Nat) lead)) 0) (stateOf g x.c (k : Nat) lead)))) rfl (by rw [take_c hx, List.foldl_append]; rfl)) (.c4 rfl rfl rfl rfl (.c4 rfl rfl rfl rfl (.cons rfl (.cons rfl (.cons rfl .nil)))))), hw.sel [1,2,3,4] rfl⟩)))))
      ·
       have hsk : stateAll g (l.map CP.c) lead (k : Nat) = ((l.map CP.c).take i).foldl (fun m c => max m (stateOf g c (k : Nat) lead)) 0 := by rw [show i = j by omega, htk]; rfl
       refine VC.exit (VE.thenX (VE.thenX (VE.inX (VE.seqN<|VC.reg (VO.m rfl rfl<|VO.m rfl rfl<|VO.l (LO.call (xs := [_]) (vs := [_]) C83 ⟨(.r rfl), trivial⟩ (fun w _ => number_c _ w)) rfl<|VO.h rfl<|HO.bs (ps := [(_,_)]) (vs := [(_,_)]) (Z := [_]) (C := [_]) S72 Z3 N3 ⟨(.r rfl), trivial⟩ rfl rfl rfl rfl ⟨_, [_], [_], rfl, rfl, rfl, rfl, rfl⟩ fun b12 => VO.h rfl<|HO.app1 1 0 (fun R => [_, R,_,_,_]) S72 S72 I3 (.r rfl) (.r rfl) rfl rfl rfl rfl rfl rfl rfl (fun _ => rfl) (by simp) (by omega) fun p4 c4 => VO.h rfl<|HO.lo (LO.as (.r rfl))<|VO.nil<|VE.inN (VE.seqN<|VC.reg (VO.p rfl rfl (by omega) (by omega) rfl<|VO.m rfl rfl<|VO.nil<|VE.thenN fun a w ha hw => ⟨(k + 1,_,_), by show k + 1 ≤ (g.wide * g.high).toNat; omega, (by show (g.wide * g.high).toNat - (k + 1) < (g.wide * g.high).toNat - k; omega), ha.sub (.c4 rfl rfl rfl rfl (.cons rfl (.cons rfl (.cons rfl .nil)))), by show St _ ([own 3 1 _ _ ((List.range (k + 1)).map fun p : Nat => [Value.int .i64 (stateAll g (l.map CP.c) lead p)])] ++ _) w; rw [List.range_succ, List.map_append, List.map_singleton, hsk]; exact hw.sel [1,2,3,4] rfl⟩)))))))
     ·
      refine VC.exit (VE.thenX (VE.thenX (VE.inX (VE.seqN<|VC.q (VO.m rfl rfl<|VO.a rfl rfl<|VO.a rfl rfl<|VO.n<|VC.ret (VE.res (vs := [_,_]) rfl ⟨rfl, rfl, trivial⟩ (fun w hw => ?_)))))))
      first | exact at_err (aE1 h1) h1 hw | exact at_err (aE2 hgo h2) (by decide) hw | exact at_err (aE3 hgo h2 hz hx h4) h4 hw | exact at_err (aE4 hgo h2 hA0 h5) (by decide) hw | exact at_ok (aE5 hgo h2 hA0 h5) (by omega) (hw.sel [0] rfl)
def gG : Grid := ⟨0,0,1000,6,3⟩
def cC : Cloud := ⟨[7,8], [6,7,8], ⟨1000,1000,0,0⟩, 0⟩
def fitOk (x1 x2 y1 y2 sec slack : Int) : Prop := (-64 ≤ x1 ∧ x1 ≤ x2 ∧ x2 ≤ 64) ∧ (-64 ≤ y1 ∧ y1 ≤ y2 ∧ y2 ≤ 64) ∧ (1 ≤ sec ∧ sec ≤ 86400) ∧ (0 ≤ slack ∧ slack ≤ 2000)
instance (x1 x2 y1 y2 sec slack : Int) : Decidable (fitOk x1 x2 y1 y2 sec slack) := by unfold fitOk; exact inferInstance
section
variable {x1 x2 y1 y2 sec slack : Int}
end
theorem step_eq {l m : List Int} {j : Nat} (hz : ∀ k, k < j → l.getD k 0 = m.getD k 0) (h : l.getD j 0 = m.getD j 0) : ∀ k, k < j + 1 → l.getD k 0 = m.getD k 0 := by
  intro k hk
  rcases Nat.lt_or_ge k j with q | q
  · exact hz k q
  · have : k = j := by omega
    subst this; exact h
theorem ints_ne1 {l m : List Int} (h : ¬ (l.length : Int) = (m.length : Int)) : false = decide (l = m) := by
  symm; rw [decide_eq_false_iff_not]; intro e; rw [e] at h; exact h rfl
theorem ints_ne2 {l m : List Int} {j : Nat} (h : ¬ l.getD j 0 = m.getD j 0) : false = decide (l = m) := by
  symm; rw [decide_eq_false_iff_not]; intro e; rw [e] at h; exact h rfl
theorem ints_eq {l m : List Int} {j : Nat} (hz : ∀ k, k < j → l.getD k 0 = m.getD k 0) (hj : j = l.length) (hm : l.length = m.length) : true = decide (l = m) := by
  symm; rw [decide_eq_true_iff]
  refine List.ext_getElem hm fun i h1 h2 => ?_
  have := hz i (by omega)
  simpa [List.getD_eq_getElem?_getD, List.getElem?_eq_getElem h1, List.getElem?_eq_getElem h2] using this
end Go.Proofs.YtdjflomhaljljaaGreat
namespace Go.SL
set_option linter.unusedVariables false
section
variable {P : Program} {ro : Option Nat} {β : Bs} {N : Nat} {ds : List Deferred} {env : Env} {L : List Res} {Q : Exit → Act → World → Prop}
variable {ty : TypeId} {pos : String} {aft : Array Edge} {g : Option (Nat × Bool)}
theorem and_e {c b : Bool} (h : c = true) : (c && b) = b := by rw [h, Bool.true_and]
theorem HO.guard {dd : Option Nat} {op : Op} {K : Value → List Res → Prop} {g' : Option (Nat × Bool)} (h : HO P β env L ⟨dd, op, ty, pos, aft, g⟩ K) : HO P β env L ⟨dd, op, ty, pos, aft, g'⟩ K := h
theorem VO.bc {ops : Array Oper} {rest : List Oper} {x : Nat} {b : Bool} (h : ev1 env x = some (.bool b)) (k1 : b = true → VO P ro β N ds ops env L rest Q) (k2 : b = false → VO P ro β N ds ops env L rest Q) : VO P ro β N ds ops env L rest Q := by
  cases b with
  | true => exact k1 rfl
  | false => exact k2 rfl
theorem VO.gT {ops : Array Oper} {d j t : Nat} {want : Bool} {op : Op} {rest : List Oper} {u : Value} (hj : (ops[j]?).bind (·.dst) = some t) (ht : ev1 env t = some u) (hu : u = .bool want) (hd : Nat.blt d N = true)
    (h : HO P β env L ⟨some d, op, ty, pos, aft, none⟩ fun v L' => VO P ro β N ds ops ((d, v) :: env) L' rest Q) : VO P ro β N ds ops env L (⟨some d, op, ty, pos, aft, some (j, want)⟩ :: rest) Q := by
  intro a w ha hw
  have ht' := ha.get t u ht
  have hy : yielded ops a.tmps j = vb u := by
    unfold yielded; rw [hj]; simp only [Option.bind_some, ht']; cases u <;> rfl
  refine wpListIn_step fun K hK => ?_
  simp only [Region.wanted, hy]
  subst hu
  simp only [vb, beq_self_eq_true, if_true]
  exact (h.guard (g' := some (j, want))).wp (fun x _ u hu => ha.eval hu) hw fun v L' w' hk hs => hK _ _ (hk _ w' (ha.put (Nat.le_of_ble_eq_true hd) v) hs)
theorem LO.pkT {d : Option Nat} {c x y : Operand} {b : Bool} {v : Value} (hc : OV env c (.bool b)) (hb : b = true) (hx : OV env x v) : LO P β env L ⟨d, .pick c x y, ty, pos, aft, g⟩ v :=
  .of_run fun a w h hw => ⟨w, by subst hb; simp [execOp, h c (by simp [Op.operands]) _ hc, h x (by simp [Op.operands]) _ hx, asBool], hw⟩
theorem LO.pkF {d : Option Nat} {c x y : Operand} {b : Bool} {v : Value} (hc : OV env c (.bool b)) (hb : b = false) (hy : OV env y v) : LO P β env L ⟨d, .pick c x y, ty, pos, aft, g⟩ v :=
  .of_run fun a w h hw => ⟨w, by subst hb; simp [execOp, h c (by simp [Op.operands]) _ hc, h y (by simp [Op.operands]) _ hy, asBool], hw⟩
theorem HO.appT {α : Type} {f : α → List Value} {l : List α} (x0 : α) (i j : Nat) (LF : Res → List Res) {K : Value → List Res → Prop} {dd : Option Nat} {x y : Operand} {T T' E z by_ : Nat} {aT : Array TypeId} {zero : Value} {p : Option Addr} {n cap b : Nat} {C : Array Value} (hT : IsSlice P T E) (hT' : IsSlice P T' E) (hE : EInfo P E z by_ zero) (hx : OV env x (.slice p n cap)) (hy : OV env y (.slice (some ⟨b, 0, none⟩) 1 1))
    (hi : L[i]? = some (own E z p cap (l.map f))) (hj : L[j]? = some (blk b (.cells C E))) (hC : C = (f x0).toArray) (hr : Nat.beq (f x0).length z = true) (h1 : allOne (f x0) = true) (ha0 : aT[0]? = some T) (ha1 : aT[1]? = some T') (hL : ∀ R : Res, L.set i R = LF R) (hn : n = l.length) (hs : (2 * (l.length + 1) + 768) * by_ ≤ 281474976710656)
    (k : ∀ p' cap', K (.slice p' (l ++ [x0]).length cap') (LF (own E z p' cap' ((l ++ [x0]).map f)))) : HO P β env L ⟨dd, .call ⟨.builtin .append, #[x, y], aT⟩, ty, pos, aft, none⟩ K := by
  subst hn
  refine HO.app1 i j LF hT hT' hE hx hy hi hj hC hr h1 ha0 ha1 hL (by simp) hs fun p' cap' => ?_
  have := k p' cap'
  rw [List.length_append, List.map_append] at this
  exact this
theorem HO.callh {α : Type} (i : Nat) {r : Res} (LF : Res → List Res) {K : Value → List Res → Prop} {dd : Option Nat} {f : FuncId} {fx : Operand} {xs : List Operand} {vs first cap : List Value} {aT : Array TypeId} {v : α → Value} {r' : α → Res} {I : α → Prop} (hi : L[i]? = some r) (hfx : OV env fx (.func (.func f) first.toArray cap.toArray)) (hf : IsFn P f) (hx : OVs env xs vs) (hL : ∀ R : Res, L.set i R = LF R)
    (hc : ∀ w, St β L w → Calls P f (first ++ vs ++ cap).toArray w fun e w' => ∃ x, I x ∧ e = .returned (v x) ∧ St ⟨w, r.fp⟩ [r' x] w') (k : ∀ x, I x → K (v x) (LF (r' x))) : HO P β env L ⟨dd, .call ⟨.value fx, xs.toArray, aT⟩, ty, pos, aft, none⟩ K := by
  intro a w h hw
  refine .inr (.inl ⟨f, (first ++ vs ++ cap).toArray, ?_, ?_⟩)
  · have hm : xs.map a.eval = vs := hx.map fun x hm u hu => by obtain ⟨u', hu', e⟩ := hu; subst e; exact h x (by simp [Op.operands, Call.operands, hm]) u' hu'
    have hfe : a.eval fx = .func (.func f) first.toArray cap.toArray := by obtain ⟨u', hu', e⟩ := hfx; subst e; exact h fx (by simp [Op.operands, Call.operands]) _ hu'
    simp [execOp, resolve, hfe, Deferred.ofValue, invoke, run_call hf, hm]
  · exact (hc w hw).mono fun e w' ⟨x, hI, he, hs⟩ => ⟨v x,_, he, k x hI, by rw [← hL]; exact hw.callAt i hi hs⟩
theorem LO.nc {d : Option Nat} {x : Operand} {p : Addr} (hx : OV env x (.pointer (some p))) : LO P β env L ⟨d, .nilCheck x, ty, pos, aft, g⟩ (.pointer (some p)) :=
  .of_run fun a w h hw => ⟨w, by simp [execOp, h x (by simp [Op.operands]) _ hx], hw⟩
theorem LO.ixo {d : Option Nat} {x i : Operand} {T E z : Nat} {p : Option Addr} {n c j : Nat} {k : IntKind} {e : Int} (hT : IsSlice P T E) (hz : (P.info? E).map (·.size) = some z) (hs : ∀ w, St β L w → SlSome p n) (hx : OV env x (.slice p n c)) (hi : OV env i (.int k e)) (he : e = (j : Int)) (hj : j < n) :
    LO P β env L ⟨d, .indexAddr T x i, ty, pos, aft, g⟩ (.pointer (some ⟨pb p, po p + j * z, none⟩)) :=
  fun a w h hw => LO.ixs (d := d) (ty := ty) (pos := pos) (aft := aft) (g := g) hT hz (hs w hw) hx hi he hj a w h hw
theorem own_cell {α : Type} {f : α → List Value} {w : World} (hw : St β L w) (i : Nat) {E z : Nat} {p : Option Addr} {cap : Nat} {l : List α} (hi : L[i]? = some (own E z p cap (l.map f))) {j : Nat} {x : α} (hx : l[j]? = some x) : Cells w ⟨pb p, po p + j * z, none⟩ (f x) :=
  (own_rows hw i hi).cells j _ (by rw [List.getElem?_map, hx]; rfl)
theorem selJ {L0 L1 : List Res} {js : List Nat} (is : List Nat) (hn : nodupB is = true) (h1 : sel L is = L1) (h2 : sel L0 js = L1) : ∀ w, St β L w → St β (sel L0 js) w := fun w hw => by
  rw [h2, ← h1]; exact hw.sel is hn
theorem VC.perm (is : List Nat) {c : Code} (hn : nodupB is = true) (h : VC P ro β N ds env (sel L is) c Q) : VC P ro β N ds env L c Q := fun a w ha hw => h a w ha (hw.sel is hn)
end
end Go.SL
