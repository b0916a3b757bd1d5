/-
  Ranges over functions: what an iterator promises, a call of yield, the statement.
-/
import Derived.Test.YtdcjeoamhjplmaaSM
namespace Go.SL
set_option linter.unusedVariables false
open Go.RowKit

/-- Old cells that no one is handed. -/
def Old (β : Bs) (p : Addr) (vs : List Value) : Prop := ¬ β.O p.block ∧ Cells β.w p vs

section
variable {P : Program} {ro : Option Nat} {β : Bs} {N : Nat} {ds : List Deferred} {env : Env} {L : List Res} {Q : Exit → Act → World → Prop}

theorem Old.keep {p : Addr} {vs : List Value} (h : Old β p vs) : ∀ w, St β L w → Cells w p vs := cells_keepO h.1 h.2
theorem Old.ext {w1 : World} {L1 : List Res} {p : Addr} {vs : List Value} (h : Old β p vs) (hne : vs ≠ []) (hw : St β L1 w1) : Old ⟨w1, fpL L1⟩ p vs := by
  refine ⟨fun ⟨i, r, hr, hk⟩ => ?_, h.keep w1 hw⟩
  cases vs with
  | nil => exact hne rfl
  | cons v vs =>
    have h0 := h.2 0 v rfl
    have he : (p.add 0).block = p.block := by unfold Addr.add; rfl
    have hb : p.block < β.w.heap.size := by
      rcases Nat.lt_or_ge p.block β.w.heap.size with q | q
      · exact q
      · rw [← he] at q; simp [World.cell?, Array.getElem?_eq_none q] at h0
    rcases (hw.rng i r hr _ hk).1 with q | q
    · exact h.1 q
    · omega

/-- Several resources as one. -/
def bun (L : List Res) : Res := ⟨fpL L, fun w => ∀ (i : Nat) (r : Res), L[i]? = some r → r.inv w, fun h hi i r hr => r.loc (fun k hk => h k ⟨i, r, hr, hk⟩) (hi i r hr)⟩

def Dis (L : List Res) : Prop := ∀ (i j : Nat) (r s : Res), i ≠ j → L[i]? = some r → L[j]? = some s → ∀ k, r.fp k → ¬ s.fp k

theorem St.bun {w : World} (h : St β L w) : St β [bun L] w := by
  refine ⟨h.os, h.tape, h.output, h.size, h.fr, ?_, ?_, ?_⟩
  · intro i r hr
    cases i with
    | zero => simp at hr; subst hr; exact h.inv
    | succ i => simp at hr
  · intro i r hr k hk
    cases i with
    | zero => simp at hr; subst hr; obtain ⟨j, s, hs, hk'⟩ := hk; exact h.rng j s hs k hk'
    | succ i => simp at hr
  · intro i j r s hij hr hs
    cases i with
    | zero => cases j with | zero => exact absurd rfl hij | succ j => simp at hs
    | succ i => simp at hr

theorem St.unbun {w : World} (h : St β [Go.SL.bun L] w) (hd : Dis L) : St β L w := by
  refine ⟨h.os, h.tape, h.output, h.size, h.fr, fun i r hr => h.inv 0 _ rfl i r hr, fun i r hr k hk => h.rng 0 _ rfl k ⟨i, r, hr, hk⟩, hd⟩

/-- One resource is handed to someone, who hands one back. -/
theorem St.callAt {w w' : World} (i : Nat) {r r' : Res} (h : St β L w) (hi : L[i]? = some r) (k : St ⟨w, r.fp⟩ [r'] w') : St β (L.set i r') w' := by
  have hlt : i < L.length := by
    rcases Nat.lt_or_ge i L.length with q | q
    · exact q
    · simp [List.getElem?_eq_none q] at hi
  -- the one ahead of the others
  have h1 : St β ([r] ++ L.eraseIdx i) w := by
    refine h.map (fun j => if j = 0 then i else if j - 1 < i then j - 1 else j) ?_ ?_
    · intro a b hab ha hb
      split <;> split <;> (try split) <;> (try split) <;> omega
    · intro j s hs
      right
      cases j with
      | zero => simp at hs; subst hs; simpa using hi
      | succ j =>
        simp only [List.singleton_append, List.getElem?_cons_succ, List.getElem?_eraseIdx] at hs
        simp only [Nat.add_one_ne_zero, if_false, Nat.add_sub_cancel]
        by_cases q : j < i
        · simpa [q] using hs
        · simpa [q] using hs
  have h2 := h1.callG (O := r.fp) (fun k hk => ⟨0, r, rfl, hk⟩) k
  refine h2.map (fun j => if j = i then 0 else if j < i then j + 1 else j) ?_ ?_
  · intro a b hab ha hb
    split <;> split <;> (try split) <;> (try split) <;> omega
  · intro j s hs
    right
    by_cases e : j = i
    · subst e; simp [hlt] at hs; subst hs; simp
    · rw [List.getElem?_set_ne (Ne.symm e)] at hs
      simp only [e, if_false]
      by_cases q : j < i
      · simp only [q, if_true, List.singleton_append, List.getElem?_cons_succ, List.getElem?_eraseIdx]
        exact hs
      · simp only [q, if_false]
        obtain ⟨j', rfl⟩ : ∃ j', j = j' + 1 := ⟨j - 1, by omega⟩
        simp only [List.singleton_append, List.getElem?_cons_succ, List.getElem?_eraseIdx]
        rw [if_neg (by omega)]
        exact hs

/-! ### yield -/
def yv (l : Nat) : Value := .func (.yield l) #[] #[]
def YieldsTo (P : Program) (l : Nat) (args : List Value) (w : World) (R : Ending → World → Prop) : Prop :=
  ∃ fn tmps as_ bd, (Instr.yield l args.toArray).run P w = .ok (.round l fn tmps as_ bd) w ∧ RoundIn Fence.wide 0 P l fn tmps as_ bd w R

theorem HO.yield (i : Nat) {K : Value → List Res → Prop} {dd : Option Nat} {ty : TypeId} {pos : String} {aft : Array Edge} {g : Option (Nat × Bool)} {fx : Operand} {xs : List Operand} {vs : List Value} {aT : Array TypeId} {l : Nat} {r : Res} {post : Bool → Res → Prop}
    (hfx : OV env fx (yv l)) (hx : OVs env xs vs) (hi : L[i]? = some r)
    (hy : ∀ w, r.inv w → (∀ k, r.fp k → k < w.heap.size) → (w.os = β.w.os ∧ w.tape = β.w.tape ∧ w.output = β.w.output ∧ β.w.heap.size ≤ w.heap.size) → YieldsTo P l vs w fun e w' => ∃ b r', e = .returned (.bool b) ∧ post b r' ∧ St ⟨w, r.fp⟩ [r'] w')
    (k : ∀ b r', post b r' → K (.bool b) (L.set i r')) : HO P β env L ⟨dd, .call ⟨.value fx, xs.toArray, aT⟩, ty, pos, aft, g⟩ K := by
  intro a w h hw
  obtain ⟨fn, tmps, as_, bd, hrun, hr⟩ := hy w (hw.inv i r hi) (fun k hk => (hw.rng i r hi k hk).2) ⟨hw.os, hw.tape, hw.output, hw.size⟩
  refine .inr (.inr ⟨l, fn, tmps, as_, bd, ?_, ?_⟩)
  · have hm : xs.map a.eval = vs := hx.map fun x hm u hu => by obtain ⟨u', hu', e⟩ := hu; subst e; exact h x (by simp [Op.operands, Call.operands, hm]) u' hu'
    have hfe : a.eval fx = yv l := by obtain ⟨u', hu', e⟩ := hfx; subst e; exact h fx (by simp [Op.operands, Call.operands]) _ hu'
    simp [execOp, resolve, hfe, yv, Deferred.ofValue, invoke, hm, hrun]
  · refine RoundIn.mono hr ?_
    rintro e w' ⟨b, r', rfl, hp, hs⟩
    exact ⟨_, _, rfl, k b r' hp, hw.callAt i hi hs⟩

/-- What an iterator value promises: it yields 'xs', one behind the other, until it is told to stop. 'Cap': what it reads. -/
def SeqC (P : Program) (gf : FuncId) (lb : List Value) (Cap : World → Prop) (xs : List (List Value)) : Prop :=
  ∀ (l : Nat) (J Jx : Nat → Res → Prop) (w : World) (r0 : Res),
    (∀ n r w, J n r → r.inv w → Cap w) →
    (∀ n vs, xs[n]? = some vs → ∀ r w1, J n r → r.inv w1 → (∀ k, r.fp k → k < w1.heap.size) → (w1.os = w.os ∧ w1.tape = w.tape ∧ w1.output = w.output ∧ w.heap.size ≤ w1.heap.size) → YieldsTo P l vs w1 fun e w' => ∃ b r', e = .returned (.bool b) ∧ (if b then J (n + 1) r' else Jx (n + 1) r') ∧ St ⟨w1, r.fp⟩ [r'] w') →
    J 0 r0 → r0.inv w → (∀ k, r0.fp k → k < w.heap.size) →
    Calls P gf (yv l :: lb).toArray w fun e w' => e = .returned (.tuple #[]) ∧ ∃ n r', (J xs.length r' ∨ (n ≤ xs.length ∧ Jx n r')) ∧ St ⟨w, r0.fp⟩ [r'] w'

/-- How a round may be left. -/
def RB (β : Bs) {α : Type} (F : α → List Res) (T : List Res) (I : α → Prop) (Ix : Code → α → Prop) : Exit → Act → World → Prop
  | .normal, _, w => ∃ y, I y ∧ St β (F y ++ T) w
  | .ret, _, w => ∃ y, Ix .ret y ∧ St β (F y ++ T) w
  | .exit id, _, w => ∃ y, Ix (.exit id) y ∧ St β (F y ++ T) w
  | _, _, _ => False

def mark (D : Nat) : Deferred := { target := .collected D, args := #[] }
def dR (D : Nat) : Res := blk D (.deferred (some []))

theorem St.obj {w : World} {b : Nat} {o o' : Obj} (i : Nat) (h : St β L w) (hi : L[i]? = some (blk b o)) : St β (L.set i (blk b o')) (w.putObj b o') := by
  have hb : w.heap[b]? = some o := h.inv i _ hi
  have hlt : b < w.heap.size := (Array.getElem?_eq_some_iff.1 hb).1
  exact h.upd hi rfl (World.putObj_heap_same hlt) (fun k hk => World.putObj_heap_other hk) (by simp [World.putObj]) rfl rfl rfl

/-- The world as it was, for what comes next: its resources are handed on. -/
theorem St.rebase {w : World} (h : St β L w) : St ⟨w, fpL L⟩ L w :=
  ⟨rfl, rfl, rfl, Nat.le_refl _, fun _ _ _ => rfl, h.inv, fun i r hr k hk => ⟨.inl ⟨i, r, hr, hk⟩, (h.rng i r hr k hk).2⟩, h.dis⟩

theorem St.back {w w' : World} {R : List Res} (h : St β L w) (k : St ⟨w, fpL L⟩ R w') : St β R w' := by
  have := St.callG (L1 := L) (L2 := []) (by simpa using h) (fun k hk => hk) k
  simpa using this

/-- Several resources, and all of the old memory that no one is handed. -/
def big (β : Bs) (L : List Res) : Res := ⟨fun k => fpL L k ∨ (k < β.w.heap.size ∧ ¬ β.O k), fun w => (∀ (i : Nat) (r : Res), L[i]? = some r → r.inv w) ∧ (∀ k, k < β.w.heap.size → ¬ β.O k → w.heap[k]? = β.w.heap[k]?),
  fun h hi => ⟨fun i r hr => r.loc (fun k hk => h k (.inl ⟨i, r, hr, hk⟩)) (hi.1 i r hr), fun k hk hO => (h k (.inr ⟨hk, hO⟩)).trans (hi.2 k hk hO)⟩⟩

def Fits (β : Bs) (L : List Res) : Prop := Dis L ∧ ∀ k, fpL L k → β.O k ∨ β.w.heap.size ≤ k

theorem St.fits {w : World} (h : St β L w) : Fits β L := ⟨h.dis, fun k ⟨i, r, hr, hk⟩ => (h.rng i r hr k hk).1⟩

theorem St.of_big {w w1 : World} {O : Nat → Prop} (hf : Fits β L) (hos : w.os = β.w.os ∧ w.tape = β.w.tape ∧ w.output = β.w.output ∧ β.w.heap.size ≤ w.heap.size) (hinv : (big β L).inv w) (hb : ∀ k, (big β L).fp k → k < w.heap.size) : St β L w :=
  ⟨hos.1, hos.2.1, hos.2.2.1, hos.2.2.2, hinv.2, hinv.1, fun i r hr k hk => ⟨hf.2 k ⟨i, r, hr, hk⟩, hb k (.inl ⟨i, r, hr, hk⟩)⟩, hf.1⟩

theorem St.to_big {w1 w2 : World} {L2 : List Res} (h1 : St β L w1) (h2 : St ⟨w1, fpL L⟩ L2 w2) : St ⟨w1, (big β L).fp⟩ [big β L2] w2 := by
  have hb := h1.back h2
  refine ⟨h2.os, h2.tape, h2.output, h2.size, fun k hk hO => h2.fr k hk (fun q => hO (.inl q)), ?_, ?_, ?_⟩
  · intro i r hr
    cases i with
    | zero => simp at hr; subst hr; exact ⟨hb.inv, hb.fr⟩
    | succ i => simp at hr
  · intro i r hr k hk
    cases i with
    | zero =>
      simp at hr; subst hr
      rcases hk with ⟨j, s, hs, hk⟩ | ⟨hk, hO⟩
      · have := h2.rng j s hs k hk
        exact ⟨this.1.imp (fun q => .inl q) (fun q => q), this.2⟩
      · exact ⟨.inl (.inr ⟨hk, hO⟩), Nat.lt_of_lt_of_le hk hb.size⟩
    | succ i => simp at hr
  · intro i j r s hij hr hs
    cases i with
    | zero => cases j with | zero => exact absurd rfl hij | succ j => simp at hs
    | succ i => simp at hr

def penv (ps : Array Tmp) (vs : List Value) : Env := (ps.toList.zip vs).reverse

theorem ag_zip {N : Nat} {ds : List Deferred} : ∀ (zs : List (Nat × Value)) (env : Env) (a : Act), (∀ z ∈ zs, z.1 < N) → Ag N ds env a → Ag N ds (zs.reverse ++ env) { a with tmps := zs.foldl (fun t (p, v) => t.setIfInBounds p v) a.tmps }
  | [], env, a, _, ha => by simpa using ha
  | (t, v) :: zs, env, a, h, ha => by
    have h1 := ha.put (h (t, v) (by simp)) v
    have := ag_zip zs _ _ (fun z hz => h z (by simp [hz])) h1
    simpa [Act.put] using this

/-- What a round of asg's assignment comes to. -/
def AP (β : Bs) (N : Nat) (env : Env) (L : List Res) : Exit → Act → World → Prop := fun e a w => e = .normal ∧ Ag N [] env a ∧ St β L w

/-- A range over a function, outermost in its function. 'I n': behind n rounds. -/
theorem VC.rangeFuncF {α : Type} {gop : Operand} {ps : Array Tmp} {asg body : Code} {gf : FuncId} {lb : List Value} {Cap : World → Prop} {xs : List (List Value)} (F : α → List Res) (I : Nat → α → Prop) (Ix : Code → Nat → α → Prop) (x0 : α) (envb : List Value → Env)
    (hg : ev env gop = some (.func (.func gf) #[] lb.toArray)) (hf : IsFn P gf) (hseq : SeqC P gf lb Cap xs) (hF0 : ∀ w, St β L w → St β (F x0) w) (h0 : I 0 x0)
    (hps : ∀ vs, vs ∈ xs → vs.length = ps.size) (hpN : ps.toList.all (fun t => Nat.blt t N) = true)
    (hCap : ∀ n x w, I n x → (∀ (i : Nat) (r : Res), (F x)[i]? = some r → r.inv w) → (∀ k, k < β.w.heap.size → ¬ β.O k → w.heap[k]? = β.w.heap[k]?) → Cap w)
    (hasg : ∀ (n : Nat) (x : α) (vs : List Value) l T w1, I n x → xs[n]? = some vs → St β (F x ++ T) w1 → VC P (some l) ⟨w1, fpL (F x ++ T)⟩ N [] (penv ps vs ++ env) (F x ++ T) asg (AP ⟨w1, fpL (F x ++ T)⟩ N (envb vs) (F x ++ T)))
    (hbody : ∀ (n : Nat) (x : α) (vs : List Value) l T w1, I n x → xs[n]? = some vs → St β (F x ++ T) w1 → VC P (some l) ⟨w1, fpL (F x ++ T)⟩ N [] (envb vs) (F x ++ T) body (RB ⟨w1, fpL (F x ++ T)⟩ F T (I (n + 1)) (fun c => Ix c (n + 1))))
    (hdone : ∀ D x, I xs.length x → VE β N [mark D] env (F x ++ [dR D]) .normal Q)
    (hstop : ∀ D c n x, n ≤ xs.length → Ix c n x → VC P none β N [mark D] env (F x ++ [dR D]) c Q) :
    VC P none β N [] env L (.rangeFunc gop ps asg body) Q := by
  intro a w ha hw
  have hw0 := hF0 w hw
  refine wpIn_rangeFunc fun fn _ => ?_
  obtain ⟨rec, hrec⟩ : ∃ rec : LoopState → Option Code → Loop, rec = fun st pe => { state := st, pending := pe, fn, tmps := a.tmps, params := ps, assign := asg, body, defers := w.heap.size } := ⟨_, rfl⟩
  obtain ⟨D, hD⟩ : ∃ D, D = w.heap.size := ⟨_, rfl⟩
  obtain ⟨l, hl⟩ : ∃ l, l = w.heap.size + 1 := ⟨_, rfl⟩
  obtain ⟨W1, hW1⟩ : ∃ W1, (w.alloc (.deferred (some []))).alloc (.loop (rec .ready none)) = W1 := ⟨_, rfl⟩
  obtain ⟨T, hT⟩ : ∃ T : LoopState → Option Code → List Res, T = fun st pe => [blk l (.loop (rec st pe)), dR D] := ⟨_, rfl⟩
  have hTget : ∀ x st pe, (F x ++ T st pe)[(F x).length]? = some (blk l (.loop (rec st pe))) := by intro x st pe; simp [hT]
  have hTset : ∀ x st pe st' pe', (F x ++ T st pe).set (F x).length (blk l (.loop (rec st' pe'))) = F x ++ T st' pe' := by intro x st pe st' pe'; simp [hT]
  have hst1 : St β (F x0 ++ T .ready none) W1 := by
    have h1 := (hw0.alloc (.deferred (some []))).alloc (.loop (rec .ready none))
    rw [hW1, World.size_alloc] at h1
    refine h1.map (fun j => if j < (F x0).length then j + 2 else if j = (F x0).length then 0 else 1) ?_ ?_
    · intro a b hab ha hb
      simp [hT] at ha hb
      split <;> split <;> (try split) <;> (try split) <;> omega
    · intro j r hr
      right
      rw [List.getElem?_append] at hr
      by_cases q : j < (F x0).length
      · simp only [q, if_true] at hr ⊢
        simpa using hr
      · simp only [q, if_false] at hr ⊢
        by_cases e : j = (F x0).length
        · subst e; simp [hT] at hr; subst hr; simp [hl]
        · have : j = (F x0).length + 1 := by
            rcases Nat.lt_or_ge (j - (F x0).length) 2 with s | s
            · omega
            · simp only [hT] at hr; rw [List.getElem?_eq_none (by simpa using s)] at hr; cases hr
          subst this
          simp [hT] at hr; subst hr; simp [dR, hD]
  -- from the record's states to the world
  have endx : ∀ x st pe w', St β (F x ++ T st pe) w' → st ≠ .busy → ∃ w4, (Instr.endLoop l).run P w' = .ok pe w4 ∧ St β (F x ++ [dR D]) w4 := by
    intro x st pe w' hs hne
    have hrl : w'.heap[l]? = some (.loop (rec st pe)) := hs.inv _ _ (hTget x st pe)
    refine ⟨w'.putObj l (.loop { rec st pe with state := .exhausted }), ?_, ?_⟩
    · have := run_endLoop (P := P) hrl (by rw [hrec]; exact hne)
      rw [this]; congr 1; rw [hrec]
    · have h2 := hs.obj (o' := .loop { rec st pe with state := .exhausted }) _ (hTget x st pe)
      refine h2.map (fun j => if j < (F x).length then j else j + 1) ?_ ?_
      · intro a b hab ha hb
        split <;> split <;> omega
      · intro j r hr
        right
        rw [List.getElem?_append] at hr
        by_cases q : j < (F x).length
        · simp only [q, if_true] at hr ⊢
          rw [List.getElem?_set_ne (by omega), List.getElem?_append_left q]; exact hr
        · simp only [q, if_false] at hr ⊢
          have : j = (F x).length := by
            rcases Nat.lt_or_ge (j - (F x).length) 1 with s | s
            · omega
            · rw [List.getElem?_eq_none (by simpa using s)] at hr; cases hr
          subst this
          simp at hr; subst hr
          rw [List.getElem?_set_ne (by omega), List.getElem?_append_right (by omega)]
          simp [hT]
  refine ⟨l, [mark D], W1, { target := .fn (.func gf) lb.toArray, args := #[yv l] }, W1, gf, (yv l :: lb).toArray, W1, ?_, ?_, ?_, ?_, fun h => by simp [Wf, Fence.wide] at h, ?_⟩
  · rw [← hW1, hrec, hl, hD]; exact run_enterLoop_outer _ _ _ _ _
  · have e : a.eval gop = .func (.func gf) #[] lb.toArray := ha.eval hg
    simp only [resolve, e]
    simp [Deferred.ofValue, yv, Act.eval]
  · intro f' _; exact True.intro
  · simp [invoke, run_call hf]
  · refine callsIn_wf.2 ((hseq l (fun n r => ∃ x, I n x ∧ r = big β (F x ++ T .ready none) ∧ Fits β (F x ++ T .ready none)) (fun n r => ∃ c x, Ix c n x ∧ r = big β (F x ++ T .done (some c)) ∧ Fits β (F x ++ T .done (some c)))
      W1 (big β (F x0 ++ T .ready none)) ?_ ?_ ⟨x0, h0, rfl, hst1.fits⟩ ⟨hst1.inv, hst1.fr⟩ ?_).mono ?_)
    · rintro n r w' ⟨x, hI, rfl, _⟩ hinv
      exact hCap n x w' hI (fun i r hr => hinv.1 i r (by
        rw [List.getElem?_append_left]
        · exact hr
        · rcases Nat.lt_or_ge i (F x).length with q | q
          · exact q
          · simp [List.getElem?_eq_none q] at hr)) hinv.2
    · -- one round
      rintro n vs hvs r w1 ⟨x, hI, rfl, hfit⟩ hinv hb hos
      have hs1 : St β (F x ++ T .ready none) w1 := St.of_big (w1 := w1) (O := β.O) hfit ⟨hos.1.trans hst1.os, hos.2.1.trans hst1.tape, hos.2.2.1.trans hst1.output, Nat.le_trans hst1.size hos.2.2.2⟩ hinv hb
      have hrl : w1.heap[l]? = some (.loop (rec .ready none)) := hs1.inv _ _ (hTget x .ready none)
      have hlen : vs.toArray.size = ps.size := by simpa using hps vs (List.mem_of_getElem? hvs)
      have hy := run_yield (P := P) (args := vs.toArray) hrl (by rw [hrec]; exact hlen)
      refine ⟨_, _, _, _, hy, ?_⟩
      refine roundIn_of_wpIn (F := Fence.wide) (n := 0) True.intro ?_
      have hA : Ag N [] (penv ps vs ++ env) { tmps := (ps.zip vs.toArray).foldl (fun t (p, v) => t.setIfInBounds p v) a.tmps, defers := [] } := by
        have h1 := ag_zip (N := N) (ds := []) (ps.toList.zip vs) env { tmps := a.tmps, defers := [] } (fun z hz => by
          have hm : z.1 ∈ ps.toList := (List.of_mem_zip (a := z.1) (b := z.2) hz).1
          exact Nat.le_of_ble_eq_true (List.all_eq_true.1 hpN z.1 hm)) ⟨ha.size, rfl, ha.get⟩
        have e : (ps.zip vs.toArray).foldl (fun t (p, v) => t.setIfInBounds p v) a.tmps = (ps.toList.zip vs).foldl (fun t (p, v) => t.setIfInBounds p v) a.tmps := by
          rw [← Array.foldl_toList, Array.toList_zip]
        rw [e]; exact h1
      have ha1 := hasg n x vs l (T .ready none) w1 hI hvs hs1 _ w1 hA hs1.rebase
      rw [hrec]
      refine Code.wpIn_mono ?_ ha1
      rintro e a2 w2 ⟨rfl, hag, hs2⟩
      have hs2' := hs1.back hs2
      have hrl2 : w2.heap[l]? = some (.loop (rec .ready none)) := hs2.inv _ _ (hTget x .ready none)
      refine ⟨w2.putObj l (.loop { rec .ready none with state := .busy }), run_beginRound hrl2 (by rw [hrec]), ?_⟩
      have eb : ({ rec .ready none with state := .busy } : Loop) = rec .busy none := by rw [hrec]
      rw [eb]
      have hs3 := hs2'.obj (o' := .loop (rec .busy none)) _ (hTget x .ready none)
      rw [hTset] at hs3
      have hs3' := hs2.obj (o' := .loop (rec .busy none)) _ (hTget x .ready none)
      rw [hTset] at hs3'
      have hb1 := hbody n x vs l (T .busy none) _ hI hvs hs3 _ _ hag hs3.rebase
      refine Code.wpIn_mono ?_ hb1
      intro e a3 w3 hq
      have fin : ∀ y (jump : Option Code), St ⟨w2.putObj l (.loop (rec .busy none)), fpL (F x ++ T .busy none)⟩ (F y ++ T .busy none) w3 →
          ∃ w4, (Instr.endRound l jump).run P w3 = .ok (.bool jump.isNone) w4 ∧ St ⟨w1, (big β (F x ++ T .ready none)).fp⟩ [big β (F y ++ T (if jump.isNone then .ready else .done) jump)] w4 ∧ Fits β (F y ++ T (if jump.isNone then .ready else .done) jump) := by
        intro y jump hsy
        have h4 := hs3'.back hsy
        have hrl3 : w3.heap[l]? = some (.loop (rec .busy none)) := h4.inv _ _ (hTget y .busy none)
        refine ⟨_, run_endRound jump hrl3, ?_⟩
        have er : ({ rec .busy none with state := if jump.isNone then .ready else .done, pending := jump } : Loop) = rec (if jump.isNone then .ready else .done) jump := by rw [hrec]
        rw [er]
        have h5 := h4.obj (o' := .loop (rec (if jump.isNone then .ready else .done) jump)) _ (hTget y .busy none)
        rw [hTset] at h5
        exact ⟨St.to_big hs1 h5, (hs1.back h5).fits⟩
      cases e with
      | normal =>
        obtain ⟨y, hy1, hy2⟩ := hq
        obtain ⟨w4, h1, h2, h3⟩ := fin y none hy2
        exact ⟨_, w4, h1, true, _, rfl, ⟨y, hy1, rfl, h3⟩, h2⟩
      | ret =>
        obtain ⟨y, hy1, hy2⟩ := hq
        obtain ⟨w4, h1, h2, h3⟩ := fin y (some .ret) hy2
        exact ⟨_, w4, h1, false, _, rfl, ⟨_, y, hy1, rfl, h3⟩, h2⟩
      | exit id =>
        obtain ⟨y, hy1, hy2⟩ := hq
        obtain ⟨w4, h1, h2, h3⟩ := fin y (some (.exit id)) hy2
        exact ⟨_, w4, h1, false, _, rfl, ⟨_, y, hy1, rfl, h3⟩, h2⟩
      | goto t => exact hq.elim
      | panic ch => exact hq.elim
      | outgrown => exact hq.elim
    · intro k hk
      rcases hk with ⟨i, r, hr, hk⟩ | ⟨hk, _⟩
      · exact (hst1.rng i r hr k hk).2
      · exact Nat.lt_of_lt_of_le hk hst1.size
    · rintro e w' ⟨rfl, n, r', hJ, hs⟩
      have toSt : ∀ L2, r' = big β L2 → Fits β L2 → St β L2 w' := by
        rintro L2 rfl hfit
        have hb := hs.rng 0 _ rfl
        exact St.of_big (w1 := w') (O := β.O) hfit ⟨hs.os.trans hst1.os, hs.tape.trans hst1.tape, hs.output.trans hst1.output, Nat.le_trans hst1.size hs.size⟩ (hs.inv 0 _ rfl) (fun k hk => (hb k hk).2)
      have hag : Ag N [mark D] env { a with defers := [mark D] ++ a.defers } := ⟨ha.size, by simp [ha.dfr], ha.get⟩
      rcases hJ with ⟨x, hI, hr, hfit⟩ | ⟨hle, c, x, hI, hr, hfit⟩
      · obtain ⟨w4, h1, h2⟩ := endx x .ready none w' (toSt _ hr hfit) (by simp)
        exact ⟨none, w4, h1, hdone D x hI _ _ hag h2⟩
      · obtain ⟨w4, h1, h2⟩ := endx x .done (some c) w' (toSt _ hr hfit) (by simp)
        exact ⟨some c, w4, h1, hstop D c n x hle hI _ _ hag h2⟩

theorem VC.rangeFunc {α : Type} {gop : Operand} {ps : Array Tmp} {asg body : Code} {gf : FuncId} {lb : List Value} {Cap : World → Prop} {xs : List (List Value)} (F : α → List Res) (I : Nat → α → Prop) (Ix : Code → Nat → α → Prop) (x0 : α) (envb : List Value → Env)
    (hg : ev env gop = some (.func (.func gf) #[] lb.toArray)) (hf : IsFn P gf) (hseq : SeqC P gf lb Cap xs) (hF0 : ∀ w, St β L w → St β (F x0) w) (h0 : I 0 x0)
    (hps : ∀ vs, vs ∈ xs → vs.length = ps.size) (hpN : ps.toList.all (fun t => Nat.blt t N) = true)
    (hCap : ∀ n x w, I n x → (∀ (i : Nat) (r : Res), (F x)[i]? = some r → r.inv w) → Cap w)
    (hasg : ∀ (n : Nat) (x : α) (vs : List Value) l T w1, I n x → xs[n]? = some vs → St β (F x ++ T) w1 → VC P (some l) ⟨w1, fpL (F x ++ T)⟩ N [] (penv ps vs ++ env) (F x ++ T) asg (AP ⟨w1, fpL (F x ++ T)⟩ N (envb vs) (F x ++ T)))
    (hbody : ∀ (n : Nat) (x : α) (vs : List Value) l T w1, I n x → xs[n]? = some vs → St β (F x ++ T) w1 → VC P (some l) ⟨w1, fpL (F x ++ T)⟩ N [] (envb vs) (F x ++ T) body (RB ⟨w1, fpL (F x ++ T)⟩ F T (I (n + 1)) (fun c => Ix c (n + 1))))
    (hdone : ∀ D x, I xs.length x → VE β N [mark D] env (F x ++ [dR D]) .normal Q)
    (hstop : ∀ D c n x, n ≤ xs.length → Ix c n x → VC P none β N [mark D] env (F x ++ [dR D]) c Q) :
    VC P none β N [] env L (.rangeFunc gop ps asg body) Q :=
  VC.rangeFuncF F I Ix x0 envb hg hf hseq hF0 h0 hps hpN (fun n x w h1 h2 _ => hCap n x w h1 h2) hasg hbody hdone hstop

/-- The end of a function that has ranged over a function. -/
theorem VE.resD (i : Nat) {fn : Func} {R : Ending → World → Prop} {xs : List ResultVar} {vs : List Value} {D : Nat} {LF : List Res} (hr : fn.results = xs.toArray) (hi : L[i]? = some (dR D)) (hL : L.set i (blk D (.deferred none)) = LF) (h : RVs P β LF env xs vs)
    (k : ∀ w, St β LF w → R (.returned (resV vs)) w) : VE β N [mark D] env L .ret (FP P fn R) := by
  intro a w ha hw
  show LeavesInM (Wf none) 0 P fn a.tmps R a.defers .returning w
  rw [ha.dfr]
  have hd : w.heap[D]? = some (.deferred (some [])) := hw.inv i _ hi
  have hs := hw.obj (o' := .deferred none) i hi
  rw [hL] at hs
  refine ⟨by simp, .inl ⟨D, _, rfl, run_takeDeferred hd, ?_⟩⟩
  exact ⟨_, run_results (ds := []) (a := { tmps := a.tmps, defers := [] }) hr ⟨ha.size, rfl, ha.get⟩ hs h, k _ hs⟩
end
end Go.SL
