/-
  A small program logic over the guide's weakest preconditions: what a frame's slots hold is a list of pairs, what the call owns is a list of resources. No program stands in this text.
  Regions whose order is drawn: whatever order the edges allow, operations that leave the resources as they are give what they give in the text's order.
  Regions whose order is drawn and that make or write memory: the operations that do so stand in one chain; the others may come at any time that the edges allow.
  More operations: comparing structs of ints, arrays, function values, slices that the call makes, append, maps.
  Ranges over functions: what an iterator promises, a call of yield, the statement.
  Sets of ints: maps from int to bool whose values are all true.
  Loops and cuts whose unchanging slots and resources are read off the state ahead.
  Guards whose truth is known: an operation that is left out, or runs as if it had no guard. Resources in another order.
-/
import Derived.WalkKit
import Derived.RangeFuncLeaves
import Derived.RangeFuncIn
import Derived.RangeFuncRecord
import Derived.OrdersIn
import Derived.TacticsIn

set_option linter.unusedSimpArgs false
namespace Go.SL
set_option linter.unusedVariables false
open Go.RowKit

/-! ### Slots -/
abbrev Env := List (Nat × Value)

def ev1 : Env → Nat → Option Value
  | [],_ => none
  | (j, v) :: r, i => bif Nat.beq i j then some v else ev1 r i

def ev (env : Env) : Operand → Option Value
  | .tmp t => ev1 env t
  | .const v => some v
  | .global g => some (.pointer (some ⟨g, 0, none⟩))
  | .func f => some (.func (.func f) #[] #[])

structure Ag (N : Nat) (ds : List Deferred) (env : Env) (a : Act) : Prop where
  size : a.tmps.size = N
  dfr : a.defers = ds
  get : ∀ i v, ev1 env i = some v → a.tmps[i]? = some v

theorem Ag.eval {N : Nat} {ds : List Deferred} {env : Env} {a : Act} (h : Ag N ds env a) {x : Operand} {v : Value} (hx : ev env x = some v) : a.eval x = v := by
  cases x with
  | tmp t => have := h.get t v hx; simp [Act.eval, this]
  | const c => simpa [ev, Act.eval] using hx
  | global g => simpa [ev, Act.eval] using hx
  | func f => simpa [ev, Act.eval] using hx

theorem ev1_cons_ne {env : Env} {i j : Nat} {v : Value} (h : i ≠ j) : ev1 ((j, v) :: env) i = ev1 env i := by
  have : Nat.beq i j = false := by
    cases hb : Nat.beq i j
    · rfl
    · exact absurd (Nat.eq_of_beq_eq_true hb) h
  simp [ev1, this]

theorem ev1_cons_eq {env : Env} {j : Nat} {v : Value} : ev1 ((j, v) :: env) j = some v := by
  have : Nat.beq j j = true := Nat.beq_refl j
  simp [ev1]

theorem Ag.put {N : Nat} {ds : List Deferred} {env : Env} {a : Act} (h : Ag N ds env a) {d : Nat} (hd : d < N) (v : Value) : Ag N ds ((d, v) :: env) (a.put (some d) v) := by
  refine ⟨by simp [Act.put, h.size], h.dfr, fun i u hi => ?_⟩
  by_cases e : i = d
  · subst e
    rw [ev1_cons_eq] at hi
    cases hi
    simp [Act.put, h.size, hd]
  · rw [ev1_cons_ne e] at hi
    have := h.get i u hi
    simp only [Act.put]
    rw [Array.getElem?_setIfInBounds_ne (Ne.symm e)]
    exact this

/-- Every pair of 'env'' stands in 'env'. -/
def Sub (env' env : Env) : Prop := ∀ i v, ev1 env' i = some v → ev1 env i = some v

theorem Ag.sub {N : Nat} {ds : List Deferred} {env env' : Env} {a : Act} (h : Ag N ds env a) (hs : Sub env' env) : Ag N ds env' a :=
  ⟨h.size, h.dfr, fun i v hi => h.get i v (hs i v hi)⟩

theorem Sub.nil {env : Env} : Sub [] env := fun i v h => by simp [ev1] at h
theorem Sub.cons {env env' : Env} {j : Nat} {v : Value} (h : ev1 env j = some v) (hs : Sub env' env) : Sub ((j, v) :: env') env := by
  intro i u hi
  by_cases e : i = j
  · subst e; rw [ev1_cons_eq] at hi; cases hi; exact h
  · rw [ev1_cons_ne e] at hi; exact hs i u hi

/-! ### Resources -/
structure Res where
  fp : Nat → Prop
  inv : World → Prop
  loc : ∀ {w w' : World}, (∀ k, fp k → w'.heap[k]? = w.heap[k]?) → inv w → inv w'

def blk (b : Nat) (o : Obj) : Res := ⟨fun k => k = b, fun w => w.heap[b]? = some o, fun h hi => (h b rfl).trans hi⟩

/-- What a call may rest on: the world as it begins, and which of its old blocks are handed to it. -/
structure Bs where
  w : World
  O : Nat → Prop
def bs (w : World) : Bs := ⟨w, fun _ => False⟩

structure St (β : Bs) (L : List Res) (w : World) : Prop where
  os : w.os = β.w.os
  tape : w.tape = β.w.tape
  output : w.output = β.w.output
  size : β.w.heap.size ≤ w.heap.size
  fr : ∀ k, k < β.w.heap.size → ¬ β.O k → w.heap[k]? = β.w.heap[k]?
  inv : ∀ (i : Nat) (r : Res), L[i]? = some r → r.inv w
  rng : ∀ (i : Nat) (r : Res), L[i]? = some r → ∀ k, r.fp k → (β.O k ∨ β.w.heap.size ≤ k) ∧ k < w.heap.size
  dis : ∀ (i j : Nat) (r s : Res), i ≠ j → L[i]? = some r → L[j]? = some s → ∀ k, r.fp k → ¬ s.fp k

open Go.RowKit

theorem St.refl (w : World) : St (bs w) [] w := ⟨rfl, rfl, rfl, Nat.le_refl _, fun _ _ _ => rfl, by simp, by simp, by simp⟩

theorem St.below {w0 w : World} {L : List Res} (h : St (bs w0) L w) : Below w0.heap.size w0 w := ⟨h.os, h.tape, h.output, h.size, fun k hk => h.fr k hk (fun f => f)⟩

/-- A world with the same heap and the same streams. -/
theorem St.same {β : Bs} {w w' : World} {L : List Res} (h : St β L w) (hh : w'.heap = w.heap) (ho : w'.os = w.os) (ht : w'.tape = w.tape) (hp : w'.output = w.output) : St β L w' := by
  refine ⟨by rw [ho, h.os], by rw [ht, h.tape], by rw [hp, h.output], by rw [hh]; exact h.size, fun k hk hO => by rw [hh]; exact h.fr k hk hO, ?_, ?_, h.dis⟩
  · exact fun i r hr => r.loc (fun k _ => by rw [hh]) (h.inv i r hr)
  · exact fun i r hr k hk => by rw [hh]; exact h.rng i r hr k hk

theorem St.drew {β : Bs} {w : World} {L : List Res} (h : St β L w) (n : Nat) : St β L { w with drawn := n } := h.same rfl rfl rfl rfl

/-- The blocks of some resources. -/
def fpL (L : List Res) : Nat → Prop := fun k => ∃ (i : Nat) (r : Res), L[i]? = some r ∧ r.fp k

/-- What a callee makes of the resources that it is handed. -/
theorem St.callG {β : Bs} {w w' : World} {L1 L2 R : List Res} {O : Nat → Prop} (h : St β (L1 ++ L2) w) (hO : ∀ k, O k → fpL L1 k) (k : St ⟨w, O⟩ R w') : St β (R ++ L2) w' := by
  have get1 : ∀ (i : Nat) (r : Res), L1[i]? = some r → (L1 ++ L2)[i]? = some r := fun i r hr => by
    rw [List.getElem?_append_left]
    · exact hr
    · rcases Nat.lt_or_ge i L1.length with q | q
      · exact q
      · simp [List.getElem?_eq_none q] at hr
  have get2 : ∀ (i : Nat) (r : Res), L2[i]? = some r → (L1 ++ L2)[L1.length + i]? = some r := fun i r hr => by
    rw [List.getElem?_append_right (by omega), show L1.length + i - L1.length = i by omega]; exact hr
  have lt1 : ∀ (i : Nat) (r : Res), L1[i]? = some r → i < L1.length := fun i r hr => by
    rcases Nat.lt_or_ge i L1.length with q | q
    · exact q
    · simp [List.getElem?_eq_none q] at hr
  have notO : ∀ (i : Nat) (r : Res), L2[i]? = some r → ∀ b, r.fp b → ¬ O b := fun i r hr b hb hob => by
    obtain ⟨j, s, hs, hsb⟩ := hO b hob
    exact h.dis j (L1.length + i) s r (by have := lt1 j s hs; omega) (get1 j s hs) (get2 i r hr) b hsb hb
  have keep : ∀ (i : Nat) (r : Res), L2[i]? = some r → ∀ b, r.fp b → w'.heap[b]? = w.heap[b]? := fun i r hr b hb => k.fr b (h.rng _ r (get2 i r hr) b hb).2 (notO i r hr b hb)
  have okO : ∀ b, O b → (β.O b ∨ β.w.heap.size ≤ b) := fun b hb => by
    obtain ⟨j, s, hs, hsb⟩ := hO b hb
    exact (h.rng j s (get1 j s hs) b hsb).1
  have rngR : ∀ (i : Nat) (r : Res), R[i]? = some r → ∀ b, r.fp b → (β.O b ∨ β.w.heap.size ≤ b) := fun i r hr b hb => by
    rcases (k.rng i r hr b hb).1 with q | q
    · exact okO b q
    · exact .inr (Nat.le_trans h.size q)
  refine ⟨k.os.trans h.os, k.tape.trans h.tape, k.output.trans h.output, Nat.le_trans h.size k.size, ?_, ?_, ?_, ?_⟩
  · intro b hb hbo
    refine (k.fr b (Nat.lt_of_lt_of_le hb h.size) (fun q => ?_)).trans (h.fr b hb hbo)
    rcases okO b q with r | r
    · exact hbo r
    · exact absurd hb (Nat.not_lt.2 r)
  · intro i r hr
    rw [List.getElem?_append] at hr
    split at hr
    · exact k.inv i r hr
    · exact r.loc (keep _ r hr) (h.inv _ r (get2 _ r hr))
  · intro i r hr b hb
    rw [List.getElem?_append] at hr
    split at hr
    · exact ⟨rngR i r hr b hb, (k.rng i r hr b hb).2⟩
    · have := h.rng _ r (get2 _ r hr) b hb; exact ⟨this.1, Nat.lt_of_lt_of_le this.2 k.size⟩
  · have cross : ∀ (i j : Nat) (r s : Res), R[i]? = some r → L2[j]? = some s → ∀ b, r.fp b → ¬ s.fp b := fun i j r s hr hs b hb hb' => by
      rcases (k.rng i r hr b hb).1 with q | q
      · exact notO j s hs b hb' q
      · have := (h.rng _ s (get2 j s hs) b hb').2; exact absurd this (Nat.not_lt.2 q)
    intro i j r s hij hr hs b hb hb'
    rw [List.getElem?_append] at hr hs
    split at hr
    · split at hs
      · exact k.dis i j r s hij hr hs b hb hb'
      · exact cross _ _ r s hr hs b hb hb'
    · split at hs
      · exact cross _ _ s r hs hr b hb' hb
      · exact h.dis (L1.length + (i - R.length)) (L1.length + (j - R.length)) r s (by omega) (get2 _ r hr) (get2 _ s hs) b hb hb'

/-- What a callee leaves: its own resources beside ours. -/
theorem St.call {β : Bs} {w w' : World} {L R : List Res} (h : St β L w) (k : St (bs w) R w') : St β (R ++ L) w' := St.callG (L1 := []) h (fun _ f => f.elim) k

theorem St.alloc {β : Bs} {w : World} {L : List Res} (h : St β L w) (o : Obj) : St β (blk w.heap.size o :: L) (w.alloc o) := by
  have hk : St (bs w) [blk w.heap.size o] (w.alloc o) := by
    refine ⟨rfl, rfl, rfl, by simp [bs], fun k hk _ => Below.heap_alloc _ _ _ hk, ?_, ?_, ?_⟩
    · intro i r hr
      cases i with
      | zero => simp at hr; subst hr; exact heap_alloc_new w o
      | succ i => simp at hr
    · intro i r hr k hk
      cases i with
      | zero => simp at hr; subst hr; simp only [blk] at hk; subst hk; exact ⟨.inr (Nat.le_refl _), by simp⟩
      | succ i => simp at hr
    · intro i j r s hij hr hs
      cases i with
      | zero =>
        cases j with
        | zero => exact absurd rfl hij
        | succ j => simp at hs
      | succ i => simp at hr
  exact h.call hk

/-- One block is written. -/
theorem St.upd {β : Bs} {w w' : World} {L L' : List Res} {i b : Nat} {o o' : Obj} (h : St β L w) (hi : L[i]? = some (blk b o)) (hL : L' = L.set i (blk b o'))
    (hb : w'.heap[b]? = some o') (hk : ∀ k, k ≠ b → w'.heap[k]? = w.heap[k]?) (hsz : w'.heap.size = w.heap.size) (ho : w'.os = w.os) (ht : w'.tape = w.tape) (hp : w'.output = w.output) : St β L' w' := by
  have hlt : i < L.length := by
    rcases Nat.lt_or_ge i L.length with h' | h'
    · exact h'
    · simp [List.getElem?_eq_none h'] at hi
  have hr0 := h.rng i _ hi b rfl
  have get : ∀ (j : Nat) (r : Res), L'[j]? = some r → (j = i ∧ r = blk b o') ∨ (j ≠ i ∧ L[j]? = some r) := by
    intro j r hr
    subst hL
    by_cases e : j = i
    · subst e; simp [hlt] at hr; exact .inl ⟨rfl, hr.symm⟩
    · rw [List.getElem?_set_ne (Ne.symm e)] at hr; exact .inr ⟨e, hr⟩
  refine ⟨by rw [ho, h.os], by rw [ht, h.tape], by rw [hp, h.output], by rw [hsz]; exact h.size, fun k hk' hO => ?_, ?_, ?_, ?_⟩
  · rw [hk k (fun e => by subst e; rcases hr0.1 with q | q; exact hO q; omega)]; exact h.fr k hk' hO
  · intro j r hr
    rcases get j r hr with ⟨rfl, rfl⟩ | ⟨hj, hr'⟩
    · exact hb
    · exact r.loc (fun k hk' => hk k (fun e => by subst e; exact h.dis j i _ _ hj hr' hi k hk' rfl)) (h.inv j r hr')
  · intro j r hr k hk'
    rw [hsz]
    rcases get j r hr with ⟨rfl, rfl⟩ | ⟨hj, hr'⟩
    · simp only [blk] at hk'; subst hk'; exact hr0
    · exact h.rng j r hr' k hk'
  · intro j l r s hjl hr hs k hk1 hk2
    rcases get j r hr with ⟨rfl, rfl⟩ | ⟨hj, hr'⟩ <;> rcases get l s hs with ⟨rfl, rfl⟩ | ⟨hl, hs'⟩
    · exact hjl rfl
    · exact h.dis j l _ _ hjl hi hs' k hk1 hk2
    · exact h.dis j l _ _ hjl hr' hi k hk1 hk2
    · exact h.dis j l _ _ hjl hr' hs' k hk1 hk2

/-- Some of the resources, in another order. -/
theorem St.pick {β : Bs} {w : World} {L L' : List Res} (is : List Nat) (h : St β L w) (hn : is.Nodup) (hl : L'.length = is.length) (hL : ∀ j, j < is.length → L'[j]? = L[is.getD j 0]?) : St β L' w := by
  have get : ∀ (j : Nat) (r : Res), L'[j]? = some r → j < is.length ∧ L[is.getD j 0]? = some r := by
    intro j r hr
    have hj : j < L'.length := by
      rcases Nat.lt_or_ge j L'.length with h' | h'
      · exact h'
      · simp [List.getElem?_eq_none h'] at hr
    exact ⟨by omega, by rw [← hL j (by omega)]; exact hr⟩
  refine ⟨h.os, h.tape, h.output, h.size, h.fr, fun j r hr => h.inv _ r (get j r hr).2, fun j r hr => h.rng _ r (get j r hr).2, fun j l r s hjl hr hs => ?_⟩
  obtain ⟨hj, hr'⟩ := get j r hr
  obtain ⟨hl', hs'⟩ := get l s hs
  refine h.dis _ _ r s (fun e => hjl ?_) hr' hs'
  have hn' := List.pairwise_iff_getElem.1 hn
  have e' : is[j] = is[l] := by simpa [List.getD, List.getElem?_eq_getElem hj, List.getElem?_eq_getElem hl'] using e
  rcases Nat.lt_trichotomy j l with c | c | c
  · exact absurd e' (hn' j l hj hl' c)
  · exact c
  · exact absurd e'.symm (hn' l j hl' hj c)

theorem St.nil {β : Bs} {w : World} {L : List Res} (h : St β L w) : St β [] w := h.pick [] (by simp) rfl (by simp)

/-! ### The judgements -/
/-- No fence; in a round of a range over a function, or in none. -/
def Wf (ro : Option Nat) : Fence := { Fence.wide with round := ro }
theorem callsIn_wf {ro : Option Nat} {n : Nat} {P : Program} {f : FuncId} {args : Array Value} {w : World} {R : Ending → World → Prop} : CallsIn (Wf ro) n P f args w R ↔ Calls P f args w R :=
  ⟨fun h => (callsIn_wide (n := n)).1 h, fun h => (callsIn_wide (n := n)).2 h⟩

section
variable (P : Program) (ro : Option Nat) (β : Bs) (N : Nat) (ds : List Deferred)

def VC (env : Env) (L : List Res) (c : Code) (Q : Exit → Act → World → Prop) : Prop := ∀ a w, Ag N ds env a → St β L w → c.wpIn (Wf ro) 0 P Q a w
def VE (env : Env) (L : List Res) (e : Exit) (Q : Exit → Act → World → Prop) : Prop := ∀ a w, Ag N ds env a → St β L w → Q e a w
def VO (ops : Array Oper) (env : Env) (L : List Res) (l : List Oper) (Q : Exit → Act → World → Prop) : Prop := ∀ a w, Ag N ds env a → St β L w → wpListIn (Wf ro) 0 P ops Q l a w
end

section
variable {P : Program} {ro : Option Nat} {β : Bs} {ds : List Deferred} {N : Nat} {env : Env} {L : List Res} {Q : Exit → Act → World → Prop}

theorem VC.seq {x y : Code} (h : VC P ro β N ds env L x (Exit.then (y.wpIn (Wf ro) 0 P Q) Q)) : VC P ro β N ds env L (.seq x y) Q := fun a w ha hw => wpIn_seq (h a w ha hw)
theorem VC.skip (h : VE β N ds env L .normal Q) : VC P ro β N ds env L .skip Q := fun a w ha hw => wpIn_skip (h a w ha hw)
theorem VC.ret (h : VE β N ds env L .ret Q) : VC P ro β N ds env L .ret Q := fun a w ha hw => wpIn_ret (h a w ha hw)
theorem VC.exit {id : Nat} (h : VE β N ds env L (.exit id) Q) : VC P ro β N ds env L (.exit id) Q := fun a w ha hw => wpIn_exit (h a w ha hw)
theorem VC.block {id : Nat} {c : Code} (h : VC P ro β N ds env L c (Exit.inBlock id Q)) : VC P ro β N ds env L (.block id c) Q := fun a w ha hw => wpIn_block (h a w ha hw)
theorem VE.seqN {y : Code} (h : VC P ro β N ds env L y Q) : VE β N ds env L .normal (Exit.then (y.wpIn (Wf ro) 0 P Q) Q) := fun a w ha hw => h a w ha hw
theorem VE.thenN {K : Act → World → Prop} (h : ∀ a w, Ag N ds env a → St β L w → K a w) : VE β N ds env L .normal (Exit.then K Q) := fun a w ha hw => h a w ha hw
theorem VE.thenR {K : Act → World → Prop} (h : VE β N ds env L .ret Q) : VE β N ds env L .ret (Exit.then K Q) := fun a w ha hw => h a w ha hw
theorem VE.thenX {K : Act → World → Prop} {id : Nat} (h : VE β N ds env L (.exit id) Q) : VE β N ds env L (.exit id) (Exit.then K Q) := fun a w ha hw => h a w ha hw
theorem VE.inN {id : Nat} (h : VE β N ds env L .normal Q) : VE β N ds env L .normal (Exit.inBlock id Q) := fun a w ha hw => h a w ha hw
theorem VE.inR {id : Nat} (h : VE β N ds env L .ret Q) : VE β N ds env L .ret (Exit.inBlock id Q) := fun a w ha hw => h a w ha hw
theorem VE.inX {id : Nat} (h : VE β N ds env L .normal Q) : VE β N ds env L (.exit id) (Exit.inBlock id Q) := fun a w ha hw => by
  show Exit.inBlock id Q (.exit id) a w
  simp only [Exit.inBlock, if_true]; exact h a w ha hw
/-- What a Bool says. -/
class IsP (b : Bool) (p : outParam Prop) : Prop where
  iff : b = true ↔ p
instance IsP.dec (p : Prop) [Decidable p] : IsP (decide p) p := ⟨by simp⟩
instance (priority := low) IsP.id (b : Bool) : IsP b (b = true) := ⟨Iff.rfl⟩
instance IsP.not (b : Bool) (p : Prop) [h : IsP b p] : IsP (!b) (¬ p) := ⟨by have := h.iff; cases b <;> simp_all⟩
instance IsP.and (b c : Bool) (p q : Prop) [h : IsP b p] [k : IsP c q] : IsP (b && c) (p ∧ q) := ⟨by have := h.iff; have := k.iff; cases b <;> cases c <;> simp_all⟩
instance IsP.or (b c : Bool) (p q : Prop) [h : IsP b p] [k : IsP c q] : IsP (b || c) (p ∨ q) := ⟨by have := h.iff; have := k.iff; cases b <;> cases c <;> simp_all⟩
theorem IsP.yes {b : Bool} {p : Prop} (h : IsP b p) (hb : b = true) : p := h.iff.1 hb
theorem IsP.no {b : Bool} {p : Prop} (h : IsP b p) (hb : b = false) : ¬ p := fun hp => by rw [h.iff.2 hp] at hb; cases hb

theorem VC.cond {c : Operand} {x y : Code} {b : Bool} {p : Prop} (hc : ev env c = some (.bool b)) [hp : IsP b p] (ht : p → VC P ro β N ds env L x Q) (hf : ¬ p → VC P ro β N ds env L y Q) : VC P ro β N ds env L (.cond c x y) Q :=
  fun a w ha hw => wpIn_cond_split (ha.eval hc) (fun hb => ht (hp.yes hb) a w ha hw) (fun hb => hf (hp.no hb) a w ha hw)

theorem VE.weak {env' : Env} {L' : List Res} {e : Exit} (he : Sub env' env) (hL : ∀ w, St β L w → St β L' w) (h : VE β N ds env' L' e Q) : VE β N ds env L e Q := fun a w ha hw => h a w (ha.sub he) (hL w hw)

theorem wp_loop_n {P : Program} {ro : Option Nat} {c : Code} {Q : Exit → Act → World → Prop} (I : Nat → Act → World → Prop) (n0 : Nat) {a : Act} {w : World} (h0 : I n0 a w)
    (hr : ∀ n a w, I n a w → c.wpIn (Wf ro) 0 P (Exit.then (fun a w => ∃ m, m < n ∧ I m a w) Q) a w) : (Code.loop c).wpIn (Wf ro) 0 P Q a w := by
  intro b k cs hro hb hrm
  have key : ∀ n a w, I n a w → ∃ e a' w', Q e a' w' ∧ ArrivesIn (Machine.fenced P (Wf ro)) P (lone (b.atR a (.code c :: .inLoop c :: k)) cs w) b k cs e a' w' := by
    intro n
    induction n using Nat.strongRecOn with
    | _ n ih =>
      intro a w hI
      obtain ⟨e, a₁, w₁, hq, harr⟩ := hr n a w hI b (.inLoop c :: k) cs hro hb hrm
      cases e with
      | normal =>
        obtain ⟨m, hlt, hI₁⟩ := hq
        obtain ⟨e₂, a₂, w₂, hq₂, harr₂⟩ := ih m hlt a₁ w₁ hI₁
        exact ⟨e₂, a₂, w₂, hq₂, .of_steps (StepsIn.trans harr (.one (fenced_calm hb hrm rfl) stepR_inLoop)) harr₂⟩
      | exit id => exact ⟨_, a₁, w₁, hq, .pass (x := .inLoop c) rfl (fun _ _ => .inl (by simp)) harr⟩
      | goto l => exact ⟨_, a₁, w₁, hq, .pass (x := .inLoop c) rfl (fun _ _ => .inl (by simp)) harr⟩
      | ret => exact ⟨_, a₁, w₁, hq, .pass (x := .inLoop c) rfl (fun _ _ => .inl (by simp)) harr⟩
      | panic ch => exact ⟨_, a₁, w₁, hq, .pass (x := .inLoop c) rfl (fun _ _ => .inl (by simp)) harr⟩
      | outgrown => exact ⟨_, a₁, w₁, hq, .pass (x := .inLoop c) rfl (fun _ _ => .inl (by simp)) harr⟩
  obtain ⟨e, a', w', hq, harr⟩ := key n0 a w h0
  exact ⟨e, a', w', hq, .of_steps (.one (fenced_calm hb hrm rfl) stepR_loop) harr⟩

/-- A loop: 'E', 'F' say what slots and resources hold at a round's head, by a ghost 'x' that meets 'I'. -/
theorem VC.loop {α : Type} (E : α → Env) (F : α → List Res) (I : α → Prop) (μ : α → Nat) (x0 : α) {c : Code} (h0 : I x0) (hE : Sub (E x0) env) (hF : ∀ w, St β L w → St β (F x0) w)
    (hr : ∀ x, I x → VC P ro β N ds (E x) (F x) c (Exit.then (fun a w => ∃ y, I y ∧ μ y < μ x ∧ Ag N ds (E y) a ∧ St β (F y) w) Q)) : VC P ro β N ds env L (.loop c) Q := by
  intro a w ha hw
  refine wp_loop_n (fun n a w => ∃ x, I x ∧ μ x = n ∧ Ag N ds (E x) a ∧ St β (F x) w) (μ x0) ⟨x0, h0, rfl, ha.sub hE, hF w hw⟩ ?_
  rintro n a w ⟨x, hI, rfl, hA, hS⟩
  refine Code.wpIn_mono ?_ (hr x hI a w hA hS)
  intro e a w q
  cases e with
  | normal => obtain ⟨y, h1, h2, h3, h4⟩ := q; exact ⟨μ y, h2, y, h1, rfl, h3, h4⟩
  | _ => exact q

/-! ### Operations that leave the resources as they are -/
/-- What an operation comes to: a value; a call's; a round's (a call of yield). -/
def Yl (P : Program) (β : Bs) (L : List Res) (o : Oper) (a : Act) (w : World) (v : Value) : Prop :=
  (∃ w', (execOp a.eval o).run P w = .ok (.value v) w' ∧ St β L w') ∨
  (∃ f args, (execOp a.eval o).run P w = .ok (.enter f args) w ∧ Calls P f args w fun e w' => e = .returned v ∧ St β L w')

def LO (P : Program) (β : Bs) (env : Env) (L : List Res) (o : Oper) (v : Value) : Prop :=
  ∀ (a : Act) (w : World), (∀ x, x ∈ o.op.operands → ∀ u, ev env x = some u → a.eval x = u) → St β L w → Yl P β L o a w v

theorem semAt_run {ro : Option Nat} {ρ : Operand → Value} {o : Oper} {w w' : World} {nx : Next} (h : (execOp ρ o).run P w = .ok nx w') (hn : ∀ d, nx ≠ .defer d) : (o.semAt ro ρ).run P w = .ok nx w' := by
  cases ro with
  | none => exact h
  | some l =>
    by_cases hd : ∃ c, o.op = .defer c
    · exfalso
      obtain ⟨c, hc⟩ := hd
      simp only [execOp, hc, Sem.run_bind, Sem.run_pure] at h
      cases hr : (resolve ρ c o.type).run P w with
      | ok d w1 => rw [hr] at h; simp only [Result.andThen_ok, Result.ok.injEq] at h; exact hn d h.1.symm
      | halt x w1 => rw [hr] at h; simp at h
    · rw [Oper.semAt_some l ρ o (fun c hc => hd ⟨c, hc⟩)]; exact h

theorem Yl.wp {o : Oper} {a : Act} {w : World} {v : Value} {K : Act → World → Prop} (h : Yl P β L o a w v) (k : ∀ w', St β L w' → K (a.put o.dst v) w') : o.wpIn (Wf ro) 0 P a w K Q := by
  refine ⟨fun _ _ => True.intro, ?_⟩
  rcases h with ⟨w', hr, hs⟩ | ⟨f, args, hr, hc⟩
  · have e : (o.semAt (Wf ro).round a.eval).run P w = .ok (.value v) w' := semAt_run hr (by simp)
    rw [e]; exact k w' hs
  · have e : (o.semAt (Wf ro).round a.eval).run P w = .ok (.enter f args) w := semAt_run hr (by simp)
    rw [e]
    refine ⟨fun h => by simp [Wf, Fence.wide] at h, callsIn_wf.2 (hc.mono ?_)⟩
    rintro e w' ⟨rfl, hs⟩
    exact k w' hs

theorem VO.nil {ops : Array Oper} (h : VE β N ds env L .normal Q) : VO P ro β N ds ops env L [] Q := fun a w ha hw => h a w ha hw

theorem VC.reg {id : Nat} {l : List Oper} (h : VO P ro β N ds l.toArray env L l Q) : VC P ro β N ds env L (.region id l.toArray false) Q :=
  fun a w ha hw => wpIn_region_lit (h a w ha hw)

theorem VO.l {ops : Array Oper} {d : Nat} {op : Op} {ty : TypeId} {pos : String} {aft : Array Edge} {rest : List Oper} {v : Value} (h : LO P β env L ⟨some d, op, ty, pos, aft, none⟩ v) (hd : Nat.blt d N = true)
    (k : VO P ro β N ds ops ((d, v) :: env) L rest Q) : VO P ro β N ds ops env L (⟨some d, op, ty, pos, aft, none⟩ :: rest) Q := by
  intro a w ha hw
  refine wpListIn_plain rfl fun K hK => ?_
  exact (h a w (fun x _ u hu => ha.eval hu) hw).wp fun w' hs => hK _ _ (k _ w' (ha.put (Nat.le_of_ble_eq_true hd) v) hs)

/-- A value that stands only if a guard let its operation run. -/
def gv (c : Bool) (v : Value) : Value := if c then v else undef
theorem gvt {c : Bool} {v : Value} (h : c = true) : gv c v = v := by simp [gv, h]
/-- The guard's slot holds 'v'; the operation is wanted just if 'c'. -/
def GD (v : Value) (want c : Bool) : Prop := (c = true → v = .bool want) ∧ (c = false → v ≠ .bool want)
theorem GD.t (b : Bool) : GD (.bool b) true b := ⟨fun h => by rw [h], fun h => by rw [h]; simp⟩
theorem GD.f (b : Bool) : GD (.bool b) false (!b) := ⟨fun h => by cases b <;> simp_all, fun h => by cases b <;> simp_all⟩
theorem GD.nt (c b : Bool) : GD (gv c (.bool b)) true (c && b) := ⟨fun h => by cases c <;> cases b <;> simp_all [gv], fun h => by cases c <;> cases b <;> simp_all [gv, undef]⟩
def vb : Value → Option Bool
  | .bool b => some b
  | _ => none

theorem vb_ne {u : Value} {want : Bool} (h : u ≠ .bool want) : (vb u == some want) = false := by
  cases u <;> simp_all [vb]

theorem VO.lg {ops : Array Oper} {d j t : Nat} {want c : Bool} {op : Op} {ty : TypeId} {pos : String} {aft : Array Edge} {rest : List Oper} {v u : Value} (hj : (ops[j]?).bind (·.dst) = some t) (ht : ev1 env t = some u) (hg : GD u want c)
    (h : c = true → LO P β env L ⟨some d, op, ty, pos, aft, some (j, want)⟩ v) (hd : Nat.blt d N = true)
    (k : VO P ro β N ds ops ((d, gv c v) :: env) L rest Q) : VO P ro β N ds ops env L (⟨some d, op, ty, pos, aft, some (j, want)⟩ :: rest) Q := by
  intro a w ha hw
  have ht' := ha.get t u ht
  have hy : yielded ops a.tmps j = vb u := by
    unfold yielded; rw [hj]; simp only [Option.bind_some, ht']; cases u <;> rfl
  refine wpListIn_step fun K hK => ?_
  simp only [Region.wanted, hy]
  cases c with
  | true =>
    have hu := hg.1 rfl
    subst hu
    simp only [vb, beq_self_eq_true, if_true]
    exact (h rfl a w (fun x _ u hu => ha.eval hu) hw).wp fun w' hs => hK _ _ (by have := k _ w' (ha.put (Nat.le_of_ble_eq_true hd) (gv true v)) hs; simpa [gv] using this)
  | false =>
    have hu := hg.2 rfl
    have hne : (vb u == some want) = false := by
      cases u <;> simp_all [vb]
    simp only [hne, Bool.false_eq_true, if_false]
    refine ⟨fun _ _ => True.intro, hK _ _ ?_⟩
    have := k _ w (ha.put (Nat.le_of_ble_eq_true hd) (gv false v)) hw
    simpa [gv] using this

/-! What an operand holds. -/
def OV (env : Env) (x : Operand) (v : Value) : Prop := ∃ u, ev env x = some u ∧ u = v
theorem OV.r {x : Operand} {v : Value} (h : ev env x = some v) : OV env x v := ⟨v, h, rfl⟩
theorem OV.g {x : Operand} {v : Value} {c : Bool} (hc : c = true) (h : ev env x = some (gv c v)) : OV env x v := ⟨_, h, gvt hc⟩

variable {d : Option Nat} {ty : TypeId} {pos : String} {aft : Array Edge} {g : Option (Nat × Bool)}

theorem LO.of_run {o : Oper} {v : Value} (h : ∀ (a : Act) (w : World), (∀ x, x ∈ o.op.operands → ∀ u, OV env x u → a.eval x = u) → St β L w → ∃ w', (execOp a.eval o).run P w = .ok (.value v) w' ∧ St β L w') : LO P β env L o v :=
  fun a w hx hw => .inl (h a w (fun x hm u ⟨u', hu, e⟩ => e ▸ hx x hm u' hu) hw)

theorem LO.mv {x : Operand} {v : Value} (hx : OV env x v) : LO P β env L ⟨d, .move x, ty, pos, aft, g⟩ v :=
  .of_run fun a w h hw => ⟨w, by simp [execOp, h x (by simp [Op.operands]) v hx], hw⟩
theorem LO.as {x : Operand} {v : Value} (hx : OV env x v) : LO P β env L ⟨d, .assign x, ty, pos, aft, g⟩ v :=
  .of_run fun a w h hw => ⟨w, by simp [execOp, h x (by simp [Op.operands]) v hx], hw⟩

section
variable {x y : Operand} {xT yT : TypeId} {k : IntKind} {m n r : Int}

theorem LO.add (hx : OV env x (.int k m)) (hy : OV env y (.int k n)) (hr : k.wrap (m + n) = r) : LO P β env L ⟨d, .binOp .add xT x y yT, ty, pos, aft, g⟩ (.int k r) :=
  .of_run fun a w h hw => ⟨w, by simp [execOp, h x (by simp [Op.operands]) _ hx, h y (by simp [Op.operands]) _ hy, eqGuard, binOp, Op.intArith, hr], hw⟩
theorem LO.sub (hx : OV env x (.int k m)) (hy : OV env y (.int k n)) (hr : k.wrap (m - n) = r) : LO P β env L ⟨d, .binOp .sub xT x y yT, ty, pos, aft, g⟩ (.int k r) :=
  .of_run fun a w h hw => ⟨w, by simp [execOp, h x (by simp [Op.operands]) _ hx, h y (by simp [Op.operands]) _ hy, eqGuard, binOp, Op.intArith, hr], hw⟩
theorem LO.mul (hx : OV env x (.int k m)) (hy : OV env y (.int k n)) (hr : k.wrap (m * n) = r) : LO P β env L ⟨d, .binOp .mul xT x y yT, ty, pos, aft, g⟩ (.int k r) :=
  .of_run fun a w h hw => ⟨w, by simp [execOp, h x (by simp [Op.operands]) _ hx, h y (by simp [Op.operands]) _ hy, eqGuard, binOp, Op.intArith, hr], hw⟩
theorem LO.quo (hx : OV env x (.int k m)) (hy : OV env y (.int k n)) (h0 : n ≠ 0) (hr : k.wrap (m.tdiv n) = r) : LO P β env L ⟨d, .binOp .quo xT x y yT, ty, pos, aft, g⟩ (.int k r) :=
  .of_run fun a w h hw => ⟨w, by simp [execOp, h x (by simp [Op.operands]) _ hx, h y (by simp [Op.operands]) _ hy, eqGuard, binOp, Op.intDiv, h0, hr], hw⟩
theorem LO.rem (hx : OV env x (.int k m)) (hy : OV env y (.int k n)) (h0 : n ≠ 0) : LO P β env L ⟨d, .binOp .rem xT x y yT, ty, pos, aft, g⟩ (.int k (m.tmod n)) :=
  .of_run fun a w h hw => ⟨w, by simp [execOp, h x (by simp [Op.operands]) _ hx, h y (by simp [Op.operands]) _ hy, eqGuard, binOp, Op.intDiv, h0], hw⟩
theorem LO.lt (hx : OV env x (.int k m)) (hy : OV env y (.int k n)) : LO P β env L ⟨d, .binOp .lss xT x y yT, ty, pos, aft, g⟩ (.bool (decide (m < n))) :=
  .of_run fun a w h hw => ⟨w, by simp [execOp, h x (by simp [Op.operands]) _ hx, h y (by simp [Op.operands]) _ hy, eqGuard, binOp, Op.intCmp], hw⟩
theorem LO.le (hx : OV env x (.int k m)) (hy : OV env y (.int k n)) : LO P β env L ⟨d, .binOp .leq xT x y yT, ty, pos, aft, g⟩ (.bool (decide (m ≤ n))) :=
  .of_run fun a w h hw => ⟨w, by simp [execOp, h x (by simp [Op.operands]) _ hx, h y (by simp [Op.operands]) _ hy, eqGuard, binOp, Op.intCmp], hw⟩
theorem LO.gt (hx : OV env x (.int k m)) (hy : OV env y (.int k n)) : LO P β env L ⟨d, .binOp .gtr xT x y yT, ty, pos, aft, g⟩ (.bool (decide (n < m))) :=
  .of_run fun a w h hw => ⟨w, by simp [execOp, h x (by simp [Op.operands]) _ hx, h y (by simp [Op.operands]) _ hy, eqGuard, binOp, Op.intCmp], hw⟩
theorem LO.ge (hx : OV env x (.int k m)) (hy : OV env y (.int k n)) : LO P β env L ⟨d, .binOp .geq xT x y yT, ty, pos, aft, g⟩ (.bool (decide (n ≤ m))) :=
  .of_run fun a w h hw => ⟨w, by simp [execOp, h x (by simp [Op.operands]) _ hx, h y (by simp [Op.operands]) _ hy, eqGuard, binOp, Op.intCmp], hw⟩
theorem LO.eq (hx : OV env x (.int k m)) (hy : OV env y (.int k n)) : LO P β env L ⟨d, .binOp .eql xT x y yT, ty, pos, aft, g⟩ (.bool (decide (m = n))) :=
  .of_run fun a w h hw => ⟨w, by simp [execOp, h x (by simp [Op.operands]) _ hx, h y (by simp [Op.operands]) _ hy, eqGuard, binOp, Op.intCmp]; rfl, hw⟩
theorem LO.ne (hx : OV env x (.int k m)) (hy : OV env y (.int k n)) : LO P β env L ⟨d, .binOp .neq xT x y yT, ty, pos, aft, g⟩ (.bool (!decide (m = n))) :=
  .of_run fun a w h hw => ⟨w, by simp [execOp, h x (by simp [Op.operands]) _ hx, h y (by simp [Op.operands]) _ hy, eqGuard, binOp, Op.intCmp, bne]; rfl, hw⟩
theorem LO.not {b : Bool} (hx : OV env x (.bool b)) : LO P β env L ⟨d, .unOp .not xT x, ty, pos, aft, g⟩ (.bool (!b)) :=
  .of_run fun a w h hw => ⟨w, by simp [execOp, h x (by simp [Op.operands]) _ hx, Op.unary], hw⟩
theorem LO.neg (hx : OV env x (.int k m)) (hr : k.wrap (-m) = r) : LO P β env L ⟨d, .unOp .neg xT x, ty, pos, aft, g⟩ (.int k r) :=
  .of_run fun a w h hw => ⟨w, by simp [execOp, h x (by simp [Op.operands]) _ hx, Op.unary, Op.intArith, hr], hw⟩
end

theorem LO.pkA {c x y : Operand} {b e : Bool} {q : Bool} (hc : OV env c (.bool b)) (hx : ev env x = some (gv e (.bool q))) (he : e = b) (hy : OV env y (.bool false)) : LO P β env L ⟨d, .pick c x y, ty, pos, aft, g⟩ (.bool (b && q)) :=
  .of_run fun a w h hw => ⟨w, by
    subst he
    simp [execOp, h c (by simp [Op.operands]) _ hc, h y (by simp [Op.operands]) _ hy, h x (by simp [Op.operands]) _ (.r hx), asBool]
    cases e <;> simp [gv], hw⟩
theorem LO.pkO {c x y : Operand} {b e : Bool} {q : Bool} (hc : OV env c (.bool b)) (hx : OV env x (.bool true)) (hy : ev env y = some (gv e (.bool q))) (he : e = !b) : LO P β env L ⟨d, .pick c x y, ty, pos, aft, g⟩ (.bool (b || q)) :=
  .of_run fun a w h hw => ⟨w, by
    subst he
    simp [execOp, h c (by simp [Op.operands]) _ hc, h x (by simp [Op.operands]) _ hx, h y (by simp [Op.operands]) _ (.r hy), asBool]
    cases b <;> simp [gv], hw⟩

/-! ### Types -/
def IsAgg (P : Program) (T n : Nat) : Prop := (∃ d, P.underlying T = some d ∧ (match d with | .struct _ | .array _ _ => true | _ => false) = true) ∧ (P.info? T).map (·.size) = some n
def IsOne (P : Program) (T : Nat) : Prop := (∃ d, P.underlying T = some d ∧ (match d with | .struct _ | .array _ _ => true | _ => false) = false) ∧ (P.info? T).map (·.size) = some 1

/-- The cells from 'p' on hold 'vs'. -/
def Cells (w : World) (p : Addr) (vs : List Value) : Prop := ∀ j v, vs[j]? = some v → w.cell? (p.add j) = some v

theorem run_isAgg {T n : Nat} (h : IsAgg P T n) (w : World) : (isAgg T).run P w = .ok true w := by
  obtain ⟨⟨d, hu, hd⟩,_⟩ := h
  unfold isAgg; rw [Sem.run_bind, run_underlying hu w]; cases d <;> simp_all
theorem run_isOne {T : Nat} (h : IsOne P T) (w : World) : (isAgg T).run P w = .ok false w := by
  obtain ⟨⟨d, hu, hd⟩,_⟩ := h
  unfold isAgg; rw [Sem.run_bind, run_underlying hu w]; cases d <;> simp_all
theorem run_size {T n : Nat} (h : (P.info? T).map (·.size) = some n) (w : World) : (sizeOf T).run P w = .ok n w := by
  cases hq : P.info? T with
  | none => simp [hq] at h
  | some i => simp [hq] at h; simp [sizeOf, typeInfo, hq, h]

theorem run_loadAgg {T n : Nat} (hT : IsAgg P T n) {w : World} {p : Addr} {vs : List Value} (hn : vs.length = n) (hc : Cells w p vs) : (loadVar T p).run P w = .ok (.agg vs.toArray) w := by
  subst hn
  have hl := run_loadCells_list (P := P) w p vs (fun j v hj => hc j v hj)
  simp [loadVar, Sem.run_bind, run_isAgg hT, run_size hT.2, hl]
theorem run_loadOne {T : Nat} (hT : IsOne P T) {w : World} {p : Addr} {v : Value} (hc : Cells w p [v]) : (loadVar T p).run P w = .ok v w := by
  have := hc 0 v rfl
  simp only [Addr.add, if_true] at this
  simp [loadVar, Sem.run_bind, run_isOne hT, this]

theorem LO.lda {x : Operand} {T n : Nat} {p : Addr} {vs : List Value} (hT : IsAgg P T n) (hx : OV env x (.pointer (some p))) (hc : ∀ w, St β L w → Cells w p vs) (hn : Nat.beq vs.length n = true) : LO P β env L ⟨d, .load T x, ty, pos, aft, g⟩ (.agg vs.toArray) :=
  .of_run fun a w h hw => ⟨w, by simp [execOp, h x (by simp [Op.operands]) _ hx, Instr.loadAt, Instr.sureAddr, run_loadAgg hT (Nat.eq_of_beq_eq_true hn) (hc w hw)], hw⟩
theorem LO.ld {x : Operand} {T : Nat} {p : Addr} {v : Value} (hT : IsOne P T) (hx : OV env x (.pointer (some p))) (hc : ∀ w, St β L w → Cells w p [v]) : LO P β env L ⟨d, .load T x, ty, pos, aft, g⟩ v :=
  .of_run fun a w h hw => ⟨w, by simp [execOp, h x (by simp [Op.operands]) _ hx, Instr.loadAt, Instr.sureAddr, run_loadOne hT (hc w hw)], hw⟩

/-- The cells of a block that is held. -/
theorem cells_blk (i : Nat) {b off : Nat} {C : Array Value} {E : TypeId} {fz : Nat × Nat} {vs : List Value} (hi : L[i]? = some (blk b (.cells C E fz))) (hv : ∃ r, C.toList.drop off = vs ++ r) :
    ∀ w, St β L w → Cells w ⟨b, off, none⟩ vs := by
  intro w hw j v hj
  have hb := hw.inv i _ hi
  simp only [blk] at hb
  obtain ⟨r, hr⟩ := hv
  have hadd : (⟨b, off, none⟩ : Addr).add j = ⟨b, off + j, none⟩ := by unfold Addr.add; split <;> simp_all
  rw [hadd]
  simp only [World.cell?, hb, Option.isSome_none, Bool.false_eq_true, if_false]
  have : C.toList[off + j]? = some v := by
    rw [← List.getElem?_drop, hr, List.getElem?_append_left (by
      rcases Nat.lt_or_ge j vs.length with h | h
      · exact h
      · simp [List.getElem?_eq_none h] at hj)]
    exact hj
  simpa using this

theorem cells_at {w : World} (hw : St β L w) (i : Nat) {b off : Nat} {C : Array Value} {E : TypeId} {fz : Nat × Nat} {vs : List Value} (hi : L[i]? = some (blk b (.cells C E fz))) (hv : ∃ r, C.toList.drop off = vs ++ r) : Cells w ⟨b, off, none⟩ vs :=
  cells_blk i hi hv w hw

/-- Cells that lay there when the call began. -/
theorem cells_keepO {p : Addr} {vs : List Value} (hO : ¬ β.O p.block) (h : Cells β.w p vs) : ∀ w, St β L w → Cells w p vs := by
  intro w hw j v hj
  have h0 := h j v hj
  have he : (p.add j).block = p.block := by unfold Addr.add; split <;> rfl
  have hb : (p.add j).block < β.w.heap.size := by
    rcases Nat.lt_or_ge (p.add j).block β.w.heap.size with h | h
    · exact h
    · simp [World.cell?, Array.getElem?_eq_none h] at h0
  rw [World.cell?_of_block (w := β.w) (hw.fr _ hb (by rw [he]; exact hO))]; exact h0

def FieldAt (P : Program) (S f off : Nat) : Prop := ∃ fs F, P.underlying S = some (.struct fs) ∧ fs[f]? = some F ∧ F.offset = off ∧ ∃ n, (P.info? F.type).map (·.size) = some (n + 1)

theorem LO.fa {x : Operand} {S f off b o r : Nat} (hS : FieldAt P S f off) (hx : OV env x (.pointer (some ⟨b, o, none⟩))) (hr : o + off = r) : LO P β env L ⟨d, .fieldAddr S x f, ty, pos, aft, g⟩ (.pointer (some ⟨b, r, none⟩)) :=
  .of_run fun a w h hw => ⟨w, by
    obtain ⟨fs, F, hu, hf, ho, n, hz⟩ := hS
    have hadd : (⟨b, o, none⟩ : Addr).add off = ⟨b, r, none⟩ := by subst hr; unfold Addr.add; split <;> simp_all
    simp [execOp, h x (by simp [Op.operands]) _ hx, Instr.fieldAt, run_underlying hu, hf, Instr.sureAddr, fieldPlace, run_size hz, ho, hadd], hw⟩

def IsSlice (P : Program) (T E : Nat) : Prop := P.underlying T = some (.slice E)

theorem LO.len {T E : Nat} {x : Operand} {p : Option Addr} {n c : Nat} {aT : Array TypeId} (hT : IsSlice P T E) (hx : OV env x (.slice p n c)) (ha : aT[0]? = some T) : LO P β env L ⟨d, .call ⟨.builtin .len, #[x], aT⟩, ty, pos, aft, g⟩ (.int .i64 n) :=
  .of_run fun a w h hw => ⟨w, by simp [execOp, resolve, invoke, builtin, h x (by simp [Op.operands, Call.operands]) _ hx, Builtin.len_, ha, run_underlying hT, goInt], hw⟩

theorem LO.max {x y : Operand} {k : IntKind} {m n : Int} {aT : Array TypeId} (hx : OV env x (.int k m)) (hy : OV env y (.int k n)) : LO P β env L ⟨d, .call ⟨.builtin .max, #[x, y], aT⟩, ty, pos, aft, g⟩ (.int k (max m n)) :=
  .of_run fun a w h hw => ⟨w, by
    simp [execOp, resolve, invoke, builtin, h x (by simp [Op.operands, Call.operands]) _ hx, h y (by simp [Op.operands, Call.operands]) _ hy, Builtin.max_, Builtin.max2]
    omega, hw⟩
theorem LO.min {x y : Operand} {k : IntKind} {m n : Int} {aT : Array TypeId} (hx : OV env x (.int k m)) (hy : OV env y (.int k n)) : LO P β env L ⟨d, .call ⟨.builtin .min, #[x, y], aT⟩, ty, pos, aft, g⟩ (.int k (min m n)) :=
  .of_run fun a w h hw => ⟨w, by
    simp [execOp, resolve, invoke, builtin, h x (by simp [Op.operands, Call.operands]) _ hx, h y (by simp [Op.operands, Call.operands]) _ hy, Builtin.min_, Builtin.min2]
    omega, hw⟩

theorem LO.ix {x i : Operand} {T E z : Nat} {b o n c : Nat} {k : IntKind} {j : Nat} (hT : IsSlice P T E) (hz : (P.info? E).map (·.size) = some z) (hx : OV env x (.slice (some ⟨b, o, none⟩) n c)) (hi : OV env i (.int k j)) (hj : j < n) :
    LO P β env L ⟨d, .indexAddr T x i, ty, pos, aft, g⟩ (.pointer (some ⟨b, o + j * z, none⟩)) :=
  .of_run fun a w h hw => ⟨w, by
    have hadd : (⟨b, o, none⟩ : Addr).add (j * z) = ⟨b, o + j * z, none⟩ := by unfold Addr.add; split <;> simp_all
    simp [execOp, h x (by simp [Op.operands]) _ hx, h i (by simp [Op.operands]) _ hi, Instr.indexAt, asIntOf, run_underlying hT, run_size hz, hj, hadd], hw⟩

theorem LO.cv {x : Operand} {sT dT : Nat} {k k' : IntKind} {m r : Int} (hs : ∃ d, P.underlying sT = some d) (hd : P.underlying dT = some (.int k)) (hx : OV env x (.int k' m)) (hr : k.wrap m = r) : LO P β env L ⟨d, .convert sT dT x, ty, pos, aft, g⟩ (.int k r) :=
  .of_run fun a w h hw => ⟨w, by
    obtain ⟨e, he⟩ := hs
    simp [execOp, h x (by simp [Op.operands]) _ hx, convert, run_underlying he, run_underlying hd, Conv.intToInt, hr], hw⟩

theorem LO.ex {x : Operand} {i : Nat} {vs : Array Value} {v : Value} (hx : OV env x (.tuple vs)) (hv : vs[i]? = some v) : LO P β env L ⟨d, .extract x i, ty, pos, aft, g⟩ v :=
  .of_run fun a w h hw => ⟨w, by simp [execOp, h x (by simp [Op.operands]) _ hx, Instr.extract, hv], hw⟩

/-! ### Slices that are read -/
def pb (p : Option Addr) : Nat := match p with | some a => a.block | none => 0
def po (p : Option Addr) : Nat := match p with | some a => a.off | none => 0

/-- From 'p' on lie rows of 'z' cells each. -/
structure Rows (w : World) (z : Nat) (p : Option Addr) (rows : List (List Value)) : Prop where
  cells : ∀ (j : Nat) (r : List Value), rows[j]? = some r → Cells w ⟨pb p, po p + j * z, none⟩ r
  nil : p = none → rows = []
  spot : rows ≠ [] → ∀ a, p = some a → a.spot = none

def SlSome (p : Option Addr) (n : Nat) : Prop := 0 < n → p = some ⟨pb p, po p, none⟩
theorem Rows.some {w : World} {z : Nat} {p : Option Addr} {rows : List (List Value)} (h : Rows w z p rows) {n : Nat} (hn : n = rows.length) : SlSome p n := by
  intro h0
  cases p with
  | none => have := h.nil rfl; simp [this] at hn; omega
  | some a => have := h.spot (fun q => by rw [q] at hn; simp at hn; omega) a rfl; cases a; simp_all [pb, po]

theorem cells_keep {w0 : World} {p : Addr} {vs : List Value} (h : Cells w0 p vs) : ∀ w, St (bs w0) L w → Cells w p vs := cells_keepO (β := bs w0) (fun f => f) h

theorem Rows.keep {w0 : World} {z : Nat} {p : Option Addr} {rows : List (List Value)} (h : Rows w0 z p rows) : ∀ w, St (bs w0) L w → Rows w z p rows :=
  fun w hw => ⟨fun j r hr => cells_keep (h.cells j r hr) w hw, h.nil, h.spot⟩

theorem LO.ixs {x i : Operand} {T E z : Nat} {p : Option Addr} {n c j : Nat} {k : IntKind} {e : Int} (hT : IsSlice P T E) (hz : (P.info? E).map (·.size) = some z) (hs : SlSome p n) (hx : OV env x (.slice p n c)) (hi : OV env i (.int k e)) (he : e = (j : Int)) (hj : j < n) :
    LO P β env L ⟨d, .indexAddr T x i, ty, pos, aft, g⟩ (.pointer (some ⟨pb p, po p + j * z, none⟩)) := by
  subst he
  rw [hs (by omega)] at hx
  exact LO.ix hT hz hx hi hj

def Ints (w : World) (p : Option Addr) (l : List Int) : Prop := Rows w 1 p (l.map fun n => [.int .i64 n])
theorem Ints.some {w : World} {p : Option Addr} {l : List Int} (h : Ints w p l) : SlSome p l.length := Rows.some h (by simp)
theorem Ints.keep {w0 : World} {p : Option Addr} {l : List Int} (h : Ints w0 p l) : ∀ w, St (bs w0) L w → Ints w p l := Rows.keep h
theorem Ints.at {w0 : World} {p : Option Addr} {l : List Int} (h : Ints w0 p l) {j : Nat} (hj : j < l.length) : ∀ w, St (bs w0) L w → Cells w ⟨pb p, po p + j * 1, none⟩ [.int .i64 (l.getD j 0)] :=
  fun w hw => (h.keep w hw).cells j _ (by simp [List.getElem?_eq_getElem hj, List.getD])

theorem wi {e : Int} (h1 : -9223372036854775808 ≤ e) (h2 : e ≤ 9223372036854775807) : IntKind.wrap .i64 e = e := IntWalk.i64_in _ ⟨h1, h2⟩

/-! ### Calls -/
def IsFn (P : Program) (f : FuncId) : Prop := ∃ fn, P.funcs[f]? = some fn ∧ (fn.name == "runtime.NumGoroutine") = false ∧ fn.body.isNone = false

theorem run_call {f : FuncId} (h : IsFn P f) (args : Array Value) (w : World) : (callFunc f args).run P w = .ok (.enter f args) w := by
  obtain ⟨fn, hf, hn, hb⟩ := h
  simp only [callFunc, Sem.run_bind, run_program, Result.andThen_ok, hf, hn, hb, Bool.false_eq_true, if_false, Sem.run_pure]

/-- What the operands hold, one by one. -/
def OVs (env : Env) : List Operand → List Value → Prop
  | [], [] => True
  | x :: xs, v :: vs => OV env x v ∧ OVs env xs vs
  | _,_ => False

theorem OVs.map {a : Act} : ∀ {xs : List Operand} {vs : List Value}, OVs env xs vs → (∀ x, x ∈ xs → ∀ u, OV env x u → a.eval x = u) → xs.map a.eval = vs
  | [], [],_,_ => rfl
  | x :: xs, v :: vs, h, k => by simp [k x (by simp) v h.1, OVs.map h.2 (fun y hy => k y (by simp [hy]))]
  | [],_ :: _, h,_ => h.elim
  | _ :: _, [], h,_ => h.elim

/-- A call whose result is 'v' and that leaves nothing that we want. -/
theorem LO.call {f : FuncId} {xs : List Operand} {vs : List Value} {aT : Array TypeId} {v : Value} (hf : IsFn P f) (hx : OVs env xs vs)
    (hc : ∀ w, St β L w → Calls P f vs.toArray w fun e w' => e = .returned v ∧ St (bs w) [] w') : LO P β env L ⟨d, .call ⟨.value (.func f), xs.toArray, aT⟩, ty, pos, aft, g⟩ v := by
  intro a w h hw
  refine .inr ⟨f, vs.toArray, ?_, ?_⟩
  · have hm : xs.map a.eval = vs := hx.map fun x hm u hu => by obtain ⟨u', hu', e⟩ := hu; subst e; exact h x (by simp [Op.operands, Call.operands, hm]) u' hu'
    simp [execOp, resolve, Act.eval, Deferred.ofValue, invoke, run_call hf, hm]
  · exact (hc w hw).mono fun e w' ⟨he, hs⟩ => ⟨he, by simpa using hw.call hs⟩

/-- The same through a function value. -/
theorem LO.callv {f : FuncId} {fx : Operand} {xs : List Operand} {vs first cap : List Value} {aT : Array TypeId} {v : Value} (hfx : OV env fx (.func (.func f) first.toArray cap.toArray)) (hf : IsFn P f) (hx : OVs env xs vs)
    (hc : ∀ w, St β L w → Calls P f (first ++ vs ++ cap).toArray w fun e w' => e = .returned v ∧ St (bs w) [] w') : LO P β env L ⟨d, .call ⟨.value fx, xs.toArray, aT⟩, ty, pos, aft, g⟩ v := by
  intro a w h hw
  refine .inr ⟨f, (first ++ vs ++ cap).toArray, ?_, ?_⟩
  · have hm : xs.map a.eval = vs := hx.map fun x hm u hu => by obtain ⟨u', hu', e⟩ := hu; subst e; exact h x (by simp [Op.operands, Call.operands, hm]) u' hu'
    have hfe : a.eval fx = .func (.func f) first.toArray cap.toArray := by obtain ⟨u', hu', e⟩ := hfx; subst e; exact h fx (by simp [Op.operands, Call.operands]) _ hu'
    simp [execOp, resolve, hfe, Deferred.ofValue, invoke, run_call hf, hm]
  · exact (hc w hw).mono fun e w' ⟨he, hs⟩ => ⟨he, by simpa using hw.call hs⟩

/-- A part of a struct's or an array's value. -/
theorem LO.fd {x : Operand} {S f off n : Nat} {C : Array Value} {vs : List Value} {fs : Array Field} {F : Field} (hS : P.underlying S = some (.struct fs)) (hF : fs[f]? = some F) (ho : F.offset = off) (hT : IsAgg P F.type n) (hx : OV env x (.agg C)) (hv : (C.extract off (off + n)).toList = vs) : LO P β env L ⟨d, .field S x f, ty, pos, aft, g⟩ (.agg vs.toArray) :=
  .of_run fun a w h hw => ⟨w, by
    have he : C.extract off (off + n) = vs.toArray := by rw [← hv]
    simp [execOp, h x (by simp [Op.operands]) _ hx, Instr.field, run_underlying hS, hF, asAgg, part, run_isAgg hT, run_size hT.2, ho, he], hw⟩

theorem pairs_eq {α : Type} {f : α → Value} : ∀ {ps : List (Nat × α)} {vs : List (Nat × Value)}, ps.map (·.1) = vs.map (·.1) → ps.map (fun p => f p.2) = vs.map (·.2) → ps.map (fun p => (p.1, f p.2)) = vs
  | [], [],_,_ => rfl
  | [],_ :: _, h,_ => by simp at h
  | _ :: _, [], h,_ => by simp at h
  | p :: ps, v :: vs, h, k => by
    simp only [List.map_cons, List.cons.injEq] at h k ⊢
    exact ⟨by rw [h.1, k.1], pairs_eq h.2 k.2⟩

/-- Parts laid into a row of cells. -/
def FL (PL : List (Nat × Nat)) : List Value → List (Nat × Value) → List Value → Prop
  | C, [], C' => C = C'
  | C, (i, v) :: r, C' => ∃ (off : Nat) (vs C1 : List Value), PL[i]? = some (off, vs.length) ∧ v.cells = vs.toArray ∧ Nat.ble (off + vs.length) C.length = true ∧ C.take off ++ vs ++ C.drop (off + vs.length) = C1 ∧ FL PL C1 r C'

theorem set_fold : ∀ (vs : List Value) (off k : Nat) (C : Array Value), off + k + vs.length ≤ C.size →
    (vs.zipIdx k).foldl (fun cs (x : Value × Nat) => cs.setIfInBounds (off + x.2) x.1) C = (C.toList.take (off + k) ++ vs ++ C.toList.drop (off + k + vs.length)).toArray
  | [], off, k, C,_ => by simp
  | v :: vs, off, k, C, h => by
    simp only [List.length_cons] at h
    simp only [List.zipIdx_cons, List.foldl_cons]
    rw [set_fold vs off (k + 1) _ (by simp; omega)]
    congr 1
    have e := list_seg_step C.toList (off + k) v vs (by simp; omega)
    simpa [Array.toList_setIfInBounds, Nat.add_assoc, Nat.add_comm 1] using e

theorem FL.fill {PL : List (Nat × Nat)} : ∀ {ps : List (Nat × Value)} {C C' : List Value}, FL PL C ps C' → Instr.fill (PL[·]?) C.toArray ps = some C'.toArray
  | [], C, C', h => by simp only [FL] at h; subst h; rfl
  | (i, v) :: r, C, C', ⟨off, vs, C1, h1, h2, h3, h4, h5⟩ => by
    have h3' := Nat.le_of_ble_eq_true h3
    have ih := FL.fill h5
    simp only [Instr.fill, h1, h2]
    have hc : (vs.toArray.size ≠ vs.length || off + vs.toArray.size > C.toArray.size) = false := by simp; omega
    simp only [List.size_toArray] at hc ⊢
    simp only [hc, Bool.false_eq_true, if_false]
    rw [← ih, ← h4]
    congr 1
    have := set_fold vs off 0 C.toArray (by simpa using h3')
    simp only [Nat.add_zero] at this
    rw [← this]
    rw [← Array.foldl_toList, Array.toList_zipIdx]

def Builds (P : Program) (T : Nat) (PL : List (Nat × Nat)) (Z : List Value) : Prop := ∀ ps, P.built T ps = Instr.fill (PL[·]?) Z.toArray ps

/-- A struct or an array out of its parts. -/
theorem LO.bd {T : Nat} {PL : List (Nat × Nat)} {Z : List Value} {ps : List (Nat × Operand)} {vs : List (Nat × Value)} {C : List Value} (hB : Builds P T PL Z) (hps : OVs env (ps.map (·.2)) (vs.map (·.2))) (hix : ps.map (·.1) = vs.map (·.1)) (hb : FL PL Z vs C) : LO P β env L ⟨d, .build T ps.toArray, ty, pos, aft, g⟩ (.agg C.toArray) :=
  .of_run fun a w h hw => ⟨w, by
    have h2 := OVs.map (a := a) hps (fun x hm u hu => h x (by
      obtain ⟨p, hp, e⟩ := List.mem_map.1 hm
      simp only [Op.operands]
      subst e
      simpa using ⟨p.1, hp⟩) u hu)
    rw [List.map_map] at h2
    have hm : (ps.map fun p => (p.1, a.eval p.2)) = vs := pairs_eq hix h2
    have hb' := run_build (P := P) w T vs.toArray C.toArray (by rw [hB]; exact hb.fill)
    rw [← hm] at hb'
    simp only [execOp, Sem.run_bind]
    rw [show (ps.toArray.map fun (i, x) => (i, a.eval x)) = (ps.map fun p => (p.1, a.eval p.2)).toArray by simp]
    simp [hb'], hw⟩

/-! ### A call's beginning and end -/
def envOf : Nat → List Value → Env
  | _, [] => []
  | k, v :: vs => (k, v) :: envOf (k + 1) vs

theorem ev1_envOf : ∀ (vs : List Value) (k i : Nat) (v : Value), ev1 (envOf k vs) i = some v → k ≤ i ∧ vs[i - k]? = some v
  | [], k, i, v, h => by simp [envOf, ev1] at h
  | u :: us, k, i, v, h => by
    by_cases e : i = k
    · subst e
      rw [envOf, ev1_cons_eq] at h
      cases h
      exact ⟨Nat.le_refl _, by simp⟩
    · rw [envOf, ev1_cons_ne e] at h
      obtain ⟨h1, h2⟩ := ev1_envOf us (k + 1) i v h
      refine ⟨by omega, ?_⟩
      rw [show i - k = (i - (k + 1)) + 1 by omega]
      simpa using h2

/-- What a body must come to. -/
def FP (P : Program) (fn : Func) (R : Ending → World → Prop) : Exit → Act → World → Prop := bodyPostM (Wf none) 0 P fn R

theorem enterO {P : Program} {β : Bs} {L : List Res} {f : FuncId} {fn : Func} {c : Code} {vs : List Value} {env : Env} {w : World} {N : Nat} {R : Ending → World → Prop} (hw : St β L w) (hf : P.funcs[f]? = some fn) (hb : fn.body = some c) (hN : fn.ntmps = N)
    (hle : Nat.ble vs.length N = true) (hE : envOf 0 vs = env) (h : VC P none β N [] env L c (FP P fn R)) : Calls P f vs.toArray w R := by
  refine (callsIn_wf (ro := none) (n := 0)).1 (callsIn_of_wp_marks (F := Wf none) (n := 0) hf hb True.intro (h _ w ⟨?_, rfl, ?_⟩ hw))
  · have := Nat.le_of_ble_eq_true hle
    simp [hN]; omega
  · intro i v hi
    subst hE
    obtain ⟨_, h2⟩ := ev1_envOf vs 0 i v hi
    simp only [Nat.sub_zero] at h2
    rw [Array.getElem?_append_left (by
      rcases Nat.lt_or_ge i vs.length with h | h
      · simpa using h
      · simp [List.getElem?_eq_none h] at h2)]
    simpa using h2

theorem enter {P : Program} {f : FuncId} {fn : Func} {c : Code} {vs : List Value} {env : Env} {w : World} {N : Nat} {R : Ending → World → Prop} (hf : P.funcs[f]? = some fn) (hb : fn.body = some c) (hN : fn.ntmps = N)
    (hle : Nat.ble vs.length N = true) (hE : envOf 0 vs = env) (h : VC P none (bs w) N [] env [] c (FP P fn R)) : Calls P f vs.toArray w R := enterO (St.refl w) hf hb hN hle hE h

def RV (P : Program) (β : Bs) (L : List Res) (env : Env) : ResultVar → Value → Prop
  | .tmp t, v => ev1 env t = some v
  | .cell a T, v => ∃ p, ev1 env a = some (.pointer (some p)) ∧ ∀ w, St β L w → (loadVar T p).run P w = .ok v w

theorem RV.agg {a T n b : Nat} {vs : List Value} (hT : IsAgg P T n) (ha : ev1 env a = some (.pointer (some ⟨b, 0, none⟩))) (hc : ∀ w, St β L w → Cells w ⟨b, 0, none⟩ vs) (hn : Nat.beq vs.length n = true) : RV P β L env (.cell a T) (.agg vs.toArray) :=
  ⟨_, ha, fun w hw => run_loadAgg hT (Nat.eq_of_beq_eq_true hn) (hc w hw)⟩
def RVs (P : Program) (β : Bs) (L : List Res) (env : Env) : List ResultVar → List Value → Prop
  | [], [] => True
  | x :: xs, v :: vs => RV P β L env x v ∧ RVs P β L env xs vs
  | _,_ => False

def rvg (tmps : Array Value) : ResultVar → Sem Value
  | .tmp t => pure (tmps.getD t undef)
  | .cell b T => do loadVar T (← asAddr (tmps.getD b undef))

theorem RVs.run {a : Act} {w : World} (ha : Ag N ds env a) (hw : St β L w) : ∀ {xs : List ResultVar} {vs : List Value}, RVs P β L env xs vs → (xs.mapM (rvg a.tmps)).run P w = .ok vs w
  | [], [],_ => by simp
  | x :: xs, v :: vs, h => by
    have h1 : (rvg a.tmps x).run P w = .ok v w := by
      cases x with
      | tmp t => have ht := ha.get t v h.1; simp [rvg, ht]
      | cell b T =>
        obtain ⟨p, hp, hl⟩ := h.1
        have ht := ha.get b _ hp
        simp [rvg, ht, asAddr, hl w hw]
    rw [List.mapM_cons]
    simp only [Sem.run_bind, h1, Result.andThen_ok, RVs.run ha hw h.2, Sem.run_pure]
  | [],_ :: _, h => h.elim
  | _ :: _, [], h => h.elim

def resV : List Value → Value
  | [v] => v
  | vs => .tuple vs.toArray

theorem run_results {fn : Func} {a : Act} {w : World} {xs : List ResultVar} {vs : List Value} (hr : fn.results = xs.toArray) (ha : Ag N ds env a) (hw : St β L w) (h : RVs P β L env xs vs) : (results fn a.tmps).run P w = .ok (resV vs) w := by
  have := RVs.run ha hw h
  have e : results fn a.tmps = (do let vs ← fn.results.mapM (rvg a.tmps); pure (if h : vs.size = 1 then vs[0] else .tuple vs)) := rfl
  rw [e, hr]
  simp only [Sem.run_bind, List.mapM_toArray, Sem.run_map, this, Result.andThen_ok, Sem.run_pure]
  congr 1
  match vs with
  | [] => rfl
  | [v] => rfl
  | _ :: _ :: _ => simp [resV]

theorem VE.res {fn : Func} {R : Ending → World → Prop} {xs : List ResultVar} {vs : List Value} (hr : fn.results = xs.toArray) (h : RVs P β L env xs vs) (k : ∀ w, St β L w → R (.returned (resV vs)) w) : VE β N [] env L .ret (FP P fn R) :=
  fun a w ha hw => by
    show LeavesInM (Wf none) 0 P fn a.tmps R a.defers .returning w
    rw [ha.dfr]
    exact ⟨_, run_results hr ha hw h, k w hw⟩
theorem VE.resN {fn : Func} {R : Ending → World → Prop} {xs : List ResultVar} {vs : List Value} (hr : fn.results = xs.toArray) (h : RVs P β L env xs vs) (k : ∀ w, St β L w → R (.returned (resV vs)) w) : VE β N [] env L .normal (FP P fn R) :=
  fun a w ha hw => by
    show LeavesInM (Wf none) 0 P fn a.tmps R a.defers .returning w
    rw [ha.dfr]
    exact ⟨_, run_results hr ha hw h, k w hw⟩

/-! ### Operations that make or write memory -/
def HO (P : Program) (β : Bs) (env : Env) (L : List Res) (o : Oper) (K : Value → List Res → Prop) : Prop :=
  ∀ (a : Act) (w : World), (∀ x, x ∈ o.op.operands → ∀ u, ev env x = some u → a.eval x = u) → St β L w →
    (∃ nx w' v L', (execOp a.eval o).run P w = .ok nx w' ∧ (nx = .value v ∨ (nx = .skip ∧ v = undef)) ∧ K v L' ∧ St β L' w') ∨
    (∃ f args, (execOp a.eval o).run P w = .ok (.enter f args) w ∧ Calls P f args w fun e w' => ∃ v L', e = .returned v ∧ K v L' ∧ St β L' w') ∨
    (∃ l f tmps as_ bd, (execOp a.eval o).run P w = .ok (.round l f tmps as_ bd) w ∧ RoundIn Fence.wide 0 P l f tmps as_ bd w fun e w' => ∃ v L', e = .returned v ∧ K v L' ∧ St β L' w')

theorem HO.wp {o : Oper} {a : Act} {w : World} {K : Value → List Res → Prop} {K' : Act → World → Prop} (h : HO P β env L o K) (hx : ∀ x, x ∈ o.op.operands → ∀ u, ev env x = some u → a.eval x = u) (hw : St β L w)
    (k : ∀ v L' w', K v L' → St β L' w' → K' (a.put o.dst v) w') : o.wpIn (Wf ro) 0 P a w K' Q := by
  refine ⟨fun _ _ => True.intro, ?_⟩
  rcases h a w hx hw with ⟨nx, w', v, L', hr, hn, hk, hs⟩ | ⟨f, args, hr, hc⟩ | ⟨l, f, tmps, as_, bd, hr, hc⟩
  · rcases hn with rfl | ⟨rfl, rfl⟩
    · have e : (o.semAt (Wf ro).round a.eval).run P w = .ok (.value v) w' := semAt_run hr (by simp)
      rw [e]; exact k _ _ _ hk hs
    · have e : (o.semAt (Wf ro).round a.eval).run P w = .ok .skip w' := semAt_run hr (by simp)
      rw [e]; exact k _ _ _ hk hs
  · have e : (o.semAt (Wf ro).round a.eval).run P w = .ok (.enter f args) w := semAt_run hr (by simp)
    rw [e]
    refine ⟨fun h => by simp [Wf, Fence.wide] at h, callsIn_wf.2 (hc.mono ?_)⟩
    rintro e w' ⟨v, L', rfl, hk, hs⟩
    exact k _ _ _ hk hs
  · have e : (o.semAt (Wf ro).round a.eval).run P w = .ok (.round l f tmps as_ bd) w := semAt_run hr (by simp)
    rw [e]
    refine ⟨fun h => by simp [Wf, Fence.wide] at h, RoundIn.mono (F := Wf ro) (n := 0) (by exact hc) ?_⟩
    rintro e w' ⟨v, L', rfl, hk, hs⟩
    exact k _ _ _ hk hs

theorem VO.h {ops : Array Oper} {d : Nat} {op : Op} {ty : TypeId} {pos : String} {aft : Array Edge} {rest : List Oper} (hd : Nat.blt d N = true) (h : HO P β env L ⟨some d, op, ty, pos, aft, none⟩ fun v L' => VO P ro β N ds ops ((d, v) :: env) L' rest Q) :
    VO P ro β N ds ops env L (⟨some d, op, ty, pos, aft, none⟩ :: rest) Q := by
  intro a w ha hw
  refine wpListIn_plain rfl fun K hK => ?_
  exact h.wp (fun x _ u hu => ha.eval hu) hw fun v L' w' hk hs => hK _ _ (hk _ w' (ha.put (Nat.le_of_ble_eq_true hd) v) hs)

theorem VO.h0 {ops : Array Oper} {op : Op} {ty : TypeId} {pos : String} {aft : Array Edge} {rest : List Oper} (h : HO P β env L ⟨none, op, ty, pos, aft, none⟩ fun v L' => VO P ro β N ds ops env L' rest Q) :
    VO P ro β N ds ops env L (⟨none, op, ty, pos, aft, none⟩ :: rest) Q := by
  intro a w ha hw
  refine wpListIn_plain rfl fun K hK => ?_
  exact h.wp (fun x _ u hu => ha.eval hu) hw fun v L' w' hk hs => hK _ _ (hk _ w' ha hs)

section
variable {K : Value → List Res → Prop} {dd : Option Nat}

theorem HO.lo {o : Oper} {v : Value} (h : LO P β env L o v) (k : K v L) : HO P β env L o K := by
  intro a w hx hw
  rcases h a w hx hw with ⟨w', hr, hs⟩ | ⟨f, args, hr, hc⟩
  · exact .inl ⟨_, w', v, L, hr, .inl rfl, k, hs⟩
  · exact .inr (.inl ⟨f, args, hr, hc.mono fun e w' ⟨he, hs⟩ => ⟨v, L, he, k, hs⟩⟩)

theorem HO.box {x : Operand} {T : Nat} {v : Value} {C : Array Value} (hx : ev env x = some v) (hC : v.cells = C)
    (k : ∀ b, K (.pointer (some ⟨b, 0, none⟩)) (blk b (.cells C T) :: L)) : HO P β env L ⟨dd, .box T x, ty, pos, aft, none⟩ K := by
  intro a w h hw
  refine .inl ⟨_, w.alloc (.cells C T),_,_, ?_, .inl rfl, k w.heap.size, hw.alloc _⟩
  simp [execOp, h x (by simp [Op.operands]) v hx, Instr.box, newVar, newRow, hC]

def ZeroOf (P : Program) (T : Nat) (z : Value) : Prop := (P.info? T).bind (·.zero) = some z

theorem run_zero {T : Nat} {z : Value} (hz : ZeroOf P T z) (w : World) : (zeroValue T).run P w = .ok z w := by
  unfold ZeroOf at hz
  cases hq : P.info? T with
  | none => simp [hq] at hz
  | some i =>
    have hz' : i.zero = some z := by simpa [hq] using hz
    simp [zeroValue, typeInfo, hq, hz']

theorem HO.alloc {T : Nat} {z : Value} {C : Array Value} (hz : ZeroOf P T z) (hC : z.cells = C)
    (k : ∀ b, K (.pointer (some ⟨b, 0, none⟩)) (blk b (.cells C T) :: L)) : HO P β env L ⟨dd, .alloc T, ty, pos, aft, none⟩ K := by
  intro a w h hw
  refine .inl ⟨_, w.alloc (.cells C T),_,_, ?_, .inl rfl, k w.heap.size, hw.alloc _⟩
  simp [execOp, Instr.alloc, run_zero hz, newVar, newRow, hC]

theorem run_store_blk {w : World} {T b o : Nat} {C : Array Value} {E : TypeId} {v : Value} {vs : List Value} (hT : (P.info? T).map (·.size) = some vs.length) (hv : v.cells = vs.toArray) (hb : w.heap[b]? = some (.cells C E (0,0))) (hfit : o + vs.length ≤ C.size)
    (h1 : ∀ u ∈ vs, u.oneCell' = true) : (storeVar T ⟨b, o, none⟩ v).run P w = .ok () (w.setRow b (C.toList.take o ++ vs ++ C.toList.drop (o + vs.length)).toArray) := by
  have := run_storeCells_at P b o E vs 0 C w hb (by simpa using hfit) h1
  simp only [Nat.add_zero] at this
  simp [storeVar, hv, run_size hT, this]

def allOne : List Value → Bool
  | [] => true
  | v :: vs => v.oneCell' && allOne vs
theorem allOne_spec : ∀ {vs : List Value}, allOne vs = true → ∀ u ∈ vs, u.oneCell' = true
  | [],_, u, hu => by simp at hu
  | v :: vs, h, u, hu => by
    simp only [allOne, Bool.and_eq_true] at h
    rcases List.mem_cons.1 hu with rfl | hu
    · exact h.1
    · exact allOne_spec h.2 u hu

theorem St.setRow {w : World} {i b : Nat} {C C' : Array Value} {E : TypeId} (hw : St β L w) (hi : L[i]? = some (blk b (.cells C E))) : St β (L.set i (blk b (.cells C' E))) (w.setRow b C') := by
  have hb : w.heap[b]? = some (.cells C E (0,0)) := hw.inv i _ hi
  refine hw.upd (o' := .cells C' E) hi rfl ?_ ?_ ?_ rfl rfl rfl
  · exact setRow_heap w b C C' E (0,0) hb
  · intro k hk
    simp only [World.setRow, Array.getElem?_modify]
    rw [if_neg (by omega)]
  · simp [World.setRow]

theorem HO.st (i : Nat) {x y : Operand} {T b o : Nat} {C : Array Value} {E : TypeId} {v : Value} {vs C' : List Value} {L' : List Res} (hT : (P.info? T).map (·.size) = some vs.length) (hx : ev env x = some (.pointer (some ⟨b, o, none⟩))) (hy : ev env y = some v)
    (hi : L[i]? = some (blk b (.cells C E))) (hv : v.cells = vs.toArray) (hfit : Nat.ble (o + vs.length) C.size = true) (h1 : allOne vs = true)
    (hC : C.toList.take o ++ vs ++ C.toList.drop (o + vs.length) = C') (hL : L.set i (blk b (.cells C'.toArray E)) = L')
    (k : K undef L') : HO P β env L ⟨dd, .store T x y, ty, pos, aft, none⟩ K := by
  intro a w h hw
  have hb : w.heap[b]? = some (.cells C E (0,0)) := hw.inv i _ hi
  have hrun := run_store_blk (P := P) hT hv hb (Nat.le_of_ble_eq_true hfit) (allOne_spec h1)
  refine .inl ⟨.skip, w.setRow b (C.toList.take o ++ vs ++ C.toList.drop (o + vs.length)).toArray, undef, L', ?_, .inr ⟨rfl, rfl⟩, k, ?_⟩
  · simp only [execOp, h x (by simp [Op.operands]) _ hx, h y (by simp [Op.operands]) _ hy, Instr.storeAt, Instr.sureAddr, Sem.run_bind, Sem.run_pure, Result.andThen_ok, hrun]
  · rw [hC, ← hL]
    exact hw.setRow hi

/-- A call that leaves resources: 'post v R' says what they are. -/
theorem HO.call {f : FuncId} {xs : List Operand} {vs : List Value} {aT : Array TypeId} {post : Value → List Res → Prop} (hf : IsFn P f) (hx : OVs env xs vs)
    (hc : ∀ w, St β L w → Calls P f vs.toArray w fun e w' => ∃ v R, e = .returned v ∧ post v R ∧ St (bs w) R w') (k : ∀ v R, post v R → K v (R ++ L)) : HO P β env L ⟨dd, .call ⟨.value (.func f), xs.toArray, aT⟩, ty, pos, aft, none⟩ K := by
  intro a w h hw
  refine .inr (.inl ⟨f, vs.toArray, ?_, ?_⟩)
  · have hm : xs.map a.eval = vs := hx.map fun x hm u hu => by obtain ⟨u', hu', e⟩ := hu; subst e; exact h x (by simp [Op.operands, Call.operands, hm]) u' hu'
    simp [execOp, resolve, Act.eval, Deferred.ofValue, invoke, run_call hf, hm]
  · exact (hc w hw).mono fun e w' ⟨v, R, he, hp, hs⟩ => ⟨v, R ++ L, he, k v R hp, hw.call hs⟩
end
end
end Go.SL

namespace Go.SL
set_option linter.unusedVariables false
open Go.RowKit

/-- What one operation gives, with the slots as 'env' says. -/
def OpOk (P : Program) (β : Bs) (ops : Array Oper) (L : List Res) (o : Oper) (env : Env) (v : Value) : Prop :=
  (o.guard = none ∧ LO P β env L o v) ∨
  (∃ j want t u c v', o.guard = some (j, want) ∧ (ops[j]?).bind (·.dst) = some t ∧ ev1 env t = some u ∧ GD u want c ∧ (c = true → LO P β env L o v') ∧ v = gv c v')

def LL (P : Program) (β : Bs) (N : Nat) (ops : Array Oper) (L : List Res) : List Oper → Env → Env → Prop
  | [], env, env' => env = env'
  | o :: r, env, env' => ∃ d v, o.dst = some d ∧ d < N ∧ OpOk P β ops L o env v ∧ LL P β N ops L r ((d, v) :: env) env'

section
variable {P : Program} {ro : Option Nat} {β : Bs} {ds : List Deferred} {N : Nat} {ops : Array Oper} {L : List Res} {env env' : Env}

theorem LL.nil : LL P β N ops L [] env env := rfl
theorem LL.l {d : Nat} {op : Op} {ty : TypeId} {pos : String} {aft : Array Edge} {rest : List Oper} {v : Value} (h : LO P β env L ⟨some d, op, ty, pos, aft, none⟩ v) (hd : Nat.blt d N = true)
    (k : LL P β N ops L rest ((d, v) :: env) env') : LL P β N ops L (⟨some d, op, ty, pos, aft, none⟩ :: rest) env env' :=
  ⟨d, v, rfl, Nat.le_of_ble_eq_true hd, .inl ⟨rfl, h⟩, k⟩
theorem LL.lg {d j t : Nat} {want c : Bool} {op : Op} {ty : TypeId} {pos : String} {aft : Array Edge} {rest : List Oper} {v u : Value} (hj : (ops[j]?).bind (·.dst) = some t) (ht : ev1 env t = some u) (hg : GD u want c)
    (h : c = true → LO P β env L ⟨some d, op, ty, pos, aft, some (j, want)⟩ v) (hd : Nat.blt d N = true)
    (k : LL P β N ops L rest ((d, gv c v) :: env) env') : LL P β N ops L (⟨some d, op, ty, pos, aft, some (j, want)⟩ :: rest) env env' :=
  ⟨d, gv c v, rfl, Nat.le_of_ble_eq_true hd, .inr ⟨j, want, t, u, c, v, rfl, hj, ht, hg, h, rfl⟩, k⟩
end

/-! ### Which operation comes before which -/
/-- A number more, if it is not there yet. -/
def insN (x : Nat) (s : List Nat) : List Nat := bif s.any (Nat.beq x) then s else x :: s
def clStep (acc : List (List Nat)) (o : Oper) : List (List Nat) :=
  acc ++ [(o.after.toList.flatMap fun e => if Region.binds .any e then e.on :: acc.getD e.on [] else []).foldr insN []]
def clOf (ops : List Oper) : List (List Nat) := ops.foldl clStep []

def readsOf (ops : Array Oper) (o : Oper) : List Nat :=
  (o.op.operands.toList.filterMap fun | .tmp t => some t | _ => none) ++ (match o.guard with | some (j,_) => (((ops[j]?).bind (·.dst)).toList) | none => [])

def idxs (n : Nat) : List Nat := List.range n
def dstIs (l : List Oper) (i t : Nat) : Bool := match l[i]? with | some o => (match o.dst with | some d => Nat.beq d t | none => false) | none => false

/-- The edges are closed in 'cl'; writers of a slot are in order; a reader and a writer of a slot are in order. -/
def chk (l : List Oper) : Bool :=
  let cl := clOf l
  let n := l.length
  (idxs n).all fun k =>
    match l[k]? with
    | none => false
    | some o =>
      o.after.toList.all (fun e => !Region.binds .any e || Nat.blt e.on k) &&
      (cl.getD k []).all (fun i => o.after.toList.any fun e => Region.binds .any e && (Nat.beq e.on i || (cl.getD e.on []).contains i)) &&
      o.after.toList.all (fun e => !Region.binds .any e || (cl.getD k []).contains e.on) &&
      (match o.dst with
       | none => false
       | some d => (idxs n).all fun i => !dstIs l i d || !Nat.blt i k || (cl.getD k []).contains i) &&
      (readsOf l.toArray o).all fun t => (idxs n).all fun i => !dstIs l i t || (if Nat.blt i k then (cl.getD k []).contains i else if Nat.blt k i then (cl.getD i []).contains k else true)

section
variable {P : Program} {ro : Option Nat} {β : Bs} {ds : List Deferred} {N : Nat} {L : List Res}

/-- The pairs that the operations lay, in the text's order. -/
theorem LL.pairs {ops : Array Oper} : ∀ {l : List Oper} {env env' : Env}, LL P β N ops L l env env' →
    ∃ vs : List (Nat × Value), vs.length = l.length ∧ env' = vs.reverse ++ env ∧ ∀ k o, l[k]? = some o → ∃ d v, vs[k]? = some (d, v) ∧ o.dst = some d ∧ d < N ∧ OpOk P β ops L o ((vs.take k).reverse ++ env) v
  | [], env, env', h => ⟨[], rfl, by simpa using h.symm, by simp⟩
  | o :: r, env, env', ⟨d, v, hd, hN, hok, hr⟩ => by
    obtain ⟨vs, h1, h2, h3⟩ := LL.pairs hr
    refine ⟨(d, v) :: vs, by simp [h1], by simp [h2], ?_⟩
    intro k o' hk
    cases k with
    | zero => simp at hk; subst hk; exact ⟨d, v, by simp, hd, hN, by simpa using hok⟩
    | succ k =>
      simp at hk
      obtain ⟨d', v', g1, g2, g3, g4⟩ := h3 k o' hk
      exact ⟨d', v', by simpa using g1, g2, g3, by simpa using g4⟩

/-- What a slot holds behind the first 'k' pairs. -/
theorem ev1_text (vs : List (Nat × Value)) (env : Env) (t : Nat) (u : Value) : ∀ k, ev1 ((vs.take k).reverse ++ env) t = some u →
    (∃ i v, i < k ∧ vs[i]? = some (t, v) ∧ v = u ∧ ∀ i' x, i < i' → i' < k → vs[i']? = some x → x.1 ≠ t) ∨ ((∀ i x, i < k → vs[i]? = some x → x.1 ≠ t) ∧ ev1 env t = some u)
  | 0, h => .inr ⟨fun i x hi => by omega, by simpa using h⟩
  | k + 1, h => by
    cases hk : vs[k]? with
    | none =>
      have hl : vs.length ≤ k := by simpa using hk
      have e : vs.take (k + 1) = vs.take k := by rw [List.take_of_length_le (by omega), List.take_of_length_le hl]
      rw [e] at h
      rcases ev1_text vs env t u k h with ⟨i, v, h1, h2, h3, h4⟩ | ⟨h1, h2⟩
      · exact .inl ⟨i, v, by omega, h2, h3, fun i' x a b c => h4 i' x a (by
          rcases Nat.lt_or_ge i' k with q | q
          · exact q
          · have : i' = k := by omega
            subst this; rw [hk] at c; cases c) c⟩
      · exact .inr ⟨fun i x a b => h1 i x (by
          rcases Nat.lt_or_ge i k with q | q
          · exact q
          · have : i = k := by omega
            subst this; rw [hk] at b; cases b) b, h2⟩
    | some x =>
      obtain ⟨d, v⟩ := x
      have e : vs.take (k + 1) = vs.take k ++ [(d, v)] := by
        have hl : k < vs.length := by
          rcases Nat.lt_or_ge k vs.length with q | q
          · exact q
          · simp [List.getElem?_eq_none q] at hk
        rw [List.take_succ_eq_append_getElem hl]
        have : vs[k] = (d, v) := by simpa [List.getElem?_eq_getElem hl] using hk
        rw [this]
      rw [e, List.reverse_append, List.append_assoc] at h
      by_cases hd : t = d
      · subst hd
        simp only [List.reverse_singleton, List.singleton_append] at h
        rw [ev1_cons_eq] at h
        exact .inl ⟨k, v, by omega, hk, by simpa using h, fun i' x a b => by omega⟩
      · simp only [List.reverse_singleton, List.singleton_append] at h
        rw [ev1_cons_ne hd] at h
        rcases ev1_text vs env t u k h with ⟨i, v', h1, h2, h3, h4⟩ | ⟨h1, h2⟩
        · refine .inl ⟨i, v', by omega, h2, h3, fun i' x a b c => ?_⟩
          by_cases q : i' = k
          · subst q; rw [hk] at c; cases c; exact fun e => hd e.symm
          · exact h4 i' x a (by omega) c
        · refine .inr ⟨fun i x a b => ?_, h2⟩
          by_cases q : i = k
          · subst q; rw [hk] at b; cases b; exact fun e => hd e.symm
          · exact h1 i x (by omega) b

structure DrInv (N : Nat) (ds : List Deferred) (β : Bs) (L : List Res) (cl : List (List Nat)) (vs : List (Nat × Value)) (env : Env) (listed : Array Bool) (a : Act) (w : World) : Prop where
  lsz : listed.size = vs.length
  size : a.tmps.size = N
  dfr : a.defers = ds
  st : St β L w
  closed : ∀ j, listed[j]? = some true → ∀ i, i ∈ cl.getD j [] → listed[i]? = some true
  top : ∀ t k v, vs[k]? = some (t, v) → listed[k]? = some true → (∀ (k' : Nat) (x : Nat × Value), vs[k']? = some x → x.1 = t → listed[k']? = some true → k' ≤ k) → a.tmps[t]? = some v
  base : ∀ t, (∀ (k : Nat) (x : Nat × Value), vs[k]? = some x → x.1 = t → listed[k]? ≠ some true) → ∀ v, ev1 env t = some v → a.tmps[t]? = some v

theorem DrInv.end_ {cl : List (List Nat)} {vs : List (Nat × Value)} {env : Env} {listed : Array Bool} {a : Act} {w : World} (h : DrInv N ds β L cl vs env listed a w) (hall : ∀ k, k < vs.length → listed[k]? = some true) : Ag N ds (vs.reverse ++ env) a := by
  refine ⟨h.size, h.dfr, fun t u hu => ?_⟩
  have hu' : ev1 ((vs.take vs.length).reverse ++ env) t = some u := by simpa using hu
  have lt_of : ∀ {k : Nat} {x : Nat × Value}, vs[k]? = some x → k < vs.length := fun {k x} hx => by
    rcases Nat.lt_or_ge k vs.length with q | q
    · exact q
    · simp [List.getElem?_eq_none q] at hx
  rcases ev1_text vs env t u vs.length hu' with ⟨i, v, h1, h2, rfl, h4⟩ | ⟨h1, h2⟩
  · refine h.top t i v h2 (hall i h1) fun k' x hx hxt _ => ?_
    rcases Nat.lt_or_ge i k' with q | q
    · exact absurd hxt (h4 k' x q (lt_of hx) hx)
    · exact q
  · exact h.base t (fun k x hx hxt => absurd hxt (h1 k x (lt_of hx) hx)) u h2

theorem chk_spec {l : List Oper} (h : chk l = true) {k : Nat} {o : Oper} (hk : l[k]? = some o) :
    (∀ e, e ∈ o.after.toList → Region.binds .any e = true → e.on < k) ∧
    (∀ i, i ∈ (clOf l).getD k [] → ∃ e, e ∈ o.after.toList ∧ Region.binds .any e = true ∧ (e.on = i ∨ i ∈ (clOf l).getD e.on [])) ∧
    (∀ e, e ∈ o.after.toList → Region.binds .any e = true → e.on ∈ (clOf l).getD k []) ∧
    (∃ d, o.dst = some d ∧ ∀ i, i < k → dstIs l i d = true → i ∈ (clOf l).getD k []) ∧
    (∀ t, t ∈ readsOf l.toArray o → ∀ i, i < l.length → dstIs l i t = true → (i < k → i ∈ (clOf l).getD k []) ∧ (k < i → k ∈ (clOf l).getD i [])) := by
  have hlt : k < l.length := by
    rcases Nat.lt_or_ge k l.length with q | q
    · exact q
    · simp [List.getElem?_eq_none q] at hk
  have h1 := List.all_eq_true.1 h k (by simpa [idxs] using hlt)
  simp only [hk, Bool.and_eq_true] at h1
  obtain ⟨⟨⟨⟨a1, a2⟩, a3⟩, a4⟩, a5⟩ := h1
  refine ⟨?_, ?_, ?_, ?_, ?_⟩
  · intro e he hb
    have := List.all_eq_true.1 a1 e he
    simp only [hb, Bool.not_true, Bool.false_or] at this
    exact Nat.le_of_ble_eq_true this
  · intro i hi
    have := List.all_eq_true.1 a2 i hi
    obtain ⟨e, he, hx⟩ := List.any_eq_true.1 this
    simp only [Bool.and_eq_true, Bool.or_eq_true] at hx
    exact ⟨e, he, hx.1, hx.2.imp Nat.eq_of_beq_eq_true (by simp)⟩
  · intro e he hb
    have := List.all_eq_true.1 a3 e he
    simpa [hb] using this
  · cases hd : o.dst with
    | none => simp [hd] at a4
    | some d =>
      simp only [hd] at a4
      refine ⟨d, rfl, fun i hi hw => ?_⟩
      have := List.all_eq_true.1 a4 i (by simp [idxs]; omega)
      have hb : Nat.blt i k = true := Nat.ble_eq_true_of_le hi
      simpa [hw, hb] using this
  · intro t ht i hil hw
    have := List.all_eq_true.1 (List.all_eq_true.1 a5 t ht) i (by simpa [idxs] using hil)
    simp only [hw, Bool.not_true, Bool.false_or] at this
    refine ⟨fun hi => ?_, fun hi => ?_⟩
    · have hb : Nat.blt i k = true := Nat.ble_eq_true_of_le hi
      simpa [hb] using this
    · have hb : Nat.blt k i = true := Nat.ble_eq_true_of_le hi
      have hb' : Nat.blt i k = false := by
        cases q : Nat.blt i k
        · rfl
        · have := Nat.le_of_ble_eq_true q; omega
      simpa [hb, hb'] using this

theorem filter_lt {p q : Nat → Bool} {i : Nat} (h : ∀ k, p k = true → q k = true) : ∀ {l : List Nat}, i ∈ l → q i = true → p i = false → (l.filter p).length < (l.filter q).length
  | [], hi,_,_ => by simp at hi
  | x :: l, hi, hq, hp => by
    have le : ∀ l : List Nat, (l.filter p).length ≤ (l.filter q).length := by
      intro l
      induction l with
      | nil => simp
      | cons y l ih =>
        simp only [List.filter_cons]
        by_cases hy : p y = true
        · simp [hy, h y hy]; omega
        · simp only [Bool.not_eq_true] at hy
          rw [if_neg (by simp [hy])]
          split
          · simp only [List.length_cons]; omega
          · exact ih
    simp only [List.filter_cons]
    rcases List.mem_cons.1 hi with rfl | hi
    · rw [if_neg (by simp [hp]), if_pos hq]
      have := le l
      simp; omega
    · have ih := filter_lt h hi hq hp
      by_cases hy : p x = true
      · simp [hy, h x hy]; omega
      · simp only [Bool.not_eq_true] at hy
        rw [if_neg (by simp [hy])]
        split
        · simp only [List.length_cons]; omega
        · exact ih

theorem get_set_true {listed : Array Bool} {i j : Nat} (hi : i < listed.size) : (listed.setIfInBounds i true)[j]? = some true ↔ j = i ∨ listed[j]? = some true := by
  by_cases e : j = i
  · subst e; simp [hi]
  · rw [Array.getElem?_setIfInBounds_ne (Ne.symm e)]; simp [e]

/-- One operation more. -/
theorem DrInv.step {l : List Oper} {Q : Exit → Act → World → Prop} {vs : List (Nat × Value)} {env : Env} {listed : Array Bool} {a : Act} {w : World} (hc : chk l = true) (hlen : vs.length = l.length)
    (hp : ∀ k o, l[k]? = some o → ∃ d v, vs[k]? = some (d, v) ∧ o.dst = some d ∧ d < N ∧ OpOk P β l.toArray L o ((vs.take k).reverse ++ env) v)
    (h : DrInv N ds β L (clOf l) vs env listed a w) {i : Nat} (hi : i ∈ Region.ready .any l.toArray listed) {K : Act → World → Prop}
    (hK : ∀ a' w', DrInv N ds β L (clOf l) vs env (listed.setIfInBounds i true) a' w' → K a' w') : wpOpIn (Wf ro) 0 P l.toArray Q i K a w := by
  simp only [Region.ready, List.mem_filter, List.mem_range, Bool.and_eq_true, Bool.not_eq_true'] at hi
  obtain ⟨hin, hnl, hready⟩ := hi
  have hil : i < l.length := by simpa using hin
  have hiz : i < listed.size := by rw [h.lsz, hlen]; exact hil
  obtain ⟨o, ho⟩ : ∃ o, l[i]? = some o := ⟨l[i], by simp [hil]⟩
  have hnot : listed[i]? ≠ some true := by
    intro e
    have : listed.getD i true = true := by simp [e]
    rw [this] at hnl; cases hnl
  have hdone : ∀ e, e ∈ o.after.toList → Region.binds .any e = true → listed[e.on]? = some true := by
    intro e he hb
    have h1 : (o.after.all fun e => !Region.binds .any e || listed.getD e.on false) = true := by simpa [ho] using hready
    have h2 := (Array.all_eq_true_iff_forall_mem.1 h1) e (by simpa using he)
    simp only [hb, Bool.not_true, Bool.false_or] at h2
    cases q : listed[e.on]? with
    | none => simp [q] at h2
    | some b => simp [q] at h2; rw [h2]
  obtain ⟨c1, c2, c3, ⟨d, hd, c4⟩, c5⟩ := chk_spec hc ho
  have hcl : ∀ j, j ∈ (clOf l).getD i [] → listed[j]? = some true := by
    intro j hj
    obtain ⟨e, he, hb, hx⟩ := c2 j hj
    rcases hx with rfl | hx
    · exact hdone e he hb
    · exact h.closed _ (hdone e he hb) j hx
  obtain ⟨d', v, hv, hd', hdN, hok⟩ := hp i o ho
  have : d' = d := by rw [hd] at hd'; exact (Option.some.inj hd').symm
  subst this
  have dst_of : ∀ {k : Nat} {x : Nat × Value}, vs[k]? = some x → k < l.length ∧ dstIs l k x.1 = true := by
    intro k x hx
    have hk : k < l.length := by
      rcases Nat.lt_or_ge k l.length with q | q
      · exact q
      · rw [List.getElem?_eq_none (by omega)] at hx; cases hx
    obtain ⟨d2, v2, g1, g2,_⟩ := hp k l[k] (by simp [hk])
    rw [hx] at g1
    cases g1
    exact ⟨hk, by simp [dstIs, hk, g2]⟩
  have reads : ∀ t, t ∈ readsOf l.toArray o → ∀ u, ev1 ((vs.take i).reverse ++ env) t = some u → a.tmps[t]? = some u := by
    intro t ht u hu
    have late : ∀ (k' : Nat) (x : Nat × Value), vs[k']? = some x → x.1 = t → listed[k']? = some true → k' < i := by
      intro k' x hx hxt hl
      obtain ⟨hk, hw⟩ := dst_of hx
      rw [hxt] at hw
      rcases Nat.lt_trichotomy k' i with q | q | q
      · exact q
      · subst q; exact absurd hl hnot
      · exact absurd (h.closed k' hl i ((c5 t ht k' hk hw).2 q)) hnot
    rcases ev1_text vs env t u i hu with ⟨k, v', h1, h2, rfl, h4⟩ | ⟨h1, h2⟩
    · obtain ⟨hk, hw⟩ := dst_of h2
      refine h.top t k v' h2 (hcl k ((c5 t ht k hk hw).1 h1)) fun k' x hx hxt hl => ?_
      rcases Nat.lt_or_ge k k' with q | q
      · exact absurd hxt (h4 k' x q (late k' x hx hxt hl) hx)
      · exact q
    · exact h.base t (fun k x hx hxt hl => h1 k x (late k x hx hxt hl) hx hxt) u h2
  have fin : ∀ w', St β L w' → DrInv N ds β L (clOf l) vs env (listed.setIfInBounds i true) (a.put (some d') v) w' := by
    intro w' hs
    refine ⟨by simp [h.lsz], by simp [Act.put, h.size], h.dfr, hs, ?_, ?_, ?_⟩
    · intro j hj k hk
      rw [get_set_true hiz] at hj ⊢
      rcases hj with rfl | hj
      · exact .inr (hcl k hk)
      · exact .inr (h.closed j hj k hk)
    · intro t k u hk hl hmax
      by_cases e : t = d'
      · subst e
        have hki : k = i := by
          have g := hmax i (t, v) hv rfl ((get_set_true hiz).2 (.inl rfl))
          rcases Nat.lt_or_ge i k with q | q
          · exfalso
            obtain ⟨hkl, hw⟩ := dst_of hk
            have hl' : listed[k]? = some true := by
              rcases (get_set_true hiz).1 hl with e | e
              · omega
              · exact e
            obtain ⟨_,_,_, ⟨d3, hd3, c4'⟩,_⟩ := chk_spec hc (k := k) (o := l[k]) (by simp [hkl])
            have hdk : d3 = t := by
              simp only [dstIs, List.getElem?_eq_getElem hkl, hd3] at hw
              exact Nat.eq_of_beq_eq_true hw
            have hwi : dstIs l i d3 = true := by have := (dst_of hv).2; rw [hdk]; exact this
            exact hnot (h.closed k hl' i (c4' i q hwi))
          · omega
        subst hki
        rw [hv] at hk
        cases hk
        simp [Act.put, h.size, hdN]
      · have hki : k ≠ i := fun q => by subst q; rw [hv] at hk; cases hk; exact e rfl
        simp only [Act.put]
        rw [Array.getElem?_setIfInBounds_ne (Ne.symm e)]
        refine h.top t k u hk ?_ fun k' x hx hxt hl' => hmax k' x hx hxt ((get_set_true hiz).2 (.inr hl'))
        rcases (get_set_true hiz).1 hl with q | q
        · exact absurd q hki
        · exact q
    · intro t hno u hu
      have e : t ≠ d' := fun q => hno i (d', v) hv q.symm ((get_set_true hiz).2 (.inl rfl))
      simp only [Act.put]
      rw [Array.getElem?_setIfInBounds_ne (Ne.symm e)]
      exact h.base t (fun k x hx hxt hl => hno k x hx hxt ((get_set_true hiz).2 (.inr hl))) u hu
  unfold wpOpIn
  have ho' : l.toArray[i]? = some o := by simpa using ho
  simp only [ho']
  have opr : ∀ x, x ∈ o.op.operands → ∀ u, ev ((vs.take i).reverse ++ env) x = some u → a.eval x = u := by
    intro x hx u hu
    cases x with
    | tmp t =>
      have := reads t (List.mem_append_left _ (List.mem_filterMap.2 ⟨.tmp t, by simpa using hx, rfl⟩)) u hu
      simp [Act.eval, this]
    | const c => simpa [ev, Act.eval] using hu
    | global g => simpa [ev, Act.eval] using hu
    | func f => simpa [ev, Act.eval] using hu
  rcases hok with ⟨hg, hlo⟩ | ⟨j, want, t, u, c, v', hg, hj, ht, hgd, hlo, rfl⟩
  · rw [if_pos (by simp [Region.wanted, hg])]
    have := (hlo a w opr h.st).wp (ro := ro) (Q := Q) (K := K) fun w' hs => by rw [hd]; exact hK _ _ (fin w' hs)
    exact this
  · have ht' : a.tmps[t]? = some u := reads t (List.mem_append_right _ (by rw [hg]; show t ∈ ((l.toArray[j]?).bind (·.dst)).toList; rw [hj]; simp)) u ht
    have hy : yielded l.toArray a.tmps j = vb u := by
      unfold yielded; rw [hj]; simp only [Option.bind_some, ht']; cases u <;> rfl
    simp only [Region.wanted, hg, hy]
    cases c with
    | true =>
      have hu := hgd.1 rfl
      subst hu
      simp only [vb, beq_self_eq_true, if_true]
      have := (hlo rfl a w opr h.st).wp (ro := ro) (Q := Q) (K := K) fun w' hs => by
        rw [hd]
        have := fin w' hs
        rw [show gv true v' = v' from rfl] at this
        exact hK _ _ this
      exact this
    | false =>
      have hu := hgd.2 rfl
      have hne := vb_ne hu
      simp only [hne, Bool.false_eq_true, if_false]
      have := fin w h.st
      rw [show gv false v' = undef from rfl] at this
      rw [hd]
      exact ⟨fun _ _ => True.intro, hK _ _ this⟩

/-- A region whose order is drawn. -/
theorem VC.draw {env env' : Env} {id : Nat} {l : List Oper} {Q : Exit → Act → World → Prop} (hm : P.follows .mixedOrders = true) (h : LL P β N l.toArray L l env env') (hc : chk l = true) (k : VE β N ds env' L .normal Q) :
    VC P ro β N ds env L (.region id l.toArray true) Q := by
  intro a w ha hw
  obtain ⟨vs, h1, rfl, h3⟩ := h.pairs
  refine wpIn_region_any hm ?_
  have key : ∀ fuel listed a w, DrInv N ds β L (clOf l) vs env listed a w → (∀ k, k < vs.length → listed[k]? ≠ some true → 0 < fuel) → ((List.range vs.length).filter fun k => !(listed[k]? == some true)).length ≤ fuel → wpAnyIn (Wf ro) 0 P .any l.toArray Q fuel listed a w := by
    intro fuel
    induction fuel with
    | zero =>
      intro listed a w hI h0 _
      have hall : ∀ k, k < vs.length → listed[k]? = some true := fun k hk => Classical.byContradiction fun hn => by have := h0 k hk hn; omega
      refine ⟨?_, k _ _ (hI.end_ hall) hI.st⟩
      simp only [Region.ready, List.filter_eq_nil_iff, List.mem_range, Bool.and_eq_true, Bool.not_eq_true', not_and]
      intro i hi hf
      have := hall i (by rw [h1]; simpa using hi)
      simp [this] at hf
    | succ fuel ih =>
      intro listed a w hI h0 hcnt
      refine ⟨fun hr => ?_, fun i hi => ?_⟩
      · refine k _ _ (hI.end_ ?_) hI.st
        have : ∀ n k, k = n → k < vs.length → listed[k]? = some true := by
          intro n
          induction n using Nat.strongRecOn with
          | _ n ihn =>
            rintro k rfl hk
            refine Classical.byContradiction fun hn => ?_
            have hkl : k < l.length := by omega
            have hnm : k ∉ Region.ready .any l.toArray listed := by rw [hr]; simp
            apply hnm
            simp only [Region.ready, List.mem_filter, List.mem_range, Bool.and_eq_true, Bool.not_eq_true']
            refine ⟨by simpa using hkl, ?_, ?_⟩
            · cases q : listed[k]? with
              | none =>
                have : k < listed.size := by rw [hI.lsz]; exact hk
                simp [this] at q
              | some b => cases b with
                | true => exact absurd q hn
                | false => simp [q]
            · have hok : l.toArray[k]? = some l[k] := by simp [hkl]
              simp only [hok, Option.map_some, Option.getD_some]
              refine Array.all_eq_true_iff_forall_mem.2 fun e he => ?_
              cases hb : Region.binds .any e with
              | false => rfl
              | true =>
                have hlt := (chk_spec hc (k := k) (o := l[k]) (by simp [hkl])).1 e (by simpa using he) hb
                have := ihn e.on hlt e.on rfl (by omega)
                simp [this]
        exact fun k hk => this k k rfl hk
      · refine hI.step hc h1 h3 hi fun a' w' hI' => ih _ _ _ hI' ?_ ?_
        · intro k hk hn
          rcases Nat.eq_zero_or_pos fuel with e | e
          · exfalso
            subst e
            simp only [Region.ready, List.mem_filter, List.mem_range, Bool.and_eq_true, Bool.not_eq_true'] at hi
            have hiz : i < listed.size := by rw [hI.lsz, h1]; simpa using hi.1
            rw [Ne, get_set_true hiz, not_or] at hn
            have hni : listed[i]? ≠ some true := fun e => by have h2 := hi.2.1; simp [e] at h2
            have hil : i < vs.length := by rw [h1]; simpa using hi.1
            have m1 : i ∈ (List.range vs.length).filter fun k => !(listed[k]? == some true) := by simp [hil, hni]
            have m2 : k ∈ (List.range vs.length).filter fun k => !(listed[k]? == some true) := by simp [hk, hn.2]
            match hf : (List.range vs.length).filter fun k => !(listed[k]? == some true), hcnt with
            | [],_ => rw [hf] at m1; simp at m1
            | [x],_ => rw [hf] at m1 m2; simp at m1 m2; exact hn.1 (by omega)
            | _ :: _ :: _, hcnt => simp at hcnt
          · exact e
        · simp only [Region.ready, List.mem_filter, List.mem_range, Bool.and_eq_true, Bool.not_eq_true'] at hi
          have hiz : i < listed.size := by rw [hI.lsz, h1]; simpa using hi.1
          have hni : listed[i]? ≠ some true := fun e => by have h2 := hi.2.1; simp [e] at h2
          have hil : i < vs.length := by rw [h1]; simpa using hi.1
          have hlt : ((List.range vs.length).filter fun k => !((listed.setIfInBounds i true)[k]? == some true)).length < ((List.range vs.length).filter fun k => !(listed[k]? == some true)).length := by
            refine filter_lt (i := i) ?_ (by simp [hil]) ?_ ?_
            · intro k hk
              simp only [Bool.not_eq_true', beq_eq_false_iff_ne, ne_eq] at hk ⊢
              exact fun e => hk ((get_set_true hiz).2 (.inr e))
            · simpa using hni
            · simp [hiz]
          omega
  refine key _ _ _ _ ⟨by simp [h1], ha.size, ha.dfr, hw.drew _, ?_, ?_, ?_⟩ ?_ ?_
  · intro j hj
    simp [Array.getElem?_replicate] at hj
  · intro t k v hk hl
    simp [Array.getElem?_replicate] at hl
  · intro t _ v hv
    exact ha.get t v hv
  · intro k hk _
    rw [h1] at hk
    simpa using Nat.lt_of_le_of_lt (Nat.zero_le _) hk
  · refine Nat.le_trans (List.length_filter_le _ _) ?_
    simp [h1]
end
end Go.SL

namespace Go.SL
set_option linter.unusedVariables false
open Go.RowKit

def emp : Res := ⟨fun _ => False, fun _ => True, fun _ _ => True.intro⟩
def sel (L : List Res) (is : List Nat) : List Res := is.map fun i => L.getD i emp

section
variable {P : Program} {ro : Option Nat} {β : Bs} {ds : List Deferred} {N : Nat} {L L' : List Res} {Q : Exit → Act → World → Prop}

theorem St.map {w : World} (f : Nat → Nat) (h : St β L w) (hf : ∀ j l, j ≠ l → j < L'.length → l < L'.length → f j ≠ f l) (hg : ∀ j r, L'[j]? = some r → r = emp ∨ L[f j]? = some r) : St β L' w := by
  have lt : ∀ (j : Nat) (r : Res), L'[j]? = some r → j < L'.length := fun j r hr => by
    rcases Nat.lt_or_ge j L'.length with q | q
    · exact q
    · simp [List.getElem?_eq_none q] at hr
  refine ⟨h.os, h.tape, h.output, h.size, h.fr, ?_, ?_, ?_⟩
  · intro j r hr
    rcases hg j r hr with rfl | hr'
    · exact True.intro
    · exact h.inv _ r hr'
  · intro j r hr k hk
    rcases hg j r hr with rfl | hr'
    · exact hk.elim
    · exact h.rng _ r hr' k hk
  · intro j l r s hjl hr hs k hk hk'
    rcases hg j r hr with rfl | hr'
    · exact hk
    · rcases hg l s hs with rfl | hs'
      · exact hk'
      · exact h.dis _ _ r s (hf j l hjl (lt j r hr) (lt l s hs)) hr' hs' k hk hk'

def nodupB : List Nat → Bool
  | [] => true
  | x :: xs => !xs.contains x && nodupB xs
theorem nodupB_spec : ∀ {l : List Nat}, nodupB l = true → ∀ (i j : Nat) (hi : i < l.length) (hj : j < l.length), i ≠ j → l[i] ≠ l[j]
  | [],_, i, j, hi,_,_ => by simp at hi
  | x :: xs, h, i, j, hi, hj, hij => by
    simp only [nodupB, Bool.and_eq_true, Bool.not_eq_true'] at h
    have hx : ∀ k (hk : k < xs.length), xs[k] ≠ x := fun k hk e => by
      have : xs.contains x = true := by simp only [List.contains_iff_mem]; exact e ▸ List.getElem_mem hk
      rw [h.1] at this; cases this
    cases i with
    | zero =>
      cases j with
      | zero => exact absurd rfl hij
      | succ j => simp at hj ⊢; exact (hx j hj).symm
    | succ i =>
      cases j with
      | zero => simp at hi ⊢; exact hx i hi
      | succ j => simp at hi hj ⊢; exact nodupB_spec h.2 i j hi hj (by omega)

/-- A choice of the resources. -/
theorem St.sel {w : World} (is : List Nat) (h : St β L w) (hn : nodupB is = true) : St β (sel L is) w := by
  refine h.map (fun j => is.getD j 0) ?_ ?_
  · intro j l hjl hj hl e
    simp [Go.SL.sel] at hj hl
    have := nodupB_spec hn j l hj hl hjl
    simp [List.getD, List.getElem?_eq_getElem hj, List.getElem?_eq_getElem hl] at e
    exact this e
  · intro j r hr
    simp only [Go.SL.sel, List.getElem?_map] at hr
    cases q : is[j]? with
    | none => simp [q] at hr
    | some i =>
      simp only [q, Option.map_some, Option.some.injEq] at hr
      simp only [List.getD, q, Option.getD_some]
      cases q' : L[i]? with
      | none => simp [List.getD, q'] at hr; exact .inl hr.symm
      | some r' => simp [List.getD, q'] at hr; subst hr; exact .inr rfl

/-- Of a choice a narrower one. -/
theorem St.sel_sub {w : World} {is js : List Nat} (h : St β (Go.SL.sel L is) w) (hn : nodupB js = true) (hs : js.all is.contains = true) : St β (Go.SL.sel L js) w := by
  have hidx : ∀ j, j < js.length → ∃ i, i < is.length ∧ is[i]? = js[j]? := by
    intro j hj
    have := List.all_eq_true.1 hs js[j] (List.getElem_mem hj)
    have hm : js[j] ∈ is := by simpa using this
    obtain ⟨i, hi, e⟩ := List.getElem_of_mem hm
    exact ⟨i, hi, by simp [hi, hj, e]⟩
  let f : Nat → Nat := fun j => if hj : j < js.length then (hidx j hj).choose else 0
  have hf : ∀ j, j < js.length → f j < is.length ∧ is[f j]? = js[j]? := by
    intro j hj
    have := (hidx j hj).choose_spec
    simp only [f, hj, dif_pos]
    exact this
  refine h.map f ?_ ?_
  · intro j l hjl hj hl e
    simp [Go.SL.sel] at hj hl
    have h1 := (hf j hj).2
    have h2 := (hf l hl).2
    rw [e, h2] at h1
    have := nodupB_spec hn j l hj hl hjl
    simp [List.getElem?_eq_getElem hj, List.getElem?_eq_getElem hl] at h1
    exact this h1.symm
  · intro j r hr
    have hj : j < js.length := by
      rcases Nat.lt_or_ge j js.length with q | q
      · exact q
      · simp [Go.SL.sel, List.getElem?_eq_none q] at hr
    right
    simp only [Go.SL.sel, List.getElem?_map] at hr ⊢
    rw [(hf j hj).2]
    exact hr
end

/-! ### The light ones, the heavy ones -/
/-- 'ms': of each operation: none: it is one of the chain; some m: it may come behind the first m of the chain, no later. 'J m': what stays of the resources behind the first m. -/
def LX (P : Program) (β : Bs) (N : Nat) (ops : Array Oper) (J : Nat → List Res) : List Oper → List (Option Nat) → Env → Env → Prop
  | [],_, env, env' => env = env'
  | o :: r, none :: ms, env, env' => LX P β N ops J r ms env env'
  | o :: r, some m :: ms, env, env' => ∃ d v, o.dst = some d ∧ d < N ∧ (∀ L, (∀ w, St β L w → St β (J m) w) → OpOk P β ops L o env v) ∧ LX P β N ops J r ms ((d, v) :: env) env'
  | _ :: _, [],_,_ => False

def putE (o : Oper) (v : Value) (env : Env) : Env := match o.dst with | some d => (d, v) :: env | none => env

def HX (P : Program) (β : Bs) (N : Nat) (ds : List Deferred) (J : Nat → List Res) (Q : Exit → Act → World → Prop) : Nat → List Oper → List (Option Nat) → Env → List Res → Prop
  | _, [],_, env, L => VE β N ds env L .normal Q
  | m, o :: r, some _ :: ms, env, L => HX P β N ds J Q m r ms env L
  | m, o :: r, none :: ms, env, L => o.guard = none ∧ (∀ d, o.dst = some d → d < N) ∧ HO P β env L o fun v L' => (∀ w, St β L' w → St β (J (m + 1)) w) ∧ HX P β N ds J Q (m + 1) r ms (putE o v env) L'
  | _,_ :: _, [],_,_ => False

section
variable {P : Program} {ro : Option Nat} {β : Bs} {ds : List Deferred} {N : Nat} {ops : Array Oper} {J : Nat → List Res} {Q : Exit → Act → World → Prop} {env env' : Env} {L : List Res}

theorem LX.nil {ms : List (Option Nat)} : LX P β N ops J [] ms env env := rfl
theorem LX.s {o : Oper} {rest : List Oper} {ms : List (Option Nat)} (k : LX P β N ops J rest ms env env') : LX P β N ops J (o :: rest) (none :: ms) env env' := k
theorem LX.l {m : Nat} {ms : List (Option Nat)} {d : Nat} {op : Op} {ty : TypeId} {pos : String} {aft : Array Edge} {rest : List Oper} {v : Value} (h : ∀ L, (∀ w, St β L w → St β (J m) w) → LO P β env L ⟨some d, op, ty, pos, aft, none⟩ v) (hd : Nat.blt d N = true)
    (k : LX P β N ops J rest ms ((d, v) :: env) env') : LX P β N ops J (⟨some d, op, ty, pos, aft, none⟩ :: rest) (some m :: ms) env env' :=
  ⟨d, v, rfl, Nat.le_of_ble_eq_true hd, fun L hL => .inl ⟨rfl, h L hL⟩, k⟩
theorem LX.lg {m : Nat} {ms : List (Option Nat)} {d j t : Nat} {want c : Bool} {op : Op} {ty : TypeId} {pos : String} {aft : Array Edge} {rest : List Oper} {v u : Value} (hj : (ops[j]?).bind (·.dst) = some t) (ht : ev1 env t = some u) (hg : GD u want c)
    (h : c = true → ∀ L, (∀ w, St β L w → St β (J m) w) → LO P β env L ⟨some d, op, ty, pos, aft, some (j, want)⟩ v) (hd : Nat.blt d N = true)
    (k : LX P β N ops J rest ms ((d, gv c v) :: env) env') : LX P β N ops J (⟨some d, op, ty, pos, aft, some (j, want)⟩ :: rest) (some m :: ms) env env' :=
  ⟨d, gv c v, rfl, Nat.le_of_ble_eq_true hd, fun L hL => .inr ⟨j, want, t, u, c, v, rfl, hj, ht, hg, fun hc => h hc L hL, rfl⟩, k⟩

theorem HX.nil {m : Nat} {ms : List (Option Nat)} (h : VE β N ds env L .normal Q) : HX P β N ds J Q m [] ms env L := h
theorem HX.s {m i : Nat} {o : Oper} {rest : List Oper} {ms : List (Option Nat)} (k : HX P β N ds J Q m rest ms env L) : HX P β N ds J Q m (o :: rest) (some i :: ms) env L := k
theorem HX.h {m : Nat} {ms : List (Option Nat)} {d : Nat} {op : Op} {ty : TypeId} {pos : String} {aft : Array Edge} {rest : List Oper} (hd : Nat.blt d N = true)
    (h : HO P β env L ⟨some d, op, ty, pos, aft, none⟩ fun v L' => (∀ w, St β L' w → St β (J (m + 1)) w) ∧ HX P β N ds J Q (m + 1) rest ms ((d, v) :: env) L') : HX P β N ds J Q m (⟨some d, op, ty, pos, aft, none⟩ :: rest) (none :: ms) env L :=
  ⟨rfl, fun d' e => by cases e; exact Nat.le_of_ble_eq_true hd, h⟩
theorem HX.h0 {m : Nat} {ms : List (Option Nat)} {op : Op} {ty : TypeId} {pos : String} {aft : Array Edge} {rest : List Oper}
    (h : HO P β env L ⟨none, op, ty, pos, aft, none⟩ fun v L' => (∀ w, St β L' w → St β (J (m + 1)) w) ∧ HX P β N ds J Q (m + 1) rest ms env L') : HX P β N ds J Q m (⟨none, op, ty, pos, aft, none⟩ :: rest) (none :: ms) env L :=
  ⟨rfl, fun d' e => (by cases e), h⟩
end

def isLight (ms : List (Option Nat)) (i : Nat) : Bool := match ms[i]? with | some (some _) => true | _ => false
def isHeavy (ms : List (Option Nat)) (i : Nat) : Bool := match ms[i]? with | some none => true | _ => false
/-- How many of the chain stand before i. -/
def rank (ms : List (Option Nat)) (i : Nat) : Nat := ((ms.take i).filter fun x => x.isNone).length
/-- i stands ahead of k where each of the light ones stands ahead of the chain. -/
def ahead (ms : List (Option Nat)) (i k : Nat) : Bool :=
  if isLight ms i then (if isLight ms k then Nat.blt i k else true) else (if isLight ms k then false else Nat.blt i k)

def chkH (l : List Oper) (ms : List (Option Nat)) (js : List (List Nat)) : Bool :=
  let cl := clOf l
  let n := l.length
  Nat.beq ms.length n && js.all nodupB && ((idxs js.length).all fun m => (js.getD (m + 1) []).all (js.getD m []).contains) &&
  (idxs n).all fun k =>
    match l[k]? with
    | none => false
    | some o =>
      o.after.toList.all (fun e => !Region.binds .any e || Nat.blt e.on k) &&
      (cl.getD k []).all (fun i => o.after.toList.any fun e => Region.binds .any e && (Nat.beq e.on i || (cl.getD e.on []).contains i)) &&
      o.after.toList.all (fun e => !Region.binds .any e || (cl.getD k []).contains e.on) &&
      (isLight ms k || (idxs n).all fun i => !isHeavy ms i || !Nat.blt i k || (cl.getD k []).contains i) &&
      (match ms.getD k none with | some m => (idxs n).all fun i => !isHeavy ms i || Nat.blt (rank ms i) m || (cl.getD i []).contains k | none => true) &&
      (match o.dst with
       | none => !isLight ms k
       | some d => (idxs n).all fun i => !dstIs l i d || !ahead ms i k || (cl.getD k []).contains i) &&
      (readsOf l.toArray o).all fun t => (idxs n).all fun i => !dstIs l i t || ((!ahead ms i k || (cl.getD k []).contains i) && (!ahead ms k i || (cl.getD i []).contains k))
/-! ### What the light ones lay, in the text's order -/
def envK (l : List Oper) (ms : List (Option Nat)) (V : Nat → Value) (env : Env) : Nat → Env
  | 0 => env
  | k + 1 => if isLight ms k then (match (l[k]?).bind (·.dst) with | some d => (d, V k) :: envK l ms V env k | none => envK l ms V env k) else envK l ms V env k

theorem isLight_cons {x : Option Nat} {ms : List (Option Nat)} {k : Nat} : isLight (x :: ms) (k + 1) = isLight ms k := by simp [isLight]

theorem envK_cons (o : Oper) (l : List Oper) (x : Option Nat) (ms : List (Option Nat)) (V : Nat → Value) (env env1 : Env) (h : envK (o :: l) (x :: ms) V env 1 = env1) : ∀ k, envK (o :: l) (x :: ms) V env (k + 1) = envK l ms (fun j => V (j + 1)) env1 k
  | 0 => by rw [h]; rfl
  | k + 1 => by
    have ih := envK_cons o l x ms V env env1 h k
    show (if isLight (x :: ms) (k + 1) then _ else _) = _
    rw [isLight_cons, ih]
    simp only [List.getElem?_cons_succ]
    rfl

section
variable {P : Program} {ro : Option Nat} {β : Bs} {ds : List Deferred} {N : Nat} {ops : Array Oper} {J : Nat → List Res} {Q : Exit → Act → World → Prop}

def shiftV (v : Value) (V : Nat → Value) : Nat → Value
  | 0 => v
  | j + 1 => V j

theorem LX.vals : ∀ {l : List Oper} {ms : List (Option Nat)} {env env' : Env}, LX P β N ops J l ms env env' →
    ∃ V : Nat → Value, env' = envK l ms V env l.length ∧ ∀ k o m, l[k]? = some o → ms[k]? = some (some m) → ∃ d, o.dst = some d ∧ d < N ∧ ∀ L, (∀ w, St β L w → St β (J m) w) → OpOk P β ops L o (envK l ms V env k) (V k)
  | [], ms, env, env', h => ⟨fun _ => undef, h.symm, by simp⟩
  | o :: r, none :: ms, env, env', h => by
    obtain ⟨V, h1, h2⟩ := LX.vals (l := r) (ms := ms) h
    have e : envK (o :: r) (none :: ms) (shiftV undef V) env 1 = env := by simp [envK, isLight]
    have ec := envK_cons o r none ms (shiftV undef V) env env e
    refine ⟨shiftV undef V, ?_, ?_⟩
    · simp only [List.length_cons]; rw [ec]; exact h1
    · intro k o' m hk hm
      cases k with
      | zero => simp at hm
      | succ k =>
        simp only [List.getElem?_cons_succ] at hk hm
        rw [ec]
        exact h2 k o' m hk hm
  | o :: r, some m0 :: ms, env, env', ⟨d, v, hd, hN, hok, hr⟩ => by
    obtain ⟨V, h1, h2⟩ := LX.vals (l := r) (ms := ms) hr
    have e : envK (o :: r) (some m0 :: ms) (shiftV v V) env 1 = (d, v) :: env := by simp [envK, isLight, hd, shiftV]
    have ec := envK_cons o r (some m0) ms (shiftV v V) env _ e
    refine ⟨shiftV v V, ?_, ?_⟩
    · simp only [List.length_cons]; rw [ec]; exact h1
    · intro k o' m hk hm
      cases k with
      | zero =>
        simp at hk hm
        subst hk; subst hm
        exact ⟨d, hd, hN, fun L hL => hok L hL⟩
      | succ k =>
        simp only [List.getElem?_cons_succ] at hk hm
        rw [ec]
        exact h2 k o' m hk hm

theorem ev1_envK (l : List Oper) (ms : List (Option Nat)) (V : Nat → Value) (env : Env) (t : Nat) (u : Value) : ∀ k, ev1 (envK l ms V env k) t = some u →
    (∃ i, i < k ∧ isLight ms i = true ∧ dstIs l i t = true ∧ V i = u ∧ ∀ i', i < i' → i' < k → isLight ms i' = true → dstIs l i' t = false) ∨
    ((∀ i, i < k → isLight ms i = true → dstIs l i t = false) ∧ ev1 env t = some u)
  | 0, h => .inr ⟨fun i hi => by omega, h⟩
  | k + 1, h => by
    by_cases hl : isLight ms k = true
    · cases hd : (l[k]?).bind (·.dst) with
      | none =>
        have hdk : ∀ t, dstIs l k t = false := by
          intro t
          unfold dstIs
          cases q : l[k]? with
          | none => rfl
          | some o => simp [q] at hd; simp [hd]
        simp only [envK, hl, if_true, hd] at h
        rcases ev1_envK l ms V env t u k h with ⟨i, h1, h2, h3, h4, h5⟩ | ⟨h1, h2⟩
        · refine .inl ⟨i, by omega, h2, h3, h4, fun i' a b c => ?_⟩
          by_cases q : i' = k
          · subst q; exact hdk t
          · exact h5 i' a (by omega) c
        · refine .inr ⟨fun i a b => ?_, h2⟩
          by_cases q : i = k
          · subst q; exact hdk t
          · exact h1 i (by omega) b
      | some d =>
        have hdk : ∀ t, dstIs l k t = Nat.beq d t := by
          intro t
          unfold dstIs
          cases q : l[k]? with
          | none => simp [q] at hd
          | some o => simp [q] at hd; simp [hd]
        simp only [envK, hl, if_true, hd] at h
        by_cases e : t = d
        · subst e
          rw [ev1_cons_eq] at h
          exact .inl ⟨k, by omega, hl, by rw [hdk]; exact Nat.beq_refl _, by simpa using h, fun i' a b => by omega⟩
        · rw [ev1_cons_ne e] at h
          have hne : Nat.beq d t = false := by
            cases q : Nat.beq d t
            · rfl
            · exact absurd (Nat.eq_of_beq_eq_true q).symm e
          rcases ev1_envK l ms V env t u k h with ⟨i, h1, h2, h3, h4, h5⟩ | ⟨h1, h2⟩
          · refine .inl ⟨i, by omega, h2, h3, h4, fun i' a b c => ?_⟩
            by_cases q : i' = k
            · subst q; rw [hdk]; exact hne
            · exact h5 i' a (by omega) c
          · refine .inr ⟨fun i a b => ?_, h2⟩
            by_cases q : i = k
            · subst q; rw [hdk]; exact hne
            · exact h1 i (by omega) b
    · simp only [envK, hl, Bool.false_eq_true, if_false] at h
      rcases ev1_envK l ms V env t u k h with ⟨i, h1, h2, h3, h4, h5⟩ | ⟨h1, h2⟩
      · refine .inl ⟨i, by omega, h2, h3, h4, fun i' a b c => ?_⟩
        by_cases q : i' = k
        · subst q; exact absurd c hl
        · exact h5 i' a (by omega) c
      · refine .inr ⟨fun i a b => ?_, h2⟩
        by_cases q : i = k
        · subst q; exact absurd b hl
        · exact h1 i (by omega) b

theorem ev1_append (e e' : Env) (t : Nat) : ev1 (e ++ e') t = match ev1 e t with | some v => some v | none => ev1 e' t := by
  induction e with
  | nil => rfl
  | cons x e ih =>
    obtain ⟨j, v⟩ := x
    by_cases h : t = j
    · subst h; simp [ev1_cons_eq]
    · simp [ev1_cons_ne h, ih]

/-- The chain goes on behind light ones. -/
theorem HX.drop {l : List Oper} {ms : List (Option Nat)} {m : Nat} {env : Env} {L : List Res} {p : Nat} : ∀ (k : Nat), HX P β N ds J Q m (l.drop p) (ms.drop p) env L → p + k ≤ l.length → (∀ i, p ≤ i → i < p + k → isLight ms i = true) → HX P β N ds J Q m (l.drop (p + k)) (ms.drop (p + k)) env L
  | 0, h,_,_ => h
  | k + 1, h, hle, hl => by
    have ih := HX.drop k h (by omega) (fun i a b => hl i a (by omega))
    have hlt : p + k < l.length := by omega
    have hm := hl (p + k) (by omega) (by omega)
    unfold isLight at hm
    cases q : ms[p + k]? with
    | none => simp [q] at hm
    | some x =>
      cases x with
      | none => simp [q] at hm
      | some y =>
        have hml : p + k < ms.length := by
          rcases Nat.lt_or_ge (p + k) ms.length with r | r
          · exact r
          · simp [List.getElem?_eq_none r] at q
        have e1 : ms[p + k] = some y := by simpa [List.getElem?_eq_getElem hml] using q
        rw [List.drop_eq_getElem_cons hlt, List.drop_eq_getElem_cons hml, e1] at ih
        exact ih

structure Hv (P : Program) (β : Bs) (N : Nat) (ds : List Deferred) (J : Nat → List Res) (Q : Exit → Act → World → Prop) (l : List Oper) (ms : List (Option Nat)) (V : Nat → Value) (env : Env) (listed : Array Bool) (p : Nat) (eh : Env) (L : List Res) (a : Act) (w : World) : Prop where
  lsz : listed.size = l.length
  size : a.tmps.size = N
  dfr : a.defers = ds
  st : St β L w
  hJ : ∀ w, St β L w → St β (J (rank ms p)) w
  hp : p ≤ l.length
  hx : HX P β N ds J Q (rank ms p) (l.drop p) (ms.drop p) (eh ++ envK l ms V env l.length) L
  hd : ∀ i, i < l.length → isHeavy ms i = true → (listed[i]? = some true ↔ i < p)
  closed : ∀ j, listed[j]? = some true → ∀ i, i ∈ (clOf l).getD j [] → listed[i]? = some true
  eh1 : ∀ t v, ev1 eh t = some v → a.tmps[t]? = some v
  eh2 : ∀ t, ev1 eh t = none → ∀ i, i < p → isHeavy ms i = true → dstIs l i t = false
  eh3 : ∀ t, ev1 eh t ≠ none → ∃ i, i < p ∧ isHeavy ms i = true ∧ dstIs l i t = true
  top : ∀ t k, ev1 eh t = none → k < l.length → isLight ms k = true → dstIs l k t = true → listed[k]? = some true → (∀ k', k' < l.length → isLight ms k' = true → dstIs l k' t = true → listed[k']? = some true → k' ≤ k) → a.tmps[t]? = some (V k)
  base : ∀ t, ev1 eh t = none → (∀ k, k < l.length → isLight ms k = true → dstIs l k t = true → listed[k]? ≠ some true) → ∀ v, ev1 env t = some v → a.tmps[t]? = some v

theorem chkH_spec {l : List Oper} {ms : List (Option Nat)} {js : List (List Nat)} (h : chkH l ms js = true) :
    ms.length = l.length ∧ (∀ m, nodupB (js.getD m []) = true) ∧ (∀ m, (js.getD (m + 1) []).all (js.getD m []).contains = true) ∧
    ∀ k o, l[k]? = some o →
      (∀ e, e ∈ o.after.toList → Region.binds .any e = true → e.on < k) ∧
      (∀ i, i ∈ (clOf l).getD k [] → ∃ e, e ∈ o.after.toList ∧ Region.binds .any e = true ∧ (e.on = i ∨ i ∈ (clOf l).getD e.on [])) ∧
      (isLight ms k = false → ∀ i, i < k → isHeavy ms i = true → i ∈ (clOf l).getD k []) ∧
      (∀ m, ms[k]? = some (some m) → ∀ i, i < l.length → isHeavy ms i = true → rank ms i < m ∨ k ∈ (clOf l).getD i []) ∧
      (∀ d, o.dst = some d → ∀ i, i < l.length → dstIs l i d = true → ahead ms i k = true → i ∈ (clOf l).getD k []) ∧
      (∀ t, t ∈ readsOf l.toArray o → ∀ i, i < l.length → dstIs l i t = true → (ahead ms i k = true → i ∈ (clOf l).getD k []) ∧ (ahead ms k i = true → k ∈ (clOf l).getD i [])) := by
  unfold chkH at h
  simp only [Bool.and_eq_true] at h
  obtain ⟨⟨⟨h1, h2⟩, h3⟩, h4⟩ := h
  refine ⟨Nat.eq_of_beq_eq_true h1, ?_, ?_, ?_⟩
  · intro m
    cases q : js[m]? with
    | none => simp [List.getD, q, nodupB]
    | some x => simp only [List.getD, q, Option.getD_some]; exact List.all_eq_true.1 h2 x (List.mem_of_getElem? q)
  · intro m
    rcases Nat.lt_or_ge m js.length with q | q
    · exact List.all_eq_true.1 h3 m (by simpa [idxs] using q)
    · have : js[m + 1]? = none := by simp; omega
      simp [List.getD, this]
  · intro k o hk
    have hlt : k < l.length := by
      rcases Nat.lt_or_ge k l.length with q | q
      · exact q
      · simp [List.getElem?_eq_none q] at hk
    have h5 := List.all_eq_true.1 h4 k (by simpa [idxs] using hlt)
    simp only [hk, Bool.and_eq_true] at h5
    obtain ⟨⟨⟨⟨⟨⟨a1, a2⟩, a3⟩, a4⟩, a5⟩, a6⟩, a7⟩ := h5
    refine ⟨?_, ?_, ?_, ?_, ?_, ?_⟩
    · intro e he hb
      have := List.all_eq_true.1 a1 e he
      simp only [hb, Bool.not_true, Bool.false_or] at this
      exact Nat.le_of_ble_eq_true this
    · intro i hi
      have := List.all_eq_true.1 a2 i hi
      obtain ⟨e, he, hx⟩ := List.any_eq_true.1 this
      simp only [Bool.and_eq_true, Bool.or_eq_true] at hx
      exact ⟨e, he, hx.1, hx.2.imp Nat.eq_of_beq_eq_true (by simp)⟩
    · intro hl i hi hh
      simp only [hl, Bool.false_or] at a4
      have := List.all_eq_true.1 a4 i (by simp [idxs]; omega)
      have hb : Nat.blt i k = true := Nat.ble_eq_true_of_le hi
      simpa [hh, hb] using this
    · intro m hm i hi hh
      have e : ms.getD k none = some m := by simp [List.getD, hm]
      rw [e] at a5
      have := List.all_eq_true.1 a5 i (by simpa [idxs] using hi)
      simp only [hh, Bool.not_true, Bool.false_or, Bool.or_eq_true] at this
      exact this.imp (fun q => Nat.le_of_ble_eq_true q) (by simp)
    · intro d hd i hi hw ha
      simp only [hd] at a6
      have := List.all_eq_true.1 a6 i (by simpa [idxs] using hi)
      simpa [hw, ha] using this
    · intro t ht i hi hw
      have := List.all_eq_true.1 (List.all_eq_true.1 a7 t ht) i (by simpa [idxs] using hi)
      simp only [hw, Bool.not_true, Bool.false_or, Bool.and_eq_true] at this
      exact ⟨fun q => by simpa [q] using this.1, fun q => by simpa [q] using this.2⟩

theorem light_or_heavy {l : List Oper} {ms : List (Option Nat)} (hlen : ms.length = l.length) {k : Nat} (hk : k < l.length) : (isLight ms k = true ∧ isHeavy ms k = false ∧ ∃ m, ms[k]? = some (some m)) ∨ (isLight ms k = false ∧ isHeavy ms k = true ∧ ms[k]? = some none) := by
  have : k < ms.length := by omega
  cases q : ms[k] with
  | none => right; simp [isLight, isHeavy, this, q]
  | some m => left; simp [isLight, isHeavy, this, q]

theorem rank_succ {ms : List (Option Nat)} {k : Nat} (hk : k < ms.length) : rank ms (k + 1) = rank ms k + (if ms[k].isNone then 1 else 0) := by
  unfold rank
  rw [List.take_succ_eq_append_getElem hk, List.filter_append, List.length_append]
  congr 1
  simp only [List.filter_cons, List.filter_nil]
  split <;> rfl

theorem rank_find {ms : List (Option Nat)} {m : Nat} : ∀ p, p ≤ ms.length → m < rank ms p → ∃ i, i < p ∧ isHeavy ms i = true ∧ rank ms i = m
  | 0,_, h => by simp [rank] at h
  | p + 1, hp, h => by
    by_cases c : m < rank ms p
    · obtain ⟨i, h1, h2, h3⟩ := rank_find p (by omega) c
      exact ⟨i, by omega, h2, h3⟩
    · rw [rank_succ (by omega)] at h
      cases q : ms[p] with
      | none => exact ⟨p, by omega, by simp [isHeavy, (by omega : p < ms.length), q], by simp [q] at h; omega⟩
      | some x => simp [q] at h; omega

/-- What the checks of a region come to: from 'q' on the heavy ones are a chain. -/
def ChkS (l : List Oper) (ms : List (Option Nat)) (js : List (List Nat)) (q : Nat) : Prop :=
    ms.length = l.length ∧ (∀ m, nodupB (js.getD m []) = true) ∧ (∀ m, (js.getD (m + 1) []).all (js.getD m []).contains = true) ∧
    ∀ k o, l[k]? = some o →
      (∀ e, e ∈ o.after.toList → Region.binds .any e = true → e.on < k) ∧
      (∀ i, i ∈ (clOf l).getD k [] → ∃ e, e ∈ o.after.toList ∧ Region.binds .any e = true ∧ (e.on = i ∨ i ∈ (clOf l).getD e.on [])) ∧
      (isLight ms k = false → ∀ i, q ≤ i → i < k → isHeavy ms i = true → i ∈ (clOf l).getD k []) ∧
      (∀ m, ms[k]? = some (some m) → ∀ i, i < l.length → isHeavy ms i = true → rank ms i < m ∨ k ∈ (clOf l).getD i []) ∧
      (∀ d, o.dst = some d → ∀ i, i < l.length → dstIs l i d = true → ahead ms i k = true → i ∈ (clOf l).getD k []) ∧
      (∀ t, t ∈ readsOf l.toArray o → ∀ i, i < l.length → dstIs l i t = true → (ahead ms i k = true → i ∈ (clOf l).getD k []) ∧ (ahead ms k i = true → k ∈ (clOf l).getD i []))
theorem ChkS.of {l : List Oper} {ms : List (Option Nat)} {js : List (List Nat)} (h : chkH l ms js = true) : ChkS l ms js 0 := by
  obtain ⟨h1, h2, h3, h4⟩ := chkH_spec h
  exact ⟨h1, h2, h3, fun k o hk => ⟨(h4 k o hk).1, (h4 k o hk).2.1, fun a i _ => (h4 k o hk).2.2.1 a i, (h4 k o hk).2.2.2⟩⟩

theorem J_mono {L0 : List Res} {js : List (List Nat)} (hn : ∀ m, nodupB (js.getD m []) = true) (hs : ∀ m, (js.getD (m + 1) []).all (js.getD m []).contains = true) {w : World} : ∀ {m m' : Nat}, m ≤ m' → St β (sel L0 (js.getD m [])) w → St β (sel L0 (js.getD m' [])) w
  | m, m', h, hw => by
    induction m' with
    | zero => have : m = 0 := by omega
              subst this; exact hw
    | succ m' ih =>
      by_cases e : m = m' + 1
      · subst e; exact hw
      · exact (ih (by omega)).sel_sub (hn _) (hs _)

theorem Hv.reads {l : List Oper} {ms : List (Option Nat)} {js : List (List Nat)} {V : Nat → Value} {env : Env} {listed : Array Bool} {p : Nat} {eh : Env} {L : List Res} {a : Act} {w : World} {q : Nat} (hc : ChkS l ms js q)
    (h : Hv P β N ds J Q l ms V env listed p eh L a w) {i : Nat} {o : Oper} (ho : l[i]? = some o) (hnot : listed[i]? ≠ some true) (hdone : ∀ j, j ∈ (clOf l).getD i [] → listed[j]? = some true) {t : Nat} (ht : t ∈ readsOf l.toArray o) {u : Value} :
    (isLight ms i = true → ev1 (envK l ms V env i) t = some u → a.tmps[t]? = some u) ∧ (isLight ms i = false → ev1 (eh ++ envK l ms V env l.length) t = some u → a.tmps[t]? = some u) := by
  obtain ⟨hlen, hjn, hjs, hops⟩ := hc
  obtain ⟨c1, c2, c3, c4, c5, c6⟩ := hops i o ho
  have hil : i < l.length := by
    rcases Nat.lt_or_ge i l.length with q | q
    · exact q
    · simp [List.getElem?_eq_none q] at ho
  -- a light one that is ahead of i and writes t is done; one that is behind i is not
  have before : ∀ k, k < l.length → dstIs l k t = true → ahead ms k i = true → listed[k]? = some true := fun k hk hw ha => hdone k ((c6 t ht k hk hw).1 ha)
  have behind : ∀ k, k < l.length → dstIs l k t = true → ahead ms i k = true → listed[k]? ≠ some true := fun k hk hw ha hl => hnot (h.closed k hl i ((c6 t ht k hk hw).2 ha))
  refine ⟨fun hli hu => ?_, fun hhi hu => ?_⟩
  · have hno : ev1 eh t = none := by
      cases q : ev1 eh t with
      | none => rfl
      | some v =>
        exfalso
        obtain ⟨k, hkp, hkh, hkd⟩ := h.eh3 t (by rw [q]; simp)
        have hkl : k < l.length := Nat.lt_of_lt_of_le hkp h.hp
        have hnl : isLight ms k = false := by
          rcases light_or_heavy hlen hkl with ⟨_, b,_⟩ | ⟨a,_,_⟩
          · rw [b] at hkh; cases hkh
          · exact a
        exact behind k hkl hkd (by simp [ahead, hli, hnl]) ((h.hd k hkl hkh).2 hkp)
    have late : ∀ k', k' < l.length → isLight ms k' = true → dstIs l k' t = true → listed[k']? = some true → k' < i := by
      intro k' hk' hl' hd' hdn
      rcases Nat.lt_trichotomy k' i with q | q | q
      · exact q
      · subst q; exact absurd hdn hnot
      · exact absurd hdn (behind k' hk' hd' (by simp only [ahead, hli, hl', if_true]; exact Nat.ble_eq_true_of_le q))
    rcases ev1_envK l ms V env t u i hu with ⟨k, h1, h2, h3, h4, h5⟩ | ⟨h1, h2⟩
    · rw [← h4]
      refine h.top t k hno (by omega) h2 h3 (before k (by omega) h3 (by simp only [ahead, hli, h2, if_true]; exact Nat.ble_eq_true_of_le h1)) fun k' a b c d => ?_
      rcases Nat.lt_or_ge k k' with q | q
      · have := h5 k' q (late k' a b c d) b
        rw [c] at this; cases this
      · exact q
    · refine h.base t hno (fun k a b c d => ?_) u h2
      have := h1 k (late k a b c d) b
      rw [c] at this; cases this
  · rw [ev1_append] at hu
    cases q : ev1 eh t with
    | some v => rw [q] at hu; simp only [Option.some.injEq] at hu; subst hu; exact h.eh1 t v q
    | none =>
      rw [q] at hu
      simp only at hu
      rcases ev1_envK l ms V env t u l.length hu with ⟨k, h1, h2, h3, h4, h5⟩ | ⟨h1, h2⟩
      · rw [← h4]
        refine h.top t k q h1 h2 h3 (before k h1 h3 (by simp [ahead, hhi, h2])) fun k' a b c d => ?_
        rcases Nat.lt_or_ge k k' with r | r
        · have := h5 k' r a b
          rw [c] at this; cases this
        · exact r
      · refine h.base t q (fun k a b c d => ?_) u h2
        have := h1 k a b
        rw [c] at this; cases this

set_option maxHeartbeats 2000000 in
theorem Hv.step {l : List Oper} {ms : List (Option Nat)} {js : List (List Nat)} {L0 : List Res} {V : Nat → Value} {env : Env} {listed : Array Bool} {p : Nat} {eh : Env} {L : List Res} {a : Act} {w : World} {Q' : Exit → Act → World → Prop} {q0 : Nat} (hc : ChkS l ms js q0) (hq0 : q0 ≤ p) (hJe : J = fun m => sel L0 (js.getD m []))
    (hV : ∀ k o m, l[k]? = some o → ms[k]? = some (some m) → ∃ d, o.dst = some d ∧ d < N ∧ ∀ L, (∀ w, St β L w → St β (J m) w) → OpOk P β l.toArray L o (envK l ms V env k) (V k))
    (h : Hv P β N ds J Q l ms V env listed p eh L a w) {i : Nat} (hi : i ∈ Region.ready .any l.toArray listed) {K : Act → World → Prop}
    (hK : ∀ p' eh' L' a' w', q0 ≤ p' → Hv P β N ds J Q l ms V env (listed.setIfInBounds i true) p' eh' L' a' w' → K a' w') : wpOpIn (Wf ro) 0 P l.toArray Q' i K a w := by
  obtain ⟨hlen, hjn, hjs, hops⟩ := hc
  simp only [Region.ready, List.mem_filter, List.mem_range, Bool.and_eq_true, Bool.not_eq_true'] at hi
  obtain ⟨hin, hnl, hready⟩ := hi
  have hil : i < l.length := by simpa using hin
  have hiz : i < listed.size := by rw [h.lsz]; exact hil
  obtain ⟨o, ho⟩ : ∃ o, l[i]? = some o := ⟨l[i], by simp [hil]⟩
  have hnot : listed[i]? ≠ some true := by
    intro e
    have : listed.getD i true = true := by simp [e]
    rw [this] at hnl; cases hnl
  have hdone : ∀ e, e ∈ o.after.toList → Region.binds .any e = true → listed[e.on]? = some true := by
    intro e he hb
    have h1 : (o.after.all fun e => !Region.binds .any e || listed.getD e.on false) = true := by simpa [ho] using hready
    have h2 := (Array.all_eq_true_iff_forall_mem.1 h1) e (by simpa using he)
    simp only [hb, Bool.not_true, Bool.false_or] at h2
    cases q : listed[e.on]? with
    | none => simp [q] at h2
    | some b => simp [q] at h2; rw [h2]
  obtain ⟨c1, c2, c3, c4, c5, c6⟩ := hops i o ho
  have hcl : ∀ j, j ∈ (clOf l).getD i [] → listed[j]? = some true := by
    intro j hj
    obtain ⟨e, he, hb, hx⟩ := c2 j hj
    rcases hx with rfl | hx
    · exact hdone e he hb
    · exact h.closed _ (hdone e he hb) j hx
  have closed' : ∀ j, (listed.setIfInBounds i true)[j]? = some true → ∀ k, k ∈ (clOf l).getD j [] → (listed.setIfInBounds i true)[k]? = some true := by
    intro j hj k hk
    rw [get_set_true hiz] at hj ⊢
    rcases hj with rfl | hj
    · exact .inr (hcl k hk)
    · exact .inr (h.closed j hj k hk)
  have ho' : l.toArray[i]? = some o := by simpa using ho
  have dstI : ∀ d, o.dst = some d → ∀ t, dstIs l i t = Nat.beq d t := by
    intro d hd t; simp [dstIs, ho, hd]
  have beqne : ∀ {d t : Nat}, t ≠ d → Nat.beq d t = false := by
    intro d t e
    cases q : Nat.beq d t
    · rfl
    · exact absurd (Nat.eq_of_beq_eq_true q).symm e
  unfold wpOpIn
  simp only [ho']
  rcases light_or_heavy hlen hil with ⟨hli, hhv, m, hm⟩ | ⟨hli, hhv, hm⟩
  · -- a light one
    obtain ⟨d, hd, hdN, hok⟩ := hV i o m ho hm
    have hstage : rank ms p ≤ m := by
      rcases Nat.lt_or_ge m (rank ms p) with q | q
      · exfalso
        obtain ⟨j, hjp, hjh, hjr⟩ := rank_find (ms := ms) (m := m) p (by rw [hlen]; exact h.hp) q
        have hjl : j < l.length := Nat.lt_of_lt_of_le hjp h.hp
        rcases c4 m hm j hjl hjh with r | r
        · omega
        · exact hnot (h.closed j ((h.hd j hjl hjh).2 hjp) i r)
      · exact q
    have hJm : ∀ w, St β L w → St β (J m) w := by
      intro w hw
      have := h.hJ w hw
      rw [hJe] at this ⊢
      exact J_mono hjn hjs hstage this
    have hno : ev1 eh d = none := by
      cases q : ev1 eh d with
      | none => rfl
      | some v =>
        exfalso
        obtain ⟨k, hkp, hkh, hkd⟩ := h.eh3 d (by rw [q]; simp)
        have hkl : k < l.length := Nat.lt_of_lt_of_le hkp h.hp
        have hnl : isLight ms k = false := by
          rcases light_or_heavy hlen hkl with ⟨_, b,_⟩ | ⟨a,_,_⟩
          · rw [b] at hkh; cases hkh
          · exact a
        obtain ⟨_,_,_,_, g5,_⟩ := hops k l[k] (by simp [hkl])
        have hkd' : l[k].dst = some d := by
          simp only [dstIs, List.getElem?_eq_getElem hkl] at hkd
          cases r : l[k].dst with
          | none => simp [r] at hkd
          | some d' => simp only [r] at hkd; rw [Nat.eq_of_beq_eq_true hkd]
        exact hnot (h.closed k ((h.hd k hkl hkh).2 hkp) i (g5 d hkd' i hil (by rw [dstI d hd]; exact Nat.beq_refl _) (by simp [ahead, hli, hnl])))
    have fin : ∀ w', St β L w' → Hv P β N ds J Q l ms V env (listed.setIfInBounds i true) p eh L (a.put (some d) (V i)) w' := by
      intro w' hs
      refine ⟨by simp [h.lsz], by simp [Act.put, h.size], h.dfr, hs, h.hJ, h.hp, h.hx, ?_, closed', ?_, h.eh2, h.eh3, ?_, ?_⟩
      · intro k hk hkh
        rw [get_set_true hiz, ← h.hd k hk hkh]
        have : k ≠ i := fun e => by subst e; rw [hhv] at hkh; cases hkh
        simp [this]
      · intro t v hv
        have e : t ≠ d := fun e => by subst e; rw [hno] at hv; cases hv
        simp only [Act.put]
        rw [Array.getElem?_setIfInBounds_ne (Ne.symm e)]
        exact h.eh1 t v hv
      · intro t k hn hk hkl hkd hdn hmax
        by_cases e : t = d
        · subst e
          have hki : k = i := by
            have g := hmax i hil hli (by rw [dstI t hd]; exact Nat.beq_refl _) ((get_set_true hiz).2 (.inl rfl))
            rcases Nat.lt_or_ge i k with q | q
            · exfalso
              have hl' : listed[k]? = some true := by
                rcases (get_set_true hiz).1 hdn with e | e
                · omega
                · exact e
              obtain ⟨_,_,_,_, g5,_⟩ := hops k l[k] (by simp [hk])
              have hkd' : l[k].dst = some t := by
                simp only [dstIs, List.getElem?_eq_getElem hk] at hkd
                cases r : l[k].dst with
                | none => simp [r] at hkd
                | some d' => simp only [r] at hkd; rw [Nat.eq_of_beq_eq_true hkd]
              exact hnot (h.closed k hl' i (g5 t hkd' i hil (by rw [dstI t hd]; exact Nat.beq_refl _) (by simp only [ahead, hli, hkl, if_true]; exact Nat.ble_eq_true_of_le q)))
            · omega
          subst hki
          simp [Act.put, h.size, hdN]
        · have hki : k ≠ i := fun q => by subst q; rw [dstI d hd, beqne e] at hkd; cases hkd
          simp only [Act.put]
          rw [Array.getElem?_setIfInBounds_ne (Ne.symm e)]
          refine h.top t k hn hk hkl hkd ?_ fun k' a b c d => hmax k' a b c ((get_set_true hiz).2 (.inr d))
          rcases (get_set_true hiz).1 hdn with q | q
          · exact absurd q hki
          · exact q
      · intro t hn hnone v hv
        have e : t ≠ d := fun q => by subst q; exact hnone i hil hli (by rw [dstI t hd]; exact Nat.beq_refl _) ((get_set_true hiz).2 (.inl rfl))
        simp only [Act.put]
        rw [Array.getElem?_setIfInBounds_ne (Ne.symm e)]
        exact h.base t hn (fun k a b c d => hnone k a b c ((get_set_true hiz).2 (.inr d))) v hv
    have rd : ∀ t, t ∈ readsOf l.toArray o → ∀ u, ev1 (envK l ms V env i) t = some u → a.tmps[t]? = some u := fun t ht u hu => (h.reads ⟨hlen, hjn, hjs, hops⟩ ho hnot hcl ht).1 hli hu
    have opr : ∀ x, x ∈ o.op.operands → ∀ u, ev (envK l ms V env i) x = some u → a.eval x = u := by
      intro x hx u hu
      cases x with
      | tmp t =>
        have := rd t (List.mem_append_left _ (List.mem_filterMap.2 ⟨.tmp t, by simpa using hx, rfl⟩)) u hu
        simp [Act.eval, this]
      | const c => simpa [ev, Act.eval] using hu
      | global g => simpa [ev, Act.eval] using hu
      | func f => simpa [ev, Act.eval] using hu
    have hok' := hok L hJm
    generalize hVi : V i = vi at hok' fin
    rcases hok' with ⟨hg, hlo⟩ | ⟨j, want, t, u, c, v', hg, hj, ht, hgd, hlo, rfl⟩
    · rw [if_pos (by simp [Region.wanted, hg])]
      exact (hlo a w opr h.st).wp (ro := ro) (Q := Q') (K := K) fun w' hs => by rw [hd]; exact hK _ _ _ _ _ hq0 (fin w' hs)
    · have ht' : a.tmps[t]? = some u := rd t (List.mem_append_right _ (by rw [hg]; show t ∈ ((l.toArray[j]?).bind (·.dst)).toList; rw [hj]; simp)) u ht
      have hy : yielded l.toArray a.tmps j = vb u := by
        unfold yielded; rw [hj]; simp only [Option.bind_some, ht']; cases u <;> rfl
      simp only [Region.wanted, hg, hy]
      cases c with
      | true =>
        have hu := hgd.1 rfl
        subst hu
        simp only [vb, beq_self_eq_true, if_true]
        exact (hlo rfl a w opr h.st).wp (ro := ro) (Q := Q') (K := K) fun w' hs => by
          rw [hd]
          have := fin w' hs
          rw [show gv true v' = v' from rfl] at this
          exact hK _ _ _ _ _ hq0 this
      | false =>
        have hu := hgd.2 rfl
        have hne := vb_ne hu
        simp only [hne, Bool.false_eq_true, if_false]
        have := fin w h.st
        rw [show gv false v' = undef from rfl] at this
        rw [hd]
        exact ⟨fun _ _ => True.intro, hK _ _ _ _ _ hq0 this⟩
  · -- the next of the chain
    have hpi : p ≤ i := by
      rcases Nat.lt_or_ge i p with q | q
      · exact absurd ((h.hd i hil hhv).2 q) hnot
      · exact q
    have hlights : ∀ k, p ≤ k → k < p + (i - p) → isLight ms k = true := by
      intro k hk hki
      have hkl : k < l.length := by omega
      rcases light_or_heavy hlen hkl with ⟨a,_,_⟩ | ⟨_, b,_⟩
      · exact a
      · exfalso
        have := hcl k (c3 hli k (by omega) (by omega) b)
        have := (h.hd k hkl b).1 this
        omega
    have hx := HX.drop (i - p) h.hx (by omega) hlights
    rw [show p + (i - p) = i by omega] at hx
    have hml : i < ms.length := by omega
    have e1 : l[i] = o := by simpa [List.getElem?_eq_getElem hil] using ho
    have e2 : ms[i] = none := by simpa [List.getElem?_eq_getElem hml] using hm
    rw [List.drop_eq_getElem_cons hil, List.drop_eq_getElem_cons hml, e1, e2] at hx
    obtain ⟨hg, hdN, hho⟩ := hx
    have hrk : rank ms p = rank ms i := by
      have : ∀ k, p + k ≤ i → rank ms (p + k) = rank ms p := by
        intro k
        induction k with
        | zero => intro _; rfl
        | succ k ih =>
          intro hk
          have hlk := hlights (p + k) (by omega) (by omega)
          have hkl : p + k < ms.length := by omega
          rw [show p + (k + 1) = (p + k) + 1 by omega, rank_succ hkl, ih (by omega)]
          cases r : ms[p + k] with
          | none => simp [isLight, hkl, r] at hlk
          | some x => simp
      have := this (i - p) (by omega)
      rw [show p + (i - p) = i by omega] at this
      exact this.symm
    have hrk1 : rank ms (i + 1) = rank ms p + 1 := by
      rw [rank_succ hml, e2, hrk]; simp
    have rd : ∀ t, t ∈ readsOf l.toArray o → ∀ u, ev1 (eh ++ envK l ms V env l.length) t = some u → a.tmps[t]? = some u := fun t ht u hu => (h.reads ⟨hlen, hjn, hjs, hops⟩ ho hnot hcl ht).2 hli hu
    have opr : ∀ x, x ∈ o.op.operands → ∀ u, ev (eh ++ envK l ms V env l.length) x = some u → a.eval x = u := by
      intro x hx u hu
      cases x with
      | tmp t =>
        have := rd t (List.mem_append_left _ (List.mem_filterMap.2 ⟨.tmp t, by simpa using hx, rfl⟩)) u hu
        simp [Act.eval, this]
      | const c => simpa [ev, Act.eval] using hu
      | global g => simpa [ev, Act.eval] using hu
      | func f => simpa [ev, Act.eval] using hu
    rw [if_pos (by simp [Region.wanted, hg])]
    refine (hho.wp (ro := ro) (Q := Q') opr h.st fun v L' w' hk hs => hK (i + 1) (putE o v eh) L' _ w' (by omega) ?_)
    obtain ⟨hk1, hk2⟩ := hk
    have envE : putE o v (eh ++ envK l ms V env l.length) = putE o v eh ++ envK l ms V env l.length := by
      unfold putE; cases o.dst <;> rfl
    refine ⟨by simp [h.lsz], ?_, (by cases o.dst <;> exact h.dfr), hs, ?_, by omega, ?_, ?_, closed', ?_, ?_, ?_, ?_, ?_⟩
    · cases q : o.dst with
      | none => exact h.size
      | some d => simp [Act.put, h.size]
    · rw [hrk1]; exact hk1
    · rw [hrk1, ← envE]; exact hk2
    · intro k hk hkh
      rw [get_set_true hiz, h.hd k hk hkh]
      refine ⟨fun q => by omega, fun q => ?_⟩
      by_cases r : k = i
      · exact .inl r
      · right
        rcases Nat.lt_or_ge k p with s | s
        · exact s
        · exfalso
          have := hlights k s (by omega)
          rcases light_or_heavy hlen hk with ⟨_, b,_⟩ | ⟨b,_,_⟩
          · rw [b] at hkh; cases hkh
          · rw [b] at this; cases this
    · intro t u hu
      unfold putE at hu
      cases q : o.dst with
      | none => simp only [q] at hu; exact h.eh1 t u hu
      | some d =>
        simp only [q] at hu
        by_cases e : t = d
        · subst e
          rw [ev1_cons_eq] at hu
          cases hu
          simp [Act.put, h.size, hdN t q]
        · rw [ev1_cons_ne e] at hu
          simp only [Act.put]
          rw [Array.getElem?_setIfInBounds_ne (Ne.symm e)]
          exact h.eh1 t u hu
    · intro t hn k hk hkh
      unfold putE at hn
      have hn' : ev1 eh t = none := by
        cases q : o.dst with
        | none => simpa only [q] using hn
        | some d =>
          simp only [q] at hn
          by_cases e : t = d
          · subst e; rw [ev1_cons_eq] at hn; cases hn
          · rwa [ev1_cons_ne e] at hn
      by_cases r : k = i
      · subst r
        cases q : o.dst with
        | none => simp [dstIs, ho, q]
        | some d =>
          rw [dstI d q]
          refine beqne fun e => ?_
          subst e
          simp only [q] at hn
          rw [ev1_cons_eq] at hn
          cases hn
      · refine h.eh2 t hn' k ?_ hkh
        rcases Nat.lt_or_ge k p with s | s
        · exact s
        · exfalso
          have := hlights k s (by omega)
          rcases light_or_heavy hlen (k := k) (by omega) with ⟨_, b,_⟩ | ⟨b,_,_⟩
          · rw [b] at hkh; cases hkh
          · rw [b] at this; cases this
    · intro t hn
      unfold putE at hn
      cases q : o.dst with
      | none =>
        simp only [q] at hn
        obtain ⟨k, a, b, c⟩ := h.eh3 t hn
        exact ⟨k, by omega, b, c⟩
      | some d =>
        simp only [q] at hn
        by_cases e : t = d
        · subst e
          exact ⟨i, by omega, hhv, by rw [dstI t q]; exact Nat.beq_refl _⟩
        · rw [ev1_cons_ne e] at hn
          obtain ⟨k, a, b, c⟩ := h.eh3 t hn
          exact ⟨k, by omega, b, c⟩
    · intro t k hn hk hkl hkd hdn hmax
      have hki : k ≠ i := fun e => by subst e; rw [hli] at hkl; cases hkl
      unfold putE at hn
      have hn' : ev1 eh t = none ∧ ∀ d, o.dst = some d → t ≠ d := by
        cases q : o.dst with
        | none => exact ⟨by simpa only [q] using hn, by simp⟩
        | some d =>
          simp only [q] at hn
          by_cases e : t = d
          · subst e; rw [ev1_cons_eq] at hn; cases hn
          · exact ⟨by rwa [ev1_cons_ne e] at hn, fun d' hd' => by cases hd'; exact e⟩
      have hdn' : listed[k]? = some true := by
        rcases (get_set_true hiz).1 hdn with q | q
        · exact absurd q hki
        · exact q
      have := h.top t k hn'.1 hk hkl hkd hdn' fun k' a b c d => hmax k' a b c ((get_set_true hiz).2 (.inr d))
      cases q : o.dst with
      | none => exact this
      | some d =>
        simp only [Act.put]
        rw [Array.getElem?_setIfInBounds_ne (Ne.symm (hn'.2 d q))]
        exact this
    · intro t hn hnone u hu
      unfold putE at hn
      have hn' : ev1 eh t = none ∧ ∀ d, o.dst = some d → t ≠ d := by
        cases q : o.dst with
        | none => exact ⟨by simpa only [q] using hn, by simp⟩
        | some d =>
          simp only [q] at hn
          by_cases e : t = d
          · subst e; rw [ev1_cons_eq] at hn; cases hn
          · exact ⟨by rwa [ev1_cons_ne e] at hn, fun d' hd' => by cases hd'; exact e⟩
      have := h.base t hn'.1 (fun k a b c d => hnone k a b c ((get_set_true hiz).2 (.inr d))) u hu
      cases q : o.dst with
      | none => exact this
      | some d =>
        simp only [Act.put]
        rw [Array.getElem?_setIfInBounds_ne (Ne.symm (hn'.2 d q))]
        exact this

theorem Hv.end_ {l : List Oper} {ms : List (Option Nat)} {V : Nat → Value} {env : Env} {listed : Array Bool} {p : Nat} {eh : Env} {L : List Res} {a : Act} {w : World} (hlen : ms.length = l.length)
    (h : Hv P β N ds J Q l ms V env listed p eh L a w) (hall : ∀ k, k < l.length → listed[k]? = some true) : Q .normal a w := by
  have hl : ∀ k, p ≤ k → k < p + (l.length - p) → isLight ms k = true := by
    intro k hk hkl
    rcases light_or_heavy hlen (k := k) (by omega) with ⟨a,_,_⟩ | ⟨_, b,_⟩
    · exact a
    · have := (h.hd k (by omega) b).1 (hall k (by omega)); omega
  have hx := HX.drop (l.length - p) h.hx (by have := h.hp; omega) hl
  rw [show p + (l.length - p) = l.length by have := h.hp; omega] at hx
  rw [List.drop_length] at hx
  refine hx a w ⟨h.size, h.dfr, fun t u hu => ?_⟩ h.st
  rw [ev1_append] at hu
  cases q : ev1 eh t with
  | some v => rw [q] at hu; simp only [Option.some.injEq] at hu; subst hu; exact h.eh1 t v q
  | none =>
    rw [q] at hu
    simp only at hu
    rcases ev1_envK l ms V env t u l.length hu with ⟨k, h1, h2, h3, h4, h5⟩ | ⟨h1, h2⟩
    · rw [← h4]
      refine h.top t k q h1 h2 h3 (hall k h1) fun k' a b c d => ?_
      rcases Nat.lt_or_ge k k' with r | r
      · have := h5 k' r a b
        rw [c] at this; cases this
      · exact r
    · refine h.base t q (fun k a b c d => ?_) u h2
      have := h1 k a b
      rw [c] at this; cases this

theorem ready_all {l : List Oper} {listed : Array Bool} (hsz : listed.size = l.length) (hed : ∀ k o, l[k]? = some o → ∀ e, e ∈ o.after.toList → Region.binds .any e = true → e.on < k) (hr : Region.ready .any l.toArray listed = []) : ∀ k, k < l.length → listed[k]? = some true := by
  have : ∀ n k, k = n → k < l.length → listed[k]? = some true := by
    intro n
    induction n using Nat.strongRecOn with
    | _ n ihn =>
      rintro k rfl hk
      refine Classical.byContradiction fun hn => ?_
      have hnm : k ∉ Region.ready .any l.toArray listed := by rw [hr]; simp
      apply hnm
      simp only [Region.ready, List.mem_filter, List.mem_range, Bool.and_eq_true, Bool.not_eq_true']
      refine ⟨by simpa using hk, ?_, ?_⟩
      · cases q : listed[k]? with
        | none =>
          have : k < listed.size := by rw [hsz]; exact hk
          simp [this] at q
        | some b => cases b with
          | true => exact absurd q hn
          | false => simp [q]
      · have hok : l.toArray[k]? = some l[k] := by simp [hk]
        simp only [hok, Option.map_some, Option.getD_some]
        refine Array.all_eq_true_iff_forall_mem.2 fun e he => ?_
        cases hb : Region.binds .any e with
        | false => rfl
        | true =>
          have hlt := hed k l[k] (by simp [hk]) e (by simpa using he) hb
          have := ihn e.on hlt e.on rfl (by omega)
          simp [this]
  exact fun k hk => this k k rfl hk

set_option maxHeartbeats 1000000 in
/-- A region whose order is drawn and that holds a chain of operations that make or write memory. -/
theorem VC.drawH (js : List (List Nat)) (ms : List (Option Nat)) {env env' : Env} {L : List Res} {id : Nat} {l : List Oper} (hm : P.follows .mixedOrders = true) (hc : chkH l ms js = true) (h0 : js.getD 0 [] = List.range L.length)
    (h : LX P β N l.toArray (fun m => sel L (js.getD m [])) l ms env env') (k : HX P β N ds (fun m => sel L (js.getD m [])) Q 0 l ms env' L) :
    VC P ro β N ds env L (.region id l.toArray true) Q := by
  intro a w ha hw
  obtain ⟨V, hV1, hV2⟩ := h.vals
  obtain ⟨hlen, hjn, hjs, hops⟩ := chkH_spec hc
  subst hV1
  refine wpIn_region_any hm ?_
  have key : ∀ fuel listed p eh L' a w, Hv P β N ds (fun m => sel L (js.getD m [])) Q l ms V env listed p eh L' a w → (∀ k, k < l.length → listed[k]? ≠ some true → 0 < fuel) → ((List.range l.length).filter fun k => !(listed[k]? == some true)).length ≤ fuel → wpAnyIn (Wf ro) 0 P .any l.toArray Q fuel listed a w := by
    intro fuel
    induction fuel with
    | zero =>
      intro listed p eh L' a w hI h0 _
      have hall : ∀ k, k < l.length → listed[k]? = some true := fun k hk => Classical.byContradiction fun hn => by have := h0 k hk hn; omega
      refine ⟨?_, hI.end_ hlen hall⟩
      simp only [Region.ready, List.filter_eq_nil_iff, List.mem_range, Bool.and_eq_true, Bool.not_eq_true', not_and]
      intro i hi hf
      have := hall i (by simpa using hi)
      simp [this] at hf
    | succ fuel ih =>
      intro listed p eh L' a w hI h0 hcnt
      refine ⟨fun hr => hI.end_ hlen (ready_all hI.lsz (fun k o ho => (hops k o ho).1) hr), fun i hi => ?_⟩
      refine hI.step (ChkS.of hc) (Nat.zero_le _) rfl hV2 hi fun p' eh' L'' a' w' _ hI' => ih _ _ _ _ _ _ hI' ?_ ?_
      · intro k hk hn
        rcases Nat.eq_zero_or_pos fuel with e | e
        · exfalso
          subst e
          simp only [Region.ready, List.mem_filter, List.mem_range, Bool.and_eq_true, Bool.not_eq_true'] at hi
          have hil : i < l.length := by simpa using hi.1
          have hiz : i < listed.size := by rw [hI.lsz]; exact hil
          rw [Ne, get_set_true hiz, not_or] at hn
          have hni : listed[i]? ≠ some true := fun e => by have h2 := hi.2.1; simp [e] at h2
          have m1 : i ∈ (List.range l.length).filter fun k => !(listed[k]? == some true) := by simp [hil, hni]
          have m2 : k ∈ (List.range l.length).filter fun k => !(listed[k]? == some true) := by simp [hk, hn.2]
          match hf : (List.range l.length).filter fun k => !(listed[k]? == some true), hcnt with
          | [],_ => rw [hf] at m1; simp at m1
          | [x],_ => rw [hf] at m1 m2; simp at m1 m2; exact hn.1 (by omega)
          | _ :: _ :: _, hcnt => simp at hcnt
        · exact e
      · simp only [Region.ready, List.mem_filter, List.mem_range, Bool.and_eq_true, Bool.not_eq_true'] at hi
        have hil : i < l.length := by simpa using hi.1
        have hiz : i < listed.size := by rw [hI.lsz]; exact hil
        have hni : listed[i]? ≠ some true := fun e => by have h2 := hi.2.1; simp [e] at h2
        have hlt : ((List.range l.length).filter fun k => !((listed.setIfInBounds i true)[k]? == some true)).length < ((List.range l.length).filter fun k => !(listed[k]? == some true)).length := by
          refine filter_lt (i := i) ?_ (by simp [hil]) ?_ ?_
          · intro k hk
            simp only [Bool.not_eq_true', beq_eq_false_iff_ne, ne_eq] at hk ⊢
            exact fun e => hk ((get_set_true hiz).2 (.inr e))
          · simpa using hni
          · simp [hiz]
        omega
  have hnone : ∀ j : Nat, (Array.replicate l.toArray.size false)[j]? ≠ some true := by
    intro j hj
    simp [Array.getElem?_replicate] at hj
  refine key _ _ 0 [] L _ _ ⟨by simp, ha.size, ha.dfr, hw.drew _, ?_, by omega, ?_, ?_, ?_, ?_, ?_, ?_, ?_, ?_⟩ ?_ ?_
  · intro w hw
    have : rank ms 0 = 0 := by simp [rank]
    rw [this]
    simp only [h0]
    refine hw.sel _ ?_
    have := hjn 0
    rwa [h0] at this
  · simpa [rank] using k
  · intro i _ _
    exact ⟨fun e => absurd e (hnone i), fun e => by omega⟩
  · intro j hj; exact absurd hj (hnone j)
  · intro t v hv; simp [ev1] at hv
  · intro t _ i hi; omega
  · intro t ht; simp [ev1] at ht
  · intro t k _ _ _ _ hl; exact absurd hl (hnone k)
  · intro t _ _ v hv; exact ha.get t v hv
  · intro k hk _
    simpa using Nat.lt_of_le_of_lt (Nat.zero_le _) hk
  · refine Nat.le_trans (List.length_filter_le _ _) ?_
    simp
end
end Go.SL

namespace Go.SL
set_option linter.unusedVariables false
open Go.RowKit

section
variable {P : Program} {ro : Option Nat} {β : Bs} {ds : List Deferred} {N : Nat} {env : Env} {L : List Res} {Q : Exit → Act → World → Prop}
variable {d : Option Nat} {ty : TypeId} {pos : String} {aft : Array Edge} {g : Option (Nat × Bool)}

theorem sub_cells {w : World} {b off : Nat} {C vs : List Value} (h : Cells w ⟨b, 0, none⟩ C) (hv : ∃ r, C.drop off = vs ++ r) : Cells w ⟨b, off, none⟩ vs := by
  intro j v hj
  obtain ⟨r, hr⟩ := hv
  have hlt : j < vs.length := by
    rcases Nat.lt_or_ge j vs.length with q | q
    · exact q
    · simp [List.getElem?_eq_none q] at hj
  have h1 : C[off + j]? = some v := by
    rw [← List.getElem?_drop, hr, List.getElem?_append_left hlt]; exact hj
  have h2 := h (off + j) v h1
  have e1 : (⟨b, 0, none⟩ : Addr).add (off + j) = ⟨b, off + j, none⟩ := by unfold Addr.add; split <;> simp_all
  have e2 : (⟨b, off, none⟩ : Addr).add j = ⟨b, off + j, none⟩ := by unfold Addr.add; split <;> simp_all
  rw [e2, ← e1]; exact h2

theorem LO.ixa {x i : Operand} {T E z n : Nat} {b o j r : Nat} {k : IntKind} {e : Int} (hT : P.underlying T = some (.array n E)) (hz : (P.info? E).map (·.size) = some z) (hx : OV env x (.pointer (some ⟨b, o, none⟩))) (hi : OV env i (.int k e)) (he : e = (j : Int)) (hj : j < n) (hr : o + j * z = r) :
    LO P β env L ⟨d, .indexAddr T x i, ty, pos, aft, g⟩ (.pointer (some ⟨b, r, none⟩)) :=
  .of_run fun a w h hw => ⟨w, by
    subst he; subst hr
    have hadd : (⟨b, o, none⟩ : Addr).add (j * z) = ⟨b, o + j * z, none⟩ := by unfold Addr.add; split <;> simp_all
    simp [execOp, h x (by simp [Op.operands]) _ hx, h i (by simp [Op.operands]) _ hi, Instr.indexAt, asIntOf, run_underlying hT, run_size hz, hj, hadd, Instr.sureAddr], hw⟩

theorem LO.mf {fn : Fn} {xs : List Operand} {cap : List Value} (hx : OVs env xs cap) : LO P β env L ⟨d, .makeFunc fn #[] xs.toArray, ty, pos, aft, g⟩ (.func fn #[] cap.toArray) :=
  .of_run fun a w h hw => ⟨w, by
    have hm : xs.map a.eval = cap := hx.map fun x hm u hu => h x (by simp [Op.operands, hm]) u hu
    simp [execOp, Instr.makeFunc, hm], hw⟩

/-! ### Structs and arrays of ints -/
def intV (a : Int) : Value := .int .i64 a

/-- All cells of the type are ints; 'n' of them. -/
def flatN (P : Program) : Nat → TypeId → Option Nat
  | 0,_ => none
  | f + 1, T =>
    match P.underlying T with
    | some (.int .i64) => if (P.info? T).map (·.size) = some 1 then some 1 else none
    | some (.struct fs) =>
      if P.stoodInHeld T then none else
      match fs.toList.foldlM (fun (o : Nat) F => if F.name = "_" || F.offset ≠ o then none else (flatN P f F.type).map (o + ·)) 0 with
      | some n => if (P.info? T).map (·.size) = some n then some n else none
      | none => none
    | _ => none

def valN (P : Program) (T : TypeId) («as» : List Int) : Value := match P.underlying T with
  | some (.struct _) => .agg («as».map intV).toArray
  | _ => («as».map intV).head?.getD undef

theorem part_flat {f : Nat} {T n : Nat} (h : flatN P f T = some n) {«as» : List Int} {o : Nat} (ho : o + n ≤ «as».length) (w : World) :
    (part T («as».map intV).toArray o).run P w = .ok (valN P T ((«as».drop o).take n)) w := by
  cases f with
  | zero => simp [flatN] at h
  | succ f =>
    unfold flatN at h
    unfold valN
    split at h
    · rename_i hu
      split at h
      · rename_i hs
        cases h
        have h1 : IsOne P T := ⟨⟨_, hu, rfl⟩, hs⟩
        have hlt : o < «as».length := by omega
        have e : («as».drop o).take 1 = [«as»[o]] := by
          rw [List.drop_eq_getElem_cons hlt]; rfl
        simp [part, run_isOne h1, hu, e, hlt]
      · cases h
    · rename_i fs hu
      split at h
      · cases h
      · split at h
        · rename_i n' _
          split at h
          · rename_i hs
            cases h
            have h1 : IsAgg P T n := ⟨⟨_, hu, rfl⟩, hs⟩
            simp only [part, Sem.run_bind, run_isAgg h1, Result.andThen_ok, run_size hs, if_true, Sem.run_pure, hu]
            congr 2
            apply Array.ext'
            simp [List.map_drop, List.map_take, List.extract]
          · cases h
        · cases h
    · cases h

theorem eqFields_flat {f dd : Nat} (ih : ∀ {T n : Nat}, flatN P f T = some n → ∀ {«as» bs : List Int}, «as».length = n → bs.length = n → ∀ w, (Op.equalIn dd T (valN P T «as») (valN P T bs)).run P w = .ok (decide («as» = bs)) w) :
    ∀ (fs : List Field) (o n : Nat), fs.foldlM (fun (o : Nat) F => if F.name = "_" || F.offset ≠ o then none else (flatN P f F.type).map (o + ·)) o = some n → ∀ {«as» bs : List Int}, «as».length = n → bs.length = n → o ≤ n → ∀ w,
      (Op.eqFields dd («as».map intV).toArray (bs.map intV).toArray fs).run P w = .ok (decide («as».drop o = bs.drop o)) w
  | [], o, n, h, «as», bs, ha, hb, ho, w => by
    simp at h
    subst h
    simp [Op.eqFields, List.drop_of_length_le (Nat.le_of_eq ha), List.drop_of_length_le (Nat.le_of_eq hb)]
  | F :: fs, o, n, h, «as», bs, ha, hb, ho, w => by
    simp only [List.foldlM_cons] at h
    by_cases hc : (F.name = "_" || F.offset ≠ o) = true
    · rw [if_pos hc] at h; simp at h
    · simp only [hc, Bool.false_eq_true, if_false] at h
      simp only [Bool.or_eq_true, decide_eq_true_eq, not_or, ne_eq, Classical.not_not] at hc
      obtain ⟨hn, hoff⟩ := hc
      cases hf : flatN P f F.type with
      | none => simp [hf] at h
      | some m =>
        simp only [hf, Option.map_some] at h
        replace h : List.foldlM (fun (o : Nat) F => if F.name = "_" || F.offset ≠ o then none else (flatN P f F.type).map (o + ·)) (o + m) fs = some n := h
        have hle : o + m ≤ n := foldl_le fs (o + m) n h
        simp only [Op.eqFields, hn, ne_eq, not_false_eq_true, if_true, Sem.run_bind, hoff]
        rw [part_flat hf (by omega) w]
        simp only [Result.andThen_ok]
        rw [part_flat hf (by omega) w]
        simp only [Result.andThen_ok]
        rw [ih hf (by simp; omega) (by simp; omega) w]
        simp only [Result.andThen_ok]
        have sp : ∀ l : List Int, l.drop o = (l.drop o).take m ++ l.drop (o + m) := by
          intro l
          have := List.take_append_drop m (l.drop o)
          rw [List.drop_drop] at this
          exact this.symm
        by_cases e : («as».drop o).take m = (bs.drop o).take m
        · simp only [e, decide_true, Bool.not_true, Bool.false_eq_true, if_false]
          rw [eqFields_flat ih fs (o + m) n h ha hb hle w]
          congr 2
          apply propext
          rw [sp «as», sp bs, e]
          simp
        · simp only [e, decide_false, Bool.not_false, if_true, Sem.run_pure]
          congr 1
          symm
          rw [decide_eq_false_iff_not]
          intro q
          exact e (by rw [q])
where
  foldl_le : ∀ (fs : List Field) (o n : Nat), fs.foldlM (fun (o : Nat) F => if F.name = "_" || F.offset ≠ o then none else (flatN P f F.type).map (o + ·)) o = some n → o ≤ n
    | [], o, n, h => by simp at h; omega
    | F :: fs, o, n, h => by
      simp only [List.foldlM_cons] at h
      by_cases hc : (F.name = "_" || F.offset ≠ o) = true
      · rw [if_pos hc] at h; simp at h
      · simp only [hc, Bool.false_eq_true, if_false] at h
        cases hf : flatN P f F.type with
        | none => simp [hf] at h
        | some m =>
          simp only [hf, Option.map_some] at h
          have := foldl_le fs (o + m) n h
          omega

theorem equalIn_flat : ∀ (f : Nat) {T n : Nat}, flatN P f T = some n → ∀ {«as» bs : List Int}, «as».length = n → bs.length = n → ∀ dd, f ≤ dd → ∀ w, (Op.equalIn dd T (valN P T «as») (valN P T bs)).run P w = .ok (decide («as» = bs)) w
  | 0, T, n, h,_,_,_,_,_,_,_ => by simp [flatN] at h
  | f + 1, T, n, h, «as», bs, ha, hb, dd, hd, w => by
    obtain ⟨dd, rfl⟩ : ∃ d', dd = d' + 1 := ⟨dd - 1, by omega⟩
    unfold flatN at h
    unfold valN
    split at h
    · rename_i hu
      split at h
      · cases h
        match «as», bs, ha, hb with
        | [a], [b],_,_ =>
          simp only [hu, List.map_cons, List.map_nil, List.head?_cons, Option.getD_some, intV]
          rw [run_equalIn_int w dd T .i64 .i64 a b hu]
          congr 1
          simp [BEq.beq]
      · cases h
    · rename_i fs hu
      split at h
      · cases h
      · rename_i hs
        split at h
        · rename_i n' hf
          split at h
          · cases h
            have hfs : P.fieldsOf T = fs := by simp [Program.fieldsOf, hu]
            simp only [hu]
            rw [run_equalIn_struct w dd T _ _ (by rw [hfs]; exact hu) (by simpa using hs), hfs]
            have := eqFields_flat (P := P) (f := f) (dd := dd) (fun {T n} h2 {«as» bs} h3 h4 w => equalIn_flat f h2 h3 h4 dd (by omega) w) fs.toList 0 n hf ha hb (by omega) w
            simpa using this
          · cases h
        · cases h
    · cases h

def Flat (P : Program) (T n : Nat) : Prop := (∃ fs, P.underlying T = some (.struct fs)) ∧ flatN P 20 T = some n ∧ P.eqGuardType P.depth T = false

/-! ### Slices of the call's own -/
/-- A slice that is owned: 'rows' and behind them what is spare. -/
def own (E z : Nat) (p : Option Addr) (cap : Nat) (rows : List (List Value)) : Res where
  fp := fun k => p ≠ none ∧ k = pb p
  inv := fun w => rows.length ≤ cap ∧ (∀ r ∈ rows, r.length = z) ∧ (p = none → rows = [] ∧ cap = 0) ∧ (∀ a, p = some a → a.off = 0 ∧ a.spot = none ∧ ∃ C spare, w.heap[a.block]? = some (.cells C E (0,0)) ∧ C.toList = rows.flatten ++ spare ∧ C.size = cap * z)
  loc := fun {w w'} h ⟨h1, h2, h3, h4⟩ => ⟨h1, h2, h3, fun a ha => by
    obtain ⟨g1, g2, C, s, g3, g4⟩ := h4 a ha
    refine ⟨g1, g2, C, s, ?_, g4⟩
    rw [h a.block ⟨by rw [ha]; simp, by rw [ha]; rfl⟩]; exact g3⟩

theorem flatten_row {rows : List (List Value)} {z : Nat} (hz : ∀ r ∈ rows, r.length = z) : ∀ {j : Nat} {r : List Value}, rows[j]? = some r → ∀ {i : Nat} {v : Value}, r[i]? = some v → rows.flatten[j * z + i]? = some v := by
  induction rows with
  | nil => intro j r h; simp at h
  | cons x xs ih =>
    intro j r h i v hv
    have hx : x.length = z := hz x (by simp)
    cases j with
    | zero =>
      simp at h; subst h
      have : i < x.length := by
        rcases Nat.lt_or_ge i x.length with q | q
        · exact q
        · simp [List.getElem?_eq_none q] at hv
      simp only [List.flatten_cons, Nat.zero_mul, Nat.zero_add]
      rw [List.getElem?_append_left this]; exact hv
    | succ j =>
      simp only [List.getElem?_cons_succ] at h
      simp only [List.flatten_cons]
      rw [List.getElem?_append_right (by rw [hx, Nat.add_mul]; omega), hx, show (j + 1) * z + i - z = j * z + i by rw [Nat.add_mul]; omega]
      exact ih (fun r hr => hz r (by simp [hr])) h hv

theorem own_rows {w : World} (hw : St β L w) (i : Nat) {E z : Nat} {p : Option Addr} {cap : Nat} {rows : List (List Value)} (hi : L[i]? = some (own E z p cap rows)) : Rows w z p rows := by
  obtain ⟨h1, h2, h3, h4⟩ := hw.inv i _ hi
  refine ⟨?_, fun hp => (h3 hp).1, fun _ a ha => (h4 a ha).2.1⟩
  intro j r hr k v hv
  cases p with
  | none => rw [(h3 rfl).1] at hr; simp at hr
  | some a =>
    obtain ⟨g1, g2, C, s, g3, g4, g5⟩ := h4 a rfl
    have hadd : (⟨pb (some a), po (some a) + j * z, none⟩ : Addr).add k = ⟨a.block, j * z + k, none⟩ := by
      unfold Addr.add pb po; simp only [g1]; split <;> simp_all
    rw [hadd]
    simp only [World.cell?, g3, Option.isSome_none, Bool.false_eq_true, if_false]
    have : C.toList[j * z + k]? = some v := by
      rw [g4]
      have := flatten_row h2 hr hv
      rw [List.getElem?_append_left]
      · exact this
      · rcases Nat.lt_or_ge (j * z + k) rows.flatten.length with q | q
        · exact q
        · rw [List.getElem?_eq_none q] at this; cases this
    simpa using this

/-- Nothing yet. -/
theorem St.ownNil {w : World} (hw : St β L w) (E z : Nat) : St β (own E z none 0 [] :: L) w := by
  have : St (bs w) [own E z none 0 []] w := by
    refine ⟨rfl, rfl, rfl, Nat.le_refl _, fun _ _ _ => rfl, ?_, ?_, ?_⟩
    · intro i r hr
      cases i with
      | zero => simp at hr; subst hr; exact ⟨Nat.le_refl _, by simp, fun _ => ⟨rfl, rfl⟩, fun a ha => by cases ha⟩
      | succ i => simp at hr
    · intro i r hr k hk
      cases i with
      | zero => simp at hr; subst hr; exact absurd rfl hk.1
      | succ i => simp at hr
    · intro i j r s hij hr hs
      cases i with
      | zero => cases j with | zero => exact absurd rfl hij | succ j => simp at hs
      | succ i => simp at hr
  exact hw.call this
/-- What is said of an element's type: its cells, its bytes, its zero value. -/
def EInfo (P : Program) (E z by_ : Nat) (zero : Value) : Prop := (P.info? E).map (·.size) = some z ∧ (P.info? E).map (·.bytes) = some by_ ∧ ZeroOf P E zero ∧ zero.cells.size = z ∧ 0 < by_

section
variable {K : Value → List Res → Prop} {dd : Option Nat}

def PLs (len z : Nat) : List (Nat × Nat) := (List.range len).map fun i => (i * z, z)

/-- A slice's literal. -/
theorem HO.bs {T E len z : Nat} {zero : Value} {Z : List Value} {ps : List (Nat × Operand)} {vs : List (Nat × Value)} {C : List Value} (hT : IsSlice P T E) (hz : ZeroOf P E zero) (hs : (P.info? E).map (·.size) = some z) (hps : OVs env (ps.map (·.2)) (vs.map (·.2))) (hix : ps.map (·.1) = vs.map (·.1)) (hle : Nat.ble (len * z) 16777216 = true) (hpos : Nat.blt 0 (len * z) = true)
    (hZ : (List.range (len * z)).map (fun i => zero.cells[i % zero.cells.size]!) = Z) (hb : FL (PLs len z) Z vs C)
    (k : ∀ b, K (.slice (some ⟨b, 0, none⟩) len len) (blk b (.cells C.toArray E) :: L)) : HO P β env L ⟨dd, .buildSlice T len ps.toArray, ty, pos, aft, none⟩ K := by
  intro a w h hw
  refine .inl ⟨_, w.alloc (.cells C.toArray E),_,_, ?_, .inl rfl, k w.heap.size, hw.alloc _⟩
  have h2 := OVs.map (a := a) hps (fun x hm u ⟨u', hu', e⟩ => e ▸ h x (by
    obtain ⟨p, hp, e⟩ := List.mem_map.1 hm
    simp only [Op.operands]
    subst e
    simpa using ⟨p.1, hp⟩) u' hu')
  rw [List.map_map] at h2
  have hm : (ps.map fun p => (p.1, a.eval p.2)) = vs := pairs_eq hix h2
  have hfill : Instr.fill (fun i => some (i * z, z)) Z.toArray vs = some C.toArray := by
    have := hb.fill
    have key : ∀ (vs : List (Nat × Value)) (A : Array Value) (R : Array Value), Instr.fill ((PLs len z)[·]?) A vs = some R → Instr.fill (fun i => some (i * z, z)) A vs = some R := by
      intro vs
      induction vs with
      | nil => intro A R h; exact h
      | cons x xs ih =>
        intro A R h
        obtain ⟨i, v⟩ := x
        simp only [Instr.fill] at h ⊢
        cases q : (PLs len z)[i]? with
        | none => simp [q] at h
        | some y =>
          have hi : y = (i * z, z) := by
            simp only [PLs, List.getElem?_map, Option.map_eq_some_iff] at q
            obtain ⟨j, hj, e⟩ := q
            have : j = i := by
              cases r : (List.range len)[i]? with
              | none => rw [r] at hj; cases hj
              | some m => 
                have hlt : i < len := by
                  rcases Nat.lt_or_ge i len with s | s
                  · exact s
                  · rw [List.getElem?_eq_none (by simpa using s)] at r; cases r
                simp [hlt] at hj
                exact hj.symm
            subst this; exact e.symm
          subst hi
          simp only [q] at h
          split at h
          · cases h
          · rename_i hc
            simp only [hc, Bool.false_eq_true, if_false]
            exact ih _ _ h
    exact key _ _ _ this
  have hgt : ¬ (len * z > 2 ^ 24) := by have := Nat.le_of_ble_eq_true hle; omega
  have h0 : ¬ (len * z = 0) := by have : 0 < len * z := Nat.le_of_ble_eq_true hpos; omega
  simp only [execOp, Sem.run_bind]
  rw [show (ps.toArray.map fun (i, x) => (i, a.eval x)) = vs.toArray by rw [← hm]; simp]
  have e : ((Array.range (len * z)).map fun i => zero.cells[i % zero.cells.size]!) = Z.toArray := by
    rw [← hZ]; apply Array.ext'; simp
  simp only [Instr.buildSlice, run_underlying hT, run_size hs, Sem.run_bind, Result.andThen_ok, hgt, h0, if_false, run_zero hz, Sem.run_pure, e, hfill, newRow, run_newObj]
  rfl

/-! ### append -/
theorem run_bytes {E b : Nat} (h : (P.info? E).map (·.bytes) = some b) (w : World) : ∃ i, (typeInfo E).run P w = .ok i w ∧ i.bytes = b := by
  cases hq : P.info? E with
  | none => simp [hq] at h
  | some i => simp [hq] at h; exact ⟨i, by simp [typeInfo, hq], h⟩

theorem zeroCells_size (zs : Array Value) (n : Nat) : (Builtin.zeroCells zs n).size = n * zs.size := by simp [Builtin.zeroCells]

theorem growBy_le (need : Nat) : ∀ (r c B : Nat), c + (c + 768) / 4 ≤ B → c ≤ B → (∀ c', c' < need → c' + (c' + 768) / 4 ≤ B) → Builtin.growBy need r c ≤ B
  | 0, c, B,_, h,_ => h
  | r + 1, c, B, h1, h2, h3 => by
    unfold Builtin.growBy
    split
    · exact h2
    · by_cases h4 : c + (c + 768) / 4 < need
      · exact growBy_le need r _ B (h3 _ h4) h1 h3
      · have : ∀ r, Builtin.growBy need r (c + (c + 768) / 4) = c + (c + 768) / 4 := by
          intro r
          cases r with
          | zero => rfl
          | succ r => unfold Builtin.growBy; rw [if_pos (by omega)]
        rw [this]; exact h1

theorem nextcap_le {need cap : Nat} (h : cap < need) : Builtin.nextslicecap need cap ≤ 2 * need + 768 := by
  unfold Builtin.nextslicecap
  split
  · omega
  · split
    · omega
    · exact growBy_le need 4 cap _ (by omega) (by omega) (fun c' _ => by omega)

theorem flatten_len {rows : List (List Value)} {z : Nat} (hz : ∀ r ∈ rows, r.length = z) : rows.flatten.length = rows.length * z := by
  induction rows with
  | nil => simp
  | cons x xs ih => simp only [List.flatten_cons, List.length_append, List.length_cons, hz x (by simp), ih (fun r hr => hz r (by simp [hr])), Nat.add_mul]; omega

theorem add0 {a : Addr} (h1 : a.off = 0) (h2 : a.spot = none) (n : Nat) : a.add n = ⟨a.block, n, none⟩ := by
  obtain ⟨b, o, s⟩ := a
  simp only at h1 h2
  subst h1; subst h2
  unfold Addr.add; split <;> simp_all

theorem St.conv {w : World} (hw : St β L w) (i : Nat) {r r' : Res} (hi : L[i]? = some r) (hf : ∀ k, r'.fp k → r.fp k) (hinv : r'.inv w) : St β (L.set i r') w := by
  have hlt : i < L.length := by
    rcases Nat.lt_or_ge i L.length with h' | h'
    · exact h'
    · simp [List.getElem?_eq_none h'] at hi
  have get : ∀ (j : Nat) (s : Res), (L.set i r')[j]? = some s → (j = i ∧ s = r') ∨ (j ≠ i ∧ L[j]? = some s) := by
    intro j s hs
    by_cases e : j = i
    · subst e; simp [hlt] at hs; exact .inl ⟨rfl, hs.symm⟩
    · rw [List.getElem?_set_ne (Ne.symm e)] at hs; exact .inr ⟨e, hs⟩
  refine ⟨hw.os, hw.tape, hw.output, hw.size, hw.fr, ?_, ?_, ?_⟩
  · intro j s hs
    rcases get j s hs with ⟨rfl, rfl⟩ | ⟨_, hs'⟩
    · exact hinv
    · exact hw.inv j s hs'
  · intro j s hs k hk
    rcases get j s hs with ⟨rfl, rfl⟩ | ⟨_, hs'⟩
    · exact hw.rng j _ hi k (hf k hk)
    · exact hw.rng j s hs' k hk
  · intro j l s t hjl hs ht k hk hk'
    rcases get j s hs with ⟨rfl, rfl⟩ | ⟨hj, hs'⟩ <;> rcases get l t ht with ⟨rfl, rfl⟩ | ⟨hl, ht'⟩
    · exact hjl rfl
    · exact hw.dis j l _ _ hjl hi ht' k (hf k hk) hk'
    · exact hw.dis j l _ _ hjl hs' hi k hk (hf k hk')
    · exact hw.dis j l _ _ hjl hs' ht' k hk hk'

theorem rows_flat {w : World} {z : Nat} {q : Option Addr} {rs : List (List Value)} (h : Go.SL.Rows w z q rs) (hz : ∀ r ∈ rs, r.length = z) (k : Nat) (v : Value) (hk : rs.flatten[k]? = some v) : w.cell? ((⟨pb q, po q, none⟩ : Addr).add k) = some v := by
  have hz0 : 0 < z := by
    rcases Nat.eq_zero_or_pos z with e | e
    · have : rs.flatten.length = 0 := by rw [flatten_len hz, e, Nat.mul_zero]
      rw [List.getElem?_eq_none (by omega)] at hk; cases hk
    · exact e
  have hkl : k < rs.flatten.length := by
    rcases Nat.lt_or_ge k rs.flatten.length with e | e
    · exact e
    · rw [List.getElem?_eq_none e] at hk; cases hk
  rw [flatten_len hz] at hkl
  have hj : k / z < rs.length := Nat.div_lt_of_lt_mul (by rw [Nat.mul_comm]; exact hkl)
  have hm : k % z < z := Nat.mod_lt _ hz0
  have hr := List.getElem?_eq_getElem hj
  have hrz : rs[k / z].length = z := hz _ (List.getElem_mem hj)
  have hv := List.getElem?_eq_getElem (l := rs[k / z]) (i := k % z) (by omega)
  have e := flatten_row hz hr hv
  have hdm : k / z * z + k % z = k := by have := Nat.div_add_mod k z; rw [Nat.mul_comm] at this; exact this
  rw [hdm, hk] at e
  cases e
  have := h.cells _ _ hr _ _ hv
  have e1 : (⟨pb q, po q + k / z * z, none⟩ : Addr).add (k % z) = ⟨pb q, po q + k, none⟩ := by
    rw [show po q + k = po q + k / z * z + k % z by omega]
    unfold Addr.add; split <;> simp_all
  have e2 : (⟨pb q, po q, none⟩ : Addr).add k = ⟨pb q, po q + k, none⟩ := by
    unfold Addr.add; split <;> simp_all
  rw [e1] at this; rw [e2]; exact this

theorem first_rows {w : World} {z : Nat} {q : Option Addr} {rs : List (List Value)} {c : Nat} (h : Go.SL.Rows w z q rs) (hz : ∀ r ∈ rs, r.length = z) : (Builtin.firstCells z rs.length (.slice q rs.length c)).run P w = .ok rs.flatten.toArray w := by
  cases q with
  | none => have := h.nil rfl; subst this; simp [Builtin.firstCells]
  | some a =>
    by_cases hne : rs = []
    · subst hne
      have := run_loadCells_list (P := P) w a [] (fun k v hk => by simp at hk)
      simpa [Builtin.firstCells] using this
    · have hs := h.spot hne a rfl
      have ea : a = ⟨pb (some a), po (some a), none⟩ := by cases a; simp_all [pb, po]
      have := run_loadCells_list (P := P) w a rs.flatten (fun k v hk => by rw [ea]; exact rows_flat h hz k v hk)
      simp only [Builtin.firstCells, ← flatten_len hz]
      exact this

theorem St.drewn {w : World} (hw : St β L w) : St β L w.drew := hw.drew (w.drawn + 1)
theorem rows_drew {w : World} {z : Nat} {q : Option Addr} {rs : List (List Value)} (h : Go.SL.Rows w z q rs) : Go.SL.Rows w.drew z q rs := ⟨h.cells, h.nil, h.spot⟩

/-- Some elements are appended to a slice that is owned. -/
theorem run_appendN {w : World} (hw : St β L w) (i : Nat) {T T' ty E z by_ : Nat} {zero : Value} {p q : Option Addr} {cap c2 : Nat} {rows rs : List (List Value)} (hT : IsSlice P T E) (hT' : IsSlice P T' E) (hE : EInfo P E z by_ zero)
    (hi : L[i]? = some (own E z p cap rows)) (hq : Go.SL.Rows w z q rs) (hr : ∀ r ∈ rs, r.length = z) (h1 : ∀ r ∈ rs, allOne r = true) (hn : (2 * (rows.length + rs.length) + 768) * by_ ≤ 281474976710656) {aT : Array TypeId} (ha0 : aT[0]? = some T) (ha1 : aT[1]? = some T') :
    ∃ p' cap' w', (Builtin.append_ aT ty #[.slice p rows.length cap, .slice q rs.length c2]).run P w = .ok (.slice p' (rows.length + rs.length) cap') w' ∧ St β (L.set i (own E z p' cap' (rows ++ rs))) w' ∧ (rs ≠ [] → p' ≠ none) ∧ (p ≠ none → p' ≠ none) := by
  obtain ⟨hz, hby, hze, hzz, hb0⟩ := hE
  obtain ⟨o1, o2, o3, o4⟩ := hw.inv i _ hi
  obtain ⟨ti, hti, htb⟩ := run_bytes hby w
  have hnew : (Builtin.firstCells z rs.length (.slice q rs.length c2)).run P w = .ok rs.flatten.toArray w := first_rows hq hr
  have hhas : ∀ r' ∈ rows ++ rs, r'.length = z := by
    intro r' hr'
    rcases List.mem_append.1 hr' with q | q
    · exact o2 r' q
    · exact hr r' q
  have hu' : (underlying T').run P w = .ok (.slice E) w := run_underlying hT' w
  have hu : (underlying T).run P w = .ok (.slice E) w := run_underlying hT w
  have hone : ∀ u ∈ rs.flatten, u.oneCell' = true := by
    intro u hu
    obtain ⟨r, hr', hu'⟩ := List.mem_flatten.1 hu
    exact allOne_spec (h1 r hr') u hu'
  have hni : ¬ ((rows.length + rs.length : Nat) : Int) > IntKind.i64.max := by
    have : rows.length + rs.length ≤ 281474976710656 := by
      have : (2 * (rows.length + rs.length) + 768) * 1 ≤ (2 * (rows.length + rs.length) + 768) * by_ := Nat.mul_le_mul_left _ hb0
      omega
    have hm : IntKind.i64.max = 9223372036854775807 := rfl
    rw [hm]
    omega
  have hlt : i < L.length := by
    rcases Nat.lt_or_ge i L.length with h' | h'
    · exact h'
    · simp [List.getElem?_eq_none h'] at hi
  have hfl := flatten_len o2
  have hfl2 := flatten_len hr
  by_cases hc : rows.length + rs.length ≤ cap
  · -- there is room
    cases p with
    | none =>
      have h3 := o3 rfl
      have e1 : rows = [] := h3.1
      have e2 : rs = [] := by
        have : rs.length = 0 := by omega
        exact List.length_eq_zero_iff.1 this
      subst e1; subst e2
      have e3 : cap = 0 := h3.2
      subst e3
      refine ⟨none, 0, w, ?_, ?_, by simp, by simp⟩
      · have : (Builtin.firstCells z 0 (.slice q 0 c2)).run P w = .ok #[] w := by simpa using hnew
        simp [Builtin.append_, ha0, ha1, hu, hu', run_size hz, Builtin.lenOf, this]
      · have e : L.set i (own E z none 0 ([] ++ [])) = L := by
          have e0 : own E z none 0 ([] ++ []) = own E z none 0 [] := rfl
          rw [e0]
          refine List.ext_getElem? fun k => ?_
          by_cases ek : k = i
          · subst ek; rw [List.getElem?_set_self hlt, hi]
          · rw [List.getElem?_set_ne (Ne.symm ek)]
        rw [e]; exact hw
    | some a =>
      obtain ⟨g1, g2, C, spare, g3, g4, g5⟩ := o4 a rfl
      have hadd : a.add (rows.length * z) = ⟨a.block, rows.length * z, none⟩ := add0 g1 g2 _
      have hfit : rows.length * z + rs.flatten.length ≤ C.size := by
        rw [g5, hfl2]
        have := Nat.mul_le_mul_right z hc
        rw [Nat.add_mul] at this; omega
      have hst := run_storeCells_at P a.block (rows.length * z) E rs.flatten 0 C w g3 (by simpa using hfit) hone
      simp only [Nat.add_zero] at hst
      refine ⟨some a, cap, w.setRow a.block (C.toList.take (rows.length * z) ++ rs.flatten ++ C.toList.drop (rows.length * z + rs.flatten.length)).toArray, ?_, ?_, by simp, by simp⟩
      · simp only [Builtin.append_, ha0, ha1, Sem.run_bind, List.getElem?_toArray, List.getElem?_cons_zero, List.getElem?_cons_succ, hu, hu', run_size hz, Builtin.lenOf, Result.andThen_ok, Sem.run_pure, Bool.false_eq_true, if_false, Bool.not_false, if_true, hc, hnew, hadd, hst]
      · have hw1 := hw.conv i (r' := blk a.block (.cells C E)) hi (fun k hk => ⟨by simp, hk⟩) g3
        have hi1 : (L.set i (blk a.block (.cells C E)))[i]? = some (blk a.block (.cells C E)) := by simp [hlt]
        have hw2 := hw1.setRow (C' := (C.toList.take (rows.length * z) ++ rs.flatten ++ C.toList.drop (rows.length * z + rs.flatten.length)).toArray) hi1
        rw [List.set_set] at hw2
        have hi2 : (L.set i (blk a.block (.cells (C.toList.take (rows.length * z) ++ rs.flatten ++ C.toList.drop (rows.length * z + rs.flatten.length)).toArray E)))[i]? = some (blk a.block (.cells (C.toList.take (rows.length * z) ++ rs.flatten ++ C.toList.drop (rows.length * z + rs.flatten.length)).toArray E)) := by simp [hlt]
        have hfin : (own E z (some a) cap (rows ++ rs)).inv (w.setRow a.block (C.toList.take (rows.length * z) ++ rs.flatten ++ C.toList.drop (rows.length * z + rs.flatten.length)).toArray) := by
          refine ⟨by simp; omega, hhas, fun h => (by cases h), fun a' ha' => ?_⟩
          cases ha'
          refine ⟨g1, g2,_, C.toList.drop (rows.length * z + rs.flatten.length), hw2.inv i _ hi2, ?_, ?_⟩
          · have : C.toList.take (rows.length * z) = rows.flatten := by rw [g4, List.take_append_of_le_length (by omega), List.take_of_length_le (by omega)]
            simp [this]
          · have := hfit
            simp only [List.size_toArray, List.length_append, List.length_take, List.length_drop, Array.length_toList]
            rw [← g5]; omega
        have hw3 := hw2.conv (r' := own E z (some a) cap (rows ++ rs)) i hi2 (fun k hk => hk.2) hfin
        rwa [List.set_set] at hw3
  · -- a new array
    have hcap : ¬ rows.length + rs.length ≤ cap := hc
    have hncap : ¬ (Builtin.nextslicecap (rows.length + rs.length) cap * ti.bytes > 2 ^ 48) := by
      have h2 := nextcap_le (need := rows.length + rs.length) (cap := cap) (by omega)
      have h3 := Nat.mul_le_mul_right by_ h2
      rw [htb]; omega
    generalize hcc : Question.cut (.appendCap (rows.length + rs.length) cap E) (w.tape w.drawn (.appendCap (rows.length + rs.length) cap E)) = cap'
    have hge : rows.length + rs.length ≤ cap' := by rw [← hcc]; simp [Question.cut]
    have hrows : Go.SL.Rows w z p rows := own_rows hw i hi
    have hold : (Builtin.firstCells z rows.length (.slice p rows.length cap)).run P w.drew = .ok rows.flatten.toArray w.drew := first_rows (rows_drew hrows) o2
    have hnew' : (Builtin.firstCells z rs.length (.slice q rs.length c2)).run P w.drew = .ok rs.flatten.toArray w.drew := first_rows (rows_drew hq) hr
    have hti' : (typeInfo E).run P w.drew = .ok ti w.drew := by
      cases hq : P.info? E with
      | none => simp [typeInfo, hq] at hti
      | some i => simp [typeInfo, hq] at hti ⊢; exact hti
    refine ⟨some ⟨w.heap.size, 0, none⟩, cap', (World.alloc w.drew (.cells (rows.flatten.toArray ++ rs.flatten.toArray ++ Builtin.zeroCells zero.cells (cap' - (rows.length + rs.length))) E)), ?_, ?_, by simp, by simp⟩
    · have hb1 : ti.bytes ≠ 0 := by omega
      have hncap' : ¬ (281474976710656 < Builtin.nextslicecap (rows.length + rs.length) cap * ti.bytes) := by omega
      simp [Builtin.append_, ha0, ha1, hu, hu', run_size hz, Builtin.lenOf, hcap, hti, hb1, hncap', Question.forced, hcc, hti', hold, hnew', run_zero hze, newRow]
      congr 2
      apply Array.ext'
      simp
    · have hw' := (hw.drew (w.drawn + 1) : St β L w.drew).alloc (.cells (rows.flatten.toArray ++ rs.flatten.toArray ++ Builtin.zeroCells zero.cells (cap' - (rows.length + rs.length))) E)
      have hm : St β (L.set i (blk w.heap.size (.cells (rows.flatten.toArray ++ rs.flatten.toArray ++ Builtin.zeroCells zero.cells (cap' - (rows.length + rs.length))) E))) (World.alloc w.drew (.cells (rows.flatten.toArray ++ rs.flatten.toArray ++ Builtin.zeroCells zero.cells (cap' - (rows.length + rs.length))) E)) := by
        refine hw'.map (fun k => if k = i then 0 else k + 1) ?_ ?_
        · intro a b hab _ _
          by_cases e1 : a = i <;> by_cases e2 : b = i <;> simp [e1, e2] <;> omega
        · intro k s hs
          right
          by_cases e : k = i
          · subst e; simp [hlt] at hs; simp [hs]
          · rw [List.getElem?_set_ne (Ne.symm e)] at hs
            simp [e, hs]
      have hi2 : (L.set i (blk w.heap.size (.cells (rows.flatten.toArray ++ rs.flatten.toArray ++ Builtin.zeroCells zero.cells (cap' - (rows.length + rs.length))) E)))[i]? = some (blk w.heap.size (.cells (rows.flatten.toArray ++ rs.flatten.toArray ++ Builtin.zeroCells zero.cells (cap' - (rows.length + rs.length))) E)) := by simp [hlt]
      have hfin : (own E z (some ⟨w.heap.size, 0, none⟩) cap' (rows ++ rs)).inv (World.alloc w.drew (.cells (rows.flatten.toArray ++ rs.flatten.toArray ++ Builtin.zeroCells zero.cells (cap' - (rows.length + rs.length))) E)) := by
        refine ⟨by simp; omega, hhas, fun h => (by cases h), fun a' ha' => ?_⟩
        cases ha'
        refine ⟨rfl, rfl,_, (Builtin.zeroCells zero.cells (cap' - (rows.length + rs.length))).toList, hm.inv i _ hi2, by simp, ?_⟩
        simp only [Array.size_append, List.size_toArray, hfl, hfl2, zeroCells_size, hzz]
        rw [← Nat.add_mul, ← Nat.add_mul]
        congr 1; omega
      have := hm.conv (r' := own E z (some ⟨w.heap.size, 0, none⟩) cap' (rows ++ rs)) i hi2 (fun k hk => hk.2) hfin
      rwa [List.set_set] at this


/-- One element is appended to a slice that is owned. -/
theorem run_append1 {w : World} (hw : St β L w) (i j : Nat) {T T' ty E z by_ : Nat} {zero : Value} {p : Option Addr} {cap b : Nat} {rows : List (List Value)} {r : List Value} (hT : IsSlice P T E) (hT' : IsSlice P T' E) (hE : EInfo P E z by_ zero)
    (hi : L[i]? = some (own E z p cap rows)) (hj : L[j]? = some (blk b (.cells r.toArray E))) (hr : r.length = z) (h1 : allOne r = true) (hn : (2 * (rows.length + 1) + 768) * by_ ≤ 281474976710656) {aT : Array TypeId} (ha0 : aT[0]? = some T) (ha1 : aT[1]? = some T') :
    ∃ p' cap' w', (Builtin.append_ aT ty #[.slice p rows.length cap, .slice (some ⟨b, 0, none⟩) 1 1]).run P w = .ok (.slice p' (rows.length + 1) cap') w' ∧ St β (L.set i (own E z p' cap' (rows ++ [r]))) w' := by
  have hbk : w.heap[b]? = some (.cells r.toArray E (0,0)) := hw.inv j _ hj
  have hq : Go.SL.Rows w z (some ⟨b, 0, none⟩) [r] := by
    refine ⟨fun i2 r2 h2 j2 v hv => ?_, fun h => (by cases h), fun _ a ha => ?_⟩
    · cases i2 with
      | zero =>
        have e := Option.some.inj h2
        subst e
        show w.cell? ((⟨b, 0 + 0 * z, none⟩ : Addr).add j2) = some v
        by_cases q : j2 = 0
        · subst q; simpa [Addr.add, World.cell?, hbk] using hv
        · simpa [Addr.add, World.cell?, hbk, q] using hv
      | succ n => cases h2
    · cases ha; rfl
  obtain ⟨p', cap', w', h2, h3,_⟩ := run_appendN (ty := ty) (c2 := 1) hw i hT hT' hE hi hq (fun x hx => by rw [List.mem_singleton.1 hx]; exact hr) (fun x hx => by rw [List.mem_singleton.1 hx]; exact h1) hn ha0 ha1
  exact ⟨p', cap', w', h2, h3⟩

theorem HO.app1 (i j : Nat) (LF : Res → List Res) {x y : Operand} {T T' E z by_ : Nat} {aT : Array TypeId} {zero : Value} {p : Option Addr} {n cap b : Nat} {rows : List (List Value)} {C : Array Value} {r : List Value} (hT : IsSlice P T E) (hT' : IsSlice P T' E) (hE : EInfo P E z by_ zero) (hx : OV env x (.slice p n cap)) (hy : OV env y (.slice (some ⟨b, 0, none⟩) 1 1))
    (hi : L[i]? = some (own E z p cap rows)) (hj : L[j]? = some (blk b (.cells C E))) (hC : C = r.toArray) (hr : Nat.beq r.length z = true) (h1 : allOne r = true) (ha0 : aT[0]? = some T) (ha1 : aT[1]? = some T') (hL : ∀ R : Res, L.set i R = LF R) (hn : n = rows.length) (hs : (2 * (n + 1) + 768) * by_ ≤ 281474976710656)
    (k : ∀ p' cap', K (.slice p' (n + 1) cap') (LF (own E z p' cap' (rows ++ [r])))) : HO P β env L ⟨dd, .call ⟨.builtin .append, #[x, y], aT⟩, ty, pos, aft, none⟩ K := by
  intro a w h hw
  subst hn; subst hC
  obtain ⟨p', cap', w', h2, h3⟩ := run_append1 (ty := ty) hw i j hT hT' hE hi hj (Nat.eq_of_beq_eq_true hr) h1 hs ha0 ha1
  refine .inl ⟨_, w',_,_, ?_, .inl rfl, k p' cap', by rw [← hL]; exact h3⟩
  have ex : a.eval x = .slice p rows.length cap := by obtain ⟨u, hu, e⟩ := hx; subst e; exact h x (by simp [Op.operands, Call.operands]) _ hu
  have ey : a.eval y = .slice (some ⟨b, 0, none⟩) 1 1 := by obtain ⟨u, hu, e⟩ := hy; subst e; exact h y (by simp [Op.operands, Call.operands]) _ hu
  simp [execOp, resolve, invoke, builtin, ex, ey, h2]
end
end
end Go.SL

namespace Go.SL
set_option linter.unusedVariables false
open Go.RowKit

section
variable {P : Program} {ro : Option Nat} {β : Bs} {N : Nat} {ds : List Deferred} {env : Env} {L : List Res} {Q : Exit → Act → World → Prop}

def Dis (L : List Res) : Prop := ∀ (i j : Nat) (r s : Res), i ≠ j → L[i]? = some r → L[j]? = some s → ∀ k, r.fp k → ¬ s.fp k

/-- One resource is handed to someone, who hands one back. -/
theorem St.callAt {w w' : World} (i : Nat) {r r' : Res} (h : St β L w) (hi : L[i]? = some r) (k : St ⟨w, r.fp⟩ [r'] w') : St β (L.set i r') w' := by
  have hlt : i < L.length := by
    rcases Nat.lt_or_ge i L.length with q | q
    · exact q
    · simp [List.getElem?_eq_none q] at hi
  -- the one ahead of the others
  have h1 : St β ([r] ++ L.eraseIdx i) w := by
    refine h.map (fun j => if j = 0 then i else if j - 1 < i then j - 1 else j) ?_ ?_
    · intro a b hab ha hb
      split <;> split <;> (try split) <;> (try split) <;> omega
    · intro j s hs
      right
      cases j with
      | zero => simp at hs; subst hs; simpa using hi
      | succ j =>
        simp only [List.singleton_append, List.getElem?_cons_succ, List.getElem?_eraseIdx] at hs
        simp only [Nat.add_one_ne_zero, if_false, Nat.add_sub_cancel]
        by_cases q : j < i
        · simpa [q] using hs
        · simpa [q] using hs
  have h2 := h1.callG (O := r.fp) (fun k hk => ⟨0, r, rfl, hk⟩) k
  refine h2.map (fun j => if j = i then 0 else if j < i then j + 1 else j) ?_ ?_
  · intro a b hab ha hb
    split <;> split <;> (try split) <;> (try split) <;> omega
  · intro j s hs
    right
    by_cases e : j = i
    · subst e; simp [hlt] at hs; subst hs; simp
    · rw [List.getElem?_set_ne (Ne.symm e)] at hs
      simp only [e, if_false]
      by_cases q : j < i
      · simp only [q, if_true, List.singleton_append, List.getElem?_cons_succ, List.getElem?_eraseIdx]
        exact hs
      · simp only [q, if_false]
        obtain ⟨j', rfl⟩ : ∃ j', j = j' + 1 := ⟨j - 1, by omega⟩
        simp only [List.singleton_append, List.getElem?_cons_succ, List.getElem?_eraseIdx]
        rw [if_neg (by omega)]
        exact hs

/-! ### yield -/
def yv (l : Nat) : Value := .func (.yield l) #[] #[]
def YieldsTo (P : Program) (l : Nat) (args : List Value) (w : World) (R : Ending → World → Prop) : Prop :=
  ∃ fn tmps as_ bd, (Instr.yield l args.toArray).run P w = .ok (.round l fn tmps as_ bd) w ∧ RoundIn Fence.wide 0 P l fn tmps as_ bd w R

theorem HO.yield (i : Nat) {K : Value → List Res → Prop} {dd : Option Nat} {ty : TypeId} {pos : String} {aft : Array Edge} {g : Option (Nat × Bool)} {fx : Operand} {xs : List Operand} {vs : List Value} {aT : Array TypeId} {l : Nat} {r : Res} {post : Bool → Res → Prop}
    (hfx : OV env fx (yv l)) (hx : OVs env xs vs) (hi : L[i]? = some r)
    (hy : ∀ w, r.inv w → (∀ k, r.fp k → k < w.heap.size) → (w.os = β.w.os ∧ w.tape = β.w.tape ∧ w.output = β.w.output ∧ β.w.heap.size ≤ w.heap.size) → YieldsTo P l vs w fun e w' => ∃ b r', e = .returned (.bool b) ∧ post b r' ∧ St ⟨w, r.fp⟩ [r'] w')
    (k : ∀ b r', post b r' → K (.bool b) (L.set i r')) : HO P β env L ⟨dd, .call ⟨.value fx, xs.toArray, aT⟩, ty, pos, aft, g⟩ K := by
  intro a w h hw
  obtain ⟨fn, tmps, as_, bd, hrun, hr⟩ := hy w (hw.inv i r hi) (fun k hk => (hw.rng i r hi k hk).2) ⟨hw.os, hw.tape, hw.output, hw.size⟩
  refine .inr (.inr ⟨l, fn, tmps, as_, bd, ?_, ?_⟩)
  · have hm : xs.map a.eval = vs := hx.map fun x hm u hu => by obtain ⟨u', hu', e⟩ := hu; subst e; exact h x (by simp [Op.operands, Call.operands, hm]) u' hu'
    have hfe : a.eval fx = yv l := by obtain ⟨u', hu', e⟩ := hfx; subst e; exact h fx (by simp [Op.operands, Call.operands]) _ hu'
    simp [execOp, resolve, hfe, yv, Deferred.ofValue, invoke, hm, hrun]
  · refine RoundIn.mono hr ?_
    rintro e w' ⟨b, r', rfl, hp, hs⟩
    exact ⟨_,_, rfl, k b r' hp, hw.callAt i hi hs⟩

/-- What an iterator value promises: it yields 'xs', one behind the other, until it is told to stop. 'Cap': what it reads. -/
def SeqC (P : Program) (gf : FuncId) (lb : List Value) (Cap : World → Prop) (xs : List (List Value)) : Prop :=
  ∀ (l : Nat) (J Jx : Nat → Res → Prop) (w : World) (r0 : Res),
    (∀ n r w, J n r → r.inv w → Cap w) →
    (∀ n vs, xs[n]? = some vs → ∀ r w1, J n r → r.inv w1 → (∀ k, r.fp k → k < w1.heap.size) → (w1.os = w.os ∧ w1.tape = w.tape ∧ w1.output = w.output ∧ w.heap.size ≤ w1.heap.size) → YieldsTo P l vs w1 fun e w' => ∃ b r', e = .returned (.bool b) ∧ (if b then J (n + 1) r' else Jx (n + 1) r') ∧ St ⟨w1, r.fp⟩ [r'] w') →
    J 0 r0 → r0.inv w → (∀ k, r0.fp k → k < w.heap.size) →
    Calls P gf (yv l :: lb).toArray w fun e w' => e = .returned (.tuple #[]) ∧ ∃ n r', (J xs.length r' ∨ (n ≤ xs.length ∧ Jx n r')) ∧ St ⟨w, r0.fp⟩ [r'] w'

/-- How a round may be left. -/
def RB (β : Bs) {α : Type} (F : α → List Res) (T : List Res) (I : α → Prop) (Ix : Code → α → Prop) : Exit → Act → World → Prop
  | .normal,_, w => ∃ y, I y ∧ St β (F y ++ T) w
  | .ret,_, w => ∃ y, Ix .ret y ∧ St β (F y ++ T) w
  | .exit id,_, w => ∃ y, Ix (.exit id) y ∧ St β (F y ++ T) w
  | _,_,_ => False

def mark (D : Nat) : Deferred := { target := .collected D, args := #[] }
def dR (D : Nat) : Res := blk D (.deferred (some []))

theorem St.obj {w : World} {b : Nat} {o o' : Obj} (i : Nat) (h : St β L w) (hi : L[i]? = some (blk b o)) : St β (L.set i (blk b o')) (w.putObj b o') := by
  have hb : w.heap[b]? = some o := h.inv i _ hi
  have hlt : b < w.heap.size := (Array.getElem?_eq_some_iff.1 hb).1
  exact h.upd hi rfl (World.putObj_heap_same hlt) (fun k hk => World.putObj_heap_other hk) (by simp [World.putObj]) rfl rfl rfl

/-- The world as it was, for what comes next: its resources are handed on. -/
theorem St.rebase {w : World} (h : St β L w) : St ⟨w, fpL L⟩ L w :=
  ⟨rfl, rfl, rfl, Nat.le_refl _, fun _ _ _ => rfl, h.inv, fun i r hr k hk => ⟨.inl ⟨i, r, hr, hk⟩, (h.rng i r hr k hk).2⟩, h.dis⟩

theorem St.back {w w' : World} {R : List Res} (h : St β L w) (k : St ⟨w, fpL L⟩ R w') : St β R w' := by
  have := St.callG (L1 := L) (L2 := []) (by simpa using h) (fun k hk => hk) k
  simpa using this

/-- Several resources, and all of the old memory that no one is handed. -/
def big (β : Bs) (L : List Res) : Res := ⟨fun k => fpL L k ∨ (k < β.w.heap.size ∧ ¬ β.O k), fun w => (∀ (i : Nat) (r : Res), L[i]? = some r → r.inv w) ∧ (∀ k, k < β.w.heap.size → ¬ β.O k → w.heap[k]? = β.w.heap[k]?),
  fun h hi => ⟨fun i r hr => r.loc (fun k hk => h k (.inl ⟨i, r, hr, hk⟩)) (hi.1 i r hr), fun k hk hO => (h k (.inr ⟨hk, hO⟩)).trans (hi.2 k hk hO)⟩⟩

def Fits (β : Bs) (L : List Res) : Prop := Dis L ∧ ∀ k, fpL L k → β.O k ∨ β.w.heap.size ≤ k

theorem St.fits {w : World} (h : St β L w) : Fits β L := ⟨h.dis, fun k ⟨i, r, hr, hk⟩ => (h.rng i r hr k hk).1⟩

theorem St.of_big {w w1 : World} {O : Nat → Prop} (hf : Fits β L) (hos : w.os = β.w.os ∧ w.tape = β.w.tape ∧ w.output = β.w.output ∧ β.w.heap.size ≤ w.heap.size) (hinv : (big β L).inv w) (hb : ∀ k, (big β L).fp k → k < w.heap.size) : St β L w :=
  ⟨hos.1, hos.2.1, hos.2.2.1, hos.2.2.2, hinv.2, hinv.1, fun i r hr k hk => ⟨hf.2 k ⟨i, r, hr, hk⟩, hb k (.inl ⟨i, r, hr, hk⟩)⟩, hf.1⟩

theorem St.to_big {w1 w2 : World} {L2 : List Res} (h1 : St β L w1) (h2 : St ⟨w1, fpL L⟩ L2 w2) : St ⟨w1, (big β L).fp⟩ [big β L2] w2 := by
  have hb := h1.back h2
  refine ⟨h2.os, h2.tape, h2.output, h2.size, fun k hk hO => h2.fr k hk (fun q => hO (.inl q)), ?_, ?_, ?_⟩
  · intro i r hr
    cases i with
    | zero => simp at hr; subst hr; exact ⟨hb.inv, hb.fr⟩
    | succ i => simp at hr
  · intro i r hr k hk
    cases i with
    | zero =>
      simp at hr; subst hr
      rcases hk with ⟨j, s, hs, hk⟩ | ⟨hk, hO⟩
      · have := h2.rng j s hs k hk
        exact ⟨this.1.imp (fun q => .inl q) (fun q => q), this.2⟩
      · exact ⟨.inl (.inr ⟨hk, hO⟩), Nat.lt_of_lt_of_le hk hb.size⟩
    | succ i => simp at hr
  · intro i j r s hij hr hs
    cases i with
    | zero => cases j with | zero => exact absurd rfl hij | succ j => simp at hs
    | succ i => simp at hr

def penv (ps : Array Tmp) (vs : List Value) : Env := (ps.toList.zip vs).reverse

theorem ag_zip {N : Nat} {ds : List Deferred} : ∀ (zs : List (Nat × Value)) (env : Env) (a : Act), (∀ z ∈ zs, z.1 < N) → Ag N ds env a → Ag N ds (zs.reverse ++ env) { a with tmps := zs.foldl (fun t (p, v) => t.setIfInBounds p v) a.tmps }
  | [], env, a,_, ha => by simpa using ha
  | (t, v) :: zs, env, a, h, ha => by
    have h1 := ha.put (h (t, v) (by simp)) v
    have := ag_zip zs _ _ (fun z hz => h z (by simp [hz])) h1
    simpa [Act.put] using this

/-- What a round of asg's assignment comes to. -/
def AP (β : Bs) (N : Nat) (env : Env) (L : List Res) : Exit → Act → World → Prop := fun e a w => e = .normal ∧ Ag N [] env a ∧ St β L w

end
end Go.SL

namespace Go.SL
set_option linter.unusedVariables false
open Go.RowKit

/-- Each entry bears a stamp of its own, of a time before now. -/
def Stamps (es : List MapEntry) (clock : Nat) : Prop := (es.map (·.born)).Nodup ∧ ∀ e, e ∈ es → e.born < clock

theorem intV_inj {a b : Int} (h : intV a = intV b) : a = b := by simpa [intV] using h

section
variable {P : Program} {ro : Option Nat} {β : Bs} {N : Nat} {ds : List Deferred} {env : Env} {L : List Res} {Q : Exit → Act → World → Prop}
variable {d : Option Nat} {ty : TypeId} {pos : String} {aft : Array Edge} {g : Option (Nat × Bool)}

theorem checkKey_int {K : TypeId} {k : IntKind} (hK : P.underlying K = some (.int k)) (e : Bool) (n : Nat) (v : Value) (w : World) : (Instr.checkKey e (n + 1) K v).run P w = .ok () w := by
  simp [Instr.checkKey, run_underlying hK]

section
variable {K : Value → List Res → Prop} {dd : Option Nat}
end

/-- A call that leaves resources, said by a ghost. -/
theorem HO.callx {α : Type} {K : Value → List Res → Prop} {dd : Option Nat} {f : FuncId} {xs : List Operand} {vs : List Value} {aT : Array TypeId} {v : α → Value} {R : α → List Res} {I : α → Prop} (hf : IsFn P f) (hx : OVs env xs vs)
    (hc : ∀ w, St β L w → Calls P f vs.toArray w fun e w' => ∃ x, I x ∧ e = .returned (v x) ∧ St (Go.SL.bs w) (R x) w') (k : ∀ x, I x → K (v x) (R x ++ L)) : HO P β env L ⟨dd, .call ⟨.value (.func f), xs.toArray, aT⟩, ty, pos, aft, none⟩ K :=
  HO.call (post := fun v' R' => ∃ x, I x ∧ v' = v x ∧ R' = R x) hf hx (fun w hw => (hc w hw).mono fun e w' ⟨x, h1, h2, h3⟩ => ⟨v x, R x, h2, ⟨x, h1, rfl, rfl⟩, h3⟩) (fun v' R' ⟨x, h1, h2, h3⟩ => by subst h2; subst h3; exact k x h1)
end
end Go.SL

namespace Go.SL
set_option linter.unusedVariables false
section
variable {P : Program} {ro : Option Nat} {β : Bs} {N : Nat} {ds : List Deferred} {env : Env} {L : List Res} {Q : Exit → Act → World → Prop}

/-- A loop: 'E', 'F' change from round to round; 'Ek' and the resources behind the first 'n' do not. -/
theorem VC.loopK {α : Type} (n : Nat) (E : α → Env) (Ek : Env) (F : α → List Res) (I : α → Prop) (μ : α → Nat) (x0 : α) {c : Code} (h0 : I x0) (hE : Sub (E x0 ++ Ek) env)
    (hF : ∀ w, St β L w → St β (F x0 ++ L.drop n) w)
    (hr : ∀ x, I x → VC P ro β N ds (E x ++ Ek) (F x ++ L.drop n) c (Exit.then (fun a w => ∃ y, I y ∧ μ y < μ x ∧ Ag N ds (E y ++ Ek) a ∧ St β (F y ++ L.drop n) w) Q)) : VC P ro β N ds env L (.loop c) Q :=
  VC.loop (fun x => E x ++ Ek) (fun x => F x ++ L.drop n) I μ x0 h0 hE hF hr

/-- A guarded operation that changes resources: both ways are joined. -/
theorem VO.hg {ops : Array Oper} {d j t : Nat} {want c : Bool} {op : Op} {ty : TypeId} {pos : String} {aft : Array Edge} {rest : List Oper} {u : Value} {Kx : Value → List Res → Prop} (hj : (ops[j]?).bind (·.dst) = some t) (ht : ev1 env t = some u) (hg : GD u want c)
    (h : c = true → HO P β env L ⟨some d, op, ty, pos, aft, some (j, want)⟩ Kx) (hd : Nat.blt d N = true)
    (k : ∀ v L', (c = true → Kx v L') → (c = false → L' = L) → VO P ro β N ds ops ((d, gv c v) :: env) L' rest Q) : VO P ro β N ds ops env L (⟨some d, op, ty, pos, aft, some (j, want)⟩ :: rest) Q := by
  intro a w ha hw
  have ht' := ha.get t u ht
  have hy : yielded ops a.tmps j = vb u := by
    unfold yielded; rw [hj]; simp only [Option.bind_some, ht']; cases u <;> rfl
  refine wpListIn_step fun K hK => ?_
  simp only [Region.wanted, hy]
  cases c with
  | true =>
    have hu := hg.1 rfl
    subst hu
    simp only [vb, beq_self_eq_true, if_true]
    exact (h rfl).wp (fun x _ u hu => ha.eval hu) hw fun v L' w' hk hs => hK _ _ (by have := k v L' (fun _ => hk) (fun q => by cases q) _ w' (ha.put (Nat.le_of_ble_eq_true hd) (gv true v)) hs; simpa [gv] using this)
  | false =>
    have hu := hg.2 rfl
    have hne : (vb u == some want) = false := by
      cases u <;> simp_all [vb]
    simp only [hne, Bool.false_eq_true, if_false]
    refine ⟨fun _ _ => True.intro, hK _ _ ?_⟩
    have := k undef L (fun q => by cases q) (fun _ => rfl) _ w (ha.put (Nat.le_of_ble_eq_true hd) (gv false undef)) hw
    simpa [gv] using this

/-- One resource that one was handed. -/
theorem St.one {w : World} {r : Res} (hi : r.inv w) (hb : ∀ k, r.fp k → k < w.heap.size) : St ⟨w, r.fp⟩ [r] w := by
  refine ⟨rfl, rfl, rfl, Nat.le_refl _, fun _ _ _ => rfl, ?_, ?_, ?_⟩
  · intro i s hs
    cases i with
    | zero => simp at hs; subst hs; exact hi
    | succ n => simp at hs
  · intro i s hs k hk
    cases i with
    | zero => simp at hs; subst hs; exact ⟨.inl hk, hb k hk⟩
    | succ n => simp at hs
  · intro i j s t hij hs ht k _ _
    cases i with
    | zero => cases j with
      | zero => exact hij rfl
      | succ n => simp at ht
    | succ n => simp at hs

theorem Builds.mk {T : Nat} {PL : List (Nat × Nat)} {Z : List Value} (h : ∀ ps, P.built T ps = Instr.fill (PL.toArray[·]?) Z.toArray ps) : Builds P T PL Z := fun ps => by
  rw [h]
  have : (fun x => PL.toArray[x]?) = fun x : Nat => PL[x]? := funext fun i => by simp
  rw [this]
end
end Go.SL

namespace Go.SL
set_option linter.unusedVariables false
section
variable {P : Program} {ro : Option Nat} {β : Bs} {N : Nat} {ds : List Deferred} {env : Env} {L : List Res} {Q : Exit → Act → World → Prop}
variable {ty : TypeId} {pos : String} {aft : Array Edge} {g : Option (Nat × Bool)}

theorem and_e {c b : Bool} (h : c = true) : (c && b) = b := by rw [h, Bool.true_and]

theorem LO.pkF {d : Option Nat} {c x y : Operand} {b : Bool} {v : Value} (hc : OV env c (.bool b)) (hb : b = false) (hy : OV env y v) : LO P β env L ⟨d, .pick c x y, ty, pos, aft, g⟩ v :=
  .of_run fun a w h hw => ⟨w, by subst hb; simp [execOp, h c (by simp [Op.operands]) _ hc, h y (by simp [Op.operands]) _ hy, asBool], hw⟩

/-- To append one more to a slice whose rows are those of a list. -/
theorem HO.appT {α : Type} {f : α → List Value} {l : List α} (x0 : α) (i j : Nat) (LF : Res → List Res) {K : Value → List Res → Prop} {dd : Option Nat} {x y : Operand} {T T' E z by_ : Nat} {aT : Array TypeId} {zero : Value} {p : Option Addr} {n cap b : Nat} {C : Array Value} (hT : IsSlice P T E) (hT' : IsSlice P T' E) (hE : EInfo P E z by_ zero) (hx : OV env x (.slice p n cap)) (hy : OV env y (.slice (some ⟨b, 0, none⟩) 1 1))
    (hi : L[i]? = some (own E z p cap (l.map f))) (hj : L[j]? = some (blk b (.cells C E))) (hC : C = (f x0).toArray) (hr : Nat.beq (f x0).length z = true) (h1 : allOne (f x0) = true) (ha0 : aT[0]? = some T) (ha1 : aT[1]? = some T') (hL : ∀ R : Res, L.set i R = LF R) (hn : n = l.length) (hs : (2 * (l.length + 1) + 768) * by_ ≤ 281474976710656)
    (k : ∀ p' cap', K (.slice p' (l ++ [x0]).length cap') (LF (own E z p' cap' ((l ++ [x0]).map f)))) : HO P β env L ⟨dd, .call ⟨.builtin .append, #[x, y], aT⟩, ty, pos, aft, none⟩ K := by
  subst hn
  refine HO.app1 i j LF hT hT' hE hx hy hi hj hC hr h1 ha0 ha1 hL (by simp) hs fun p' cap' => ?_
  have := k p' cap'
  rw [List.length_append, List.map_append] at this
  exact this

/-- A call that is handed one of the resources, and gives it back turned. -/
theorem HO.callh {α : Type} (i : Nat) {r : Res} (LF : Res → List Res) {K : Value → List Res → Prop} {dd : Option Nat} {f : FuncId} {fx : Operand} {xs : List Operand} {vs first cap : List Value} {aT : Array TypeId} {v : α → Value} {r' : α → Res} {I : α → Prop} (hi : L[i]? = some r) (hfx : OV env fx (.func (.func f) first.toArray cap.toArray)) (hf : IsFn P f) (hx : OVs env xs vs) (hL : ∀ R : Res, L.set i R = LF R)
    (hc : ∀ w, St β L w → Calls P f (first ++ vs ++ cap).toArray w fun e w' => ∃ x, I x ∧ e = .returned (v x) ∧ St ⟨w, r.fp⟩ [r' x] w') (k : ∀ x, I x → K (v x) (LF (r' x))) : HO P β env L ⟨dd, .call ⟨.value fx, xs.toArray, aT⟩, ty, pos, aft, none⟩ K := by
  intro a w h hw
  refine .inr (.inl ⟨f, (first ++ vs ++ cap).toArray, ?_, ?_⟩)
  · have hm : xs.map a.eval = vs := hx.map fun x hm u hu => by obtain ⟨u', hu', e⟩ := hu; subst e; exact h x (by simp [Op.operands, Call.operands, hm]) u' hu'
    have hfe : a.eval fx = .func (.func f) first.toArray cap.toArray := by obtain ⟨u', hu', e⟩ := hfx; subst e; exact h fx (by simp [Op.operands, Call.operands]) _ hu'
    simp [execOp, resolve, hfe, Deferred.ofValue, invoke, run_call hf, hm]
  · exact (hc w hw).mono fun e w' ⟨x, hI, he, hs⟩ => ⟨v x,_, he, k x hI, by rw [← hL]; exact hw.callAt i hi hs⟩

theorem LO.nc {d : Option Nat} {x : Operand} {p : Addr} (hx : OV env x (.pointer (some p))) : LO P β env L ⟨d, .nilCheck x, ty, pos, aft, g⟩ (.pointer (some p)) :=
  .of_run fun a w h hw => ⟨w, by simp [execOp, h x (by simp [Op.operands]) _ hx], hw⟩

theorem LO.ixo {d : Option Nat} {x i : Operand} {T E z : Nat} {p : Option Addr} {n c j : Nat} {k : IntKind} {e : Int} (hT : IsSlice P T E) (hz : (P.info? E).map (·.size) = some z) (hs : ∀ w, St β L w → SlSome p n) (hx : OV env x (.slice p n c)) (hi : OV env i (.int k e)) (he : e = (j : Int)) (hj : j < n) :
    LO P β env L ⟨d, .indexAddr T x i, ty, pos, aft, g⟩ (.pointer (some ⟨pb p, po p + j * z, none⟩)) :=
  fun a w h hw => LO.ixs (d := d) (ty := ty) (pos := pos) (aft := aft) (g := g) hT hz (hs w hw) hx hi he hj a w h hw

theorem own_cell {α : Type} {f : α → List Value} {w : World} (hw : St β L w) (i : Nat) {E z : Nat} {p : Option Addr} {cap : Nat} {l : List α} (hi : L[i]? = some (own E z p cap (l.map f))) {j : Nat} {x : α} (hx : l[j]? = some x) : Cells w ⟨pb p, po p + j * z, none⟩ (f x) :=
  (own_rows hw i hi).cells j _ (by rw [List.getElem?_map, hx]; rfl)

theorem selJ {L0 L1 : List Res} {js : List Nat} (is : List Nat) (hn : nodupB is = true) (h1 : sel L is = L1) (h2 : sel L0 js = L1) : ∀ w, St β L w → St β (sel L0 js) w := fun w hw => by
  rw [h2, ← h1]; exact hw.sel is hn

/-- The resources in another order, some left out. -/
theorem VC.perm (is : List Nat) {c : Code} (hn : nodupB is = true) (h : VC P ro β N ds env (sel L is) c Q) : VC P ro β N ds env L c Q := fun a w ha hw => h a w ha (hw.sel is hn)
theorem VC.pur {φ : Prop} {c : Code} (h : ∀ w, St β L w → φ) (k : φ → VC P ro β N ds env L c Q) : VC P ro β N ds env L c Q := fun a w ha hw => k (h w hw) a w ha hw
end
end Go.SL
