/-
  A small program logic over the guide's weakest preconditions: what a frame's slots hold is a list of pairs, what the call owns is a list of resources. No program stands in this text.
-/
import Derived.WalkKit
import Derived.RangeFuncLeaves
import Derived.RangeFuncIn
import Derived.RangeFuncRecord
import Derived.OrdersIn
import Derived.TacticsIn
namespace Go.SL
set_option linter.unusedVariables false
open Go.RowKit

/-! ### Slots -/
abbrev Env := List (Nat × Value)

def ev1 : Env → Nat → Option Value
  | [], _ => none
  | (j, v) :: r, i => bif Nat.beq i j then some v else ev1 r i

def ev (env : Env) : Operand → Option Value
  | .tmp t => ev1 env t
  | .const v => some v
  | .global g => some (.pointer (some ⟨g, 0, none⟩))
  | .func f => some (.func (.func f) #[] #[])

structure Ag (N : Nat) (ds : List Deferred) (env : Env) (a : Act) : Prop where
  size : a.tmps.size = N
  dfr : a.defers = ds
  get : ∀ i v, ev1 env i = some v → a.tmps[i]? = some v

theorem Ag.eval {N : Nat} {ds : List Deferred} {env : Env} {a : Act} (h : Ag N ds env a) {x : Operand} {v : Value} (hx : ev env x = some v) : a.eval x = v := by
  cases x with
  | tmp t => have := h.get t v hx; simp [Act.eval, this]
  | const c => simpa [ev, Act.eval] using hx
  | global g => simpa [ev, Act.eval] using hx
  | func f => simpa [ev, Act.eval] using hx

theorem ev1_cons_ne {env : Env} {i j : Nat} {v : Value} (h : i ≠ j) : ev1 ((j, v) :: env) i = ev1 env i := by
  have : Nat.beq i j = false := by
    cases hb : Nat.beq i j
    · rfl
    · exact absurd (Nat.eq_of_beq_eq_true hb) h
  simp [ev1, this]

theorem ev1_cons_eq {env : Env} {j : Nat} {v : Value} : ev1 ((j, v) :: env) j = some v := by
  have : Nat.beq j j = true := Nat.beq_refl j
  simp [ev1]

theorem Ag.put {N : Nat} {ds : List Deferred} {env : Env} {a : Act} (h : Ag N ds env a) {d : Nat} (hd : d < N) (v : Value) : Ag N ds ((d, v) :: env) (a.put (some d) v) := by
  refine ⟨by simp [Act.put, h.size], h.dfr, fun i u hi => ?_⟩
  by_cases e : i = d
  · subst e
    rw [ev1_cons_eq] at hi
    cases hi
    simp [Act.put, h.size, hd]
  · rw [ev1_cons_ne e] at hi
    have := h.get i u hi
    simp only [Act.put]
    rw [Array.getElem?_setIfInBounds_ne (Ne.symm e)]
    exact this

/-- Every pair of 'env'' stands in 'env'. -/
def Sub (env' env : Env) : Prop := ∀ i v, ev1 env' i = some v → ev1 env i = some v

theorem Ag.sub {N : Nat} {ds : List Deferred} {env env' : Env} {a : Act} (h : Ag N ds env a) (hs : Sub env' env) : Ag N ds env' a :=
  ⟨h.size, h.dfr, fun i v hi => h.get i v (hs i v hi)⟩

theorem Sub.nil {env : Env} : Sub [] env := fun i v h => by simp [ev1] at h
theorem Sub.cons {env env' : Env} {j : Nat} {v : Value} (h : ev1 env j = some v) (hs : Sub env' env) : Sub ((j, v) :: env') env := by
  intro i u hi
  by_cases e : i = j
  · subst e; rw [ev1_cons_eq] at hi; cases hi; exact h
  · rw [ev1_cons_ne e] at hi; exact hs i u hi

/-! ### Resources -/
structure Res where
  fp : Nat → Prop
  inv : World → Prop
  loc : ∀ {w w' : World}, (∀ k, fp k → w'.heap[k]? = w.heap[k]?) → inv w → inv w'

def blk (b : Nat) (o : Obj) : Res := ⟨fun k => k = b, fun w => w.heap[b]? = some o, fun h hi => (h b rfl).trans hi⟩

/-- What a call may rest on: the world as it begins, and which of its old blocks are handed to it. -/
structure Bs where
  w : World
  O : Nat → Prop
def bs (w : World) : Bs := ⟨w, fun _ => False⟩

structure St (β : Bs) (L : List Res) (w : World) : Prop where
  os : w.os = β.w.os
  tape : w.tape = β.w.tape
  output : w.output = β.w.output
  size : β.w.heap.size ≤ w.heap.size
  fr : ∀ k, k < β.w.heap.size → ¬ β.O k → w.heap[k]? = β.w.heap[k]?
  inv : ∀ (i : Nat) (r : Res), L[i]? = some r → r.inv w
  rng : ∀ (i : Nat) (r : Res), L[i]? = some r → ∀ k, r.fp k → (β.O k ∨ β.w.heap.size ≤ k) ∧ k < w.heap.size
  dis : ∀ (i j : Nat) (r s : Res), i ≠ j → L[i]? = some r → L[j]? = some s → ∀ k, r.fp k → ¬ s.fp k

open Go.RowKit

theorem St.refl (w : World) : St (bs w) [] w := ⟨rfl, rfl, rfl, Nat.le_refl _, fun _ _ _ => rfl, by simp, by simp, by simp⟩

theorem St.below {w0 w : World} {L : List Res} (h : St (bs w0) L w) : Below w0.heap.size w0 w := ⟨h.os, h.tape, h.output, h.size, fun k hk => h.fr k hk (fun f => f)⟩

/-- A world with the same heap and the same streams. -/
theorem St.same {β : Bs} {w w' : World} {L : List Res} (h : St β L w) (hh : w'.heap = w.heap) (ho : w'.os = w.os) (ht : w'.tape = w.tape) (hp : w'.output = w.output) : St β L w' := by
  refine ⟨by rw [ho, h.os], by rw [ht, h.tape], by rw [hp, h.output], by rw [hh]; exact h.size, fun k hk hO => by rw [hh]; exact h.fr k hk hO, ?_, ?_, h.dis⟩
  · exact fun i r hr => r.loc (fun k _ => by rw [hh]) (h.inv i r hr)
  · exact fun i r hr k hk => by rw [hh]; exact h.rng i r hr k hk

theorem St.drew {β : Bs} {w : World} {L : List Res} (h : St β L w) (n : Nat) : St β L { w with drawn := n } := h.same rfl rfl rfl rfl

/-- The blocks of some resources. -/
def fpL (L : List Res) : Nat → Prop := fun k => ∃ (i : Nat) (r : Res), L[i]? = some r ∧ r.fp k

/-- What a callee makes of the resources that it is handed. -/
theorem St.callG {β : Bs} {w w' : World} {L1 L2 R : List Res} {O : Nat → Prop} (h : St β (L1 ++ L2) w) (hO : ∀ k, O k → fpL L1 k) (k : St ⟨w, O⟩ R w') : St β (R ++ L2) w' := by
  have get1 : ∀ (i : Nat) (r : Res), L1[i]? = some r → (L1 ++ L2)[i]? = some r := fun i r hr => by
    rw [List.getElem?_append_left]
    · exact hr
    · rcases Nat.lt_or_ge i L1.length with q | q
      · exact q
      · simp [List.getElem?_eq_none q] at hr
  have get2 : ∀ (i : Nat) (r : Res), L2[i]? = some r → (L1 ++ L2)[L1.length + i]? = some r := fun i r hr => by
    rw [List.getElem?_append_right (by omega), show L1.length + i - L1.length = i by omega]; exact hr
  have lt1 : ∀ (i : Nat) (r : Res), L1[i]? = some r → i < L1.length := fun i r hr => by
    rcases Nat.lt_or_ge i L1.length with q | q
    · exact q
    · simp [List.getElem?_eq_none q] at hr
  have notO : ∀ (i : Nat) (r : Res), L2[i]? = some r → ∀ b, r.fp b → ¬ O b := fun i r hr b hb hob => by
    obtain ⟨j, s, hs, hsb⟩ := hO b hob
    exact h.dis j (L1.length + i) s r (by have := lt1 j s hs; omega) (get1 j s hs) (get2 i r hr) b hsb hb
  have keep : ∀ (i : Nat) (r : Res), L2[i]? = some r → ∀ b, r.fp b → w'.heap[b]? = w.heap[b]? := fun i r hr b hb => k.fr b (h.rng _ r (get2 i r hr) b hb).2 (notO i r hr b hb)
  have okO : ∀ b, O b → (β.O b ∨ β.w.heap.size ≤ b) := fun b hb => by
    obtain ⟨j, s, hs, hsb⟩ := hO b hb
    exact (h.rng j s (get1 j s hs) b hsb).1
  have rngR : ∀ (i : Nat) (r : Res), R[i]? = some r → ∀ b, r.fp b → (β.O b ∨ β.w.heap.size ≤ b) := fun i r hr b hb => by
    rcases (k.rng i r hr b hb).1 with q | q
    · exact okO b q
    · exact .inr (Nat.le_trans h.size q)
  refine ⟨k.os.trans h.os, k.tape.trans h.tape, k.output.trans h.output, Nat.le_trans h.size k.size, ?_, ?_, ?_, ?_⟩
  · intro b hb hbo
    refine (k.fr b (Nat.lt_of_lt_of_le hb h.size) (fun q => ?_)).trans (h.fr b hb hbo)
    rcases okO b q with r | r
    · exact hbo r
    · exact absurd hb (Nat.not_lt.2 r)
  · intro i r hr
    rw [List.getElem?_append] at hr
    split at hr
    · exact k.inv i r hr
    · exact r.loc (keep _ r hr) (h.inv _ r (get2 _ r hr))
  · intro i r hr b hb
    rw [List.getElem?_append] at hr
    split at hr
    · exact ⟨rngR i r hr b hb, (k.rng i r hr b hb).2⟩
    · have := h.rng _ r (get2 _ r hr) b hb; exact ⟨this.1, Nat.lt_of_lt_of_le this.2 k.size⟩
  · have cross : ∀ (i j : Nat) (r s : Res), R[i]? = some r → L2[j]? = some s → ∀ b, r.fp b → ¬ s.fp b := fun i j r s hr hs b hb hb' => by
      rcases (k.rng i r hr b hb).1 with q | q
      · exact notO j s hs b hb' q
      · have := (h.rng _ s (get2 j s hs) b hb').2; exact absurd this (Nat.not_lt.2 q)
    intro i j r s hij hr hs b hb hb'
    rw [List.getElem?_append] at hr hs
    split at hr
    · split at hs
      · exact k.dis i j r s hij hr hs b hb hb'
      · exact cross _ _ r s hr hs b hb hb'
    · split at hs
      · exact cross _ _ s r hs hr b hb' hb
      · exact h.dis (L1.length + (i - R.length)) (L1.length + (j - R.length)) r s (by omega) (get2 _ r hr) (get2 _ s hs) b hb hb'

/-- What a callee leaves: its own resources beside ours. -/
theorem St.call {β : Bs} {w w' : World} {L R : List Res} (h : St β L w) (k : St (bs w) R w') : St β (R ++ L) w' := St.callG (L1 := []) h (fun _ f => f.elim) k

theorem St.alloc {β : Bs} {w : World} {L : List Res} (h : St β L w) (o : Obj) : St β (blk w.heap.size o :: L) (w.alloc o) := by
  have hk : St (bs w) [blk w.heap.size o] (w.alloc o) := by
    refine ⟨rfl, rfl, rfl, by simp [bs], fun k hk _ => Below.heap_alloc _ _ _ hk, ?_, ?_, ?_⟩
    · intro i r hr
      cases i with
      | zero => simp at hr; subst hr; exact heap_alloc_new w o
      | succ i => simp at hr
    · intro i r hr k hk
      cases i with
      | zero => simp at hr; subst hr; simp only [blk] at hk; subst hk; exact ⟨.inr (Nat.le_refl _), by simp⟩
      | succ i => simp at hr
    · intro i j r s hij hr hs
      cases i with
      | zero =>
        cases j with
        | zero => exact absurd rfl hij
        | succ j => simp at hs
      | succ i => simp at hr
  exact h.call hk

/-- One block is written. -/
theorem St.upd {β : Bs} {w w' : World} {L L' : List Res} {i b : Nat} {o o' : Obj} (h : St β L w) (hi : L[i]? = some (blk b o)) (hL : L' = L.set i (blk b o'))
    (hb : w'.heap[b]? = some o') (hk : ∀ k, k ≠ b → w'.heap[k]? = w.heap[k]?) (hsz : w'.heap.size = w.heap.size) (ho : w'.os = w.os) (ht : w'.tape = w.tape) (hp : w'.output = w.output) : St β L' w' := by
  have hlt : i < L.length := by
    rcases Nat.lt_or_ge i L.length with h' | h'
    · exact h'
    · simp [List.getElem?_eq_none h'] at hi
  have hr0 := h.rng i _ hi b rfl
  have get : ∀ (j : Nat) (r : Res), L'[j]? = some r → (j = i ∧ r = blk b o') ∨ (j ≠ i ∧ L[j]? = some r) := by
    intro j r hr
    subst hL
    by_cases e : j = i
    · subst e; simp [hlt] at hr; exact .inl ⟨rfl, hr.symm⟩
    · rw [List.getElem?_set_ne (Ne.symm e)] at hr; exact .inr ⟨e, hr⟩
  refine ⟨by rw [ho, h.os], by rw [ht, h.tape], by rw [hp, h.output], by rw [hsz]; exact h.size, fun k hk' hO => ?_, ?_, ?_, ?_⟩
  · rw [hk k (fun e => by subst e; rcases hr0.1 with q | q; exact hO q; omega)]; exact h.fr k hk' hO
  · intro j r hr
    rcases get j r hr with ⟨rfl, rfl⟩ | ⟨hj, hr'⟩
    · exact hb
    · exact r.loc (fun k hk' => hk k (fun e => by subst e; exact h.dis j i _ _ hj hr' hi k hk' rfl)) (h.inv j r hr')
  · intro j r hr k hk'
    rw [hsz]
    rcases get j r hr with ⟨rfl, rfl⟩ | ⟨hj, hr'⟩
    · simp only [blk] at hk'; subst hk'; exact hr0
    · exact h.rng j r hr' k hk'
  · intro j l r s hjl hr hs k hk1 hk2
    rcases get j r hr with ⟨rfl, rfl⟩ | ⟨hj, hr'⟩ <;> rcases get l s hs with ⟨rfl, rfl⟩ | ⟨hl, hs'⟩
    · exact hjl rfl
    · exact h.dis j l _ _ hjl hi hs' k hk1 hk2
    · exact h.dis j l _ _ hjl hr' hi k hk1 hk2
    · exact h.dis j l _ _ hjl hr' hs' k hk1 hk2

/-- Some of the resources, in another order. -/
theorem St.pick {β : Bs} {w : World} {L L' : List Res} (is : List Nat) (h : St β L w) (hn : is.Nodup) (hl : L'.length = is.length) (hL : ∀ j, j < is.length → L'[j]? = L[is.getD j 0]?) : St β L' w := by
  have get : ∀ (j : Nat) (r : Res), L'[j]? = some r → j < is.length ∧ L[is.getD j 0]? = some r := by
    intro j r hr
    have hj : j < L'.length := by
      rcases Nat.lt_or_ge j L'.length with h' | h'
      · exact h'
      · simp [List.getElem?_eq_none h'] at hr
    exact ⟨by omega, by rw [← hL j (by omega)]; exact hr⟩
  refine ⟨h.os, h.tape, h.output, h.size, h.fr, fun j r hr => h.inv _ r (get j r hr).2, fun j r hr => h.rng _ r (get j r hr).2, fun j l r s hjl hr hs => ?_⟩
  obtain ⟨hj, hr'⟩ := get j r hr
  obtain ⟨hl', hs'⟩ := get l s hs
  refine h.dis _ _ r s (fun e => hjl ?_) hr' hs'
  have hn' := List.pairwise_iff_getElem.1 hn
  have e' : is[j] = is[l] := by simpa [List.getD, List.getElem?_eq_getElem hj, List.getElem?_eq_getElem hl'] using e
  rcases Nat.lt_trichotomy j l with c | c | c
  · exact absurd e' (hn' j l hj hl' c)
  · exact c
  · exact absurd e'.symm (hn' l j hl' hj c)

theorem St.nil {β : Bs} {w : World} {L : List Res} (h : St β L w) : St β [] w := h.pick [] (by simp) rfl (by simp)

/-! ### The judgements -/
/-- No fence; in a round of a range over a function, or in none. -/
def Wf (ro : Option Nat) : Fence := { Fence.wide with round := ro }
theorem wf_none : Wf none = Fence.wide := rfl
theorem wf_room (ro : Option Nat) (n : Nat) : (Wf ro).room n := fun _ h => by simp [Wf, Fence.wide] at h
theorem callsIn_wf {ro : Option Nat} {n : Nat} {P : Program} {f : FuncId} {args : Array Value} {w : World} {R : Ending → World → Prop} : CallsIn (Wf ro) n P f args w R ↔ Calls P f args w R :=
  ⟨fun h => (callsIn_wide (n := n)).1 h, fun h => (callsIn_wide (n := n)).2 h⟩

section
variable (P : Program) (ro : Option Nat) (β : Bs) (N : Nat) (ds : List Deferred)

def VC (env : Env) (L : List Res) (c : Code) (Q : Exit → Act → World → Prop) : Prop := ∀ a w, Ag N ds env a → St β L w → c.wpIn (Wf ro) 0 P Q a w
def VE (env : Env) (L : List Res) (e : Exit) (Q : Exit → Act → World → Prop) : Prop := ∀ a w, Ag N ds env a → St β L w → Q e a w
def VO (ops : Array Oper) (env : Env) (L : List Res) (l : List Oper) (Q : Exit → Act → World → Prop) : Prop := ∀ a w, Ag N ds env a → St β L w → wpListIn (Wf ro) 0 P ops Q l a w
end

section
variable {P : Program} {ro : Option Nat} {β : Bs} {ds : List Deferred} {N : Nat} {env : Env} {L : List Res} {Q : Exit → Act → World → Prop}

theorem VC.seq {x y : Code} (h : VC P ro β N ds env L x (Exit.then (y.wpIn (Wf ro) 0 P Q) Q)) : VC P ro β N ds env L (.seq x y) Q := fun a w ha hw => wpIn_seq (h a w ha hw)
theorem VC.skip (h : VE β N ds env L .normal Q) : VC P ro β N ds env L .skip Q := fun a w ha hw => wpIn_skip (h a w ha hw)
theorem VC.ret (h : VE β N ds env L .ret Q) : VC P ro β N ds env L .ret Q := fun a w ha hw => wpIn_ret (h a w ha hw)
theorem VC.exit {id : Nat} (h : VE β N ds env L (.exit id) Q) : VC P ro β N ds env L (.exit id) Q := fun a w ha hw => wpIn_exit (h a w ha hw)
theorem VC.block {id : Nat} {c : Code} (h : VC P ro β N ds env L c (Exit.inBlock id Q)) : VC P ro β N ds env L (.block id c) Q := fun a w ha hw => wpIn_block (h a w ha hw)
theorem VE.seqN {y : Code} (h : VC P ro β N ds env L y Q) : VE β N ds env L .normal (Exit.then (y.wpIn (Wf ro) 0 P Q) Q) := fun a w ha hw => h a w ha hw
theorem VE.thenN {K : Act → World → Prop} (h : ∀ a w, Ag N ds env a → St β L w → K a w) : VE β N ds env L .normal (Exit.then K Q) := fun a w ha hw => h a w ha hw
theorem VE.thenR {K : Act → World → Prop} (h : VE β N ds env L .ret Q) : VE β N ds env L .ret (Exit.then K Q) := fun a w ha hw => h a w ha hw
theorem VE.thenX {K : Act → World → Prop} {id : Nat} (h : VE β N ds env L (.exit id) Q) : VE β N ds env L (.exit id) (Exit.then K Q) := fun a w ha hw => h a w ha hw
theorem VE.inN {id : Nat} (h : VE β N ds env L .normal Q) : VE β N ds env L .normal (Exit.inBlock id Q) := fun a w ha hw => h a w ha hw
theorem VE.inR {id : Nat} (h : VE β N ds env L .ret Q) : VE β N ds env L .ret (Exit.inBlock id Q) := fun a w ha hw => h a w ha hw
theorem VE.inX {id : Nat} (h : VE β N ds env L .normal Q) : VE β N ds env L (.exit id) (Exit.inBlock id Q) := fun a w ha hw => by
  show Exit.inBlock id Q (.exit id) a w
  simp only [Exit.inBlock, if_true]; exact h a w ha hw
theorem VE.outX {id id' : Nat} (hne : Nat.beq id' id = false) (h : VE β N ds env L (.exit id') Q) : VE β N ds env L (.exit id') (Exit.inBlock id Q) := fun a w ha hw => by
  show Exit.inBlock id Q (.exit id') a w
  have : id' ≠ id := fun e => by subst e; simp at hne
  simp only [Exit.inBlock, if_neg this]; exact h a w ha hw

/-- What a Bool says. -/
class IsP (b : Bool) (p : outParam Prop) : Prop where
  iff : b = true ↔ p
instance IsP.dec (p : Prop) [Decidable p] : IsP (decide p) p := ⟨by simp⟩
instance (priority := low) IsP.id (b : Bool) : IsP b (b = true) := ⟨Iff.rfl⟩
instance IsP.not (b : Bool) (p : Prop) [h : IsP b p] : IsP (!b) (¬ p) := ⟨by have := h.iff; cases b <;> simp_all⟩
instance IsP.and (b c : Bool) (p q : Prop) [h : IsP b p] [k : IsP c q] : IsP (b && c) (p ∧ q) := ⟨by have := h.iff; have := k.iff; cases b <;> cases c <;> simp_all⟩
instance IsP.or (b c : Bool) (p q : Prop) [h : IsP b p] [k : IsP c q] : IsP (b || c) (p ∨ q) := ⟨by have := h.iff; have := k.iff; cases b <;> cases c <;> simp_all⟩
theorem IsP.yes {b : Bool} {p : Prop} (h : IsP b p) (hb : b = true) : p := h.iff.1 hb
theorem IsP.no {b : Bool} {p : Prop} (h : IsP b p) (hb : b = false) : ¬ p := fun hp => by rw [h.iff.2 hp] at hb; cases hb

theorem VC.cond {c : Operand} {x y : Code} {b : Bool} {p : Prop} (hc : ev env c = some (.bool b)) [hp : IsP b p] (ht : p → VC P ro β N ds env L x Q) (hf : ¬ p → VC P ro β N ds env L y Q) : VC P ro β N ds env L (.cond c x y) Q :=
  fun a w ha hw => wpIn_cond_split (ha.eval hc) (fun hb => ht (hp.yes hb) a w ha hw) (fun hb => hf (hp.no hb) a w ha hw)

theorem VC.condT {c : Operand} {x y : Code} (hc : ev env c = some (.bool true)) (ht : VC P ro β N ds env L x Q) : VC P ro β N ds env L (.cond c x y) Q :=
  fun a w ha hw => wpIn_cond_true (ha.eval hc) (ht a w ha hw)
theorem VC.condF {c : Operand} {x y : Code} (hc : ev env c = some (.bool false)) (hf : VC P ro β N ds env L y Q) : VC P ro β N ds env L (.cond c x y) Q :=
  fun a w ha hw => wpIn_cond_false (ha.eval hc) (hf a w ha hw)

/-- Fewer slots, fewer resources. -/
theorem VC.weak {env' : Env} {L' : List Res} {c : Code} (he : Sub env' env) (hL : ∀ w, St β L w → St β L' w) (h : VC P ro β N ds env' L' c Q) : VC P ro β N ds env L c Q := fun a w ha hw => h a w (ha.sub he) (hL w hw)
theorem VE.weak {env' : Env} {L' : List Res} {e : Exit} (he : Sub env' env) (hL : ∀ w, St β L w → St β L' w) (h : VE β N ds env' L' e Q) : VE β N ds env L e Q := fun a w ha hw => h a w (ha.sub he) (hL w hw)

theorem wp_loop_n {P : Program} {ro : Option Nat} {c : Code} {Q : Exit → Act → World → Prop} (I : Nat → Act → World → Prop) (n0 : Nat) {a : Act} {w : World} (h0 : I n0 a w)
    (hr : ∀ n a w, I n a w → c.wpIn (Wf ro) 0 P (Exit.then (fun a w => ∃ m, m < n ∧ I m a w) Q) a w) : (Code.loop c).wpIn (Wf ro) 0 P Q a w := by
  intro b k cs hro hb hrm
  have key : ∀ n a w, I n a w → ∃ e a' w', Q e a' w' ∧ ArrivesIn (Machine.fenced P (Wf ro)) P (lone (b.atR a (.code c :: .inLoop c :: k)) cs w) b k cs e a' w' := by
    intro n
    induction n using Nat.strongRecOn with
    | _ n ih =>
      intro a w hI
      obtain ⟨e, a₁, w₁, hq, harr⟩ := hr n a w hI b (.inLoop c :: k) cs hro hb hrm
      cases e with
      | normal =>
        obtain ⟨m, hlt, hI₁⟩ := hq
        obtain ⟨e₂, a₂, w₂, hq₂, harr₂⟩ := ih m hlt a₁ w₁ hI₁
        exact ⟨e₂, a₂, w₂, hq₂, .of_steps (StepsIn.trans harr (.one (fenced_calm hb hrm rfl) stepR_inLoop)) harr₂⟩
      | exit id => exact ⟨_, a₁, w₁, hq, .pass (x := .inLoop c) rfl (fun _ _ => .inl (by simp)) harr⟩
      | goto l => exact ⟨_, a₁, w₁, hq, .pass (x := .inLoop c) rfl (fun _ _ => .inl (by simp)) harr⟩
      | ret => exact ⟨_, a₁, w₁, hq, .pass (x := .inLoop c) rfl (fun _ _ => .inl (by simp)) harr⟩
      | panic ch => exact ⟨_, a₁, w₁, hq, .pass (x := .inLoop c) rfl (fun _ _ => .inl (by simp)) harr⟩
      | outgrown => exact ⟨_, a₁, w₁, hq, .pass (x := .inLoop c) rfl (fun _ _ => .inl (by simp)) harr⟩
  obtain ⟨e, a', w', hq, harr⟩ := key n0 a w h0
  exact ⟨e, a', w', hq, .of_steps (.one (fenced_calm hb hrm rfl) stepR_loop) harr⟩

/-- A loop: 'E', 'F' say what slots and resources hold at a round's head, by a ghost 'x' that meets 'I'. -/
theorem VC.loop {α : Type} (E : α → Env) (F : α → List Res) (I : α → Prop) (μ : α → Nat) (x0 : α) {c : Code} (h0 : I x0) (hE : Sub (E x0) env) (hF : ∀ w, St β L w → St β (F x0) w)
    (hr : ∀ x, I x → VC P ro β N ds (E x) (F x) c (Exit.then (fun a w => ∃ y, I y ∧ μ y < μ x ∧ Ag N ds (E y) a ∧ St β (F y) w) Q)) : VC P ro β N ds env L (.loop c) Q := by
  intro a w ha hw
  refine wp_loop_n (fun n a w => ∃ x, I x ∧ μ x = n ∧ Ag N ds (E x) a ∧ St β (F x) w) (μ x0) ⟨x0, h0, rfl, ha.sub hE, hF w hw⟩ ?_
  rintro n a w ⟨x, hI, rfl, hA, hS⟩
  refine Code.wpIn_mono ?_ (hr x hI a w hA hS)
  intro e a w q
  cases e with
  | normal => obtain ⟨y, h1, h2, h3, h4⟩ := q; exact ⟨μ y, h2, y, h1, rfl, h3, h4⟩
  | _ => exact q

/-! ### Operations that leave the resources as they are -/
/-- What an operation comes to: a value; a call's; a round's (a call of yield). -/
def Yl (P : Program) (β : Bs) (L : List Res) (o : Oper) (a : Act) (w : World) (v : Value) : Prop :=
  (∃ w', (execOp a.eval o).run P w = .ok (.value v) w' ∧ St β L w') ∨
  (∃ f args, (execOp a.eval o).run P w = .ok (.enter f args) w ∧ Calls P f args w fun e w' => e = .returned v ∧ St β L w')

def LO (P : Program) (β : Bs) (env : Env) (L : List Res) (o : Oper) (v : Value) : Prop :=
  ∀ (a : Act) (w : World), (∀ x, x ∈ o.op.operands → ∀ u, ev env x = some u → a.eval x = u) → St β L w → Yl P β L o a w v

theorem semAt_run {ro : Option Nat} {ρ : Operand → Value} {o : Oper} {w w' : World} {nx : Next} (h : (execOp ρ o).run P w = .ok nx w') (hn : ∀ d, nx ≠ .defer d) : (o.semAt ro ρ).run P w = .ok nx w' := by
  cases ro with
  | none => exact h
  | some l =>
    by_cases hd : ∃ c, o.op = .defer c
    · exfalso
      obtain ⟨c, hc⟩ := hd
      simp only [execOp, hc, Sem.run_bind, Sem.run_pure] at h
      cases hr : (resolve ρ c o.type).run P w with
      | ok d w1 => rw [hr] at h; simp only [Result.andThen_ok, Result.ok.injEq] at h; exact hn d h.1.symm
      | halt x w1 => rw [hr] at h; simp at h
    · rw [Oper.semAt_some l ρ o (fun c hc => hd ⟨c, hc⟩)]; exact h

theorem Yl.wp {o : Oper} {a : Act} {w : World} {v : Value} {K : Act → World → Prop} (h : Yl P β L o a w v) (k : ∀ w', St β L w' → K (a.put o.dst v) w') : o.wpIn (Wf ro) 0 P a w K Q := by
  refine ⟨fun _ _ => True.intro, ?_⟩
  rcases h with ⟨w', hr, hs⟩ | ⟨f, args, hr, hc⟩
  · have e : (o.semAt (Wf ro).round a.eval).run P w = .ok (.value v) w' := semAt_run hr (by simp)
    rw [e]; exact k w' hs
  · have e : (o.semAt (Wf ro).round a.eval).run P w = .ok (.enter f args) w := semAt_run hr (by simp)
    rw [e]
    refine ⟨fun h => by simp [Wf, Fence.wide] at h, callsIn_wf.2 (hc.mono ?_)⟩
    rintro e w' ⟨rfl, hs⟩
    exact k w' hs

theorem VO.nil {ops : Array Oper} (h : VE β N ds env L .normal Q) : VO P ro β N ds ops env L [] Q := fun a w ha hw => h a w ha hw

theorem VC.reg {id : Nat} {l : List Oper} (h : VO P ro β N ds l.toArray env L l Q) : VC P ro β N ds env L (.region id l.toArray false) Q :=
  fun a w ha hw => wpIn_region_lit (h a w ha hw)

theorem VO.l {ops : Array Oper} {d : Nat} {op : Op} {ty : TypeId} {pos : String} {aft : Array Edge} {rest : List Oper} {v : Value} (h : LO P β env L ⟨some d, op, ty, pos, aft, none⟩ v) (hd : Nat.blt d N = true)
    (k : VO P ro β N ds ops ((d, v) :: env) L rest Q) : VO P ro β N ds ops env L (⟨some d, op, ty, pos, aft, none⟩ :: rest) Q := by
  intro a w ha hw
  refine wpListIn_plain rfl fun K hK => ?_
  exact (h a w (fun x _ u hu => ha.eval hu) hw).wp fun w' hs => hK _ _ (k _ w' (ha.put (Nat.le_of_ble_eq_true hd) v) hs)

/-- A value that stands only if a guard let its operation run. -/
def gv (c : Bool) (v : Value) : Value := if c then v else undef
theorem gvt {c : Bool} {v : Value} (h : c = true) : gv c v = v := by simp [gv, h]
theorem gvf {c : Bool} {v : Value} (h : c = false) : gv c v = undef := by simp [gv, h]

/-- The guard's slot holds 'v'; the operation is wanted just if 'c'. -/
def GD (v : Value) (want c : Bool) : Prop := (c = true → v = .bool want) ∧ (c = false → v ≠ .bool want)
theorem GD.t (b : Bool) : GD (.bool b) true b := ⟨fun h => by rw [h], fun h => by rw [h]; simp⟩
theorem GD.f (b : Bool) : GD (.bool b) false (!b) := ⟨fun h => by cases b <;> simp_all, fun h => by cases b <;> simp_all⟩
theorem GD.nt (c b : Bool) : GD (gv c (.bool b)) true (c && b) := ⟨fun h => by cases c <;> cases b <;> simp_all [gv], fun h => by cases c <;> cases b <;> simp_all [gv, undef]⟩
theorem GD.nf (c b : Bool) : GD (gv c (.bool b)) false (c && !b) := ⟨fun h => by cases c <;> cases b <;> simp_all [gv], fun h => by cases c <;> cases b <;> simp_all [gv, undef]⟩

def vb : Value → Option Bool
  | .bool b => some b
  | _ => none

theorem vb_ne {u : Value} {want : Bool} (h : u ≠ .bool want) : (vb u == some want) = false := by
  cases u <;> simp_all [vb]

theorem VO.lg {ops : Array Oper} {d j t : Nat} {want c : Bool} {op : Op} {ty : TypeId} {pos : String} {aft : Array Edge} {rest : List Oper} {v u : Value} (hj : (ops[j]?).bind (·.dst) = some t) (ht : ev1 env t = some u) (hg : GD u want c)
    (h : c = true → LO P β env L ⟨some d, op, ty, pos, aft, some (j, want)⟩ v) (hd : Nat.blt d N = true)
    (k : VO P ro β N ds ops ((d, gv c v) :: env) L rest Q) : VO P ro β N ds ops env L (⟨some d, op, ty, pos, aft, some (j, want)⟩ :: rest) Q := by
  intro a w ha hw
  have ht' := ha.get t u ht
  have hy : yielded ops a.tmps j = vb u := by
    unfold yielded; rw [hj]; simp only [Option.bind_some, ht']; cases u <;> rfl
  refine wpListIn_step fun K hK => ?_
  simp only [Region.wanted, hy]
  cases c with
  | true =>
    have hu := hg.1 rfl
    subst hu
    simp only [vb, beq_self_eq_true, if_true]
    exact (h rfl a w (fun x _ u hu => ha.eval hu) hw).wp fun w' hs => hK _ _ (by have := k _ w' (ha.put (Nat.le_of_ble_eq_true hd) (gv true v)) hs; simpa [gv] using this)
  | false =>
    have hu := hg.2 rfl
    have hne : (vb u == some want) = false := by
      cases u <;> simp_all [vb]
    simp only [hne, Bool.false_eq_true, if_false]
    refine ⟨fun _ _ => True.intro, hK _ _ ?_⟩
    have := k _ w (ha.put (Nat.le_of_ble_eq_true hd) (gv false v)) hw
    simpa [gv] using this

/-! What an operand holds. -/
def OV (env : Env) (x : Operand) (v : Value) : Prop := ∃ u, ev env x = some u ∧ u = v
theorem OV.r {x : Operand} {v : Value} (h : ev env x = some v) : OV env x v := ⟨v, h, rfl⟩
theorem OV.g {x : Operand} {v : Value} {c : Bool} (hc : c = true) (h : ev env x = some (gv c v)) : OV env x v := ⟨_, h, gvt hc⟩

variable {d : Option Nat} {ty : TypeId} {pos : String} {aft : Array Edge} {g : Option (Nat × Bool)}

theorem LO.of_run {o : Oper} {v : Value} (h : ∀ (a : Act) (w : World), (∀ x, x ∈ o.op.operands → ∀ u, OV env x u → a.eval x = u) → St β L w → ∃ w', (execOp a.eval o).run P w = .ok (.value v) w' ∧ St β L w') : LO P β env L o v :=
  fun a w hx hw => .inl (h a w (fun x hm u ⟨u', hu, e⟩ => e ▸ hx x hm u' hu) hw)

theorem LO.mv {x : Operand} {v : Value} (hx : OV env x v) : LO P β env L ⟨d, .move x, ty, pos, aft, g⟩ v :=
  .of_run fun a w h hw => ⟨w, by simp [execOp, h x (by simp [Op.operands]) v hx], hw⟩
theorem LO.as {x : Operand} {v : Value} (hx : OV env x v) : LO P β env L ⟨d, .assign x, ty, pos, aft, g⟩ v :=
  .of_run fun a w h hw => ⟨w, by simp [execOp, h x (by simp [Op.operands]) v hx], hw⟩

section
variable {x y : Operand} {xT yT : TypeId} {k : IntKind} {m n r : Int}

theorem LO.add (hx : OV env x (.int k m)) (hy : OV env y (.int k n)) (hr : k.wrap (m + n) = r) : LO P β env L ⟨d, .binOp .add xT x y yT, ty, pos, aft, g⟩ (.int k r) :=
  .of_run fun a w h hw => ⟨w, by simp [execOp, h x (by simp [Op.operands]) _ hx, h y (by simp [Op.operands]) _ hy, eqGuard, binOp, Op.intArith, hr], hw⟩
theorem LO.sub (hx : OV env x (.int k m)) (hy : OV env y (.int k n)) (hr : k.wrap (m - n) = r) : LO P β env L ⟨d, .binOp .sub xT x y yT, ty, pos, aft, g⟩ (.int k r) :=
  .of_run fun a w h hw => ⟨w, by simp [execOp, h x (by simp [Op.operands]) _ hx, h y (by simp [Op.operands]) _ hy, eqGuard, binOp, Op.intArith, hr], hw⟩
theorem LO.mul (hx : OV env x (.int k m)) (hy : OV env y (.int k n)) (hr : k.wrap (m * n) = r) : LO P β env L ⟨d, .binOp .mul xT x y yT, ty, pos, aft, g⟩ (.int k r) :=
  .of_run fun a w h hw => ⟨w, by simp [execOp, h x (by simp [Op.operands]) _ hx, h y (by simp [Op.operands]) _ hy, eqGuard, binOp, Op.intArith, hr], hw⟩
theorem LO.quo (hx : OV env x (.int k m)) (hy : OV env y (.int k n)) (h0 : n ≠ 0) (hr : k.wrap (m.tdiv n) = r) : LO P β env L ⟨d, .binOp .quo xT x y yT, ty, pos, aft, g⟩ (.int k r) :=
  .of_run fun a w h hw => ⟨w, by simp [execOp, h x (by simp [Op.operands]) _ hx, h y (by simp [Op.operands]) _ hy, eqGuard, binOp, Op.intDiv, h0, hr], hw⟩
theorem LO.rem (hx : OV env x (.int k m)) (hy : OV env y (.int k n)) (h0 : n ≠ 0) : LO P β env L ⟨d, .binOp .rem xT x y yT, ty, pos, aft, g⟩ (.int k (m.tmod n)) :=
  .of_run fun a w h hw => ⟨w, by simp [execOp, h x (by simp [Op.operands]) _ hx, h y (by simp [Op.operands]) _ hy, eqGuard, binOp, Op.intDiv, h0], hw⟩
theorem LO.lt (hx : OV env x (.int k m)) (hy : OV env y (.int k n)) : LO P β env L ⟨d, .binOp .lss xT x y yT, ty, pos, aft, g⟩ (.bool (decide (m < n))) :=
  .of_run fun a w h hw => ⟨w, by simp [execOp, h x (by simp [Op.operands]) _ hx, h y (by simp [Op.operands]) _ hy, eqGuard, binOp, Op.intCmp], hw⟩
theorem LO.le (hx : OV env x (.int k m)) (hy : OV env y (.int k n)) : LO P β env L ⟨d, .binOp .leq xT x y yT, ty, pos, aft, g⟩ (.bool (decide (m ≤ n))) :=
  .of_run fun a w h hw => ⟨w, by simp [execOp, h x (by simp [Op.operands]) _ hx, h y (by simp [Op.operands]) _ hy, eqGuard, binOp, Op.intCmp], hw⟩
theorem LO.gt (hx : OV env x (.int k m)) (hy : OV env y (.int k n)) : LO P β env L ⟨d, .binOp .gtr xT x y yT, ty, pos, aft, g⟩ (.bool (decide (n < m))) :=
  .of_run fun a w h hw => ⟨w, by simp [execOp, h x (by simp [Op.operands]) _ hx, h y (by simp [Op.operands]) _ hy, eqGuard, binOp, Op.intCmp], hw⟩
theorem LO.ge (hx : OV env x (.int k m)) (hy : OV env y (.int k n)) : LO P β env L ⟨d, .binOp .geq xT x y yT, ty, pos, aft, g⟩ (.bool (decide (n ≤ m))) :=
  .of_run fun a w h hw => ⟨w, by simp [execOp, h x (by simp [Op.operands]) _ hx, h y (by simp [Op.operands]) _ hy, eqGuard, binOp, Op.intCmp], hw⟩
theorem LO.eq (hx : OV env x (.int k m)) (hy : OV env y (.int k n)) : LO P β env L ⟨d, .binOp .eql xT x y yT, ty, pos, aft, g⟩ (.bool (decide (m = n))) :=
  .of_run fun a w h hw => ⟨w, by simp [execOp, h x (by simp [Op.operands]) _ hx, h y (by simp [Op.operands]) _ hy, eqGuard, binOp, Op.intCmp]; rfl, hw⟩
theorem LO.ne (hx : OV env x (.int k m)) (hy : OV env y (.int k n)) : LO P β env L ⟨d, .binOp .neq xT x y yT, ty, pos, aft, g⟩ (.bool (!decide (m = n))) :=
  .of_run fun a w h hw => ⟨w, by simp [execOp, h x (by simp [Op.operands]) _ hx, h y (by simp [Op.operands]) _ hy, eqGuard, binOp, Op.intCmp, bne]; rfl, hw⟩
theorem LO.not {b : Bool} (hx : OV env x (.bool b)) : LO P β env L ⟨d, .unOp .not xT x, ty, pos, aft, g⟩ (.bool (!b)) :=
  .of_run fun a w h hw => ⟨w, by simp [execOp, h x (by simp [Op.operands]) _ hx, Op.unary], hw⟩
theorem LO.neg (hx : OV env x (.int k m)) (hr : k.wrap (-m) = r) : LO P β env L ⟨d, .unOp .neg xT x, ty, pos, aft, g⟩ (.int k r) :=
  .of_run fun a w h hw => ⟨w, by simp [execOp, h x (by simp [Op.operands]) _ hx, Op.unary, Op.intArith, hr], hw⟩
end

theorem LO.pkA {c x y : Operand} {b e : Bool} {q : Bool} (hc : OV env c (.bool b)) (hx : ev env x = some (gv e (.bool q))) (he : e = b) (hy : OV env y (.bool false)) : LO P β env L ⟨d, .pick c x y, ty, pos, aft, g⟩ (.bool (b && q)) :=
  .of_run fun a w h hw => ⟨w, by
    subst he
    simp [execOp, h c (by simp [Op.operands]) _ hc, h y (by simp [Op.operands]) _ hy, h x (by simp [Op.operands]) _ (.r hx), asBool]
    cases e <;> simp [gv], hw⟩
theorem LO.pkO {c x y : Operand} {b e : Bool} {q : Bool} (hc : OV env c (.bool b)) (hx : OV env x (.bool true)) (hy : ev env y = some (gv e (.bool q))) (he : e = !b) : LO P β env L ⟨d, .pick c x y, ty, pos, aft, g⟩ (.bool (b || q)) :=
  .of_run fun a w h hw => ⟨w, by
    subst he
    simp [execOp, h c (by simp [Op.operands]) _ hc, h x (by simp [Op.operands]) _ hx, h y (by simp [Op.operands]) _ (.r hy), asBool]
    cases b <;> simp [gv], hw⟩

/-! ### Types -/
def IsAgg (P : Program) (T n : Nat) : Prop := (∃ d, P.underlying T = some d ∧ (match d with | .struct _ | .array _ _ => true | _ => false) = true) ∧ (P.info? T).map (·.size) = some n
def IsOne (P : Program) (T : Nat) : Prop := (∃ d, P.underlying T = some d ∧ (match d with | .struct _ | .array _ _ => true | _ => false) = false) ∧ (P.info? T).map (·.size) = some 1

/-- The cells from 'p' on hold 'vs'. -/
def Cells (w : World) (p : Addr) (vs : List Value) : Prop := ∀ j v, vs[j]? = some v → w.cell? (p.add j) = some v

theorem run_isAgg {T n : Nat} (h : IsAgg P T n) (w : World) : (isAgg T).run P w = .ok true w := by
  obtain ⟨⟨d, hu, hd⟩, _⟩ := h
  unfold isAgg; rw [Sem.run_bind, run_underlying hu w]; cases d <;> simp_all
theorem run_isOne {T : Nat} (h : IsOne P T) (w : World) : (isAgg T).run P w = .ok false w := by
  obtain ⟨⟨d, hu, hd⟩, _⟩ := h
  unfold isAgg; rw [Sem.run_bind, run_underlying hu w]; cases d <;> simp_all
theorem run_size {T n : Nat} (h : (P.info? T).map (·.size) = some n) (w : World) : (sizeOf T).run P w = .ok n w := by
  cases hq : P.info? T with
  | none => simp [hq] at h
  | some i => simp [hq] at h; simp [sizeOf, typeInfo, hq, h]

theorem run_loadAgg {T n : Nat} (hT : IsAgg P T n) {w : World} {p : Addr} {vs : List Value} (hn : vs.length = n) (hc : Cells w p vs) : (loadVar T p).run P w = .ok (.agg vs.toArray) w := by
  subst hn
  have hl := run_loadCells_list (P := P) w p vs (fun j v hj => hc j v hj)
  simp [loadVar, Sem.run_bind, run_isAgg hT, run_size hT.2, hl]
theorem run_loadOne {T : Nat} (hT : IsOne P T) {w : World} {p : Addr} {v : Value} (hc : Cells w p [v]) : (loadVar T p).run P w = .ok v w := by
  have := hc 0 v rfl
  simp only [Addr.add, if_true] at this
  simp [loadVar, Sem.run_bind, run_isOne hT, this]

theorem LO.lda {x : Operand} {T n : Nat} {p : Addr} {vs : List Value} (hT : IsAgg P T n) (hx : OV env x (.pointer (some p))) (hc : ∀ w, St β L w → Cells w p vs) (hn : Nat.beq vs.length n = true) : LO P β env L ⟨d, .load T x, ty, pos, aft, g⟩ (.agg vs.toArray) :=
  .of_run fun a w h hw => ⟨w, by simp [execOp, h x (by simp [Op.operands]) _ hx, Instr.loadAt, Instr.sureAddr, run_loadAgg hT (Nat.eq_of_beq_eq_true hn) (hc w hw)], hw⟩
theorem LO.ld {x : Operand} {T : Nat} {p : Addr} {v : Value} (hT : IsOne P T) (hx : OV env x (.pointer (some p))) (hc : ∀ w, St β L w → Cells w p [v]) : LO P β env L ⟨d, .load T x, ty, pos, aft, g⟩ v :=
  .of_run fun a w h hw => ⟨w, by simp [execOp, h x (by simp [Op.operands]) _ hx, Instr.loadAt, Instr.sureAddr, run_loadOne hT (hc w hw)], hw⟩

/-- The cells of a block that is held. -/
theorem cells_blk (i : Nat) {b off : Nat} {C : Array Value} {E : TypeId} {fz : Nat × Nat} {vs : List Value} (hi : L[i]? = some (blk b (.cells C E fz))) (hv : ∃ r, C.toList.drop off = vs ++ r) :
    ∀ w, St β L w → Cells w ⟨b, off, none⟩ vs := by
  intro w hw j v hj
  have hb := hw.inv i _ hi
  simp only [blk] at hb
  obtain ⟨r, hr⟩ := hv
  have hadd : (⟨b, off, none⟩ : Addr).add j = ⟨b, off + j, none⟩ := by unfold Addr.add; split <;> simp_all
  rw [hadd]
  simp only [World.cell?, hb, Option.isSome_none, Bool.false_eq_true, if_false]
  have : C.toList[off + j]? = some v := by
    rw [← List.getElem?_drop, hr, List.getElem?_append_left (by
      rcases Nat.lt_or_ge j vs.length with h | h
      · exact h
      · simp [List.getElem?_eq_none h] at hj)]
    exact hj
  simpa using this

theorem cells_at {w : World} (hw : St β L w) (i : Nat) {b off : Nat} {C : Array Value} {E : TypeId} {fz : Nat × Nat} {vs : List Value} (hi : L[i]? = some (blk b (.cells C E fz))) (hv : ∃ r, C.toList.drop off = vs ++ r) : Cells w ⟨b, off, none⟩ vs :=
  cells_blk i hi hv w hw

/-- Cells that lay there when the call began. -/
theorem cells_keepO {p : Addr} {vs : List Value} (hO : ¬ β.O p.block) (h : Cells β.w p vs) : ∀ w, St β L w → Cells w p vs := by
  intro w hw j v hj
  have h0 := h j v hj
  have he : (p.add j).block = p.block := by unfold Addr.add; split <;> rfl
  have hb : (p.add j).block < β.w.heap.size := by
    rcases Nat.lt_or_ge (p.add j).block β.w.heap.size with h | h
    · exact h
    · simp [World.cell?, Array.getElem?_eq_none h] at h0
  rw [World.cell?_of_block (w := β.w) (hw.fr _ hb (by rw [he]; exact hO))]; exact h0

def FieldAt (P : Program) (S f off : Nat) : Prop := ∃ fs F, P.underlying S = some (.struct fs) ∧ fs[f]? = some F ∧ F.offset = off ∧ ∃ n, (P.info? F.type).map (·.size) = some (n + 1)

theorem LO.fa {x : Operand} {S f off b o r : Nat} (hS : FieldAt P S f off) (hx : OV env x (.pointer (some ⟨b, o, none⟩))) (hr : o + off = r) : LO P β env L ⟨d, .fieldAddr S x f, ty, pos, aft, g⟩ (.pointer (some ⟨b, r, none⟩)) :=
  .of_run fun a w h hw => ⟨w, by
    obtain ⟨fs, F, hu, hf, ho, n, hz⟩ := hS
    have hadd : (⟨b, o, none⟩ : Addr).add off = ⟨b, r, none⟩ := by subst hr; unfold Addr.add; split <;> simp_all
    simp [execOp, h x (by simp [Op.operands]) _ hx, Instr.fieldAt, run_underlying hu, hf, Instr.sureAddr, fieldPlace, run_size hz, ho, hadd], hw⟩

def IsSlice (P : Program) (T E : Nat) : Prop := P.underlying T = some (.slice E)

theorem LO.len {T E : Nat} {x : Operand} {p : Option Addr} {n c : Nat} {aT : Array TypeId} (hT : IsSlice P T E) (hx : OV env x (.slice p n c)) (ha : aT[0]? = some T) : LO P β env L ⟨d, .call ⟨.builtin .len, #[x], aT⟩, ty, pos, aft, g⟩ (.int .i64 n) :=
  .of_run fun a w h hw => ⟨w, by simp [execOp, resolve, invoke, builtin, h x (by simp [Op.operands, Call.operands]) _ hx, Builtin.len_, ha, run_underlying hT, goInt], hw⟩

theorem LO.max {x y : Operand} {k : IntKind} {m n : Int} {aT : Array TypeId} (hx : OV env x (.int k m)) (hy : OV env y (.int k n)) : LO P β env L ⟨d, .call ⟨.builtin .max, #[x, y], aT⟩, ty, pos, aft, g⟩ (.int k (max m n)) :=
  .of_run fun a w h hw => ⟨w, by
    simp [execOp, resolve, invoke, builtin, h x (by simp [Op.operands, Call.operands]) _ hx, h y (by simp [Op.operands, Call.operands]) _ hy, Builtin.max_, Builtin.max2]
    omega, hw⟩
theorem LO.min {x y : Operand} {k : IntKind} {m n : Int} {aT : Array TypeId} (hx : OV env x (.int k m)) (hy : OV env y (.int k n)) : LO P β env L ⟨d, .call ⟨.builtin .min, #[x, y], aT⟩, ty, pos, aft, g⟩ (.int k (min m n)) :=
  .of_run fun a w h hw => ⟨w, by
    simp [execOp, resolve, invoke, builtin, h x (by simp [Op.operands, Call.operands]) _ hx, h y (by simp [Op.operands, Call.operands]) _ hy, Builtin.min_, Builtin.min2]
    omega, hw⟩

theorem LO.ix {x i : Operand} {T E z : Nat} {b o n c : Nat} {k : IntKind} {j : Nat} (hT : IsSlice P T E) (hz : (P.info? E).map (·.size) = some z) (hx : OV env x (.slice (some ⟨b, o, none⟩) n c)) (hi : OV env i (.int k j)) (hj : j < n) :
    LO P β env L ⟨d, .indexAddr T x i, ty, pos, aft, g⟩ (.pointer (some ⟨b, o + j * z, none⟩)) :=
  .of_run fun a w h hw => ⟨w, by
    have hadd : (⟨b, o, none⟩ : Addr).add (j * z) = ⟨b, o + j * z, none⟩ := by unfold Addr.add; split <;> simp_all
    simp [execOp, h x (by simp [Op.operands]) _ hx, h i (by simp [Op.operands]) _ hi, Instr.indexAt, asIntOf, run_underlying hT, run_size hz, hj, hadd], hw⟩

theorem LO.cv {x : Operand} {sT dT : Nat} {k k' : IntKind} {m r : Int} (hs : ∃ d, P.underlying sT = some d) (hd : P.underlying dT = some (.int k)) (hx : OV env x (.int k' m)) (hr : k.wrap m = r) : LO P β env L ⟨d, .convert sT dT x, ty, pos, aft, g⟩ (.int k r) :=
  .of_run fun a w h hw => ⟨w, by
    obtain ⟨e, he⟩ := hs
    simp [execOp, h x (by simp [Op.operands]) _ hx, convert, run_underlying he, run_underlying hd, Conv.intToInt, hr], hw⟩

theorem LO.ex {x : Operand} {i : Nat} {vs : Array Value} {v : Value} (hx : OV env x (.tuple vs)) (hv : vs[i]? = some v) : LO P β env L ⟨d, .extract x i, ty, pos, aft, g⟩ v :=
  .of_run fun a w h hw => ⟨w, by simp [execOp, h x (by simp [Op.operands]) _ hx, Instr.extract, hv], hw⟩

/-! ### Slices that are read -/
def pb (p : Option Addr) : Nat := match p with | some a => a.block | none => 0
def po (p : Option Addr) : Nat := match p with | some a => a.off | none => 0

/-- From 'p' on lie rows of 'z' cells each. -/
structure Rows (w : World) (z : Nat) (p : Option Addr) (rows : List (List Value)) : Prop where
  cells : ∀ (j : Nat) (r : List Value), rows[j]? = some r → Cells w ⟨pb p, po p + j * z, none⟩ r
  nil : p = none → rows = []
  spot : rows ≠ [] → ∀ a, p = some a → a.spot = none

def SlSome (p : Option Addr) (n : Nat) : Prop := 0 < n → p = some ⟨pb p, po p, none⟩
theorem Rows.some {w : World} {z : Nat} {p : Option Addr} {rows : List (List Value)} (h : Rows w z p rows) {n : Nat} (hn : n = rows.length) : SlSome p n := by
  intro h0
  cases p with
  | none => have := h.nil rfl; simp [this] at hn; omega
  | some a => have := h.spot (fun q => by rw [q] at hn; simp at hn; omega) a rfl; cases a; simp_all [pb, po]

theorem cells_keep {w0 : World} {p : Addr} {vs : List Value} (h : Cells w0 p vs) : ∀ w, St (bs w0) L w → Cells w p vs := cells_keepO (β := bs w0) (fun f => f) h

theorem Rows.keep {w0 : World} {z : Nat} {p : Option Addr} {rows : List (List Value)} (h : Rows w0 z p rows) : ∀ w, St (bs w0) L w → Rows w z p rows :=
  fun w hw => ⟨fun j r hr => cells_keep (h.cells j r hr) w hw, h.nil, h.spot⟩

theorem LO.ixs {x i : Operand} {T E z : Nat} {p : Option Addr} {n c j : Nat} {k : IntKind} {e : Int} (hT : IsSlice P T E) (hz : (P.info? E).map (·.size) = some z) (hs : SlSome p n) (hx : OV env x (.slice p n c)) (hi : OV env i (.int k e)) (he : e = (j : Int)) (hj : j < n) :
    LO P β env L ⟨d, .indexAddr T x i, ty, pos, aft, g⟩ (.pointer (some ⟨pb p, po p + j * z, none⟩)) := by
  subst he
  rw [hs (by omega)] at hx
  exact LO.ix hT hz hx hi hj

def Ints (w : World) (p : Option Addr) (l : List Int) : Prop := Rows w 1 p (l.map fun n => [.int .i64 n])
theorem Ints.some {w : World} {p : Option Addr} {l : List Int} (h : Ints w p l) : SlSome p l.length := Rows.some h (by simp)
theorem Ints.keep {w0 : World} {p : Option Addr} {l : List Int} (h : Ints w0 p l) : ∀ w, St (bs w0) L w → Ints w p l := Rows.keep h
theorem Ints.at {w0 : World} {p : Option Addr} {l : List Int} (h : Ints w0 p l) {j : Nat} (hj : j < l.length) : ∀ w, St (bs w0) L w → Cells w ⟨pb p, po p + j * 1, none⟩ [.int .i64 (l.getD j 0)] :=
  fun w hw => (h.keep w hw).cells j _ (by simp [List.getElem?_eq_getElem hj, List.getD])

theorem wi {e : Int} (h1 : -9223372036854775808 ≤ e) (h2 : e ≤ 9223372036854775807) : IntKind.wrap .i64 e = e := IntWalk.i64_in _ ⟨h1, h2⟩

/-! ### Calls -/
def IsFn (P : Program) (f : FuncId) : Prop := ∃ fn, P.funcs[f]? = some fn ∧ (fn.name == "runtime.NumGoroutine") = false ∧ fn.body.isNone = false

theorem run_call {f : FuncId} (h : IsFn P f) (args : Array Value) (w : World) : (callFunc f args).run P w = .ok (.enter f args) w := by
  obtain ⟨fn, hf, hn, hb⟩ := h
  simp only [callFunc, Sem.run_bind, run_program, Result.andThen_ok, hf, hn, hb, Bool.false_eq_true, if_false, Sem.run_pure]

/-- What the operands hold, one by one. -/
def OVs (env : Env) : List Operand → List Value → Prop
  | [], [] => True
  | x :: xs, v :: vs => OV env x v ∧ OVs env xs vs
  | _, _ => False

theorem OVs.map {a : Act} : ∀ {xs : List Operand} {vs : List Value}, OVs env xs vs → (∀ x, x ∈ xs → ∀ u, OV env x u → a.eval x = u) → xs.map a.eval = vs
  | [], [], _, _ => rfl
  | x :: xs, v :: vs, h, k => by simp [k x (by simp) v h.1, OVs.map h.2 (fun y hy => k y (by simp [hy]))]
  | [], _ :: _, h, _ => h.elim
  | _ :: _, [], h, _ => h.elim

/-- A call whose result is 'v' and that leaves nothing that we want. -/
theorem LO.call {f : FuncId} {xs : List Operand} {vs : List Value} {aT : Array TypeId} {v : Value} (hf : IsFn P f) (hx : OVs env xs vs)
    (hc : ∀ w, St β L w → Calls P f vs.toArray w fun e w' => e = .returned v ∧ St (bs w) [] w') : LO P β env L ⟨d, .call ⟨.value (.func f), xs.toArray, aT⟩, ty, pos, aft, g⟩ v := by
  intro a w h hw
  refine .inr ⟨f, vs.toArray, ?_, ?_⟩
  · have hm : xs.map a.eval = vs := hx.map fun x hm u hu => by obtain ⟨u', hu', e⟩ := hu; subst e; exact h x (by simp [Op.operands, Call.operands, hm]) u' hu'
    simp [execOp, resolve, Act.eval, Deferred.ofValue, invoke, run_call hf, hm]
  · exact (hc w hw).mono fun e w' ⟨he, hs⟩ => ⟨he, by simpa using hw.call hs⟩

/-- The same through a function value. -/
theorem LO.callv {f : FuncId} {fx : Operand} {xs : List Operand} {vs first cap : List Value} {aT : Array TypeId} {v : Value} (hfx : OV env fx (.func (.func f) first.toArray cap.toArray)) (hf : IsFn P f) (hx : OVs env xs vs)
    (hc : ∀ w, St β L w → Calls P f (first ++ vs ++ cap).toArray w fun e w' => e = .returned v ∧ St (bs w) [] w') : LO P β env L ⟨d, .call ⟨.value fx, xs.toArray, aT⟩, ty, pos, aft, g⟩ v := by
  intro a w h hw
  refine .inr ⟨f, (first ++ vs ++ cap).toArray, ?_, ?_⟩
  · have hm : xs.map a.eval = vs := hx.map fun x hm u hu => by obtain ⟨u', hu', e⟩ := hu; subst e; exact h x (by simp [Op.operands, Call.operands, hm]) u' hu'
    have hfe : a.eval fx = .func (.func f) first.toArray cap.toArray := by obtain ⟨u', hu', e⟩ := hfx; subst e; exact h fx (by simp [Op.operands, Call.operands]) _ hu'
    simp [execOp, resolve, hfe, Deferred.ofValue, invoke, run_call hf, hm]
  · exact (hc w hw).mono fun e w' ⟨he, hs⟩ => ⟨he, by simpa using hw.call hs⟩

/-- A part of a struct's or an array's value. -/
theorem LO.fd {x : Operand} {S f off n : Nat} {C : Array Value} {vs : List Value} {fs : Array Field} {F : Field} (hS : P.underlying S = some (.struct fs)) (hF : fs[f]? = some F) (ho : F.offset = off) (hT : IsAgg P F.type n) (hx : OV env x (.agg C)) (hv : (C.extract off (off + n)).toList = vs) : LO P β env L ⟨d, .field S x f, ty, pos, aft, g⟩ (.agg vs.toArray) :=
  .of_run fun a w h hw => ⟨w, by
    have he : C.extract off (off + n) = vs.toArray := by rw [← hv]
    simp [execOp, h x (by simp [Op.operands]) _ hx, Instr.field, run_underlying hS, hF, asAgg, part, run_isAgg hT, run_size hT.2, ho, he], hw⟩

theorem pairs_eq {α : Type} {f : α → Value} : ∀ {ps : List (Nat × α)} {vs : List (Nat × Value)}, ps.map (·.1) = vs.map (·.1) → ps.map (fun p => f p.2) = vs.map (·.2) → ps.map (fun p => (p.1, f p.2)) = vs
  | [], [], _, _ => rfl
  | [], _ :: _, h, _ => by simp at h
  | _ :: _, [], h, _ => by simp at h
  | p :: ps, v :: vs, h, k => by
    simp only [List.map_cons, List.cons.injEq] at h k ⊢
    exact ⟨by rw [h.1, k.1], pairs_eq h.2 k.2⟩

/-- Parts laid into a row of cells. -/
def FL (PL : List (Nat × Nat)) : List Value → List (Nat × Value) → List Value → Prop
  | C, [], C' => C = C'
  | C, (i, v) :: r, C' => ∃ (off : Nat) (vs C1 : List Value), PL[i]? = some (off, vs.length) ∧ v.cells = vs.toArray ∧ Nat.ble (off + vs.length) C.length = true ∧ C.take off ++ vs ++ C.drop (off + vs.length) = C1 ∧ FL PL C1 r C'

theorem set_fold : ∀ (vs : List Value) (off k : Nat) (C : Array Value), off + k + vs.length ≤ C.size →
    (vs.zipIdx k).foldl (fun cs (x : Value × Nat) => cs.setIfInBounds (off + x.2) x.1) C = (C.toList.take (off + k) ++ vs ++ C.toList.drop (off + k + vs.length)).toArray
  | [], off, k, C, _ => by simp
  | v :: vs, off, k, C, h => by
    simp only [List.length_cons] at h
    simp only [List.zipIdx_cons, List.foldl_cons]
    rw [set_fold vs off (k + 1) _ (by simp; omega)]
    congr 1
    have e := list_seg_step C.toList (off + k) v vs (by simp; omega)
    simpa [Array.toList_setIfInBounds, Nat.add_assoc, Nat.add_comm 1] using e

theorem FL.fill {PL : List (Nat × Nat)} : ∀ {ps : List (Nat × Value)} {C C' : List Value}, FL PL C ps C' → Instr.fill (PL[·]?) C.toArray ps = some C'.toArray
  | [], C, C', h => by simp only [FL] at h; subst h; rfl
  | (i, v) :: r, C, C', ⟨off, vs, C1, h1, h2, h3, h4, h5⟩ => by
    have h3' := Nat.le_of_ble_eq_true h3
    have ih := FL.fill h5
    simp only [Instr.fill, h1, h2]
    have hc : (vs.toArray.size ≠ vs.length || off + vs.toArray.size > C.toArray.size) = false := by simp; omega
    simp only [List.size_toArray] at hc ⊢
    simp only [hc, Bool.false_eq_true, if_false]
    rw [← ih, ← h4]
    congr 1
    have := set_fold vs off 0 C.toArray (by simpa using h3')
    simp only [Nat.add_zero] at this
    rw [← this]
    rw [← Array.foldl_toList, Array.toList_zipIdx]

def Builds (P : Program) (T : Nat) (PL : List (Nat × Nat)) (Z : List Value) : Prop := ∀ ps, P.built T ps = Instr.fill (PL[·]?) Z.toArray ps

/-- A struct or an array out of its parts. -/
theorem LO.bd {T : Nat} {PL : List (Nat × Nat)} {Z : List Value} {ps : List (Nat × Operand)} {vs : List (Nat × Value)} {C : List Value} (hB : Builds P T PL Z) (hps : OVs env (ps.map (·.2)) (vs.map (·.2))) (hix : ps.map (·.1) = vs.map (·.1)) (hb : FL PL Z vs C) : LO P β env L ⟨d, .build T ps.toArray, ty, pos, aft, g⟩ (.agg C.toArray) :=
  .of_run fun a w h hw => ⟨w, by
    have h2 := OVs.map (a := a) hps (fun x hm u hu => h x (by
      obtain ⟨p, hp, e⟩ := List.mem_map.1 hm
      simp only [Op.operands]
      subst e
      simpa using ⟨p.1, hp⟩) u hu)
    rw [List.map_map] at h2
    have hm : (ps.map fun p => (p.1, a.eval p.2)) = vs := pairs_eq hix h2
    have hb' := run_build (P := P) w T vs.toArray C.toArray (by rw [hB]; exact hb.fill)
    rw [← hm] at hb'
    simp only [execOp, Sem.run_bind]
    rw [show (ps.toArray.map fun (i, x) => (i, a.eval x)) = (ps.map fun p => (p.1, a.eval p.2)).toArray by simp]
    simp [hb'], hw⟩

/-! ### A call's beginning and end -/
def envOf : Nat → List Value → Env
  | _, [] => []
  | k, v :: vs => (k, v) :: envOf (k + 1) vs

theorem ev1_envOf : ∀ (vs : List Value) (k i : Nat) (v : Value), ev1 (envOf k vs) i = some v → k ≤ i ∧ vs[i - k]? = some v
  | [], k, i, v, h => by simp [envOf, ev1] at h
  | u :: us, k, i, v, h => by
    by_cases e : i = k
    · subst e
      rw [envOf, ev1_cons_eq] at h
      cases h
      exact ⟨Nat.le_refl _, by simp⟩
    · rw [envOf, ev1_cons_ne e] at h
      obtain ⟨h1, h2⟩ := ev1_envOf us (k + 1) i v h
      refine ⟨by omega, ?_⟩
      rw [show i - k = (i - (k + 1)) + 1 by omega]
      simpa using h2

/-- What a body must come to. -/
def FP (P : Program) (fn : Func) (R : Ending → World → Prop) : Exit → Act → World → Prop := bodyPostM (Wf none) 0 P fn R

theorem enterO {P : Program} {β : Bs} {L : List Res} {f : FuncId} {fn : Func} {c : Code} {vs : List Value} {env : Env} {w : World} {N : Nat} {R : Ending → World → Prop} (hw : St β L w) (hf : P.funcs[f]? = some fn) (hb : fn.body = some c) (hN : fn.ntmps = N)
    (hle : Nat.ble vs.length N = true) (hE : envOf 0 vs = env) (h : VC P none β N [] env L c (FP P fn R)) : Calls P f vs.toArray w R := by
  refine (callsIn_wf (ro := none) (n := 0)).1 (callsIn_of_wp_marks (F := Wf none) (n := 0) hf hb True.intro (h _ w ⟨?_, rfl, ?_⟩ hw))
  · have := Nat.le_of_ble_eq_true hle
    simp [hN]; omega
  · intro i v hi
    subst hE
    obtain ⟨_, h2⟩ := ev1_envOf vs 0 i v hi
    simp only [Nat.sub_zero] at h2
    rw [Array.getElem?_append_left (by
      rcases Nat.lt_or_ge i vs.length with h | h
      · simpa using h
      · simp [List.getElem?_eq_none h] at h2)]
    simpa using h2

theorem enter {P : Program} {f : FuncId} {fn : Func} {c : Code} {vs : List Value} {env : Env} {w : World} {N : Nat} {R : Ending → World → Prop} (hf : P.funcs[f]? = some fn) (hb : fn.body = some c) (hN : fn.ntmps = N)
    (hle : Nat.ble vs.length N = true) (hE : envOf 0 vs = env) (h : VC P none (bs w) N [] env [] c (FP P fn R)) : Calls P f vs.toArray w R := enterO (St.refl w) hf hb hN hle hE h

def RV (P : Program) (β : Bs) (L : List Res) (env : Env) : ResultVar → Value → Prop
  | .tmp t, v => ev1 env t = some v
  | .cell a T, v => ∃ p, ev1 env a = some (.pointer (some p)) ∧ ∀ w, St β L w → (loadVar T p).run P w = .ok v w

theorem RV.agg {a T n b : Nat} {vs : List Value} (hT : IsAgg P T n) (ha : ev1 env a = some (.pointer (some ⟨b, 0, none⟩))) (hc : ∀ w, St β L w → Cells w ⟨b, 0, none⟩ vs) (hn : Nat.beq vs.length n = true) : RV P β L env (.cell a T) (.agg vs.toArray) :=
  ⟨_, ha, fun w hw => run_loadAgg hT (Nat.eq_of_beq_eq_true hn) (hc w hw)⟩
theorem RV.one {a T b : Nat} {v : Value} (hT : IsOne P T) (ha : ev1 env a = some (.pointer (some ⟨b, 0, none⟩))) (hc : ∀ w, St β L w → Cells w ⟨b, 0, none⟩ [v]) : RV P β L env (.cell a T) v :=
  ⟨_, ha, fun w hw => run_loadOne hT (hc w hw)⟩

def RVs (P : Program) (β : Bs) (L : List Res) (env : Env) : List ResultVar → List Value → Prop
  | [], [] => True
  | x :: xs, v :: vs => RV P β L env x v ∧ RVs P β L env xs vs
  | _, _ => False

def rvg (tmps : Array Value) : ResultVar → Sem Value
  | .tmp t => pure (tmps.getD t undef)
  | .cell b T => do loadVar T (← asAddr (tmps.getD b undef))

theorem RVs.run {a : Act} {w : World} (ha : Ag N ds env a) (hw : St β L w) : ∀ {xs : List ResultVar} {vs : List Value}, RVs P β L env xs vs → (xs.mapM (rvg a.tmps)).run P w = .ok vs w
  | [], [], _ => by simp
  | x :: xs, v :: vs, h => by
    have h1 : (rvg a.tmps x).run P w = .ok v w := by
      cases x with
      | tmp t => have ht := ha.get t v h.1; simp [rvg, ht]
      | cell b T =>
        obtain ⟨p, hp, hl⟩ := h.1
        have ht := ha.get b _ hp
        simp [rvg, ht, asAddr, hl w hw]
    rw [List.mapM_cons]
    simp only [Sem.run_bind, h1, Result.andThen_ok, RVs.run ha hw h.2, Sem.run_pure]
  | [], _ :: _, h => h.elim
  | _ :: _, [], h => h.elim

def resV : List Value → Value
  | [v] => v
  | vs => .tuple vs.toArray

theorem run_results {fn : Func} {a : Act} {w : World} {xs : List ResultVar} {vs : List Value} (hr : fn.results = xs.toArray) (ha : Ag N ds env a) (hw : St β L w) (h : RVs P β L env xs vs) : (results fn a.tmps).run P w = .ok (resV vs) w := by
  have := RVs.run ha hw h
  have e : results fn a.tmps = (do let vs ← fn.results.mapM (rvg a.tmps); pure (if h : vs.size = 1 then vs[0] else .tuple vs)) := rfl
  rw [e, hr]
  simp only [Sem.run_bind, List.mapM_toArray, Sem.run_map, this, Result.andThen_ok, Sem.run_pure]
  congr 1
  match vs with
  | [] => rfl
  | [v] => rfl
  | _ :: _ :: _ => simp [resV]

theorem VE.res {fn : Func} {R : Ending → World → Prop} {xs : List ResultVar} {vs : List Value} (hr : fn.results = xs.toArray) (h : RVs P β L env xs vs) (k : ∀ w, St β L w → R (.returned (resV vs)) w) : VE β N [] env L .ret (FP P fn R) :=
  fun a w ha hw => by
    show LeavesInM (Wf none) 0 P fn a.tmps R a.defers .returning w
    rw [ha.dfr]
    exact ⟨_, run_results hr ha hw h, k w hw⟩
theorem VE.resN {fn : Func} {R : Ending → World → Prop} {xs : List ResultVar} {vs : List Value} (hr : fn.results = xs.toArray) (h : RVs P β L env xs vs) (k : ∀ w, St β L w → R (.returned (resV vs)) w) : VE β N [] env L .normal (FP P fn R) :=
  fun a w ha hw => by
    show LeavesInM (Wf none) 0 P fn a.tmps R a.defers .returning w
    rw [ha.dfr]
    exact ⟨_, run_results hr ha hw h, k w hw⟩

/-! ### Operations that make or write memory -/
def HO (P : Program) (β : Bs) (env : Env) (L : List Res) (o : Oper) (K : Value → List Res → Prop) : Prop :=
  ∀ (a : Act) (w : World), (∀ x, x ∈ o.op.operands → ∀ u, ev env x = some u → a.eval x = u) → St β L w →
    (∃ nx w' v L', (execOp a.eval o).run P w = .ok nx w' ∧ (nx = .value v ∨ (nx = .skip ∧ v = undef)) ∧ K v L' ∧ St β L' w') ∨
    (∃ f args, (execOp a.eval o).run P w = .ok (.enter f args) w ∧ Calls P f args w fun e w' => ∃ v L', e = .returned v ∧ K v L' ∧ St β L' w') ∨
    (∃ l f tmps as_ bd, (execOp a.eval o).run P w = .ok (.round l f tmps as_ bd) w ∧ RoundIn Fence.wide 0 P l f tmps as_ bd w fun e w' => ∃ v L', e = .returned v ∧ K v L' ∧ St β L' w')

theorem HO.wp {o : Oper} {a : Act} {w : World} {K : Value → List Res → Prop} {K' : Act → World → Prop} (h : HO P β env L o K) (hx : ∀ x, x ∈ o.op.operands → ∀ u, ev env x = some u → a.eval x = u) (hw : St β L w)
    (k : ∀ v L' w', K v L' → St β L' w' → K' (a.put o.dst v) w') : o.wpIn (Wf ro) 0 P a w K' Q := by
  refine ⟨fun _ _ => True.intro, ?_⟩
  rcases h a w hx hw with ⟨nx, w', v, L', hr, hn, hk, hs⟩ | ⟨f, args, hr, hc⟩ | ⟨l, f, tmps, as_, bd, hr, hc⟩
  · rcases hn with rfl | ⟨rfl, rfl⟩
    · have e : (o.semAt (Wf ro).round a.eval).run P w = .ok (.value v) w' := semAt_run hr (by simp)
      rw [e]; exact k _ _ _ hk hs
    · have e : (o.semAt (Wf ro).round a.eval).run P w = .ok .skip w' := semAt_run hr (by simp)
      rw [e]; exact k _ _ _ hk hs
  · have e : (o.semAt (Wf ro).round a.eval).run P w = .ok (.enter f args) w := semAt_run hr (by simp)
    rw [e]
    refine ⟨fun h => by simp [Wf, Fence.wide] at h, callsIn_wf.2 (hc.mono ?_)⟩
    rintro e w' ⟨v, L', rfl, hk, hs⟩
    exact k _ _ _ hk hs
  · have e : (o.semAt (Wf ro).round a.eval).run P w = .ok (.round l f tmps as_ bd) w := semAt_run hr (by simp)
    rw [e]
    refine ⟨fun h => by simp [Wf, Fence.wide] at h, RoundIn.mono (F := Wf ro) (n := 0) (by exact hc) ?_⟩
    rintro e w' ⟨v, L', rfl, hk, hs⟩
    exact k _ _ _ hk hs

theorem VO.h {ops : Array Oper} {d : Nat} {op : Op} {ty : TypeId} {pos : String} {aft : Array Edge} {rest : List Oper} (hd : Nat.blt d N = true) (h : HO P β env L ⟨some d, op, ty, pos, aft, none⟩ fun v L' => VO P ro β N ds ops ((d, v) :: env) L' rest Q) :
    VO P ro β N ds ops env L (⟨some d, op, ty, pos, aft, none⟩ :: rest) Q := by
  intro a w ha hw
  refine wpListIn_plain rfl fun K hK => ?_
  exact h.wp (fun x _ u hu => ha.eval hu) hw fun v L' w' hk hs => hK _ _ (hk _ w' (ha.put (Nat.le_of_ble_eq_true hd) v) hs)

theorem VO.h0 {ops : Array Oper} {op : Op} {ty : TypeId} {pos : String} {aft : Array Edge} {rest : List Oper} (h : HO P β env L ⟨none, op, ty, pos, aft, none⟩ fun v L' => VO P ro β N ds ops env L' rest Q) :
    VO P ro β N ds ops env L (⟨none, op, ty, pos, aft, none⟩ :: rest) Q := by
  intro a w ha hw
  refine wpListIn_plain rfl fun K hK => ?_
  exact h.wp (fun x _ u hu => ha.eval hu) hw fun v L' w' hk hs => hK _ _ (hk _ w' ha hs)

section
variable {K : Value → List Res → Prop} {dd : Option Nat}

theorem HO.lo {o : Oper} {v : Value} (h : LO P β env L o v) (k : K v L) : HO P β env L o K := by
  intro a w hx hw
  rcases h a w hx hw with ⟨w', hr, hs⟩ | ⟨f, args, hr, hc⟩
  · exact .inl ⟨_, w', v, L, hr, .inl rfl, k, hs⟩
  · exact .inr (.inl ⟨f, args, hr, hc.mono fun e w' ⟨he, hs⟩ => ⟨v, L, he, k, hs⟩⟩)

theorem HO.box {x : Operand} {T : Nat} {v : Value} {C : Array Value} (hx : ev env x = some v) (hC : v.cells = C)
    (k : ∀ b, K (.pointer (some ⟨b, 0, none⟩)) (blk b (.cells C T) :: L)) : HO P β env L ⟨dd, .box T x, ty, pos, aft, none⟩ K := by
  intro a w h hw
  refine .inl ⟨_, w.alloc (.cells C T), _, _, ?_, .inl rfl, k w.heap.size, hw.alloc _⟩
  simp [execOp, h x (by simp [Op.operands]) v hx, Instr.box, newVar, newRow, hC]

def ZeroOf (P : Program) (T : Nat) (z : Value) : Prop := (P.info? T).bind (·.zero) = some z

theorem run_zero {T : Nat} {z : Value} (hz : ZeroOf P T z) (w : World) : (zeroValue T).run P w = .ok z w := by
  unfold ZeroOf at hz
  cases hq : P.info? T with
  | none => simp [hq] at hz
  | some i =>
    have hz' : i.zero = some z := by simpa [hq] using hz
    simp [zeroValue, typeInfo, hq, hz']

theorem HO.alloc {T : Nat} {z : Value} {C : Array Value} (hz : ZeroOf P T z) (hC : z.cells = C)
    (k : ∀ b, K (.pointer (some ⟨b, 0, none⟩)) (blk b (.cells C T) :: L)) : HO P β env L ⟨dd, .alloc T, ty, pos, aft, none⟩ K := by
  intro a w h hw
  refine .inl ⟨_, w.alloc (.cells C T), _, _, ?_, .inl rfl, k w.heap.size, hw.alloc _⟩
  simp [execOp, Instr.alloc, run_zero hz, newVar, newRow, hC]

theorem run_store_blk {w : World} {T b o : Nat} {C : Array Value} {E : TypeId} {v : Value} {vs : List Value} (hT : (P.info? T).map (·.size) = some vs.length) (hv : v.cells = vs.toArray) (hb : w.heap[b]? = some (.cells C E (0, 0))) (hfit : o + vs.length ≤ C.size)
    (h1 : ∀ u ∈ vs, u.oneCell' = true) : (storeVar T ⟨b, o, none⟩ v).run P w = .ok () (w.setRow b (C.toList.take o ++ vs ++ C.toList.drop (o + vs.length)).toArray) := by
  have := run_storeCells_at P b o E vs 0 C w hb (by simpa using hfit) h1
  simp only [Nat.add_zero] at this
  simp [storeVar, hv, run_size hT, this]

def allOne : List Value → Bool
  | [] => true
  | v :: vs => v.oneCell' && allOne vs
theorem allOne_spec : ∀ {vs : List Value}, allOne vs = true → ∀ u ∈ vs, u.oneCell' = true
  | [], _, u, hu => by simp at hu
  | v :: vs, h, u, hu => by
    simp only [allOne, Bool.and_eq_true] at h
    rcases List.mem_cons.1 hu with rfl | hu
    · exact h.1
    · exact allOne_spec h.2 u hu

theorem St.setRow {w : World} {i b : Nat} {C C' : Array Value} {E : TypeId} (hw : St β L w) (hi : L[i]? = some (blk b (.cells C E))) : St β (L.set i (blk b (.cells C' E))) (w.setRow b C') := by
  have hb : w.heap[b]? = some (.cells C E (0, 0)) := hw.inv i _ hi
  refine hw.upd (o' := .cells C' E) hi rfl ?_ ?_ ?_ rfl rfl rfl
  · exact setRow_heap w b C C' E (0, 0) hb
  · intro k hk
    simp only [World.setRow, Array.getElem?_modify]
    rw [if_neg (by omega)]
  · simp [World.setRow]

theorem HO.st (i : Nat) {x y : Operand} {T b o : Nat} {C : Array Value} {E : TypeId} {v : Value} {vs C' : List Value} {L' : List Res} (hT : (P.info? T).map (·.size) = some vs.length) (hx : ev env x = some (.pointer (some ⟨b, o, none⟩))) (hy : ev env y = some v)
    (hi : L[i]? = some (blk b (.cells C E))) (hv : v.cells = vs.toArray) (hfit : Nat.ble (o + vs.length) C.size = true) (h1 : allOne vs = true)
    (hC : C.toList.take o ++ vs ++ C.toList.drop (o + vs.length) = C') (hL : L.set i (blk b (.cells C'.toArray E)) = L')
    (k : K undef L') : HO P β env L ⟨dd, .store T x y, ty, pos, aft, none⟩ K := by
  intro a w h hw
  have hb : w.heap[b]? = some (.cells C E (0, 0)) := hw.inv i _ hi
  have hrun := run_store_blk (P := P) hT hv hb (Nat.le_of_ble_eq_true hfit) (allOne_spec h1)
  refine .inl ⟨.skip, w.setRow b (C.toList.take o ++ vs ++ C.toList.drop (o + vs.length)).toArray, undef, L', ?_, .inr ⟨rfl, rfl⟩, k, ?_⟩
  · simp only [execOp, h x (by simp [Op.operands]) _ hx, h y (by simp [Op.operands]) _ hy, Instr.storeAt, Instr.sureAddr, Sem.run_bind, Sem.run_pure, Result.andThen_ok, hrun]
  · rw [hC, ← hL]
    exact hw.setRow hi

/-- A call that leaves resources: 'post v R' says what they are. -/
theorem HO.call {f : FuncId} {xs : List Operand} {vs : List Value} {aT : Array TypeId} {post : Value → List Res → Prop} (hf : IsFn P f) (hx : OVs env xs vs)
    (hc : ∀ w, St β L w → Calls P f vs.toArray w fun e w' => ∃ v R, e = .returned v ∧ post v R ∧ St (bs w) R w') (k : ∀ v R, post v R → K v (R ++ L)) : HO P β env L ⟨dd, .call ⟨.value (.func f), xs.toArray, aT⟩, ty, pos, aft, none⟩ K := by
  intro a w h hw
  refine .inr (.inl ⟨f, vs.toArray, ?_, ?_⟩)
  · have hm : xs.map a.eval = vs := hx.map fun x hm u hu => by obtain ⟨u', hu', e⟩ := hu; subst e; exact h x (by simp [Op.operands, Call.operands, hm]) u' hu'
    simp [execOp, resolve, Act.eval, Deferred.ofValue, invoke, run_call hf, hm]
  · exact (hc w hw).mono fun e w' ⟨v, R, he, hp, hs⟩ => ⟨v, R ++ L, he, k v R hp, hw.call hs⟩
end
end
end Go.SL
