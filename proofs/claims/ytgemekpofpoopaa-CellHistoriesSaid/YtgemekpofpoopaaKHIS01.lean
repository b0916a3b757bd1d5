/-
  The data of layer 9 and what its functions come to, in plain words: no program stands in this text.
  The first walks: small functions of beam and cast.
  Guards whose truth is known: an operation that is left out, or runs as if it had no guard. Resources in another order.
  Structs and arrays of ints, nested as they may be: equal, or not. The rest of a power of 2 by a mask.
  The document's checks of grids, flows and clouds.
  Fields, and what contradicts them.
  A drawn region in which new blocks are laid whose order is open: each at any time ahead of what needs it.
  A drawn region whose heavy operations stand in an order that is partly open: each of their orders is walked.
  append of several elements: what is appended lies anywhere (own, old, or in part of what is appended to).
  From what a statement reads of its arguments to what a walk asks, and from a walk's end to what the statement says. No program stands in this text.
  A slice of a slice, from a number on.
  Arrays of two ints are equal, or not.
  Rows that are read, of what a function encodes.
  Rows of rows: a slice that is owned, whose elements are slices that are owned, too.
  Resources in any order, bags of resources that lie apart, and calls that are handed several of them. No program stands in this text.
  Stores into a slice that is owned, and values of interfaces. No program stands in this text.
  The rest of an owned slice is cleared; calls that are handed resources from anywhere. No program stands in this text.
  Slices that are made, shifts and lowest bits. No program stands in this text.
  copy into a block that the call owns, and slices of one that is made.
  Parts of sets of pixels: plain.
  Parts of sets of pixels: their first pixels, parts within parts.
  Resources in another order, ahead of a tail that stays.
-/
import Derived.Test.YtgemekpofpoopaaKHIS00
import Derived.Test.YtgemekpofpoopaaChecked
import Derived.ChangeKeysEq
import Derived.ProofKit
import Derived.OpenShut
import Derived.Carry
import Derived.ChangeCalls
import Derived.JoinedOf
import Derived.Laws.CopyRow

set_option linter.unusedSimpArgs false
namespace Go.Cast

structure Grid where
  x : Int
  y : Int
  size : Int
  wide : Int
  high : Int

structure Flow where
  a : Int
  b : Int
  c : Int
  d : Int
  deriving DecidableEq

structure Cloud where
  sure : List Int
  may : List Int
  flow : Flow
  grow : Int

def gridOk (g : Grid) : Prop := (-1048576 ≤ g.x ∧ g.x ≤ 1048576) ∧ (-1048576 ≤ g.y ∧ g.y ≤ 1048576) ∧ (1 ≤ g.size ∧ g.size ≤ 10000) ∧ (1 ≤ g.wide ∧ g.wide ≤ 64) ∧ (1 ≤ g.high ∧ g.high ≤ 64)
instance (g : Grid) : Decidable (gridOk g) := by unfold gridOk; exact inferInstance
def flowOk (f : Flow) : Prop := (-100000 ≤ f.a ∧ f.a ≤ f.b ∧ f.b ≤ 100000) ∧ (-100000 ≤ f.c ∧ f.c ≤ f.d ∧ f.d ≤ 100000)
instance (f : Flow) : Decidable (flowOk f) := by unfold flowOk; exact inferInstance
def gridE (g : Grid) : Int := if gridOk g then 0 else 3
/-- The first that is not 0. -/
def firstE (f : Nat → Int) : Nat → Int
  | 0 => 0
  | n + 1 => if firstE f n ≠ 0 then firstE f n else f n
theorem firstE_zero {f : Nat → Int} : ∀ {n : Nat}, (∀ k, k < n → f k = 0) → firstE f n = 0
  | 0,_ => rfl
  | n + 1, h => by
    have := firstE_zero (f := f) (n := n) (fun k hk => h k (by omega))
    simp [firstE, this, h n (by omega)]
theorem firstE_at {f : Nat → Int} {i : Nat} (h : ∀ k, k < i → f k = 0) (hi : f i ≠ 0) : ∀ {n : Nat}, i < n → firstE f n = f i
  | 0, hn => by omega
  | n + 1, hn => by
    by_cases e : i = n
    · subst e; simp [firstE, firstE_zero h]
    · have := firstE_at h hi (n := n) (by omega)
      simp [firstE, this, hi]
theorem firstE_eq {f : Nat → Int} : ∀ {n : Nat}, firstE f n = 0 → ∀ k, k < n → f k = 0
  | 0,_, k, hk => by omega
  | n + 1, h, k, hk => by
    unfold firstE at h
    split at h
    · rename_i q; exact absurd h q
    · rename_i q
      simp only [ne_eq, Classical.not_not] at q
      by_cases e : k = n
      · subst e; exact h
      · exact firstE_eq q k (by omega)

def memB (l : List Int) (n : Int) : Bool := decide (n ∈ l)

/-- The quotient, rounded down, is no greater than the greatest number is. -/
theorem gridOk_of {g : Grid} (h : ¬ gridE g ≠ 0) : gridOk g := by
  unfold gridE at h
  by_cases q : gridOk g
  · exact q
  · simp [q] at h
theorem area_bd {g : Grid} (h : gridOk g) : 1 ≤ g.wide * g.high ∧ g.wide * g.high ≤ 4096 := by
  obtain ⟨_,_,_, ⟨h1, h2⟩, h3, h4⟩ := h
  constructor
  · have := Int.mul_le_mul h1 h3 (by omega) (by omega); omega
  · have := Int.mul_le_mul h2 h4 (by omega) (by omega); omega

theorem step_zero {f : Nat → Int} {j : Nat} (hz : ∀ k, k < j → f k = 0) (h : f j = 0) : ∀ k, k < j + 1 → f k = 0 := by
  intro k hk
  rcases Nat.lt_or_ge k j with q | q
  · exact hz k q
  · have : k = j := by omega
    subst this; exact h
section
variable {g : Grid} {c : Cloud}
end

end Go.Cast

namespace Go.Proofs.Ytgemekpofpoopaa
open Go.SL Go.Proofs Go.Cast Go.Cell
set_option linter.unusedVariables false

theorem F23_0 : FieldAt Try.prog 23 0 0 := ⟨_,_, Try.underlying23, rfl, rfl, 0, by kernel_rfl⟩
theorem O3 : IsOne Try.prog 3 := ⟨⟨_, Try.underlying3, rfl⟩, by kernel_rfl⟩
theorem C118 : IsFn Try.prog 118 := ⟨_, Try.func118, by decide, rfl⟩
theorem F23_1 : FieldAt Try.prog 23 1 1 := ⟨_,_, Try.underlying23, rfl, rfl, 0, by kernel_rfl⟩
theorem F23_2 : FieldAt Try.prog 23 2 2 := ⟨_,_, Try.underlying23, rfl, rfl, 0, by kernel_rfl⟩
theorem F23_3 : FieldAt Try.prog 23 3 3 := ⟨_,_, Try.underlying23, rfl, rfl, 0, by kernel_rfl⟩
theorem F23_4 : FieldAt Try.prog 23 4 4 := ⟨_,_, Try.underlying23, rfl, rfl, 0, by kernel_rfl⟩


abbrev gridV (g : Grid) : Value := .agg #[.int .i64 g.x, .int .i64 g.y, .int .i64 g.size, .int .i64 g.wide, .int .i64 g.high]
set_option maxRecDepth 20000 in
theorem bwithin_c (n lo hi : Int) (w : World) :
  Calls Try.prog 118 #[.int .i64 n, .int .i64 lo, .int .i64 hi] w fun e w' => e = .returned (.bool (decide (lo ≤ n) && decide (n ≤ hi))) ∧ St (bs w) [] w' := by
  refine enter (vs := [_,_,_]) (env := [(0,_), (1,_), (2,_)]) Try.func118 rfl rfl rfl rfl ?_
  refine VC.seq ?_
  refine VC.reg (VO.l (LO.as (.r rfl)) rfl<|VO.nil ?_)
  refine VE.seqN ?_
  refine VC.seq ?_
  refine VC.reg (VO.l (LO.mv (.r rfl)) rfl<|VO.l (LO.mv (.r rfl)) rfl<|VO.l (LO.le (.r rfl) (.r rfl)) rfl<|VO.l (LO.mv (.r rfl)) rfl<|VO.lg rfl rfl (GD.t _) (fun hg => LO.mv (.r rfl)) rfl<|VO.lg rfl rfl (GD.t _) (fun hg => LO.mv (.r rfl)) rfl<|VO.lg rfl rfl (GD.t _) (fun hg => LO.le (.g hg rfl) (.g hg rfl)) rfl<|VO.l (LO.pkA (.r rfl) rfl rfl (.r rfl)) rfl<|VO.l (LO.as (.r rfl)) rfl<|VO.nil ?_)
  refine VE.seqN ?_
  refine VC.ret (VE.res (vs := [_]) rfl ⟨rfl, trivial⟩ (fun w hw => ?_))
  exact ⟨rfl, hw.nil⟩

set_option maxRecDepth 20000 in
theorem checkGrid_c (g : Grid) (w : World) :
  Calls Try.prog 90 #[gridV g] w fun e w' => e = .returned (.int .i64 (gridE g)) ∧ St (bs w) [] w' := by
  refine enter (vs := [_]) (env := [(0,_)]) Try.func90 rfl rfl rfl rfl ?_
  refine VC.seq ?_
  refine VC.reg (VO.h rfl<|HO.box (C := #[_,_,_,_,_]) rfl rfl fun b1 => VO.l (LO.as (.r rfl)) rfl<|VO.nil ?_)
  refine VE.seqN ?_
  refine VC.seq ?_
  refine VC.block ?_
  refine VC.seq ?_
  refine VC.seq ?_
  refine VC.reg (VO.l (LO.fa (r := 0) F23_0 (.r rfl) rfl) rfl<|VO.l (LO.ld O3 (.r rfl) (fun _ hw => cells_at hw 0 rfl ⟨_, rfl⟩)) rfl<|VO.l (LO.call (xs := [_,_,_]) (vs := [_,_,_]) C118 ⟨(.r rfl), (.r rfl), (.r rfl), trivial⟩ (fun w _ => bwithin_c _ _ _ w)) rfl<|VO.l (LO.not (.r rfl)) rfl<|VO.l (LO.as (.r rfl)) rfl<|VO.nil ?_)
  refine VE.seqN ?_
  refine VC.cond rfl (fun h1 => ?_) (fun h1 => ?_)
  ·
    refine VC.skip (VE.seqN ?_)
    refine VC.cond rfl (fun h2 => ?_) (fun h2 => ?_)
    ·
      refine VC.seq ?_
      refine VC.reg (VO.l (LO.as (.r rfl)) rfl<|VO.nil ?_)
      refine VE.seqN ?_
      refine VC.ret (VE.inR (VE.thenR (VE.res (vs := [_]) rfl ⟨rfl, trivial⟩ (fun w hw => ?_))))
      exact ⟨by simp only [resV, gridE]; first | rw [if_pos (by unfold gridOk; omega)] | rw [if_neg (by unfold gridOk; omega)], hw.nil⟩
    ·
      refine VC.skip (VE.inN (VE.seqN ?_))
      refine VC.seq ?_
      refine VC.reg (VO.l (LO.as (.r rfl)) rfl<|VO.nil ?_)
      refine VE.seqN ?_
      refine VC.ret (VE.res (vs := [_]) rfl ⟨rfl, trivial⟩ (fun w hw => ?_))
      exact ⟨by simp only [resV, gridE]; first | rw [if_pos (by unfold gridOk; omega)] | rw [if_neg (by unfold gridOk; omega)], hw.nil⟩
  ·
    refine VC.seq ?_
    refine VC.reg (VO.l (LO.fa (r := 1) F23_1 (.r rfl) rfl) rfl<|VO.l (LO.ld O3 (.r rfl) (fun _ hw => cells_at hw 0 rfl ⟨_, rfl⟩)) rfl<|VO.l (LO.call (xs := [_,_,_]) (vs := [_,_,_]) C118 ⟨(.r rfl), (.r rfl), (.r rfl), trivial⟩ (fun w _ => bwithin_c _ _ _ w)) rfl<|VO.l (LO.not (.r rfl)) rfl<|VO.l (LO.as (.r rfl)) rfl<|VO.nil ?_)
    refine VE.seqN ?_
    refine VC.cond rfl (fun h3 => ?_) (fun h3 => ?_)
    ·
      refine VC.skip (VE.seqN ?_)
      refine VC.cond rfl (fun h4 => ?_) (fun h4 => ?_)
      ·
        refine VC.seq ?_
        refine VC.reg (VO.l (LO.as (.r rfl)) rfl<|VO.nil ?_)
        refine VE.seqN ?_
        refine VC.ret (VE.inR (VE.thenR (VE.res (vs := [_]) rfl ⟨rfl, trivial⟩ (fun w hw => ?_))))
        exact ⟨by simp only [resV, gridE]; first | rw [if_pos (by unfold gridOk; omega)] | rw [if_neg (by unfold gridOk; omega)], hw.nil⟩
      ·
        refine VC.skip (VE.inN (VE.seqN ?_))
        refine VC.seq ?_
        refine VC.reg (VO.l (LO.as (.r rfl)) rfl<|VO.nil ?_)
        refine VE.seqN ?_
        refine VC.ret (VE.res (vs := [_]) rfl ⟨rfl, trivial⟩ (fun w hw => ?_))
        exact ⟨by simp only [resV, gridE]; first | rw [if_pos (by unfold gridOk; omega)] | rw [if_neg (by unfold gridOk; omega)], hw.nil⟩
    ·
      refine VC.seq ?_
      refine VC.reg (VO.l (LO.fa (r := 2) F23_2 (.r rfl) rfl) rfl<|VO.l (LO.ld O3 (.r rfl) (fun _ hw => cells_at hw 0 rfl ⟨_, rfl⟩)) rfl<|VO.l (LO.call (xs := [_,_,_]) (vs := [_,_,_]) C118 ⟨(.r rfl), (.r rfl), (.r rfl), trivial⟩ (fun w _ => bwithin_c _ _ _ w)) rfl<|VO.l (LO.not (.r rfl)) rfl<|VO.l (LO.as (.r rfl)) rfl<|VO.nil ?_)
      refine VE.seqN ?_
      refine VC.cond rfl (fun h5 => ?_) (fun h5 => ?_)
      ·
        refine VC.skip (VE.seqN ?_)
        refine VC.cond rfl (fun h6 => ?_) (fun h6 => ?_)
        ·
          refine VC.seq ?_
          refine VC.reg (VO.l (LO.as (.r rfl)) rfl<|VO.nil ?_)
          refine VE.seqN ?_
          refine VC.ret (VE.inR (VE.thenR (VE.res (vs := [_]) rfl ⟨rfl, trivial⟩ (fun w hw => ?_))))
          exact ⟨by simp only [resV, gridE]; first | rw [if_pos (by unfold gridOk; omega)] | rw [if_neg (by unfold gridOk; omega)], hw.nil⟩
        ·
          refine VC.skip (VE.inN (VE.seqN ?_))
          refine VC.seq ?_
          refine VC.reg (VO.l (LO.as (.r rfl)) rfl<|VO.nil ?_)
          refine VE.seqN ?_
          refine VC.ret (VE.res (vs := [_]) rfl ⟨rfl, trivial⟩ (fun w hw => ?_))
          exact ⟨by simp only [resV, gridE]; first | rw [if_pos (by unfold gridOk; omega)] | rw [if_neg (by unfold gridOk; omega)], hw.nil⟩
      ·
        refine VC.seq ?_
        refine VC.reg (VO.l (LO.fa (r := 3) F23_3 (.r rfl) rfl) rfl<|VO.l (LO.ld O3 (.r rfl) (fun _ hw => cells_at hw 0 rfl ⟨_, rfl⟩)) rfl<|VO.l (LO.call (xs := [_,_,_]) (vs := [_,_,_]) C118 ⟨(.r rfl), (.r rfl), (.r rfl), trivial⟩ (fun w _ => bwithin_c _ _ _ w)) rfl<|VO.l (LO.not (.r rfl)) rfl<|VO.l (LO.as (.r rfl)) rfl<|VO.nil ?_)
        refine VE.seqN ?_
        refine VC.cond rfl (fun h7 => ?_) (fun h7 => ?_)
        ·
          refine VC.skip (VE.seqN ?_)
          refine VC.cond rfl (fun h8 => ?_) (fun h8 => ?_)
          ·
            refine VC.seq ?_
            refine VC.reg (VO.l (LO.as (.r rfl)) rfl<|VO.nil ?_)
            refine VE.seqN ?_
            refine VC.ret (VE.inR (VE.thenR (VE.res (vs := [_]) rfl ⟨rfl, trivial⟩ (fun w hw => ?_))))
            exact ⟨by simp only [resV, gridE]; first | rw [if_pos (by unfold gridOk; omega)] | rw [if_neg (by unfold gridOk; omega)], hw.nil⟩
          ·
            refine VC.skip (VE.inN (VE.seqN ?_))
            refine VC.seq ?_
            refine VC.reg (VO.l (LO.as (.r rfl)) rfl<|VO.nil ?_)
            refine VE.seqN ?_
            refine VC.ret (VE.res (vs := [_]) rfl ⟨rfl, trivial⟩ (fun w hw => ?_))
            exact ⟨by simp only [resV, gridE]; first | rw [if_pos (by unfold gridOk; omega)] | rw [if_neg (by unfold gridOk; omega)], hw.nil⟩
        ·
          refine VC.reg (VO.l (LO.fa (r := 4) F23_4 (.r rfl) rfl) rfl<|VO.l (LO.ld O3 (.r rfl) (fun _ hw => cells_at hw 0 rfl ⟨_, rfl⟩)) rfl<|VO.l (LO.call (xs := [_,_,_]) (vs := [_,_,_]) C118 ⟨(.r rfl), (.r rfl), (.r rfl), trivial⟩ (fun w _ => bwithin_c _ _ _ w)) rfl<|VO.l (LO.not (.r rfl)) rfl<|VO.l (LO.as (.r rfl)) rfl<|VO.nil ?_)
          refine VE.seqN ?_
          refine VC.cond rfl (fun h9 => ?_) (fun h9 => ?_)
          ·
            refine VC.seq ?_
            refine VC.reg (VO.l (LO.as (.r rfl)) rfl<|VO.nil ?_)
            refine VE.seqN ?_
            refine VC.ret (VE.inR (VE.thenR (VE.res (vs := [_]) rfl ⟨rfl, trivial⟩ (fun w hw => ?_))))
            exact ⟨by simp only [resV, gridE]; first | rw [if_pos (by unfold gridOk; omega)] | rw [if_neg (by unfold gridOk; omega)], hw.nil⟩
          ·
            refine VC.skip (VE.inN (VE.seqN ?_))
            refine VC.seq ?_
            refine VC.reg (VO.l (LO.as (.r rfl)) rfl<|VO.nil ?_)
            refine VE.seqN ?_
            refine VC.ret (VE.res (vs := [_]) rfl ⟨rfl, trivial⟩ (fun w hw => ?_))
            exact ⟨by simp only [resV, gridE]; first | rw [if_pos (by unfold gridOk; omega)] | rw [if_neg (by unfold gridOk; omega)], hw.nil⟩

end Go.Proofs.Ytgemekpofpoopaa

namespace Go.SL
set_option linter.unusedVariables false
section
variable {P : Program} {ro : Option Nat} {β : Bs} {N : Nat} {ds : List Deferred} {env : Env} {L : List Res} {Q : Exit → Act → World → Prop}
variable {ty : TypeId} {pos : String} {aft : Array Edge} {g : Option (Nat × Bool)}

theorem and_e {c b : Bool} (h : c = true) : (c && b) = b := by rw [h, Bool.true_and]

theorem HO.guard {dd : Option Nat} {op : Op} {K : Value → List Res → Prop} {g' : Option (Nat × Bool)} (h : HO P β env L ⟨dd, op, ty, pos, aft, g⟩ K) : HO P β env L ⟨dd, op, ty, pos, aft, g'⟩ K := h

theorem VO.bc {ops : Array Oper} {rest : List Oper} {x : Nat} {b : Bool} (h : ev1 env x = some (.bool b)) (k1 : b = true → VO P ro β N ds ops env L rest Q) (k2 : b = false → VO P ro β N ds ops env L rest Q) : VO P ro β N ds ops env L rest Q := by
  cases b with
  | true => exact k1 rfl
  | false => exact k2 rfl

theorem VO.gT {ops : Array Oper} {d j t : Nat} {want : Bool} {op : Op} {rest : List Oper} {u : Value} (hj : (ops[j]?).bind (·.dst) = some t) (ht : ev1 env t = some u) (hu : u = .bool want) (hd : Nat.blt d N = true)
    (h : HO P β env L ⟨some d, op, ty, pos, aft, none⟩ fun v L' => VO P ro β N ds ops ((d, v) :: env) L' rest Q) : VO P ro β N ds ops env L (⟨some d, op, ty, pos, aft, some (j, want)⟩ :: rest) Q := by
  intro a w ha hw
  have ht' := ha.get t u ht
  have hy : yielded ops a.tmps j = vb u := by
    unfold yielded; rw [hj]; simp only [Option.bind_some, ht']; cases u <;> rfl
  refine wpListIn_step fun K hK => ?_
  simp only [Region.wanted, hy]
  subst hu
  simp only [vb, beq_self_eq_true, if_true]
  exact (h.guard (g' := some (j, want))).wp (fun x _ u hu => ha.eval hu) hw fun v L' w' hk hs => hK _ _ (hk _ w' (ha.put (Nat.le_of_ble_eq_true hd) v) hs)

theorem LO.pkT {d : Option Nat} {c x y : Operand} {b : Bool} {v : Value} (hc : OV env c (.bool b)) (hb : b = true) (hx : OV env x v) : LO P β env L ⟨d, .pick c x y, ty, pos, aft, g⟩ v :=
  .of_run fun a w h hw => ⟨w, by subst hb; simp [execOp, h c (by simp [Op.operands]) _ hc, h x (by simp [Op.operands]) _ hx, asBool], hw⟩
theorem LO.pkF {d : Option Nat} {c x y : Operand} {b : Bool} {v : Value} (hc : OV env c (.bool b)) (hb : b = false) (hy : OV env y v) : LO P β env L ⟨d, .pick c x y, ty, pos, aft, g⟩ v :=
  .of_run fun a w h hw => ⟨w, by subst hb; simp [execOp, h c (by simp [Op.operands]) _ hc, h y (by simp [Op.operands]) _ hy, asBool], hw⟩

/-- To append one more to a slice whose rows are those of a list. -/
theorem HO.appT {α : Type} {f : α → List Value} {l : List α} (x0 : α) (i j : Nat) (LF : Res → List Res) {K : Value → List Res → Prop} {dd : Option Nat} {x y : Operand} {T T' E z by_ : Nat} {aT : Array TypeId} {zero : Value} {p : Option Addr} {n cap b : Nat} {C : Array Value} (hT : IsSlice P T E) (hT' : IsSlice P T' E) (hE : EInfo P E z by_ zero) (hx : OV env x (.slice p n cap)) (hy : OV env y (.slice (some ⟨b, 0, none⟩) 1 1))
    (hi : L[i]? = some (own E z p cap (l.map f))) (hj : L[j]? = some (blk b (.cells C E))) (hC : C = (f x0).toArray) (hr : Nat.beq (f x0).length z = true) (h1 : allOne (f x0) = true) (ha0 : aT[0]? = some T) (ha1 : aT[1]? = some T') (hL : ∀ R : Res, L.set i R = LF R) (hn : n = l.length) (hs : (2 * (l.length + 1) + 768) * by_ ≤ 281474976710656)
    (k : ∀ p' cap', K (.slice p' (l ++ [x0]).length cap') (LF (own E z p' cap' ((l ++ [x0]).map f)))) : HO P β env L ⟨dd, .call ⟨.builtin .append, #[x, y], aT⟩, ty, pos, aft, none⟩ K := by
  subst hn
  refine HO.app1 i j LF hT hT' hE hx hy hi hj hC hr h1 ha0 ha1 hL (by simp) hs fun p' cap' => ?_
  have := k p' cap'
  rw [List.length_append, List.map_append] at this
  exact this

/-- A call that is handed one of the resources, and gives it back turned. -/
theorem HO.callh {α : Type} (i : Nat) {r : Res} (LF : Res → List Res) {K : Value → List Res → Prop} {dd : Option Nat} {f : FuncId} {fx : Operand} {xs : List Operand} {vs first cap : List Value} {aT : Array TypeId} {v : α → Value} {r' : α → Res} {I : α → Prop} (hi : L[i]? = some r) (hfx : OV env fx (.func (.func f) first.toArray cap.toArray)) (hf : IsFn P f) (hx : OVs env xs vs) (hL : ∀ R : Res, L.set i R = LF R)
    (hc : ∀ w, St β L w → Calls P f (first ++ vs ++ cap).toArray w fun e w' => ∃ x, I x ∧ e = .returned (v x) ∧ St ⟨w, r.fp⟩ [r' x] w') (k : ∀ x, I x → K (v x) (LF (r' x))) : HO P β env L ⟨dd, .call ⟨.value fx, xs.toArray, aT⟩, ty, pos, aft, none⟩ K := by
  intro a w h hw
  refine .inr (.inl ⟨f, (first ++ vs ++ cap).toArray, ?_, ?_⟩)
  · have hm : xs.map a.eval = vs := hx.map fun x hm u hu => by obtain ⟨u', hu', e⟩ := hu; subst e; exact h x (by simp [Op.operands, Call.operands, hm]) u' hu'
    have hfe : a.eval fx = .func (.func f) first.toArray cap.toArray := by obtain ⟨u', hu', e⟩ := hfx; subst e; exact h fx (by simp [Op.operands, Call.operands]) _ hu'
    simp [execOp, resolve, hfe, Deferred.ofValue, invoke, run_call hf, hm]
  · exact (hc w hw).mono fun e w' ⟨x, hI, he, hs⟩ => ⟨v x,_, he, k x hI, by rw [← hL]; exact hw.callAt i hi hs⟩

theorem LO.nc {d : Option Nat} {x : Operand} {p : Addr} (hx : OV env x (.pointer (some p))) : LO P β env L ⟨d, .nilCheck x, ty, pos, aft, g⟩ (.pointer (some p)) :=
  .of_run fun a w h hw => ⟨w, by simp [execOp, h x (by simp [Op.operands]) _ hx], hw⟩

theorem LO.ixo {d : Option Nat} {x i : Operand} {T E z : Nat} {p : Option Addr} {n c j : Nat} {k : IntKind} {e : Int} (hT : IsSlice P T E) (hz : (P.info? E).map (·.size) = some z) (hs : ∀ w, St β L w → SlSome p n) (hx : OV env x (.slice p n c)) (hi : OV env i (.int k e)) (he : e = (j : Int)) (hj : j < n) :
    LO P β env L ⟨d, .indexAddr T x i, ty, pos, aft, g⟩ (.pointer (some ⟨pb p, po p + j * z, none⟩)) :=
  fun a w h hw => LO.ixs (d := d) (ty := ty) (pos := pos) (aft := aft) (g := g) hT hz (hs w hw) hx hi he hj a w h hw

theorem own_cell {α : Type} {f : α → List Value} {w : World} (hw : St β L w) (i : Nat) {E z : Nat} {p : Option Addr} {cap : Nat} {l : List α} (hi : L[i]? = some (own E z p cap (l.map f))) {j : Nat} {x : α} (hx : l[j]? = some x) : Cells w ⟨pb p, po p + j * z, none⟩ (f x) :=
  (own_rows hw i hi).cells j _ (by rw [List.getElem?_map, hx]; rfl)

theorem selJ {L0 L1 : List Res} {js : List Nat} (is : List Nat) (hn : nodupB is = true) (h1 : sel L is = L1) (h2 : sel L0 js = L1) : ∀ w, St β L w → St β (sel L0 js) w := fun w hw => by
  rw [h2, ← h1]; exact hw.sel is hn

/-- The resources in another order, some left out. -/
theorem VC.perm (is : List Nat) {c : Code} (hn : nodupB is = true) (h : VC P ro β N ds env (sel L is) c Q) : VC P ro β N ds env L c Q := fun a w ha hw => h a w ha (hw.sel is hn)
theorem VC.pur {φ : Prop} {c : Code} (h : ∀ w, St β L w → φ) (k : φ → VC P ro β N ds env L c Q) : VC P ro β N ds env L c Q := fun a w ha hw => k (h w hw) a w ha hw
end
end Go.SL

namespace Go.SL
set_option linter.unusedVariables false
set_option linter.unusedSimpArgs false
open Go.RowKit
section
variable {P : Program}
/-- All cells of the type are ints; 'n' of them. -/
def flatA (P : Program) : Nat → TypeId → Option Nat
  | 0,_ => none
  | f + 1, T =>
    match P.underlying T with
    | some (.int .i64) => if (P.info? T).map (·.size) = some 1 then some 1 else none
    | some (.struct fs) =>
      if P.stoodInHeld T then none else
      match fs.toList.foldlM (fun (o : Nat) F => if F.name = "_" || F.offset ≠ o then none else (flatA P f F.type).map (o + ·)) 0 with
      | some n => if (P.info? T).map (·.size) = some n then some n else none
      | none => none
    | some (.array n E) =>
      match flatA P f E with
      | some z => if P.cellsOf E = z ∧ (P.info? E).map (·.size) = some z ∧ (P.info? T).map (·.size) = some (n * z) then some (n * z) else none
      | none => none
    | _ => none

def valA (P : Program) (T : TypeId) («as» : List Int) : Value := match P.underlying T with
  | some (.struct _) => .agg («as».map intV).toArray
  | some (.array _ _) => .agg («as».map intV).toArray
  | _ => («as».map intV).head?.getD undef

theorem part_A {f : Nat} {T n : Nat} (h : flatA P f T = some n) {«as» : List Int} {o : Nat} (ho : o + n ≤ «as».length) (w : World) :
    (part T («as».map intV).toArray o).run P w = .ok (valA P T ((«as».drop o).take n)) w := by
  cases f with
  | zero => simp [flatA] at h
  | succ f =>
    unfold flatA at h
    unfold valA
    split at h
    · rename_i hu
      split at h
      · rename_i hs
        cases h
        have h1 : IsOne P T := ⟨⟨_, hu, rfl⟩, hs⟩
        have hlt : o < «as».length := by omega
        have e : («as».drop o).take 1 = [«as»[o]] := by
          rw [List.drop_eq_getElem_cons hlt]; rfl
        simp [part, run_isOne h1, hu, e, hlt]
      · cases h
    · rename_i fs hu
      split at h
      · cases h
      · split at h
        · rename_i n' _
          split at h
          · rename_i hs
            cases h
            have h1 : IsAgg P T n := ⟨⟨_, hu, rfl⟩, hs⟩
            simp only [part, Sem.run_bind, run_isAgg h1, Result.andThen_ok, run_size hs, if_true, Sem.run_pure, hu]
            congr 2
            apply Array.ext'
            simp [List.map_drop, List.map_take, List.extract]
          · cases h
        · cases h
    · rename_i k E hu
      split at h
      · rename_i z hz
        split at h
        · rename_i hs
          cases h
          have h1 : IsAgg P T (k * z) := ⟨⟨_, hu, rfl⟩, hs.2.2⟩
          simp only [part, Sem.run_bind, run_isAgg h1, Result.andThen_ok, run_size hs.2.2, if_true, Sem.run_pure, hu]
          congr 2
          apply Array.ext'
          simp [List.map_drop, List.map_take, List.extract]
        · cases h
      · cases h
    · cases h

theorem eqFields_A {f dd : Nat} (ih : ∀ {T n : Nat}, flatA P f T = some n → ∀ {«as» bs : List Int}, «as».length = n → bs.length = n → ∀ w, (Op.equalIn dd T (valA P T «as») (valA P T bs)).run P w = .ok (decide («as» = bs)) w) :
    ∀ (fs : List Field) (o n : Nat), fs.foldlM (fun (o : Nat) F => if F.name = "_" || F.offset ≠ o then none else (flatA P f F.type).map (o + ·)) o = some n → ∀ {«as» bs : List Int}, «as».length = n → bs.length = n → o ≤ n → ∀ w,
      (Op.eqFields dd («as».map intV).toArray (bs.map intV).toArray fs).run P w = .ok (decide («as».drop o = bs.drop o)) w
  | [], o, n, h, «as», bs, ha, hb, ho, w => by
    simp at h
    subst h
    simp [Op.eqFields, List.drop_of_length_le (Nat.le_of_eq ha), List.drop_of_length_le (Nat.le_of_eq hb)]
  | F :: fs, o, n, h, «as», bs, ha, hb, ho, w => by
    simp only [List.foldlM_cons] at h
    by_cases hc : (F.name = "_" || F.offset ≠ o) = true
    · rw [if_pos hc] at h; simp at h
    · simp only [hc, Bool.false_eq_true, if_false] at h
      simp only [Bool.or_eq_true, decide_eq_true_eq, not_or, ne_eq, Classical.not_not] at hc
      obtain ⟨hn, hoff⟩ := hc
      cases hf : flatA P f F.type with
      | none => simp [hf] at h
      | some m =>
        simp only [hf, Option.map_some] at h
        replace h : List.foldlM (fun (o : Nat) F => if F.name = "_" || F.offset ≠ o then none else (flatA P f F.type).map (o + ·)) (o + m) fs = some n := h
        have hle : o + m ≤ n := foldl_le fs (o + m) n h
        simp only [Op.eqFields, hn, ne_eq, not_false_eq_true, if_true, Sem.run_bind, hoff]
        rw [part_A hf (by omega) w]
        simp only [Result.andThen_ok]
        rw [part_A hf (by omega) w]
        simp only [Result.andThen_ok]
        rw [ih hf (by simp; omega) (by simp; omega) w]
        simp only [Result.andThen_ok]
        have sp : ∀ l : List Int, l.drop o = (l.drop o).take m ++ l.drop (o + m) := by
          intro l
          have := List.take_append_drop m (l.drop o)
          rw [List.drop_drop] at this
          exact this.symm
        by_cases e : («as».drop o).take m = (bs.drop o).take m
        · simp only [e, decide_true, Bool.not_true, Bool.false_eq_true, if_false]
          rw [eqFields_A ih fs (o + m) n h ha hb hle w]
          congr 2
          apply propext
          rw [sp «as», sp bs, e]
          simp
        · simp only [e, decide_false, Bool.not_false, if_true, Sem.run_pure]
          congr 1
          symm
          rw [decide_eq_false_iff_not]
          intro q
          exact e (by rw [q])
where
  foldl_le : ∀ (fs : List Field) (o n : Nat), fs.foldlM (fun (o : Nat) F => if F.name = "_" || F.offset ≠ o then none else (flatA P f F.type).map (o + ·)) o = some n → o ≤ n
    | [], o, n, h => by simp at h; omega
    | F :: fs, o, n, h => by
      simp only [List.foldlM_cons] at h
      by_cases hc : (F.name = "_" || F.offset ≠ o) = true
      · rw [if_pos hc] at h; simp at h
      · simp only [hc, Bool.false_eq_true, if_false] at h
        cases hf : flatA P f F.type with
        | none => simp [hf] at h
        | some m =>
          simp only [hf, Option.map_some] at h
          have := foldl_le fs (o + m) n h
          omega

theorem eqItems_A {f dd : Nat} {E z : Nat} (ih : ∀ {«as» bs : List Int}, «as».length = z → bs.length = z → ∀ w, (Op.equalIn dd E (valA P E «as») (valA P E bs)).run P w = .ok (decide («as» = bs)) w) (hE : flatA P f E = some z) {«as» bs : List Int} :
    ∀ (m i : Nat), «as».length = (i + m) * z → bs.length = (i + m) * z → ∀ w, (Op.eqItems dd E z («as».map intV).toArray (bs.map intV).toArray ((List.range m).map (i + ·))).run P w = .ok (decide («as».drop (i * z) = bs.drop (i * z))) w
  | 0, i, ha, hb, w => by
    simp at ha hb
    simp [Op.eqItems, List.drop_of_length_le (Nat.le_of_eq ha), List.drop_of_length_le (Nat.le_of_eq hb)]
  | m + 1, i, ha, hb, w => by
    have e0 : (List.range (m + 1)).map (i + ·) = i :: (List.range m).map (i + 1 + ·) := by
      rw [List.range_succ_eq_map]
      simp [Function.comp_def, Nat.add_assoc, Nat.add_comm 1]
    have hz1 : i * z + z ≤ «as».length := by rw [ha, Nat.add_mul, Nat.add_mul]; omega
    have hz2 : i * z + z ≤ bs.length := by rw [hb, Nat.add_mul, Nat.add_mul]; omega
    rw [e0]
    simp only [Op.eqItems, Sem.run_bind]
    rw [part_A hE hz1 w]
    simp only [Result.andThen_ok]
    rw [part_A hE hz2 w]
    simp only [Result.andThen_ok]
    rw [ih (by simp; omega) (by simp; omega) w]
    simp only [Result.andThen_ok]
    have sp : ∀ l : List Int, l.drop (i * z) = (l.drop (i * z)).take z ++ l.drop ((i + 1) * z) := by
      intro l
      have := List.take_append_drop z (l.drop (i * z))
      rw [List.drop_drop] at this
      rw [Nat.add_mul, Nat.one_mul]
      exact this.symm
    by_cases e : («as».drop (i * z)).take z = (bs.drop (i * z)).take z
    · simp only [e, decide_true, Bool.not_true, Bool.false_eq_true, if_false]
      rw [eqItems_A ih hE m (i + 1) (by rw [ha]; congr 1; omega) (by rw [hb]; congr 1; omega) w]
      congr 2
      apply propext
      rw [sp «as», sp bs, e]
      simp
    · simp only [e, decide_false, Bool.not_false, if_true, Sem.run_pure]
      congr 1
      symm
      rw [decide_eq_false_iff_not]
      intro q
      exact e (by rw [q])

theorem equalIn_A : ∀ (f : Nat) {T n : Nat}, flatA P f T = some n → ∀ {«as» bs : List Int}, «as».length = n → bs.length = n → ∀ dd, f ≤ dd → ∀ w, (Op.equalIn dd T (valA P T «as») (valA P T bs)).run P w = .ok (decide («as» = bs)) w
  | 0, T, n, h,_,_,_,_,_,_,_ => by simp [flatA] at h
  | f + 1, T, n, h, «as», bs, ha, hb, dd, hd, w => by
    obtain ⟨dd, rfl⟩ : ∃ d', dd = d' + 1 := ⟨dd - 1, by omega⟩
    unfold flatA at h
    unfold valA
    split at h
    · rename_i hu
      split at h
      · cases h
        match «as», bs, ha, hb with
        | [a], [b],_,_ =>
          simp only [hu, List.map_cons, List.map_nil, List.head?_cons, Option.getD_some, intV]
          rw [run_equalIn_int w dd T .i64 .i64 a b hu]
          congr 1
          simp [BEq.beq]
      · cases h
    · rename_i fs hu
      split at h
      · cases h
      · rename_i hs
        split at h
        · rename_i n' hf
          split at h
          · cases h
            have hfs : P.fieldsOf T = fs := by simp [Program.fieldsOf, hu]
            simp only [hu]
            rw [run_equalIn_struct w dd T _ _ (by rw [hfs]; exact hu) (by simpa using hs), hfs]
            have := eqFields_A (P := P) (f := f) (dd := dd) (fun {T n} h2 {«as» bs} h3 h4 w => equalIn_A f h2 h3 h4 dd (by omega) w) fs.toList 0 n hf ha hb (by omega) w
            simpa using this
          · cases h
        · cases h
    · rename_i k E hu
      split at h
      · rename_i z hz
        split at h
        · rename_i hs
          cases h
          obtain ⟨hc, hsz,_⟩ := hs
          obtain ⟨i, hi,_⟩ : ∃ i, P.info? E = some i ∧ i.size = z := by
            cases q : P.info? E with
            | none => simp [q] at hsz
            | some i => exact ⟨i, rfl, by simpa [q] using hsz⟩
          simp only [hu]
          rw [run_equalIn_array w dd _ _ hu hi, hc]
          have := eqItems_A (P := P) (f := f) (dd := dd) (E := E) (z := z) (fun {«as» bs} h3 h4 w => equalIn_A f hz h3 h4 dd (by omega) w) hz («as» := «as») (bs := bs) k 0 (by rw [ha]; simp) (by rw [hb]; simp) w
          simpa using this
        · cases h
      · cases h
    · cases h

def FlatA (P : Program) (T n : Nat) : Prop := (∃ d, P.underlying T = some d ∧ (match d with | .struct _ | .array _ _ => true | _ => false) = true) ∧ flatA P 20 T = some n ∧ P.eqGuardType P.depth T = false

variable {ro : Option Nat} {β : Bs} {N : Nat} {ds : List Deferred} {env : Env} {L : List Res} {Q : Exit → Act → World → Prop}
variable {d : Option Nat} {ty : TypeId} {pos : String} {aft : Array Edge} {g : Option (Nat × Bool)}
theorem valA_agg {T n : Nat} (hT : FlatA P T n) («as» : List Int) : valA P T «as» = .agg («as».map intV).toArray := by
  obtain ⟨⟨d, hu, hd⟩,_⟩ := hT
  unfold valA; rw [hu]; cases d <;> simp_all
theorem LO.eqA {x y : Operand} {T yT n : Nat} {«as» bs : List Int} (hT : FlatA P T n) (hx : OV env x (.agg («as».map intV).toArray)) (hy : OV env y (.agg (bs.map intV).toArray)) (ha : Nat.beq «as».length n = true) (hb : Nat.beq bs.length n = true) : LO P β env L ⟨d, .binOp .eql T x y yT, ty, pos, aft, g⟩ (.bool (decide («as» = bs))) :=
  .of_run fun a w h hw => ⟨w, by
    have h1 := equalIn_A (P := P) 20 hT.2.1 («as» := «as») (bs := bs) (Nat.eq_of_beq_eq_true ha) (Nat.eq_of_beq_eq_true hb) 10000 (by decide) w
    rw [valA_agg hT, valA_agg hT] at h1
    simp only [execOp, h x (by simp [Op.operands]) _ hx, h y (by simp [Op.operands]) _ hy, Sem.run_bind, run_eqGuard_agg w .eql T x y _ _ hT.2.2, Result.andThen_ok, run_eql_struct, h1, Sem.run_pure], hw⟩
theorem LO.neA {x y : Operand} {T yT n : Nat} {«as» bs : List Int} (hT : FlatA P T n) (hx : OV env x (.agg («as».map intV).toArray)) (hy : OV env y (.agg (bs.map intV).toArray)) (ha : Nat.beq «as».length n = true) (hb : Nat.beq bs.length n = true) : LO P β env L ⟨d, .binOp .neq T x y yT, ty, pos, aft, g⟩ (.bool (!decide («as» = bs))) :=
  .of_run fun a w h hw => ⟨w, by
    have h1 := equalIn_A (P := P) 20 hT.2.1 («as» := «as») (bs := bs) (Nat.eq_of_beq_eq_true ha) (Nat.eq_of_beq_eq_true hb) 10000 (by decide) w
    rw [valA_agg hT, valA_agg hT] at h1
    simp only [execOp, h x (by simp [Op.operands]) _ hx, h y (by simp [Op.operands]) _ hy, Sem.run_bind, run_eqGuard_agg w .neq T x y _ _ hT.2.2, Result.andThen_ok, run_neq_struct, h1, Sem.run_pure], hw⟩

end
end Go.SL

namespace Go.Proofs.Ytgemekpofpoopaa
open Go.SL Go.Proofs Go.Cast Go.Cell
set_option linter.unusedVariables false

theorem F71_0 : FieldAt Try.prog 71 0 0 := ⟨_,_, Try.underlying71, rfl, rfl, 0, by kernel_rfl⟩
theorem F71_1 : FieldAt Try.prog 71 1 1 := ⟨_,_, Try.underlying71, rfl, rfl, 0, by kernel_rfl⟩
end Go.Proofs.Ytgemekpofpoopaa

namespace Go.Proofs.Ytgemekpofpoopaa
open Go.SL Go.Proofs Go.Cast Go.Cell
set_option linter.unusedVariables false

theorem F26_0 : FieldAt Try.prog 26 0 0 := ⟨_,_, Try.underlying26, rfl, rfl, 4, by kernel_rfl⟩
theorem A23 : IsAgg Try.prog 23 5 := ⟨⟨_, Try.underlying23, rfl⟩, by kernel_rfl⟩
theorem C90 : IsFn Try.prog 90 := ⟨_, Try.func90, by decide, rfl⟩
theorem F26_1 : FieldAt Try.prog 26 1 5 := ⟨_,_, Try.underlying26, rfl, rfl, 0, by kernel_rfl⟩
theorem O24 : IsOne Try.prog 24 := ⟨⟨_, Try.underlying24, rfl⟩, by kernel_rfl⟩
theorem S24 : IsSlice Try.prog 24 71 := Try.underlying24
theorem N71 : (Try.prog.info? 71).map (·.size) = some 2 := by kernel_rfl
theorem A71 : IsAgg Try.prog 71 2 := ⟨⟨_, Try.underlying71, rfl⟩, by kernel_rfl⟩
theorem Z71 : ZeroOf Try.prog 71 (.agg #[.int .i64 0, .int .i64 0]) := by unfold ZeroOf; kernel_rfl
theorem A26 : IsAgg Try.prog 26 6 := ⟨⟨_, Try.underlying26, rfl⟩, by kernel_rfl⟩
theorem C108 : IsFn Try.prog 108 := ⟨_, Try.func108, by decide, rfl⟩
structure Span where
  lo : Int
  hi : Int
def Span.cells (s : Span) : List Value := [.int .i64 s.lo, .int .i64 s.hi]
structure Field where
  g : Grid
  vals : List Span
def Spans (w : World) (p : Option Addr) (l : List Span) : Prop := Go.SL.Rows w 2 p (l.map Span.cells)
theorem Spans.some {w : World} {p : Option Addr} {l : List Span} (h : Spans w p l) : SlSome p l.length := Go.SL.Rows.some h (by simp)
theorem Spans.keep {w0 : World} {p : Option Addr} {l : List Span} (h : Spans w0 p l) {L : List Res} : ∀ w, St (bs w0) L w → Spans w p l := Go.SL.Rows.keep h
theorem Spans.at {w0 : World} {p : Option Addr} {l : List Span} (h : Spans w0 p l) {L : List Res} {j : Nat} (hj : j < l.length) : ∀ w, St (bs w0) L w → Cells w ⟨pb p, po p + j * 2, none⟩ [.int .i64 (l.getD j ⟨0,0⟩).lo, .int .i64 (l.getD j ⟨0,0⟩).hi] :=
  fun w hw => (h.keep w hw).cells j _ (by simp [List.getElem?_eq_getElem hj, List.getD, Span.cells])
theorem cells_part {w : World} {b o off : Nat} {C vs : List Value} (h : Cells w ⟨b, o, none⟩ C) (hv : ∃ r, C.drop off = vs ++ r) : Cells w ⟨b, o + off, none⟩ vs := by
  intro j v hj
  obtain ⟨r, hr⟩ := hv
  have h1 : C[off + j]? = some v := by
    rw [← List.getElem?_drop, hr, List.getElem?_append_left (List.getElem?_eq_some_iff.1 hj).1]; exact hj
  have h2 := h (off + j) v h1
  have e1 : (⟨b, o, none⟩ : Addr).add (off + j) = ⟨b, o + (off + j), none⟩ := by unfold Addr.add; split <;> simp_all
  have e2 : (⟨b, o + off, none⟩ : Addr).add j = ⟨b, o + off + j, none⟩ := by unfold Addr.add; split <;> simp_all
  rw [e1] at h2; rw [e2, Nat.add_assoc]; exact h2
def spanOk (m : Int) (s : Span) : Prop := 0 ≤ s.lo ∧ s.lo ≤ s.hi ∧ s.hi ≤ m
instance (m : Int) (s : Span) : Decidable (spanOk m s) := by unfold spanOk; exact inferInstance
def valE (m : Int) (l : List Span) (i : Nat) : Int := if spanOk m (l.getD i ⟨0,0⟩) then 0 else 3
def fieldE (m : Int) (f : Field) : Int := if ¬ gridOk f.g then 3 else if (f.vals.length : Int) ≠ f.g.wide * f.g.high then 11 else firstE (valE m f.vals) f.vals.length
def stE (s : List Int) (i : Nat) : Int := if 0 ≤ s.getD i 0 ∧ s.getD i 0 ≤ 2 then 0 else 3
def heldE (s : List Int) (f : Field) (lv : Int) : Int := if fieldE 1073741824 f ≠ 0 then fieldE 1073741824 f else if s.length ≠ f.vals.length then 11 else if ¬ (1 ≤ lv ∧ lv ≤ 1073741824) then 3 else firstE (stE s) s.length
def heldAt (s : List Int) (f : Field) (lv : Int) (p : Nat) : Prop := (s.getD p 0 = 2 ∧ (f.vals.getD p ⟨0,0⟩).hi < lv) ∨ (s.getD p 0 = 0 ∧ lv ≤ (f.vals.getD p ⟨0,0⟩).lo)
instance (s : List Int) (f : Field) (lv : Int) (p : Nat) : Decidable (heldAt s f lv p) := by unfold heldAt; exact inferInstance
section
variable {m : Int} {f : Field} {s l : List Int} {lv : Int} {j : Nat}
theorem valE_zero (h : spanOk m (f.vals.getD j ⟨0,0⟩)) : valE m f.vals j = 0 := if_pos h
theorem fE1 (h : ¬ gridE f.g = 0) : gridE f.g = fieldE m f := by
  unfold fieldE
  by_cases q : gridOk f.g
  · exact absurd (if_pos q) h
  · rw [if_pos q]; exact if_neg q
theorem fE2 (hg : gridOk f.g) (h : ¬ (f.vals.length : Int) = f.g.wide * f.g.high) : 11 = fieldE m f := by
  unfold fieldE
  rw [if_neg (fun q => q hg), if_pos h]
theorem fE3 (hg : gridOk f.g) (h : (f.vals.length : Int) = f.g.wide * f.g.high) (hz : ∀ k, k < j → valE m f.vals k = 0) (hj : j < f.vals.length) (h4 : ¬ spanOk m (f.vals.getD j ⟨0,0⟩)) : 3 = fieldE m f := by
  have e : valE m f.vals j = 3 := if_neg h4
  unfold fieldE
  rw [if_neg (fun q => q hg), if_neg (fun q => q h), firstE_at hz (by omega) hj, e]
theorem fE4 (hg : gridOk f.g) (h : (f.vals.length : Int) = f.g.wide * f.g.high) (hz : ∀ k, k < j → valE m f.vals k = 0) (hj : f.vals.length ≤ j) : 0 = fieldE m f := by
  unfold fieldE
  rw [if_neg (fun q => q hg), if_neg (fun q => q h), firstE_zero (fun k hk => hz k (by omega))]
theorem hE1 (h : ¬ fieldE 1073741824 f = 0) : fieldE 1073741824 f = heldE s f lv := by unfold heldE; rw [if_pos h]
theorem hE2 (h : fieldE 1073741824 f = 0) (h2 : ¬ s.length = f.vals.length) : 11 = heldE s f lv := by unfold heldE; rw [if_neg (fun q => q h), if_pos h2]
end

set_option maxRecDepth 20000 in
theorem bcheck_c (f : Field) (pv : Option Addr) (cv : Nat) (m : Int) (w : World) (hv : Spans w pv f.vals) :
  Calls Try.prog 108 #[.agg #[.int .i64 f.g.x, .int .i64 f.g.y, .int .i64 f.g.size, .int .i64 f.g.wide, .int .i64 f.g.high, .slice pv f.vals.length cv], .int .i64 m] w fun e w' => e = .returned (.int .i64 (fieldE m f)) ∧ St (bs w) [] w' := by
  refine enter (vs := [_,_]) (env := [(0,_), (1,_)]) Try.func108 rfl rfl rfl rfl ?_
  refine VC.seq ?_
  refine VC.reg (VO.h rfl<|HO.box (C := #[_,_,_,_,_,_]) rfl rfl fun b1 => VO.l (LO.as (.r rfl)) rfl<|VO.nil ?_)
  refine VE.seqN ?_
  refine VC.seq ?_
  refine VC.seq ?_
  refine VC.reg (VO.l (LO.fa (r := 0) F26_0 (.r rfl) rfl) rfl<|VO.l (LO.lda (vs := [_,_,_,_,_]) A23 (.r rfl) (fun _ hw => cells_at hw 0 rfl ⟨_, rfl⟩) rfl) rfl<|VO.l (LO.call (xs := [_]) (vs := [_]) C90 ⟨(.r rfl), trivial⟩ (fun w _ => checkGrid_c f.g w)) rfl<|VO.l (LO.as (.r rfl)) rfl<|VO.nil ?_)
  refine VE.seqN ?_
  refine VC.seq ?_
  refine VC.reg (VO.l (LO.mv (.r rfl)) rfl<|VO.l (LO.ne (.r rfl) (.r rfl)) rfl<|VO.nil ?_)
  refine VE.seqN ?_
  refine VC.cond rfl (fun h1 => ?_) (fun h1 => ?_)
  ·
    refine VC.seq ?_
    refine VC.reg (VO.l (LO.mv (.r rfl)) rfl<|VO.l (LO.as (.r rfl)) rfl<|VO.nil ?_)
    refine VE.seqN ?_
    refine VC.ret (VE.thenR (VE.res (vs := [_]) rfl ⟨rfl, trivial⟩ (fun w hw => ?_)))
    refine ⟨?_, hw.nil⟩
    simp only [resV]
    congr 2
    first | exact fE1 (by simpa using h1) | exact fE2 hgo (by simpa using h2) | exact fE3 hgo (by simpa using h2) hz (by omega) (by unfold spanOk; omega) | exact fE4 hgo (by simpa using h2) hz (by omega)
  ·
    have hgo : gridOk f.g := gridOk_of (by simpa using h1)
    have har := area_bd hgo
    refine VC.skip (VE.seqN ?_)
    refine VC.seq ?_
    refine VC.seq ?_
    refine VC.reg (VO.l (LO.fa (r := 5) F26_1 (.r rfl) rfl) rfl<|VO.l (LO.ld O24 (.r rfl) (fun _ hw => cells_at hw 0 rfl ⟨_, rfl⟩)) rfl<|VO.l (LO.len S24 (.r rfl) rfl) rfl<|VO.l (LO.fa (r := 0) F26_0 (.r rfl) rfl) rfl<|VO.l (LO.fa (r := 3) F23_3 (.r rfl) rfl) rfl<|VO.l (LO.ld O3 (.r rfl) (fun _ hw => cells_at hw 0 rfl ⟨_, rfl⟩)) rfl<|VO.l (LO.fa (r := 0) F26_0 (.r rfl) rfl) rfl<|VO.l (LO.fa (r := 4) F23_4 (.r rfl) rfl) rfl<|VO.l (LO.ld O3 (.r rfl) (fun _ hw => cells_at hw 0 rfl ⟨_, rfl⟩)) rfl<|VO.l (LO.mul (.r rfl) (.r rfl) (wi (by omega) (by omega))) rfl<|VO.l (LO.ne (.r rfl) (.r rfl)) rfl<|VO.nil ?_)
    refine VE.seqN ?_
    refine VC.cond rfl (fun h2 => ?_) (fun h2 => ?_)
    ·
      refine VC.seq ?_
      refine VC.reg (VO.l (LO.as (.r rfl)) rfl<|VO.nil ?_)
      refine VE.seqN ?_
      refine VC.ret (VE.thenR (VE.res (vs := [_]) rfl ⟨rfl, trivial⟩ (fun w hw => ?_)))
      refine ⟨?_, hw.nil⟩
      simp only [resV]
      congr 2
      first | exact fE1 (by simpa using h1) | exact fE2 hgo (by simpa using h2) | exact fE3 hgo (by simpa using h2) hz (by omega) (by unfold spanOk; omega) | exact fE4 hgo (by simpa using h2) hz (by omega)
    ·
      refine VC.skip (VE.seqN ?_)
      refine VC.seq ?_
      refine VC.seq ?_
      refine VC.reg (VO.l (LO.fa (r := 5) F26_1 (.r rfl) rfl) rfl<|VO.l (LO.ld O24 (.r rfl) (fun _ hw => cells_at hw 0 rfl ⟨_, rfl⟩)) rfl<|VO.l (LO.len S24 (.r rfl) rfl) rfl<|VO.l (LO.mv (.r rfl)) rfl<|VO.nil ?_)
      refine VE.seqN ?_
      refine VC.block ?_
      refine VC.loopK (α := Nat) 0 (fun gx => [(28, .int .i64 (gx : Nat))]) [(1,_), (26,_), (27,_)] (fun gx => []) (fun gx => gx ≤ f.vals.length ∧ ∀ k, k < gx → valE m f.vals k = 0) (fun gx => f.vals.length - gx) 0 (by exact ⟨by omega, fun k hk => by omega⟩) (.cons rfl (.cons rfl (.cons rfl (.cons rfl .nil)))) (fun _ h => h) ?_
      rintro j ⟨hj, hz⟩
      refine VC.seq ?_
      refine VC.reg (VO.l (LO.lt (.r rfl) (.r rfl)) rfl<|VO.nil ?_)
      refine VE.seqN ?_
      refine VC.seq ?_
      refine VC.cond rfl (fun h3 => ?_) (fun h3 => ?_)
      ·
        refine VC.skip (VE.seqN ?_)
        refine VC.seq ?_
        refine VC.block ?_
        refine VC.seq ?_
        refine VC.reg (VO.l (LO.ixs S24 N71 hv.some (.r rfl) (.r rfl) rfl (by omega)) rfl<|VO.l (LO.lda (vs := [_,_]) A71 (.r rfl) (fun w hw => cells_part (off := 0) ((hv.at (j := j) (by omega)) w hw) ⟨_, rfl⟩) rfl) rfl<|VO.h rfl<|HO.alloc (C := #[_,_]) Z71 rfl fun b2 => VO.h0<|HO.st 0 (vs := [_,_]) (C' := [_,_]) (L' := [_,_]) N71 rfl rfl rfl rfl rfl rfl rfl rfl<|VO.nil ?_)
        refine VE.seqN ?_
        refine VC.seq ?_
        refine VC.reg (VO.l (LO.fa (r := 0) F71_0 (.r rfl) rfl) rfl<|VO.l (LO.ld O3 (.r rfl) (fun _ hw => cells_at hw 0 rfl ⟨_, rfl⟩)) rfl<|VO.l (LO.lt (.r rfl) (.r rfl)) rfl<|VO.l (LO.mv (.r rfl)) rfl<|VO.lg rfl rfl (GD.f _) (fun hg => LO.fa (r := 1) F71_1 (.r rfl) rfl) rfl<|VO.lg rfl rfl (GD.f _) (fun hg => LO.ld O3 (.g hg rfl) (fun _ hw => cells_at hw 0 rfl ⟨_, rfl⟩)) rfl<|VO.lg rfl rfl (GD.f _) (fun hg => LO.fa (r := 0) F71_0 (.r rfl) rfl) rfl<|VO.lg rfl rfl (GD.f _) (fun hg => LO.ld O3 (.g hg rfl) (fun _ hw => cells_at hw 0 rfl ⟨_, rfl⟩)) rfl<|VO.lg rfl rfl (GD.f _) (fun hg => LO.lt (.g hg rfl) (.g hg rfl)) rfl<|VO.l (LO.pkO (.r rfl) (.r rfl) rfl rfl) rfl<|VO.l (LO.mv (.r rfl)) rfl<|VO.lg rfl rfl (GD.f _) (fun hg => LO.fa (r := 1) F71_1 (.r rfl) rfl) rfl<|VO.lg rfl rfl (GD.f _) (fun hg => LO.ld O3 (.g hg rfl) (fun _ hw => cells_at hw 0 rfl ⟨_, rfl⟩)) rfl<|VO.lg rfl rfl (GD.f _) (fun hg => LO.mv (.r rfl)) rfl<|VO.lg rfl rfl (GD.f _) (fun hg => LO.gt (.g hg rfl) (.g hg rfl)) rfl<|VO.l (LO.pkO (.r rfl) (.r rfl) rfl rfl) rfl<|VO.nil ?_)
        refine VE.seqN ?_
        refine VC.cond rfl (fun h4 => ?_) (fun h4 => ?_)
        ·
          refine VC.seq ?_
          refine VC.reg (VO.l (LO.as (.r rfl)) rfl<|VO.nil ?_)
          refine VE.seqN ?_
          refine VC.ret (VE.inR (VE.thenR (VE.thenR (VE.inR (VE.thenR (VE.res (vs := [_]) rfl ⟨rfl, trivial⟩ (fun w hw => ?_)))))))
          refine ⟨?_, hw.nil⟩
          simp only [resV]
          congr 2
          first | exact fE1 (by simpa using h1) | exact fE2 hgo (by simpa using h2) | exact fE3 hgo (by simpa using h2) hz (by omega) (by unfold spanOk; omega) | exact fE4 hgo (by simpa using h2) hz (by omega)
        ·
          refine VC.skip (VE.inN (VE.seqN ?_))
          refine VC.reg (VO.l (LO.add (.r rfl) (.r rfl) (wi (by omega) (by omega))) rfl<|VO.l (LO.mv (.r rfl)) rfl<|VO.nil ?_)
          refine VE.thenN fun a w ha hw => ⟨j + 1, ⟨by omega, step_zero hz (valE_zero (by unfold spanOk; omega))⟩, (by omega), ha.sub (.cons rfl (.cons rfl (.cons rfl (.cons rfl .nil)))), hw.sel [1] rfl⟩
      ·
        refine VC.exit (VE.thenX (VE.thenX (VE.inX (VE.seqN ?_))))
        refine VC.seq ?_
        refine VC.reg (VO.l (LO.as (.r rfl)) rfl<|VO.nil ?_)
        refine VE.seqN ?_
        refine VC.ret (VE.res (vs := [_]) rfl ⟨rfl, trivial⟩ (fun w hw => ?_))
        refine ⟨?_, hw.nil⟩
        simp only [resV]
        congr 2
        first | exact fE1 (by simpa using h1) | exact fE2 hgo (by simpa using h2) | exact fE3 hgo (by simpa using h2) hz (by omega) (by unfold spanOk; omega) | exact fE4 hgo (by simpa using h2) hz (by omega)

set_option maxRecDepth 20000 in
theorem bCheckField_c (f : Field) (pv : Option Addr) (cv : Nat) (w : World) (hv : Spans w pv f.vals) :
  Calls Try.prog 73 #[.agg #[.int .i64 f.g.x, .int .i64 f.g.y, .int .i64 f.g.size, .int .i64 f.g.wide, .int .i64 f.g.high, .slice pv f.vals.length cv]] w fun e w' => e = .returned (.int .i64 (fieldE 1073741824 f)) ∧ St (bs w) [] w' := by
  refine enter (vs := [_]) (env := [(0,_)]) Try.func73 rfl rfl rfl rfl ?_
  refine VC.seq ?_
  refine VC.reg (VO.h rfl<|HO.box (C := #[_,_,_,_,_,_]) rfl rfl fun b1 => VO.l (LO.as (.r rfl)) rfl<|VO.nil ?_)
  refine VE.seqN ?_
  refine VC.seq ?_
  refine VC.reg (VO.l (LO.lda (vs := [_,_,_,_,_,_]) A26 (.r rfl) (fun _ hw => cells_at hw 0 rfl ⟨_, rfl⟩) rfl) rfl<|VO.l (LO.call (xs := [_,_]) (vs := [_,_]) C108 ⟨(.r rfl), (.r rfl), trivial⟩ (fun w hw => bcheck_c f pv cv _ w (hv.keep w hw))) rfl<|VO.l (LO.as (.r rfl)) rfl<|VO.nil ?_)
  refine VE.seqN ?_
  refine VC.ret (VE.res (vs := [_]) rfl ⟨rfl, trivial⟩ (fun w hw => ?_))
  exact ⟨rfl, hw.nil⟩

end Go.Proofs.Ytgemekpofpoopaa

namespace Go.SL
set_option linter.unusedVariables false
open Go.RowKit

theorem St.of_perm {β : Bs} {L L' : List Res} {w : World} (h : St β L w) (hp : List.Perm L L') : St β L' w := by
  have mem : ∀ {r : Res}, r ∈ L' → ∃ i : Nat, L[i]? = some r := fun hr => by
    obtain ⟨i, hi, e⟩ := List.getElem_of_mem (hp.symm.subset hr)
    exact ⟨i, by rw [List.getElem?_eq_getElem hi, e]⟩
  have hpw : L.Pairwise (fun r s : Res => ∀ k, r.fp k → ¬ s.fp k) := List.pairwise_iff_getElem.2 fun i j hi hj hij k hk => h.dis i j _ _ (by omega) (List.getElem?_eq_getElem hi) (List.getElem?_eq_getElem hj) k hk
  have hpw' := (hp.pairwise_iff (fun {r s} (q : ∀ k, r.fp k → ¬ s.fp k) k hs hr => q k hr hs)).1 hpw
  refine ⟨h.os, h.tape, h.output, h.size, h.fr, ?_, ?_, ?_⟩
  · intro i r hr
    obtain ⟨j, hj⟩ := mem (List.mem_of_getElem? hr)
    exact h.inv j r hj
  · intro i r hr
    obtain ⟨j, hj⟩ := mem (List.mem_of_getElem? hr)
    exact h.rng j r hj
  · intro i j r s hij hr hs k hk hk2
    obtain ⟨hi, e1⟩ := List.getElem?_eq_some_iff.1 hr
    obtain ⟨hj, e2⟩ := List.getElem?_eq_some_iff.1 hs
    rcases Nat.lt_or_ge i j with q | q
    · have := List.pairwise_iff_getElem.1 hpw' i j hi hj q k
      rw [e1, e2] at this; exact this hk hk2
    · have := List.pairwise_iff_getElem.1 hpw' j i hj hi (by omega) k
      rw [e1, e2] at this; exact this hk2 hk

/-- A new block of a region: its operation, its slot, what the slot holds, its type and cells. -/
structure FS where
  i : Nat
  d : Nat
  val : Nat → Value
  T : TypeId
  C : Array Value
def FS.res (s : FS) (b : Nat) : Res := blk b (.cells s.C s.T)

def FO (P : Program) (env : Env) (o : Oper) (s : FS) : Prop :=
  o.dst = some s.d ∧ o.guard = none ∧ ∀ (a : Act) (w : World), (∀ x, x ∈ o.op.operands → ∀ u, ev env x = some u → a.eval x = u) → (execOp a.eval o).run P w = .ok (.value (s.val w.heap.size)) (w.alloc (.cells s.C s.T))

def isF (FT : List FS) (i : Nat) : Option FS := FT.find? fun s => Nat.beq s.i i

def HY (P : Program) (β : Bs) (N : Nat) (ds : List Deferred) (J : Nat → List Res) (Q : Exit → Act → World → Prop) (FT : List FS) : Nat → Nat → List Oper → List (Option Nat) → Env → List Res → Prop
  | _,_, [],_, env, L => VE β N ds env L .normal Q
  | m, i, o :: r, some _ :: ms, env, L => HY P β N ds J Q FT m (i + 1) r ms env L
  | m, i, o :: r, none :: ms, env, L =>
    (∃ s, isF FT i = some s ∧ ∀ b, (∀ w, St β (s.res b :: L) w → St β (J (m + 1)) w) ∧ HY P β N ds J Q FT (m + 1) (i + 1) r ms ((s.d, s.val b) :: env) (s.res b :: L)) ∨
    (isF FT i = none ∧ o.guard = none ∧ (∀ d, o.dst = some d → d < N) ∧ ∀ X, HO P β env (L ++ X) o fun v L'' => ∃ L', L'' = L' ++ X ∧ (∀ w, St β L' w → St β (J (m + 1)) w) ∧ HY P β N ds J Q FT (m + 1) (i + 1) r ms (putE o v env) L')
  | _,_,_ :: _, [],_,_ => False

section
variable {P : Program} {ro : Option Nat} {β : Bs} {ds : List Deferred} {N : Nat} {J : Nat → List Res} {Q : Exit → Act → World → Prop} {FT : List FS} {env : Env} {L : List Res}
theorem HY.nil {m i : Nat} {ms : List (Option Nat)} (h : VE β N ds env L .normal Q) : HY P β N ds J Q FT m i [] ms env L := h
theorem HY.s {m i k : Nat} {o : Oper} {rest : List Oper} {ms : List (Option Nat)} (h : HY P β N ds J Q FT m (i + 1) rest ms env L) : HY P β N ds J Q FT m i (o :: rest) (some k :: ms) env L := h
theorem HY.f {m i : Nat} {o : Oper} {rest : List Oper} {ms : List (Option Nat)} {s : FS} (hs : isF FT i = some s) (h : ∀ b, (∀ w, St β (s.res b :: L) w → St β (J (m + 1)) w) ∧ HY P β N ds J Q FT (m + 1) (i + 1) rest ms ((s.d, s.val b) :: env) (s.res b :: L)) : HY P β N ds J Q FT m i (o :: rest) (none :: ms) env L := .inl ⟨s, hs, h⟩
theorem HY.h {m i d : Nat} {op : Op} {ty : TypeId} {pos : String} {aft : Array Edge} {rest : List Oper} {ms : List (Option Nat)} (hs : isF FT i = none) (hd : Nat.blt d N = true)
    (h : ∀ X, HO P β env (L ++ X) ⟨some d, op, ty, pos, aft, none⟩ fun v L'' => ∃ L', L'' = L' ++ X ∧ (∀ w, St β L' w → St β (J (m + 1)) w) ∧ HY P β N ds J Q FT (m + 1) (i + 1) rest ms ((d, v) :: env) L') : HY P β N ds J Q FT m i (⟨some d, op, ty, pos, aft, none⟩ :: rest) (none :: ms) env L :=
  .inr ⟨hs, rfl, (fun d' hd' => by cases hd'; exact Nat.le_of_ble_eq_true hd), h⟩
theorem HY.h0 {m i : Nat} {op : Op} {ty : TypeId} {pos : String} {aft : Array Edge} {rest : List Oper} {ms : List (Option Nat)} (hs : isF FT i = none)
    (h : ∀ X, HO P β env (L ++ X) ⟨none, op, ty, pos, aft, none⟩ fun v L'' => ∃ L', L'' = L' ++ X ∧ (∀ w, St β L' w → St β (J (m + 1)) w) ∧ HY P β N ds J Q FT (m + 1) (i + 1) rest ms env L') : HY P β N ds J Q FT m i (⟨none, op, ty, pos, aft, none⟩ :: rest) (none :: ms) env L :=
  .inr ⟨hs, rfl, (fun d' hd' => by cases hd'), h⟩
theorem HY.drop {l : List Oper} {ms : List (Option Nat)} {m p : Nat} : ∀ (k : Nat), HY P β N ds J Q FT m p (l.drop p) (ms.drop p) env L → p + k ≤ l.length → (∀ i, p ≤ i → i < p + k → isLight ms i = true) → HY P β N ds J Q FT m (p + k) (l.drop (p + k)) (ms.drop (p + k)) env L
  | 0, h,_,_ => h
  | k + 1, h, hk, hl => by
    have ih := HY.drop k h (by omega) (fun i a b => hl i a (by omega))
    have hlt : p + k < l.length := by omega
    have hli := hl (p + k) (by omega) (by omega)
    rw [List.drop_eq_getElem_cons hlt] at ih
    cases q : ms[p + k]? with
    | none => simp [isLight, q] at hli
    | some x =>
      have hml : p + k < ms.length := (List.getElem?_eq_some_iff.1 q).1
      rw [List.drop_eq_getElem_cons hml] at ih
      have e : ms[p + k] = x := (List.getElem?_eq_some_iff.1 q).2
      rw [e] at ih
      cases x with
      | none => simp [isLight, q] at hli
      | some y => exact ih

def chkB (l : List Oper) (ms : List (Option Nat)) (js : List (List Nat)) (FT : List (Nat × Nat)) : Bool :=
  let cl := clOf l
  let n := l.length
  let isFi := fun i => FT.any fun s => Nat.beq s.1 i
  let isD := fun t => FT.any fun s => Nat.beq s.2 t
  nodupB (FT.map (·.1)) && nodupB (FT.map (·.2)) &&
  FT.all (fun s => Nat.blt s.1 n && isHeavy ms s.1 && dstIs l s.1 s.2) &&
  Nat.beq ms.length n && js.all nodupB && ((idxs js.length).all fun m => (js.getD (m + 1) []).all (js.getD m []).contains) &&
  (idxs n).all fun k =>
    match l[k]? with
    | none => false
    | some o =>
      o.after.toList.all (fun e => !Region.binds .any e || Nat.blt e.on k) &&
      (cl.getD k []).all (fun i => o.after.toList.any fun e => Region.binds .any e && (Nat.beq e.on i || (cl.getD e.on []).contains i)) &&
      o.after.toList.all (fun e => !Region.binds .any e || (cl.getD k []).contains e.on) &&
      (isLight ms k || isFi k || (idxs n).all fun i => !isHeavy ms i || !Nat.blt i k || (cl.getD k []).contains i) &&
      (match ms.getD k none with | some m => (idxs n).all fun i => !isHeavy ms i || Nat.blt (rank ms i) m || (cl.getD i []).contains k | none => true) &&
      (match o.dst with
       | none => !isLight ms k
       | some d => ((idxs n).all fun i => !dstIs l i d || !ahead ms i k || (cl.getD k []).contains i) && (isFi k || !isD d)) &&
      ((readsOf l.toArray o).all fun t => ((idxs n).all fun i => !dstIs l i t || ((!ahead ms i k || (cl.getD k []).contains i) && (!ahead ms k i || (cl.getD i []).contains k))) && (!(isLight ms k || isFi k) || !isD t) && (!isFi k || !(idxs n).any fun i => isHeavy ms i && dstIs l i t) && (FT.all fun s => !Nat.beq s.2 t || Nat.blt s.1 k))

structure ChkB (l : List Oper) (ms : List (Option Nat)) (js : List (List Nat)) (FT : List FS) : Prop where
  len : ms.length = l.length
  jn : ∀ m, nodupB (js.getD m []) = true
  js : ∀ m, (js.getD (m + 1) []).all (js.getD m []).contains = true
  fi : ∀ s, s ∈ FT → s.i < l.length ∧ isHeavy ms s.i = true ∧ dstIs l s.i s.d = true
  ni : (FT.map (·.i)).Nodup
  nd : (FT.map (·.d)).Nodup
  ops : ∀ k o, l[k]? = some o →
      (∀ e, e ∈ o.after.toList → Region.binds .any e = true → e.on < k) ∧
      (∀ i, i ∈ (clOf l).getD k [] → ∃ e, e ∈ o.after.toList ∧ Region.binds .any e = true ∧ (e.on = i ∨ i ∈ (clOf l).getD e.on [])) ∧
      (isHeavy ms k = true → isF FT k = none → ∀ i, i < k → isHeavy ms i = true → i ∈ (clOf l).getD k []) ∧
      (∀ m, ms[k]? = some (some m) → ∀ i, i < l.length → isHeavy ms i = true → rank ms i < m ∨ k ∈ (clOf l).getD i []) ∧
      (∀ d, o.dst = some d → (∀ i, i < l.length → dstIs l i d = true → ahead ms i k = true → i ∈ (clOf l).getD k []) ∧ (isF FT k = none → ∀ s, s ∈ FT → s.d ≠ d)) ∧
      (∀ t, t ∈ readsOf l.toArray o → (∀ i, i < l.length → dstIs l i t = true → (ahead ms i k = true → i ∈ (clOf l).getD k []) ∧ (ahead ms k i = true → k ∈ (clOf l).getD i [])) ∧
        ((isLight ms k = true ∨ isF FT k ≠ none) → ∀ s, s ∈ FT → s.d ≠ t) ∧ (isF FT k ≠ none → ∀ i, i < l.length → isHeavy ms i = true → dstIs l i t = false) ∧ ∀ s, s ∈ FT → s.d = t → s.i < k)

theorem isF_some {i : Nat} {s : FS} (h : isF FT i = some s) : s ∈ FT ∧ s.i = i := ⟨List.mem_of_find?_eq_some h, Nat.eq_of_beq_eq_true (List.find?_some (p := fun s : FS => Nat.beq s.i i) h)⟩
theorem isF_none {i : Nat} (h : isF FT i = none) : ∀ s, s ∈ FT → s.i ≠ i := fun s hs e => by
  have := List.find?_eq_none.1 h s hs
  rw [e] at this; simp at this
theorem isF_mem (hn : (FT.map (·.i)).Nodup) {s : FS} (hs : s ∈ FT) : isF FT s.i = some s := by
  cases q : isF FT s.i with
  | none => exact absurd rfl (isF_none q s hs)
  | some u =>
    obtain ⟨h1, h2⟩ := isF_some q
    have hnd := List.pairwise_iff_getElem.1 hn
    obtain ⟨p1, hp1, e1⟩ := List.getElem_of_mem h1
    obtain ⟨p2, hp2, e2⟩ := List.getElem_of_mem hs
    rcases Nat.lt_trichotomy p1 p2 with r | r | r
    · exact absurd (by rw [List.getElem_map, List.getElem_map, e1, e2, h2]) (hnd p1 p2 (by simpa using hp1) (by simpa using hp2) r)
    · subst r; rw [← e1, e2]
    · exact absurd (by rw [List.getElem_map, List.getElem_map, e1, e2, h2]) (hnd p2 p1 (by simpa using hp2) (by simpa using hp1) r)

theorem nodupB_nd : ∀ {l : List Nat}, nodupB l = true → l.Nodup := fun {l} h => by
  rw [List.Nodup, List.pairwise_iff_getElem]
  intro i j hi hj hij
  exact nodupB_spec h i j hi hj (by omega)
theorem beqne' {d t : Nat} (e : t ≠ d) : Nat.beq d t = false := by
  cases q : Nat.beq d t
  · rfl
  · exact absurd (Nat.eq_of_beq_eq_true q).symm e

theorem ChkB.of {l : List Oper} {ms : List (Option Nat)} {js : List (List Nat)} (h : chkB l ms js (FT.map fun s => (s.i, s.d)) = true) : ChkB l ms js FT := by
  unfold chkB at h
  simp only [Bool.and_eq_true] at h
  obtain ⟨⟨⟨⟨⟨⟨n1, n2⟩, n5⟩, h1⟩, h2⟩, h3⟩, h4⟩ := h
  have hlen := Nat.eq_of_beq_eq_true h1
  have key : ∀ k o, l[k]? = some o → _ := fun k o hk => by
    have hlt : k < l.length := (List.getElem?_eq_some_iff.1 hk).1
    have h5 := List.all_eq_true.1 h4 k (by simpa [idxs] using hlt)
    simp only [hk, Bool.and_eq_true] at h5
    exact h5
  have anyF : ∀ k, isF FT k = none → ((FT.map fun s => (s.i, s.d)).any fun s => Nat.beq s.1 k) = false := fun k hk => by
    cases q : (FT.map fun s => (s.i, s.d)).any fun s => Nat.beq s.1 k with
    | false => rfl
    | true =>
      obtain ⟨x, hx, e⟩ := List.any_eq_true.1 q
      obtain ⟨s, hs, rfl⟩ := List.mem_map.1 hx
      exact absurd (Nat.eq_of_beq_eq_true e) (isF_none hk s hs)
  have anyF' : ∀ k, isF FT k ≠ none → ((FT.map fun s => (s.i, s.d)).any fun s => Nat.beq s.1 k) = true := fun k hk => by
    cases q : isF FT k with
    | none => exact absurd q hk
    | some s =>
      obtain ⟨a, b⟩ := isF_some q
      exact List.any_eq_true.2 ⟨(s.i, s.d), List.mem_map.2 ⟨s, a, rfl⟩, by rw [b]; exact Nat.beq_refl _⟩
  have anyD : ∀ t, ((FT.map fun s => (s.i, s.d)).any fun s => Nat.beq s.2 t) = false → ∀ s, s ∈ FT → s.d ≠ t := fun t ht s hs e => by
    have : ((FT.map fun s => (s.i, s.d)).any fun s => Nat.beq s.2 t) = true := List.any_eq_true.2 ⟨(s.i, s.d), List.mem_map.2 ⟨s, hs, rfl⟩, by rw [e]; exact Nat.beq_refl _⟩
    rw [ht] at this; cases this
  have nl : ∀ k, k < l.length → isHeavy ms k = true → isLight ms k = false := fun k hk hh => by
    rcases light_or_heavy hlen hk with ⟨_, b,_⟩ | ⟨a,_,_⟩
    · rw [b] at hh; cases hh
    · exact a
  refine ⟨hlen, ?_, ?_, ?_, ?_, ?_, ?_⟩
  · intro m
    cases q : js[m]? with
    | none => simp [List.getD, q, nodupB]
    | some x => simp only [List.getD, q, Option.getD_some]; exact List.all_eq_true.1 h2 x (List.mem_of_getElem? q)
  · intro m
    rcases Nat.lt_or_ge m js.length with q | q
    · exact List.all_eq_true.1 h3 m (by simpa [idxs] using q)
    · have : js[m + 1]? = none := by simp; omega
      simp [List.getD, this]
  · intro s hs
    have := List.all_eq_true.1 n5 (s.i, s.d) (List.mem_map.2 ⟨s, hs, rfl⟩)
    simp only [Bool.and_eq_true] at this
    exact ⟨Nat.le_of_ble_eq_true this.1.1, this.1.2, this.2⟩
  · have := nodupB_nd n1; rwa [List.map_map] at this
  · have := nodupB_nd n2; rwa [List.map_map] at this
  · intro k o hk
    have hlt : k < l.length := (List.getElem?_eq_some_iff.1 hk).1
    obtain ⟨⟨⟨⟨⟨⟨a1, a2⟩, a3⟩, a4⟩, a5⟩, a6⟩, a7⟩ := key k o hk
    refine ⟨?_, ?_, ?_, ?_, ?_, ?_⟩
    · intro e he hb
      have := List.all_eq_true.1 a1 e he
      simp only [hb, Bool.not_true, Bool.false_or] at this
      exact Nat.le_of_ble_eq_true this
    · intro i hi
      have := List.all_eq_true.1 a2 i hi
      obtain ⟨e, he, hx⟩ := List.any_eq_true.1 this
      simp only [Bool.and_eq_true, Bool.or_eq_true] at hx
      exact ⟨e, he, hx.1, hx.2.imp Nat.eq_of_beq_eq_true (by simp)⟩
    · intro hh hf i hi hh2
      rw [nl k hlt hh, anyF k hf, Bool.false_or, Bool.false_or] at a4
      have := List.all_eq_true.1 a4 i (by simp [idxs]; omega)
      have hb : Nat.blt i k = true := Nat.ble_eq_true_of_le hi
      simpa [hh2, hb] using this
    · intro m hm i hi hh
      have e : ms.getD k none = some m := by simp [List.getD, hm]
      rw [e] at a5
      have := List.all_eq_true.1 a5 i (by simpa [idxs] using hi)
      simp only [hh, Bool.not_true, Bool.false_or, Bool.or_eq_true] at this
      exact this.imp (fun q => Nat.le_of_ble_eq_true q) (by simp)
    · intro d hd
      simp only [hd, Bool.and_eq_true] at a6
      refine ⟨fun i hi hw ha => ?_, fun hf => ?_⟩
      · have := List.all_eq_true.1 a6.1 i (by simpa [idxs] using hi)
        simpa [hw, ha] using this
      · have := a6.2
        rw [anyF k hf, Bool.false_or, Bool.not_eq_true'] at this
        exact anyD d this
    · intro t ht
      have := List.all_eq_true.1 a7 t ht
      simp only [Bool.and_eq_true] at this
      obtain ⟨⟨⟨b1, b2⟩, b3⟩, b4⟩ := this
      refine ⟨fun i hi hw => ?_, fun hor => ?_, fun hf i hi hh => ?_, fun s hs e => ?_⟩
      · have := List.all_eq_true.1 b1 i (by simpa [idxs] using hi)
        simp only [hw, Bool.not_true, Bool.false_or, Bool.and_eq_true] at this
        exact ⟨fun q => by simpa [q] using this.1, fun q => by simpa [q] using this.2⟩
      · have hc : (isLight ms k || (FT.map fun s => (s.i, s.d)).any fun s => Nat.beq s.1 k) = true := by
          rcases hor with q | q
          · rw [q, Bool.true_or]
          · rw [anyF' k q, Bool.or_true]
        rw [hc, Bool.not_true, Bool.false_or, Bool.not_eq_true'] at b2
        exact anyD t b2
      · rw [anyF' k hf, Bool.not_true, Bool.false_or, Bool.not_eq_true'] at b3
        cases q : dstIs l i t with
        | false => rfl
        | true =>
          have : ((idxs l.length).any fun i => isHeavy ms i && dstIs l i t) = true := List.any_eq_true.2 ⟨i, by simpa [idxs] using hi, by rw [hh, q]; rfl⟩
          rw [b3] at this; cases this
      · have := List.all_eq_true.1 b4 (s.i, s.d) (List.mem_map.2 ⟨s, hs, rfl⟩)
        rw [e] at this
        simp at this
        exact this

/-- 'p': how far the chain is; 'E': the new blocks that were laid early. -/
structure Hz (P : Program) (β : Bs) (N : Nat) (ds : List Deferred) (J : Nat → List Res) (Q : Exit → Act → World → Prop) (FT : List FS) (l : List Oper) (ms : List (Option Nat)) (V : Nat → Value) (env : Env) (listed : Array Bool) (p : Nat) (eh : Env) (L : List Res) (E : List (FS × Nat)) (a : Act) (w : World) : Prop where
  lsz : listed.size = l.length
  size : a.tmps.size = N
  dfr : a.defers = ds
  st : St β (L ++ E.map fun x => x.1.res x.2) w
  hJ : ∀ w, St β L w → St β (J (rank ms p)) w
  hp : p ≤ l.length
  hy : HY P β N ds J Q FT (rank ms p) p (l.drop p) (ms.drop p) (eh ++ envK l ms V env l.length) L
  eE : ∀ x, x ∈ E → x.1 ∈ FT ∧ p ≤ x.1.i
  en : (E.map fun x => x.1.i).Nodup
  hd : ∀ i, i < l.length → isHeavy ms i = true → (listed[i]? = some true ↔ i < p ∨ ∃ x, x ∈ E ∧ x.1.i = i)
  closed : ∀ j, listed[j]? = some true → ∀ i, i ∈ (clOf l).getD j [] → listed[i]? = some true
  sl : ∀ x, x ∈ E → a.tmps[x.1.d]? = some (x.1.val x.2)
  eh1 : ∀ t v, ev1 eh t = some v → a.tmps[t]? = some v
  eh2 : ∀ t, ev1 eh t = none → ∀ i, i < p → isHeavy ms i = true → dstIs l i t = false
  eh3 : ∀ t, ev1 eh t ≠ none → ∃ i, i < p ∧ isHeavy ms i = true ∧ dstIs l i t = true
  top : ∀ t k, ev1 eh t = none → (∀ s, s ∈ FT → s.d ≠ t) → k < l.length → isLight ms k = true → dstIs l k t = true → listed[k]? = some true → (∀ k', k' < l.length → isLight ms k' = true → dstIs l k' t = true → listed[k']? = some true → k' ≤ k) → a.tmps[t]? = some (V k)
  base : ∀ t, ev1 eh t = none → (∀ s, s ∈ FT → s.d ≠ t) → (∀ k, k < l.length → isLight ms k = true → dstIs l k t = true → listed[k]? ≠ some true) → ∀ v, ev1 env t = some v → a.tmps[t]? = some v

theorem inj_of_nodup {α γ : Type} {f : α → γ} {l : List α} (h : (l.map f).Nodup) {x y : α} (hx : x ∈ l) (hy : y ∈ l) (e : f x = f y) : x = y := by
  have hnd := List.pairwise_iff_getElem.1 h
  obtain ⟨p1, hp1, e1⟩ := List.getElem_of_mem hx
  obtain ⟨p2, hp2, e2⟩ := List.getElem_of_mem hy
  rcases Nat.lt_trichotomy p1 p2 with q | q | q
  · exact absurd (by rw [List.getElem_map, List.getElem_map, e1, e2, e]) (hnd p1 p2 (by simpa using hp1) (by simpa using hp2) q)
  · subst q; rw [← e1, e2]
  · exact absurd (by rw [List.getElem_map, List.getElem_map, e1, e2, e]) (hnd p2 p1 (by simpa using hp2) (by simpa using hp1) q)

theorem rank_lights {ms : List (Option Nat)} {p i : Nat} (hpi : p ≤ i) (hm : i ≤ ms.length) (h : ∀ k, p ≤ k → k < i → isLight ms k = true) : rank ms i = rank ms p := by
  have : ∀ k, p + k ≤ i → rank ms (p + k) = rank ms p := by
    intro k
    induction k with
    | zero => intro _; rfl
    | succ k ih =>
      intro hk
      have hlk := h (p + k) (by omega) (by omega)
      have hkl : p + k < ms.length := by omega
      rw [show p + (k + 1) = (p + k) + 1 by omega, rank_succ hkl, ih (by omega)]
      cases r : ms[p + k] with
      | none => simp [isLight, hkl, r] at hlk
      | some x => simp
  have := this (i - p) (by omega)
  rwa [show p + (i - p) = i by omega] at this

/-- The next of the chain was laid early: the chain goes on. -/
theorem Hz.catch {l : List Oper} {ms : List (Option Nat)} {js : List (List Nat)} {V : Nat → Value} {listed : Array Bool} {p : Nat} {eh : Env} {E : List (FS × Nat)} {a : Act} {w : World} (hc : ChkB l ms js FT)
    (h : Hz P β N ds J Q FT l ms V env listed p eh L E a w) {x : FS × Nat} (hx : x ∈ E) (hl : ∀ k, p ≤ k → k < x.1.i → isLight ms k = true) :
    ∃ eh' L' E', Hz P β N ds J Q FT l ms V env listed (x.1.i + 1) eh' L' E' a w ∧ E'.length < E.length := by
  obtain ⟨hxF, hpx⟩ := h.eE x hx
  obtain ⟨hil, hhv, hdx⟩ := hc.fi x.1 hxF
  have hy := HY.drop (x.1.i - p) h.hy (by omega) (fun k a b => hl k a (by omega))
  rw [show p + (x.1.i - p) = x.1.i by omega] at hy
  have hml : x.1.i < ms.length := by rw [hc.len]; exact hil
  have e2 : ms[x.1.i] = none := by
    have := hhv
    unfold isHeavy at this
    rw [List.getElem?_eq_getElem hml] at this
    cases q : ms[x.1.i] with
    | none => rfl
    | some y => rw [q] at this; cases this
  rw [List.drop_eq_getElem_cons hil, List.drop_eq_getElem_cons hml, e2] at hy
  have hF := isF_mem hc.ni hxF
  rcases hy with ⟨s, hs, hb⟩ | ⟨hn,_⟩
  · rw [hF] at hs
    cases hs
    obtain ⟨hb1, hb2⟩ := hb x.2
    obtain ⟨E1, E2, rfl⟩ := List.append_of_mem hx
    have hrk : rank ms x.1.i = rank ms p := rank_lights hpx (by omega) hl
    have hrk1 : rank ms (x.1.i + 1) = rank ms p + 1 := by rw [rank_succ hml, e2, hrk]; simp
    have hnd := h.en
    simp only [List.map_append, List.map_cons] at hnd
    have hne : ∀ y, y ∈ E1 ++ E2 → y.1.i ≠ x.1.i := fun y hy e => by
      have h2 := (List.nodup_append.1 hnd)
      rcases List.mem_append.1 hy with q | q
      · exact h2.2.2 _ (List.mem_map.2 ⟨y, q, rfl⟩) _ (by simp) e
      · exact (List.nodup_cons.1 h2.2.1).1 (List.mem_map.2 ⟨y, q, e⟩)
    have gt : ∀ y, y ∈ E1 ++ E2 → x.1.i + 1 ≤ y.1.i := fun y hy => by
      have hyE : y ∈ E1 ++ x :: E2 := by rcases List.mem_append.1 hy with q | q <;> simp [q]
      obtain ⟨hyF, hpy⟩ := h.eE y hyE
      have h1 := hne y hy
      rcases Nat.lt_or_ge y.1.i x.1.i with q | q
      · have h2 := hl y.1.i hpy q
        rcases light_or_heavy hc.len (hc.fi y.1 hyF).1 with ⟨_, b,_⟩ | ⟨b,_,_⟩
        · rw [(hc.fi y.1 hyF).2.1] at b; cases b
        · rw [b] at h2; cases h2
      · omega
    have hdi : ∀ t, dstIs l x.1.i t = Nat.beq x.1.d t := fun t => by
      unfold dstIs at hdx ⊢
      rw [List.getElem?_eq_getElem hil] at hdx ⊢
      cases q : (l[x.1.i]).dst with
      | none => simp [q] at hdx
      | some d' => simp only [q] at hdx ⊢; rw [Nat.eq_of_beq_eq_true hdx]
    refine ⟨(x.1.d, x.1.val x.2) :: eh, x.1.res x.2 :: L, E1 ++ E2, ⟨h.lsz, h.size, h.dfr, ?_, ?_, by omega, ?_, ?_, ?_, ?_, h.closed, ?_, ?_, ?_, ?_, ?_, ?_⟩, by simp⟩
    · refine h.st.of_perm ?_
      simp only [List.map_append, List.map_cons, List.cons_append, ← List.append_assoc]
      exact List.perm_middle
    · rw [hrk1]; exact hb1
    · rw [hrk1]; exact hb2
    · intro y hy
      have hyE : y ∈ E1 ++ x :: E2 := by rcases List.mem_append.1 hy with q | q <;> simp [q]
      exact ⟨(h.eE y hyE).1, gt y hy⟩
    · have h2 := (List.nodup_append.1 hnd)
      rw [List.map_append]
      refine List.nodup_append.2 ⟨h2.1, (List.nodup_cons.1 h2.2.1).2, fun a ha b hb => h2.2.2 a ha b (by simp [hb])⟩
    · intro i hi hh
      rw [h.hd i hi hh]
      constructor
      · rintro (q | ⟨y, hy, e⟩)
        · exact .inl (by omega)
        · by_cases r : y.1.i = x.1.i
          · exact .inl (by omega)
          · refine .inr ⟨y, ?_, e⟩
            rcases List.mem_append.1 hy with q | q
            · simp [q]
            · rcases List.mem_cons.1 q with rfl | q
              · exact absurd rfl r
              · simp [q]
      · rintro (q | ⟨y, hy, e⟩)
        · by_cases r : i = x.1.i
          · exact .inr ⟨x, by simp, r.symm⟩
          · left
            rcases Nat.lt_or_ge i p with s | s
            · exact s
            · have := hl i s (by omega)
              rcases light_or_heavy hc.len hi with ⟨_, b,_⟩ | ⟨b,_,_⟩
              · rw [b] at hh; cases hh
              · rw [b] at this; cases this
        · exact .inr ⟨y, by rcases List.mem_append.1 hy with q | q <;> simp [q], e⟩
    · intro y hy
      exact h.sl y (by rcases List.mem_append.1 hy with q | q <;> simp [q])
    · intro t v hv
      by_cases e : t = x.1.d
      · subst e
        rw [ev1_cons_eq] at hv
        cases hv
        exact h.sl x hx
      · rw [ev1_cons_ne e] at hv; exact h.eh1 t v hv
    · intro t hn i hi hh
      have e : t ≠ x.1.d := fun e => by subst e; rw [ev1_cons_eq] at hn; cases hn
      rw [ev1_cons_ne e] at hn
      by_cases r : i = x.1.i
      · rw [r, hdi]; exact beqne' e
      · refine h.eh2 t hn i ?_ hh
        rcases Nat.lt_or_ge i p with s | s
        · exact s
        · have := hl i s (by omega)
          rcases light_or_heavy hc.len (show i < l.length by omega) with ⟨_, b,_⟩ | ⟨b,_,_⟩
          · rw [b] at hh; cases hh
          · rw [b] at this; cases this
    · intro t hn
      by_cases e : t = x.1.d
      · subst e; exact ⟨x.1.i, by omega, hhv, hdx⟩
      · rw [ev1_cons_ne e] at hn
        obtain ⟨i, a, b, c⟩ := h.eh3 t hn
        exact ⟨i, by omega, b, c⟩
    · intro t k hn hs
      have e : t ≠ x.1.d := fun e => hs x.1 hxF e.symm
      rw [ev1_cons_ne e] at hn
      exact h.top t k hn hs
    · intro t hn hs
      have e : t ≠ x.1.d := fun e => hs x.1 hxF e.symm
      rw [ev1_cons_ne e] at hn
      exact h.base t hn hs
  · rw [hF] at hn; cases hn

/-- The next of the chain was not laid. -/
def Nrm (l : List Oper) (ms : List (Option Nat)) (listed : Array Bool) (p : Nat) : Prop := ∀ i, p ≤ i → i < l.length → isHeavy ms i = true → (∀ k, p ≤ k → k < i → isLight ms k = true) → listed[i]? ≠ some true

theorem Hz.norm {l : List Oper} {ms : List (Option Nat)} {js : List (List Nat)} {V : Nat → Value} {listed : Array Bool} {a : Act} {w : World} (hc : ChkB l ms js FT) : ∀ (n : Nat) {p : Nat} {eh : Env} {L : List Res} {E : List (FS × Nat)}, E.length = n →
    Hz P β N ds J Q FT l ms V env listed p eh L E a w → ∃ p' eh' L' E', Hz P β N ds J Q FT l ms V env listed p' eh' L' E' a w ∧ Nrm l ms listed p' := by
  intro n
  induction n using Nat.strongRecOn with
  | _ n ih =>
    intro p eh L E hn h
    by_cases q : Nrm l ms listed p
    · exact ⟨p, eh, L, E, h, q⟩
    · unfold Nrm at q
      simp only [Classical.not_forall] at q
      obtain ⟨i, h1, h2, h3, h4, h5⟩ := q
      have h5 := Classical.not_not.1 h5
      rcases (h.hd i h2 h3).1 h5 with r | ⟨x, hx, e⟩
      · omega
      · subst e
        obtain ⟨eh', L', E', hz, hlt⟩ := h.catch hc hx h4
        exact ih E'.length (by omega) rfl hz

set_option maxHeartbeats 2000000 in
theorem Hz.step {l : List Oper} {ms : List (Option Nat)} {js : List (List Nat)} {L0 : List Res} {V : Nat → Value} {listed : Array Bool} {p : Nat} {eh : Env} {E : List (FS × Nat)} {a : Act} {w : World} {Q' : Exit → Act → World → Prop} (hc : ChkB l ms js FT) (hJe : J = fun m => sel L0 (js.getD m []))
    (hV : ∀ k o m, l[k]? = some o → ms[k]? = some (some m) → ∃ d, o.dst = some d ∧ d < N ∧ ∀ L, (∀ w, St β L w → St β (J m) w) → OpOk P β l.toArray L o (envK l ms V env k) (V k))
    (hF : ∀ s, s ∈ FT → s.d < N ∧ ∃ o, l[s.i]? = some o ∧ FO P (envK l ms V env l.length) o s)
    (h : Hz P β N ds J Q FT l ms V env listed p eh L E a w) (hn : Nrm l ms listed p) {i : Nat} (hi : i ∈ Region.ready .any l.toArray listed) {K : Act → World → Prop}
    (hK : ∀ p' eh' L' E' a' w', Hz P β N ds J Q FT l ms V env (listed.setIfInBounds i true) p' eh' L' E' a' w' → K a' w') : wpOpIn (Wf ro) 0 P l.toArray Q' i K a w := by
  have hlen := hc.len
  simp only [Region.ready, List.mem_filter, List.mem_range, Bool.and_eq_true, Bool.not_eq_true'] at hi
  obtain ⟨hin, hnl, hready⟩ := hi
  have hil : i < l.length := by simpa using hin
  have hiz : i < listed.size := by rw [h.lsz]; exact hil
  obtain ⟨o, ho⟩ : ∃ o, l[i]? = some o := ⟨l[i], by simp [hil]⟩
  have hnot : listed[i]? ≠ some true := by
    intro e
    have : listed.getD i true = true := by simp [e]
    rw [this] at hnl; cases hnl
  have hdone : ∀ e, e ∈ o.after.toList → Region.binds .any e = true → listed[e.on]? = some true := by
    intro e he hb
    have h1 : (o.after.all fun e => !Region.binds .any e || listed.getD e.on false) = true := by simpa [ho] using hready
    have h2 := (Array.all_eq_true_iff_forall_mem.1 h1) e (by simpa using he)
    simp only [hb, Bool.not_true, Bool.false_or] at h2
    cases q : listed[e.on]? with
    | none => simp [q] at h2
    | some b => simp [q] at h2; rw [h2]
  obtain ⟨c1, c2, c3, c4, c5, c6⟩ := hc.ops i o ho
  have hcl : ∀ j, j ∈ (clOf l).getD i [] → listed[j]? = some true := by
    intro j hj
    obtain ⟨e, he, hb, hx⟩ := c2 j hj
    rcases hx with rfl | hx
    · exact hdone e he hb
    · exact h.closed _ (hdone e he hb) j hx
  have closed' : ∀ j, (listed.setIfInBounds i true)[j]? = some true → ∀ k, k ∈ (clOf l).getD j [] → (listed.setIfInBounds i true)[k]? = some true := by
    intro j hj k hk
    rw [get_set_true hiz] at hj ⊢
    rcases hj with rfl | hj
    · exact .inr (hcl k hk)
    · exact .inr (h.closed j hj k hk)
  have ho' : l.toArray[i]? = some o := by simpa using ho
  have dstI : ∀ d, o.dst = some d → ∀ t, dstIs l i t = Nat.beq d t := by
    intro d hd t; simp [dstIs, ho, hd]
  have hEl : ∀ x, x ∈ E → listed[x.1.i]? = some true := fun x hx => (h.hd _ (hc.fi x.1 (h.eE x hx).1).1 (hc.fi x.1 (h.eE x hx).1).2.1).2 (.inr ⟨x, hx, rfl⟩)
  have before : ∀ t, t ∈ readsOf l.toArray o → ∀ k, k < l.length → dstIs l k t = true → ahead ms k i = true → listed[k]? = some true := fun t ht k hk hw ha => hcl k (((c6 t ht).1 k hk hw).1 ha)
  have behind : ∀ t, t ∈ readsOf l.toArray o → ∀ k, k < l.length → dstIs l k t = true → ahead ms i k = true → listed[k]? ≠ some true := fun t ht k hk hw ha hl => hnot (h.closed k hl i (((c6 t ht).1 k hk hw).2 ha))
  unfold wpOpIn
  simp only [ho']
  rcases light_or_heavy hlen hil with ⟨hli, hhv, m, hm⟩ | ⟨hli, hhv, hm⟩
  · -- a light one
    obtain ⟨d, hd, hdN, hok⟩ := hV i o m ho hm
    have hfn : isF FT i = none := by
      cases q : isF FT i with
      | none => rfl
      | some s =>
        obtain ⟨h1, h2⟩ := isF_some q
        have := (hc.fi s h1).2.1
        rw [h2, hhv] at this; cases this
    have hnd : ∀ s, s ∈ FT → s.d ≠ d := (c5 d hd).2 hfn
    have hstage : rank ms p ≤ m := by
      rcases Nat.lt_or_ge m (rank ms p) with q | q
      · exfalso
        obtain ⟨j, hjp, hjh, hjr⟩ := rank_find (ms := ms) (m := m) p (by rw [hlen]; exact h.hp) q
        have hjl : j < l.length := Nat.lt_of_lt_of_le hjp h.hp
        rcases c4 m hm j hjl hjh with r | r
        · omega
        · exact hnot (h.closed j ((h.hd j hjl hjh).2 (.inl hjp)) i r)
      · exact q
    have hJm : ∀ w, St β (L ++ E.map fun x => x.1.res x.2) w → St β (J m) w := by
      intro w hw
      have h1 : St β L w := by
        have hw2 := hw.of_perm (List.perm_append_comm (l₁ := L) (l₂ := E.map fun x => x.1.res x.2))
        exact St.callG (L1 := E.map fun x => x.1.res x.2) (L2 := L) (R := []) (O := fun _ => False) hw2 (fun _ f => f.elim) (St.refl w)
      have := h.hJ w h1
      rw [hJe] at this ⊢
      exact J_mono hc.jn hc.js hstage this
    have hno : ev1 eh d = none := by
      cases q : ev1 eh d with
      | none => rfl
      | some v =>
        exfalso
        obtain ⟨k, hkp, hkh, hkd⟩ := h.eh3 d (by rw [q]; simp)
        have hkl : k < l.length := Nat.lt_of_lt_of_le hkp h.hp
        have hnl : isLight ms k = false := by
          rcases light_or_heavy hlen hkl with ⟨_, b,_⟩ | ⟨a,_,_⟩
          · rw [b] at hkh; cases hkh
          · exact a
        obtain ⟨_,_,_,_, g5,_⟩ := hc.ops k l[k] (by simp [hkl])
        have hkd' : l[k].dst = some d := by
          simp only [dstIs, List.getElem?_eq_getElem hkl] at hkd
          cases r : l[k].dst with
          | none => simp [r] at hkd
          | some d' => simp only [r] at hkd; rw [Nat.eq_of_beq_eq_true hkd]
        exact hnot (h.closed k ((h.hd k hkl hkh).2 (.inl hkp)) i ((g5 d hkd').1 i hil (by rw [dstI d hd]; exact Nat.beq_refl _) (by simp [ahead, hli, hnl])))
    have fin : ∀ w', St β (L ++ E.map fun x => x.1.res x.2) w' → Hz P β N ds J Q FT l ms V env (listed.setIfInBounds i true) p eh L E (a.put (some d) (V i)) w' := by
      intro w' hs
      refine ⟨by simp [h.lsz], by simp [Act.put, h.size], h.dfr, hs, h.hJ, h.hp, h.hy, h.eE, h.en, ?_, closed', ?_, ?_, h.eh2, h.eh3, ?_, ?_⟩
      · intro k hk hkh
        rw [get_set_true hiz, ← h.hd k hk hkh]
        have : k ≠ i := fun e => by subst e; rw [hhv] at hkh; cases hkh
        simp [this]
      · intro x hx
        have e : x.1.d ≠ d := hnd x.1 (h.eE x hx).1
        simp only [Act.put]
        rw [Array.getElem?_setIfInBounds_ne (Ne.symm e)]
        exact h.sl x hx
      · intro t v hv
        have e : t ≠ d := fun e => by subst e; rw [hno] at hv; cases hv
        simp only [Act.put]
        rw [Array.getElem?_setIfInBounds_ne (Ne.symm e)]
        exact h.eh1 t v hv
      · intro t k hn hns hk hkl hkd hdn hmax
        by_cases e : t = d
        · subst e
          have hki : k = i := by
            have g := hmax i hil hli (by rw [dstI t hd]; exact Nat.beq_refl _) ((get_set_true hiz).2 (.inl rfl))
            rcases Nat.lt_or_ge i k with q | q
            · exfalso
              have hl' : listed[k]? = some true := by
                rcases (get_set_true hiz).1 hdn with e | e
                · omega
                · exact e
              obtain ⟨_,_,_,_, g5,_⟩ := hc.ops k l[k] (by simp [hk])
              have hkd' : l[k].dst = some t := by
                simp only [dstIs, List.getElem?_eq_getElem hk] at hkd
                cases r : l[k].dst with
                | none => simp [r] at hkd
                | some d' => simp only [r] at hkd; rw [Nat.eq_of_beq_eq_true hkd]
              exact hnot (h.closed k hl' i ((g5 t hkd').1 i hil (by rw [dstI t hd]; exact Nat.beq_refl _) (by simp only [ahead, hli, hkl, if_true]; exact Nat.ble_eq_true_of_le q)))
            · omega
          subst hki
          simp [Act.put, h.size, hdN]
        · have hki : k ≠ i := fun q => by subst q; rw [dstI d hd, beqne' e] at hkd; cases hkd
          simp only [Act.put]
          rw [Array.getElem?_setIfInBounds_ne (Ne.symm e)]
          refine h.top t k hn hns hk hkl hkd ?_ fun k' a b c d => hmax k' a b c ((get_set_true hiz).2 (.inr d))
          rcases (get_set_true hiz).1 hdn with q | q
          · exact absurd q hki
          · exact q
      · intro t hn hns hnone v hv
        have e : t ≠ d := fun q => by subst q; exact hnone i hil hli (by rw [dstI t hd]; exact Nat.beq_refl _) ((get_set_true hiz).2 (.inl rfl))
        simp only [Act.put]
        rw [Array.getElem?_setIfInBounds_ne (Ne.symm e)]
        exact h.base t hn hns (fun k a b c d => hnone k a b c ((get_set_true hiz).2 (.inr d))) v hv
    have rd : ∀ t, t ∈ readsOf l.toArray o → ∀ u, ev1 (envK l ms V env i) t = some u → a.tmps[t]? = some u := by
      intro t ht u hu
      have hns : ∀ s, s ∈ FT → s.d ≠ t := (c6 t ht).2.1 (.inl hli)
      have hno : ev1 eh t = none := by
        cases q : ev1 eh t with
        | none => rfl
        | some v =>
          exfalso
          obtain ⟨k, hkp, hkh, hkd⟩ := h.eh3 t (by rw [q]; simp)
          have hkl : k < l.length := Nat.lt_of_lt_of_le hkp h.hp
          have hnl : isLight ms k = false := by
            rcases light_or_heavy hlen hkl with ⟨_, b,_⟩ | ⟨a,_,_⟩
            · rw [b] at hkh; cases hkh
            · exact a
          exact behind t ht k hkl hkd (by simp [ahead, hli, hnl]) ((h.hd k hkl hkh).2 (.inl hkp))
      have late : ∀ k', k' < l.length → isLight ms k' = true → dstIs l k' t = true → listed[k']? = some true → k' < i := by
        intro k' hk' hl' hd' hdn
        rcases Nat.lt_trichotomy k' i with q | q | q
        · exact q
        · subst q; exact absurd hdn hnot
        · exact absurd hdn (behind t ht k' hk' hd' (by simp only [ahead, hli, hl', if_true]; exact Nat.ble_eq_true_of_le q))
      rcases ev1_envK l ms V env t u i hu with ⟨k, h1, h2, h3, h4, h5⟩ | ⟨h1, h2⟩
      · rw [← h4]
        refine h.top t k hno hns (by omega) h2 h3 (before t ht k (by omega) h3 (by simp only [ahead, hli, h2, if_true]; exact Nat.ble_eq_true_of_le h1)) fun k' a b c d => ?_
        rcases Nat.lt_or_ge k k' with q | q
        · have := h5 k' q (late k' a b c d) b
          rw [c] at this; cases this
        · exact q
      · refine h.base t hno hns (fun k a b c d => ?_) u h2
        have := h1 k (late k a b c d) b
        rw [c] at this; cases this
    have opr : ∀ x, x ∈ o.op.operands → ∀ u, ev (envK l ms V env i) x = some u → a.eval x = u := by
      intro x hx u hu
      cases x with
      | tmp t =>
        have := rd t (List.mem_append_left _ (List.mem_filterMap.2 ⟨.tmp t, by simpa using hx, rfl⟩)) u hu
        simp [Act.eval, this]
      | const c => simpa [ev, Act.eval] using hu
      | global g => simpa [ev, Act.eval] using hu
      | func f => simpa [ev, Act.eval] using hu
    have hok' := hok _ hJm
    generalize hVi : V i = vi at hok' fin
    rcases hok' with ⟨hg, hlo⟩ | ⟨j, want, t, u, c, v', hg, hj, ht, hgd, hlo, rfl⟩
    · rw [if_pos (by simp [Region.wanted, hg])]
      exact (hlo a w opr h.st).wp (ro := ro) (Q := Q') (K := K) fun w' hs => by rw [hd]; exact hK _ _ _ _ _ _ (fin w' hs)
    · have ht' : a.tmps[t]? = some u := rd t (List.mem_append_right _ (by rw [hg]; show t ∈ ((l.toArray[j]?).bind (·.dst)).toList; rw [hj]; simp)) u ht
      have hy : yielded l.toArray a.tmps j = vb u := by
        unfold yielded; rw [hj]; simp only [Option.bind_some, ht']; cases u <;> rfl
      simp only [Region.wanted, hg, hy]
      cases c with
      | true =>
        have hu := hgd.1 rfl
        subst hu
        simp only [vb, beq_self_eq_true, if_true]
        exact (hlo rfl a w opr h.st).wp (ro := ro) (Q := Q') (K := K) fun w' hs => by
          rw [hd]
          have := fin w' hs
          rw [show gv true v' = v' from rfl] at this
          exact hK _ _ _ _ _ _ this
      | false =>
        have hu := hgd.2 rfl
        have hne := vb_ne hu
        simp only [hne, Bool.false_eq_true, if_false]
        have := fin w h.st
        rw [show gv false v' = undef from rfl] at this
        rw [hd]
        exact ⟨fun _ _ => True.intro, hK _ _ _ _ _ _ this⟩
  · have hpi : p ≤ i := by
      rcases Nat.lt_or_ge i p with q | q
      · exact absurd ((h.hd i hil hhv).2 (.inl q)) hnot
      · exact q
    -- what the heavy ones read
    have rd : ∀ t, t ∈ readsOf l.toArray o → ∀ u, ev1 (eh ++ envK l ms V env l.length) t = some u → (ev1 eh t = none → ∀ s, s ∈ FT → s.d ≠ t) → a.tmps[t]? = some u := by
      intro t ht u hu hns
      rw [ev1_append] at hu
      cases q : ev1 eh t with
      | some v => rw [q] at hu; simp only [Option.some.injEq] at hu; subst hu; exact h.eh1 t v q
      | none =>
        rw [q] at hu
        simp only at hu
        rcases ev1_envK l ms V env t u l.length hu with ⟨k, h1, h2, h3, h4, h5⟩ | ⟨h1, h2⟩
        · rw [← h4]
          refine h.top t k q (hns q) h1 h2 h3 (before t ht k h1 h3 (by simp [ahead, hli, h2])) fun k' a b c d => ?_
          rcases Nat.lt_or_ge k k' with r | r
          · have := h5 k' r a b
            rw [c] at this; cases this
          · exact r
        · refine h.base t q (hns q) (fun k a b c d => ?_) u h2
          have := h1 k a b
          rw [c] at this; cases this
    cases hf : isF FT i with
    | some s =>
      -- a new block
      obtain ⟨hsF, hsi⟩ := isF_some hf
      obtain ⟨hdN, o2, ho2, hfo⟩ := hF s hsF
      rw [hsi, ho] at ho2
      cases ho2
      obtain ⟨hdst, hg, hrun⟩ := hfo
      rw [if_pos (by simp [Region.wanted, hg])]
      have opr : ∀ x, x ∈ o.op.operands → ∀ u, ev (envK l ms V env l.length) x = some u → a.eval x = u := by
        intro x hx u hu
        cases x with
        | tmp t =>
          have ht : t ∈ readsOf l.toArray o := List.mem_append_left _ (List.mem_filterMap.2 ⟨.tmp t, by simpa using hx, rfl⟩)
          have hno : ev1 eh t = none := by
            cases q : ev1 eh t with
            | none => rfl
            | some v =>
              obtain ⟨k, hkp, hkh, hkd⟩ := h.eh3 t (by rw [q]; simp)
              have := (c6 t ht).2.2.1 (by rw [hf]; simp) k (Nat.lt_of_lt_of_le hkp h.hp) hkh
              rw [hkd] at this; cases this
          have := rd t ht u (by rw [ev1_append, hno]; exact hu) (fun _ => (c6 t ht).2.1 (.inr (by rw [hf]; simp)))
          simp [Act.eval, this]
        | const c => simpa [ev, Act.eval] using hu
        | global g => simpa [ev, Act.eval] using hu
        | func f => simpa [ev, Act.eval] using hu
      have hrun' := hrun a w opr
      have hho : HO P β (envK l ms V env l.length) (L ++ E.map fun x => x.1.res x.2) o fun v L' => ∃ b, v = s.val b ∧ L' = s.res b :: (L ++ E.map fun x => x.1.res x.2) := by
        intro a w hx hw
        exact .inl ⟨_,_,_,_, hrun a w hx, .inl rfl, ⟨w.heap.size, rfl, rfl⟩, hw.alloc _⟩
      refine hho.wp (ro := ro) (Q := Q') opr h.st fun v L' w' hk hst => ?_
      obtain ⟨b, rfl, rfl⟩ := hk
      have hfresh : ∀ x, x ∈ E → x.1.i ≠ i := fun x hx e => hnot (by rw [← e]; exact hEl x hx)
      have hold : ∀ t, ev1 eh t ≠ none → t ≠ s.d := fun t hne e => by
        obtain ⟨k, hkp, hkh, hkd⟩ := h.eh3 t hne
        have hkl : k < l.length := Nat.lt_of_lt_of_le hkp h.hp
        have hki : k ≠ i := by omega
        have hkd' : l[k].dst = some t := by
          simp only [dstIs, List.getElem?_eq_getElem hkl] at hkd
          cases r : l[k].dst with
          | none => simp [r] at hkd
          | some d' => simp only [r] at hkd; rw [Nat.eq_of_beq_eq_true hkd]
        cases q : isF FT k with
        | none => exact ((hc.ops k l[k] (by simp [hkl])).2.2.2.2.1 t hkd').2 q s hsF e.symm
        | some s2 =>
          obtain ⟨g1, g2⟩ := isF_some q
          have hd2 := (hc.fi s2 g1).2.2
          rw [g2] at hd2
          simp only [dstIs, List.getElem?_eq_getElem hkl, hkd'] at hd2
          have e2 : t = s2.d := Nat.eq_of_beq_eq_true hd2
          have := inj_of_nodup hc.nd g1 hsF (by show s2.d = s.d; rw [← e2, e])
          rw [this] at g2; omega
      refine hK p eh L ((s, b) :: E) _ w' ⟨by simp [h.lsz], by rw [hdst]; simp [Act.put, h.size], by rw [hdst]; exact h.dfr, ?_, h.hJ, h.hp, h.hy, ?_, ?_, ?_, closed', ?_, ?_, h.eh2, h.eh3, ?_, ?_⟩
      · exact hst.of_perm (by simpa using (List.perm_middle (a := s.res b) (l₁ := L) (l₂ := E.map fun x => x.1.res x.2)).symm)
      · intro x hx
        rcases List.mem_cons.1 hx with rfl | hx
        · exact ⟨hsF, by show p ≤ s.i; omega⟩
        · exact h.eE x hx
      · rw [List.map_cons, List.nodup_cons]
        refine ⟨fun hm => ?_, h.en⟩
        obtain ⟨x, hx, e⟩ := List.mem_map.1 hm
        exact hfresh x hx (by rw [e]; exact hsi)
      · intro k hk hkh
        rw [get_set_true hiz, h.hd k hk hkh]
        constructor
        · rintro (rfl | q | ⟨x, hx, e⟩)
          · exact .inr ⟨(s, b), by simp, hsi⟩
          · exact .inl q
          · exact .inr ⟨x, by simp [hx], e⟩
        · rintro (q | ⟨x, hx, e⟩)
          · exact .inr (.inl q)
          · rcases List.mem_cons.1 hx with rfl | hx
            · left; rw [← e]; exact hsi
            · exact .inr (.inr ⟨x, hx, e⟩)
      · intro x hx
        rw [hdst]
        rcases List.mem_cons.1 hx with rfl | hx
        · simp [Act.put, h.size, hdN]
        · have hne : x.1.d ≠ s.d := fun e => by
            have := inj_of_nodup hc.nd (h.eE x hx).1 hsF e
            exact hfresh x hx (by rw [this]; exact hsi)
          simp only [Act.put]
          rw [Array.getElem?_setIfInBounds_ne (Ne.symm hne)]
          exact h.sl x hx
      · intro t v hv
        rw [hdst]
        have e : t ≠ s.d := hold t (by rw [hv]; simp)
        simp only [Act.put]
        rw [Array.getElem?_setIfInBounds_ne (Ne.symm e)]
        exact h.eh1 t v hv
      · intro t k hn hns hk hkl hkd hdn hmax
        have hki : k ≠ i := fun e => by subst e; rw [hli] at hkl; cases hkl
        rw [hdst]
        simp only [Act.put]
        rw [Array.getElem?_setIfInBounds_ne (hns s hsF)]
        refine h.top t k hn hns hk hkl hkd ?_ fun k' a b c d => hmax k' a b c ((get_set_true hiz).2 (.inr d))
        rcases (get_set_true hiz).1 hdn with q | q
        · exact absurd q hki
        · exact q
      · intro t hn hns hnone v hv
        rw [hdst]
        simp only [Act.put]
        rw [Array.getElem?_setIfInBounds_ne (hns s hsF)]
        exact h.base t hn hns (fun k a b c d => hnone k a b c ((get_set_true hiz).2 (.inr d))) v hv
    | none =>
      -- the next of the chain
      have hall : ∀ k, k < i → isHeavy ms k = true → listed[k]? = some true := fun k hk hh => hcl k (c3 hhv hf k hk hh)
      have hlights : ∀ k, p ≤ k → k < i → isLight ms k = true := by
        -- the first heavy one behind p would be laid
        refine Classical.byContradiction fun hcon => ?_
        simp only [Classical.not_forall] at hcon
        obtain ⟨k, hk1, hk2, hk3⟩ := hcon
        have hmin : ∃ j, (p ≤ j ∧ j < i ∧ isLight ms j = false) ∧ ∀ j', p ≤ j' → j' < j → isLight ms j' = true := by
          have : ∀ n j, j = n → p ≤ j → j < i → isLight ms j = false → ∃ j, (p ≤ j ∧ j < i ∧ isLight ms j = false) ∧ ∀ j', p ≤ j' → j' < j → isLight ms j' = true := by
            intro n
            induction n using Nat.strongRecOn with
            | _ n ih =>
              rintro j rfl h1 h2 h3
              by_cases q : ∀ j', p ≤ j' → j' < j → isLight ms j' = true
              · exact ⟨j, ⟨h1, h2, h3⟩, q⟩
              · simp only [Classical.not_forall] at q
                obtain ⟨j', q1, q2, q3⟩ := q
                exact ih j' q2 j' rfl q1 (by omega) (by simpa using q3)
          exact this k k rfl hk1 hk2 (by simpa using hk3)
        obtain ⟨j, ⟨j1, j2, j3⟩, j4⟩ := hmin
        have hjl : j < l.length := by omega
        have hjh : isHeavy ms j = true := by
          rcases light_or_heavy hlen hjl with ⟨a,_,_⟩ | ⟨_, b,_⟩
          · rw [a] at j3; cases j3
          · exact b
        exact hn j j1 hjl hjh j4 (hall j j2 hjh)
      have hy := HY.drop (i - p) h.hy (by omega) (fun k a b => hlights k a (by omega))
      rw [show p + (i - p) = i by omega] at hy
      have hml : i < ms.length := by omega
      have e1 : l[i] = o := by simpa [List.getElem?_eq_getElem hil] using ho
      have e2 : ms[i] = none := by simpa [List.getElem?_eq_getElem hml] using hm
      rw [List.drop_eq_getElem_cons hil, List.drop_eq_getElem_cons hml, e1, e2] at hy
      have hrk : rank ms i = rank ms p := rank_lights hpi (by omega) hlights
      have hrk1 : rank ms (i + 1) = rank ms p + 1 := by rw [rank_succ hml, e2, hrk]; simp
      rcases hy with ⟨s, hs,_⟩ | ⟨_, hg, hdN, hho⟩
      · rw [hf] at hs; cases hs
      have hnsE : ∀ t, t ∈ readsOf l.toArray o → ev1 eh t = none → ∀ s, s ∈ FT → s.d ≠ t := fun t ht hno s hs e => by
        have h1 := (c6 t ht).2.2.2 s hs e
        obtain ⟨g1, g2, g3⟩ := hc.fi s hs
        rw [e] at g3
        have h2 : s.i < p := by
          rcases Nat.lt_or_ge s.i p with q | q
          · exact q
          · have := hlights s.i q h1
            rcases light_or_heavy hlen g1 with ⟨_, b,_⟩ | ⟨b,_,_⟩
            · rw [b] at g2; cases g2
            · rw [b] at this; cases this
        have := h.eh2 t hno s.i h2 g2
        rw [g3] at this; cases this
      have opr : ∀ x, x ∈ o.op.operands → ∀ u, ev (eh ++ envK l ms V env l.length) x = some u → a.eval x = u := by
        intro x hx u hu
        cases x with
        | tmp t =>
          have ht : t ∈ readsOf l.toArray o := List.mem_append_left _ (List.mem_filterMap.2 ⟨.tmp t, by simpa using hx, rfl⟩)
          have := rd t ht u hu (hnsE t ht)
          simp [Act.eval, this]
        | const c => simpa [ev, Act.eval] using hu
        | global g => simpa [ev, Act.eval] using hu
        | func f => simpa [ev, Act.eval] using hu
      rw [if_pos (by simp [Region.wanted, hg])]
      refine ((hho (E.map fun x => x.1.res x.2)).wp (ro := ro) (Q := Q') opr h.st fun v L'' w' hk hs => ?_)
      obtain ⟨L', rfl, hk1, hk2⟩ := hk
      have envE : putE o v (eh ++ envK l ms V env l.length) = putE o v eh ++ envK l ms V env l.length := by
        unfold putE; cases o.dst <;> rfl
      have hnd : ∀ d, o.dst = some d → ∀ s, s ∈ FT → s.d ≠ d := fun d hd => (c5 d hd).2 hf
      have hgt : ∀ x, x ∈ E → i + 1 ≤ x.1.i := fun x hx => by
        have h1 := (h.eE x hx).2
        have hne : x.1.i ≠ i := fun e => hnot (by rw [← e]; exact hEl x hx)
        rcases Nat.lt_or_ge x.1.i i with q | q
        · have := hlights x.1.i h1 q
          obtain ⟨g1, g2,_⟩ := hc.fi x.1 (h.eE x hx).1
          rcases light_or_heavy hlen g1 with ⟨_, b,_⟩ | ⟨b,_,_⟩
          · rw [b] at g2; cases g2
          · rw [b] at this; cases this
        · omega
      refine hK (i + 1) (putE o v eh) L' E _ w' ⟨by simp [h.lsz], ?_, (by cases o.dst <;> exact h.dfr), hs, ?_, by omega, ?_, fun x hx => ⟨(h.eE x hx).1, hgt x hx⟩, h.en, ?_, closed', ?_, ?_, ?_, ?_, ?_, ?_⟩
      · cases q : o.dst with
        | none => exact h.size
        | some d => simp [Act.put, h.size]
      · rw [hrk1, ← hrk]; exact hrk ▸ hk1
      · rw [hrk1, ← envE]; exact hk2
      · intro k hk hkh
        rw [get_set_true hiz, h.hd k hk hkh]
        constructor
        · rintro (rfl | q | q)
          · exact .inl (by omega)
          · exact .inl (by omega)
          · exact .inr q
        · rintro (q | q)
          · by_cases r : k = i
            · exact .inl r
            · right; left
              rcases Nat.lt_or_ge k p with s | s
              · exact s
              · have := hlights k s (by omega)
                rcases light_or_heavy hlen hk with ⟨_, b,_⟩ | ⟨b,_,_⟩
                · rw [b] at hkh; cases hkh
                · rw [b] at this; cases this
          · exact .inr (.inr q)
      · intro x hx
        cases q : o.dst with
        | none => exact h.sl x hx
        | some d =>
          have e : x.1.d ≠ d := hnd d q x.1 (h.eE x hx).1
          simp only [Act.put]
          rw [Array.getElem?_setIfInBounds_ne (Ne.symm e)]
          exact h.sl x hx
      · intro t u hu
        unfold putE at hu
        cases q : o.dst with
        | none => simp only [q] at hu; exact h.eh1 t u hu
        | some d =>
          simp only [q] at hu
          by_cases e : t = d
          · subst e
            rw [ev1_cons_eq] at hu
            cases hu
            simp [Act.put, h.size, hdN t q]
          · rw [ev1_cons_ne e] at hu
            simp only [Act.put]
            rw [Array.getElem?_setIfInBounds_ne (Ne.symm e)]
            exact h.eh1 t u hu
      · intro t hn k hk hkh
        unfold putE at hn
        have hn' : ev1 eh t = none := by
          cases q : o.dst with
          | none => simpa only [q] using hn
          | some d =>
            simp only [q] at hn
            by_cases e : t = d
            · subst e; rw [ev1_cons_eq] at hn; cases hn
            · rwa [ev1_cons_ne e] at hn
        by_cases r : k = i
        · subst r
          cases q : o.dst with
          | none => simp [dstIs, ho, q]
          | some d =>
            rw [dstI d q]
            refine beqne' fun e => ?_
            subst e
            simp only [q] at hn
            rw [ev1_cons_eq] at hn
            cases hn
        · refine h.eh2 t hn' k ?_ hkh
          rcases Nat.lt_or_ge k p with s | s
          · exact s
          · exfalso
            have := hlights k s (by omega)
            rcases light_or_heavy hlen (k := k) (by omega) with ⟨_, b,_⟩ | ⟨b,_,_⟩
            · rw [b] at hkh; cases hkh
            · rw [b] at this; cases this
      · intro t hn
        unfold putE at hn
        cases q : o.dst with
        | none =>
          simp only [q] at hn
          obtain ⟨k, a, b, c⟩ := h.eh3 t hn
          exact ⟨k, by omega, b, c⟩
        | some d =>
          simp only [q] at hn
          by_cases e : t = d
          · subst e
            exact ⟨i, by omega, hhv, by rw [dstI t q]; exact Nat.beq_refl _⟩
          · rw [ev1_cons_ne e] at hn
            obtain ⟨k, a, b, c⟩ := h.eh3 t hn
            exact ⟨k, by omega, b, c⟩
      · intro t k hn hns hk hkl hkd hdn hmax
        have hki : k ≠ i := fun e => by subst e; rw [hli] at hkl; cases hkl
        unfold putE at hn
        have hn' : ev1 eh t = none ∧ ∀ d, o.dst = some d → t ≠ d := by
          cases q : o.dst with
          | none => exact ⟨by simpa only [q] using hn, by simp⟩
          | some d =>
            simp only [q] at hn
            by_cases e : t = d
            · subst e; rw [ev1_cons_eq] at hn; cases hn
            · exact ⟨by rwa [ev1_cons_ne e] at hn, fun d' hd' => by cases hd'; exact e⟩
        have hdn' : listed[k]? = some true := by
          rcases (get_set_true hiz).1 hdn with q | q
          · exact absurd q hki
          · exact q
        have := h.top t k hn'.1 hns hk hkl hkd hdn' fun k' a b c d => hmax k' a b c ((get_set_true hiz).2 (.inr d))
        cases q : o.dst with
        | none => exact this
        | some d =>
          simp only [Act.put]
          rw [Array.getElem?_setIfInBounds_ne (Ne.symm (hn'.2 d q))]
          exact this
      · intro t hn hns hnone u hu
        unfold putE at hn
        have hn' : ev1 eh t = none ∧ ∀ d, o.dst = some d → t ≠ d := by
          cases q : o.dst with
          | none => exact ⟨by simpa only [q] using hn, by simp⟩
          | some d =>
            simp only [q] at hn
            by_cases e : t = d
            · subst e; rw [ev1_cons_eq] at hn; cases hn
            · exact ⟨by rwa [ev1_cons_ne e] at hn, fun d' hd' => by cases hd'; exact e⟩
        have := h.base t hn'.1 hns (fun k a b c d => hnone k a b c ((get_set_true hiz).2 (.inr d))) u hu
        cases q : o.dst with
        | none => exact this
        | some d =>
          simp only [Act.put]
          rw [Array.getElem?_setIfInBounds_ne (Ne.symm (hn'.2 d q))]
          exact this

theorem Hz.end_ {l : List Oper} {ms : List (Option Nat)} {js : List (List Nat)} {V : Nat → Value} {listed : Array Bool} {p : Nat} {eh : Env} {E : List (FS × Nat)} {a : Act} {w : World} (hc : ChkB l ms js FT)
    (h : Hz P β N ds J Q FT l ms V env listed p eh L E a w) (hn : Nrm l ms listed p) (hall : ∀ k, k < l.length → listed[k]? = some true) : Q .normal a w := by
  have hlen := hc.len
  have hl : ∀ k, p ≤ k → k < l.length → isLight ms k = true := by
    have : ∀ n k, k = n → p ≤ k → k < l.length → isLight ms k = true := by
      intro n
      induction n using Nat.strongRecOn with
      | _ n ih =>
        rintro k rfl h1 h2
        rcases light_or_heavy hlen h2 with ⟨a,_,_⟩ | ⟨_, b,_⟩
        · exact a
        · exact absurd (hall k h2) (hn k h1 h2 b fun j j1 j2 => ih j j2 j rfl j1 (by omega))
    exact fun k => this k k rfl
  have hE : E = [] := by
    cases E with
    | nil => rfl
    | cons x E =>
      exfalso
      obtain ⟨h1, h2⟩ := h.eE x (by simp)
      obtain ⟨g1, g2,_⟩ := hc.fi x.1 h1
      have := hl x.1.i h2 g1
      rcases light_or_heavy hlen g1 with ⟨_, b,_⟩ | ⟨b,_,_⟩
      · rw [b] at g2; cases g2
      · rw [b] at this; cases this
  subst hE
  have hx := HY.drop (l.length - p) h.hy (by have := h.hp; omega) (fun k a b => hl k a (by have := h.hp; omega))
  rw [show p + (l.length - p) = l.length by have := h.hp; omega] at hx
  rw [List.drop_length] at hx
  have hst := h.st
  rw [List.map_nil, List.append_nil] at hst
  refine hx a w ⟨h.size, h.dfr, fun t u hu => ?_⟩ hst
  rw [ev1_append] at hu
  cases q : ev1 eh t with
  | some v => rw [q] at hu; simp only [Option.some.injEq] at hu; subst hu; exact h.eh1 t v q
  | none =>
    rw [q] at hu
    simp only at hu
    have hns : ∀ s, s ∈ FT → s.d ≠ t := fun s hs e => by
      obtain ⟨g1, g2, g3⟩ := hc.fi s hs
      rw [e] at g3
      have h2 : s.i < p := by
        rcases Nat.lt_or_ge s.i p with r | r
        · exact r
        · have := hl s.i r g1
          rcases light_or_heavy hlen g1 with ⟨_, b,_⟩ | ⟨b,_,_⟩
          · rw [b] at g2; cases g2
          · rw [b] at this; cases this
      have := h.eh2 t q s.i h2 g2
      rw [g3] at this; cases this
    rcases ev1_envK l ms V env t u l.length hu with ⟨k, h1, h2, h3, h4, h5⟩ | ⟨h1, h2⟩
    · rw [← h4]
      refine h.top t k q hns h1 h2 h3 (hall k h1) fun k' a b c d => ?_
      rcases Nat.lt_or_ge k k' with r | r
      · have := h5 k' r a b
        rw [c] at this; cases this
      · exact r
    · refine h.base t q hns (fun k a b c d => ?_) u h2
      have := h1 k a b
      rw [c] at this; cases this

/-- What is asked of the new blocks. -/
def FOk (P : Program) (N : Nat) (l : List Oper) (env : Env) : List FS → Prop
  | [] => True
  | s :: FT => (Nat.blt s.d N = true ∧ ∃ o, l[s.i]? = some o ∧ FO P env o s) ∧ FOk P N l env FT
theorem FOk.mem {l : List Oper} : ∀ {FT : List FS}, FOk P N l env FT → ∀ s, s ∈ FT → s.d < N ∧ ∃ o, l[s.i]? = some o ∧ FO P env o s
  | [],_, s, hs => by cases hs
  | x :: FT, h, s, hs => by
    rcases List.mem_cons.1 hs with rfl | hs
    · exact ⟨Nat.le_of_ble_eq_true h.1.1, h.1.2⟩
    · exact h.2.mem s hs

set_option maxHeartbeats 1000000 in
theorem VC.drawB (FT : List FS) (js : List (List Nat)) (ms : List (Option Nat)) {env' : Env} {id : Nat} {l : List Oper} (hm : P.follows .mixedOrders = true) (hc : chkB l ms js (FT.map fun s => (s.i, s.d)) = true) (h0 : js.getD 0 [] = List.range L.length)
    (h : LX P β N l.toArray (fun m => sel L (js.getD m [])) l ms env env') (hF : FOk P N l env' FT) (k : HY P β N ds (fun m => sel L (js.getD m [])) Q FT 0 0 l ms env' L) :
    VC P ro β N ds env L (.region id l.toArray true) Q := by
  intro a w ha hw
  obtain ⟨V, hV1, hV2⟩ := h.vals
  have hC := ChkB.of hc
  subst hV1
  refine wpIn_region_any hm ?_
  have key : ∀ fuel listed p eh L' E a w, Hz P β N ds (fun m => sel L (js.getD m [])) Q FT l ms V env listed p eh L' E a w → (∀ k, k < l.length → listed[k]? ≠ some true → 0 < fuel) → ((List.range l.length).filter fun k => !(listed[k]? == some true)).length ≤ fuel → wpAnyIn (Wf ro) 0 P .any l.toArray Q fuel listed a w := by
    intro fuel
    induction fuel with
    | zero =>
      intro listed p eh L' E a w hI0 hz _
      obtain ⟨p', eh', L'', E', hI, hn⟩ := hI0.norm hC _ rfl
      have hall : ∀ k, k < l.length → listed[k]? = some true := fun k hk => Classical.byContradiction fun hn => by have := hz k hk hn; omega
      refine ⟨?_, hI.end_ hC hn hall⟩
      simp only [Region.ready, List.filter_eq_nil_iff, List.mem_range, Bool.and_eq_true, Bool.not_eq_true', not_and]
      intro i hi hf
      have := hall i (by simpa using hi)
      simp [this] at hf
    | succ fuel ih =>
      intro listed p eh L' E a w hI0 hz hcnt
      obtain ⟨p', eh', L'', E', hI, hn⟩ := hI0.norm hC _ rfl
      refine ⟨fun hr => hI.end_ hC hn (ready_all hI.lsz (fun k o ho => (hC.ops k o ho).1) hr), fun i hi => ?_⟩
      refine hI.step hC rfl hV2 hF.mem hn hi fun p' eh' L'' E' a' w' hI' => ih _ _ _ _ _ _ _ hI' ?_ ?_
      · intro k hk hn
        rcases Nat.eq_zero_or_pos fuel with e | e
        · exfalso
          subst e
          simp only [Region.ready, List.mem_filter, List.mem_range, Bool.and_eq_true, Bool.not_eq_true'] at hi
          have hil : i < l.length := by simpa using hi.1
          have hiz : i < listed.size := by rw [hI.lsz]; exact hil
          rw [Ne, get_set_true hiz, not_or] at hn
          have hni : listed[i]? ≠ some true := fun e => by have h2 := hi.2.1; simp [e] at h2
          have m1 : i ∈ (List.range l.length).filter fun k => !(listed[k]? == some true) := by simp [hil, hni]
          have m2 : k ∈ (List.range l.length).filter fun k => !(listed[k]? == some true) := by simp [hk, hn.2]
          match hf : (List.range l.length).filter fun k => !(listed[k]? == some true), hcnt with
          | [],_ => rw [hf] at m1; simp at m1
          | [x],_ => rw [hf] at m1 m2; simp at m1 m2; exact hn.1 (by omega)
          | _ :: _ :: _, hcnt => simp at hcnt
        · exact e
      · simp only [Region.ready, List.mem_filter, List.mem_range, Bool.and_eq_true, Bool.not_eq_true'] at hi
        have hil : i < l.length := by simpa using hi.1
        have hiz : i < listed.size := by rw [hI.lsz]; exact hil
        have hni : listed[i]? ≠ some true := fun e => by have h2 := hi.2.1; simp [e] at h2
        have hlt2 : ((List.range l.length).filter fun k => !((listed.setIfInBounds i true)[k]? == some true)).length < ((List.range l.length).filter fun k => !(listed[k]? == some true)).length := by
          refine filter_lt (i := i) ?_ (by simp [hil]) ?_ ?_
          · intro k hk
            simp only [Bool.not_eq_true', beq_eq_false_iff_ne, ne_eq] at hk ⊢
            exact fun e => hk ((get_set_true hiz).2 (.inr e))
          · simpa using hni
          · simp [hiz]
        omega
  have hnone : ∀ j : Nat, (Array.replicate l.toArray.size false)[j]? ≠ some true := by
    intro j hj
    simp [Array.getElem?_replicate] at hj
  refine key _ _ 0 [] L [] _ _ ⟨by simp, ha.size, ha.dfr, (by rw [List.map_nil, List.append_nil]; exact hw.drew _), ?_, Nat.zero_le _, ?_, by simp, by simp, ?_, ?_, by simp, ?_, ?_, ?_, ?_, ?_⟩ ?_ ?_
  · intro w hw
    have : rank ms 0 = 0 := by simp [rank]
    rw [this]
    simp only [h0]
    refine hw.sel _ ?_
    have := hC.jn 0
    rwa [h0] at this
  · simpa [rank] using k
  · intro i _ _
    exact ⟨fun e => absurd e (hnone i), fun q => by rcases q with q | ⟨x, hx,_⟩; omega; cases hx⟩
  · intro j hj; exact absurd hj (hnone j)
  · intro t v hv; simp [ev1] at hv
  · intro t _ i hi; omega
  · intro t ht; simp [ev1] at ht
  · intro t k _ _ _ _ _ hl; exact absurd hl (hnone k)
  · intro t _ _ _ v hv; exact ha.get t v hv
  · intro k hk _
    simpa using Nat.lt_of_le_of_lt (Nat.zero_le _) hk
  · refine Nat.le_trans (List.length_filter_le _ _) ?_
    simp

/-! ### Operations that lay a new block -/
theorem FO.alloc {env : Env} {T d i : Nat} {z : Value} {C : Array Value} {ty : TypeId} {pos : String} {aft : Array Edge} (hz : ZeroOf P T z) (hC : z.cells = C) : FO P env ⟨some d, .alloc T, ty, pos, aft, none⟩ ⟨i, d, fun b => .pointer (some ⟨b, 0, none⟩), T, C⟩ :=
  ⟨rfl, rfl, fun a w _ => by simp [execOp, Instr.alloc, run_zero hz, newVar, newRow, hC]⟩
end
end Go.SL

namespace Go.SL
set_option linter.unusedVariables false
set_option linter.unusedSimpArgs false
open Go.RowKit

section
variable {P : Program} {ro : Option Nat} {β : Bs} {ds : List Deferred} {N : Nat} {Q : Exit → Act → World → Prop} {env : Env} {L L0 : List Res}
section
variable {l : List Oper} {ms : List (Option Nat)} {n : Nat} {S : List Nat}
end
theorem selK {L1 : List Res} (is : List Nat) (hn : nodupB is = true) (h : sel L is = L1) : ∀ w, St β L w → St β L1 w := fun w hw => by rw [← h]; exact hw.sel is hn
end
end Go.SL

namespace Go.SL
set_option linter.unusedVariables false
set_option linter.unusedSimpArgs false
open Go.RowKit
section
variable {P : Program} {ro : Option Nat} {β : Bs} {N : Nat} {ds : List Deferred} {env : Env} {L : List Res} {Q : Exit → Act → World → Prop}
variable {ty : TypeId} {pos : String} {aft : Array Edge}

theorem rows_flat {w : World} {z : Nat} {q : Option Addr} {rs : List (List Value)} (h : Go.SL.Rows w z q rs) (hz : ∀ r ∈ rs, r.length = z) (k : Nat) (v : Value) (hk : rs.flatten[k]? = some v) : w.cell? ((⟨pb q, po q, none⟩ : Addr).add k) = some v := by
  have hz0 : 0 < z := by
    rcases Nat.eq_zero_or_pos z with e | e
    · have : rs.flatten.length = 0 := by rw [flatten_len hz, e, Nat.mul_zero]
      rw [List.getElem?_eq_none (by omega)] at hk; cases hk
    · exact e
  have hkl : k < rs.flatten.length := by
    rcases Nat.lt_or_ge k rs.flatten.length with e | e
    · exact e
    · rw [List.getElem?_eq_none e] at hk; cases hk
  rw [flatten_len hz] at hkl
  have hj : k / z < rs.length := Nat.div_lt_of_lt_mul (by rw [Nat.mul_comm]; exact hkl)
  have hm : k % z < z := Nat.mod_lt _ hz0
  have hr := List.getElem?_eq_getElem hj
  have hrz : rs[k / z].length = z := hz _ (List.getElem_mem hj)
  have hv := List.getElem?_eq_getElem (l := rs[k / z]) (i := k % z) (by omega)
  have e := flatten_row hz hr hv
  have hdm : k / z * z + k % z = k := by have := Nat.div_add_mod k z; rw [Nat.mul_comm] at this; exact this
  rw [hdm, hk] at e
  cases e
  have := h.cells _ _ hr _ _ hv
  have e1 : (⟨pb q, po q + k / z * z, none⟩ : Addr).add (k % z) = ⟨pb q, po q + k, none⟩ := by
    rw [show po q + k = po q + k / z * z + k % z by omega]
    unfold Addr.add; split <;> simp_all
  have e2 : (⟨pb q, po q, none⟩ : Addr).add k = ⟨pb q, po q + k, none⟩ := by
    unfold Addr.add; split <;> simp_all
  rw [e1] at this; rw [e2]; exact this

theorem first_rows {w : World} {z : Nat} {q : Option Addr} {rs : List (List Value)} {c : Nat} (h : Go.SL.Rows w z q rs) (hz : ∀ r ∈ rs, r.length = z) : (Builtin.firstCells z rs.length (.slice q rs.length c)).run P w = .ok rs.flatten.toArray w := by
  cases q with
  | none => have := h.nil rfl; subst this; simp [Builtin.firstCells]
  | some a =>
    by_cases hne : rs = []
    · subst hne
      have := run_loadCells_list (P := P) w a [] (fun k v hk => by simp at hk)
      simpa [Builtin.firstCells] using this
    · have hs := h.spot hne a rfl
      have ea : a = ⟨pb (some a), po (some a), none⟩ := by cases a; simp_all [pb, po]
      have := run_loadCells_list (P := P) w a rs.flatten (fun k v hk => by rw [ea]; exact rows_flat h hz k v hk)
      simp only [Builtin.firstCells, ← flatten_len hz]
      exact this

theorem rows_drew {w : World} {z : Nat} {q : Option Addr} {rs : List (List Value)} (h : Go.SL.Rows w z q rs) : Go.SL.Rows w.drew z q rs := ⟨h.cells, h.nil, h.spot⟩

/-- Some elements are appended to a slice that is owned. -/
theorem run_appendN {w : World} (hw : St β L w) (i : Nat) {T T' ty E z by_ : Nat} {zero : Value} {p q : Option Addr} {cap c2 : Nat} {rows rs : List (List Value)} (hT : IsSlice P T E) (hT' : IsSlice P T' E) (hE : EInfo P E z by_ zero)
    (hi : L[i]? = some (own E z p cap rows)) (hq : Go.SL.Rows w z q rs) (hr : ∀ r ∈ rs, r.length = z) (h1 : ∀ r ∈ rs, allOne r = true) (hn : (2 * (rows.length + rs.length) + 768) * by_ ≤ 281474976710656) {aT : Array TypeId} (ha0 : aT[0]? = some T) (ha1 : aT[1]? = some T') :
    ∃ p' cap' w', (Builtin.append_ aT ty #[.slice p rows.length cap, .slice q rs.length c2]).run P w = .ok (.slice p' (rows.length + rs.length) cap') w' ∧ St β (L.set i (own E z p' cap' (rows ++ rs))) w' ∧ (rs ≠ [] → p' ≠ none) ∧ (p ≠ none → p' ≠ none) := by
  obtain ⟨hz, hby, hze, hzz, hb0⟩ := hE
  obtain ⟨o1, o2, o3, o4⟩ := hw.inv i _ hi
  obtain ⟨ti, hti, htb⟩ := run_bytes hby w
  have hnew : (Builtin.firstCells z rs.length (.slice q rs.length c2)).run P w = .ok rs.flatten.toArray w := first_rows hq hr
  have hhas : ∀ r' ∈ rows ++ rs, r'.length = z := by
    intro r' hr'
    rcases List.mem_append.1 hr' with q | q
    · exact o2 r' q
    · exact hr r' q
  have hu' : (underlying T').run P w = .ok (.slice E) w := run_underlying hT' w
  have hu : (underlying T).run P w = .ok (.slice E) w := run_underlying hT w
  have hone : ∀ u ∈ rs.flatten, u.oneCell' = true := by
    intro u hu
    obtain ⟨r, hr', hu'⟩ := List.mem_flatten.1 hu
    exact allOne_spec (h1 r hr') u hu'
  have hni : ¬ ((rows.length + rs.length : Nat) : Int) > IntKind.i64.max := by
    have : rows.length + rs.length ≤ 281474976710656 := by
      have : (2 * (rows.length + rs.length) + 768) * 1 ≤ (2 * (rows.length + rs.length) + 768) * by_ := Nat.mul_le_mul_left _ hb0
      omega
    have hm : IntKind.i64.max = 9223372036854775807 := rfl
    rw [hm]
    omega
  have hlt : i < L.length := by
    rcases Nat.lt_or_ge i L.length with h' | h'
    · exact h'
    · simp [List.getElem?_eq_none h'] at hi
  have hfl := flatten_len o2
  have hfl2 := flatten_len hr
  by_cases hc : rows.length + rs.length ≤ cap
  · -- there is room
    cases p with
    | none =>
      have h3 := o3 rfl
      have e1 : rows = [] := h3.1
      have e2 : rs = [] := by
        have : rs.length = 0 := by omega
        exact List.length_eq_zero_iff.1 this
      subst e1; subst e2
      have e3 : cap = 0 := h3.2
      subst e3
      refine ⟨none, 0, w, ?_, ?_, by simp, by simp⟩
      · have : (Builtin.firstCells z 0 (.slice q 0 c2)).run P w = .ok #[] w := by simpa using hnew
        simp [Builtin.append_, ha0, ha1, hu, hu', run_size hz, Builtin.lenOf, this]
      · have e : L.set i (own E z none 0 ([] ++ [])) = L := by
          have e0 : own E z none 0 ([] ++ []) = own E z none 0 [] := rfl
          rw [e0]
          refine List.ext_getElem? fun k => ?_
          by_cases ek : k = i
          · subst ek; rw [List.getElem?_set_self hlt, hi]
          · rw [List.getElem?_set_ne (Ne.symm ek)]
        rw [e]; exact hw
    | some a =>
      obtain ⟨g1, g2, C, spare, g3, g4, g5⟩ := o4 a rfl
      have hadd : a.add (rows.length * z) = ⟨a.block, rows.length * z, none⟩ := add0 g1 g2 _
      have hfit : rows.length * z + rs.flatten.length ≤ C.size := by
        rw [g5, hfl2]
        have := Nat.mul_le_mul_right z hc
        rw [Nat.add_mul] at this; omega
      have hst := run_storeCells_at P a.block (rows.length * z) E rs.flatten 0 C w g3 (by simpa using hfit) hone
      simp only [Nat.add_zero] at hst
      refine ⟨some a, cap, w.setRow a.block (C.toList.take (rows.length * z) ++ rs.flatten ++ C.toList.drop (rows.length * z + rs.flatten.length)).toArray, ?_, ?_, by simp, by simp⟩
      · simp only [Builtin.append_, ha0, ha1, Sem.run_bind, List.getElem?_toArray, List.getElem?_cons_zero, List.getElem?_cons_succ, hu, hu', run_size hz, Builtin.lenOf, Result.andThen_ok, Sem.run_pure, Bool.false_eq_true, if_false, Bool.not_false, if_true, hc, hnew, hadd, hst]
      · have hw1 := hw.conv i (r' := blk a.block (.cells C E)) hi (fun k hk => ⟨by simp, hk⟩) g3
        have hi1 : (L.set i (blk a.block (.cells C E)))[i]? = some (blk a.block (.cells C E)) := by simp [hlt]
        have hw2 := hw1.setRow (C' := (C.toList.take (rows.length * z) ++ rs.flatten ++ C.toList.drop (rows.length * z + rs.flatten.length)).toArray) hi1
        rw [List.set_set] at hw2
        have hi2 : (L.set i (blk a.block (.cells (C.toList.take (rows.length * z) ++ rs.flatten ++ C.toList.drop (rows.length * z + rs.flatten.length)).toArray E)))[i]? = some (blk a.block (.cells (C.toList.take (rows.length * z) ++ rs.flatten ++ C.toList.drop (rows.length * z + rs.flatten.length)).toArray E)) := by simp [hlt]
        have hfin : (own E z (some a) cap (rows ++ rs)).inv (w.setRow a.block (C.toList.take (rows.length * z) ++ rs.flatten ++ C.toList.drop (rows.length * z + rs.flatten.length)).toArray) := by
          refine ⟨by simp; omega, hhas, fun h => (by cases h), fun a' ha' => ?_⟩
          cases ha'
          refine ⟨g1, g2,_, C.toList.drop (rows.length * z + rs.flatten.length), hw2.inv i _ hi2, ?_, ?_⟩
          · have : C.toList.take (rows.length * z) = rows.flatten := by rw [g4, List.take_append_of_le_length (by omega), List.take_of_length_le (by omega)]
            simp [this]
          · have := hfit
            simp only [List.size_toArray, List.length_append, List.length_take, List.length_drop, Array.length_toList]
            rw [← g5]; omega
        have hw3 := hw2.conv (r' := own E z (some a) cap (rows ++ rs)) i hi2 (fun k hk => hk.2) hfin
        rwa [List.set_set] at hw3
  · -- a new array
    have hcap : ¬ rows.length + rs.length ≤ cap := hc
    have hncap : ¬ (Builtin.nextslicecap (rows.length + rs.length) cap * ti.bytes > 2 ^ 48) := by
      have h2 := nextcap_le (need := rows.length + rs.length) (cap := cap) (by omega)
      have h3 := Nat.mul_le_mul_right by_ h2
      rw [htb]; omega
    generalize hcc : Question.cut (.appendCap (rows.length + rs.length) cap E) (w.tape w.drawn (.appendCap (rows.length + rs.length) cap E)) = cap'
    have hge : rows.length + rs.length ≤ cap' := by rw [← hcc]; simp [Question.cut]
    have hrows : Go.SL.Rows w z p rows := own_rows hw i hi
    have hold : (Builtin.firstCells z rows.length (.slice p rows.length cap)).run P w.drew = .ok rows.flatten.toArray w.drew := first_rows (rows_drew hrows) o2
    have hnew' : (Builtin.firstCells z rs.length (.slice q rs.length c2)).run P w.drew = .ok rs.flatten.toArray w.drew := first_rows (rows_drew hq) hr
    have hti' : (typeInfo E).run P w.drew = .ok ti w.drew := by
      cases hq : P.info? E with
      | none => simp [typeInfo, hq] at hti
      | some i => simp [typeInfo, hq] at hti ⊢; exact hti
    refine ⟨some ⟨w.heap.size, 0, none⟩, cap', (World.alloc w.drew (.cells (rows.flatten.toArray ++ rs.flatten.toArray ++ Builtin.zeroCells zero.cells (cap' - (rows.length + rs.length))) E)), ?_, ?_, by simp, by simp⟩
    · have hb1 : ti.bytes ≠ 0 := by omega
      have hncap' : ¬ (281474976710656 < Builtin.nextslicecap (rows.length + rs.length) cap * ti.bytes) := by omega
      simp [Builtin.append_, ha0, ha1, hu, hu', run_size hz, Builtin.lenOf, hcap, hti, hb1, hncap', Question.forced, hcc, hti', hold, hnew', run_zero hze, newRow]
      congr 2
      apply Array.ext'
      simp
    · have hw' := (hw.drew (w.drawn + 1) : St β L w.drew).alloc (.cells (rows.flatten.toArray ++ rs.flatten.toArray ++ Builtin.zeroCells zero.cells (cap' - (rows.length + rs.length))) E)
      have hm : St β (L.set i (blk w.heap.size (.cells (rows.flatten.toArray ++ rs.flatten.toArray ++ Builtin.zeroCells zero.cells (cap' - (rows.length + rs.length))) E))) (World.alloc w.drew (.cells (rows.flatten.toArray ++ rs.flatten.toArray ++ Builtin.zeroCells zero.cells (cap' - (rows.length + rs.length))) E)) := by
        refine hw'.map (fun k => if k = i then 0 else k + 1) ?_ ?_
        · intro a b hab _ _
          by_cases e1 : a = i <;> by_cases e2 : b = i <;> simp [e1, e2] <;> omega
        · intro k s hs
          right
          by_cases e : k = i
          · subst e; simp [hlt] at hs; simp [hs]
          · rw [List.getElem?_set_ne (Ne.symm e)] at hs
            simp [e, hs]
      have hi2 : (L.set i (blk w.heap.size (.cells (rows.flatten.toArray ++ rs.flatten.toArray ++ Builtin.zeroCells zero.cells (cap' - (rows.length + rs.length))) E)))[i]? = some (blk w.heap.size (.cells (rows.flatten.toArray ++ rs.flatten.toArray ++ Builtin.zeroCells zero.cells (cap' - (rows.length + rs.length))) E)) := by simp [hlt]
      have hfin : (own E z (some ⟨w.heap.size, 0, none⟩) cap' (rows ++ rs)).inv (World.alloc w.drew (.cells (rows.flatten.toArray ++ rs.flatten.toArray ++ Builtin.zeroCells zero.cells (cap' - (rows.length + rs.length))) E)) := by
        refine ⟨by simp; omega, hhas, fun h => (by cases h), fun a' ha' => ?_⟩
        cases ha'
        refine ⟨rfl, rfl,_, (Builtin.zeroCells zero.cells (cap' - (rows.length + rs.length))).toList, hm.inv i _ hi2, by simp, ?_⟩
        simp only [Array.size_append, List.size_toArray, hfl, hfl2, zeroCells_size, hzz]
        rw [← Nat.add_mul, ← Nat.add_mul]
        congr 1; omega
      have := hm.conv (r' := own E z (some ⟨w.heap.size, 0, none⟩) cap' (rows ++ rs)) i hi2 (fun k hk => hk.2) hfin
      rwa [List.set_set] at this

variable {dd : Option Nat}
/-- append(x, y...), x owned, y read. -/
theorem HO.appN {α : Type} {f : α → List Value} {l m : List α} (i : Nat) (LF : Res → List Res) {K : Value → List Res → Prop} {x y : Operand} {T T' E z by_ : Nat} {aT : Array TypeId} {zero : Value} {p q : Option Addr} {n n2 cap c2 : Nat} (hT : IsSlice P T E) (hT' : IsSlice P T' E) (hE : EInfo P E z by_ zero) (hx : OV env x (.slice p n cap)) (hy : OV env y (.slice q n2 c2))
    (hi : L[i]? = some (own E z p cap (l.map f))) (hq : ∀ w, St β L w → Go.SL.Rows w z q (m.map f)) (hz : ∀ a, (f a).length = z) (h1 : ∀ a, allOne (f a) = true) (ha0 : aT[0]? = some T) (ha1 : aT[1]? = some T') (hL : ∀ R : Res, L.set i R = LF R) (hn : n = l.length) (hn2 : n2 = m.length) (hs : (2 * (n + n2) + 768) * by_ ≤ 281474976710656)
    (k : ∀ p' cap', (m ≠ [] ∨ p ≠ none → p' ≠ none) → K (.slice p' (n + n2) cap') (LF (own E z p' cap' ((l ++ m).map f)))) : HO P β env L ⟨dd, .call ⟨.builtin .append, #[x, y], aT⟩, ty, pos, aft, none⟩ K := by
  intro a w h hw
  subst hn; subst hn2
  obtain ⟨p', cap', w', h2, h3, h4, h5⟩ := run_appendN (ty := ty) (c2 := c2) hw i hT hT' hE hi (hq w hw) (by intro r hr; obtain ⟨b,_, rfl⟩ := List.mem_map.1 hr; exact hz b) (by intro r hr; obtain ⟨b,_, rfl⟩ := List.mem_map.1 hr; exact h1 b) (by simpa using hs) ha0 ha1
  refine .inl ⟨_, w',_,_, ?_, .inl rfl, k p' cap' (fun q => q.elim (fun e => h4 (by simpa using e)) h5), ?_⟩
  · have ex : a.eval x = .slice p l.length cap := by obtain ⟨u, hu, e⟩ := hx; subst e; exact h x (by simp [Op.operands, Call.operands]) _ hu
    have ey : a.eval y = .slice q m.length c2 := by obtain ⟨u, hu, e⟩ := hy; subst e; exact h y (by simp [Op.operands, Call.operands]) _ hu
    simp only [List.length_map] at h2
    simp [execOp, resolve, invoke, builtin, ex, ey, h2]
  · rw [List.map_append, ← hL]; exact h3
end
end Go.SL

namespace Go.SL
set_option linter.unusedVariables false
open Go.RowKit Go.ChangeShapes Go.WideShapes Go.WideElems

section
variable {H : Type} {enc : TypeId × Value → H} {P : Program} {W : World} {base : Nat}

/-- What a reading of cells at a type says of them. -/
def RD (enc : TypeId × Value → H) (P : Program) (W : World) (t : TypeId) (R : List Value → Prop) : Prop :=
  ∀ (n : Nat) (cs : List Value) (x : DataW H × List MemPlace), DataW.trod enc P W 0 (fun _ => true) true n t cs = some x → R cs

def kb (k : IntKind) (n : Int) : Prop := k.min ≤ n ∧ n ≤ k.max
theorem RD.int {t : TypeId} {k : IntKind} (ht : P.underlying t = some (.int k)) : RD enc P W t fun cs => ∃ n, cs = [.int k n] ∧ kb k n := fun n cs x hx => by
  obtain ⟨m, h,_, hw⟩ := DataW.trod_int ht hx
  simp only [Lit.wf, Bool.and_eq_true, decide_eq_true_eq] at hw
  exact ⟨m, h, hw⟩
theorem cells?_spec {w : World} {a : Addr} {n : Nat} {cs : List Value} (h : w.cells? 0 a n = some cs) : cs.length = n ∧ Cells w a cs := by
  unfold World.cells? at h
  rw [if_pos (Nat.zero_le _)] at h
  have hl : cs.length = n := by simpa using mapM_some_length h
  refine ⟨hl, fun j v hj => ?_⟩
  have hjn : j < n := by rw [← hl]; exact (List.getElem?_eq_some_iff.1 hj).1
  have := mapM_some_get h j j (by simp [hjn])
  rw [this, hj]

/-- A slice's rows. -/
theorem RD.slice {t e z : Nat} {R : List Value → Prop} (ht : P.underlying t = some (.slice e)) (hz : P.cellsOf e = z) (hz0 : 0 < z) (hR : RD enc P W e R) :
    RD enc P W t fun cs => ∃ (p : Option Addr) (cap : Nat) (rows : List (List Value)), cs = [.slice p rows.length cap] ∧ rows.length ≤ 9223372036854775807 ∧ Rows W z p rows ∧ ∀ r, r ∈ rows → r.length = z ∧ R r := fun n cs x hx => by
  rcases DataW.trod_slice ht hx with ⟨rfl,_⟩ | ⟨a, len, cap, elems, rest, m,_, rfl,_, hb, hl, hc, hlen, hel, hspare⟩
  · exact ⟨none, 0, [], rfl, by simp, ⟨by simp, fun _ => rfl, fun q => absurd rfl q⟩, by simp⟩
  · have hrow : ∀ i, i < len → ∃ r, W.cells? 0 (a.add (i * z)) z = some r ∧ ∃ y, DataW.trod enc P W 0 (fun _ => true) true m e r = some y := fun i hi => by
      have h1 := hel i hi
      rw [hz, List.getElem?_eq_getElem (by omega)] at h1
      obtain ⟨r, h2, h3⟩ := Option.bind_eq_some_iff.1 h1
      exact ⟨r, h2,_, h3⟩
    have hch : ∃ rows : List (List Value), rows.length = len ∧ ∀ i r, rows[i]? = some r → W.cells? 0 (a.add (i * z)) z = some r ∧ ∃ y, DataW.trod enc P W 0 (fun _ => true) true m e r = some y := by
      clear hel hlen hl hx hspare
      induction len with
      | zero => exact ⟨[], rfl, by simp⟩
      | succ k ih =>
        obtain ⟨rows, h1, h2⟩ := ih (fun i hi => hrow i (by omega))
        obtain ⟨r, h3, h4⟩ := hrow k (by omega)
        refine ⟨rows ++ [r], by simp [h1], fun i s hs => ?_⟩
        rcases Nat.lt_or_ge i rows.length with q | q
        · rw [List.getElem?_append_left q] at hs; exact h2 i s hs
        · have : i = rows.length := by
            have := (List.getElem?_eq_some_iff.1 hs).1
            simp at this; omega
          subst this
          simp at hs; subst hs
          rw [h1]; exact ⟨h3, h4⟩
    obtain ⟨rows, h1, h2⟩ := hch
    subst h1
    have spot : rows ≠ [] → a.spot = none := fun hne => by
      cases rows with
      | nil => exact absurd rfl hne
      | cons r rs =>
        obtain ⟨h3,_⟩ := h2 0 r rfl
        obtain ⟨h4, h5⟩ := cells?_spec h3
        have h6 := h5 0 _ (List.getElem?_eq_getElem (by omega))
        cases hs : a.spot with
        | none => rfl
        | some s =>
          exfalso
          have : ((a.add (0 * z)).add 0).spot = some s := by simp [Addr.add, hs]
          unfold World.cell? at h6
          rw [this] at h6
          split at h6 <;> simp at h6
    refine ⟨some a, cap, rows, rfl, by unfold maxLen at hc; omega, ⟨fun j r hr => ?_, fun q => (by cases q), fun q b hb => ?_⟩, fun r hr => ?_⟩
    · obtain ⟨h3,_⟩ := h2 j r hr
      have h5 := (cells?_spec h3).2
      have hsp := spot (fun q => by rw [q] at hr; simp at hr)
      have e : (⟨pb (some a), po (some a) + j * z, none⟩ : Addr) = a.add (j * z) := by
        obtain ⟨ab, ao, aspt⟩ := a
        have hsp : aspt = none := hsp
        subst hsp
        show (⟨ab, ao + j * z, none⟩ : Addr) = _
        unfold Addr.add
        split
        · rename_i h0; simp [h0]
        · rfl
      rw [e]; exact h5
    · cases hb
      exact spot q
    · obtain ⟨i, hi, e⟩ := List.getElem_of_mem hr
      obtain ⟨h3, y, h4⟩ := h2 i r (by rw [List.getElem?_eq_getElem hi, e])
      exact ⟨(cells?_spec h3).1, hR _ _ _ h4⟩

/-- Rows of known form. -/
theorem rows_map {α : Type} {f : α → List Value} {Q : α → Prop} : ∀ {rows : List (List Value)}, (∀ r, r ∈ rows → ∃ x, r = f x ∧ Q x) → ∃ l : List α, rows = l.map f ∧ ∀ x, x ∈ l → Q x
  | [],_ => ⟨[], rfl, by simp⟩
  | r :: rs, h => by
    obtain ⟨l, h1, h2⟩ := rows_map (fun s hs => h s (by simp [hs])) (rows := rs)
    obtain ⟨x, h3, h4⟩ := h r (by simp)
    exact ⟨x :: l, by simp [h1, h3], fun y hy => by rcases List.mem_cons.1 hy with rfl | hy; exact h4; exact h2 y hy⟩

/-! ### Arguments -/
theorem arg_one {t : TypeId} {v : Value} {R : List Value → Prop} (hn : ∀ fs, P.underlying t ≠ some (.struct fs)) (hn2 : ∀ n e, P.underlying t ≠ some (.array n e)) (hv : Value.okWide P W .any base t v) {d : DataW H} {p : List MemPlace} (hd : DataW.Trod enc P W 0 (fun _ => true) true t v d p) (hR : RD enc P W t R) : R [v] := by
  obtain ⟨n, hn'⟩ := hd
  have : v.cells = #[v] := by
    cases v <;> try rfl
    exfalso
    unfold Value.okWide at hv
    cases hu : P.underlying t with
    | none => rw [hu] at hv; simp [Cell.okWide, Cell.ok, hu] at hv
    | some u =>
      rw [hu] at hv
      cases u <;> first | exact hn _ hu | exact hn2 _ _ hu | simp [Cell.okWide, Cell.ok, hu] at hv
  rw [this] at hn'
  exact hR _ _ _ hn'
/-! ### The end -/
theorem trodAll_stays (hl : laidOutB P = true) {W' : World} {sp' : Nat → Bool} : ∀ {ts : List TypeId} {vs : List Value} {ds : List (DataW H)} {ps : List MemPlace}, (∀ t, t ∈ ts → P.readableRec t = true ∧ t < P.types.size) →
    DataW.TrodAll enc P W 0 (fun _ => true) true ts vs ds ps → (∀ p, p ∈ ps → W.sameAt W' p) → (∀ p, p ∈ ps → sp' p.block = true) → DataW.TrodAll enc P W' 0 sp' true ts vs ds ps
  | [], vs, ds, ps,_, h,_,_ => by
    obtain ⟨rfl, rfl, rfl⟩ := trodAll_nil h
    exact trodAll_mk0
  | t :: ts, vs, ds, ps, ht, h, h1, h2 => by
    obtain ⟨v, vs1, d, ds1, a, b, rfl, rfl, rfl, h3, h4⟩ := trodAll_cons h
    have := ht t (by simp)
    exact trodAll_cons_mk (Trod_stays hl this.1 this.2 h3 (fun p hp => h1 p (by simp [hp])) (fun p hp => h2 p (by simp [hp]))) (trodAll_stays hl (fun u hu => ht u (by simp [hu])) h4 (fun p hp => h1 p (by simp [hp])) (fun p hp => h2 p (by simp [hp])))

/-- A law's statement behind the call: it is true, and the arguments read as they did. -/
theorem law_post {fn : Func} {s : ChangeSpec} {apart fresh handsOn again : Bool} {W' : World} {args : Array Value} {ds gs : List (DataW H)} {before : List MemPlace} {tb : TypeId} (hl : laidOutB P = true) (hts : ∀ t, t ∈ fn.params.toList → P.readableRec t = true ∧ t < P.types.size)
    (hv : s.vars = []) (hr : fn.resultTypes = #[tb]) (hb : P.underlying tb = some .bool) (hs : ∀ ds : List (DataW H), ds.length = fn.params.toList.length → s.fn H ds = { results := [.lit (.bool true)], args := ds })
    (hW : DataW.Whole enc P fn.params.toList s.vars apart W args.toList ds gs before) (hst : St (bs W) [] W') : s.post enc P fn apart fresh handsOn again W args (.bool true) W' := by
  have hB : Below W.heap.size W W' := hst.below
  have hlt := hW.lt
  have hW0 := hW
  obtain ⟨p, q, hA, hV, rfl, hfz, hnd⟩ := hW
  rw [hv] at hV
  obtain ⟨rfl, rfl⟩ := trodVars_none hV
  rw [hv] at hW0
  have hd : ds.length = fn.params.toList.length := (trodAll_length hA).2
  have e : s.fn H (ds ++ []) = { results := [.lit (.bool true)], args := ds } := by rw [List.append_nil]; exact hs ds hd
  have hargs : ∀ sp : Nat → Bool, (∀ x ∈ p, sp x.block = true) → DataW.TrodAll enc P W' 0 sp true fn.params.toList args.toList (s.fn H (ds ++ [])).args p := fun sp hsp => by
    rw [e]; exact trodAll_stays hl hts hA (fun x hx => hB.same (hlt x (by simpa using hx))) hsp
  have hres : ∀ (b : Nat) (sp : Nat → Bool) (hd : Bool), DataW.TrodAll enc P W' b sp hd fn.resultTypes.toList ((Value.bool true).resultList fn.resultTypes.size) (s.fn H (ds ++ [])).results [] := fun b sp hd => by
    rw [e, hr]; exact trodAll_cons_mk (shut_bool hb _) trodAll_mk0
  have hvars : ∀ sp : Nat → Bool, DataW.TrodVars enc P W' sp s.vars (s.fn H (ds ++ [])).vars [] := fun sp => by rw [e, hv]; rfl
  have hW1 : DataW.Whole enc P fn.params.toList s.vars apart W args.toList ds [] (p ++ []) := by rw [hv]; exact hW0
  refine ⟨ds, [], p ++ [], [], p, [], hW1, hres _ _ _, hargs _ (fun x hx => by simpa using hlt x (by simpa using hx)), hvars _, hB.frame _, fun _ => ?_⟩
  refine ⟨?_,_,_, ([] ++ p) ++ [], ⟨[] ++ p, [], trodAll_append (hargs _ (fun _ _ => rfl)) (hres _ _ _), hvars _, rfl, ?_, ?_⟩, ?_⟩
  · exact ok_one hr rfl (okWide_bool_mk hb _)
  · intro b off hp
    have hp' : MemPlace.cell b off ∈ p := by simpa using hp
    rw [hB.frozen (p := ⟨b, off, none⟩) (hlt (.cell b off) (by simpa using hp'))]
    exact hfz b off (by simpa using hp')
  · intro ha
    simpa using hnd ha
  · intro x hx _
    simpa using hx
end
end Go.SL

namespace Go.SL
set_option linter.unusedVariables false
section
variable {P : Program} {β : Bs} {env : Env} {L : List Res}
variable {ty : TypeId} {pos : String} {aft : Array Edge} {g : Option (Nat × Bool)}
/-- Where the rest of a slice begins. -/
def slFrom (p : Option Addr) (c l z : Nat) : Option Addr := if c = l then p else p.map (·.add (l * z))
theorem LO.sl {d : Option Nat} {x i : Operand} {T E z : Nat} {p : Option Addr} {n c l : Nat} {e : Int} (hT : IsSlice P T E) (hz : (P.info? E).map (·.size) = some z) (hx : OV env x (.slice p n c)) (hi : OV env i (.int .i64 e)) (he : e = (l : Int)) (hl : l ≤ n) :
    LO P β env L ⟨d, .slice T x (some i) none none, ty, pos, aft, g⟩ (.slice (slFrom p c l z) (n - l) (c - l)) :=
  .of_run fun a w h hw => ⟨w, by
    subst he
    have h1 : ((l : Int) ≤ (n : Int)) := by omega
    simp [execOp, h x (by simp [Op.operands]) _ hx, h i (by simp [Op.operands]) _ hi, Instr.sliceAt, run_underlying hT, Instr.slice, Instr.sliceBounds, Instr.sliceBound, asIntOf, hl, run_size hz, slFrom], hw⟩
end
theorem fill_cg {f g : Nat → Option (Nat × Nat)} : ∀ {ps : List (Nat × Value)} {Z : Array Value}, (∀ q, q ∈ ps → f q.1 = g q.1) → Instr.fill f Z ps = Instr.fill g Z ps
  | [], Z,_ => rfl
  | (i, v) :: r, Z, h => by
    have e : f i = g i := h (i, v) (by simp)
    simp only [Instr.fill, e]
    cases g i with
    | none => rfl
    | some q => dsimp only; split
                · rfl
                · exact fill_cg fun q hq => h q (by simp [hq])
/-- The same for an array. -/
def BuildsA (P : Program) (T : Nat) (PL : List (Nat × Nat)) (Z : List Value) : Prop := ∀ ps : List (Nat × Value), (ps.all fun q => Nat.blt q.1 PL.length) = true → P.built T ps = Instr.fill (PL[·]?) Z.toArray ps
theorem BuildsA.mk {P : Program} {T z n : Nat} {PL : List (Nat × Nat)} {Z : List Value} (h : ∀ ps, P.built T ps = Instr.fill (fun i => some (i * z, z)) Z.toArray ps) (hPL : PL = (List.range n).map fun i => (i * z, z)) : BuildsA P T PL Z := fun ps hp => by
  rw [h]
  refine fill_cg fun q hq => ?_
  have h1 := List.all_eq_true.1 hp q hq
  subst hPL
  have h2 : q.1 < n := by simpa [Nat.blt_eq] using h1
  simp [h2]
section
variable {P : Program} {β : Bs} {env : Env} {L : List Res}
variable {ty : TypeId} {pos : String} {aft : Array Edge} {g : Option (Nat × Bool)}
theorem LO.bda {d : Option Nat} {T : Nat} {PL : List (Nat × Nat)} {Z : List Value} {ps : List (Nat × Operand)} {vs : List (Nat × Value)} {C : List Value} (hB : BuildsA P T PL Z) (hv : (vs.all fun q => Nat.blt q.1 PL.length) = true) (hps : OVs env (ps.map (·.2)) (vs.map (·.2))) (hix : ps.map (·.1) = vs.map (·.1)) (hb : FL PL Z vs C) : LO P β env L ⟨d, .build T ps.toArray, ty, pos, aft, g⟩ (.agg C.toArray) :=
  .of_run fun a w h hw => ⟨w, by
    have h2 := OVs.map (a := a) hps (fun x hm u hu => h x (by
      obtain ⟨p, hp, e⟩ := List.mem_map.1 hm
      simp only [Op.operands]
      subst e
      simpa using ⟨p.1, hp⟩) u hu)
    rw [List.map_map] at h2
    have hm : (ps.map fun p => (p.1, a.eval p.2)) = vs := pairs_eq hix h2
    have hb' := run_build (P := P) w T vs.toArray C.toArray (by rw [hB _ hv]; exact hb.fill)
    rw [← hm] at hb'
    simp only [execOp, Sem.run_bind]
    rw [show (ps.toArray.map fun (i, x) => (i, a.eval x)) = (ps.map fun p => (p.1, a.eval p.2)).toArray by simp]
    simp [hb'], hw⟩
end
theorem RD.cap {H : Type} {enc : TypeId × Value → H} {P : Program} {W : World} {t e n : Nat} {x : DataW H × List MemPlace} (ht : P.underlying t = some (.slice e)) {p : Option Addr} {k c : Nat} (hx : DataW.trod enc P W 0 (fun _ => true) true n t [.slice p k c] = some x) : k ≤ c := by
  rcases DataW.trod_slice ht hx with ⟨h,_⟩ | ⟨a, len, cap, elems, rest, m,_, h,_,_, hl,_⟩
  · cases h; exact Nat.le_refl _
  · cases h; exact hl
end Go.SL

namespace Go.SL
set_option linter.unusedVariables false
section
variable {P : Program} {β : Bs} {env : Env} {L : List Res}
variable {ty : TypeId} {pos : String} {aft : Array Edge} {g : Option (Nat × Bool)}
def Arr2 (P : Program) (T E : Nat) : Prop := P.underlying T = some (.array 2 E) ∧ IsOne P E ∧ (∃ i, P.info? E = some i) ∧ P.cellsOf E = 1 ∧ P.eqGuardType P.depth T = false ∧ P.underlying E = some (.int .i64)
theorem eqArr2 {T E : Nat} (h : Arr2 P T E) (a b c e : Int) (dd : Nat) (w : World) : (Op.equalIn (dd + 2) T (.agg #[.int .i64 a, .int .i64 b]) (.agg #[.int .i64 c, .int .i64 e])).run P w = .ok (decide ([a, b] = [c, e])) w := by
  obtain ⟨hu, h1, ⟨i, hi⟩, hz,_, hE⟩ := h
  rw [run_equalIn_array w (dd + 1) _ _ hu hi, hz]
  have p (xs : Array Value) (k : Nat) (v : Int) (hk : xs[k]? = some (.int .i64 v)) : (part E xs k).run P w = .ok (.int .i64 v) w := by
    simp [part, run_isOne h1, hk]
  simp only [List.range_succ, List.range_zero, List.nil_append, List.cons_append, Op.eqItems, Sem.run_bind]
  rw [p #[.int .i64 a, .int .i64 b] (0 * 1) a rfl, Result.andThen_ok, p #[.int .i64 c, .int .i64 e] (0 * 1) c rfl, Result.andThen_ok, run_equalIn_int w dd E .i64 .i64 a c hE, Result.andThen_ok]
  by_cases q : a = c
  · subst q
    simp only [BEq.rfl, Bool.not_true, Bool.false_eq_true, if_false, Sem.run_bind]
    rw [p #[.int .i64 a, .int .i64 b] (1 * 1) b rfl, Result.andThen_ok, p #[.int .i64 a, .int .i64 e] (1 * 1) e rfl, Result.andThen_ok, run_equalIn_int w dd E .i64 .i64 b e hE, Result.andThen_ok]
    by_cases r : b = e
    · subst r; simp
    · simp [r]
  · simp [q]
end
end Go.SL

namespace Go.SL
set_option linter.unusedVariables false
/-- Rows of what 'f' encodes. -/
def RO {α : Type} (z : Nat) (f : α → List Value) (w : World) (p : Option Addr) (l : List α) : Prop := Go.SL.Rows w z p (l.map f)
section
variable {α : Type} {z : Nat} {f : α → List Value} {w0 w : World} {p : Option Addr} {l : List α} {L : List Res} {β : Bs}
theorem RO.sm (h : RO z f w p l) : SlSome p l.length := Go.SL.Rows.some h (by simp)
theorem RO.keep (h : RO z f w0 p l) : ∀ w, St (bs w0) L w → RO z f w p l := Go.SL.Rows.keep h
theorem RO.of_own (hw : St β L w) (i : Nat) {E cap : Nat} (hi : L[i]? = some (own E z p cap (l.map f))) : RO z f w p l := own_rows hw i hi
theorem RO.ofC {b : Nat} (hz : ∀ x, (f x).length = z) (h : Cells w ⟨b, 0, none⟩ (l.map f).flatten) : RO z f w (some ⟨b, 0, none⟩) l := by
  refine ⟨fun j r hr i v hv => ?_, fun q => (by cases q), fun _ a q => (by cases q; rfl)⟩
  have hz' : ∀ r ∈ l.map f, r.length = z := fun r hr => by obtain ⟨x,_, rfl⟩ := List.mem_map.1 hr; exact hz x
  have := h (j * z + i) v (flatten_row hz' hr hv)
  have e1 : (⟨b, 0, none⟩ : Addr).add (j * z + i) = ⟨b, j * z + i, none⟩ := by unfold Addr.add; split <;> simp_all
  have e2 : (⟨pb (Option.some ⟨b, 0, none⟩), po (Option.some ⟨b, 0, none⟩) + j * z, none⟩ : Addr).add i = ⟨b, j * z + i, none⟩ := by unfold Addr.add; simp only [pb, po]; split <;> simp_all
  rw [e1] at this; rw [e2]; exact this
theorem cells_part {w : World} {b o off : Nat} {C vs : List Value} (h : Cells w ⟨b, o, none⟩ C) (hv : ∃ r, C.drop off = vs ++ r) : Cells w ⟨b, o + off, none⟩ vs := by
  obtain ⟨r, hr⟩ := hv
  intro j v hj
  have h2 : C[off + j]? = some v := by
    rw [← List.getElem?_drop, hr, List.getElem?_append_left (by
      rcases Nat.lt_or_ge j vs.length with h | h
      · exact h
      · simp [List.getElem?_eq_none h] at hj)]
    exact hj
  have := h (off + j) v h2
  have e1 : (⟨b, o, none⟩ : Addr).add (off + j) = ⟨b, o + off + j, none⟩ := by unfold Addr.add; split <;> simp_all <;> omega
  have e2 : (⟨b, o + off, none⟩ : Addr).add j = ⟨b, o + off + j, none⟩ := by unfold Addr.add; split <;> simp_all
  rw [e2, ← e1]; exact this
end
end Go.SL

namespace Go.SL
set_option linter.unusedVariables false
open Go.RowKit

/-- Some resources as one: they are only read from now on. -/
def bag (Rs : List Res) : Res where
  fp := fun k => ∃ r, r ∈ Rs ∧ r.fp k
  inv := fun w => ∀ r, r ∈ Rs → r.inv w
  loc := fun h hi r hr => r.loc (fun k hk => h k ⟨r, hr, hk⟩) (hi r hr)

section
variable {β : Bs} {L : List Res} {w : World}
theorem St.bagNil (hw : St β L w) : St β (bag [] :: L) w := by
  have : St (bs w) [bag []] w := by
    refine ⟨rfl, rfl, rfl, Nat.le_refl _, fun _ _ _ => rfl, ?_, ?_, ?_⟩
    · intro i r hr
      cases i with
      | zero => simp at hr; subst hr; exact fun r hr => by cases hr
      | succ i => simp at hr
    · intro i r hr k hk
      cases i with
      | zero => simp at hr; subst hr; obtain ⟨r, hr,_⟩ := hk; cases hr
      | succ i => simp at hr
    · intro i j r s hij hr hs
      cases i with
      | zero => cases j with | zero => exact absurd rfl hij | succ j => simp at hs
      | succ i => simp at hr
  exact hw.call this
theorem St.bagIn {r : Res} {Rs : List Res} (h : St β (r :: bag Rs :: L) w) : St β (bag (Rs ++ [r]) :: L) w := by
  have mem : ∀ {x : Res}, x ∈ Rs ++ [r] → x ∈ Rs ∨ x = r := fun hx => by
    rcases List.mem_append.1 hx with q | q
    · exact .inl q
    · exact .inr (List.mem_singleton.1 q)
  refine ⟨h.os, h.tape, h.output, h.size, h.fr, ?_, ?_, ?_⟩
  · intro i s hs
    cases i with
    | zero =>
      simp at hs; subst hs
      intro x hx
      rcases mem hx with q | rfl
      · exact h.inv 1 (bag Rs) rfl x q
      · exact h.inv 0 x rfl
    | succ i => exact h.inv (i + 2) s (by simpa using hs)
  · intro i s hs k hk
    cases i with
    | zero =>
      simp at hs; subst hs
      obtain ⟨x, hx, hk⟩ := hk
      rcases mem hx with q | rfl
      · exact h.rng 1 (bag Rs) rfl k ⟨x, q, hk⟩
      · exact h.rng 0 x rfl k hk
    | succ i => exact h.rng (i + 2) s (by simpa using hs) k hk
  · have key : ∀ (j : Nat) (s : Res), (L[j]? = some s) → ∀ k, (bag (Rs ++ [r])).fp k → ¬ s.fp k := fun j s hs k hk hk2 => by
      obtain ⟨x, hx, hk⟩ := hk
      rcases mem hx with q | rfl
      · exact h.dis 1 (j + 2) (bag Rs) s (by omega) rfl (by simpa using hs) k ⟨x, q, hk⟩ hk2
      · exact h.dis 0 (j + 2) x s (by omega) rfl (by simpa using hs) k hk hk2
    intro i j a b hij ha hb k hk hk2
    cases i with
    | zero =>
      simp at ha; subst ha
      cases j with
      | zero => exact hij rfl
      | succ j => exact key j b (by simpa using hb) k hk hk2
    | succ i =>
      cases j with
      | zero => simp at hb; subst hb; exact key i a (by simpa using ha) k hk2 hk
      | succ j => exact h.dis (i + 2) (j + 2) a b (by omega) (by simpa using ha) (by simpa using hb) k hk hk2

theorem own_inv_rows {E z cap : Nat} {p : Option Addr} {rows : List (List Value)} (h : (own E z p cap rows).inv w) : Rows w z p rows := by
  obtain ⟨h1, h2, h3, h4⟩ := h
  refine ⟨?_, fun hp => (h3 hp).1, fun _ a ha => (h4 a ha).2.1⟩
  intro j r hr k v hv
  cases p with
  | none => rw [(h3 rfl).1] at hr; simp at hr
  | some a =>
    obtain ⟨g1, g2, C, s, g3, g4, g5⟩ := h4 a rfl
    have hadd : (⟨pb (some a), po (some a) + j * z, none⟩ : Addr).add k = ⟨a.block, j * z + k, none⟩ := by
      unfold Addr.add pb po; simp only [g1]; split <;> simp_all
    rw [hadd]
    simp only [World.cell?, g3, Option.isSome_none, Bool.false_eq_true, if_false]
    have : C.toList[j * z + k]? = some v := by
      rw [g4]
      have := flatten_row h2 hr hv
      rw [List.getElem?_append_left]
      · exact this
      · rcases Nat.lt_or_ge (j * z + k) rows.flatten.length with q | q
        · exact q
        · rw [List.getElem?_eq_none q] at this; cases this
    simpa using this

/-- A row of a slice of slices. -/
structure RowA (α : Type) where
  p : Option Addr
  c : Nat
  l : List α
def RowA.z {α : Type} : RowA α := ⟨none, 0, []⟩
def rowC {α : Type} (x : RowA α) : List Value := [.slice x.p x.l.length x.c]
def bagR {α : Type} (E z : Nat) (f : α → List Value) (rs : List (RowA α)) : Res := bag (rs.map fun x => own E z x.p x.c (x.l.map f))
/-- A slice of slices that is read. -/
def RR {α : Type} (z : Nat) (f : α → List Value) (w : World) (p : Option Addr) (rs : List (RowA α)) : Prop := RO 1 rowC w p rs ∧ ∀ x, x ∈ rs → x.l.length ≤ x.c ∧ RO z f w x.p x.l
theorem RR.keep {α : Type} {z : Nat} {f : α → List Value} {w0 : World} {p : Option Addr} {rs : List (RowA α)} (h : RR z f w0 p rs) : ∀ w, St (bs w0) L w → RR z f w p rs :=
  fun w hw => ⟨h.1.keep w hw, fun x hx => ⟨(h.2 x hx).1, (h.2 x hx).2.keep w hw⟩⟩
theorem RR.of_own {α : Type} {z : Nat} {f : α → List Value} {p : Option Addr} {rs : List (RowA α)} (hw : St β L w) (i j : Nat) {E E' cap : Nat} (hi : L[i]? = some (own E 1 p cap (rs.map rowC))) (hj : L[j]? = some (bagR E' z f rs)) : RR z f w p rs :=
  ⟨RO.of_own hw i hi, fun x hx => by
    have h := hw.inv j _ hj _ (List.mem_map_of_mem (f := fun x : RowA α => own E' z x.p x.c (x.l.map f)) hx)
    refine ⟨?_, own_inv_rows h⟩
    have := h.1
    rwa [List.length_map] at this⟩
theorem St.bagRNil {α : Type} (hw : St β L w) (E z : Nat) (f : α → List Value) : St β (bagR E z f [] :: L) w := hw.bagNil
theorem St.bagRIn {α : Type} {E z : Nat} {f : α → List Value} {rs : List (RowA α)} {x : RowA α} (h : St β (own E z x.p x.c (x.l.map f) :: bagR E z f rs :: L) w) : St β (bagR E z f (rs ++ [x]) :: L) w := by
  have := h.bagIn
  unfold bagR
  rw [List.map_append]
  exact this
end
end Go.SL

namespace Go.SL
set_option linter.unusedVariables false
open Go.RowKit

def Apart (r s : Res) : Prop := ∀ k, r.fp k → ¬ s.fp k
theorem Apart.symm {r s : Res} (h : Apart r s) : Apart s r := fun k hk hk2 => h k hk2 hk

section
variable {β : Bs} {L L' Rs : List Res} {w w' : World}

theorem St.mem (h : St β L w) {r : Res} (hr : r ∈ L) : r.inv w := by
  obtain ⟨i, hi⟩ := List.mem_iff_getElem?.1 hr
  exact h.inv i r hi
theorem St.rngM (h : St β L w) {r : Res} (hr : r ∈ L) : ∀ k, r.fp k → (β.O k ∨ β.w.heap.size ≤ k) ∧ k < w.heap.size := by
  obtain ⟨i, hi⟩ := List.mem_iff_getElem?.1 hr
  exact h.rng i r hi
theorem St.pw (h : St β L w) : L.Pairwise Apart := by
  rw [List.pairwise_iff_getElem]
  intro i j hi hj hij
  exact h.dis i j _ _ (by omega) (List.getElem?_eq_getElem hi) (List.getElem?_eq_getElem hj)
theorem st_mk (os : w.os = β.w.os) (tape : w.tape = β.w.tape) (output : w.output = β.w.output) (size : β.w.heap.size ≤ w.heap.size) (fr : ∀ k, k < β.w.heap.size → ¬ β.O k → w.heap[k]? = β.w.heap[k]?)
    (inv : ∀ r, r ∈ L → r.inv w) (rng : ∀ r, r ∈ L → ∀ k, r.fp k → (β.O k ∨ β.w.heap.size ≤ k) ∧ k < w.heap.size) (pw : L.Pairwise Apart) : St β L w := by
  refine ⟨os, tape, output, size, fr, fun i r hr => inv r (List.mem_of_getElem? hr), fun i r hr => rng r (List.mem_of_getElem? hr), ?_⟩
  intro i j r s hij hr hs
  obtain ⟨hi, rfl⟩ := List.getElem?_eq_some_iff.1 hr
  obtain ⟨hj, rfl⟩ := List.getElem?_eq_some_iff.1 hs
  have := List.pairwise_iff_getElem.1 pw
  rcases Nat.lt_or_gt_of_ne hij with q | q
  · exact this i j hi hj q
  · exact (this j i hj hi q).symm

/-- The resources in another order. -/
theorem St.perm (h : St β L w) (hp : L.Perm L') : St β L' w :=
  st_mk h.os h.tape h.output h.size h.fr (fun r hr => h.mem (hp.mem_iff.2 hr)) (fun r hr => h.rngM (hp.mem_iff.2 hr)) ((hp.pairwise_iff (fun h => Apart.symm h)).1 h.pw)

/-- Resources that lie apart, as one. -/
def bagD (Rs : List Res) : Res where
  fp := fun k => ∃ r, r ∈ Rs ∧ r.fp k
  inv := fun w => (∀ r, r ∈ Rs → r.inv w) ∧ Rs.Pairwise Apart
  loc := fun h hi => ⟨fun r hr => r.loc (fun k hk => h k ⟨r, hr, hk⟩) (hi.1 r hr), hi.2⟩

theorem St.unbagD (h : St β (bagD Rs :: L) w) : St β (Rs ++ L) w := by
  have hb := h.mem (List.mem_cons_self)
  have hp := List.pairwise_cons.1 h.pw
  refine st_mk h.os h.tape h.output h.size h.fr (fun r hr => ?_) (fun r hr k hk => ?_) ?_
  · rcases List.mem_append.1 hr with q | q
    · exact hb.1 r q
    · exact h.mem (List.mem_cons_of_mem _ q)
  · rcases List.mem_append.1 hr with q | q
    · exact h.rngM List.mem_cons_self k ⟨r, q, hk⟩
    · exact h.rngM (List.mem_cons_of_mem _ q) k hk
  · exact List.pairwise_append.2 ⟨hb.2, hp.2, fun r hr s hs k hk => hp.1 s hs k ⟨r, hr, hk⟩⟩

theorem St.bagD (h : St β (Rs ++ L) w) : St β (Go.SL.bagD Rs :: L) w := by
  obtain ⟨p1, p2, p3⟩ := List.pairwise_append.1 h.pw
  refine st_mk h.os h.tape h.output h.size h.fr (fun r hr => ?_) (fun r hr k hk => ?_) ?_
  · rcases List.mem_cons.1 hr with rfl | q
    · exact ⟨fun r hr => h.mem (List.mem_append_left _ hr), p1⟩
    · exact h.mem (List.mem_append_right _ q)
  · rcases List.mem_cons.1 hr with rfl | q
    · obtain ⟨s, hs, hk⟩ := hk
      exact h.rngM (List.mem_append_left _ hs) k hk
    · exact h.rngM (List.mem_append_right _ q) k hk
  · exact List.pairwise_cons.2 ⟨fun s hs k ⟨r, hr, hk⟩ => p3 r hr s hs k hk, p2⟩

/-- One of a bag is taken out. -/
theorem St.focus {A B : List Res} {r : Res} (h : St β (Go.SL.bagD (A ++ r :: B) :: L) w) : St β (r :: Go.SL.bagD (A ++ B) :: L) w := by
  have h1 := h.unbagD.perm (L' := (A ++ B) ++ (r :: L)) (by
    simp only [List.append_assoc, List.cons_append]
    exact List.Perm.append_left A (List.perm_middle.symm))
  exact (h1.bagD).perm (List.Perm.swap _ _ _)
/-- And put back, as it is now. -/
theorem St.unfocus {A B : List Res} {r : Res} (h : St β (r :: Go.SL.bagD (A ++ B) :: L) w) : St β (Go.SL.bagD (A ++ r :: B) :: L) w := by
  have h1 := (h.perm (List.Perm.swap _ _ _)).unbagD.perm (L' := (A ++ r :: B) ++ L) (by
    simp only [List.append_assoc, List.cons_append]
    exact List.Perm.append_left A List.perm_middle)
  exact h1.bagD

/-- At 'w' lie these resources. -/
def Has (w : World) (R : List Res) : Prop := St ⟨w, fpL R⟩ R w
theorem fpL_mem {R : List Res} {k : Nat} : fpL R k ↔ ∃ r, r ∈ R ∧ r.fp k :=
  ⟨fun ⟨i, r, hr, hk⟩ => ⟨r, List.mem_of_getElem? hr, hk⟩, fun ⟨r, hr, hk⟩ => by obtain ⟨i, hi⟩ := List.mem_iff_getElem?.1 hr; exact ⟨i, r, hi, hk⟩⟩
theorem has_mk {R : List Res} (h1 : ∀ r, r ∈ R → r.inv w) (h2 : ∀ r, r ∈ R → ∀ k, r.fp k → k < w.heap.size) (h3 : R.Pairwise Apart) : Has w R :=
  st_mk rfl rfl rfl (Nat.le_refl _) (fun _ _ _ => rfl) h1 (fun r hr k hk => ⟨.inl (fpL_mem.2 ⟨r, hr, hk⟩), h2 r hr k hk⟩) h3
theorem St.has {R : List Res} (h : St β L w) (hs : R.Sublist L) : Has w R :=
  has_mk (fun r hr => h.mem (hs.subset hr)) (fun r hr k hk => (h.rngM (hs.subset hr) k hk).2) (h.pw.sublist hs)
theorem St.hasL {R : List Res} (h : St β (R ++ L) w) : Has w R := h.has (List.sublist_append_left R L)
theorem Has.sub {R R' : List Res} (h : Has w R) (hs : R'.Sublist R) : Has w R' := St.has h hs
theorem Has.unbag {R : List Res} (h : Has w (Go.SL.bagD Rs :: R)) : Has w (Rs ++ R) := St.has (St.unbagD h) (List.Sublist.refl _)
theorem Has.enter (h : Has w L) : St ⟨w, fpL L⟩ L w := h
end

section
variable {P : Program} {ro : Option Nat} {β : Bs} {N : Nat} {ds : List Deferred} {env : Env} {L : List Res} {Q : Exit → Act → World → Prop}
  {ty : TypeId} {pos : String} {aft : Array Edge} {g : Option (Nat × Bool)}

/-- Another list of resources, said by a lemma on states. -/
theorem VC.res {L' : List Res} {c : Code} (hL : ∀ w, St β L w → St β L' w) (h : VC P ro β N ds env L' c Q) : VC P ro β N ds env L c Q := fun a w ha hw => h a w ha (hL w hw)
end
end Go.SL

namespace Go.SL
set_option linter.unusedVariables false
open Go.RowKit

theorem flatten_set {z : Nat} : ∀ {rows : List (List Value)} {j o : Nat} {r vs : List Value}, (∀ r ∈ rows, r.length = z) → rows[j]? = some r → o + vs.length ≤ z →
    rows.flatten.take (j * z + o) ++ vs ++ rows.flatten.drop (j * z + o + vs.length) = (rows.set j (r.take o ++ vs ++ r.drop (o + vs.length))).flatten
  | [], j, o, r, vs,_, h,_ => by simp at h
  | x :: xs, 0, o, r, vs, hz, h, hl => by
    simp at h; subst h
    have hx : x.length = z := hz x (by simp)
    simp only [Nat.zero_mul, Nat.zero_add, List.flatten_cons, List.set_cons_zero]
    rw [List.take_append_of_le_length (by omega), List.drop_append_of_le_length (by omega)]
    simp only [List.append_assoc]
  | x :: xs, j + 1, o, r, vs, hz, h, hl => by
    have hx : x.length = z := hz x (by simp)
    have ih := flatten_set (rows := xs) (j := j) (o := o) (r := r) (vs := vs) (fun r hr => hz r (by simp [hr])) (by simpa using h) hl
    simp only [List.flatten_cons, List.set_cons_succ, ← ih]
    have e : (j + 1) * z + o = x.length + (j * z + o) := by rw [Nat.add_mul]; omega
    rw [e, List.take_length_add_append, show x.length + (j * z + o) + vs.length = x.length + (j * z + o + vs.length) by omega, List.drop_length_add_append]
    simp only [List.append_assoc]

section
variable {P : Program} {ro : Option Nat} {β : Bs} {N : Nat} {ds : List Deferred} {env : Env} {L : List Res} {Q : Exit → Act → World → Prop}
  {ty : TypeId} {pos : String} {aft : Array Edge} {g : Option (Nat × Bool)}

/-- A store into a part of an element. -/
theorem HO.sto (i : Nat) (LF : Res → List Res) {K : Value → List Res → Prop} {dd : Option Nat} {x y : Operand} {T E z cap j o q : Nat} {p : Option Addr} {rows : List (List Value)} {r : List Value} {v : Value} {vs : List Value} (hT : (P.info? T).map (·.size) = some vs.length) (hx : OV env x (.pointer (some ⟨pb p, q, none⟩))) (hy : OV env y v)
    (hi : L[i]? = some (own E z p cap rows)) (hj : rows[j]? = some r) (hq : q = po p + j * z + o) (hv : v.cells = vs.toArray) (hfit : o + vs.length ≤ z) (h1 : allOne vs = true) (hL : ∀ R : Res, L.set i R = LF R)
    (k : K undef (LF (own E z p cap (rows.set j (r.take o ++ vs ++ r.drop (o + vs.length)))))) : HO P β env L ⟨dd, .store T x y, ty, pos, aft, none⟩ K := by
  intro a w h hw
  have ex : a.eval x = .pointer (some ⟨pb p, q, none⟩) := by obtain ⟨u, hu, e⟩ := hx; subst e; exact h x (by simp [Op.operands]) _ hu
  have ey : a.eval y = v := by obtain ⟨u, hu, e⟩ := hy; subst e; exact h y (by simp [Op.operands]) _ hu
  obtain ⟨g1, g2, g3, g4⟩ := hw.inv i _ hi
  have hlt : i < L.length := by
    rcases Nat.lt_or_ge i L.length with q | q
    · exact q
    · simp [List.getElem?_eq_none q] at hi
  cases p with
  | none => rw [(g3 rfl).1] at hj; simp at hj
  | some ad =>
    obtain ⟨k1, k2, C, sp, k3, k4, k5⟩ := g4 ad rfl
    have hq' : q = j * z + o := by rw [hq]; simp only [po, k1]; omega
    have hjl : j < rows.length := (List.getElem?_eq_some_iff.1 hj).1
    have hfl : rows.flatten.length = rows.length * z := flatten_len g2
    have hle : j * z + o + vs.length ≤ rows.flatten.length := by
      rw [hfl]
      have : (j + 1) * z ≤ rows.length * z := Nat.mul_le_mul_right z hjl
      rw [Nat.add_mul] at this; omega
    have hCl : C.size = C.toList.length := by simp
    have hrun := run_store_blk (P := P) (o := q) hT hv k3 (by rw [hCl, k4, List.length_append]; omega) (allOne_spec h1)
    have hr : r.length = z := g2 r (List.mem_of_getElem? hj)
    have hC : C.toList.take q ++ vs ++ C.toList.drop (q + vs.length) = (rows.set j (r.take o ++ vs ++ r.drop (o + vs.length))).flatten ++ sp := by
      rw [← flatten_set g2 hj hfit, hq', k4, List.take_append_of_le_length (by omega), List.drop_append_of_le_length (by omega)]
      simp only [List.append_assoc]
    refine .inl ⟨.skip, w.setRow ad.block (C.toList.take q ++ vs ++ C.toList.drop (q + vs.length)).toArray, undef,_, ?_, .inr ⟨rfl, rfl⟩, k, ?_⟩
    · simp only [execOp, ex, ey, pb, Instr.storeAt, Instr.sureAddr, Sem.run_bind, Sem.run_pure, Result.andThen_ok, hrun]
    · rw [← hL]
      have s1 : St β (L.set i (blk ad.block (.cells C E))) w := hw.conv i hi (fun k hk => ⟨by simp, hk⟩) k3
      have hg : (L.set i (blk ad.block (.cells C E)))[i]? = some (blk ad.block (.cells C E)) := by simp [hlt]
      have s2 := s1.setRow (C' := (C.toList.take q ++ vs ++ C.toList.drop (q + vs.length)).toArray) hg
      rw [List.set_set] at s2
      have hg2 : (L.set i (blk ad.block (.cells (C.toList.take q ++ vs ++ C.toList.drop (q + vs.length)).toArray E)))[i]? = some (blk ad.block (.cells (C.toList.take q ++ vs ++ C.toList.drop (q + vs.length)).toArray E)) := by simp [hlt]
      have s3 := s2.conv i (r' := own E z (some ad) cap (rows.set j (r.take o ++ vs ++ r.drop (o + vs.length)))) hg2 (fun k hk => hk.2) (by
        refine ⟨by simpa using g1, ?_, fun e => (by cases e), ?_⟩
        · intro s hs
          rcases List.mem_or_eq_of_mem_set hs with q1 | q1
          · exact g2 s q1
          · subst q1; simp; omega
        · intro a' ha'
          cases ha'
          refine ⟨k1, k2,_, sp, s2.inv i _ hg2, by simpa using hC, ?_⟩
          simp only [List.size_toArray]
          have e1 : (C.toList.take q ++ vs ++ C.toList.drop (q + vs.length)).length = C.toList.length := by
            have := hle
            have : q + vs.length ≤ C.toList.length := by rw [k4, List.length_append]; omega
            simp; omega
          rw [e1, ← hCl, k5])
      rwa [List.set_set] at s3

end
end Go.SL

namespace Go.SL
set_option linter.unusedVariables false
open Go.RowKit

section
variable {P : Program} {ro : Option Nat} {β : Bs} {N : Nat} {ds : List Deferred} {env : Env} {L : List Res} {Q : Exit → Act → World → Prop}
  {ty : TypeId} {pos : String} {aft : Array Edge} {g : Option (Nat × Bool)}

theorem LO.mf2 {d : Option Nat} {fn : Fn} {ys xs : List Operand} {first cap : List Value} (hy : OVs env ys first) (hx : OVs env xs cap) : LO P β env L ⟨d, .makeFunc fn ys.toArray xs.toArray, ty, pos, aft, g⟩ (.func fn first.toArray cap.toArray) :=
  .of_run fun a w h hw => ⟨w, by
    have hm : xs.map a.eval = cap := hx.map fun x hm u hu => h x (by simp [Op.operands, hm]) u hu
    have hm2 : ys.map a.eval = first := hy.map fun x hm u hu => h x (by simp [Op.operands, hm]) u hu
    simp [execOp, Instr.makeFunc, hm, hm2], hw⟩

/-- A call that is handed some of the resources, and leaves others in their place. -/
theorem HO.callP {α : Type} (L1 L2 : List Res) {K : Value → List Res → Prop} {dd : Option Nat} {f : FuncId} {fx : Operand} {xs : List Operand} {vs first cap : List Value} {aT : Array TypeId} {v : α → Value} {R : α → List Res} {I : α → Prop} (hL : ∀ w, St β L w → St β (L1 ++ L2) w) (hfx : OV env fx (.func (.func f) first.toArray cap.toArray)) (hf : IsFn P f) (hx : OVs env xs vs)
    (hc : ∀ w, St β L w → Has w L1 → Calls P f (first ++ vs ++ cap).toArray w fun e w' => ∃ x, I x ∧ e = .returned (v x) ∧ St ⟨w, fpL L1⟩ (R x) w') (k : ∀ x, I x → K (v x) (R x ++ L2)) : HO P β env L ⟨dd, .call ⟨.value fx, xs.toArray, aT⟩, ty, pos, aft, none⟩ K := by
  intro a w h hw
  refine .inr (.inl ⟨f, (first ++ vs ++ cap).toArray, ?_, ?_⟩)
  · have hm : xs.map a.eval = vs := hx.map fun x hm u hu => by obtain ⟨u', hu', e⟩ := hu; subst e; exact h x (by simp [Op.operands, Call.operands, hm]) u' hu'
    have hfe : a.eval fx = .func (.func f) first.toArray cap.toArray := by obtain ⟨u', hu', e⟩ := hfx; subst e; exact h fx (by simp [Op.operands, Call.operands]) _ hu'
    simp [execOp, resolve, hfe, Deferred.ofValue, invoke, run_call hf, hm]
  · have hw2 : St β (L1 ++ L2) w := hL w hw
    exact (hc w hw hw2.hasL).mono fun e w' ⟨x, hI, he, hs⟩ => ⟨v x,_, he, k x hI, hw2.callG (fun k hk => hk) hs⟩
end
end Go.SL

namespace Go.SL
set_option linter.unusedVariables false
open Go.RowKit

section
variable {P : Program} {ro : Option Nat} {β : Bs} {N : Nat} {ds : List Deferred} {env : Env} {L : List Res} {Q : Exit → Act → World → Prop}
  {ty : TypeId} {pos : String} {aft : Array Edge} {g : Option (Nat × Bool)}

theorem rep_flat {zs : Array Value} (hz : 0 < zs.size) : ∀ n, (List.range (n * zs.size)).map (fun i => zs[i % zs.size]!) = (List.replicate n zs.toList).flatten
  | 0 => by simp
  | n + 1 => by
    rw [List.replicate_succ', List.flatten_append, ← rep_flat hz n, Nat.add_mul, Nat.one_mul, List.range_add, List.map_append]
    congr 1
    rw [List.map_map]
    simp only [List.flatten_cons, List.flatten_nil, List.append_nil]
    refine List.ext_getElem? fun i => ?_
    rw [List.getElem?_map]
    rcases Nat.lt_or_ge i zs.size with h | h
    · rw [List.getElem?_range h]
      simp only [Option.map_some, Function.comp]
      have e : (n * zs.size + i) % zs.size = i := by rw [Nat.mul_comm, Nat.mul_add_mod, Nat.mod_eq_of_lt h]
      rw [e, getElem!_pos zs i h]
      simp [h]
    · rw [List.getElem?_eq_none (by simpa using h), List.getElem?_eq_none (by simpa using h)]; rfl

theorem mk_cells {zero : Value} {z : Nat} (h4 : zero.cells.size = z) (hz1 : 0 < z) (n : Nat) : ((Array.range (n * z)).map fun i => zero.cells[i % zero.cells.size]!) = (List.replicate n zero.cells.toList).flatten.toArray := by
  rw [← rep_flat (by omega), h4]; apply Array.ext'; simp
set_option maxRecDepth 8000 in
theorem run_mks {T E z by_ n : Nat} {zero : Value} (hT : IsSlice P T E) (hE : EInfo P E z by_ zero) (hz1 : 0 < z) (hn : by_ * n ≤ 281474976710656) (hn2 : n ≤ 281474976710656) (w : World) : (Instr.makeSlice T (.int .i64 (n : Int)) (.int .i64 (n : Int))).run P w = .ok (.slice (some ⟨w.heap.size, 0, none⟩) n n) (w.alloc (.cells (List.replicate n zero.cells.toList).flatten.toArray E)) := by
  obtain ⟨h1, h2, h3, h4, h5⟩ := hE
  have hw64 : IntKind.wrap .i64 (n : Int) = n := wi (by omega) (by omega)
  obtain ⟨i, hi, hib⟩ := run_bytes h2 w
  have hcells := mk_cells h4 hz1 n
  have t1 : decide ((by_ : Int) * n > 2 ^ 48) = false := by
    have h1 : (by_ : Int) * n ≤ 281474976710656 := by omega
    have h2 : ¬ ((n : Int) < 0) := by omega
    have h3 : ¬ ((by_ : Int) * n > 281474976710656) := by omega
    rw [show ((2 : Int) ^ 48) = 281474976710656 from rfl, decide_eq_false h3]
  have c1 : decide ((n : Int) < 0) = false := by rw [decide_eq_false_iff_not]; omega
  have c2 : decide ((n : Int) > n) = false := by rw [decide_eq_false_iff_not]; omega
  unfold Instr.makeSlice
  rw [Sem.run_bind, run_underlying hT, Result.andThen_ok]
  have ha : (asInt (.int .i64 (n : Int))).run P w = .ok (n : Int) w := rfl
  dsimp only
  rw [Sem.run_bind, ha, Result.andThen_ok, Sem.run_bind, ha, Result.andThen_ok, Sem.run_bind, hi, Result.andThen_ok]
  simp only [hib, hw64, t1, c1, c2, Bool.or_self, Bool.false_eq_true, if_false, Sem.run_bind, run_askRoom, Result.andThen_ok, run_size h1, Int.toNat_natCast]
  by_cases q : n * z = 0
  · have hn0 : n = 0 := by
      rcases Nat.mul_eq_zero.1 q with q | q
      · exact q
      · omega
    subst hn0
    simp [newRow, run_newObj]
    congr 2
    exact Array.ext' (by simp [Array.toList_range])
  · simp only [q, if_false, Sem.run_bind, run_zero h3, Result.andThen_ok, Sem.run_pure, hcells, newRow, run_newObj]
    rfl
/-- A slice that is made. -/
theorem HO.mks {K : Value → List Res → Prop} {dd : Option Nat} {x y : Operand} {T E z by_ n : Nat} {zero : Value} {e : Int} (hT : IsSlice P T E) (hE : EInfo P E z by_ zero) (hx : OV env x (.int .i64 e)) (hy : OV env y (.int .i64 e)) (he : e = (n : Int)) (hz1 : 0 < z) (hn : by_ * n ≤ 281474976710656) (hn2 : n ≤ 281474976710656)
    (k : ∀ b, K (.slice (some ⟨b, 0, none⟩) n n) (own E z (some ⟨b, 0, none⟩) n (List.replicate n zero.cells.toList) :: L)) : HO P β env L ⟨dd, .makeSlice T x y, ty, pos, aft, none⟩ K := by
  intro a w h hw
  have ex : a.eval x = .int .i64 e := by obtain ⟨u, hu, q⟩ := hx; subst q; exact h x (by simp [Op.operands]) _ hu
  have ey : a.eval y = .int .i64 e := by obtain ⟨u, hu, q⟩ := hy; subst q; exact h y (by simp [Op.operands]) _ hu
  subst he
  have hrun := run_mks hT hE hz1 hn hn2 w
  obtain ⟨h1, h2, h3, h4, h5⟩ := hE
  have hfl : ∀ n, (List.replicate n zero.cells.toList).flatten.length = n * z := fun n => by
    rw [flatten_len (z := z) (fun r hr => by rw [(List.mem_replicate.1 hr).2, Array.length_toList, h4])]; simp
  refine .inl ⟨_, w.alloc (.cells (List.replicate n zero.cells.toList).flatten.toArray E),_,_, ?_, .inl rfl, k w.heap.size, ?_⟩
  · simp only [execOp, ex, ey, Sem.run_bind, hrun, Result.andThen_ok, Sem.run_pure]
  · have s1 := hw.alloc (.cells (List.replicate n zero.cells.toList).flatten.toArray E)
    exact s1.conv 0 (r' := own E z (some ⟨w.heap.size, 0, none⟩) n (List.replicate n zero.cells.toList)) rfl (fun k hk => hk.2) ⟨by simp, fun r hr => by rw [(List.mem_replicate.1 hr).2, Array.length_toList, h4], fun q => (by cases q), fun a' ha' => by
      cases ha'
      exact ⟨rfl, rfl,_, [], heap_alloc_new w _, by simp, by rw [List.size_toArray, hfl]⟩⟩
end
end Go.SL

namespace Go.SL
set_option linter.unusedVariables false
open Go.RowKit
section
variable {P : Program} {β : Bs} {N : Nat} {env : Env} {L : List Res} {ty : TypeId} {pos : String} {aft : Array Edge} {dd : Option Nat}
theorem HO.mksB {K : Value → List Res → Prop} {x y : Operand} {T E z by_ n : Nat} {zero : Value} {e : Int} (hT : IsSlice P T E) (hE : EInfo P E z by_ zero) (hx : OV env x (.int .i64 e)) (hy : OV env y (.int .i64 e)) (he : e = (n : Int)) (hz1 : 0 < z) (hn : by_ * n ≤ 281474976710656) (hn2 : n ≤ 281474976710656)
    (k : ∀ b, K (.slice (some ⟨b, 0, none⟩) n n) (blk b (.cells (List.replicate n zero.cells.toList).flatten.toArray E) :: L)) : HO P β env L ⟨dd, .makeSlice T x y, ty, pos, aft, none⟩ K := by
  intro a w h hw
  have ex : a.eval x = .int .i64 e := by obtain ⟨u, hu, q⟩ := hx; subst q; exact h x (by simp [Op.operands]) _ hu
  have ey : a.eval y = .int .i64 e := by obtain ⟨u, hu, q⟩ := hy; subst q; exact h y (by simp [Op.operands]) _ hu
  subst he
  have hrun := run_mks hT hE hz1 hn hn2 w
  refine .inl ⟨_, w.alloc (.cells (List.replicate n zero.cells.toList).flatten.toArray E),_,_, ?_, .inl rfl, k w.heap.size, hw.alloc _⟩
  simp only [execOp, ex, ey, Sem.run_bind, hrun, Result.andThen_ok, Sem.run_pure]
theorem HO.cpy (i : Nat) (LF : Res → List Res) {K : Value → List Res → Prop} {x y : Operand} {T T2 E b o dl dc sl sc : Nat} {a0 : Addr} {C C' : Array Value} {cs : List Value} (hT : IsSlice P T E) (hz : (P.info? E).map (·.size) = some 1)
    (hx : OV env x (.slice (some ⟨b, o, none⟩) dl dc)) (hy : OV env y (.slice (some a0) sl sc)) (hi : L[i]? = some (blk b (.cells C E))) (hn : cs.length = Nat.min sl dl) (hsrc : ∀ w, St β L w → ∀ (j : Nat) (v : Value), cs[j]? = some v → w.cell? (a0.add j) = some v)
    (hfit : o + cs.length ≤ C.size) (h1 : ∀ v ∈ cs, v.oneCell' = true) (hC : (C.toList.take o ++ cs ++ C.toList.drop (o + cs.length)).toArray = C') (hL : ∀ R : Res, L.set i R = LF R)
    (k : K (.int .i64 cs.length) (LF (blk b (.cells C' E)))) : HO P β env L ⟨dd, .call ⟨.builtin .copy, #[x, y], #[T, T2]⟩, ty, pos, aft, none⟩ K := by
  intro a w h hw
  have ex : a.eval x = .slice (some ⟨b, o, none⟩) dl dc := by obtain ⟨u, hu, e⟩ := hx; subst e; exact h x (by simp [Op.operands, Call.operands]) _ hu
  have ey : a.eval y = .slice (some a0) sl sc := by obtain ⟨u, hu, e⟩ := hy; subst e; exact h y (by simp [Op.operands, Call.operands]) _ hu
  have hg : w.heap[b]? = some (.cells C E (0,0)) := hw.inv i _ hi
  have hrun := run_copy_row (P := P) w T T2 ty E b o dl dc a0 sl sc C E cs hT hz hg hn (hsrc w hw) hfit h1
  refine .inl ⟨.value (.int .i64 cs.length), w.setRow b C',_, LF (blk b (.cells C' E)), ?_, .inl rfl, k, ?_⟩
  · rw [hC] at hrun
    simp [execOp, resolve, invoke, builtin, ex, ey, hrun, goInt]
  · rw [← hL]; exact hw.setRow hi
theorem slFrom_lt {b n k : Nat} (h : k < n) : slFrom (some ⟨b, 0, none⟩) n k 1 = some ⟨b, k, none⟩ := by
  unfold slFrom
  rw [if_neg (by omega)]
  simp [Addr.add]
  omega
end
end Go.SL

namespace Go.Cell
set_option linter.unusedVariables false

/-- The neighbors of a pixel, as the program yields them. -/
def nb (W H p : Nat) : List Nat := (if 0 < p / W then [p - W] else []) ++ (if 0 < p % W then [p - 1] else []) ++ (if p % W + 1 < W then [p + 1] else []) ++ (if p / W + 1 < H then [p + W] else [])

theorem mem_nb {W H p r : Nat} : r ∈ nb W H p ↔ (0 < p / W ∧ r = p - W) ∨ (0 < p % W ∧ r = p - 1) ∨ (p % W + 1 < W ∧ r = p + 1) ∨ (p / W + 1 < H ∧ r = p + W) := by
  unfold nb
  simp only [List.mem_append]
  constructor
  · rintro (((h | h) | h) | h) <;> split at h <;> simp at h <;> omega
  · rintro (⟨h, e⟩ | ⟨h, e⟩ | ⟨h, e⟩ | ⟨h, e⟩)
    · left; left; left; rw [if_pos h]; simp [e]
    · left; left; right; rw [if_pos h]; simp [e]
    · left; right; rw [if_pos h]; simp [e]
    · right; rw [if_pos h]; simp [e]

theorem dm (W p : Nat) (hW : 0 < W) : p = W * (p / W) + p % W ∧ p % W < W := ⟨(Nat.div_add_mod p W).symm, Nat.mod_lt p hW⟩
theorem dm_eq {W p a b : Nat} (h : p = W * a + b) (hb : b < W) : p / W = a ∧ p % W = b := by
  subst h
  constructor
  · rw [Nat.mul_add_div (by omega), Nat.div_eq_of_lt hb, Nat.add_zero]
  · rw [Nat.mul_add_mod, Nat.mod_eq_of_lt hb]
theorem row_lt {W H p : Nat} (hp : p < W * H) : p / W < H := by
  have hW : 0 < W := by rcases Nat.eq_zero_or_pos W with q | q; subst q; simp at hp; exact q
  exact (Nat.div_lt_iff_lt_mul hW).2 (by rw [Nat.mul_comm]; exact hp)
theorem pix_lt {W H x y : Nat} (hx : x < W) (hy : y < H) : W * y + x < W * H := by
  have : W * (y + 1) ≤ W * H := Nat.mul_le_mul_left W hy
  rw [Nat.mul_add] at this
  omega

/-- Columns and rows of neighbors. -/
theorem nb_xy {W H p r : Nat} (hp : p < W * H) (hr : r ∈ nb W H p) : r < W * H ∧ ((r % W = p % W ∧ (r / W + 1 = p / W ∨ r / W = p / W + 1)) ∨ (r / W = p / W ∧ (r % W + 1 = p % W ∨ r % W = p % W + 1))) := by
  have hW : 0 < W := by rcases Nat.eq_zero_or_pos W with q | q; subst q; simp at hp; exact q
  obtain ⟨h1, h2⟩ := dm W p hW
  have hy := row_lt hp
  generalize ea : p / W = a at *
  generalize eb : p % W = b at *
  rcases mem_nb.1 hr with ⟨h, e⟩ | ⟨h, e⟩ | ⟨h, e⟩ | ⟨h, e⟩
  · obtain ⟨c, rfl⟩ : ∃ c, a = c + 1 := ⟨a - 1, by omega⟩
    have e2 : r = W * c + b := by rw [Nat.mul_add] at h1; omega
    obtain ⟨z1, z2⟩ := dm_eq e2 h2
    exact ⟨by rw [e2]; exact pix_lt h2 (by omega), .inl ⟨z2, .inl (by omega)⟩⟩
  · have e2 : r = W * a + (b - 1) := by omega
    obtain ⟨z1, z2⟩ := dm_eq e2 (by omega)
    exact ⟨by rw [e2]; exact pix_lt (by omega) hy, .inr ⟨z1, .inl (by omega)⟩⟩
  · have e2 : r = W * a + (b + 1) := by omega
    obtain ⟨z1, z2⟩ := dm_eq e2 (by omega)
    exact ⟨by rw [e2]; exact pix_lt (by omega) hy, .inr ⟨z1, .inr (by omega)⟩⟩
  · have e2 : r = W * (a + 1) + b := by rw [Nat.mul_add]; omega
    obtain ⟨z1, z2⟩ := dm_eq e2 h2
    exact ⟨by rw [e2]; exact pix_lt h2 (by omega), .inl ⟨z2, .inr (by omega)⟩⟩
theorem nb_of_xy {W H p r : Nat} (hp : p < W * H) (hr : r < W * H) (h : (r % W = p % W ∧ (r / W + 1 = p / W ∨ r / W = p / W + 1)) ∨ (r / W = p / W ∧ (r % W + 1 = p % W ∨ r % W = p % W + 1))) : r ∈ nb W H p := by
  have hW : 0 < W := by rcases Nat.eq_zero_or_pos W with q | q; subst q; simp at hp; exact q
  obtain ⟨h1, h2⟩ := dm W p hW
  obtain ⟨h3, h4⟩ := dm W r hW
  have hy := row_lt hp
  have hy2 := row_lt hr
  refine mem_nb.2 ?_
  rcases h with ⟨e, f | f⟩ | ⟨e, f | f⟩
  · left; rw [← f, Nat.mul_add] at h1; rw [e] at h3; exact ⟨by rw [← f]; exact Nat.succ_pos _, by omega⟩
  · right; right; right; rw [f, Nat.mul_add, e] at h3; exact ⟨by rw [← f]; exact hy2, by omega⟩
  · right; left; rw [e] at h3; exact ⟨by rw [← f]; exact Nat.succ_pos _, by omega⟩
  · right; right; left; rw [e] at h3; exact ⟨by rw [← f]; exact h4, by omega⟩
theorem nb_lt {W H p r : Nat} (hp : p < W * H) (hr : r ∈ nb W H p) : r < W * H := (nb_xy hp hr).1
theorem nb_symm {W H p r : Nat} (hp : p < W * H) (hr : r ∈ nb W H p) : p ∈ nb W H r := by
  obtain ⟨h1, h2⟩ := nb_xy hp hr
  exact nb_of_xy h1 hp (by omega)

/-- Two pixels of a set are joined. -/
inductive Cn (W H : Nat) (S : Nat → Bool) (p : Nat) : Nat → Prop
  | refl : S p = true → Cn W H S p p
  | step {q r : Nat} : Cn W H S p q → r ∈ nb W H q → S r = true → Cn W H S p r

section
variable {W H : Nat} {S T : Nat → Bool} {p q r : Nat}
theorem Cn.left (h : Cn W H S p q) : S p = true := by induction h with | refl h => exact h | step _ _ _ ih => exact ih
theorem Cn.right (h : Cn W H S p q) : S q = true := by cases h with | refl h => exact h | step _ _ h => exact h
theorem Cn.lt (h : Cn W H S p q) (hp : p < W * H) : q < W * H := by induction h with | refl _ => exact hp | step _ h _ ih => exact nb_lt ih h
theorem Cn.trans (h : Cn W H S p q) (k : Cn W H S q r) : Cn W H S p r := by induction k with | refl _ => exact h | step _ h2 h3 ih => exact .step ih h2 h3
theorem Cn.symm (h : Cn W H S p q) (hp : p < W * H) : Cn W H S q p := by
  induction h with
  | refl h => exact .refl h
  | step h1 h2 h3 ih => exact Cn.trans (.step (.refl h3) (nb_symm (h1.lt hp) h2) h1.right) ih
/-- A closed set that has the one pixel has all. -/
theorem Cn.closed {X : Nat → Prop} (h : Cn W H S p q) (hp : X p) (hc : ∀ a b, X a → b ∈ nb W H a → S b = true → X b) : X q := by
  induction h with
  | refl _ => exact hp
  | step _ h2 h3 ih => exact hc _ _ ih h2 h3
end

/-! ### The part of a pixel -/
section
variable (W H : Nat) (S : Nat → Bool)
def grow (l : List Nat) : List Nat := (List.range (W * H)).filter fun q => decide (q ∈ l) || (S q && (nb W H q).any fun r => decide (r ∈ l))
def clo (p : Nat) : Nat → List Nat
  | 0 => [p]
  | k + 1 => grow W H S (clo p k)
/-- The part of a pixel, ascending. -/
def compL (p : Nat) : List Nat := clo W H S p (W * H)
end

section
variable {W H : Nat} {S T : Nat → Bool} {p q r : Nat}
theorem mem_grow {l : List Nat} : q ∈ grow W H S l ↔ q < W * H ∧ (q ∈ l ∨ (S q = true ∧ ∃ r, r ∈ nb W H q ∧ r ∈ l)) := by
  unfold grow
  simp only [List.mem_filter, List.mem_range, Bool.or_eq_true, decide_eq_true_eq, Bool.and_eq_true, List.any_eq_true]
theorem clo_lt (hp : p < W * H) : ∀ {k q}, q ∈ clo W H S p k → q < W * H
  | 0, q, h => by simp [clo] at h; omega
  | k + 1, q, h => (mem_grow.1 h).1
theorem clo_sound (hp : p < W * H) (hs : S p = true) : ∀ {k q}, q ∈ clo W H S p k → Cn W H S p q
  | 0, q, h => by simp [clo] at h; subst h; exact .refl hs
  | k + 1, q, h => by
    obtain ⟨h1, h2 | ⟨h2, r, h3, h4⟩⟩ := mem_grow.1 h
    · exact clo_sound hp hs h2
    · exact .step (clo_sound hp hs h4) (nb_symm h1 h3) h2
theorem clo_mono (hp : p < W * H) {k : Nat} (h : q ∈ clo W H S p k) : q ∈ clo W H S p (k + 1) := mem_grow.2 ⟨clo_lt hp h, .inl h⟩
theorem clo_nodup (hp : p < W * H) : ∀ k, (clo W H S p k).Nodup
  | 0 => by simp [clo]
  | k + 1 => by unfold clo grow; exact List.Pairwise.filter _ List.nodup_range
theorem length_le_of_subset : ∀ {l m : List Nat}, l.Nodup → (∀ x, x ∈ l → x ∈ m) → l.length ≤ m.length
  | [],_,_,_ => Nat.zero_le _
  | a :: l, m, hn, hs => by
    have h1 : a ∈ m := hs a (by simp)
    have h2 := length_le_of_subset (l := l) (m := m.erase a) (List.nodup_cons.1 hn).2 (fun x hx => (List.mem_erase_of_ne (fun e => (List.nodup_cons.1 hn).1 (by rw [← e]; exact hx))).2 (hs x (by simp [hx])))
    have h3 := List.length_erase_of_mem h1
    have h4 : 0 < m.length := List.length_pos_of_mem h1
    simp only [List.length_cons]
    omega
theorem subset_of_length {l m : List Nat} (hl : l.Nodup) (hs : ∀ x, x ∈ l → x ∈ m) (hlen : m.length ≤ l.length) (hm : m.Nodup) : ∀ x, x ∈ m → x ∈ l := by
  intro x hx
  by_cases q : x ∈ l
  · exact q
  · have := length_le_of_subset (l := x :: l) (m := m) (List.nodup_cons.2 ⟨q, hl⟩) (fun y hy => by rcases List.mem_cons.1 hy with e | e; exact e ▸ hx; exact hs y e)
    simp only [List.length_cons] at this
    omega
/-- Some round adds nothing. -/
theorem clo_stable (hp : p < W * H) : ∀ k, k ≤ (clo W H S p k).length ∨ ∃ j, j < k ∧ ∀ x, x ∈ clo W H S p (j + 1) → x ∈ clo W H S p j
  | 0 => .inl (Nat.zero_le _)
  | k + 1 => by
    rcases clo_stable hp k with h | ⟨j, h1, h2⟩
    · by_cases q : (clo W H S p (k + 1)).length ≤ (clo W H S p k).length
      · right
        exact ⟨k, by omega, subset_of_length (clo_nodup hp k) (fun x hx => clo_mono hp hx) q (clo_nodup hp (k + 1))⟩
      · left; omega
    · exact .inr ⟨j, by omega, h2⟩
theorem clo_const {j : Nat} (hp : p < W * H) (h : ∀ x, x ∈ clo W H S p (j + 1) → x ∈ clo W H S p j) : ∀ k x, x ∈ clo W H S p (j + k) → x ∈ clo W H S p j
  | 0, x, hx => hx
  | k + 1, x, hx => by
    apply h
    obtain ⟨h1, h2⟩ := mem_grow.1 (show x ∈ grow W H S (clo W H S p (j + k)) from hx)
    refine mem_grow.2 ⟨h1, ?_⟩
    rcases h2 with h2 | ⟨h2, r, h3, h4⟩
    · exact .inl (clo_const hp h k x h2)
    · exact .inr ⟨h2, r, h3, clo_const hp h k r h4⟩
theorem clo_up (hp : p < W * H) {j : Nat} : ∀ {k x}, x ∈ clo W H S p j → x ∈ clo W H S p (j + k)
  | 0, x, h => h
  | k + 1, x, h => clo_mono hp (clo_up hp h)
theorem compL_closed (hp : p < W * H) {a b : Nat} (ha : a ∈ compL W H S p) (hb : b ∈ nb W H a) (hs : S b = true) : b ∈ compL W H S p := by
  unfold compL at *
  have hstep : ∀ j, a ∈ clo W H S p j → b ∈ clo W H S p (j + 1) := fun j h => mem_grow.2 ⟨nb_lt (clo_lt hp h) hb, .inr ⟨hs, a, nb_symm (clo_lt hp h) hb, h⟩⟩
  rcases clo_stable (S := S) hp (W * H) with h | ⟨j, h1, h2⟩
  · -- all pixels are in
    have hall := subset_of_length (clo_nodup (S := S) hp (W * H)) (m := List.range (W * H)) (fun x hx => List.mem_range.2 (clo_lt hp hx)) (by simpa using h) List.nodup_range
    exact hall b (List.mem_range.2 (nb_lt (clo_lt hp ha) hb))
  · have e : W * H = j + (W * H - j) := by omega
    have ha' : a ∈ clo W H S p j := by rw [e] at ha; exact clo_const hp h2 _ a ha
    have := clo_up hp (k := W * H - j) (h2 b (hstep j ha'))
    rw [← e] at this
    exact this
theorem mem_self (hp : p < W * H) : p ∈ compL W H S p := by
  have := clo_up (S := S) hp (j := 0) (k := W * H) (x := p) (by simp [clo])
  rw [Nat.zero_add] at this
  exact this
theorem mem_compL (hp : p < W * H) (hs : S p = true) : q ∈ compL W H S p ↔ Cn W H S p q :=
  ⟨clo_sound hp hs, fun h => h.closed (X := fun x => x ∈ compL W H S p) (mem_self hp) fun a b ha hb hS => compL_closed hp ha hb hS⟩
theorem compL_sorted (hp : p < W * H) : (compL W H S p).Pairwise (· < ·) := by
  unfold compL
  obtain ⟨k, e⟩ : ∃ k, W * H = k + 1 := ⟨W * H - 1, by omega⟩
  rw [e]
  unfold clo grow
  exact List.Pairwise.filter _ List.pairwise_lt_range
theorem compL_lt (hp : p < W * H) (h : q ∈ compL W H S p) : q < W * H := clo_lt hp h
end

/-- Lists that ascend and have the same numbers are the same. -/
theorem asc_ext : ∀ {l m : List Nat}, l.Pairwise (· < ·) → m.Pairwise (· < ·) → (∀ x, x ∈ l ↔ x ∈ m) → l = m
  | [], [],_,_,_ => rfl
  | [], b :: m,_,_, h => by have := (h b).2 (by simp); simp at this
  | a :: l, [],_,_, h => by have := (h a).1 (by simp); simp at this
  | a :: l, b :: m, hl, hm, h => by
    obtain ⟨h1, h2⟩ := List.pairwise_cons.1 hl
    obtain ⟨h3, h4⟩ := List.pairwise_cons.1 hm
    have e : a = b := by
      rcases List.mem_cons.1 ((h a).1 (by simp)) with e | e
      · exact e
      · rcases List.mem_cons.1 ((h b).2 (by simp)) with f | f
        · exact f.symm
        · have := h3 a e; have := h1 b f; omega
    subst e
    congr 1
    refine asc_ext h2 h4 fun x => ?_
    have hx := h x
    simp only [List.mem_cons] at hx
    constructor
    · intro q
      rcases hx.1 (.inr q) with e | e
      · subst e; exact absurd (h1 _ q) (Nat.lt_irrefl _)
      · exact e
    · intro q
      rcases hx.2 (.inr q) with e | e
      · subst e; exact absurd (h3 _ q) (Nat.lt_irrefl _)
      · exact e
theorem compL_eq {W H : Nat} {S : Nat → Bool} {p q : Nat} (hp : p < W * H) (h : Cn W H S p q) : compL W H S q = compL W H S p :=
  asc_ext (compL_sorted (h.lt hp)) (compL_sorted hp) fun x => by
    rw [mem_compL (h.lt hp) h.right, mem_compL hp h.left]
    exact ⟨fun k => h.trans k, fun k => (h.symm hp).trans k⟩

/-! ### All parts -/
section
variable (W H : Nat) (S : Nat → Bool)
/-- The parts whose least pixel is below a number. -/
def partsTo : Nat → List (List Nat)
  | 0 => []
  | p + 1 => if (S p && !(partsTo p).any fun l => decide (p ∈ l)) = true then partsTo p ++ [compL W H S p] else partsTo p
def partsL : List (List Nat) := partsTo W H S (W * H)
end
/-- The number of the list that has a pixel, or -1. -/
def idxL : List (List Nat) → Nat → Int
  | [],_ => -1
  | l :: ls, q => if q ∈ l then 0 else if idxL ls q = -1 then -1 else idxL ls q + 1
section
variable {W H : Nat} {S : Nat → Bool} {p q r : Nat}
theorem partsTo_new (h : S p = true) (k : ∀ l, l ∈ partsTo W H S p → p ∉ l) : partsTo W H S (p + 1) = partsTo W H S p ++ [compL W H S p] := by
  rw [partsTo, if_pos]
  rw [Bool.and_eq_true, Bool.not_eq_true', List.any_eq_false]
  exact ⟨h, fun l hl => by simpa using k l hl⟩
theorem partsTo_old (h : ¬ (S p = true ∧ ∀ l, l ∈ partsTo W H S p → p ∉ l)) : partsTo W H S (p + 1) = partsTo W H S p := by
  rw [partsTo, if_neg]
  intro q
  rw [Bool.and_eq_true, Bool.not_eq_true', List.any_eq_false] at q
  exact h ⟨q.1, fun l hl => by simpa using q.2 l hl⟩
theorem mem_partsTo {l : List Nat} : ∀ {p}, l ∈ partsTo W H S p → ∃ r, r < p ∧ S r = true ∧ l = compL W H S r
  | 0, h => by simp [partsTo] at h
  | p + 1, h => by
    by_cases q : S p = true ∧ ∀ l, l ∈ partsTo W H S p → p ∉ l
    · rw [partsTo_new q.1 q.2] at h
      rcases List.mem_append.1 h with h | h
      · obtain ⟨r, h1, h2⟩ := mem_partsTo h; exact ⟨r, by omega, h2⟩
      · exact ⟨p, by omega, q.1, by simpa using h⟩
    · rw [partsTo_old q] at h
      obtain ⟨r, h1, h2⟩ := mem_partsTo h; exact ⟨r, by omega, h2⟩
/-- A part is closed. -/
theorem parts_cn {l : List Nat} (hp : p ≤ W * H) (hl : l ∈ partsTo W H S p) (ha : q ∈ l) : S q = true ∧ q < W * H ∧ (∀ x, x ∈ l ↔ Cn W H S q x) ∧ l = compL W H S q := by
  obtain ⟨r, h1, h2, rfl⟩ := mem_partsTo hl
  have hr : r < W * H := by omega
  have h3 := (mem_compL hr h2).1 ha
  have e := compL_eq hr h3
  exact ⟨h3.right, h3.lt hr, fun x => by rw [← e]; exact mem_compL (h3.lt hr) h3.right, e.symm⟩
theorem parts_all (hp : p ≤ W * H) (hq : q < p) (hs : S q = true) : ∃ l, l ∈ partsTo W H S p ∧ q ∈ l := by
  induction p with
  | zero => omega
  | succ p ih =>
    by_cases z : S p = true ∧ ∀ l, l ∈ partsTo W H S p → p ∉ l
    · rw [partsTo_new z.1 z.2]
      rcases Nat.lt_or_ge q p with h | h
      · obtain ⟨l, h1, h2⟩ := ih (by omega) h; exact ⟨l, by simp [h1], h2⟩
      · have : q = p := by omega
        subst this
        exact ⟨compL W H S q, by simp, mem_self (by omega)⟩
    · rw [partsTo_old z]
      rcases Nat.lt_or_ge q p with h | h
      · exact ih (by omega) h
      · have : q = p := by omega
        subst this
        exact Classical.byContradiction fun k => z ⟨hs, fun l h1 h2 => k ⟨l, h1, h2⟩⟩
/-- No two parts have a pixel in common. -/
theorem parts_apart (hp : p ≤ W * H) : (partsTo W H S p).Pairwise fun a b => ∀ x, x ∈ a → x ∉ b := by
  induction p with
  | zero => exact List.Pairwise.nil
  | succ p ih =>
    by_cases z : S p = true ∧ ∀ l, l ∈ partsTo W H S p → p ∉ l
    · rw [partsTo_new z.1 z.2]
      refine List.pairwise_append.2 ⟨ih (by omega), List.pairwise_singleton _ _, fun a ha b hb x hx hx2 => ?_⟩
      simp at hb; subst hb
      have h1 := (mem_compL (by omega : p < W * H) z.1).1 hx2
      obtain ⟨_, h2, h3,_⟩ := parts_cn (by omega) ha hx
      exact z.2 a ha ((h3 p).2 (h1.symm (by omega)))
    · rw [partsTo_old z]; exact ih (by omega)
theorem idx_neg : ∀ {ls : List (List Nat)}, (∀ l, l ∈ ls → q ∉ l) → idxL ls q = -1
  | [],_ => rfl
  | l :: ls, h => by
    unfold idxL
    rw [if_neg (h l (by simp)), if_pos (idx_neg fun m hm => h m (by simp [hm]))]
theorem idx_ge {q : Nat} : ∀ {ls : List (List Nat)}, -1 ≤ idxL ls q
  | [] => by simp [idxL]
  | l :: ls => by have := idx_ge (q := q) (ls := ls); unfold idxL; split <;> (try split) <;> omega
theorem idx_at : ∀ {ls : List (List Nat)} {i : Nat} {l : List Nat}, ls.Pairwise (fun a b => ∀ x, x ∈ a → x ∉ b) → ls[i]? = some l → q ∈ l → idxL ls q = i
  | [], i, l,_, h,_ => by simp at h
  | m :: ls, 0, l,_, h, hq => by simp at h; subst h; unfold idxL; rw [if_pos hq]; rfl
  | m :: ls, i + 1, l, hp, h, hq => by
    obtain ⟨h1, h2⟩ := List.pairwise_cons.1 hp
    have h3 : ls[i]? = some l := by simpa using h
    have h4 := idx_at h2 h3 hq
    have hm : q ∉ m := fun z => h1 l (List.mem_of_getElem? h3) q z hq
    unfold idxL
    rw [if_neg hm, h4, if_neg (by omega)]
    omega
theorem idx_neg_iff {ls : List (List Nat)} : idxL ls q < 0 ↔ ∀ l, l ∈ ls → q ∉ l := by
  constructor
  · intro h l hl hq
    obtain ⟨i, hi⟩ := List.mem_iff_getElem?.1 hl
    have : ∀ {ls : List (List Nat)}, l ∈ ls → 0 ≤ idxL ls q := fun {ls} => by
      induction ls with
      | nil => intro h; cases h
      | cons m ls ih =>
        intro h
        unfold idxL
        rcases List.mem_cons.1 h with e | e
        · subst e; rw [if_pos hq]; exact Int.le_refl _
        · have := ih e; split
          · exact Int.le_refl _
          · split <;> omega
    have := this hl; omega
  · intro h; rw [idx_neg h]; omega
theorem idx_app {ls : List (List Nat)} {l : List Nat} : idxL (ls ++ [l]) q = if idxL ls q = -1 then (if q ∈ l then (ls.length : Int) else -1) else idxL ls q := by
  induction ls with
  | nil => simp [idxL]
  | cons m ls ih =>
    rw [List.cons_append, idxL, idxL, ih]
    by_cases z : q ∈ m
    · rw [if_pos z, if_pos z, if_neg (by omega)]
    · rw [if_neg z, if_neg z]
      have h0 := idx_ge (q := q) (ls := ls)
      by_cases y : idxL ls q = -1
      · rw [if_pos y, if_pos y, if_pos rfl]
        by_cases x : q ∈ l
        · rw [if_pos x, if_pos x, if_neg (by omega)]; simp only [List.length_cons]; omega
        · rw [if_neg x, if_neg x, if_pos rfl]
      · rw [if_neg y, if_neg y, if_neg (by omega)]
end
end Go.Cell

namespace Go.Cell
set_option linter.unusedVariables false
section
variable {W H : Nat} {S T : Nat → Bool} {p q r : Nat}
theorem compL_ne (hp : p < W * H) : compL W H S p ≠ [] := fun e => by have := mem_self (S := S) hp; rw [e] at this; cases this
theorem headD_mem {l : List Nat} (h : l ≠ []) : l.headD 0 ∈ l := by cases l with | nil => exact absurd rfl h | cons a l => simp
end
end Go.Cell

namespace Go.SL
set_option linter.unusedVariables false

theorem selKT {β : Bs} {L L1 L2 X : List Res} (is : List Nat) (hn : nodupB is = true) (h : sel L is = L1 ++ L2) (hlt : is.all (fun i => Nat.blt i L.length) = true) : ∀ w, St β (L ++ X) w → St β (L1 ++ (L2 ++ X)) w := fun w hw => by
  rw [← List.append_assoc, ← h]
  have hle : (sel L is).length = is.length := by unfold sel; exact List.length_map _
  have hb : ∀ j (hj : j < is.length), is[j] < L.length := fun j hj => Nat.le_of_ble_eq_true (List.all_eq_true.1 hlt _ (List.getElem_mem hj))
  have hfl : ∀ j (hj : j < is.length), is.getD j 0 = is[j] := fun j hj => by rw [List.getD_eq_getElem?_getD, List.getElem?_eq_getElem hj]; rfl
  refine hw.map (fun j => if j < is.length then is.getD j 0 else L.length + (j - is.length)) ?_ ?_
  · intro j l hjl hj hl
    by_cases h1 : j < is.length
    · by_cases h2 : l < is.length
      · rw [if_pos h1, if_pos h2, hfl j h1, hfl l h2]
        exact nodupB_spec hn j l h1 h2 hjl
      · rw [if_pos h1, if_neg h2, hfl j h1]
        have := hb j h1; omega
    · by_cases h2 : l < is.length
      · rw [if_neg h1, if_pos h2, hfl l h2]
        have := hb l h2; omega
      · rw [if_neg h1, if_neg h2]; omega
  · intro j r hr
    by_cases h1 : j < is.length
    · refine .inr ?_
      rw [if_pos h1, hfl j h1, List.getElem?_append_left (hb j h1)]
      rw [List.getElem?_append_left (by rw [hle]; exact h1)] at hr
      unfold sel at hr
      rw [List.getElem?_map, List.getElem?_eq_getElem h1] at hr
      simp only [Option.map_some, Option.some.injEq] at hr
      rw [List.getD_eq_getElem?_getD, List.getElem?_eq_getElem (hb j h1)] at hr
      rw [List.getElem?_eq_getElem (hb j h1), ← hr]; rfl
    · refine .inr ?_
      rw [if_neg h1, List.getElem?_append_right (by omega), show L.length + (j - is.length) - L.length = j - is.length by omega]
      rw [List.getElem?_append_right (by rw [hle]; omega), hle] at hr
      exact hr
end Go.SL
