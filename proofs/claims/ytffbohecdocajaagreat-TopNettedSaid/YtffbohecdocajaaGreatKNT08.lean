/-
  Strings: lengths, bytes, pieces, comparisons, a rune as a string, a range over a string's runes; a scope that no jump crosses.
  The data of layer 2 and what its functions come to, in plain words: no program stands in this text.
  Orders of values and of keys of messages; sorted lists: the plain law.
  DERIVED: THE SHELF's CONTRACTS AT THIS DUMP, IN PLAIN WORDS (tools/lay-plain.mjs out of 'TryzShelf.lean', which tools/lay-shelf.mjs wrote): THE SAME DECLARATIONS UNDER THE SAME NAMES: 'import', 'namespace', 'open', 'def', 'theorem' AND NOTHING ELSE: no command of the shelf's: FOR A HAND-IN. Each laying: the table of numbers ('.._ren') and one theorem, a field a fact of the dump's own or the kernel's comparison; each contract: ONE APPLICATION.
  Quotients, rounded down and up; rows of structs. No program stands in this text.
  The first walks: small functions.
  What is valid: trains, receivers, spans of turns.
  Echoes are valid.
  The library that arcs rest on.
  Arcs of the program.
  The program hears.
  What a better hearing has within another: the plain part.
  PulseBetter is walked.
  The predicate of names.
  Names and sites are checked.
  Sweeps are checked.
  Walks of package mosaic: what compares.
  Walks of package mosaic: a search; copies of slices.
  What slices.Insert does in memory that is owned: blocks out of slices, zeros behind a slice, two slices that lie apart.
  Walks of package mosaic: slices.Insert.
  Nodes of a network: what they keep; the plain law.
  Walks of package mosaic: what a message is, and where it stands.
-/
import Derived.Test.YtffbohecdocajaaGreatKNT07
import Derived.Laws.Strings3
import Derived.Laws.Runes
import Derived.Laws.RangeAny
import Derived.Lib.OthersKept
import Derived.Scope
import Derived.Shelf.Small.Utf8
import Derived.Shelf.Small.Bits
import Derived.Shelf.Small.Strs
import Derived.Shelf.Small.Wraps
import Derived.Shelf.Strconv.Itoa0
import Derived.Shelf.Strings.Search1
import Derived.Shelf.Sort.Plain
import Derived.Shelf.Strings.Runes
import Derived.Shelf.Bits.Mul64
import Derived.Ground.Names2Prog
import Derived.Shelf.Slices.Clone
import Derived.Shelf.Slices.CompactI
import Derived.Shelf.Slices.SearchI
import Derived.Shelf.Slices.Cells
import Derived.Shelf.Slices.In.SortNone
import Derived.Shelf.Slices.Empties
import Derived.Ground.SlgnProg
import Derived.Shelf.SlicesE.Clone
import Derived.Test.YtffbohecdocajaaGreatProg
import Derived.Lib.AppendZerosOnto
import Derived.Lib.Overlaps

set_option linter.unusedSimpArgs false
namespace Go.SL
set_option linter.unusedVariables false
open Go.RowKit

section
variable {P : Program} {ro : Option Nat} {β : Bs} {ds : List Deferred} {N : Nat} {env : Env} {L : List Res} {Q : Exit → Act → World → Prop}

theorem stepR_scopeI {b : Frame} {a : Act} {k : List Item} {cs : List Frame} {w : World} {c : Code} : step P (lone (b.atR a (.code (.scope c) :: k)) cs w) = .next (lone (b.atR a (.code c :: .inScope c :: k)) cs w) :=
  step_lone_go (by simp [stepG, stepG.exec, Frame.atR])
theorem stepR_inScopeI {b : Frame} {a : Act} {k : List Item} {cs : List Frame} {w : World} {c : Code} : step P (lone (b.atR a (.inScope c :: k)) cs w) = .next (lone (b.atR a k) cs w) :=
  step_lone_go (by simp [stepG, stepG.exec, Frame.atR])
theorem wpIn_scopeI {c : Code} {a : Act} {w : World} (h : c.wpIn (Wf ro) 0 P (Exit.noGoto Q) a w) : (Code.scope c).wpIn (Wf ro) 0 P Q a w := by
  intro b k cs hro hb hrm
  obtain ⟨e, a₁, w₁, hq, harr⟩ := h b (.inScope c :: k) cs hro hb hrm
  cases e with
  | normal => exact ⟨.normal, a₁, w₁, hq, .of_steps (.one (fenced_calm hb hrm rfl) stepR_scopeI) (StepsIn.trans harr (.one (fenced_calm hb hrm rfl) stepR_inScopeI))⟩
  | exit id => exact ⟨.exit id, a₁, w₁, hq, .of_steps (.one (fenced_calm hb hrm rfl) stepR_scopeI) ⟨fun k' hk => harr.1 k' (by simp [exitTo, hk]), fun hr hk => harr.2 hr (by simp [exitTo, hk])⟩⟩
  | goto l => exact hq.elim
  | ret => exact ⟨.ret, a₁, w₁, hq, ArrivesIn.of_steps (e := .ret) (.one (fenced_calm hb hrm rfl) stepR_scopeI) harr⟩
  | panic ch => exact ⟨.panic ch, a₁, w₁, hq, ArrivesIn.of_steps (e := .panic ch) (.one (fenced_calm hb hrm rfl) stepR_scopeI) harr⟩
  | outgrown => exact ⟨.outgrown, a₁, w₁, hq, ArrivesIn.of_steps (e := .outgrown) (.one (fenced_calm hb hrm rfl) stepR_scopeI) harr⟩

theorem VC.scope {c : Code} (h : VC P ro β N ds env L c (Exit.noGoto Q)) : VC P ro β N ds env L (.scope c) Q := fun a w ha hw => wpIn_scopeI (h a w ha hw)
theorem VE.scN (h : VE β N ds env L .normal Q) : VE β N ds env L .normal (Exit.noGoto Q) := fun a w ha hw => h a w ha hw
theorem VE.scR (h : VE β N ds env L .ret Q) : VE β N ds env L .ret (Exit.noGoto Q) := fun a w ha hw => h a w ha hw
variable {d : Option Nat} {ty : TypeId} {pos : String} {aft : Array Edge} {g : Option (Nat × Bool)}
theorem LO.lenS {T : Nat} {x : Operand} {s : ByteArray} {aT : Array TypeId} (hT : P.underlying T = some .string) (hx : OV env x (.string s)) (ha : aT[0]? = some T) : LO P β env L ⟨d, .call ⟨.builtin .len, #[x], aT⟩, ty, pos, aft, g⟩ (.int .i64 s.size) :=
  .of_run fun a w h hw => ⟨w, by simp [execOp, resolve, invoke, builtin, h x (by simp [Op.operands, Call.operands]) _ hx, Builtin.len_, ha, run_underlying hT, goInt], hw⟩
theorem LO.ixS {T : Nat} {x i : Operand} {s : ByteArray} {k : IntKind} {e : Int} {j : Nat} (hT : P.underlying T = some .string) (hx : OV env x (.string s)) (hi : OV env i (.int k e)) (he : e = (j : Int)) (hj : j < s.size) : LO P β env L ⟨d, .index T x i, ty, pos, aft, g⟩ (.int .u8 ((s.data.toList.getD j 0).toNat : Int)) :=
  .of_run fun a w h hw => ⟨w, by
    subst he
    have hr := run_index_string (P := P) (w := w) T s k (j : Int) hT
    rw [dif_pos ⟨by omega, by omega⟩] at hr
    have e2 : (s[(j : Int).toNat]'(by omega)) = s.data.toList.getD j 0 := by
      have hl : j < s.data.toList.length := by rw [Array.length_toList]; exact hj
      simp only [Int.toNat_natCast, List.getD, List.getElem?_eq_getElem hl, Option.getD_some]
      rfl
    rw [e2] at hr
    simp [execOp, h x (by simp [Op.operands]) _ hx, h i (by simp [Op.operands]) _ hi, hr], hw⟩
theorem LO.slS {T : Nat} {x i : Operand} {s : ByteArray} {k : IntKind} {e : Int} (hT : P.underlying T = some .string) (hx : OV env x (.string s)) (hi : OV env i (.int k e)) (h0 : 0 ≤ e) (h1 : e ≤ (s.size : Int)) : LO P β env L ⟨d, .slice T x (some i) none none, ty, pos, aft, g⟩ (.string (s.extract e.toNat s.size)) :=
  .of_run fun a w h hw => ⟨w, by
    have hr := run_slice_string_from_if (P := P) (w := w) T s k e hT
    rw [if_pos ⟨h0, h1⟩] at hr
    simp [execOp, h x (by simp [Op.operands]) _ hx, h i (by simp [Op.operands]) _ hi, Instr.sliceAt, run_underlying hT, hr], hw⟩
theorem LO.cvS {sT dT : Nat} {x : Operand} {k : IntKind} {m : Int} (hs : ∃ d, P.underlying sT = some d) (hT : P.underlying dT = some .string) (hx : OV env x (.int k m)) : LO P β env L ⟨d, .convert sT dT x, ty, pos, aft, g⟩ (.string (Utf8.encode m)) :=
  .of_run fun a w h hw => ⟨w, by
    have hr := run_convert_int_string (P := P) w sT dT k m (Option.isSome_iff_exists.2 hs) hT
    simp [execOp, h x (by simp [Op.operands]) _ hx, hr], hw⟩
theorem LO.eqS {xT yT : Nat} {x y : Operand} {s t : ByteArray} (hx : OV env x (.string s)) (hy : OV env y (.string t)) : LO P β env L ⟨d, .binOp .eql xT x y yT, ty, pos, aft, g⟩ (.bool (s.toList == t.toList)) :=
  .of_run fun a w h hw => ⟨w, by simp [execOp, h x (by simp [Op.operands]) _ hx, h y (by simp [Op.operands]) _ hy, eqGuard, binOp_string_eql], hw⟩
theorem LO.neS {xT yT : Nat} {x y : Operand} {s t : ByteArray} (hx : OV env x (.string s)) (hy : OV env y (.string t)) : LO P β env L ⟨d, .binOp .neq xT x y yT, ty, pos, aft, g⟩ (.bool (!(s.toList == t.toList))) :=
  .of_run fun a w h hw => ⟨w, by simp [execOp, h x (by simp [Op.operands]) _ hx, h y (by simp [Op.operands]) _ hy, eqGuard, binOp_string_neq], hw⟩

theorem LO.eqB {x y : Operand} {xT yT : TypeId} {a b : Bool} (hT : P.underlying xT = some .bool) (hx : OV env x (.bool a)) (hy : OV env y (.bool b)) :
    LO P β env L ⟨d, .binOp .eql xT x y yT, ty, pos, aft, g⟩ (.bool (decide (a = b))) :=
  .of_run fun ac w h hw => ⟨w, by
    have key : ∀ dd, (Op.equalIn (dd + 1) xT (.bool a) (.bool b)).run P w = .ok (a == b) w := fun dd => by simp [Op.equalIn, run_underlying hT]
    have e : (Op.equal xT (.bool a) (.bool b)).run P w = .ok (a == b) w := key 9999
    simp [execOp, h x (by simp [Op.operands]) _ hx, h y (by simp [Op.operands]) _ hy, eqGuard, binOp, e, Result.andThen_ok]
    cases a <;> cases b <;> rfl, hw⟩
section
variable {K : Value → List Res → Prop} {dd : Option Nat}
theorem HO.range {T : Nat} {x : Operand} {s : ByteArray} (hT : P.underlying T = some .string) (hx : ev env x = some (.string s)) (k : ∀ b, K (.pointer (some ⟨b, 0, none⟩)) (blk b (.stringIter s 0) :: L)) : HO P β env L ⟨dd, .range T x, ty, pos, aft, g⟩ K := by
  intro a w h hw
  refine .inl ⟨_, w.iter s 0,_,_, ?_, .inl rfl, k w.heap.size, hw.alloc _⟩
  simp [execOp, h x (by simp [Op.operands]) _ hx, run_range_string w T s hT]
theorem HO.nextT (i : Nat) (LF : Res → List Res) {x : Operand} {s : ByteArray} {b p : Nat} (hx : ev env x = some (.pointer (some ⟨b, 0, none⟩))) (hi : L[i]? = some (blk b (.stringIter s p))) (hL : ∀ R : Res, L.set i R = LF R) (hp : p < s.size)
    (k : K (.tuple #[.bool true, .int .i64 p, .int .i32 (Utf8.decode s p).1]) (LF (blk b (.stringIter s (p + (Utf8.decode s p).2))))) : HO P β env L ⟨dd, .next x true, ty, pos, aft, g⟩ K := by
  intro a w h hw
  have hb : w.heap[b]? = some (.stringIter s p) := hw.inv i _ hi
  refine .inl ⟨_, w.iterAt b s (p + (Utf8.decode s p).2),_,_, ?_, .inl rfl, k, ?_⟩
  · have := Go.Lib.run_next_any_at (P := P) w b s p ty hb hp
    simp [execOp, h x (by simp [Op.operands]) _ hx, this]
  · exact hw.upd hi (hL _).symm (Go.Lib.iterAt_heap w b s p _ hb) (fun j hj => Go.Lib.iterAt_other w b j s _ hj) (Go.Lib.iterAt_size w b s _) rfl rfl rfl
theorem HO.nextF (i : Nat) {x : Operand} {s : ByteArray} {b p : Nat} (hx : ev env x = some (.pointer (some ⟨b, 0, none⟩))) (hi : L[i]? = some (blk b (.stringIter s p))) (hp : ¬ p < s.size)
    (k : K (.tuple #[.bool false]) L) : HO P β env L ⟨dd, .next x true, ty, pos, aft, g⟩ K := by
  intro a w h hw
  have hb : w.heap[b]? = some (.stringIter s p) := hw.inv i _ hi
  refine .inl ⟨_, w,_,_, ?_, .inl rfl, k, hw⟩
  have := Go.Lib.run_next_end_at (P := P) w b s p ty hb hp
  simp [execOp, h x (by simp [Op.operands]) _ hx, this]
end
end

/-! ### What a string's runes come to -/
/-- The place at which the first rune with 'p r = truth' begins; -1: there is none. -/
def idxF (p : Nat → Bool) (s : ByteArray) : Nat → Nat → Int
  | 0,_ => -1
  | f + 1, q => if q < s.size then (if p (Utf8.decode s q).1 = true then (q : Int) else idxF p s f (q + (Utf8.decode s q).2)) else -1
theorem idxF_end {p : Nat → Bool} {s : ByteArray} : ∀ {f q : Nat}, ¬ q < s.size → idxF p s f q = -1
  | 0,_,_ => rfl
  | f + 1, q, h => by rw [idxF, if_neg h]
theorem decode_pos (s : ByteArray) (q : Nat) : 1 ≤ (Utf8.decode s q).2 := by
  simp only [Utf8.decode]
  repeat' split
  all_goals simp_all
/-- A byte that is no ASCII byte begins a rune that is none. -/
theorem idxF_bytes {p : Nat → Bool} {s : ByteArray} (h : ∀ r, 128 ≤ r → p r = true) : ∀ {f q : Nat}, s.size ≤ q + f → (idxF p s f q < 0 ↔ ∀ j, q ≤ j → j < s.size → p (s.data.toList.getD j 0).toNat = false)
  | 0, q, hf => by simp only [idxF]; exact ⟨fun _ j h1 h2 => by omega, fun _ => by decide⟩
  | f + 1, q, hf => by
    rw [idxF]
    by_cases hq : q < s.size
    · rw [if_pos hq]
      have eg : s.data.toList.getD q 0 = s[q]'hq := by
        have hl : q < s.data.toList.length := by rw [Array.length_toList]; exact hq
        simp only [List.getD, List.getElem?_eq_getElem hl, Option.getD_some]
        rfl
      by_cases ha : (s[q]'hq).toNat < 128
      · rw [decode_ascii s q hq ha]
        dsimp only
        by_cases hp : p (s[q]'hq).toNat = true
        · rw [if_pos hp]
          refine ⟨fun k => by omega, fun k => ?_⟩
          have := k q (Nat.le_refl _) hq
          rw [eg, hp] at this; cases this
        · rw [if_neg hp]
          rw [idxF_bytes h (f := f) (q := q + 1) (by omega)]
          refine ⟨fun k j h1 h2 => ?_, fun k j h1 h2 => k j (by omega) h2⟩
          by_cases e : j = q
          · subst e; rw [eg]; simpa using hp
          · exact k j (by omega) h2
      · have hd := decode_high s q hq (by omega)
        rw [if_pos (h _ hd.1)]
        refine ⟨fun k => by omega, fun k => ?_⟩
        have := k q (Nat.le_refl _) hq
        rw [eg, h _ (by omega)] at this; cases this
    · rw [if_neg hq]
      exact ⟨fun _ j h1 h2 => by omega, fun _ => by decide⟩
end Go.SL

namespace Go.Pulse
set_option linter.unusedVariables false

structure Span where
  lo : Int
  hi : Int
  deriving DecidableEq
def zs : Span := ⟨0,0⟩
def inS (s : Span) (lo hi : Int) : Prop := lo ≤ s.lo ∧ s.lo ≤ s.hi ∧ s.hi ≤ hi
instance (s : Span) (lo hi : Int) : Decidable (inS s lo hi) := by unfold inS; exact inferInstance
def up (a b : Int) : Int := -(-a / b)
/-- The first that is not 0. -/
def firstE (f : Nat → Int) : Nat → Int
  | 0 => 0
  | n + 1 => if firstE f n ≠ 0 then firstE f n else f n
theorem firstE_zero {f : Nat → Int} : ∀ {n : Nat}, (∀ k, k < n → f k = 0) → firstE f n = 0
  | 0,_ => rfl
  | n + 1, h => by
    have := firstE_zero (f := f) (n := n) (fun k hk => h k (by omega))
    simp [firstE, this, h n (by omega)]
theorem firstE_at {f : Nat → Int} {i : Nat} (h : ∀ k, k < i → f k = 0) (hi : f i ≠ 0) : ∀ {n : Nat}, i < n → firstE f n = f i
  | 0, hn => by omega
  | n + 1, hn => by
    by_cases e : i = n
    · subst e; simp [firstE, firstE_zero h]
    · have := firstE_at h hi (n := n) (by omega)
      simp [firstE, this, hi]
theorem firstE_eq {f : Nat → Int} : ∀ {n : Nat}, firstE f n = 0 → ∀ k, k < n → f k = 0
  | 0,_, k, hk => by omega
  | n + 1, h, k, hk => by
    unfold firstE at h
    split at h
    · rename_i q; exact absurd h q
    · rename_i q
      simp only [ne_eq, Classical.not_not] at q
      by_cases e : k = n
      · subst e; exact h
      · exact firstE_eq q k (by omega)

end Go.Pulse

namespace Go.Proofs.YtffbohecdocajaaGreat
open Go.SL Go.Proofs Go.Pulse
set_option linter.unusedVariables false
def cmpI (x y : Int) : Int := if x < y then -1 else if y < x then 1 else 0
def orI : List Int → Int
  | [] => 0
  | x :: l => if x ≠ 0 then x else orI l
def cmpSp (x y : Span) : Int := orI [cmpI x.lo y.lo, cmpI x.hi y.hi]
def cmpV : List Span → List Span → Int
  | [], [] => 0
  | [],_ :: _ => -1
  | _ :: _, [] => 1
  | x :: a, y :: b => if cmpSp x y ≠ 0 then cmpSp x y else cmpV a b
theorem cmpI_lt {x y : Int} : cmpI x y < 0 ↔ x < y := by unfold cmpI; split <;> (try split) <;> omega
theorem cmpI_0 {x y : Int} : cmpI x y = 0 ↔ x = y := by unfold cmpI; split <;> (try split) <;> omega
theorem cmpI_gt {x y : Int} : 0 < cmpI x y ↔ y < x := by unfold cmpI; split <;> (try split) <;> omega
theorem orI_2 {a b : Int} : orI [a, b] = if a ≠ 0 then a else b := by
  show (if a ≠ 0 then a else if b ≠ 0 then b else 0) = _
  split
  · rfl
  · split <;> omega
theorem cmpSp_lt {x y : Span} : cmpSp x y < 0 ↔ x.lo < y.lo ∨ (x.lo = y.lo ∧ x.hi < y.hi) := by
  unfold cmpSp
  rw [orI_2]
  have a := cmpI_lt (x := x.lo) (y := y.lo)
  have b := cmpI_0 (x := x.lo) (y := y.lo)
  have c := cmpI_lt (x := x.hi) (y := y.hi)
  split <;> omega
theorem cmpSp_0 {x y : Span} : cmpSp x y = 0 ↔ x = y := by
  unfold cmpSp
  rw [orI_2]
  have b := cmpI_0 (x := x.lo) (y := y.lo)
  have c := cmpI_0 (x := x.hi) (y := y.hi)
  obtain ⟨x1, x2⟩ := x
  obtain ⟨y1, y2⟩ := y
  dsimp only at b c ⊢
  rw [Span.mk.injEq]
  split <;> omega
theorem cmpSp_gt {x y : Span} : 0 < cmpSp x y ↔ cmpSp y x < 0 := by
  rw [cmpSp_lt]
  unfold cmpSp
  rw [orI_2]
  have a := cmpI_gt (x := x.lo) (y := y.lo)
  have b := cmpI_0 (x := x.lo) (y := y.lo)
  have c := cmpI_gt (x := x.hi) (y := y.hi)
  split <;> omega
theorem cmpV_0 : ∀ {a b : List Span}, cmpV a b = 0 ↔ a = b
  | [], [] => by simp [cmpV]
  | [],_ :: _ => by simp [cmpV]
  | _ :: _, [] => by simp [cmpV]
  | x :: a, y :: b => by
    rw [cmpV]
    have h := cmpSp_0 (x := x) (y := y)
    have ih := cmpV_0 (a := a) (b := b)
    by_cases q : cmpSp x y = 0
    · rw [if_neg (fun z => z q), ih, List.cons.injEq]
      exact ⟨fun z => ⟨h.1 q, z⟩, fun z => z.2⟩
    · rw [if_pos q, List.cons.injEq]
      exact ⟨fun z => absurd z q, fun z => absurd (h.2 z.1) q⟩
theorem cmpV_gt : ∀ {a b : List Span}, 0 < cmpV a b ↔ cmpV b a < 0
  | [], [] => by simp [cmpV]
  | [],_ :: _ => by simp [cmpV]
  | _ :: _, [] => by simp [cmpV]
  | x :: a, y :: b => by
    rw [cmpV, cmpV]
    have h1 := cmpSp_0 (x := x) (y := y)
    have h2 := cmpSp_0 (x := y) (y := x)
    have h3 := cmpSp_gt (x := x) (y := y)
    have ih := cmpV_gt (a := a) (b := b)
    by_cases q : x = y
    · subst q
      have e := h1.2 rfl
      rw [if_neg (fun z => z e), if_neg (fun z => z e)]; exact ih
    · rw [if_pos (fun z => q (h1.1 z)), if_pos (fun z => q (h2.1 z).symm)]; exact h3
theorem cmpV_tr : ∀ {a b c : List Span}, cmpV a b < 0 → cmpV b c < 0 → cmpV a c < 0
  | [], [],_, h,_ => by simp [cmpV] at h
  | [],_ :: _, [],_, h => by simp [cmpV] at h
  | [],_ :: _,_ :: _,_,_ => by simp [cmpV]
  | _ :: _, [],_, h,_ => by simp [cmpV] at h
  | _ :: _,_ :: _, [],_, h => by simp [cmpV] at h
  | x :: a, y :: b, z :: c, h, k => by
    rw [cmpV] at h k ⊢
    have h1 := cmpSp_0 (x := x) (y := y)
    have h2 := cmpSp_0 (x := y) (y := z)
    have h3 := cmpSp_0 (x := x) (y := z)
    have l1 := cmpSp_lt (x := x) (y := y)
    have l2 := cmpSp_lt (x := y) (y := z)
    have l3 := cmpSp_lt (x := x) (y := z)
    by_cases q : x = y
    · subst q
      rw [if_neg (fun z => z (h1.2 rfl))] at h
      by_cases r : x = z
      · subst r
        rw [if_neg (fun z => z (h2.2 rfl))] at k
        rw [if_neg (fun z => z (h3.2 rfl))]
        exact cmpV_tr h k
      · rw [if_pos (fun z => r (h2.1 z))] at k
        rw [if_pos (fun z => r (h3.1 z))]; exact k
    · rw [if_pos (fun z => q (h1.1 z))] at h
      by_cases r : y = z
      · subst r
        rw [if_pos (fun z => q (h3.1 z))]; exact h
      · rw [if_pos (fun z => r (h2.1 z))] at k
        have : ¬ x = z := fun e => by subst e; omega
        rw [if_pos (fun z => this (h3.1 z))]; omega
/-- A list in a strict order. -/
def SrtV (l : List (List Span)) : Prop := l.Pairwise fun a b => cmpV a b < 0
theorem srt_uniq {α : Type} {lt : α → α → Prop} (hirr : ∀ a, ¬ lt a a) (htr : ∀ a b c, lt a b → lt b c → lt a c) : ∀ {l m : List α}, l.Pairwise lt → m.Pairwise lt → (∀ x, x ∈ l ↔ x ∈ m) → l = m
  | [], [],_,_,_ => rfl
  | [], y :: m,_,_, h => absurd ((h y).2 List.mem_cons_self) (by simp)
  | x :: l, [],_,_, h => absurd ((h x).1 List.mem_cons_self) (by simp)
  | x :: l, y :: m, hl, hm, h => by
    have hx := List.pairwise_cons.1 hl
    have hy := List.pairwise_cons.1 hm
    have e : x = y := by
      rcases List.mem_cons.1 ((h x).1 List.mem_cons_self) with q | q
      · exact q
      · rcases List.mem_cons.1 ((h y).2 List.mem_cons_self) with r | r
        · exact r.symm
        · exact absurd (htr _ _ _ (hx.1 y r) (hy.1 x q)) (hirr x)
    subst e
    have h2 : ∀ z, z ∈ l ↔ z ∈ m := fun z => by
      constructor
      · intro hz
        rcases List.mem_cons.1 ((h z).1 (List.mem_cons_of_mem _ hz)) with q | q
        · subst q; exact absurd (hx.1 z hz) (hirr z)
        · exact q
      · intro hz
        rcases List.mem_cons.1 ((h z).2 (List.mem_cons_of_mem _ hz)) with q | q
        · subst q; exact absurd (hy.1 z hz) (hirr z)
        · exact q
    rw [srt_uniq hirr htr hx.2 hy.2 h2]
theorem cmpV_irr (a : List Span) : ¬ cmpV a a < 0 := by rw [cmpV_0.2 rfl]; omega
theorem srtV_uniq {l m : List (List Span)} (hl : SrtV l) (hm : SrtV m) (h : ∀ x, x ∈ l ↔ x ∈ m) : l = m := srt_uniq (lt := fun a b => cmpV a b < 0) cmpV_irr (fun a b c => cmpV_tr) hl hm h
/-- Where a value stands, or would stand. -/
def posV (l : List (List Span)) (v : List Span) : Nat := (l.takeWhile fun a => decide (cmpV a v < 0)).length
theorem posV_le {l : List (List Span)} {v : List Span} : posV l v ≤ l.length := by
  unfold posV
  exact (List.takeWhile_prefix _).length_le
theorem posV_lt : ∀ {l : List (List Span)} {v : List Span} {i : Nat} (hi : i < l.length), SrtV l → (cmpV l[i] v < 0 ↔ i < posV l v)
  | a :: l, v, i, hi, hs => by
    have hs2 := List.pairwise_cons.1 hs
    have e : posV (a :: l) v = if cmpV a v < 0 then posV l v + 1 else 0 := by
      unfold posV
      rw [List.takeWhile_cons]
      by_cases q : cmpV a v < 0
      · rw [if_pos q, decide_eq_true q]; rfl
      · rw [if_neg q, decide_eq_false q]; rfl
    rw [e]
    cases i with
    | zero =>
      show cmpV a v < 0 ↔ _
      split <;> simp_all
    | succ i =>
      have hi2 : i < l.length := by simpa using hi
      have ih := posV_lt (v := v) hi2 hs2.2
      show cmpV l[i] v < 0 ↔ _
      by_cases q : cmpV a v < 0
      · rw [if_pos q, ih]; omega
      · rw [if_neg q]
        refine ⟨fun h => absurd (cmpV_tr (hs2.1 _ (List.getElem_mem hi2)) h) q, fun h => by omega⟩
theorem posV_has {l : List (List Span)} {v : List Span} (hs : SrtV l) : v ∈ l ↔ ∃ h : posV l v < l.length, l[posV l v] = v := by
  constructor
  · intro h
    obtain ⟨i, hi, e⟩ := List.getElem_of_mem h
    have h1 := posV_lt (v := v) hi hs
    rw [e] at h1
    have h2 : ¬ i < posV l v := fun q => cmpV_irr v (h1.2 q)
    rcases Nat.lt_or_ge (posV l v) i with q | q
    · have h3 : ¬ cmpV l[posV l v] v < 0 := fun z => Nat.lt_irrefl _ ((posV_lt (v := v) (i := posV l v) (by omega) hs).1 z)
      have h4 := List.pairwise_iff_getElem.1 hs (posV l v) i (by omega) hi q
      rw [e] at h4
      exact absurd h4 h3
    · have : i = posV l v := by omega
      subst this; exact ⟨hi, e⟩
  · rintro ⟨h, e⟩
    rw [← e]; exact List.getElem_mem h
def insV (l : List (List Span)) (v : List Span) : List (List Span) := l.take (posV l v) ++ v :: l.drop (posV l v)
theorem insV_mem {l : List (List Span)} {v x : List Span} : x ∈ insV l v ↔ x = v ∨ x ∈ l := by
  unfold insV
  rw [List.mem_append, List.mem_cons]
  conv => rhs; rw [← List.take_append_drop (posV l v) l, List.mem_append]
  constructor
  · rintro (h | h | h)
    · exact .inr (.inl h)
    · exact .inl h
    · exact .inr (.inr h)
  · rintro (h | h | h)
    · exact .inr (.inl h)
    · exact .inl h
    · exact .inr (.inr h)
theorem cmpV_tri {a b : List Span} (h1 : ¬ cmpV a b < 0) (h2 : a ≠ b) : cmpV b a < 0 := by
  have := cmpV_gt (a := a) (b := b)
  have h3 := cmpV_0 (a := a) (b := b)
  have h4 : ¬ cmpV a b = 0 := fun q => h2 (h3.1 q)
  exact this.1 (by omega)
theorem insV_srt {l : List (List Span)} {v : List Span} (hs : SrtV l) (hv : ¬ v ∈ l) : SrtV (insV l v) := by
  unfold insV SrtV
  have ht : ∀ x, x ∈ l.take (posV l v) → cmpV x v < 0 := fun x hx => by
    obtain ⟨i, hi, e⟩ := List.getElem_of_mem hx
    rw [List.getElem_take] at e
    rw [List.length_take] at hi
    rw [← e]
    exact (posV_lt (v := v) (by omega) hs).2 (by omega)
  have hd : ∀ x, x ∈ l.drop (posV l v) → cmpV v x < 0 := fun x hx => by
    obtain ⟨i, hi, e⟩ := List.getElem_of_mem hx
    rw [List.getElem_drop] at e
    rw [List.length_drop] at hi
    refine cmpV_tri (a := x) ?_ (fun q => hv (by rw [← q]; exact List.mem_of_mem_drop hx))
    rw [← e]
    exact fun z => by have := (posV_lt (v := v) (i := posV l v + i) (by omega) hs).1 z; omega
  rw [List.pairwise_append, List.pairwise_cons]
  refine ⟨hs.sublist (List.take_sublist _ _), ⟨hd, hs.sublist (List.drop_sublist _ _)⟩, fun x hx y hy => ?_⟩
  rcases List.mem_cons.1 hy with q | q
  · subst q; exact ht x hx
  · exact cmpV_tr (ht x hx) (hd y q)
end Go.Proofs.YtffbohecdocajaaGreat

namespace Go.Proofs
open Go.Shelf
def Tryz.lays125_ren : Go.Shelf.Ren := ⟨fun | 125 => 196 | 128 => 250 | 129 => 251 | n => n, fun | 46 => 396 | 3 => 3 | 51 => 32 | 53 => 503 | 4 => 4 | 5 => 5 | 9 => 9 | n => n, fun | n => n⟩
theorem Tryz.lays125 : Go.Proofs.Lays.n125 Tryz.prog Tryz.lays125_ren := {
  mixed := by kernel_rfl
  f125 := Tryz.func196.trans (congrArg some (by kernel_rfl))
  f128 := Tryz.func250.trans (congrArg some (by kernel_rfl))
  f129 := Tryz.func251.trans (congrArg some (by kernel_rfl))
  t3 := Tryz.underlying3
  a3 := Tryz.isAgg3
  z3 := Tryz.sizeOf3
  v3 := Tryz.zeroValue3
  t4 := Tryz.underlying4
  a4 := Tryz.isAgg4
  z4 := Tryz.sizeOf4
  v4 := Tryz.zeroValue4
  t5 := Tryz.underlying5
  a5 := Tryz.isAgg5
  z5 := Tryz.sizeOf5
  v5 := Tryz.zeroValue5
  t9 := Tryz.underlying9
  a9 := Tryz.isAgg9
  z9 := Tryz.sizeOf9
  v9 := Tryz.zeroValue9
  t46 := Tryz.underlying396
  a46 := Tryz.isAgg396
  z46 := Tryz.sizeOf396
  v46 := Tryz.zeroValue396
  t51 := Tryz.underlying32
  a51 := Tryz.isAgg32
  z51 := Tryz.sizeOf32
  v51 := Tryz.zeroValue32
  t53 := Tryz.underlying503
  a53 := Tryz.isAgg503
  z53 := Tryz.sizeOf503
  v53 := Tryz.zeroValue503 }
/-- bits.Len: "Len returns the minimum number of bits required to represent x; the result is 0 for x == 0.": IT RETURNS 'Lib.bitLen x'; the world is as it was. (A uint has 64 bits in the model.) ITS CALLEE bits.Len64 IS MET BY ITS OWN CONTRACT OFF THE SHELF (lay that first). (LAID: no walk: one application.) -/
theorem Tryz.bits_Len (x : Int) (w : World) (h0 : 0 ≤ x) (h1 : x ≤ 18446744073709551615) :
    Calls Tryz.prog 196 #[.int .u64 x] w fun e w' => e = .returned (.int .i64 (Lib.bitLen x.toNat)) ∧ w' = w := Any.bits_Len Tryz.lays125 x w h0 h1
def Tryz.lays137_ren : Go.Shelf.Ren := ⟨fun | 137 => 272 | 217 => 299 | 266 => 307 | n => n, fun | 9 => 9 | 5 => 5 | 3 => 3 | n => n, fun | n => n⟩
theorem Tryz.lays137 : Go.Proofs.Lays.n137 Tryz.prog Tryz.lays137_ren := {
  mixed := by kernel_rfl
  f137 := Tryz.func272.trans (congrArg some (by kernel_rfl))
  f217 := Tryz.func299.trans (congrArg some (by kernel_rfl))
  f266 := Tryz.func307.trans (congrArg some (by kernel_rfl))
  t3 := Tryz.underlying3
  a3 := Tryz.isAgg3
  z3 := Tryz.sizeOf3
  v3 := Tryz.zeroValue3
  t5 := Tryz.underlying5
  a5 := Tryz.isAgg5
  z5 := Tryz.sizeOf5
  v5 := Tryz.zeroValue5
  t9 := Tryz.underlying9
  a9 := Tryz.isAgg9
  z9 := Tryz.sizeOf9
  v9 := Tryz.zeroValue9 }
open Go.RowKit in
/-- strings.IndexByte: "IndexByte returns the index of the first instance of c in s, or -1 if c is not present in s.": IT RETURNS 'Lib.indexByte s c'; the world is as it was. (LAID: no walk: one application.) -/
theorem Tryz.strings_IndexByte (s : ByteArray) (c : Int) (w : World) :
    Calls Tryz.prog 272 #[.string s, .int .u8 c] w fun e w' => e = .returned (.int .i64 (Lib.indexByte s.data.toList c.toNat.toUInt8)) ∧ w' = w := Any.strings_IndexByte Tryz.lays137 s c w
def Tryz.lays189_ren : Go.Shelf.Ren := ⟨fun | 189 => 205 | 125 => 196 | 257 => 252 | 128 => 250 | 129 => 251 | 294 => 283 | 295 => 284 | 296 => 285 | 297 => 286 | 298 => 287 | 299 => 288 | 216 => 254 | 300 => 289 | 301 => 290 | 328 => 301 | 329 => 279 | 330 => 280 | 331 => 302 | 332 => 303 | 215 => 172 | 343 => 308 | n => n, fun | 28 => 112 | 3 => 3 | 46 => 396 | 0 => 0 | 51 => 32 | 53 => 503 | 4 => 4 | 183 => 496 | 182 => 495 | 131 => 279 | 5 => 5 | 9 => 9 | 218 => 526 | 222 => 530 | 228 => 548 | 229 => 457 | n => n, fun | n => n⟩
theorem Tryz.lays189 : Go.Proofs.Lays.n189 Tryz.prog Tryz.lays189_ren := {
  mixed := by kernel_rfl
  f125 := Tryz.func196.trans (congrArg some (by kernel_rfl))
  f128 := Tryz.func250.trans (congrArg some (by kernel_rfl))
  f129 := Tryz.func251.trans (congrArg some (by kernel_rfl))
  f189 := Tryz.func205.trans (congrArg some (by kernel_rfl))
  f215 := Tryz.func172.trans (congrArg some (by kernel_rfl))
  f216 := Tryz.func254.trans (congrArg some (by kernel_rfl))
  f257 := Tryz.func252.trans (congrArg some (by kernel_rfl))
  f294 := Tryz.func283.trans (congrArg some (by kernel_rfl))
  f295 := Tryz.func284.trans (congrArg some (by kernel_rfl))
  f296 := Tryz.func285.trans (congrArg some (by kernel_rfl))
  f297 := Tryz.func286.trans (congrArg some (by kernel_rfl))
  f298 := Tryz.func287.trans (congrArg some (by kernel_rfl))
  f299 := Tryz.func288.trans (congrArg some (by kernel_rfl))
  f300 := Tryz.func289.trans (congrArg some (by kernel_rfl))
  f301 := Tryz.func290.trans (congrArg some (by kernel_rfl))
  f328 := Tryz.func301.trans (congrArg some (by kernel_rfl))
  f329 := Tryz.func279.trans (congrArg some (by kernel_rfl))
  f330 := Tryz.func280.trans (congrArg some (by kernel_rfl))
  f331 := Tryz.func302.trans (congrArg some (by kernel_rfl))
  f332 := Tryz.func303.trans (congrArg some (by kernel_rfl))
  f343 := Tryz.func308.trans (congrArg some (by kernel_rfl))
  t0 := Tryz.underlying0
  a0 := Tryz.isAgg0
  z0 := Tryz.sizeOf0
  v0 := Tryz.zeroValue0
  t3 := Tryz.underlying3
  a3 := Tryz.isAgg3
  z3 := Tryz.sizeOf3
  v3 := Tryz.zeroValue3
  t4 := Tryz.underlying4
  a4 := Tryz.isAgg4
  z4 := Tryz.sizeOf4
  v4 := Tryz.zeroValue4
  t5 := Tryz.underlying5
  a5 := Tryz.isAgg5
  z5 := Tryz.sizeOf5
  v5 := Tryz.zeroValue5
  t9 := Tryz.underlying9
  a9 := Tryz.isAgg9
  z9 := Tryz.sizeOf9
  v9 := Tryz.zeroValue9
  t28 := Tryz.underlying112
  a28 := Tryz.isAgg112
  z28 := Tryz.sizeOf112
  v28 := Tryz.zeroValue112
  t46 := Tryz.underlying396
  a46 := Tryz.isAgg396
  z46 := Tryz.sizeOf396
  v46 := Tryz.zeroValue396
  t51 := Tryz.underlying32
  a51 := Tryz.isAgg32
  z51 := Tryz.sizeOf32
  v51 := Tryz.zeroValue32
  t53 := Tryz.underlying503
  a53 := Tryz.isAgg503
  z53 := Tryz.sizeOf503
  v53 := Tryz.zeroValue503
  t131 := Tryz.underlying279
  a131 := Tryz.isAgg279
  z131 := Tryz.sizeOf279
  v131 := Tryz.zeroValue279
  t182 := Tryz.underlying495
  a182 := Tryz.isAgg495
  z182 := Tryz.sizeOf495
  v182 := Tryz.zeroValue495
  t183 := Tryz.underlying496
  a183 := Tryz.isAgg496
  z183 := Tryz.sizeOf496
  v183 := Tryz.zeroValue496
  t218 := Tryz.underlying526
  a218 := Tryz.isAgg526
  z218 := Tryz.sizeOf526
  v218 := Tryz.zeroValue526
  t222 := Tryz.underlying530
  a222 := Tryz.isAgg530
  z222 := Tryz.sizeOf530
  v222 := Tryz.zeroValue530
  t228 := Tryz.underlying548
  a228 := Tryz.isAgg548
  z228 := Tryz.sizeOf548
  v228 := Tryz.zeroValue548
  t229 := Tryz.underlying457
  a229 := Tryz.isAgg457
  z229 := Tryz.sizeOf457
  v229 := Tryz.zeroValue457 }
open Go.Sort Go.RowKit in
theorem Tryz.slices_Sort_int (blk off cap : Nat) (zs : List Int) (w : World) (hH : Holds (Value.int .i64) w blk off zs.toArray) (hblk : blk < w.heap.size) (hsz : zs.length < 4611686018427387904) :
    Calls Tryz.prog 205 #[.slice (some ⟨blk, off, none⟩) zs.length cap] w fun e w' =>
      e = .returned (.tuple #[]) ∧ ∃ n os, w' = grow (putRow (Value.int .i64) (Sort.ahead w n) blk off (zs.mergeSort fun x y => decide (x ≤ y)).toArray) os := Any.slices_Sort_int Tryz.lays189 blk off cap zs w hH hblk hsz
def Tryz.lays212_ren : Go.Shelf.Ren := ⟨fun | 212 => 263 | 263 => 296 | 264 => 297 | n => n, fun | 46 => 396 | 51 => 32 | 146 => 541 | 53 => 503 | 148 => 543 | n => n, fun | n => n⟩
theorem Tryz.lays212 : Go.Proofs.Lays.n212 Tryz.prog Tryz.lays212_ren := {
  mixed := by kernel_rfl
  f212 := Tryz.func263.trans (congrArg some (by kernel_rfl))
  f263 := Tryz.func296.trans (congrArg some (by kernel_rfl))
  f264 := Tryz.func297.trans (congrArg some (by kernel_rfl))
  t46 := Tryz.underlying396
  a46 := Tryz.isAgg396
  z46 := Tryz.sizeOf396
  v46 := Tryz.zeroValue396
  t51 := Tryz.underlying32
  a51 := Tryz.isAgg32
  z51 := Tryz.sizeOf32
  v51 := Tryz.zeroValue32
  t53 := Tryz.underlying503
  a53 := Tryz.isAgg503
  z53 := Tryz.sizeOf503
  v53 := Tryz.zeroValue503
  t146 := Tryz.underlying541
  a146 := Tryz.isAgg541
  z146 := Tryz.sizeOf541
  v146 := Tryz.zeroValue541
  t148 := Tryz.underlying543
  a148 := Tryz.isAgg543
  z148 := Tryz.sizeOf543
  v148 := Tryz.zeroValue543 }
open Go.RowKit Go.Lib in
/-- math/bits.Mul: "Mul returns the full-width product of x and y": on a machine of 64 bits: Mul64's. (LAID: no walk: one application.) -/
theorem Tryz.bits_Mul (x y : Nat) (hx : x < 18446744073709551616) (hy : y < 18446744073709551616) (w : World) :
    Calls Tryz.prog 263 #[.int .u64 x, .int .u64 y] w fun e w' => e = .returned (.tuple #[.int .u64 ((x * y / 18446744073709551616 : Nat) : Int), .int .u64 ((x * y % 18446744073709551616 : Nat) : Int)]) ∧ w' = w := Any.bits_Mul Tryz.lays212 x y hx hy w
open Go.RowKit Go.Sort in
/-- .. and plain. (LAID: no walk: one application.) -/
theorem Tryz.slices_Sort_int_none (p : Option Addr) (cap : Nat) (w : World) :
    Calls Tryz.prog 205 #[.slice p 0 cap] w fun e w' => e = .returned (.tuple #[]) ∧ w' = w := Any.slices_Sort_int_none Tryz.lays189 p cap w
end Go.Proofs

namespace Go.Pulse
set_option linter.unusedVariables false
theorem tdiv_bd (a b : Int) (hb : 0 < b) (h1 : -9223372036854775807 ≤ a) (h2 : a ≤ 9223372036854775807) : -9223372036854775807 ≤ a.tdiv b ∧ a.tdiv b ≤ 9223372036854775807 ∧ (a.tmod b < 0 → a / b = a.tdiv b - 1) ∧ (0 ≤ a.tmod b → a / b = a.tdiv b) ∧ -9223372036854775807 ≤ a / b := by
  have e := Int.mul_tdiv_add_tmod a b
  have f := Int.mul_ediv_add_emod a b
  have hm := Int.emod_nonneg a (by omega : b ≠ 0)
  have hm2 := Int.emod_lt_of_pos a hb
  rcases Int.le_total 0 a with h | h
  · have r1 := Int.tmod_nonneg b h
    have e1 : a.tdiv b = a / b := Int.tdiv_eq_ediv_of_nonneg h
    have d1 : 0 ≤ a / b := Int.ediv_nonneg h (by omega)
    have d2 : a / b ≤ a := Int.ediv_le_self b h
    refine ⟨by omega, by omega, fun q => by omega, fun _ => e1.symm, by omega⟩
  · have r1 : a.tdiv b = -((-a) / b) := by
      have := Int.neg_tdiv (a := -a) (b := b)
      rw [Int.neg_neg] at this
      rw [this, Int.tdiv_eq_ediv_of_nonneg (by omega)]
    have d1 : 0 ≤ (-a) / b := Int.ediv_nonneg (by omega) (by omega)
    have d2 : (-a) / b ≤ -a := Int.ediv_le_self b (by omega)
    have d3 := Int.mul_ediv_add_emod (-a) b
    have d4 := Int.emod_nonneg (-a) (by omega : b ≠ 0)
    have d5 := Int.emod_lt_of_pos (-a) hb
    have t1 : a.tmod b = a - b * a.tdiv b := by omega
    have key : b * a.tdiv b = -(b * ((-a) / b)) := by rw [r1, Int.mul_neg]
    refine ⟨by omega, by omega, fun q => ?_, fun q => ?_, ?_⟩
    · have h7 : 0 < (-a) % b := by omega
      have : a / b = -((-a) / b) - 1 := by
        have : a = b * (-((-a) / b) - 1) + (b - (-a) % b) := by rw [Int.mul_sub, Int.mul_neg]; omega
        have h8 := Int.ediv_emod_unique (a := a) (b := b) (r := b - (-a) % b) (q := -((-a) / b) - 1) hb
        exact (h8.2 ⟨by omega, by omega, by omega⟩).1
      omega
    · have h7 : (-a) % b = 0 := by omega
      have : a / b = -((-a) / b) := by
        have h8 := Int.ediv_emod_unique (a := a) (b := b) (r := 0) (q := -((-a) / b)) hb
        exact (h8.2 ⟨by rw [Int.mul_neg]; omega, by omega, by omega⟩).1
      omega
    · by_cases h7 : (-a) % b = 0
      · have h8 := Int.ediv_emod_unique (a := a) (b := b) (r := 0) (q := -((-a) / b)) hb
        have := (h8.2 ⟨by rw [Int.mul_neg]; omega, by omega, by omega⟩).1
        omega
      · have h8 := Int.ediv_emod_unique (a := a) (b := b) (r := b - (-a) % b) (q := -((-a) / b) - 1) hb
        have := (h8.2 ⟨by rw [Int.mul_sub, Int.mul_neg]; omega, by omega, by omega⟩).1
        have : (-a) / b ≤ 9223372036854775806 := by
          rcases Nat.lt_or_ge 1 b.toNat with h9 | h9
          · have h10 : b * ((-a) / b) ≥ 2 * ((-a) / b) := Int.mul_le_mul_of_nonneg_right (by omega) d1
            omega
          · have : b = 1 := by omega
            subst this
            omega
        omega
theorem tdiv_up (a b : Int) (hb : 0 < b) (h2 : a ≤ 9223372036854775807) : a / b ≤ 9223372036854775807 := by
  rcases Int.le_total 0 a with h | h
  · exact Int.le_trans (Int.ediv_le_self b h) h2
  · have : a / b ≤ 0 := Int.ediv_nonpos_of_nonpos_of_neg (by omega) (by omega)
    omega
/-- What 'q := a / b; if q*b > a { q-- }' comes to. -/
theorem down_bd (a b : Int) (hb : 0 < b) (h1 : -9223372036854775807 ≤ a) (h2 : a ≤ 9223372036854775807) : (-9223372036854775807 ≤ a.tdiv b ∧ a.tdiv b ≤ 9223372036854775807) ∧ (-9223372036854775807 ≤ a.tdiv b * b ∧ a.tdiv b * b ≤ 9223372036854775807) ∧ (a < a.tdiv b * b → a.tdiv b - 1 = a / b) ∧ (¬ a < a.tdiv b * b → a.tdiv b = a / b) ∧ -9223372036854775807 ≤ a / b ∧ a / b ≤ 9223372036854775807 := by
  obtain ⟨q1, q2, q3, q4, q5⟩ := tdiv_bd a b hb h1 h2
  have e := Int.mul_tdiv_add_tmod a b
  rw [Int.mul_comm] at e
  have q6 := tdiv_up a b hb h2
  have m1 : a.tmod b < b := Int.tmod_lt_of_pos a hb
  have m2 : -b < a.tmod b := by
    rcases Int.le_total 0 a with h | h
    · have := Int.tmod_nonneg b h; omega
    · have e2 : (-a).tmod b = -(a.tmod b) := Int.neg_tmod ..
      have := Int.tmod_lt_of_pos (-a) hb
      omega
  have hs : (-9223372036854775807 ≤ a.tdiv b * b ∧ a.tdiv b * b ≤ 9223372036854775807) := by
    rcases Int.le_total 0 a with h | h
    · have r1 := Int.tmod_nonneg b h
      have d1 : 0 ≤ a.tdiv b := by rw [Int.tdiv_eq_ediv_of_nonneg h]; exact Int.ediv_nonneg h (by omega)
      have := Int.mul_nonneg d1 (by omega : 0 ≤ b)
      omega
    · have r1 : a.tmod b ≤ 0 := by
        have e2 : (-a).tmod b = -(a.tmod b) := Int.neg_tmod ..
        have := Int.tmod_nonneg b (by omega : 0 ≤ -a)
        omega
      have d1 : a.tdiv b ≤ 0 := by
        have e3 : (-a).tdiv b = -(a.tdiv b) := Int.neg_tdiv ..
        have : 0 ≤ (-a).tdiv b := by rw [Int.tdiv_eq_ediv_of_nonneg (by omega)]; exact Int.ediv_nonneg (by omega) (by omega)
        omega
      have := Int.mul_nonneg (by omega : 0 ≤ -(a.tdiv b)) (by omega : 0 ≤ b)
      rw [Int.neg_mul] at this
      omega
  exact ⟨⟨q1, q2⟩, hs, fun h => (q3 (by omega) ▸ rfl), fun h => (q4 (by omega)).symm, q5, q6⟩
end Go.Pulse
namespace Go.SL
set_option linter.unusedVariables false
section
variable {α : Type} {z : Nat} {f : α → List Value} {w0 w : World} {p : Option Addr} {l : List α} {L : List Res} {β : Bs}
end
end Go.SL

namespace Go.Proofs.YtffbohecdocajaaGreat
open Go.SL Go.Proofs Go.Pulse
set_option linter.unusedVariables false

theorem F25_0 : FieldAt Tryz.prog 25 0 0 := ⟨_,_, Tryz.underlying25, rfl, rfl, 0, by kernel_rfl⟩
theorem O3 : IsOne Tryz.prog 3 := ⟨⟨_, Tryz.underlying3, rfl⟩, by kernel_rfl⟩
theorem F25_1 : FieldAt Tryz.prog 25 1 1 := ⟨_,_, Tryz.underlying25, rfl, rfl, 0, by kernel_rfl⟩
abbrev spanC (s : Span) : List Value := [.int .i64 s.lo, .int .i64 s.hi]
abbrev spanV (s : Span) : Value := .agg #[.int .i64 s.lo, .int .i64 s.hi]
abbrev intC (n : Int) : List Value := [.int .i64 n]
abbrev Spans (w : World) (p : Option Addr) (l : List Span) : Prop := RO 2 spanC w p l
set_option maxRecDepth 20000 in
theorem bwithin_c (n lo hi : Int) (w : World) :
  Calls Tryz.prog 119 #[.int .i64 n, .int .i64 lo, .int .i64 hi] w fun e w' => e = .returned (.bool (decide (lo ≤ n) && decide (n ≤ hi))) ∧ St (bs w) [] w' := by
  refine enter (vs := [_,_,_]) (env := [(0,_), (1,_), (2,_)]) Tryz.func119 rfl rfl rfl rfl ?_
  refine VC.seq ?_
  refine VC.reg (VO.l (LO.as (.r rfl)) rfl<|VO.nil ?_)
  refine VE.seqN ?_
  refine VC.seq ?_
  refine VC.reg (VO.l (LO.mv (.r rfl)) rfl<|VO.l (LO.mv (.r rfl)) rfl<|VO.l (LO.le (.r rfl) (.r rfl)) rfl<|VO.l (LO.mv (.r rfl)) rfl<|VO.lg rfl rfl (GD.t _) (fun hg => LO.mv (.r rfl)) rfl<|VO.lg rfl rfl (GD.t _) (fun hg => LO.mv (.r rfl)) rfl<|VO.lg rfl rfl (GD.t _) (fun hg => LO.le (.g hg rfl) (.g hg rfl)) rfl<|VO.l (LO.pkA (.r rfl) rfl rfl (.r rfl)) rfl<|VO.l (LO.as (.r rfl)) rfl<|VO.nil ?_)
  refine VE.seqN ?_
  refine VC.ret (VE.res (vs := [_]) rfl ⟨rfl, trivial⟩ (fun w hw => ?_))
  exact ⟨rfl, hw.nil⟩

end Go.Proofs.YtffbohecdocajaaGreat

namespace Go.Proofs.YtffbohecdocajaaGreat
open Go.SL Go.Proofs Go.Pulse
set_option linter.unusedVariables false

theorem mixed : Tryz.prog.follows .mixedOrders = true := by kernel_rfl
theorem A25 : IsAgg Tryz.prog 25 2 := ⟨⟨_, Tryz.underlying25, rfl⟩, by kernel_rfl⟩
theorem S45 : IsSlice Tryz.prog 45 25 := Tryz.underlying45
theorem N25 : (Tryz.prog.info? 25).map (·.size) = some 2 := by kernel_rfl
theorem Z25 : ZeroOf Tryz.prog 25 (.agg #[.int .i64 0, .int .i64 0]) := by unfold ZeroOf; kernel_rfl


theorem getD_mem {α : Type} {l : List α} {d : α} {j : Nat} (hj : j < l.length) : l.getD j d ∈ l := by
  rw [List.getD_eq_getElem?_getD, List.getElem?_eq_getElem hj]; exact List.getElem_mem hj
end Go.Proofs.YtffbohecdocajaaGreat

namespace Go.Proofs.YtffbohecdocajaaGreat
open Go.SL Go.Proofs Go.Pulse
set_option linter.unusedVariables false

theorem B25 : Builds Tryz.prog 25 [(0,1), (1,1)] [.int .i64 0, .int .i64 0] := Builds.mk fun _ => by kernel_rfl
theorem EA25 : FlatA Tryz.prog 25 2 := ⟨⟨_, Tryz.underlying25, rfl⟩, by kernel_rfl, by kernel_rfl⟩
end Go.Proofs.YtffbohecdocajaaGreat

namespace Go.Proofs.YtffbohecdocajaaGreat
open Go.SL Go.Proofs Go.Pulse
set_option linter.unusedVariables false

theorem S112 : IsSlice Tryz.prog 112 3 := Tryz.underlying112
theorem N3 : (Tryz.prog.info? 3).map (·.size) = some 1 := by kernel_rfl
theorem O112 : IsOne Tryz.prog 112 := ⟨⟨_, Tryz.underlying112, rfl⟩, by kernel_rfl⟩
theorem Z3 : ZeroOf Tryz.prog 3 (.int .i64 0) := by unfold ZeroOf; kernel_rfl
theorem I3 : EInfo Tryz.prog 3 1 8 (.int .i64 0) := ⟨by kernel_rfl, by kernel_rfl, by unfold ZeroOf; kernel_rfl, rfl, by decide⟩
theorem N112 : (Tryz.prog.info? 112).map (·.size) = some 1 := by kernel_rfl
theorem getD_some {α : Type} {l : List α} {d : α} {i : Nat} (h : i < l.length) : l[i]? = some (l.getD i d) := by rw [List.getD_eq_getElem?_getD, List.getElem?_eq_getElem h]; rfl
theorem take_at {α : Type} {l : List α} {n : Nat} {v : α} (hv : l[n]? = some v) : l.take (n + 1) = l.take n ++ [v] := by
  rw [List.take_add_one, hv]; rfl
end Go.Proofs.YtffbohecdocajaaGreat

namespace Go.Proofs.YtffbohecdocajaaGreat
open Go.SL Go.Proofs Go.Pulse
set_option linter.unusedVariables false

theorem ediv_abs {a n B : Int} (hn : 0 < n) (h1 : -B ≤ a) (h2 : a ≤ B) (hB : 0 ≤ B) : -B ≤ a / n ∧ a / n ≤ B := by
  constructor
  · rw [Int.le_ediv_iff_mul_le hn]
    have : B * 1 ≤ B * n := Int.mul_le_mul_of_nonneg_left (by omega) hB
    rw [Int.neg_mul]; omega
  · have : B * 1 ≤ B * n := Int.mul_le_mul_of_nonneg_left (by omega) hB
    have : a / n < B + 1 := Int.ediv_lt_of_lt_mul hn (by rw [Int.add_mul]; omega)
    omega
end Go.Proofs.YtffbohecdocajaaGreat

namespace Go.Proofs.YtffbohecdocajaaGreat
open Go.SL Go.Proofs Go.Pulse
set_option linter.unusedVariables false

theorem cells_inv {w : World} {b : Nat} {C : Array Value} {E : TypeId} (h : (blk b (.cells C E)).inv w) : Cells w ⟨b, 0, none⟩ C.toList := by
  intro j v hj
  have e : (⟨b, 0, none⟩ : Addr).add j = ⟨b, j, none⟩ := by unfold Addr.add; split <;> simp_all
  rw [e]
  have hb : w.heap[b]? = some (.cells C E) := h
  simp only [World.cell?, hb, Option.isSome_none, Bool.false_eq_true, if_false]
  simpa using hj
section
variable {s : List Int} {ph : Int} {g : Bool}
end
theorem div_up {a b n : Int} (hn : 0 < n) (h : a ≤ b) : a / n ≤ up b n := by
  unfold up
  have h1 : a / n ≤ b / n := Int.ediv_le_ediv hn h
  have h2 := Int.mul_ediv_add_emod b n
  have h3 := Int.emod_nonneg b (by omega : n ≠ 0)
  have h4 := Int.mul_ediv_add_emod (-b) n
  have h5 := Int.emod_nonneg (-b) (by omega : n ≠ 0)
  have h6 : n * (b / n) ≤ n * (-(-b / n)) := by rw [Int.mul_neg]; omega
  have := Int.le_of_mul_le_mul_left h6 hn
  omega
end Go.Proofs.YtffbohecdocajaaGreat

namespace Go.Proofs.YtffbohecdocajaaGreat
open Go.SL Go.Proofs Go.Pulse
set_option linter.unusedVariables false



section
variable {a b n m S sl : Int}
theorem up_le {u : Int} (hn : 0 < n) (h : a ≤ u * n) : up a n ≤ u := by
  unfold up
  have := Int.le_ediv_of_mul_le (c := n) (a := -u) (b := -a) hn (by rw [Int.neg_mul]; omega)
  omega
end
section

end
section

end

section

end
end Go.Proofs.YtffbohecdocajaaGreat

namespace Go.Proofs.YtffbohecdocajaaGreat
open Go.SL Go.Proofs Go.Pulse
set_option linter.unusedVariables false

theorem N28 : (Tryz.prog.info? 28).map (·.size) = some 1 := by kernel_rfl
theorem O28 : IsOne Tryz.prog 28 := ⟨⟨_, Tryz.underlying28, rfl⟩, by kernel_rfl⟩
end Go.Proofs.YtffbohecdocajaaGreat

namespace Go.Proofs.YtffbohecdocajaaGreat
open Go.SL Go.Proofs Go.Pulse
set_option linter.unusedVariables false

theorem C272 : IsFn Tryz.prog 272 := ⟨_, Tryz.func272, by decide, rfl⟩
theorem C273 : IsFn Tryz.prog 273 := ⟨_, Tryz.func273, by decide, rfl⟩
theorem C239 : IsFn Tryz.prog 239 := ⟨_, Tryz.func239, by decide, rfl⟩
theorem C193 : IsFn Tryz.prog 193 := ⟨_, Tryz.func193, by decide, rfl⟩
theorem C192 : IsFn Tryz.prog 192 := ⟨_, Tryz.func192, by decide, rfl⟩
theorem C271 : IsFn Tryz.prog 271 := ⟨_, Tryz.func271, by decide, rfl⟩
theorem C238 : IsFn Tryz.prog 238 := ⟨_, Tryz.func238, by decide, rfl⟩


def hayS : ByteArray := ⟨#[97,98,99,100,101,102,103,104,105,106,107,108,109,110,111,112,113,114,115,116,117,118,119,120,121,122,48,49,50,51,52,53,54,55,56,57,95]⟩
/-- What may stand in a name. -/
def nameR (r : Nat) : Bool := (decide (97 ≤ r) && decide (r ≤ 122)) || (decide (48 ≤ r) && decide (r ≤ 57)) || decide (r = 95)
def pN (r : Nat) : Bool := !nameR r
theorem pN_high (r : Nat) (h : 128 ≤ r) : pN r = true := by unfold pN nameR; simp; omega
theorem hay_ascii : ∀ b ∈ hayS.data.toList, b.toNat < 128 := by decide
theorem hay_has : ∀ n : Fin 128, decide (0 ≤ Lib.indexByte hayS.data.toList n.val.toUInt8) = nameR n.val := by decide +kernel
def runeIx (s : ByteArray) (r : Int) : Int := if r < 128 then Lib.indexByte s.data.toList r.toNat.toUInt8 else -1
theorem hay_rune (r : Nat) : decide (0 ≤ runeIx hayS (r : Int)) = nameR r := by
  unfold runeIx
  by_cases h : r < 128
  · rw [if_pos (by omega)]
    exact hay_has ⟨r, h⟩
  · rw [if_neg (by omega)]
    have := pN_high r (by omega)
    unfold pN at this
    simp at this
    rw [this]; rfl
theorem u8_of {r : Int} (h0 : 0 ≤ r) (h1 : r < 128) : IntKind.u8.wrap r = r := by
  have e : r % 256 = r := by omega
  unfold IntKind.wrap
  simp [IntKind.bits, IntKind.signed, e]
theorem St.of_eq {w w' : World} (h : w' = w) : St (bs w) [] w' := by subst h; exact St.refl _
theorem byteN (c : UInt8) : ((c.toNat : Nat) : Int).toNat.toUInt8 = c := by simp
theorem enc_f {r : Int} (hv : Lib.validRune r = true) (h : 128 ≤ r) : 2 ≤ (Utf8.encode r).size ∧ (Utf8.encode r).size ≤ 4 ∧ 128 ≤ ((Utf8.encode r).data.toList.getD ((Utf8.encode r).size - 1) 0).toNat := by
  have hv2 : Utf8.valid r = true := by rw [validRune_eq]; exact hv
  obtain ⟨h1, h2, h3⟩ := encode_facts r hv2 h
  refine ⟨h1, h2, ?_⟩
  have hl : (Utf8.encode r).size - 1 < (Utf8.encode r).data.toList.length := by
    rw [Array.length_toList]; exact (show (Utf8.encode r).size - 1 < (Utf8.encode r).size by omega)
  have := h3 (by omega)
  simp only [List.getD, List.getElem?_eq_getElem hl, Option.getD_some]
  exact this
theorem byte_lt {s : ByteArray} (hs : ∀ b ∈ s.data.toList, b.toNat < 128) (j : Nat) : (s.data.toList.getD j 0).toNat < 128 := by
  rcases Nat.lt_or_ge j s.data.toList.length with h | h
  · exact hs _ (getD_mem h)
  · rw [List.getD_eq_getElem?_getD, List.getElem?_eq_none h]; decide
theorem ix_none {s : ByteArray} {a e : Nat} {c : UInt8} (hs : ∀ b ∈ s.data.toList, b.toNat < 128) (hc : 128 ≤ c.toNat) : Lib.indexByte (s.extract a e).data.toList ((c.toNat : Nat) : Int).toNat.toUInt8 = -1 := by
  rw [byteN, ← Lib.firstIdx_eq]; exact firstIdx_ascii s a e c hs hc
theorem dec_lt {s : ByteArray} (hs : ∀ b ∈ s.data.toList, b.toNat < 128) {q : Nat} (hq : q < s.size) : (Utf8.decode s q).1 < 128 := by
  have h : (s[q]'hq).toNat < 128 := hs _ (Array.getElem_mem_toList (xs := s.data) hq)
  rw [decode_ascii s q hq h]; exact h

set_option maxRecDepth 20000 in
theorem validRune_c (r : Int) (w : World) :
  Calls Tryz.prog 273 #[.int .i32 r] w fun e w' => e = .returned (.bool (Lib.validRune r)) ∧ St (bs w) [] w' := by
  refine enter (vs := [_]) (env := [(0,_)]) Tryz.func273 rfl rfl rfl rfl ?_
  refine VC.seq ?_
  refine VC.reg (VO.l (LO.as (.r rfl)) rfl<|VO.nil ?_)
  refine VE.seqN ?_
  refine VC.seq ?_
  refine VC.block ?_
  refine VC.seq ?_
  refine VC.reg (VO.l (LO.mv (.r rfl)) rfl<|VO.l (LO.le (.r rfl) (.r rfl)) rfl<|VO.l (LO.mv (.r rfl)) rfl<|VO.lg rfl rfl (GD.t _) (fun hg => LO.mv (.r rfl)) rfl<|VO.lg rfl rfl (GD.t _) (fun hg => LO.lt (.g hg rfl) (.r rfl)) rfl<|VO.l (LO.pkA (.r rfl) rfl rfl (.r rfl)) rfl<|VO.l (LO.as (.r rfl)) rfl<|VO.nil ?_)
  refine VE.seqN ?_
  refine VC.cond rfl (fun h1 => ?_) (fun h1 => ?_)
  ·
    refine VC.seq ?_
    refine VC.reg (VO.l (LO.as (.r rfl)) rfl<|VO.nil ?_)
    refine VE.seqN ?_
    refine VC.ret (VE.inR (VE.thenR (VE.res (vs := [_]) rfl ⟨rfl, trivial⟩ (fun w hw => ?_))))
    exact ⟨by simp only [resV, Lib.validRune]; first | rw [decide_eq_true (show (0 ≤ r ∧ r < 0xD800) ∨ (0xDFFF < r ∧ r ≤ 0x10FFFF) by omega)] | rw [decide_eq_false (show ¬ ((0 ≤ r ∧ r < 0xD800) ∨ (0xDFFF < r ∧ r ≤ 0x10FFFF)) by omega)], hw.nil⟩
  ·
    refine VC.seq ?_
    refine VC.reg (VO.l (LO.mv (.r rfl)) rfl<|VO.l (LO.lt (.r rfl) (.r rfl)) rfl<|VO.l (LO.mv (.r rfl)) rfl<|VO.lg rfl rfl (GD.t _) (fun hg => LO.mv (.r rfl)) rfl<|VO.lg rfl rfl (GD.t _) (fun hg => LO.le (.g hg rfl) (.r rfl)) rfl<|VO.l (LO.pkA (.r rfl) rfl rfl (.r rfl)) rfl<|VO.l (LO.as (.r rfl)) rfl<|VO.nil ?_)
    refine VE.seqN ?_
    refine VC.cond rfl (fun h2 => ?_) (fun h2 => ?_)
    ·
      refine VC.seq ?_
      refine VC.reg (VO.l (LO.as (.r rfl)) rfl<|VO.nil ?_)
      refine VE.seqN ?_
      refine VC.ret (VE.inR (VE.thenR (VE.res (vs := [_]) rfl ⟨rfl, trivial⟩ (fun w hw => ?_))))
      exact ⟨by simp only [resV, Lib.validRune]; first | rw [decide_eq_true (show (0 ≤ r ∧ r < 0xD800) ∨ (0xDFFF < r ∧ r ≤ 0x10FFFF) by omega)] | rw [decide_eq_false (show ¬ ((0 ≤ r ∧ r < 0xD800) ∨ (0xDFFF < r ∧ r ≤ 0x10FFFF)) by omega)], hw.nil⟩
    ·
      refine VC.skip (VE.inN (VE.seqN ?_))
      refine VC.seq ?_
      refine VC.reg (VO.l (LO.as (.r rfl)) rfl<|VO.nil ?_)
      refine VE.seqN ?_
      refine VC.ret (VE.res (vs := [_]) rfl ⟨rfl, trivial⟩ (fun w hw => ?_))
      exact ⟨by simp only [resV, Lib.validRune]; first | rw [decide_eq_true (show (0 ≤ r ∧ r < 0xD800) ∨ (0xDFFF < r ∧ r ≤ 0x10FFFF) by omega)] | rw [decide_eq_false (show ¬ ((0 ≤ r ∧ r < 0xD800) ∨ (0xDFFF < r ∧ r ≤ 0x10FFFF)) by omega)], hw.nil⟩

set_option maxRecDepth 20000 in
theorem indexRune_c (s : ByteArray) (r : Int) (w : World) (h0 : 0 ≤ r) (hs : ∀ b ∈ s.data.toList, b.toNat < 128) (h4 : 4 ≤ s.size) (h5 : s.size < 100000) :
  Calls Tryz.prog 239 #[.string s, .int .i32 r] w fun e w' => e = .returned (.int .i64 (runeIx s r)) ∧ St (bs w) [] w' := by
  refine enter (vs := [_,_]) (env := [(0,_), (1,_)]) Tryz.func239 rfl rfl rfl rfl ?_
  refine VC.seq ?_
  refine VC.reg (VO.l (LO.as (.r rfl)) rfl<|VO.nil ?_)
  refine VE.seqN ?_
  refine VC.block ?_
  refine VC.seq ?_
  refine VC.reg (VO.l (LO.mv (.r rfl)) rfl<|VO.l (LO.le (.r rfl) (.r rfl)) rfl<|VO.l (LO.mv (.r rfl)) rfl<|VO.lg rfl rfl (GD.t _) (fun hg => LO.mv (.r rfl)) rfl<|VO.lg rfl rfl (GD.t _) (fun hg => LO.lt (.g hg rfl) (.r rfl)) rfl<|VO.l (LO.pkA (.r rfl) rfl rfl (.r rfl)) rfl<|VO.l (LO.as (.r rfl)) rfl<|VO.nil ?_)
  refine VE.seqN ?_
  refine VC.cond rfl (fun h160 => ?_) (fun h160 => ?_)
  ·
    refine VC.seq ?_
    refine VC.reg (VO.l (LO.mv (.r rfl)) rfl<|VO.l (LO.mv (.r rfl)) rfl<|VO.l (LO.cv ⟨_, Tryz.underlying21⟩ Tryz.underlying5 (.r rfl) (u8_of (by omega) (by omega))) rfl<|VO.l (LO.call (xs := [_,_]) (vs := [_,_]) C272 ⟨(.r rfl), (.r rfl), trivial⟩ (fun w _ => (Tryz.strings_IndexByte s r w).mono fun e w' q => ⟨q.1, St.of_eq q.2⟩)) rfl<|VO.l (LO.as (.r rfl)) rfl<|VO.nil ?_)
    refine VE.seqN ?_
    refine VC.ret (VE.inR (VE.res (vs := [_]) rfl ⟨rfl, trivial⟩ (fun w hw => ?_)))
    first | exact ⟨by simp only [resV, runeIx]; rw [if_pos (by omega)], hw.nil⟩ | exact ⟨by simp only [resV, runeIx]; rw [if_neg (by omega)], hw.nil⟩
  ·
    refine VC.seq ?_
    refine VC.reg (VO.l (LO.mv (.r rfl)) rfl<|VO.l (LO.eq (.r rfl) (.r rfl)) rfl<|VO.l (LO.as (.r rfl)) rfl<|VO.nil ?_)
    refine VE.seqN ?_
    refine VC.cond rfl (fun h171 => ?_) (fun h171 => ?_)
    ·
      refine VC.seq ?_
      refine VC.seq ?_
      refine VC.reg (VO.l (LO.mv (.r rfl)) rfl<|VO.h rfl<|HO.range Tryz.underlying9 rfl fun b1 => VO.nil ?_)
      refine VE.seqN ?_
      refine VC.block ?_
      refine VC.loopK (α := Nat) 1 (fun gx => []) [(175,_)] (fun gx => [blk b1 (.stringIter s gx)]) (fun gx => True) (fun gx => s.size - gx) 0 (by exact trivial) (.cons rfl .nil) (fun _ h => h) ?_
      rintro q _
      refine VC.seq ?_
      by_cases hps : q < s.size
      ·
        refine VC.reg (VO.h rfl<|HO.nextT 0 (fun R => [R]) rfl rfl (fun _ => rfl) hps<|VO.h rfl<|HO.lo (LO.ex (.r rfl) rfl)<|VO.nil ?_)
        refine VE.seqN ?_
        refine VC.seq ?_
        refine VC.cond rfl (fun h177 => ?_) (fun h177 => ?_)
        ·
          refine VC.skip (VE.seqN ?_)
          refine VC.block ?_
          refine VC.seq ?_
          refine VC.reg (VO.l (LO.ex (.r rfl) rfl) rfl<|VO.l (LO.ex (.r rfl) rfl) rfl<|VO.l (LO.as (.r rfl)) rfl<|VO.l (LO.as (.r rfl)) rfl<|VO.nil ?_)
          refine VE.seqN ?_
          refine VC.seq ?_
          have hdc := dec_lt hs hps
          refine VC.reg (VO.l (LO.mv (.r rfl)) rfl<|VO.l (LO.eq (.r rfl) (.r rfl)) rfl<|VO.nil ?_)
          refine VE.seqN ?_
          refine VC.cond rfl (fun h181 => ?_) (fun h181 => ?_)
          ·
            (exfalso; omega)
          ·
            refine VC.skip (VE.inN ?_)
            refine VE.thenN fun a w ha hw => ⟨q + (Utf8.decode s q).2, trivial, (by have := decode_pos s q; omega), ha.sub (.cons rfl .nil), hw⟩
        ·
          (exfalso; exact h177 rfl)
      ·
        refine VC.reg (VO.h rfl<|HO.nextF 0 rfl rfl hps<|VO.h rfl<|HO.lo (LO.ex (.r rfl) rfl)<|VO.nil ?_)
        refine VE.seqN ?_
        refine VC.seq ?_
        refine VC.cond rfl (fun h177 => ?_) (fun h177 => ?_)
        ·
          (exfalso; cases h177)
        ·
          refine VC.exit (VE.thenX (VE.thenX (VE.inX (VE.seqN ?_))))
          refine VC.seq ?_
          refine VC.reg (VO.l (LO.as (.r rfl)) rfl<|VO.nil ?_)
          refine VE.seqN ?_
          refine VC.ret (VE.inR (VE.res (vs := [_]) rfl ⟨rfl, trivial⟩ (fun w hw => ?_)))
          first | exact ⟨by simp only [resV, runeIx]; rw [if_pos (by omega)], hw.nil⟩ | exact ⟨by simp only [resV, runeIx]; rw [if_neg (by omega)], hw.nil⟩
    ·
      refine VC.seq ?_
      refine VC.reg (VO.l (LO.mv (.r rfl)) rfl<|VO.l (LO.call (xs := [_]) (vs := [_]) C273 ⟨(.r rfl), trivial⟩ (fun w _ => validRune_c _ w)) rfl<|VO.l (LO.not (.r rfl)) rfl<|VO.l (LO.as (.r rfl)) rfl<|VO.nil ?_)
      refine VE.seqN ?_
      refine VC.cond rfl (fun h183 => ?_) (fun h183 => ?_)
      ·
        refine VC.seq ?_
        refine VC.reg (VO.l (LO.as (.r rfl)) rfl<|VO.nil ?_)
        refine VE.seqN ?_
        refine VC.ret (VE.inR (VE.res (vs := [_]) rfl ⟨rfl, trivial⟩ (fun w hw => ?_)))
        first | exact ⟨by simp only [resV, runeIx]; rw [if_pos (by omega)], hw.nil⟩ | exact ⟨by simp only [resV, runeIx]; rw [if_neg (by omega)], hw.nil⟩
      ·
        have hv : Lib.validRune r = true := by simpa using h183
        obtain ⟨e1, e2, e3⟩ := enc_f hv (by omega)
        have b1 := byte_lt hs ((Utf8.encode r).size - 1)
        refine VC.scope ?_
        refine VC.seq ?_
        refine VC.reg (VO.l (LO.mv (.r rfl)) rfl<|VO.l (LO.cvS ⟨_, Tryz.underlying21⟩ Tryz.underlying9 (.r rfl)) rfl<|VO.l (LO.as (.r rfl)) rfl<|VO.nil ?_)
        refine VE.seqN ?_
        refine VC.seq ?_
        refine VC.reg (VO.l (LO.mv (.r rfl)) rfl<|VO.l (LO.lenS Tryz.underlying9 (.r rfl) rfl) rfl<|VO.l (LO.sub (.r rfl) (.r rfl) (wi (by omega) (by omega))) rfl<|VO.l (LO.as (.r rfl)) rfl<|VO.nil ?_)
        refine VE.seqN ?_
        refine VC.seq ?_
        refine VC.reg (VO.l (LO.mv (.r rfl)) rfl<|VO.l (LO.as (.r rfl)) rfl<|VO.nil ?_)
        refine VE.seqN ?_
        refine VC.seq ?_
        refine VC.reg (VO.l (LO.as (.r rfl)) rfl<|VO.nil ?_)
        refine VE.seqN ?_
        refine VC.seq ?_
        refine VC.block ?_
        refine VC.loopK (α := Nat) 0 (fun gx => [(4, .int .i64 0), (9, .int .i64 (((Utf8.encode r).size : Int) - 1))]) [(0,_), (7,_), (8,_)] (fun gx => []) (fun gx => True) (fun gx => gx) 0 (by exact trivial) (.cons rfl (.cons rfl (.cons rfl (.cons rfl (.cons rfl .nil))))) (fun _ h => h) ?_
        rintro u _
        refine VC.seq ?_
        refine VC.seq ?_
        refine VC.reg (VO.l (LO.mv (.r rfl)) rfl<|VO.l (LO.mv (.r rfl)) rfl<|VO.l (LO.lenS Tryz.underlying9 (.r rfl) rfl) rfl<|VO.l (LO.lt (.r rfl) (.r rfl)) rfl<|VO.nil ?_)
        refine VE.seqN ?_
        refine VC.cond rfl (fun h26 => ?_) (fun h26 => ?_)
        ·
          refine VC.skip (VE.seqN ?_)
          refine VC.block ?_
          refine VC.scope ?_
          refine VC.seq ?_
          refine VC.seq ?_
          refine VC.draw mixed (LL.l (LO.mv (.r rfl)) rfl<|LL.l (LO.mv (.r rfl)) rfl<|LL.l (LO.ixS (j := ((Utf8.encode r).size - 1)) Tryz.underlying9 (.r rfl) (.r rfl) (by omega) (by omega)) rfl<|LL.l (LO.mv (.r rfl)) rfl<|LL.l (LO.mv (.r rfl)) rfl<|LL.l (LO.ixS (j := ((Utf8.encode r).size - 1)) Tryz.underlying9 (.r rfl) (.r rfl) (by omega) (by omega)) rfl<|LL.l (LO.ne (.r rfl) (.r rfl)) rfl<|LL.nil) (by kernel_rfl) ?_
          refine VE.seqN ?_
          refine VC.cond rfl (fun h33 => ?_) (fun h33 => ?_)
          ·
            refine VC.seq ?_
            refine VC.draw mixed (LL.l (LO.mv (.r rfl)) rfl<|LL.l (LO.mv (.r rfl)) rfl<|LL.l (LO.add (.r rfl) (.r rfl) (wi (by omega) (by omega))) rfl<|LL.l (LO.slS Tryz.underlying9 (.r rfl) (.r rfl) (by omega) (by omega)) rfl<|LL.l (LO.mv (.r rfl)) rfl<|LL.l (LO.mv (.r rfl)) rfl<|LL.l (LO.ixS (j := ((Utf8.encode r).size - 1)) Tryz.underlying9 (.r rfl) (.r rfl) (by omega) (by omega)) rfl<|LL.l (LO.call (xs := [_,_]) (vs := [_,_]) C272 ⟨(.r rfl), (.r rfl), trivial⟩ (fun w _ => (Tryz.strings_IndexByte _ _ w).mono fun e w' q => ⟨q.1, St.of_eq q.2⟩)) rfl<|LL.l (LO.as (.r rfl)) rfl<|LL.nil) (by kernel_rfl) ?_
            refine VE.seqN ?_
            refine VC.seq ?_
            refine VC.seq ?_
            refine VC.reg (VO.l (LO.mv (.r rfl)) rfl<|VO.l (LO.lt (.r rfl) (.r rfl)) rfl<|VO.nil ?_)
            refine VE.seqN ?_
            refine VC.cond rfl (fun h43 => ?_) (fun h43 => ?_)
            ·
              refine VC.seq ?_
              refine VC.reg (VO.l (LO.as (.r rfl)) rfl<|VO.nil ?_)
              refine VE.seqN ?_
              refine VC.ret (VE.thenR (VE.thenR (VE.scR (VE.inR (VE.thenR (VE.inR (VE.thenR (VE.scR (VE.inR (VE.res (vs := [_]) rfl ⟨rfl, trivial⟩ (fun w hw => ?_)))))))))))
              first | exact ⟨by simp only [resV, runeIx]; rw [if_pos (by omega)], hw.nil⟩ | exact ⟨by simp only [resV, runeIx]; rw [if_neg (by omega)], hw.nil⟩
            ·
              (exfalso; (rw [ix_none hs e3] at h43; omega))
          ·
            (exfalso; omega)
        ·
          (exfalso; omega)

set_option maxRecDepth 20000 in
theorem containsRune_c (s : ByteArray) (r : Int) (w : World) (h0 : 0 ≤ r) (hs : ∀ b ∈ s.data.toList, b.toNat < 128) (h4 : 4 ≤ s.size) (h5 : s.size < 100000) :
  Calls Tryz.prog 193 #[.string s, .int .i32 r] w fun e w' => e = .returned (.bool (decide (0 ≤ runeIx s r))) ∧ St (bs w) [] w' := by
  refine enter (vs := [_,_]) (env := [(0,_), (1,_)]) Tryz.func193 rfl rfl rfl rfl ?_
  refine VC.seq ?_
  refine VC.reg (VO.l (LO.as (.r rfl)) rfl<|VO.nil ?_)
  refine VE.seqN ?_
  refine VC.seq ?_
  refine VC.reg (VO.l (LO.mv (.r rfl)) rfl<|VO.l (LO.mv (.r rfl)) rfl<|VO.l (LO.call (xs := [_,_]) (vs := [_,_]) C239 ⟨(.r rfl), (.r rfl), trivial⟩ (fun w _ => indexRune_c s r w h0 hs h4 h5)) rfl<|VO.l (LO.ge (.r rfl) (.r rfl)) rfl<|VO.l (LO.as (.r rfl)) rfl<|VO.nil ?_)
  refine VE.seqN ?_
  refine VC.ret (VE.res (vs := [_]) rfl ⟨rfl, trivial⟩ (fun w hw => ?_))
  exact ⟨rfl, hw.nil⟩

set_option maxRecDepth 20000 in
theorem nameRune_c (r : Nat) (w : World) :
  Calls Tryz.prog 192 #[.int .i32 (r : Int)] w fun e w' => e = .returned (.bool (pN r)) ∧ St (bs w) [] w' := by
  refine enter (vs := [_]) (env := [(0,_)]) Tryz.func192 rfl rfl rfl rfl ?_
  refine VC.seq ?_
  refine VC.reg (VO.l (LO.as (.r rfl)) rfl<|VO.nil ?_)
  refine VE.seqN ?_
  refine VC.seq ?_
  refine VC.reg (VO.l (LO.mv (.r rfl)) rfl<|VO.l (LO.call (xs := [_,_]) (vs := [_,_]) C193 ⟨(.r rfl), (.r rfl), trivial⟩ (fun w _ => containsRune_c hayS (r : Int) w (by omega) hay_ascii (by decide) (by decide))) rfl<|VO.l (LO.not (.r rfl)) rfl<|VO.l (LO.as (.r rfl)) rfl<|VO.nil ?_)
  refine VE.seqN ?_
  refine VC.ret (VE.res (vs := [_]) rfl ⟨rfl, trivial⟩ (fun w hw => ?_))
  exact ⟨by simp only [resV]; rw [hay_rune]; rfl, hw.nil⟩

set_option maxRecDepth 20000 in
theorem indexFunc_c (s : ByteArray) (w : World) :
  Calls Tryz.prog 271 #[.string s, .func (.func 192) #[] #[], .bool true] w fun e w' => e = .returned (.int .i64 (idxF pN s s.size 0)) ∧ St (bs w) [] w' := by
  refine enter (vs := [_,_,_]) (env := [(0,_), (1,_), (2,_)]) Tryz.func271 rfl rfl rfl rfl ?_
  refine VC.seq ?_
  refine VC.reg (VO.l (LO.as (.r rfl)) rfl<|VO.nil ?_)
  refine VE.seqN ?_
  refine VC.seq ?_
  refine VC.seq ?_
  refine VC.reg (VO.l (LO.mv (.r rfl)) rfl<|VO.h rfl<|HO.range Tryz.underlying9 rfl fun b1 => VO.nil ?_)
  refine VE.seqN ?_
  refine VC.block ?_
  refine VC.loopK (α := Nat × Nat) 1 (fun gx => []) [(1,_), (2,_), (10,_)] (fun gx => [blk b1 (.stringIter s gx.1)]) (fun gx => idxF pN s gx.2 gx.1 = idxF pN s s.size 0 ∧ s.size ≤ gx.1 + gx.2) (fun gx => gx.2) (0, s.size) (by exact ⟨rfl, by omega⟩) (.cons rfl (.cons rfl (.cons rfl .nil))) (fun _ h => h) ?_
  rintro ⟨q, f⟩ ⟨hI, hf⟩
  show VC _ _ _ _ _ ([] ++ _) ([blk b1 (.stringIter s q)] ++ _) _ _
  dsimp only at hI hf
  refine VC.seq ?_
  by_cases hps : q < s.size
  ·
    obtain ⟨f, rfl⟩ : ∃ k, f = k + 1 := ⟨f - 1, by omega⟩
    rw [idxF, if_pos hps] at hI
    refine VC.reg (VO.h rfl<|HO.nextT 0 (fun R => [R]) rfl rfl (fun _ => rfl) hps<|VO.h rfl<|HO.lo (LO.ex (.r rfl) rfl)<|VO.nil ?_)
    refine VE.seqN ?_
    refine VC.seq ?_
    refine VC.cond rfl (fun h12 => ?_) (fun h12 => ?_)
    ·
      refine VC.skip (VE.seqN ?_)
      refine VC.block ?_
      refine VC.seq ?_
      refine VC.reg (VO.l (LO.ex (.r rfl) rfl) rfl<|VO.l (LO.ex (.r rfl) rfl) rfl<|VO.l (LO.as (.r rfl)) rfl<|VO.l (LO.as (.r rfl)) rfl<|VO.nil ?_)
      refine VE.seqN ?_
      refine VC.seq ?_
      refine VC.reg (VO.l (LO.mv (.r rfl)) rfl<|VO.l (LO.mv (.r rfl)) rfl<|VO.l (LO.callv (first := []) (cap := []) (xs := [_]) (vs := [_]) (.r rfl) C192 ⟨(.r rfl), trivial⟩ (fun w _ => nameRune_c _ w)) rfl<|VO.l (LO.mv (.r rfl)) rfl<|VO.l (LO.eqB Tryz.underlying4 (.r rfl) (.r rfl)) rfl<|VO.nil ?_)
      refine VE.seqN ?_
      refine VC.cond rfl (fun h19 => ?_) (fun h19 => ?_)
      ·
        rw [if_pos h19] at hI
        refine VC.seq ?_
        refine VC.reg (VO.l (LO.mv (.r rfl)) rfl<|VO.l (LO.as (.r rfl)) rfl<|VO.nil ?_)
        refine VE.seqN ?_
        refine VC.ret (VE.inR (VE.thenR (VE.inR (VE.thenR (VE.res (vs := [_]) rfl ⟨rfl, trivial⟩ (fun w hw => ?_))))))
        exact ⟨by simp only [resV]; rw [← hI] <;> rfl, hw.nil⟩
      ·
        rw [if_neg h19] at hI
        refine VC.skip (VE.inN ?_)
        refine VE.thenN fun a w ha hw => ⟨(q + (Utf8.decode s q).2, f), ⟨hI, by have := decode_pos s q; dsimp only; omega⟩, (by dsimp only; omega), ha.sub (.cons rfl (.cons rfl (.cons rfl .nil))), hw⟩
    ·
      (exfalso; exact h12 rfl)
  ·
    rw [idxF_end hps] at hI
    refine VC.reg (VO.h rfl<|HO.nextF 0 rfl rfl hps<|VO.h rfl<|HO.lo (LO.ex (.r rfl) rfl)<|VO.nil ?_)
    refine VE.seqN ?_
    refine VC.seq ?_
    refine VC.cond rfl (fun h12 => ?_) (fun h12 => ?_)
    ·
      (exfalso; cases h12)
    ·
      refine VC.exit (VE.thenX (VE.thenX (VE.inX (VE.seqN ?_))))
      refine VC.seq ?_
      refine VC.reg (VO.l (LO.as (.r rfl)) rfl<|VO.nil ?_)
      refine VE.seqN ?_
      refine VC.ret (VE.res (vs := [_]) rfl ⟨rfl, trivial⟩ (fun w hw => ?_))
      exact ⟨by simp only [resV]; rw [← hI] <;> rfl, hw.nil⟩

set_option maxRecDepth 20000 in
theorem IndexFunc_c (s : ByteArray) (w : World) :
  Calls Tryz.prog 238 #[.string s, .func (.func 192) #[] #[]] w fun e w' => e = .returned (.int .i64 (idxF pN s s.size 0)) ∧ St (bs w) [] w' := by
  refine enter (vs := [_,_]) (env := [(0,_), (1,_)]) Tryz.func238 rfl rfl rfl rfl ?_
  refine VC.seq ?_
  refine VC.reg (VO.l (LO.as (.r rfl)) rfl<|VO.nil ?_)
  refine VE.seqN ?_
  refine VC.seq ?_
  refine VC.reg (VO.l (LO.mv (.r rfl)) rfl<|VO.l (LO.mv (.r rfl)) rfl<|VO.l (LO.call (xs := [_,_,_]) (vs := [_,_,_]) C271 ⟨(.r rfl), (.r rfl), (.r rfl), trivial⟩ (fun w _ => indexFunc_c _ w)) rfl<|VO.l (LO.as (.r rfl)) rfl<|VO.nil ?_)
  refine VE.seqN ?_
  refine VC.ret (VE.res (vs := [_]) rfl ⟨rfl, trivial⟩ (fun w hw => ?_))
  exact ⟨rfl, hw.nil⟩

set_option maxRecDepth 20000 in
theorem ContainsFunc_c (s : ByteArray) (w : World) :
  Calls Tryz.prog 191 #[.string s, .func (.func 192) #[] #[]] w fun e w' => e = .returned (.bool (decide (0 ≤ idxF pN s s.size 0))) ∧ St (bs w) [] w' := by
  refine enter (vs := [_,_]) (env := [(0,_), (1,_)]) Tryz.func191 rfl rfl rfl rfl ?_
  refine VC.seq ?_
  refine VC.reg (VO.l (LO.as (.r rfl)) rfl<|VO.nil ?_)
  refine VE.seqN ?_
  refine VC.seq ?_
  refine VC.reg (VO.l (LO.mv (.r rfl)) rfl<|VO.l (LO.mv (.r rfl)) rfl<|VO.l (LO.call (xs := [_,_]) (vs := [_,_]) C238 ⟨(.r rfl), (.r rfl), trivial⟩ (fun w _ => IndexFunc_c _ w)) rfl<|VO.l (LO.ge (.r rfl) (.r rfl)) rfl<|VO.l (LO.as (.r rfl)) rfl<|VO.nil ?_)
  refine VE.seqN ?_
  refine VC.ret (VE.res (vs := [_]) rfl ⟨rfl, trivial⟩ (fun w hw => ?_))
  exact ⟨rfl, hw.nil⟩

end Go.Proofs.YtffbohecdocajaaGreat

namespace Go.Proofs.YtffbohecdocajaaGreat
open Go.SL Go.Proofs Go.Pulse
set_option linter.unusedVariables false

theorem C191 : IsFn Tryz.prog 191 := ⟨_, Tryz.func191, by decide, rfl⟩
theorem F59_0 : FieldAt Tryz.prog 59 0 0 := ⟨_,_, Tryz.underlying59, rfl, rfl, 0, by kernel_rfl⟩
theorem O9 : IsOne Tryz.prog 9 := ⟨⟨_, Tryz.underlying9, rfl⟩, by kernel_rfl⟩
theorem C118 : IsFn Tryz.prog 118 := ⟨_, Tryz.func118, by decide, rfl⟩
theorem F59_1 : FieldAt Tryz.prog 59 1 1 := ⟨_,_, Tryz.underlying59, rfl, rfl, 0, by kernel_rfl⟩
theorem C119 : IsFn Tryz.prog 119 := ⟨_, Tryz.func119, by decide, rfl⟩
theorem F59_4 : FieldAt Tryz.prog 59 4 4 := ⟨_,_, Tryz.underlying59, rfl, rfl, 0, by kernel_rfl⟩
theorem F59_5 : FieldAt Tryz.prog 59 5 5 := ⟨_,_, Tryz.underlying59, rfl, rfl, 0, by kernel_rfl⟩
theorem F59_6 : FieldAt Tryz.prog 59 6 6 := ⟨_,_, Tryz.underlying59, rfl, rfl, 0, by kernel_rfl⟩
theorem F59_7 : FieldAt Tryz.prog 59 7 7 := ⟨_,_, Tryz.underlying59, rfl, rfl, 0, by kernel_rfl⟩
theorem F59_2 : FieldAt Tryz.prog 59 2 2 := ⟨_,_, Tryz.underlying59, rfl, rfl, 0, by kernel_rfl⟩
theorem F59_3 : FieldAt Tryz.prog 59 3 3 := ⟨_,_, Tryz.underlying59, rfl, rfl, 0, by kernel_rfl⟩
def byteAt (s : ByteArray) (j : Nat) : Nat := (s.data.toList.getD j 0).toNat
def nameB (s : ByteArray) : Bool := ((((decide (1 ≤ (s.size : Int)) && decide ((s.size : Int) ≤ 12)) && decide (97 ≤ (byteAt s 0 : Int))) && decide ((byteAt s 0 : Int) ≤ 122)) && (List.range s.size).all fun j => nameR (byteAt s j))
theorem nameB_idx {s : ByteArray} : (!decide (0 ≤ idxF pN s s.size 0)) = (List.range s.size).all fun j => nameR (byteAt s j) := by
  have h := idxF_bytes (p := pN) (s := s) (fun r hr => pN_high r hr) (f := s.size) (q := 0) (by omega)
  rw [Bool.eq_iff_iff, List.all_eq_true]
  constructor
  · intro q j hj
    have h1 : idxF pN s s.size 0 < 0 := by simpa using q
    have := h.1 h1 j (Nat.zero_le _) (List.mem_range.1 hj)
    unfold pN at this
    cases k : nameR (byteAt s j) with
    | true => rfl
    | false => unfold byteAt at k; rw [k] at this; cases this
  · intro q
    have : idxF pN s s.size 0 < 0 := h.2 fun j _ hj => by
      have := q j (List.mem_range.2 hj)
      unfold byteAt at this
      unfold pN; rw [this]; rfl
    simpa using this
theorem LO.neE {P : Program} {β : Bs} {env : Env} {L : List Res} {d : Option Nat} {ty : TypeId} {pos : String} {aft : Array Edge} {g : Option (Nat × Bool)} {xT yT : Nat} {x y : Operand} {s : ByteArray} (hx : OV env x (.string s)) (hy : OV env y (.string ⟨#[]⟩)) : LO P β env L ⟨d, .binOp .neq xT x y yT, ty, pos, aft, g⟩ (.bool (decide (1 ≤ (s.size : Int)))) := by
  have h := LO.neS (P := P) (β := β) (L := L) (d := d) (ty := ty) (pos := pos) (aft := aft) (g := g) (xT := xT) (yT := yT) hx hy
  have e : (!(s.toList == (⟨#[]⟩ : ByteArray).toList)) = decide (1 ≤ (s.size : Int)) := by
    rw [ByteArray.toList_eq, ByteArray.toList_eq]
    have hs : s.data.toList.length = s.size := Array.length_toList
    cases q : s.data.toList with
    | nil => rw [q] at hs; simp at hs; simp [← hs]
    | cons b l => rw [q] at hs; simp at hs; simp; omega
  rw [e] at h
  exact h

structure Site where
  name : ByteArray
  x : Int
  y : Int
  z : Int
  rose : Int
  gates : Int
  step : Int
  width : Int
def siteC (s : Site) : List Value := [.string s.name, .int .i64 s.x, .int .i64 s.y, .int .i64 s.z, .int .i64 s.rose, .int .i64 s.gates, .int .i64 s.step, .int .i64 s.width]
def siteOk (s : Site) : Prop := ((((((((-1048576 ≤ s.x ∧ s.x ≤ 1048576) ∧ -1048576 ≤ s.y ∧ s.y ≤ 1048576) ∧ 0 ≤ s.z ∧ s.z ≤ 20000) ∧ 1 ≤ s.rose ∧ s.rose ≤ 90) ∧ 1 ≤ s.gates ∧ s.gates ≤ 200) ∧ 50 ≤ s.step ∧ s.step ≤ 2000) ∧ 0 ≤ s.width ∧ s.width ≤ 8))
instance (s : Site) : Decidable (siteOk s) := by unfold siteOk; exact inferInstance
def siteE (s : Site) : Int := if nameB s.name = true then (if siteOk s then 0 else 3) else 10
theorem siteE1 {s : Site} (h : ¬ nameB s.name = true) : siteE s = 10 := if_neg h
theorem siteE2 {s : Site} (h : nameB s.name = true) (k : ¬ siteOk s) : siteE s = 3 := by unfold siteE; rw [if_pos h, if_neg k]
theorem siteE3 {s : Site} (h : nameB s.name = true) (k : siteOk s) : siteE s = 0 := by unfold siteE; rw [if_pos h, if_pos k]
theorem nn {b : Bool} (h : ¬ ¬ b = true) : b = true := Classical.not_not.1 h

set_option maxRecDepth 20000 in
theorem Name_c (s : ByteArray) (w : World) :
  Calls Tryz.prog 118 #[.string s] w fun e w' => e = .returned (.bool (nameB s)) ∧ St (bs w) [] w' := by
  refine enter (vs := [_]) (env := [(0,_)]) Tryz.func118 rfl rfl rfl rfl ?_
  refine VC.seq ?_
  refine VC.reg (VO.l (LO.as (.r rfl)) rfl<|VO.nil ?_)
  refine VE.seqN ?_
  refine VC.seq ?_
  refine VC.reg (VO.l (LO.mv (.r rfl)) rfl<|VO.l (LO.neE (.r rfl) (.r rfl)) rfl<|VO.l (LO.mv (.r rfl)) rfl<|VO.lg rfl rfl (GD.t _) (fun hg => LO.mv (.r rfl)) rfl<|VO.lg rfl rfl (GD.t _) (fun hg => LO.lenS Tryz.underlying9 (.g hg rfl) rfl) rfl<|VO.lg rfl rfl (GD.t _) (fun hg => LO.le (.g hg rfl) (.r rfl)) rfl<|VO.l (LO.pkA (.r rfl) rfl rfl (.r rfl)) rfl<|VO.l (LO.mv (.r rfl)) rfl<|VO.lg rfl rfl (GD.t _) (fun hg => LO.mv (.r rfl)) rfl<|VO.lg rfl rfl (GD.t _) (fun hg => LO.ixS (j := 0) Tryz.underlying9 (.g hg rfl) (.r rfl) rfl (by have q := IsP.yes inferInstance hg; omega)) rfl<|VO.lg rfl rfl (GD.t _) (fun hg => LO.ge (.g hg rfl) (.r rfl)) rfl<|VO.l (LO.pkA (.r rfl) rfl rfl (.r rfl)) rfl<|VO.l (LO.mv (.r rfl)) rfl<|VO.lg rfl rfl (GD.t _) (fun hg => LO.mv (.r rfl)) rfl<|VO.lg rfl rfl (GD.t _) (fun hg => LO.ixS (j := 0) Tryz.underlying9 (.g hg rfl) (.r rfl) rfl (by have q := IsP.yes inferInstance hg; omega)) rfl<|VO.lg rfl rfl (GD.t _) (fun hg => LO.le (.g hg rfl) (.r rfl)) rfl<|VO.l (LO.pkA (.r rfl) rfl rfl (.r rfl)) rfl<|VO.l (LO.mv (.r rfl)) rfl<|VO.lg rfl rfl (GD.t _) (fun hg => LO.mv (.r rfl)) rfl<|VO.lg rfl rfl (GD.t _) (fun hg => LO.call (xs := [_,_]) (vs := [_,_]) C191 ⟨(.g hg rfl), (.r rfl), trivial⟩ (fun w _ => ContainsFunc_c _ w)) rfl<|VO.lg rfl rfl (GD.t _) (fun hg => LO.not (.g hg rfl)) rfl<|VO.l (LO.pkA (.r rfl) rfl rfl (.r rfl)) rfl<|VO.l (LO.as (.r rfl)) rfl<|VO.nil ?_)
  refine VE.seqN ?_
  refine VC.ret (VE.res (vs := [_]) rfl ⟨rfl, trivial⟩ (fun w hw => ?_))
  exact ⟨by simp only [resV]; rw [nameB_idx]; rfl, hw.nil⟩

set_option maxRecDepth 20000 in
theorem CheckSite_c (s : Site) (w : World) :
  Calls Tryz.prog 53 #[.agg (siteC s).toArray] w fun e w' => e = .returned (.int .i64 (siteE s)) ∧ St (bs w) [] w' := by
  refine enter (vs := [_]) (env := [(0,_)]) Tryz.func53 rfl rfl rfl rfl ?_
  refine VC.seq ?_
  refine VC.reg (VO.h rfl<|HO.box (C := #[_,_,_,_,_,_,_,_]) rfl rfl fun b1 => VO.l (LO.as (.r rfl)) rfl<|VO.nil ?_)
  refine VE.seqN ?_
  refine VC.seq ?_
  refine VC.block ?_
  refine VC.seq ?_
  refine VC.reg (VO.l (LO.fa (r := 0) F59_0 (.r rfl) rfl) rfl<|VO.l (LO.ld O9 (.r rfl) (fun _ hw => cells_at hw 0 rfl ⟨_, rfl⟩)) rfl<|VO.l (LO.call (xs := [_]) (vs := [_]) C118 ⟨(.r rfl), trivial⟩ (fun w _ => Name_c _ w)) rfl<|VO.l (LO.not (.r rfl)) rfl<|VO.l (LO.as (.r rfl)) rfl<|VO.nil ?_)
  refine VE.seqN ?_
  refine VC.cond rfl (fun hNm => ?_) (fun hNm => ?_)
  ·
    refine VC.seq ?_
    refine VC.reg (VO.l (LO.as (.r rfl)) rfl<|VO.nil ?_)
    refine VE.seqN ?_
    refine VC.ret (VE.inR (VE.thenR (VE.res (vs := [_]) rfl ⟨rfl, trivial⟩ (fun w hw => ?_))))
    refine ⟨?_, hw.nil⟩
    simp only [resV]
    first | (exfalso; omega) | rw [siteE1 hNm] | rw [siteE2 (nn hNm) (by unfold siteOk; omega)] | rw [siteE3 (nn hNm) (by unfold siteOk; omega)]
  ·
    refine VC.seq ?_
    refine VC.seq ?_
    refine VC.reg (VO.l (LO.fa (r := 1) F59_1 (.r rfl) rfl) rfl<|VO.l (LO.ld O3 (.r rfl) (fun _ hw => cells_at hw 0 rfl ⟨_, rfl⟩)) rfl<|VO.l (LO.call (xs := [_,_,_]) (vs := [_,_,_]) C119 ⟨(.r rfl), (.r rfl), (.r rfl), trivial⟩ (fun w _ => bwithin_c _ _ _ w)) rfl<|VO.l (LO.not (.r rfl)) rfl<|VO.l (LO.as (.r rfl)) rfl<|VO.nil ?_)
    refine VE.seqN ?_
    refine VC.cond rfl (fun h2 => ?_) (fun h2 => ?_)
    ·
      refine VC.skip (VE.seqN ?_)
      refine VC.cond rfl (fun h3 => ?_) (fun h3 => ?_)
      ·
        refine VC.seq ?_
        refine VC.reg (VO.l (LO.as (.r rfl)) rfl<|VO.nil ?_)
        refine VE.seqN ?_
        refine VC.ret (VE.inR (VE.thenR (VE.res (vs := [_]) rfl ⟨rfl, trivial⟩ (fun w hw => ?_))))
        refine ⟨?_, hw.nil⟩
        simp only [resV]
        first | (exfalso; omega) | rw [siteE1 hNm] | rw [siteE2 (nn hNm) (by unfold siteOk; omega)] | rw [siteE3 (nn hNm) (by unfold siteOk; omega)]
      ·
        refine VC.seq ?_
        refine VC.seq ?_
        refine VC.reg (VO.l (LO.fa (r := 4) F59_4 (.r rfl) rfl) rfl<|VO.l (LO.ld O3 (.r rfl) (fun _ hw => cells_at hw 0 rfl ⟨_, rfl⟩)) rfl<|VO.l (LO.call (xs := [_,_,_]) (vs := [_,_,_]) C119 ⟨(.r rfl), (.r rfl), (.r rfl), trivial⟩ (fun w _ => bwithin_c _ _ _ w)) rfl<|VO.l (LO.not (.r rfl)) rfl<|VO.l (LO.as (.r rfl)) rfl<|VO.nil ?_)
        refine VE.seqN ?_
        refine VC.cond rfl (fun h4 => ?_) (fun h4 => ?_)
        ·
          refine VC.skip (VE.seqN ?_)
          refine VC.cond rfl (fun h5 => ?_) (fun h5 => ?_)
          ·
            refine VC.seq ?_
            refine VC.reg (VO.l (LO.as (.r rfl)) rfl<|VO.nil ?_)
            refine VE.seqN ?_
            refine VC.ret (VE.inR (VE.thenR (VE.res (vs := [_]) rfl ⟨rfl, trivial⟩ (fun w hw => ?_))))
            refine ⟨?_, hw.nil⟩
            simp only [resV]
            first | (exfalso; omega) | rw [siteE1 hNm] | rw [siteE2 (nn hNm) (by unfold siteOk; omega)] | rw [siteE3 (nn hNm) (by unfold siteOk; omega)]
          ·
            refine VC.skip (VE.inN (VE.seqN ?_))
            refine VC.seq ?_
            refine VC.reg (VO.l (LO.as (.r rfl)) rfl<|VO.nil ?_)
            refine VE.seqN ?_
            refine VC.ret (VE.res (vs := [_]) rfl ⟨rfl, trivial⟩ (fun w hw => ?_))
            refine ⟨?_, hw.nil⟩
            simp only [resV]
            first | (exfalso; omega) | rw [siteE1 hNm] | rw [siteE2 (nn hNm) (by unfold siteOk; omega)] | rw [siteE3 (nn hNm) (by unfold siteOk; omega)]
        ·
          refine VC.seq ?_
          refine VC.reg (VO.l (LO.fa (r := 5) F59_5 (.r rfl) rfl) rfl<|VO.l (LO.ld O3 (.r rfl) (fun _ hw => cells_at hw 0 rfl ⟨_, rfl⟩)) rfl<|VO.l (LO.call (xs := [_,_,_]) (vs := [_,_,_]) C119 ⟨(.r rfl), (.r rfl), (.r rfl), trivial⟩ (fun w _ => bwithin_c _ _ _ w)) rfl<|VO.l (LO.not (.r rfl)) rfl<|VO.l (LO.as (.r rfl)) rfl<|VO.nil ?_)
          refine VE.seqN ?_
          refine VC.cond rfl (fun h6 => ?_) (fun h6 => ?_)
          ·
            refine VC.skip (VE.seqN ?_)
            refine VC.cond rfl (fun h7 => ?_) (fun h7 => ?_)
            ·
              refine VC.seq ?_
              refine VC.reg (VO.l (LO.as (.r rfl)) rfl<|VO.nil ?_)
              refine VE.seqN ?_
              refine VC.ret (VE.inR (VE.thenR (VE.res (vs := [_]) rfl ⟨rfl, trivial⟩ (fun w hw => ?_))))
              refine ⟨?_, hw.nil⟩
              simp only [resV]
              first | (exfalso; omega) | rw [siteE1 hNm] | rw [siteE2 (nn hNm) (by unfold siteOk; omega)] | rw [siteE3 (nn hNm) (by unfold siteOk; omega)]
            ·
              refine VC.skip (VE.inN (VE.seqN ?_))
              refine VC.seq ?_
              refine VC.reg (VO.l (LO.as (.r rfl)) rfl<|VO.nil ?_)
              refine VE.seqN ?_
              refine VC.ret (VE.res (vs := [_]) rfl ⟨rfl, trivial⟩ (fun w hw => ?_))
              refine ⟨?_, hw.nil⟩
              simp only [resV]
              first | (exfalso; omega) | rw [siteE1 hNm] | rw [siteE2 (nn hNm) (by unfold siteOk; omega)] | rw [siteE3 (nn hNm) (by unfold siteOk; omega)]
          ·
            refine VC.seq ?_
            refine VC.reg (VO.l (LO.fa (r := 6) F59_6 (.r rfl) rfl) rfl<|VO.l (LO.ld O3 (.r rfl) (fun _ hw => cells_at hw 0 rfl ⟨_, rfl⟩)) rfl<|VO.l (LO.call (xs := [_,_,_]) (vs := [_,_,_]) C119 ⟨(.r rfl), (.r rfl), (.r rfl), trivial⟩ (fun w _ => bwithin_c _ _ _ w)) rfl<|VO.l (LO.not (.r rfl)) rfl<|VO.l (LO.as (.r rfl)) rfl<|VO.nil ?_)
            refine VE.seqN ?_
            refine VC.cond rfl (fun h8 => ?_) (fun h8 => ?_)
            ·
              refine VC.skip (VE.seqN ?_)
              refine VC.cond rfl (fun h9 => ?_) (fun h9 => ?_)
              ·
                refine VC.seq ?_
                refine VC.reg (VO.l (LO.as (.r rfl)) rfl<|VO.nil ?_)
                refine VE.seqN ?_
                refine VC.ret (VE.inR (VE.thenR (VE.res (vs := [_]) rfl ⟨rfl, trivial⟩ (fun w hw => ?_))))
                refine ⟨?_, hw.nil⟩
                simp only [resV]
                first | (exfalso; omega) | rw [siteE1 hNm] | rw [siteE2 (nn hNm) (by unfold siteOk; omega)] | rw [siteE3 (nn hNm) (by unfold siteOk; omega)]
              ·
                refine VC.skip (VE.inN (VE.seqN ?_))
                refine VC.seq ?_
                refine VC.reg (VO.l (LO.as (.r rfl)) rfl<|VO.nil ?_)
                refine VE.seqN ?_
                refine VC.ret (VE.res (vs := [_]) rfl ⟨rfl, trivial⟩ (fun w hw => ?_))
                refine ⟨?_, hw.nil⟩
                simp only [resV]
                first | (exfalso; omega) | rw [siteE1 hNm] | rw [siteE2 (nn hNm) (by unfold siteOk; omega)] | rw [siteE3 (nn hNm) (by unfold siteOk; omega)]
            ·
              refine VC.reg (VO.l (LO.fa (r := 7) F59_7 (.r rfl) rfl) rfl<|VO.l (LO.ld O3 (.r rfl) (fun _ hw => cells_at hw 0 rfl ⟨_, rfl⟩)) rfl<|VO.l (LO.call (xs := [_,_,_]) (vs := [_,_,_]) C119 ⟨(.r rfl), (.r rfl), (.r rfl), trivial⟩ (fun w _ => bwithin_c _ _ _ w)) rfl<|VO.l (LO.not (.r rfl)) rfl<|VO.l (LO.as (.r rfl)) rfl<|VO.nil ?_)
              refine VE.seqN ?_
              refine VC.cond rfl (fun h10 => ?_) (fun h10 => ?_)
              ·
                refine VC.seq ?_
                refine VC.reg (VO.l (LO.as (.r rfl)) rfl<|VO.nil ?_)
                refine VE.seqN ?_
                refine VC.ret (VE.inR (VE.thenR (VE.res (vs := [_]) rfl ⟨rfl, trivial⟩ (fun w hw => ?_))))
                refine ⟨?_, hw.nil⟩
                simp only [resV]
                first | (exfalso; omega) | rw [siteE1 hNm] | rw [siteE2 (nn hNm) (by unfold siteOk; omega)] | rw [siteE3 (nn hNm) (by unfold siteOk; omega)]
              ·
                refine VC.skip (VE.inN (VE.seqN ?_))
                refine VC.seq ?_
                refine VC.reg (VO.l (LO.as (.r rfl)) rfl<|VO.nil ?_)
                refine VE.seqN ?_
                refine VC.ret (VE.res (vs := [_]) rfl ⟨rfl, trivial⟩ (fun w hw => ?_))
                refine ⟨?_, hw.nil⟩
                simp only [resV]
                first | (exfalso; omega) | rw [siteE1 hNm] | rw [siteE2 (nn hNm) (by unfold siteOk; omega)] | rw [siteE3 (nn hNm) (by unfold siteOk; omega)]
    ·
      refine VC.seq ?_
      refine VC.reg (VO.l (LO.fa (r := 2) F59_2 (.r rfl) rfl) rfl<|VO.l (LO.ld O3 (.r rfl) (fun _ hw => cells_at hw 0 rfl ⟨_, rfl⟩)) rfl<|VO.l (LO.call (xs := [_,_,_]) (vs := [_,_,_]) C119 ⟨(.r rfl), (.r rfl), (.r rfl), trivial⟩ (fun w _ => bwithin_c _ _ _ w)) rfl<|VO.l (LO.not (.r rfl)) rfl<|VO.l (LO.as (.r rfl)) rfl<|VO.nil ?_)
      refine VE.seqN ?_
      refine VC.cond rfl (fun h11 => ?_) (fun h11 => ?_)
      ·
        refine VC.skip (VE.seqN ?_)
        refine VC.cond rfl (fun h12 => ?_) (fun h12 => ?_)
        ·
          refine VC.seq ?_
          refine VC.reg (VO.l (LO.as (.r rfl)) rfl<|VO.nil ?_)
          refine VE.seqN ?_
          refine VC.ret (VE.inR (VE.thenR (VE.res (vs := [_]) rfl ⟨rfl, trivial⟩ (fun w hw => ?_))))
          refine ⟨?_, hw.nil⟩
          simp only [resV]
          first | (exfalso; omega) | rw [siteE1 hNm] | rw [siteE2 (nn hNm) (by unfold siteOk; omega)] | rw [siteE3 (nn hNm) (by unfold siteOk; omega)]
        ·
          refine VC.seq ?_
          refine VC.seq ?_
          refine VC.reg (VO.l (LO.fa (r := 4) F59_4 (.r rfl) rfl) rfl<|VO.l (LO.ld O3 (.r rfl) (fun _ hw => cells_at hw 0 rfl ⟨_, rfl⟩)) rfl<|VO.l (LO.call (xs := [_,_,_]) (vs := [_,_,_]) C119 ⟨(.r rfl), (.r rfl), (.r rfl), trivial⟩ (fun w _ => bwithin_c _ _ _ w)) rfl<|VO.l (LO.not (.r rfl)) rfl<|VO.l (LO.as (.r rfl)) rfl<|VO.nil ?_)
          refine VE.seqN ?_
          refine VC.cond rfl (fun h13 => ?_) (fun h13 => ?_)
          ·
            refine VC.skip (VE.seqN ?_)
            refine VC.cond rfl (fun h14 => ?_) (fun h14 => ?_)
            ·
              refine VC.seq ?_
              refine VC.reg (VO.l (LO.as (.r rfl)) rfl<|VO.nil ?_)
              refine VE.seqN ?_
              refine VC.ret (VE.inR (VE.thenR (VE.res (vs := [_]) rfl ⟨rfl, trivial⟩ (fun w hw => ?_))))
              refine ⟨?_, hw.nil⟩
              simp only [resV]
              first | (exfalso; omega) | rw [siteE1 hNm] | rw [siteE2 (nn hNm) (by unfold siteOk; omega)] | rw [siteE3 (nn hNm) (by unfold siteOk; omega)]
            ·
              refine VC.skip (VE.inN (VE.seqN ?_))
              refine VC.seq ?_
              refine VC.reg (VO.l (LO.as (.r rfl)) rfl<|VO.nil ?_)
              refine VE.seqN ?_
              refine VC.ret (VE.res (vs := [_]) rfl ⟨rfl, trivial⟩ (fun w hw => ?_))
              refine ⟨?_, hw.nil⟩
              simp only [resV]
              first | (exfalso; omega) | rw [siteE1 hNm] | rw [siteE2 (nn hNm) (by unfold siteOk; omega)] | rw [siteE3 (nn hNm) (by unfold siteOk; omega)]
          ·
            refine VC.seq ?_
            refine VC.reg (VO.l (LO.fa (r := 5) F59_5 (.r rfl) rfl) rfl<|VO.l (LO.ld O3 (.r rfl) (fun _ hw => cells_at hw 0 rfl ⟨_, rfl⟩)) rfl<|VO.l (LO.call (xs := [_,_,_]) (vs := [_,_,_]) C119 ⟨(.r rfl), (.r rfl), (.r rfl), trivial⟩ (fun w _ => bwithin_c _ _ _ w)) rfl<|VO.l (LO.not (.r rfl)) rfl<|VO.l (LO.as (.r rfl)) rfl<|VO.nil ?_)
            refine VE.seqN ?_
            refine VC.cond rfl (fun h15 => ?_) (fun h15 => ?_)
            ·
              refine VC.skip (VE.seqN ?_)
              refine VC.cond rfl (fun h16 => ?_) (fun h16 => ?_)
              ·
                refine VC.seq ?_
                refine VC.reg (VO.l (LO.as (.r rfl)) rfl<|VO.nil ?_)
                refine VE.seqN ?_
                refine VC.ret (VE.inR (VE.thenR (VE.res (vs := [_]) rfl ⟨rfl, trivial⟩ (fun w hw => ?_))))
                refine ⟨?_, hw.nil⟩
                simp only [resV]
                first | (exfalso; omega) | rw [siteE1 hNm] | rw [siteE2 (nn hNm) (by unfold siteOk; omega)] | rw [siteE3 (nn hNm) (by unfold siteOk; omega)]
              ·
                refine VC.skip (VE.inN (VE.seqN ?_))
                refine VC.seq ?_
                refine VC.reg (VO.l (LO.as (.r rfl)) rfl<|VO.nil ?_)
                refine VE.seqN ?_
                refine VC.ret (VE.res (vs := [_]) rfl ⟨rfl, trivial⟩ (fun w hw => ?_))
                refine ⟨?_, hw.nil⟩
                simp only [resV]
                first | (exfalso; omega) | rw [siteE1 hNm] | rw [siteE2 (nn hNm) (by unfold siteOk; omega)] | rw [siteE3 (nn hNm) (by unfold siteOk; omega)]
            ·
              refine VC.seq ?_
              refine VC.reg (VO.l (LO.fa (r := 6) F59_6 (.r rfl) rfl) rfl<|VO.l (LO.ld O3 (.r rfl) (fun _ hw => cells_at hw 0 rfl ⟨_, rfl⟩)) rfl<|VO.l (LO.call (xs := [_,_,_]) (vs := [_,_,_]) C119 ⟨(.r rfl), (.r rfl), (.r rfl), trivial⟩ (fun w _ => bwithin_c _ _ _ w)) rfl<|VO.l (LO.not (.r rfl)) rfl<|VO.l (LO.as (.r rfl)) rfl<|VO.nil ?_)
              refine VE.seqN ?_
              refine VC.cond rfl (fun h17 => ?_) (fun h17 => ?_)
              ·
                refine VC.skip (VE.seqN ?_)
                refine VC.cond rfl (fun h18 => ?_) (fun h18 => ?_)
                ·
                  refine VC.seq ?_
                  refine VC.reg (VO.l (LO.as (.r rfl)) rfl<|VO.nil ?_)
                  refine VE.seqN ?_
                  refine VC.ret (VE.inR (VE.thenR (VE.res (vs := [_]) rfl ⟨rfl, trivial⟩ (fun w hw => ?_))))
                  refine ⟨?_, hw.nil⟩
                  simp only [resV]
                  first | (exfalso; omega) | rw [siteE1 hNm] | rw [siteE2 (nn hNm) (by unfold siteOk; omega)] | rw [siteE3 (nn hNm) (by unfold siteOk; omega)]
                ·
                  refine VC.skip (VE.inN (VE.seqN ?_))
                  refine VC.seq ?_
                  refine VC.reg (VO.l (LO.as (.r rfl)) rfl<|VO.nil ?_)
                  refine VE.seqN ?_
                  refine VC.ret (VE.res (vs := [_]) rfl ⟨rfl, trivial⟩ (fun w hw => ?_))
                  refine ⟨?_, hw.nil⟩
                  simp only [resV]
                  first | (exfalso; omega) | rw [siteE1 hNm] | rw [siteE2 (nn hNm) (by unfold siteOk; omega)] | rw [siteE3 (nn hNm) (by unfold siteOk; omega)]
              ·
                refine VC.reg (VO.l (LO.fa (r := 7) F59_7 (.r rfl) rfl) rfl<|VO.l (LO.ld O3 (.r rfl) (fun _ hw => cells_at hw 0 rfl ⟨_, rfl⟩)) rfl<|VO.l (LO.call (xs := [_,_,_]) (vs := [_,_,_]) C119 ⟨(.r rfl), (.r rfl), (.r rfl), trivial⟩ (fun w _ => bwithin_c _ _ _ w)) rfl<|VO.l (LO.not (.r rfl)) rfl<|VO.l (LO.as (.r rfl)) rfl<|VO.nil ?_)
                refine VE.seqN ?_
                refine VC.cond rfl (fun h19 => ?_) (fun h19 => ?_)
                ·
                  refine VC.seq ?_
                  refine VC.reg (VO.l (LO.as (.r rfl)) rfl<|VO.nil ?_)
                  refine VE.seqN ?_
                  refine VC.ret (VE.inR (VE.thenR (VE.res (vs := [_]) rfl ⟨rfl, trivial⟩ (fun w hw => ?_))))
                  refine ⟨?_, hw.nil⟩
                  simp only [resV]
                  first | (exfalso; omega) | rw [siteE1 hNm] | rw [siteE2 (nn hNm) (by unfold siteOk; omega)] | rw [siteE3 (nn hNm) (by unfold siteOk; omega)]
                ·
                  refine VC.skip (VE.inN (VE.seqN ?_))
                  refine VC.seq ?_
                  refine VC.reg (VO.l (LO.as (.r rfl)) rfl<|VO.nil ?_)
                  refine VE.seqN ?_
                  refine VC.ret (VE.res (vs := [_]) rfl ⟨rfl, trivial⟩ (fun w hw => ?_))
                  refine ⟨?_, hw.nil⟩
                  simp only [resV]
                  first | (exfalso; omega) | rw [siteE1 hNm] | rw [siteE2 (nn hNm) (by unfold siteOk; omega)] | rw [siteE3 (nn hNm) (by unfold siteOk; omega)]
      ·
        refine VC.reg (VO.l (LO.fa (r := 3) F59_3 (.r rfl) rfl) rfl<|VO.l (LO.ld O3 (.r rfl) (fun _ hw => cells_at hw 0 rfl ⟨_, rfl⟩)) rfl<|VO.l (LO.call (xs := [_,_,_]) (vs := [_,_,_]) C119 ⟨(.r rfl), (.r rfl), (.r rfl), trivial⟩ (fun w _ => bwithin_c _ _ _ w)) rfl<|VO.l (LO.not (.r rfl)) rfl<|VO.l (LO.as (.r rfl)) rfl<|VO.nil ?_)
        refine VE.seqN ?_
        refine VC.cond rfl (fun h20 => ?_) (fun h20 => ?_)
        ·
          refine VC.seq ?_
          refine VC.reg (VO.l (LO.as (.r rfl)) rfl<|VO.nil ?_)
          refine VE.seqN ?_
          refine VC.ret (VE.inR (VE.thenR (VE.res (vs := [_]) rfl ⟨rfl, trivial⟩ (fun w hw => ?_))))
          refine ⟨?_, hw.nil⟩
          simp only [resV]
          first | (exfalso; omega) | rw [siteE1 hNm] | rw [siteE2 (nn hNm) (by unfold siteOk; omega)] | rw [siteE3 (nn hNm) (by unfold siteOk; omega)]
        ·
          refine VC.seq ?_
          refine VC.seq ?_
          refine VC.reg (VO.l (LO.fa (r := 4) F59_4 (.r rfl) rfl) rfl<|VO.l (LO.ld O3 (.r rfl) (fun _ hw => cells_at hw 0 rfl ⟨_, rfl⟩)) rfl<|VO.l (LO.call (xs := [_,_,_]) (vs := [_,_,_]) C119 ⟨(.r rfl), (.r rfl), (.r rfl), trivial⟩ (fun w _ => bwithin_c _ _ _ w)) rfl<|VO.l (LO.not (.r rfl)) rfl<|VO.l (LO.as (.r rfl)) rfl<|VO.nil ?_)
          refine VE.seqN ?_
          refine VC.cond rfl (fun h21 => ?_) (fun h21 => ?_)
          ·
            refine VC.skip (VE.seqN ?_)
            refine VC.cond rfl (fun h22 => ?_) (fun h22 => ?_)
            ·
              refine VC.seq ?_
              refine VC.reg (VO.l (LO.as (.r rfl)) rfl<|VO.nil ?_)
              refine VE.seqN ?_
              refine VC.ret (VE.inR (VE.thenR (VE.res (vs := [_]) rfl ⟨rfl, trivial⟩ (fun w hw => ?_))))
              refine ⟨?_, hw.nil⟩
              simp only [resV]
              first | (exfalso; omega) | rw [siteE1 hNm] | rw [siteE2 (nn hNm) (by unfold siteOk; omega)] | rw [siteE3 (nn hNm) (by unfold siteOk; omega)]
            ·
              refine VC.skip (VE.inN (VE.seqN ?_))
              refine VC.seq ?_
              refine VC.reg (VO.l (LO.as (.r rfl)) rfl<|VO.nil ?_)
              refine VE.seqN ?_
              refine VC.ret (VE.res (vs := [_]) rfl ⟨rfl, trivial⟩ (fun w hw => ?_))
              refine ⟨?_, hw.nil⟩
              simp only [resV]
              first | (exfalso; omega) | rw [siteE1 hNm] | rw [siteE2 (nn hNm) (by unfold siteOk; omega)] | rw [siteE3 (nn hNm) (by unfold siteOk; omega)]
          ·
            refine VC.seq ?_
            refine VC.reg (VO.l (LO.fa (r := 5) F59_5 (.r rfl) rfl) rfl<|VO.l (LO.ld O3 (.r rfl) (fun _ hw => cells_at hw 0 rfl ⟨_, rfl⟩)) rfl<|VO.l (LO.call (xs := [_,_,_]) (vs := [_,_,_]) C119 ⟨(.r rfl), (.r rfl), (.r rfl), trivial⟩ (fun w _ => bwithin_c _ _ _ w)) rfl<|VO.l (LO.not (.r rfl)) rfl<|VO.l (LO.as (.r rfl)) rfl<|VO.nil ?_)
            refine VE.seqN ?_
            refine VC.cond rfl (fun h23 => ?_) (fun h23 => ?_)
            ·
              refine VC.skip (VE.seqN ?_)
              refine VC.cond rfl (fun h24 => ?_) (fun h24 => ?_)
              ·
                refine VC.seq ?_
                refine VC.reg (VO.l (LO.as (.r rfl)) rfl<|VO.nil ?_)
                refine VE.seqN ?_
                refine VC.ret (VE.inR (VE.thenR (VE.res (vs := [_]) rfl ⟨rfl, trivial⟩ (fun w hw => ?_))))
                refine ⟨?_, hw.nil⟩
                simp only [resV]
                first | (exfalso; omega) | rw [siteE1 hNm] | rw [siteE2 (nn hNm) (by unfold siteOk; omega)] | rw [siteE3 (nn hNm) (by unfold siteOk; omega)]
              ·
                refine VC.skip (VE.inN (VE.seqN ?_))
                refine VC.seq ?_
                refine VC.reg (VO.l (LO.as (.r rfl)) rfl<|VO.nil ?_)
                refine VE.seqN ?_
                refine VC.ret (VE.res (vs := [_]) rfl ⟨rfl, trivial⟩ (fun w hw => ?_))
                refine ⟨?_, hw.nil⟩
                simp only [resV]
                first | (exfalso; omega) | rw [siteE1 hNm] | rw [siteE2 (nn hNm) (by unfold siteOk; omega)] | rw [siteE3 (nn hNm) (by unfold siteOk; omega)]
            ·
              refine VC.seq ?_
              refine VC.reg (VO.l (LO.fa (r := 6) F59_6 (.r rfl) rfl) rfl<|VO.l (LO.ld O3 (.r rfl) (fun _ hw => cells_at hw 0 rfl ⟨_, rfl⟩)) rfl<|VO.l (LO.call (xs := [_,_,_]) (vs := [_,_,_]) C119 ⟨(.r rfl), (.r rfl), (.r rfl), trivial⟩ (fun w _ => bwithin_c _ _ _ w)) rfl<|VO.l (LO.not (.r rfl)) rfl<|VO.l (LO.as (.r rfl)) rfl<|VO.nil ?_)
              refine VE.seqN ?_
              refine VC.cond rfl (fun h25 => ?_) (fun h25 => ?_)
              ·
                refine VC.skip (VE.seqN ?_)
                refine VC.cond rfl (fun h26 => ?_) (fun h26 => ?_)
                ·
                  refine VC.seq ?_
                  refine VC.reg (VO.l (LO.as (.r rfl)) rfl<|VO.nil ?_)
                  refine VE.seqN ?_
                  refine VC.ret (VE.inR (VE.thenR (VE.res (vs := [_]) rfl ⟨rfl, trivial⟩ (fun w hw => ?_))))
                  refine ⟨?_, hw.nil⟩
                  simp only [resV]
                  first | (exfalso; omega) | rw [siteE1 hNm] | rw [siteE2 (nn hNm) (by unfold siteOk; omega)] | rw [siteE3 (nn hNm) (by unfold siteOk; omega)]
                ·
                  refine VC.skip (VE.inN (VE.seqN ?_))
                  refine VC.seq ?_
                  refine VC.reg (VO.l (LO.as (.r rfl)) rfl<|VO.nil ?_)
                  refine VE.seqN ?_
                  refine VC.ret (VE.res (vs := [_]) rfl ⟨rfl, trivial⟩ (fun w hw => ?_))
                  refine ⟨?_, hw.nil⟩
                  simp only [resV]
                  first | (exfalso; omega) | rw [siteE1 hNm] | rw [siteE2 (nn hNm) (by unfold siteOk; omega)] | rw [siteE3 (nn hNm) (by unfold siteOk; omega)]
              ·
                refine VC.reg (VO.l (LO.fa (r := 7) F59_7 (.r rfl) rfl) rfl<|VO.l (LO.ld O3 (.r rfl) (fun _ hw => cells_at hw 0 rfl ⟨_, rfl⟩)) rfl<|VO.l (LO.call (xs := [_,_,_]) (vs := [_,_,_]) C119 ⟨(.r rfl), (.r rfl), (.r rfl), trivial⟩ (fun w _ => bwithin_c _ _ _ w)) rfl<|VO.l (LO.not (.r rfl)) rfl<|VO.l (LO.as (.r rfl)) rfl<|VO.nil ?_)
                refine VE.seqN ?_
                refine VC.cond rfl (fun h27 => ?_) (fun h27 => ?_)
                ·
                  refine VC.seq ?_
                  refine VC.reg (VO.l (LO.as (.r rfl)) rfl<|VO.nil ?_)
                  refine VE.seqN ?_
                  refine VC.ret (VE.inR (VE.thenR (VE.res (vs := [_]) rfl ⟨rfl, trivial⟩ (fun w hw => ?_))))
                  refine ⟨?_, hw.nil⟩
                  simp only [resV]
                  first | (exfalso; omega) | rw [siteE1 hNm] | rw [siteE2 (nn hNm) (by unfold siteOk; omega)] | rw [siteE3 (nn hNm) (by unfold siteOk; omega)]
                ·
                  refine VC.skip (VE.inN (VE.seqN ?_))
                  refine VC.seq ?_
                  refine VC.reg (VO.l (LO.as (.r rfl)) rfl<|VO.nil ?_)
                  refine VE.seqN ?_
                  refine VC.ret (VE.res (vs := [_]) rfl ⟨rfl, trivial⟩ (fun w hw => ?_))
                  refine ⟨?_, hw.nil⟩
                  simp only [resV]
                  first | (exfalso; omega) | rw [siteE1 hNm] | rw [siteE2 (nn hNm) (by unfold siteOk; omega)] | rw [siteE3 (nn hNm) (by unfold siteOk; omega)]

end Go.Proofs.YtffbohecdocajaaGreat

namespace Go.Proofs.YtffbohecdocajaaGreat
open Go.SL Go.Proofs Go.Pulse
set_option linter.unusedVariables false

theorem A59 : IsAgg Tryz.prog 59 8 := ⟨⟨_, Tryz.underlying59, rfl⟩, by kernel_rfl⟩
theorem C53 : IsFn Tryz.prog 53 := ⟨_, Tryz.func53, by decide, rfl⟩
section

end

end Go.Proofs.YtffbohecdocajaaGreat

namespace Go.Proofs.YtffbohecdocajaaGreat
open Go.SL Go.Proofs Go.Pulse
set_option linter.unusedVariables false

theorem C172 : IsFn Tryz.prog 172 := ⟨_, Tryz.func172, by decide, rfl⟩
theorem C173 : IsFn Tryz.prog 173 := ⟨_, Tryz.func173, by decide, rfl⟩
theorem C104 : IsFn Tryz.prog 104 := ⟨_, Tryz.func104, by decide, rfl⟩
theorem C103 : IsFn Tryz.prog 103 := ⟨_, Tryz.func103, by decide, rfl⟩
theorem C215 : IsFn Tryz.prog 215 := ⟨_, Tryz.func215, by decide, rfl⟩
theorem C214 : IsFn Tryz.prog 214 := ⟨_, Tryz.func214, by decide, rfl⟩


theorem _root_.Go.SL.LO.eqv {P : Program} {β : Bs} {env : Env} {L : List Res} {o : Oper} {v v' : Value} (h : LO P β env L o v) (e : v = v') : LO P β env L o v' := e ▸ h
section
variable {P : Program} {β : Bs} {env : Env} {L : List Res} {d : Option Nat} {ty : TypeId} {pos : String} {aft : Array Edge} {g : Option (Nat × Bool)}
theorem LO.ltS {xT yT : Nat} {x y : Operand} {s t : ByteArray} (hx : OV env x (.string s)) (hy : OV env y (.string t)) : LO P β env L ⟨d, .binOp .lss xT x y yT, ty, pos, aft, g⟩ (.bool (Op.bytesLess s.toList t.toList)) :=
  .of_run fun a w h hw => ⟨w, by simp [execOp, h x (by simp [Op.operands]) _ hx, h y (by simp [Op.operands]) _ hy, eqGuard, binOp, Op.stringOp], hw⟩
theorem LO.gtS {xT yT : Nat} {x y : Operand} {s t : ByteArray} (hx : OV env x (.string s)) (hy : OV env y (.string t)) : LO P β env L ⟨d, .binOp .gtr xT x y yT, ty, pos, aft, g⟩ (.bool (!(Op.bytesLess s.toList t.toList || s.toList == t.toList))) :=
  .of_run fun a w h hw => ⟨w, by simp [execOp, h x (by simp [Op.operands]) _ hx, h y (by simp [Op.operands]) _ hy, eqGuard, binOp, Op.stringOp], hw⟩
end
/-- The names of the radars. -/
def nmT : Fin 3 → ByteArray
  | 0 => ⟨#[97]⟩
  | 1 => ⟨#[98]⟩
  | 2 => ⟨#[99]⟩
theorem nmT_lt (r q : Fin 3) : Op.bytesLess (nmT r).toList (nmT q).toList = decide (r < q) := by revert r q; decide +kernel
theorem nmT_eq (r q : Fin 3) : ((nmT r).toList == (nmT q).toList) = decide (r = q) := by revert r q; decide +kernel
abbrev i64C (n : Int) : List Value := [.int .i64 n]
abbrev fI (r : Fin 3) : Int := (r.val : Int)
theorem or_step {l : List Int} {i : Nat} (hi : i < l.length) (h : orI l = orI (l.drop i)) (h0 : l.getD i 0 = 0) : orI l = orI (l.drop (i + 1)) := by
  rw [h, List.drop_eq_getElem_cons hi]
  have e : l[i] = 0 := by rw [List.getD_eq_getElem?_getD, List.getElem?_eq_getElem hi] at h0; exact h0
  show (if l[i] ≠ 0 then l[i] else _) = _
  rw [if_neg (fun q => q e)]
theorem or_hit {l : List Int} {i : Nat} (hi : i < l.length) (h : orI l = orI (l.drop i)) (h0 : ¬ l.getD i 0 = 0) : l.getD i 0 = orI l := by
  rw [h, List.drop_eq_getElem_cons hi]
  have e : l[i] = l.getD i 0 := by rw [List.getD_eq_getElem?_getD, List.getElem?_eq_getElem hi]; rfl
  show _ = (if l[i] ≠ 0 then l[i] else _)
  rw [e, if_pos h0]
theorem or_end {l : List Int} {i : Nat} (hi : l.length ≤ i) (h : orI l = orI (l.drop i)) : 0 = orI l := by rw [h, List.drop_of_length_le hi]; rfl
theorem cv_step {a b : List Span} {i : Nat} (ha : i < a.length) (hb : i < b.length) (h : cmpV a b = cmpV (a.drop i) (b.drop i)) : cmpV a b = if cmpSp (a.getD i zs) (b.getD i zs) ≠ 0 then cmpSp (a.getD i zs) (b.getD i zs) else cmpV (a.drop (i + 1)) (b.drop (i + 1)) := by
  rw [h, List.drop_eq_getElem_cons ha, List.drop_eq_getElem_cons hb, cmpV, List.getD_eq_getElem?_getD, List.getElem?_eq_getElem ha, List.getD_eq_getElem?_getD, List.getElem?_eq_getElem hb]; rfl
theorem cv_1 {a b : List Span} {i : Nat} (ha : i < a.length) (hb : b.length ≤ i) (h : cmpV a b = cmpV (a.drop i) (b.drop i)) : 1 = cmpV a b := by
  rw [h, List.drop_eq_getElem_cons ha, List.drop_of_length_le hb]; rfl
theorem cv_m {a b : List Span} {i : Nat} (ha : a.length ≤ i) (hb : i < b.length) (h : cmpV a b = cmpV (a.drop i) (b.drop i)) : -1 = cmpV a b := by
  rw [h, List.drop_of_length_le ha, List.drop_eq_getElem_cons hb]; rfl
theorem cv_0 {a b : List Span} {i : Nat} (ha : a.length ≤ i) (hb : b.length ≤ i) (h : cmpV a b = cmpV (a.drop i) (b.drop i)) : 0 = cmpV a b := by
  rw [h, List.drop_of_length_le ha, List.drop_of_length_le hb]; rfl
/-- Values of a message, as they lie. -/
structure VY where
  v : List Span
  p : Option Addr
  c : Nat
def zVY : VY := ⟨[], none, 0⟩
abbrev vC (y : VY) : List Value := [.slice y.p y.v.length y.c]
abbrev vOwn (y : VY) : Res := own 25 2 y.p y.c (y.v.map spanC)
theorem wu {m : Int} (h0 : 0 ≤ m) (h1 : m < 1000000000) : IntKind.u64.wrap m = m := by simp [IntKind.wrap, IntKind.bits, IntKind.signed]; omega
theorem half_n (i j : Nat) : ((i : Int) + (j : Int)).fdiv (2 ^ (Min.min (1 : Int).toNat 64)) = (((i + j) / 2 : Nat) : Int) := by
  rw [show (2 : Int) ^ (Min.min (1 : Int).toNat 64) = 2 by decide, Int.fdiv_eq_ediv_of_nonneg _ (by decide), ← Int.natCast_add]; rfl
theorem RO_none4 {α : Type} {z : Nat} {f : α → List Value} {w : World} {p : Option Addr} {l : List α} (h : RO z f w p l) (hp : p.isNone = true) : l = [] := by
  have := Go.SL.Rows.nil h (by cases p; rfl; cases hp)
  simpa using this
abbrev vls (l : List VY) : List (List Span) := l.map (·.v)
theorem vls_at {l : List VY} {i : Nat} (hi : i < l.length) : (vls l)[i]'(by rw [List.length_map]; exact hi) = (l.getD i zVY).v := by
  rw [List.getElem_map, List.getD_eq_getElem?_getD, List.getElem?_eq_getElem hi]; rfl
theorem ps_lt {l : List VY} {v : List Span} {i : Nat} (hs : SrtV (vls l)) (hi : i < l.length) : cmpV (l.getD i zVY).v v < 0 ↔ i < posV (vls l) v := by
  rw [← vls_at hi]
  exact posV_lt (by rw [List.length_map]; exact hi) hs
theorem ps_le {l : List VY} {v : List Span} : posV (vls l) v ≤ l.length := by have := posV_le (l := vls l) (v := v); rwa [List.length_map] at this
theorem ps_has {l : List VY} {v : List Span} (hs : SrtV (vls l)) : v ∈ vls l ↔ (posV (vls l) v < l.length ∧ cmpV (l.getD (posV (vls l) v) zVY).v v = 0) := by
  rw [posV_has hs]
  constructor
  · rintro ⟨h, e⟩
    have h2 : posV (vls l) v < l.length := by rwa [List.length_map] at h
    refine ⟨h2, cmpV_0.2 ?_⟩
    rw [← vls_at h2]; exact e
  · rintro ⟨h, e⟩
    exact ⟨by rw [List.length_map]; exact h, by rw [vls_at h]; exact cmpV_0.1 e⟩

set_option maxRecDepth 20000 in
theorem nanI_c (x : Int) (w : World) :
  Calls Tryz.prog 172 #[.int .i64 x] w fun e w' => e = .returned (.bool false) ∧ St (bs w) [] w' := by
  refine enter (vs := [_]) (env := [(0,_)]) Tryz.func172 rfl rfl rfl rfl ?_
  refine VC.seq ?_
  refine VC.reg (VO.l (LO.as (.r rfl)) rfl<|VO.nil ?_)
  refine VE.seqN ?_
  refine VC.seq ?_
  refine VC.reg (VO.l (LO.mv (.r rfl)) rfl<|VO.l (LO.mv (.r rfl)) rfl<|VO.l (LO.ne (.r rfl) (.r rfl)) rfl<|VO.l (LO.as (.r rfl)) rfl<|VO.nil ?_)
  refine VE.seqN ?_
  refine VC.ret (VE.res (vs := [_]) rfl ⟨rfl, trivial⟩ (fun w hw => ?_))
  exact ⟨by simp [resV], hw.nil⟩

set_option maxRecDepth 20000 in
theorem nanS_c (s : ByteArray) (w : World) :
  Calls Tryz.prog 173 #[.string s] w fun e w' => e = .returned (.bool false) ∧ St (bs w) [] w' := by
  refine enter (vs := [_]) (env := [(0,_)]) Tryz.func173 rfl rfl rfl rfl ?_
  refine VC.seq ?_
  refine VC.reg (VO.l (LO.as (.r rfl)) rfl<|VO.nil ?_)
  refine VE.seqN ?_
  refine VC.seq ?_
  refine VC.reg (VO.l (LO.mv (.r rfl)) rfl<|VO.l (LO.mv (.r rfl)) rfl<|VO.l (LO.neS (.r rfl) (.r rfl)) rfl<|VO.l (LO.as (.r rfl)) rfl<|VO.nil ?_)
  refine VE.seqN ?_
  refine VC.ret (VE.res (vs := [_]) rfl ⟨rfl, trivial⟩ (fun w hw => ?_))
  exact ⟨by simp [resV], hw.nil⟩

set_option maxRecDepth 20000 in
theorem cmpI_c (x y : Int) (w : World) :
  Calls Tryz.prog 104 #[.int .i64 x, .int .i64 y] w fun e w' => e = .returned (.int .i64 (cmpI x y)) ∧ St (bs w) [] w' := by
  refine enter (vs := [_,_]) (env := [(0,_), (1,_)]) Tryz.func104 rfl rfl rfl rfl ?_
  refine VC.seq ?_
  refine VC.reg (VO.l (LO.as (.r rfl)) rfl<|VO.nil ?_)
  refine VE.seqN ?_
  refine VC.seq ?_
  refine VC.reg (VO.l (LO.mv (.r rfl)) rfl<|VO.l (LO.call (xs := [_]) (vs := [_]) C172 ⟨(.r rfl), trivial⟩ (fun w _ => nanI_c _ w)) rfl<|VO.l (LO.as (.r rfl)) rfl<|VO.nil ?_)
  refine VE.seqN ?_
  refine VC.seq ?_
  refine VC.reg (VO.l (LO.mv (.r rfl)) rfl<|VO.l (LO.call (xs := [_]) (vs := [_]) C172 ⟨(.r rfl), trivial⟩ (fun w _ => nanI_c _ w)) rfl<|VO.l (LO.as (.r rfl)) rfl<|VO.nil ?_)
  refine VE.seqN ?_
  refine VC.seq ?_
  refine VC.seq ?_
  refine VC.reg (VO.l (LO.mv (.r rfl)) rfl<|VO.nil ?_)
  refine VE.seqN ?_
  refine VC.cond rfl (fun h11 => ?_) (fun h11 => ?_)
  ·
    (exfalso; (simp at h11))
  ·
    refine VC.skip (VE.seqN ?_)
    refine VC.seq ?_
    refine VC.seq ?_
    refine VC.reg (VO.l (LO.mv (.r rfl)) rfl<|VO.nil ?_)
    refine VE.seqN ?_
    refine VC.cond rfl (fun h13 => ?_) (fun h13 => ?_)
    ·
      (exfalso; (simp at h13))
    ·
      refine VC.skip (VE.seqN ?_)
      refine VC.seq ?_
      refine VC.seq ?_
      refine VC.reg (VO.l (LO.mv (.r rfl)) rfl<|VO.l (LO.mv (.r rfl)) rfl<|VO.l (LO.lt (.r rfl) (.r rfl)) rfl<|VO.nil ?_)
      refine VE.seqN ?_
      refine VC.cond rfl (fun h16 => ?_) (fun h16 => ?_)
      ·
        refine VC.seq ?_
        refine VC.reg (VO.l (LO.as (.r rfl)) rfl<|VO.nil ?_)
        refine VE.seqN ?_
        refine VC.ret (VE.thenR (VE.res (vs := [_]) rfl ⟨rfl, trivial⟩ (fun w hw => ?_)))
        refine ⟨?_, hw.nil⟩
        unfold cmpI
        first | (rw [if_pos h16]; rfl) | (rw [if_neg h16, if_pos h19]; rfl) | (rw [if_neg h16, if_neg h19]; rfl)
      ·
        refine VC.skip (VE.seqN ?_)
        refine VC.seq ?_
        refine VC.seq ?_
        refine VC.reg (VO.l (LO.mv (.r rfl)) rfl<|VO.l (LO.mv (.r rfl)) rfl<|VO.l (LO.gt (.r rfl) (.r rfl)) rfl<|VO.nil ?_)
        refine VE.seqN ?_
        refine VC.cond rfl (fun h19 => ?_) (fun h19 => ?_)
        ·
          refine VC.seq ?_
          refine VC.reg (VO.l (LO.as (.r rfl)) rfl<|VO.nil ?_)
          refine VE.seqN ?_
          refine VC.ret (VE.thenR (VE.res (vs := [_]) rfl ⟨rfl, trivial⟩ (fun w hw => ?_)))
          refine ⟨?_, hw.nil⟩
          unfold cmpI
          first | (rw [if_pos h16]; rfl) | (rw [if_neg h16, if_pos h19]; rfl) | (rw [if_neg h16, if_neg h19]; rfl)
        ·
          refine VC.skip (VE.seqN ?_)
          refine VC.seq ?_
          refine VC.reg (VO.l (LO.as (.r rfl)) rfl<|VO.nil ?_)
          refine VE.seqN ?_
          refine VC.ret (VE.res (vs := [_]) rfl ⟨rfl, trivial⟩ (fun w hw => ?_))
          refine ⟨?_, hw.nil⟩
          unfold cmpI
          first | (rw [if_pos h16]; rfl) | (rw [if_neg h16, if_pos h19]; rfl) | (rw [if_neg h16, if_neg h19]; rfl)

set_option maxRecDepth 20000 in
theorem cmpS_c (r q : Fin 3) (w : World) :
  Calls Tryz.prog 105 #[.string (nmT r), .string (nmT q)] w fun e w' => e = .returned (.int .i64 (cmpI (fI r) (fI q))) ∧ St (bs w) [] w' := by
  refine enter (vs := [_,_]) (env := [(0,_), (1,_)]) Tryz.func105 rfl rfl rfl rfl ?_
  refine VC.seq ?_
  refine VC.reg (VO.l (LO.as (.r rfl)) rfl<|VO.nil ?_)
  refine VE.seqN ?_
  refine VC.seq ?_
  refine VC.reg (VO.l (LO.mv (.r rfl)) rfl<|VO.l (LO.call (xs := [_]) (vs := [_]) C173 ⟨(.r rfl), trivial⟩ (fun w _ => nanS_c _ w)) rfl<|VO.l (LO.as (.r rfl)) rfl<|VO.nil ?_)
  refine VE.seqN ?_
  refine VC.seq ?_
  refine VC.reg (VO.l (LO.mv (.r rfl)) rfl<|VO.l (LO.call (xs := [_]) (vs := [_]) C173 ⟨(.r rfl), trivial⟩ (fun w _ => nanS_c _ w)) rfl<|VO.l (LO.as (.r rfl)) rfl<|VO.nil ?_)
  refine VE.seqN ?_
  refine VC.seq ?_
  refine VC.seq ?_
  refine VC.reg (VO.l (LO.mv (.r rfl)) rfl<|VO.nil ?_)
  refine VE.seqN ?_
  refine VC.cond rfl (fun h11 => ?_) (fun h11 => ?_)
  ·
    (exfalso; (simp at h11))
  ·
    refine VC.skip (VE.seqN ?_)
    refine VC.seq ?_
    refine VC.seq ?_
    refine VC.reg (VO.l (LO.mv (.r rfl)) rfl<|VO.nil ?_)
    refine VE.seqN ?_
    refine VC.cond rfl (fun h13 => ?_) (fun h13 => ?_)
    ·
      (exfalso; (simp at h13))
    ·
      refine VC.skip (VE.seqN ?_)
      refine VC.seq ?_
      refine VC.seq ?_
      refine VC.reg (VO.l (LO.mv (.r rfl)) rfl<|VO.l (LO.mv (.r rfl)) rfl<|VO.l (LO.ltS (.r rfl) (.r rfl)) rfl<|VO.nil ?_)
      refine VE.seqN ?_
      refine VC.cond rfl (fun h16 => ?_) (fun h16 => ?_)
      ·
        refine VC.seq ?_
        refine VC.reg (VO.l (LO.as (.r rfl)) rfl<|VO.nil ?_)
        refine VE.seqN ?_
        refine VC.ret (VE.thenR (VE.res (vs := [_]) rfl ⟨rfl, trivial⟩ (fun w hw => ?_)))
        refine ⟨?_, hw.nil⟩
        rw [nmT_lt] at h16
        try rw [nmT_lt, nmT_eq] at h19
        unfold cmpI fI
        simp only [Bool.not_eq_true', Bool.or_eq_true, decide_eq_true_eq, Fin.lt_def, Fin.ext_iff, Bool.or_eq_false_iff, decide_eq_false_iff_not] at *
        first | (rw [if_pos (by omega)]; rfl) | (rw [if_neg (by omega), if_pos (by omega)]; rfl) | (rw [if_neg (by omega), if_neg (by omega)]; rfl)
      ·
        refine VC.skip (VE.seqN ?_)
        refine VC.seq ?_
        refine VC.seq ?_
        refine VC.reg (VO.l (LO.mv (.r rfl)) rfl<|VO.l (LO.mv (.r rfl)) rfl<|VO.l (LO.gtS (.r rfl) (.r rfl)) rfl<|VO.nil ?_)
        refine VE.seqN ?_
        refine VC.cond rfl (fun h19 => ?_) (fun h19 => ?_)
        ·
          refine VC.seq ?_
          refine VC.reg (VO.l (LO.as (.r rfl)) rfl<|VO.nil ?_)
          refine VE.seqN ?_
          refine VC.ret (VE.thenR (VE.res (vs := [_]) rfl ⟨rfl, trivial⟩ (fun w hw => ?_)))
          refine ⟨?_, hw.nil⟩
          rw [nmT_lt] at h16
          try rw [nmT_lt, nmT_eq] at h19
          unfold cmpI fI
          simp only [Bool.not_eq_true', Bool.or_eq_true, decide_eq_true_eq, Fin.lt_def, Fin.ext_iff, Bool.or_eq_false_iff, decide_eq_false_iff_not] at *
          first | (rw [if_pos (by omega)]; rfl) | (rw [if_neg (by omega), if_pos (by omega)]; rfl) | (rw [if_neg (by omega), if_neg (by omega)]; rfl)
        ·
          refine VC.skip (VE.seqN ?_)
          refine VC.seq ?_
          refine VC.reg (VO.l (LO.as (.r rfl)) rfl<|VO.nil ?_)
          refine VE.seqN ?_
          refine VC.ret (VE.res (vs := [_]) rfl ⟨rfl, trivial⟩ (fun w hw => ?_))
          refine ⟨?_, hw.nil⟩
          rw [nmT_lt] at h16
          try rw [nmT_lt, nmT_eq] at h19
          unfold cmpI fI
          simp only [Bool.not_eq_true', Bool.or_eq_true, decide_eq_true_eq, Fin.lt_def, Fin.ext_iff, Bool.or_eq_false_iff, decide_eq_false_iff_not] at *
          first | (rw [if_pos (by omega)]; rfl) | (rw [if_neg (by omega), if_pos (by omega)]; rfl) | (rw [if_neg (by omega), if_neg (by omega)]; rfl)

set_option maxRecDepth 20000 in
theorem orI_c (l : List Int) (p : Option Addr) (c : Nat) (w : World) (hn : l.length < 1000000) (hl : RO 1 i64C w p l) :
  Calls Tryz.prog 103 #[.slice p l.length c] w fun e w' => e = .returned (.int .i64 (orI l)) ∧ St (bs w) [] w' := by
  refine enter (vs := [_]) (env := [(0,_)]) Tryz.func103 rfl rfl rfl rfl ?_
  refine VC.seq ?_
  refine VC.reg (VO.l (LO.as (.r rfl)) rfl<|VO.nil ?_)
  refine VE.seqN ?_
  refine VC.seq ?_
  refine VC.reg (VO.l (LO.as (.r rfl)) rfl<|VO.nil ?_)
  refine VE.seqN ?_
  refine VC.seq ?_
  refine VC.seq ?_
  refine VC.reg (VO.l (LO.mv (.r rfl)) rfl<|VO.l (LO.len S112 (.r rfl) rfl) rfl<|VO.l (LO.mv (.r rfl)) rfl<|VO.nil ?_)
  refine VE.seqN ?_
  refine VC.block ?_
  refine VC.loopK (α := Nat) 0 (fun gx => [(8, .int .i64 (gx : Nat))]) [(3,_), (6,_), (7,_)] (fun gx => []) (fun gx => gx ≤ l.length ∧ orI l = orI (l.drop gx)) (fun gx => l.length - gx) 0 (by exact ⟨Nat.zero_le _, rfl⟩) (.cons rfl (.cons rfl (.cons rfl (.cons rfl .nil)))) (fun _ h => h) ?_
  rintro i ⟨hi, ho⟩
  refine VC.seq ?_
  refine VC.reg (VO.l (LO.lt (.r rfl) (.r rfl)) rfl<|VO.nil ?_)
  refine VE.seqN ?_
  refine VC.seq ?_
  refine VC.cond rfl (fun h1 => ?_) (fun h1 => ?_)
  ·
    refine VC.skip (VE.seqN ?_)
    refine VC.seq ?_
    refine VC.block ?_
    refine VC.seq ?_
    refine VC.reg (VO.l (LO.ixs S112 N3 hl.sm (.r rfl) (.r rfl) rfl (by omega)) rfl<|VO.l (LO.ld O3 (.r rfl) (fun w hw => cells_part (off := 0) ((hl.at (0 : Int) (j := i) (by omega)) w hw) ⟨_, rfl⟩)) rfl<|VO.l (LO.as (.r rfl)) rfl<|VO.nil ?_)
    refine VE.seqN ?_
    refine VC.seq ?_
    refine VC.reg (VO.l (LO.mv (.r rfl)) rfl<|VO.l (LO.mv (.r rfl)) rfl<|VO.l (LO.ne (.r rfl) (.r rfl)) rfl<|VO.nil ?_)
    refine VE.seqN ?_
    refine VC.cond rfl (fun h14 => ?_) (fun h14 => ?_)
    ·
      refine VC.seq ?_
      refine VC.reg (VO.l (LO.mv (.r rfl)) rfl<|VO.l (LO.as (.r rfl)) rfl<|VO.nil ?_)
      refine VE.seqN ?_
      refine VC.ret (VE.inR (VE.thenR (VE.thenR (VE.inR (VE.thenR (VE.res (vs := [_]) rfl ⟨rfl, trivial⟩ (fun w hw => ?_)))))))
      first | exact ⟨by rw [← or_hit (by omega) ho h14]; rfl, hw.nil⟩ | exact ⟨by rw [← or_end (by omega) ho]; rfl, hw.nil⟩
    ·
      refine VC.skip (VE.inN (VE.seqN ?_))
      refine VC.reg (VO.l (LO.add (.r rfl) (.r rfl) (wi (by omega) (by omega))) rfl<|VO.l (LO.mv (.r rfl)) rfl<|VO.nil ?_)
      refine VE.thenN fun a w ha hw => ⟨i + 1, ⟨by omega, or_step (by omega) ho (Classical.not_not.1 h14)⟩, (by omega), ha.sub (.cons rfl (.cons rfl (.cons rfl (.cons rfl .nil)))), hw⟩
  ·
    refine VC.exit (VE.thenX (VE.thenX (VE.inX (VE.seqN ?_))))
    refine VC.seq ?_
    refine VC.reg (VO.l (LO.mv (.r rfl)) rfl<|VO.l (LO.as (.r rfl)) rfl<|VO.nil ?_)
    refine VE.seqN ?_
    refine VC.ret (VE.res (vs := [_]) rfl ⟨rfl, trivial⟩ (fun w hw => ?_))
    first | exact ⟨by rw [← or_hit (by omega) ho h14]; rfl, hw.nil⟩ | exact ⟨by rw [← or_end (by omega) ho]; rfl, hw.nil⟩

set_option maxRecDepth 20000 in
theorem cmpSp_c (x y : Span) (w : World) :
  Calls Tryz.prog 215 #[spanV x, spanV y] w fun e w' => e = .returned (.int .i64 (cmpSp x y)) ∧ St (bs w) [] w' := by
  refine enter (vs := [_,_]) (env := [(0,_), (1,_)]) Tryz.func215 rfl rfl rfl rfl ?_
  refine VC.seq ?_
  refine VC.reg (VO.h rfl<|HO.box (C := #[_,_]) rfl rfl fun b1 => VO.h rfl<|HO.box (C := #[_,_]) rfl rfl fun b2 => VO.l (LO.as (.r rfl)) rfl<|VO.nil ?_)
  refine VE.seqN ?_
  refine VC.seq ?_
  refine VC.drawH [[0,1], [0,1], [0,1], [0,1]] [some 0, some 0, some 0, some 0, some 0, some 0, some 0, some 0, some 0, some 0, none, none, none] mixed (by kernel_rfl) rfl (LX.l (fun _ hJ => LO.fa (r := 0) F25_0 (.r rfl) rfl) rfl<|LX.l (fun _ hJ => LO.ld O3 (.r rfl) (fun _ hw => cells_at (hJ _ hw) 1 rfl ⟨_, rfl⟩)) rfl<|LX.l (fun _ hJ => LO.fa (r := 0) F25_0 (.r rfl) rfl) rfl<|LX.l (fun _ hJ => LO.ld O3 (.r rfl) (fun _ hw => cells_at (hJ _ hw) 0 rfl ⟨_, rfl⟩)) rfl<|LX.l (fun _ hJ => LO.call (xs := [_,_]) (vs := [_,_]) C104 ⟨(.r rfl), (.r rfl), trivial⟩ (fun w _ => cmpI_c _ _ w)) rfl<|LX.l (fun _ hJ => LO.fa (r := 1) F25_1 (.r rfl) rfl) rfl<|LX.l (fun _ hJ => LO.ld O3 (.r rfl) (fun _ hw => cells_at (hJ _ hw) 1 rfl ⟨_, rfl⟩)) rfl<|LX.l (fun _ hJ => LO.fa (r := 1) F25_1 (.r rfl) rfl) rfl<|LX.l (fun _ hJ => LO.ld O3 (.r rfl) (fun _ hw => cells_at (hJ _ hw) 0 rfl ⟨_, rfl⟩)) rfl<|LX.l (fun _ hJ => LO.call (xs := [_,_]) (vs := [_,_]) C104 ⟨(.r rfl), (.r rfl), trivial⟩ (fun w _ => cmpI_c _ _ w)) rfl<|LX.s<|LX.s<|LX.s<|LX.nil) (HX.s<|HX.s<|HX.s<|HX.s<|HX.s<|HX.s<|HX.s<|HX.s<|HX.s<|HX.s<|HX.h rfl<|HO.bs (ps := [(_,_), (_,_)]) (vs := [(_,_), (_,_)]) (Z := [_,_]) (C := [_,_]) S112 Z3 N3 ⟨(.r rfl), (.r rfl), trivial⟩ rfl rfl rfl rfl ⟨_, [_], [_,_], rfl, rfl, rfl, rfl, ⟨_, [_], [_,_], rfl, rfl, rfl, rfl, rfl⟩⟩ fun b4 => ⟨fun _ hw => hw.sel [1,2] rfl, HX.h rfl<|HO.lo (LO.call (xs := [_]) (vs := [_]) C103 ⟨(.r rfl), trivial⟩ (fun w hw => orI_c [cmpI x.lo y.lo, cmpI x.hi y.hi] (some ⟨b4,0, none⟩) 2 w (show 2 < 1000000 by decide) (RO.ofC (fun _ => rfl) (cells_at hw 0 rfl ⟨_, rfl⟩))))<|⟨fun _ hw => hw.sel [1,2] rfl, HX.h rfl<|HO.lo (LO.as (.r rfl))<|⟨fun _ hw => hw.sel [1,2] rfl, HX.nil ?_⟩⟩⟩)
  refine VE.seqN ?_
  refine VC.ret (VE.res (vs := [_]) rfl ⟨rfl, trivial⟩ (fun w hw => ?_))
  exact ⟨rfl, hw.nil⟩

set_option maxRecDepth 20000 in
theorem cmpF_c (a b : List Span) (pa pb : Option Addr) (ca cb : Nat) (w : World) (hn : a.length < 1000000) (hn2 : b.length < 1000000) (ha : Spans w pa a) (hb : Spans w pb b) :
  Calls Tryz.prog 214 #[.slice pa a.length ca, .slice pb b.length cb, .func (.func 215) #[] #[]] w fun e w' => e = .returned (.int .i64 (cmpV a b)) ∧ St (bs w) [] w' := by
  refine enter (vs := [_,_,_]) (env := [(0,_), (1,_), (2,_)]) Tryz.func214 rfl rfl rfl rfl ?_
  refine VC.seq ?_
  refine VC.reg (VO.l (LO.as (.r rfl)) rfl<|VO.nil ?_)
  refine VE.seqN ?_
  refine VC.seq ?_
  refine VC.seq ?_
  refine VC.reg (VO.l (LO.mv (.r rfl)) rfl<|VO.l (LO.len S45 (.r rfl) rfl) rfl<|VO.l (LO.mv (.r rfl)) rfl<|VO.nil ?_)
  refine VE.seqN ?_
  refine VC.block ?_
  refine VC.loopK (α := Nat) 0 (fun gx => [(13, .int .i64 (gx : Nat))]) [(0,_), (1,_), (2,_), (11,_), (12,_)] (fun gx => []) (fun gx => gx ≤ a.length ∧ (gx ≤ b.length ∧ cmpV a b = cmpV (a.drop gx) (b.drop gx))) (fun gx => a.length - gx) 0 (by exact ⟨Nat.zero_le _, Nat.zero_le _, rfl⟩) (.cons rfl (.cons rfl (.cons rfl (.cons rfl (.cons rfl (.cons rfl .nil)))))) (fun _ h => h) ?_
  rintro i ⟨hi, hib, hc⟩
  refine VC.seq ?_
  refine VC.reg (VO.l (LO.lt (.r rfl) (.r rfl)) rfl<|VO.nil ?_)
  refine VE.seqN ?_
  refine VC.seq ?_
  refine VC.cond rfl (fun h1 => ?_) (fun h1 => ?_)
  ·
    refine VC.skip (VE.seqN ?_)
    refine VC.seq ?_
    refine VC.block ?_
    refine VC.seq ?_
    refine VC.reg (VO.l (LO.mv (.r rfl)) rfl<|VO.l (LO.ixs S45 N25 ha.sm (.r rfl) (.r rfl) rfl (by omega)) rfl<|VO.l (LO.lda (vs := [_,_]) A25 (.r rfl) (fun w hw => cells_part (off := 0) ((ha.at zs (j := i) (by omega)) w hw) ⟨_, rfl⟩) rfl) rfl<|VO.h rfl<|HO.alloc (C := #[_,_]) Z25 rfl fun b1 => VO.l (LO.as (.r rfl)) rfl<|VO.h0<|HO.st 0 (vs := [_,_]) (C' := [_,_]) (L' := [_]) N25 rfl rfl rfl rfl rfl rfl rfl rfl<|VO.nil ?_)
    refine VE.seqN ?_
    refine VC.seq ?_
    refine VC.seq ?_
    refine VC.reg (VO.l (LO.mv (.r rfl)) rfl<|VO.l (LO.mv (.r rfl)) rfl<|VO.l (LO.len S45 (.r rfl) rfl) rfl<|VO.l (LO.ge (.r rfl) (.r rfl)) rfl<|VO.nil ?_)
    refine VE.seqN ?_
    refine VC.cond rfl (fun h21 => ?_) (fun h21 => ?_)
    ·
      refine VC.seq ?_
      refine VC.reg (VO.l (LO.as (.r rfl)) rfl<|VO.nil ?_)
      refine VE.seqN ?_
      refine VC.ret (VE.thenR (VE.inR (VE.thenR (VE.thenR (VE.inR (VE.thenR (VE.res (vs := [_]) rfl ⟨rfl, trivial⟩ (fun w hw => ?_))))))))
      refine ⟨?_, hw.nil⟩
      first | (rw [← cv_1 (by omega) (by omega) hc]; rfl) | (rw [cv_step (by omega) (by omega) hc, if_pos h31]; rfl) | (rw [← cv_m (by omega) (by omega) hc]; rfl) | (rw [← cv_0 (by omega) (by omega) hc]; rfl)
    ·
      refine VC.skip (VE.seqN ?_)
      refine VC.seq ?_
      refine VC.reg (VO.l (LO.mv (.r rfl)) rfl<|VO.l (LO.mv (.r rfl)) rfl<|VO.l (LO.ixs S45 N25 hb.sm (.r rfl) (.r rfl) rfl (by omega)) rfl<|VO.l (LO.lda (vs := [_,_]) A25 (.r rfl) (fun w hw => cells_part (off := 0) ((hb.at zs (j := i) (by omega)) w hw) ⟨_, rfl⟩) rfl) rfl<|VO.h rfl<|HO.alloc (C := #[_,_]) Z25 rfl fun b3 => VO.h0<|HO.st 0 (vs := [_,_]) (C' := [_,_]) (L' := [_,_]) N25 rfl rfl rfl rfl rfl rfl rfl rfl<|VO.nil ?_)
      refine VE.seqN ?_
      refine VC.seq ?_
      refine VC.reg (VO.l (LO.mv (.r rfl)) rfl<|VO.l (LO.lda (vs := [_,_]) A25 (.r rfl) (fun _ hw => cells_at hw 1 rfl ⟨_, rfl⟩) rfl) rfl<|VO.l (LO.lda (vs := [_,_]) A25 (.r rfl) (fun _ hw => cells_at hw 0 rfl ⟨_, rfl⟩) rfl) rfl<|VO.l (LO.callv (first := []) (cap := []) (xs := [_,_]) (vs := [_,_]) (.r rfl) C215 ⟨(.r rfl), (.r rfl), trivial⟩ (fun w _ => cmpSp_c (a.getD i zs) (b.getD i zs) w)) rfl<|VO.l (LO.as (.r rfl)) rfl<|VO.nil ?_)
      refine VE.seqN ?_
      refine VC.seq ?_
      refine VC.reg (VO.l (LO.mv (.r rfl)) rfl<|VO.l (LO.ne (.r rfl) (.r rfl)) rfl<|VO.nil ?_)
      refine VE.seqN ?_
      refine VC.cond rfl (fun h31 => ?_) (fun h31 => ?_)
      ·
        refine VC.seq ?_
        refine VC.reg (VO.l (LO.mv (.r rfl)) rfl<|VO.l (LO.as (.r rfl)) rfl<|VO.nil ?_)
        refine VE.seqN ?_
        refine VC.ret (VE.inR (VE.thenR (VE.thenR (VE.inR (VE.thenR (VE.res (vs := [_]) rfl ⟨rfl, trivial⟩ (fun w hw => ?_)))))))
        refine ⟨?_, hw.nil⟩
        first | (rw [← cv_1 (by omega) (by omega) hc]; rfl) | (rw [cv_step (by omega) (by omega) hc, if_pos h31]; rfl) | (rw [← cv_m (by omega) (by omega) hc]; rfl) | (rw [← cv_0 (by omega) (by omega) hc]; rfl)
      ·
        refine VC.skip (VE.inN (VE.seqN ?_))
        refine VC.reg (VO.l (LO.add (.r rfl) (.r rfl) (wi (by omega) (by omega))) rfl<|VO.l (LO.mv (.r rfl)) rfl<|VO.nil ?_)
        refine VE.thenN fun a w ha hw => ⟨i + 1, ⟨by omega, by omega, by rw [cv_step (by omega) (by omega) hc, if_neg h31]⟩, (by omega), ha.sub (.cons rfl (.cons rfl (.cons rfl (.cons rfl (.cons rfl (.cons rfl .nil)))))), hw.sel [] rfl⟩
  ·
    refine VC.exit (VE.thenX (VE.thenX (VE.inX (VE.seqN ?_))))
    refine VC.seq ?_
    refine VC.seq ?_
    refine VC.reg (VO.l (LO.mv (.r rfl)) rfl<|VO.l (LO.len S45 (.r rfl) rfl) rfl<|VO.l (LO.mv (.r rfl)) rfl<|VO.l (LO.len S45 (.r rfl) rfl) rfl<|VO.l (LO.lt (.r rfl) (.r rfl)) rfl<|VO.nil ?_)
    refine VE.seqN ?_
    refine VC.cond rfl (fun h38 => ?_) (fun h38 => ?_)
    ·
      refine VC.seq ?_
      refine VC.reg (VO.l (LO.as (.r rfl)) rfl<|VO.nil ?_)
      refine VE.seqN ?_
      refine VC.ret (VE.thenR (VE.res (vs := [_]) rfl ⟨rfl, trivial⟩ (fun w hw => ?_)))
      refine ⟨?_, hw.nil⟩
      first | (rw [← cv_1 (by omega) (by omega) hc]; rfl) | (rw [cv_step (by omega) (by omega) hc, if_pos h31]; rfl) | (rw [← cv_m (by omega) (by omega) hc]; rfl) | (rw [← cv_0 (by omega) (by omega) hc]; rfl)
    ·
      refine VC.skip (VE.seqN ?_)
      refine VC.seq ?_
      refine VC.reg (VO.l (LO.as (.r rfl)) rfl<|VO.nil ?_)
      refine VE.seqN ?_
      refine VC.ret (VE.res (vs := [_]) rfl ⟨rfl, trivial⟩ (fun w hw => ?_))
      refine ⟨?_, hw.nil⟩
      first | (rw [← cv_1 (by omega) (by omega) hc]; rfl) | (rw [cv_step (by omega) (by omega) hc, if_pos h31]; rfl) | (rw [← cv_m (by omega) (by omega) hc]; rfl) | (rw [← cv_0 (by omega) (by omega) hc]; rfl)

set_option maxRecDepth 20000 in
theorem compare_c (a b : List Span) (pa pb : Option Addr) (ca cb : Nat) (w : World) (hn : a.length < 1000000) (hn2 : b.length < 1000000) (ha : Spans w pa a) (hb : Spans w pb b) :
  Calls Tryz.prog 164 #[.slice pa a.length ca, .slice pb b.length cb] w fun e w' => e = .returned (.int .i64 (cmpV a b)) ∧ St (bs w) [] w' := by
  refine enter (vs := [_,_]) (env := [(0,_), (1,_)]) Tryz.func164 rfl rfl rfl rfl ?_
  refine VC.seq ?_
  refine VC.reg (VO.l (LO.as (.r rfl)) rfl<|VO.nil ?_)
  refine VE.seqN ?_
  refine VC.seq ?_
  refine VC.reg (VO.l (LO.mv (.r rfl)) rfl<|VO.l (LO.mv (.r rfl)) rfl<|VO.l (LO.call (xs := [_,_,_]) (vs := [_,_,_]) C214 ⟨(.r rfl), (.r rfl), (.r rfl), trivial⟩ (fun w hw => cmpF_c a b pa pb ca cb w hn hn2 (ha.keep w hw) (hb.keep w hw))) rfl<|VO.l (LO.as (.r rfl)) rfl<|VO.nil ?_)
  refine VE.seqN ?_
  refine VC.ret (VE.res (vs := [_]) rfl ⟨rfl, trivial⟩ (fun w hw => ?_))
  exact ⟨rfl, hw.nil⟩

end Go.Proofs.YtffbohecdocajaaGreat

namespace Go.Proofs.YtffbohecdocajaaGreat
open Go.SL Go.Proofs Go.Pulse
set_option linter.unusedVariables false

theorem S383 : IsSlice Tryz.prog 383 45 := Tryz.underlying383
theorem N45 : (Tryz.prog.info? 45).map (·.size) = some 1 := by kernel_rfl
theorem O45 : IsOne Tryz.prog 45 := ⟨⟨_, Tryz.underlying45, rfl⟩, by kernel_rfl⟩
theorem C164 : IsFn Tryz.prog 164 := ⟨_, Tryz.func164, by decide, rfl⟩
theorem I25 : EInfo Tryz.prog 25 2 16 (.agg #[.int .i64 0, .int .i64 0]) := ⟨by kernel_rfl, by kernel_rfl, by unfold ZeroOf; kernel_rfl, rfl, by decide⟩
theorem I45 : EInfo Tryz.prog 45 1 24 (.slice none 0 0) := ⟨by kernel_rfl, by kernel_rfl, by unfold ZeroOf; kernel_rfl, rfl, by decide⟩
theorem S129 : IsSlice Tryz.prog 129 270 := Tryz.underlying129
theorem N270 : (Tryz.prog.info? 270).map (·.size) = some 10 := by kernel_rfl
theorem I270 : EInfo Tryz.prog 270 10 88 (.agg #[.string ByteArray.empty, .int .i64 0, .int .i64 0, .int .i64 0, .int .i64 0, .int .i64 0, .int .i64 0, .int .i64 0, .int .i64 0, .int .i64 0]) := ⟨by kernel_rfl, by kernel_rfl, by unfold ZeroOf; kernel_rfl, rfl, by decide⟩


theorem bs_end {l : List VY} {v : List Span} {i : Nat} (hs : SrtV (vls l)) (hi : i = posV (vls l) v) : (decide ((i : Int) < (l.length : Int)) && decide (cmpV (l.getD i zVY).v v = 0)) = decide (v ∈ vls l) := by
  subst hi
  rw [← Bool.decide_and]
  refine decide_eq_decide.2 ?_
  rw [ps_has hs]
  constructor
  · rintro ⟨a, b⟩; exact ⟨by omega, b⟩
  · rintro ⟨a, b⟩; exact ⟨by omega, b⟩
/-- A radar of a network. -/
structure RdM where
  r : Fin 3
  x : Int
  y : Int
  z : Int
  g : Int
  deriving DecidableEq
def zRd : RdM := ⟨0,0,0,0,0⟩
abbrev rdC (a : RdM) : List Value := [.string (nmT a.r), .int .i64 a.x, .int .i64 a.y, .int .i64 a.z, .int .i64 2, .int .i64 a.g, .int .i64 1000, .int .i64 0, .int .i64 0, .int .i64 0]

set_option maxRecDepth 20000 in
set_option maxHeartbeats 1000000 in
theorem search_c (l : List VY) (v : List Span) (px pv : Option Addr) (cx cv : Nat) (w : World) (hn : l.length < 1000000) (hs : SrtV (vls l)) (hl : RO 1 vC w px l) (hr : ∀ y, y ∈ l → Spans w y.p y.v ∧ y.v.length < 1000000) (hvn : v.length < 1000000) (hv : Spans w pv v) :
  Calls Tryz.prog 163 #[.slice px l.length cx, .slice pv v.length cv, .func (.func 164) #[] #[]] w fun e w' => e = .returned (.tuple #[.int .i64 (posV (vls l) v : Nat), .bool (decide (v ∈ vls l))]) ∧ St (bs w) [] w' := by
  refine enter (vs := [_,_,_]) (env := [(0,_), (1,_), (2,_)]) Tryz.func163 rfl rfl rfl rfl ?_
  refine VC.seq ?_
  refine VC.reg (VO.l (LO.as (.r rfl)) rfl<|VO.l (LO.as (.r rfl)) rfl<|VO.nil ?_)
  refine VE.seqN ?_
  refine VC.seq ?_
  refine VC.reg (VO.l (LO.mv (.r rfl)) rfl<|VO.l (LO.len S383 (.r rfl) rfl) rfl<|VO.l (LO.as (.r rfl)) rfl<|VO.nil ?_)
  refine VE.seqN ?_
  refine VC.seq ?_
  refine VC.reg (VO.l (LO.mv (.r rfl)) rfl<|VO.l (LO.as (.r rfl)) rfl<|VO.l (LO.as (.r rfl)) rfl<|VO.nil ?_)
  refine VE.seqN ?_
  refine VC.seq ?_
  refine VC.block ?_
  refine VC.loopK (α := Nat × Nat) 0 (fun gx => [(9, .int .i64 (gx.1 : Nat)), (10, .int .i64 (gx.2 : Nat))]) [(0,_), (1,_), (2,_), (8,_)] (fun gx => []) (fun gx => (gx.1 ≤ gx.2 ∧ gx.2 ≤ l.length) ∧ gx.1 ≤ posV (vls l) v ∧ posV (vls l) v ≤ gx.2) (fun gx => gx.2 - gx.1) (0, l.length) (by exact ⟨⟨Nat.zero_le _, Nat.le_refl _⟩, Nat.zero_le _, ps_le⟩) (.cons rfl (.cons rfl (.cons rfl (.cons rfl (.cons rfl (.cons rfl .nil)))))) (fun _ h => h) ?_
  rintro ⟨i, j⟩ ⟨hij, hp⟩
  show VC _ _ _ _ _ ([(9, .int .i64 (i : Nat)), (10, .int .i64 (j : Nat))] ++ _) ([] ++ _) _ _
  dsimp only at hij hp
  refine VC.seq ?_
  refine VC.seq ?_
  refine VC.reg (VO.l (LO.mv (.r rfl)) rfl<|VO.l (LO.mv (.r rfl)) rfl<|VO.l (LO.lt (.r rfl) (.r rfl)) rfl<|VO.nil ?_)
  refine VE.seqN ?_
  refine VC.cond rfl (fun h1 => ?_) (fun h1 => ?_)
  ·
    refine VC.skip (VE.seqN ?_)
    refine VC.block ?_
    refine VC.seq ?_
    obtain ⟨m, hm, hm2⟩ : ∃ m : Nat, m = (i + j) / 2 ∧ (i ≤ m ∧ m < j) := ⟨(i + j) / 2, rfl, by omega⟩
    have hps := ps_lt (v := v) hs (i := m) (by omega)
    refine VC.reg (VO.l (LO.mv (.r rfl)) rfl<|VO.l (LO.mv (.r rfl)) rfl<|VO.l (LO.add (.r rfl) (.r rfl) (wi (by omega) (by omega))) rfl<|VO.l (LO.cv ⟨_, Tryz.underlying3⟩ Tryz.underlying396 (.r rfl) (wu (by omega) (by omega))) rfl<|VO.l (LO.eqv (LO.shr (.r rfl) (.r rfl) (by decide)) (congrArg (Value.int .u64) ((half_n i j).trans (congrArg (fun n : Nat => (n : Int)) hm.symm)))) rfl<|VO.l (LO.cv ⟨_, Tryz.underlying396⟩ Tryz.underlying3 (.r rfl) (wi (by omega) (by omega))) rfl<|VO.l (LO.as (.r rfl)) rfl<|VO.nil ?_)
    refine VE.seqN ?_
    refine VC.seq ?_
    refine VC.reg (VO.l (LO.mv (.r rfl)) rfl<|VO.l (LO.mv (.r rfl)) rfl<|VO.l (LO.mv (.r rfl)) rfl<|VO.l (LO.ixs S383 N45 hl.sm (.r rfl) (.r rfl) rfl (by omega)) rfl<|VO.l (LO.ld O45 (.r rfl) (fun w hw => cells_part (off := 0) ((hl.at zVY (j := m) (by first | omega | (have := of_decide_eq_true hg; omega))) w hw) ⟨_, rfl⟩)) rfl<|VO.l (LO.mv (.r rfl)) rfl<|VO.l (LO.callv (first := []) (cap := []) (xs := [_,_]) (vs := [_,_]) (.r rfl) C164 ⟨(.r rfl), (.r rfl), trivial⟩ (fun w hw => compare_c (l.getD m zVY).v v (l.getD m zVY).p pv (l.getD m zVY).c cv w (hr _ (getD_mem (by omega))).2 hvn ((hr _ (getD_mem (by omega))).1.keep w hw) (hv.keep w hw))) rfl<|VO.l (LO.lt (.r rfl) (.r rfl)) rfl<|VO.nil ?_)
    refine VE.seqN ?_
    refine VC.cond rfl (fun h31 => ?_) (fun h31 => ?_)
    ·
      refine VC.reg (VO.l (LO.mv (.r rfl)) rfl<|VO.l (LO.add (.r rfl) (.r rfl) (wi (by omega) (by omega))) rfl<|VO.l (LO.as (.r rfl)) rfl<|VO.nil ?_)
      refine VE.inN ?_
      refine VE.thenN fun a w ha hw => ⟨(m + 1, j), (by dsimp only; omega), (by dsimp only; omega), ha.sub (.cons rfl (.cons rfl (.cons rfl (.cons rfl (.cons rfl (.cons rfl .nil)))))), hw⟩
    ·
      refine VC.reg (VO.l (LO.mv (.r rfl)) rfl<|VO.l (LO.as (.r rfl)) rfl<|VO.nil ?_)
      refine VE.inN ?_
      refine VE.thenN fun a w ha hw => ⟨(i, m), (by dsimp only; omega), (by dsimp only; omega), ha.sub (.cons rfl (.cons rfl (.cons rfl (.cons rfl (.cons rfl (.cons rfl .nil)))))), hw⟩
  ·
    refine VC.exit (VE.thenX (VE.thenX (VE.inX (VE.seqN ?_))))
    refine VC.seq ?_
    refine VC.reg (VO.l (LO.mv (.r rfl)) rfl<|VO.l (LO.mv (.r rfl)) rfl<|VO.l (LO.mv (.r rfl)) rfl<|VO.l (LO.lt (.r rfl) (.r rfl)) rfl<|VO.l (LO.mv (.r rfl)) rfl<|VO.lg rfl rfl (GD.t _) (fun hg => LO.mv (.r rfl)) rfl<|VO.lg rfl rfl (GD.t _) (fun hg => LO.mv (.r rfl)) rfl<|VO.lg rfl rfl (GD.t _) (fun hg => LO.mv (.r rfl)) rfl<|VO.lg rfl rfl (GD.t _) (fun hg => LO.ixs S383 N45 hl.sm (.g hg rfl) (.g hg rfl) (j := i) rfl (by have := of_decide_eq_true hg; omega)) rfl<|VO.lg rfl rfl (GD.t _) (fun hg => LO.ld O45 (.g hg rfl) (fun w hw => cells_part (off := 0) ((hl.at zVY (j := i) (by first | omega | (have := of_decide_eq_true hg; omega))) w hw) ⟨_, rfl⟩)) rfl<|VO.lg rfl rfl (GD.t _) (fun hg => LO.mv (.r rfl)) rfl<|VO.lg rfl rfl (GD.t _) (fun hg => LO.callv (first := []) (cap := []) (xs := [_,_]) (vs := [_,_]) (.g hg rfl) C164 ⟨(.g hg rfl), (.g hg rfl), trivial⟩ (fun w hw => compare_c (l.getD i zVY).v v (l.getD i zVY).p pv (l.getD i zVY).c cv w (hr _ (getD_mem (by have := of_decide_eq_true hg; omega))).2 hvn ((hr _ (getD_mem (by have := of_decide_eq_true hg; omega))).1.keep w hw) (hv.keep w hw))) rfl<|VO.lg rfl rfl (GD.t _) (fun hg => LO.eq (.g hg rfl) (.r rfl)) rfl<|VO.l (LO.pkA (.r rfl) rfl rfl (.r rfl)) rfl<|VO.l (LO.as (.r rfl)) rfl<|VO.l (LO.as (.r rfl)) rfl<|VO.nil ?_)
    refine VE.seqN ?_
    refine VC.ret (VE.res (vs := [_,_]) rfl ⟨rfl, rfl, trivial⟩ (fun w hw => ?_))
    refine ⟨?_, hw.nil⟩
    rw [← bs_end (i := i) hs (by omega), show posV (vls l) v = i by omega]
    rfl

set_option maxRecDepth 20000 in
theorem CloneSp_c (l : List Span) (p : Option Addr) (c : Nat) (w : World) (hn : l.length < 1000000) (hl : RO 2 spanC w p l) :
  Calls Tryz.prog 80 #[.slice p l.length c] w fun e w' => ∃ x : Option Addr × Nat, True ∧ e = .returned (.slice x.1 l.length x.2) ∧ St (bs w) [own 25 2 x.1 x.2 (l.map spanC)] w' := by
  refine enter (vs := [_]) (env := [(0,_)]) Tryz.func80 rfl rfl rfl rfl ?_
  refine VC.seq ?_
  refine VC.reg (VO.l (LO.as (.r rfl)) rfl<|VO.nil ?_)
  refine VE.seqN ?_
  refine VC.seq ?_
  refine VC.seq ?_
  refine VC.reg (VO.l (LO.mv (.r rfl)) rfl<|VO.l (LO.eqSl (E := 25) Tryz.underlying45 (.r rfl) (.r rfl)) rfl<|VO.nil ?_)
  refine VE.seqN ?_
  refine VC.cond rfl (fun h4 => ?_) (fun h4 => ?_)
  ·
    have h0 := RO_none4 hl h4
    refine VC.seq ?_
    refine VC.reg (VO.l (LO.as (.r rfl)) rfl<|VO.nil ?_)
    refine VE.seqN ?_
    refine VC.ret (VE.thenR (VE.res (vs := [_]) rfl ⟨rfl, trivial⟩ (fun w hw => ?_)))
    first | exact ⟨(none, 0), trivial, by rw [h0]; rfl, by rw [h0]; exact hw.nil.ownNil 25 2⟩ | exact ⟨(p2, c2), trivial, rfl, hw.sel [0] rfl⟩
  ·
    refine VC.skip (VE.seqN ?_)
    refine VC.seq ?_
    refine VC.reg (VO.h rfl<|HO.bs0 S45 N25 fun b1 => VO.l (LO.mv (.r rfl)) rfl<|VO.h rfl<|HO.appN0 (f := spanC) (m := l) 0 (fun R => [R]) S45 S45 I25 (.r rfl) (.r rfl) rfl (fun w hw => hl.keep w hw) (fun _ => rfl) (fun _ => rfl) rfl rfl (fun _ => rfl) rfl (by omega) fun p2 c2 _ => VO.h rfl<|HO.lo (LO.as (.r rfl))<|VO.nil ?_)
    refine VE.seqN ?_
    refine VC.ret (VE.res (vs := [_]) rfl ⟨rfl, trivial⟩ (fun w hw => ?_))
    first | exact ⟨(none, 0), trivial, by rw [h0]; rfl, by rw [h0]; exact hw.nil.ownNil 25 2⟩ | exact ⟨(p2, c2), trivial, rfl, hw.sel [0] rfl⟩

set_option maxRecDepth 20000 in
theorem CloneV_c (l : List VY) (p : Option Addr) (c : Nat) (w : World) (hn : l.length < 1000000) (hl : RO 1 vC w p l) :
  Calls Tryz.prog 166 #[.slice p l.length c] w fun e w' => ∃ x : Option Addr × Nat, True ∧ e = .returned (.slice x.1 l.length x.2) ∧ St (bs w) [own 45 1 x.1 x.2 (l.map vC)] w' := by
  refine enter (vs := [_]) (env := [(0,_)]) Tryz.func166 rfl rfl rfl rfl ?_
  refine VC.seq ?_
  refine VC.reg (VO.l (LO.as (.r rfl)) rfl<|VO.nil ?_)
  refine VE.seqN ?_
  refine VC.seq ?_
  refine VC.seq ?_
  refine VC.reg (VO.l (LO.mv (.r rfl)) rfl<|VO.l (LO.eqSl (E := 45) Tryz.underlying383 (.r rfl) (.r rfl)) rfl<|VO.nil ?_)
  refine VE.seqN ?_
  refine VC.cond rfl (fun h4 => ?_) (fun h4 => ?_)
  ·
    have h0 := RO_none4 hl h4
    refine VC.seq ?_
    refine VC.reg (VO.l (LO.as (.r rfl)) rfl<|VO.nil ?_)
    refine VE.seqN ?_
    refine VC.ret (VE.thenR (VE.res (vs := [_]) rfl ⟨rfl, trivial⟩ (fun w hw => ?_)))
    first | exact ⟨(none, 0), trivial, by rw [h0]; rfl, by rw [h0]; exact hw.nil.ownNil 45 1⟩ | exact ⟨(p2, c2), trivial, rfl, hw.sel [0] rfl⟩
  ·
    refine VC.skip (VE.seqN ?_)
    refine VC.seq ?_
    refine VC.reg (VO.h rfl<|HO.bs0 S383 N45 fun b1 => VO.l (LO.mv (.r rfl)) rfl<|VO.h rfl<|HO.appN0 (f := vC) (m := l) 0 (fun R => [R]) S383 S383 I45 (.r rfl) (.r rfl) rfl (fun w hw => hl.keep w hw) (fun _ => rfl) (fun _ => rfl) rfl rfl (fun _ => rfl) rfl (by omega) fun p2 c2 _ => VO.h rfl<|HO.lo (LO.as (.r rfl))<|VO.nil ?_)
    refine VE.seqN ?_
    refine VC.ret (VE.res (vs := [_]) rfl ⟨rfl, trivial⟩ (fun w hw => ?_))
    first | exact ⟨(none, 0), trivial, by rw [h0]; rfl, by rw [h0]; exact hw.nil.ownNil 45 1⟩ | exact ⟨(p2, c2), trivial, rfl, hw.sel [0] rfl⟩

set_option maxRecDepth 20000 in
theorem CloneRd_c (l : List RdM) (p : Option Addr) (c : Nat) (w : World) (hn : l.length < 1000000) (hl : RO 10 rdC w p l) :
  Calls Tryz.prog 91 #[.slice p l.length c] w fun e w' => ∃ x : Option Addr × Nat, True ∧ e = .returned (.slice x.1 l.length x.2) ∧ St (bs w) [own 270 10 x.1 x.2 (l.map rdC)] w' := by
  refine enter (vs := [_]) (env := [(0,_)]) Tryz.func91 rfl rfl rfl rfl ?_
  refine VC.seq ?_
  refine VC.reg (VO.l (LO.as (.r rfl)) rfl<|VO.nil ?_)
  refine VE.seqN ?_
  refine VC.seq ?_
  refine VC.seq ?_
  refine VC.reg (VO.l (LO.mv (.r rfl)) rfl<|VO.l (LO.eqSl (E := 270) Tryz.underlying129 (.r rfl) (.r rfl)) rfl<|VO.nil ?_)
  refine VE.seqN ?_
  refine VC.cond rfl (fun h4 => ?_) (fun h4 => ?_)
  ·
    have h0 := RO_none4 hl h4
    refine VC.seq ?_
    refine VC.reg (VO.l (LO.as (.r rfl)) rfl<|VO.nil ?_)
    refine VE.seqN ?_
    refine VC.ret (VE.thenR (VE.res (vs := [_]) rfl ⟨rfl, trivial⟩ (fun w hw => ?_)))
    first | exact ⟨(none, 0), trivial, by rw [h0]; rfl, by rw [h0]; exact hw.nil.ownNil 270 10⟩ | exact ⟨(p2, c2), trivial, rfl, hw.sel [0] rfl⟩
  ·
    refine VC.skip (VE.seqN ?_)
    refine VC.seq ?_
    refine VC.reg (VO.h rfl<|HO.bs0 S129 N270 fun b1 => VO.l (LO.mv (.r rfl)) rfl<|VO.h rfl<|HO.appN0 (f := rdC) (m := l) 0 (fun R => [R]) S129 S129 I270 (.r rfl) (.r rfl) rfl (fun w hw => hl.keep w hw) (fun _ => rfl) (fun _ => rfl) rfl rfl (fun _ => rfl) rfl (by omega) fun p2 c2 _ => VO.h rfl<|HO.lo (LO.as (.r rfl))<|VO.nil ?_)
    refine VE.seqN ?_
    refine VC.ret (VE.res (vs := [_]) rfl ⟨rfl, trivial⟩ (fun w hw => ?_))
    first | exact ⟨(none, 0), trivial, by rw [h0]; rfl, by rw [h0]; exact hw.nil.ownNil 270 10⟩ | exact ⟨(p2, c2), trivial, rfl, hw.sel [0] rfl⟩

end Go.Proofs.YtffbohecdocajaaGreat

namespace Go.SL
set_option linter.unusedVariables false
open Go.RowKit
section
variable {P : Program} {ro : Option Nat} {β : Bs} {N : Nat} {ds : List Deferred} {env : Env} {L : List Res} {Q : Exit → Act → World → Prop}
variable {d dd : Option Nat} {ty : TypeId} {pos : String} {aft : Array Edge} {g : Option (Nat × Bool)}
theorem VC.ex {γ : Type} {φ : γ → List Res} {c : Code} (h : ∀ w, St β L w → ∃ y, St β (φ y) w) (k : ∀ y, VC P ro β N ds env (φ y) c Q) : VC P ro β N ds env L c Q := fun a w ha hw => by
  obtain ⟨y, hy⟩ := h w hw
  exact k y a w ha hy
/-- The block of a slice that is owned. -/
theorem St.ownC {w : World} (hw : St β L w) (i : Nat) {E b cap : Nat} {rows : List (List Value)} (hi : L[i]? = some (own E 1 (some ⟨b, 0, none⟩) cap rows)) :
    ∃ C : Array Value, (∃ spare, C.toList = rows.flatten ++ spare) ∧ C.size = cap ∧ St β (L.set i (blk b (.cells C E))) w := by
  obtain ⟨h1, h2, h3, h4⟩ := hw.inv i _ hi
  obtain ⟨_,_, C, spare, g1, g2, g3⟩ := h4 _ rfl
  exact ⟨C, ⟨spare, g2⟩, by rw [g3, Nat.mul_one], hw.conv i hi (fun k hk => ⟨by simp, hk⟩) g1⟩
theorem St.ofC {w : World} (hw : St β L w) (i : Nat) {E b cap : Nat} {C : Array Value} {rows : List (List Value)} (hi : L[i]? = some (blk b (.cells C E))) (hC : ∃ spare, C.toList = rows.flatten ++ spare) (hs : C.size = cap) (hr : ∀ r ∈ rows, r.length = 1) (hl : rows.length ≤ cap) :
    St β (L.set i (own E 1 (some ⟨b, 0, none⟩) cap rows)) w := by
  obtain ⟨spare, hC⟩ := hC
  have hb : w.heap[b]? = some (.cells C E (0,0)) := hw.inv i _ hi
  exact hw.conv i hi (fun k hk => hk.2) ⟨hl, hr, (fun q => by cases q), (fun a ha => by cases ha; exact ⟨rfl, rfl, C, spare, hb, hC, by rw [Nat.mul_one]; exact hs⟩)⟩
theorem shape_of {w : World} {b E : Nat} {C : Array Value} (h : w.heap[b]? = some (.cells C E (0,0))) : w.shape? b = some (E, C.size) := by simp [World.shape?, h]
theorem frozen_of {w : World} {b E o : Nat} {C : Array Value} (h : w.heap[b]? = some (.cells C E (0,0))) : w.frozen? ⟨b, o, none⟩ = false := by simp [World.frozen?, h]
/-- Two slices in two blocks do not overlap. -/
theorem LO.ovl {f : FuncId} {fn : Func} {x y : Operand} {T TB E z bv b la ca o lb cb : Nat} {Cv C : Array Value} {aT : Array TypeId} (hf : P.funcs[f]? = some fn) (hname : (fn.name == "runtime.NumGoroutine") = false) (hb : fn.body.isNone = true) (hn : Extern.findNext fn = none)
    (he : Extern.find fn = some (Extern.SlicesOverlaps.overlaps #[T, T] #[TB])) (hT : IsSlice P T E) (hz : (P.info? E).map (·.size) = some z) (hx : OV env x (.slice (some ⟨bv, 0, none⟩) la ca)) (hy : OV env y (.slice (some ⟨b, o, none⟩) lb cb))
    (hv : ∀ w, St β L w → w.heap[bv]? = some (.cells Cv E (0,0))) (hc : ∀ w, St β L w → w.heap[b]? = some (.cells C E (0,0))) (hne : bv ≠ b) (h0 : C.size ≠ 0) :
    LO P β env L ⟨d, .call ⟨.value (.func f), #[x, y], aT⟩, ty, pos, aft, g⟩ (.bool false) :=
  .of_run fun a w h hw => by
    have ex := h x (by simp [Op.operands, Call.operands]) _ hx
    have ey := h y (by simp [Op.operands, Call.operands]) _ hy
    have hs : ∀ w : World, (Go.sizeOf E).run P w = .ok z w := fun w => run_size hz w
    have hov : (callFunc f #[.slice (some ⟨bv, 0, none⟩) la ca, .slice (some ⟨b, o, none⟩) lb cb]).run P w = .ok (.value (.bool false)) w := by
      rw [run_callFunc_extern hf hname hb hn he, Lib.run_overlaps_apart w T TB E hT z hs ⟨bv, 0, none⟩ ⟨b, o, none⟩ la ca lb cb hne E E Cv.size C.size (shape_of (hv w hw)) (shape_of (hc w hw)) h0 (frozen_of (hv w hw)) (frozen_of (hv w hw))]
      rfl
    have ef : a.eval (.func f) = .func (.func f) #[] #[] := rfl
    exact ⟨w, by simp [execOp, resolve, ef, Deferred.ofValue, invoke, ex, ey, hov], hw⟩
/-- Zeros behind a slice for which there is no room: a new block. -/
theorem HO.apz (i : Nat) {K : Value → List Res → Prop} {x y : Operand} {T TN E by_ b n k cap : Nat} {zero : Value} {C : Array Value} {cs : List Value} {e : Int} (hT : IsSlice P T E) (hTN : P.underlying TN = some (.int .i64)) (hE : EInfo P E 1 by_ zero) (hzc : zero.cells = #[zero])
    (hx : OV env x (.slice (some ⟨b, 0, none⟩) n cap)) (hy : OV env y (.int .i64 e)) (he : e = (k : Int)) (hi : L[i]? = some (blk b (.cells C E))) (hcs : C.toList.take n = cs) (hcl : cs.length = n) (h0 : 0 < k) (hg : cap < n + k) (h63 : n + k ≤ 1000000) (h48 : (2 * (n + k) + 768) * by_ ≤ 281474976710656)
    (kk : ∀ b' C', (∃ spare, C'.toList = cs ++ List.replicate k zero ++ spare) → n + k ≤ C'.size → K (.slice (some ⟨b', 0, none⟩) (n + k) C'.size) (blk b' (.cells C' E) :: L)) : HO P β env L ⟨dd, .call ⟨.builtin .append, #[x, y], #[T, TN]⟩, ty, pos, aft, none⟩ K := by
  intro a w h hw
  have ex : a.eval x = .slice (some ⟨b, 0, none⟩) n cap := by obtain ⟨u, hu, e⟩ := hx; subst e; exact h x (by simp [Op.operands, Call.operands]) _ hu
  have ey : a.eval y = .int .i64 e := by obtain ⟨u, hu, e⟩ := hy; subst e; exact h y (by simp [Op.operands, Call.operands]) _ hu
  subst he
  obtain ⟨hz, hby, hze, hzz, hb0⟩ := hE
  have hb : w.heap[b]? = some (.cells C E (0,0)) := hw.inv i _ hi
  obtain ⟨i0, hi0, hsz⟩ := Option.map_eq_some_iff.1 hz
  have hbt : i0.bytes = by_ := by rw [hi0] at hby; exact Option.some.inj hby
  have hzr : i0.zero = some zero := by unfold ZeroOf at hze; rw [hi0] at hze; exact hze
  have hold : (Builtin.firstCells i0.size n (.slice (some ⟨b, 0, none⟩) n cap)).run P w.drew = .ok cs.toArray w.drew := by
    rw [hsz]
    refine run_firstCells_some w.drew 1 n ⟨b, 0, none⟩ n cap cs (by rw [hcl, Nat.mul_one]) fun j v hj => ?_
    have hj2 : C[j]? = some v := by
      rw [← hcs, List.getElem?_take] at hj
      split at hj
      · rw [← Array.getElem?_toList]; exact hj
      · cases hj
    have hjl : j < C.size := by rcases Nat.lt_or_ge j C.size with q | q; exact q; rw [Array.getElem?_eq_none q] at hj2; cases hj2
    show w.cell? (Addr.add ⟨b, 0, none⟩ j) = some v
    by_cases q : j = 0
    · subst q; simp [World.cell?, Addr.add, hb, hj2]
    · simp [World.cell?, Addr.add, q, hb, hj2]
  have hfit : Builtin.nextslicecap (n + k) cap * i0.bytes ≤ 281474976710656 := growslice_fits hg (by
    rw [hbt]
    have : (2 * (n + k) + 768) * by_ = 2 * ((n + k) * by_) + 768 * by_ := by rw [Nat.add_mul, Nat.mul_assoc]
    omega)
  have hkb : k * i0.bytes ≤ 281474976710656 := by
    rw [hbt]
    have h1 : (2 * (n + k) + 768) * by_ = 2 * (n * by_) + 2 * (k * by_) + 768 * by_ := by rw [Nat.add_mul, Nat.mul_add, Nat.add_mul, Nat.mul_assoc, Nat.mul_assoc]
    omega
  have hrun := Lib.run_append_grow_zeros w T TN ty E i0 zero .i64 .i64 hT hTN hi0 hzr (some ⟨b, 0, none⟩) n cap cs hold k h0 (by rw [hsz]; decide) hg (by omega) hkb hfit
  obtain ⟨G, hG⟩ : ∃ G, G = grownCap w (n + k) cap E := ⟨_, rfl⟩
  have hGn : n + k ≤ G := by rw [hG]; exact grownCap_ge w _ _ _
  have hzk : ∀ m, (Builtin.zeroCells zero.cells m).toList = List.replicate m zero := fun m => by
    rw [hzc]
    simp [Builtin.zeroCells]
    refine List.ext_getElem (by simp) fun j h1 h2 => ?_
    simp [Nat.mod_one]
  rw [← hG] at hrun
  have hszR : (cs.toArray ++ Builtin.zeroCells zero.cells k ++ Builtin.zeroCells zero.cells (G - (n + k))).size = G := by
    rw [← Array.length_toList]
    simp only [Array.toList_append, List.length_append, hzk, List.length_replicate]
    rw [hcl]; omega
  refine .inl ⟨.value (.slice (some ⟨w.heap.size, 0, none⟩) (n + k) G),_,_,_, ?_, .inl rfl, ?_, hw.drewn.alloc (.cells (cs.toArray ++ Builtin.zeroCells zero.cells k ++ Builtin.zeroCells zero.cells (G - (n + k))) E)⟩
  · simp [execOp, resolve, invoke, builtin, ex, ey, hrun]
  · have := kk w.heap.size (cs.toArray ++ Builtin.zeroCells zero.cells k ++ Builtin.zeroCells zero.cells (G - (n + k))) ⟨List.replicate (G - (n + k)) zero, by simp only [Array.toList_append, hzk]⟩ (by rw [hszR]; exact hGn)
    rw [hszR] at this
    exact this
end
end Go.SL

namespace Go.Proofs.YtffbohecdocajaaGreat
open Go.SL Go.Proofs Go.Pulse
set_option linter.unusedVariables false



def vV (y : VY) : Value := .slice y.p y.v.length y.c
theorem flat1 (l : List VY) : (l.map vC).flatten = l.map vV := by
  induction l with
  | nil => rfl
  | cons a l ih => rw [List.map_cons, List.flatten_cons, ih]; rfl
theorem ins_room {A S : List Value} {v : Value} {i : Nat} (hi : i < A.length) (hs : 0 < S.length) :
    (((A ++ S).take (i + 1) ++ A.drop i ++ (A ++ S).drop (i + 1 + (A.drop i).length)).take i ++ [v] ++ ((A ++ S).take (i + 1) ++ A.drop i ++ (A ++ S).drop (i + 1 + (A.drop i).length)).drop (i + [v].length)) = A.take i ++ v :: A.drop i ++ S.drop 1 := by
  have e1 : (A ++ S).take (i + 1) = A.take (i + 1) := by rw [List.take_append_of_le_length (by omega)]
  have e2 : (A ++ S).drop (i + 1 + (A.drop i).length) = S.drop 1 := by
    rw [List.length_drop, show i + 1 + (A.length - i) = A.length + 1 by omega, List.drop_append]
    simp
  have e3 : (A.take (i + 1)).length = i + 1 := by rw [List.length_take]; omega
  rw [e1, e2]
  have e4 : (A.take (i + 1) ++ A.drop i ++ S.drop 1).take i = A.take i := by
    rw [List.append_assoc, List.take_append_of_le_length (by omega), List.take_take, Nat.min_eq_left (by omega)]
  have e5 : (A.take (i + 1) ++ A.drop i ++ S.drop 1).drop (i + [v].length) = A.drop i ++ S.drop 1 := by
    rw [List.append_assoc, show i + [v].length = (A.take (i + 1)).length by rw [e3]; rfl, List.drop_left]
  rw [e4, e5]
  simp
theorem ins_grow {A S : List Value} {v z : Value} {i k : Nat} (hi : i < A.length) (hk : k = A.length + 1 - i) :
    (((A.take i ++ List.replicate k z ++ S).take i ++ [v] ++ (A.take i ++ List.replicate k z ++ S).drop (i + [v].length)).take (i + 1) ++ A.drop i ++ ((A.take i ++ List.replicate k z ++ S).take i ++ [v] ++ (A.take i ++ List.replicate k z ++ S).drop (i + [v].length)).drop (i + 1 + (A.drop i).length)) = A.take i ++ v :: A.drop i ++ S := by
  have e0 : (A.take i).length = i := by rw [List.length_take]; omega
  have e1 : (A.take i ++ List.replicate k z ++ S).take i = A.take i := by
    rw [List.append_assoc, List.take_append_of_le_length (by omega), List.take_take, Nat.min_self]
  have e2 : (A.take i ++ List.replicate k z ++ S).drop (i + [v].length) = List.replicate (k - 1) z ++ S := by
    rw [List.append_assoc, show i + [v].length = (A.take i).length + 1 by rw [e0]; rfl, List.drop_append, List.drop_of_length_le (by omega), List.nil_append, show (A.take i).length + 1 - (A.take i).length = 1 by omega]
    rw [List.drop_append, List.drop_replicate, List.length_replicate, show 1 - k = 0 by omega]; rfl
  rw [e1, e2]
  have e3 : (A.take i ++ [v]).length = i + 1 := by rw [List.length_append, e0]; rfl
  have e4 : (A.take i ++ [v] ++ (List.replicate (k - 1) z ++ S)).take (i + 1) = A.take i ++ [v] := by
    rw [← e3, List.take_left]
  have e5 : (A.take i ++ [v] ++ (List.replicate (k - 1) z ++ S)).drop (i + 1 + (A.drop i).length) = S := by
    rw [show i + 1 + (A.drop i).length = (A.take i ++ [v] ++ List.replicate (k - 1) z).length by rw [List.length_append, e3, List.length_drop, List.length_replicate]; omega, ← List.append_assoc, List.drop_left]
  rw [e4, e5]
  simp
theorem ins_flat {l : List VY} {x : VY} {i : Nat} : ((l.take i ++ x :: l.drop i).map vC).flatten = (l.map vV).take i ++ vV x :: (l.map vV).drop i := by
  rw [flat1, List.map_append, List.map_cons, List.map_take, List.map_drop]
theorem own_some {β : Bs} {L : List Res} {w : World} (hw : St β L w) (i : Nat) {E z cap : Nat} {p : Option Addr} {rows : List (List Value)} (hi : L[i]? = some (own E z p cap rows)) (h : 0 < rows.length) : ∃ b, p = some ⟨b, 0, none⟩ := by
  obtain ⟨h1, h2, h3, h4⟩ := hw.inv i _ hi
  cases p with
  | none => rw [(h3 rfl).1] at h; exact absurd h (Nat.lt_irrefl _)
  | some a =>
    obtain ⟨g1, g2,_⟩ := h4 a rfl
    exact ⟨a.block, by cases a; dsimp only at g1 g2; rw [g1, g2]⟩
theorem drop_at {α : Type} {l : List α} {i j : Nat} {v : α} (h : (l.drop i)[j]? = some v) : l[i + j]? = some v := by rwa [List.getElem?_drop] at h
theorem cell_blk {w : World} {b E o : Nat} {C : Array Value} (h : w.heap[b]? = some (.cells C E (0,0))) {j : Nat} {v : Value} (hj : C.toList[o + j]? = some v) : w.cell? (Addr.add ⟨b, o, none⟩ j) = some v := by
  have hj2 : C[o + j]? = some v := by rw [← Array.getElem?_toList]; exact hj
  by_cases q : j = 0
  · subst q; simp [World.cell?, Addr.add, h] at hj2 ⊢; exact hj2
  · simp [World.cell?, Addr.add, q, h, hj2]
theorem one_v {l : List VY} : ∀ u ∈ l.map vV, u.oneCell' = true := fun u hu => by
  obtain ⟨y,_, rfl⟩ := List.mem_map.1 hu; rfl
theorem min_r {a b c : Nat} (h : c = b) (k : b ≤ a) : c = Nat.min a b := by rw [h]; exact (Nat.min_eq_right k).symm
theorem min_l {a b c : Nat} (h : c = a) (k : a ≤ b) : c = Nat.min a b := by rw [h]; exact (Nat.min_eq_left k).symm

set_option maxRecDepth 20000 in
set_option maxHeartbeats 2000000 in
theorem Insert_c (l : List VY) (x : VY) (i : Nat) (p : Option Addr) (cap bv : Nat) (w : World) (hi : i ≤ l.length) (hn : l.length < 100000) (hh : Has w [own 45 1 p cap (l.map vC)]) (hv : ∀ L w2, St ⟨w, fpL [own 45 1 p cap (l.map vC)]⟩ L w2 → w2.heap[bv]? = some (.cells #[.slice x.p x.v.length x.c] 45 (0,0))) (hne : p ≠ none → bv ≠ pb p) :
  Calls Tryz.prog 165 #[.slice p l.length cap, .int .i64 (i : Nat), .slice (some ⟨bv, 0, none⟩) 1 1] w fun e w' => ∃ y : Option Addr × Nat, True ∧ e = .returned (.slice y.1 (l.length + 1) y.2) ∧ St ⟨w, fpL [own 45 1 p cap (l.map vC)]⟩ [own 45 1 y.1 y.2 ((l.take i ++ x :: l.drop i).map vC)] w' := by
  refine enterO (vs := [_,_,_]) (env := [(0,_), (1,_), (2,_)]) hh.enter Tryz.func165 rfl rfl rfl rfl ?_
  refine VC.seq ?_
  refine VC.reg (VO.l (LO.as (.r rfl)) rfl<|VO.nil ?_)
  refine VE.seqN ?_
  refine VC.seq ?_
  refine VC.reg (VO.l (LO.mv (.r rfl)) rfl<|VO.l (LO.mv (.r rfl)) rfl<|VO.l (LO.sl (l := i) S383 N45 (.r rfl) (.r rfl) rfl (by omega)) rfl<|VO.nil ?_)
  refine VE.seqN ?_
  refine VC.seq ?_
  refine VC.reg (VO.l (LO.mv (.r rfl)) rfl<|VO.l (LO.len S383 (.r rfl) rfl) rfl<|VO.l (LO.as (.r rfl)) rfl<|VO.nil ?_)
  refine VE.seqN ?_
  refine VC.seq ?_
  refine VC.seq ?_
  refine VC.reg (VO.l (LO.mv (.r rfl)) rfl<|VO.l (LO.eq (.r rfl) (.r rfl)) rfl<|VO.nil ?_)
  refine VE.seqN ?_
  refine VC.cond rfl (fun h16 => ?_) (fun h16 => ?_)
  ·
    (exfalso; omega)
  ·
    refine VC.skip (VE.seqN ?_)
    refine VC.seq ?_
    refine VC.reg (VO.l (LO.mv (.r rfl)) rfl<|VO.l (LO.len S383 (.r rfl) rfl) rfl<|VO.l (LO.as (.r rfl)) rfl<|VO.nil ?_)
    refine VE.seqN ?_
    refine VC.seq ?_
    refine VC.seq ?_
    refine VC.reg (VO.l (LO.mv (.r rfl)) rfl<|VO.l (LO.mv (.r rfl)) rfl<|VO.l (LO.eq (.r rfl) (.r rfl)) rfl<|VO.nil ?_)
    refine VE.seqN ?_
    refine VC.cond rfl (fun h22 => ?_) (fun h22 => ?_)
    ·
      refine VC.seq ?_
      refine VC.reg (VO.l (LO.mv (.r rfl)) rfl<|VO.l (LO.mv (.r rfl)) rfl<|VO.h rfl<|HO.appN (f := vC) (l := l) (m := [x]) 0 (fun R => [R]) S383 S383 I45 (.r rfl) (.r rfl) rfl (fun w hw => RO.ofC (fun _ => rfl) (cells_inv (hv _ _ hw))) (fun _ => rfl) (fun _ => rfl) rfl rfl (fun _ => rfl) rfl rfl (by omega) fun p2 c2 _ => VO.h rfl<|HO.lo (LO.as (.r rfl))<|VO.nil ?_)
      refine VE.seqN ?_
      refine VC.ret (VE.thenR (VE.res (vs := [_]) rfl ⟨rfl, trivial⟩ (fun w hw => ?_)))
      have hie : i = l.length := by omega
      subst hie
      exact ⟨(p2, c2), trivial, rfl, by rw [List.take_length, List.drop_length]; exact hw.sel [0] rfl⟩
    ·
      refine VC.pur (φ := ∃ b, p = some ⟨b, 0, none⟩) (fun w hw => own_some hw 0 rfl (by rw [List.length_map]; omega)) fun hb => ?_
      obtain ⟨b, rfl⟩ := hb
      refine VC.ex (φ := fun C : {C : Array Value // (∃ spare, C.toList = (l.map vC).flatten ++ spare) ∧ C.size = cap} => [blk b (.cells C.1 45)]) (fun w hw => by obtain ⟨C, h1, h2, h3⟩ := St.ownC hw 0 rfl; exact ⟨⟨C, h1, h2⟩, h3⟩) ?_
      rintro ⟨C, ⟨spare, hC⟩, hCs⟩
      dsimp only
      have hCl : l.length + spare.length = cap := by have := congrArg List.length hC; rw [Array.length_toList, flat1, List.length_append, List.length_map] at this; omega
      refine VC.skip (VE.seqN ?_)
      refine VC.seq ?_
      refine VC.seq ?_
      refine VC.reg (VO.l (LO.mv (.r rfl)) rfl<|VO.l (LO.mv (.r rfl)) rfl<|VO.l (LO.add (.r rfl) (.r rfl) (wi (by omega) (by omega))) rfl<|VO.l (LO.mv (.r rfl)) rfl<|VO.l (LO.cap S383 (.r rfl) rfl) rfl<|VO.l (LO.gt (.r rfl) (.r rfl)) rfl<|VO.nil ?_)
      refine VE.seqN ?_
      refine VC.cond rfl (fun h31 => ?_) (fun h31 => ?_)
      ·
        refine VC.seq ?_
        refine VC.reg (VO.l (LO.mv (.r rfl)) rfl<|VO.l (LO.mv (.r rfl)) rfl<|VO.l (LO.slH (k := i) S383 N45 (.r rfl) (.r rfl) rfl (by omega)) rfl<|VO.l (LO.mv (.r rfl)) rfl<|VO.l (LO.mv (.r rfl)) rfl<|VO.l (LO.add (.r rfl) (.r rfl) (wi (by omega) (by omega))) rfl<|VO.l (LO.mv (.r rfl)) rfl<|VO.l (LO.sub (.r rfl) (.r rfl) (wi (by omega) (by omega))) rfl<|VO.h rfl<|HO.apz 0 (n := i) (k := l.length + 1 - i) (cs := (l.map vV).take i) S383 Tryz.underlying3 I45 rfl (.r rfl) (.r rfl) (by omega) rfl (by rw [hC, flat1, List.take_append_of_le_length (by rw [List.length_map]; omega)]) (by rw [List.length_take, List.length_map]; omega) (by omega) (by omega) (by omega) (by omega) fun b2 C2 hC2 hC2n => VO.h rfl<|HO.lo (LO.as (.r rfl))<|VO.nil ?_)
        refine VE.seqN ?_
        refine VC.seq ?_
        refine VC.reg (VO.l (LO.mv (.r rfl)) rfl<|VO.l (LO.mv (.r rfl)) rfl<|VO.l (LO.eqv (LO.sl (l := i) S383 N45 (.r rfl) (.r rfl) rfl (by omega)) (congrArg (fun q => Value.slice q ((i + (l.length + 1 - i)) - i) (C2.size - i)) (slFrom_lt (by omega)))) rfl<|VO.l (LO.mv (.r rfl)) rfl<|VO.h rfl<|HO.cpy 0 (fun R => [R,_]) (cs := [vV x]) S383 N45 (.r rfl) (.r rfl) rfl (min_l rfl (by omega)) (fun w hw => cells_inv (hv _ _ hw)) (by simp only [List.length_singleton]; omega) (fun u hu => by rw [List.mem_singleton.1 hu]; rfl) rfl (fun _ => rfl)<|VO.nil ?_)
        refine VE.seqN ?_
        refine VC.seq ?_
        refine VC.drawH [[0,1], [1]] [some 0, some 0, some 0, some 0, some 0, some 0, some 0, some 0, none] mixed (by kernel_rfl) rfl (LX.l (fun _ hJ => LO.mv (.r rfl)) rfl<|LX.l (fun _ hJ => LO.mv (.r rfl)) rfl<|LX.l (fun _ hJ => LO.mv (.r rfl)) rfl<|LX.l (fun _ hJ => LO.add (.r rfl) (.r rfl) (wi (by omega) (by omega))) rfl<|LX.l (fun _ hJ => LO.eqv (LO.sl (l := (i + 1)) S383 N45 (.r rfl) (.r rfl) (by omega) (by omega)) (congrArg (fun q => Value.slice q ((i + (l.length + 1 - i)) - (i + 1)) (C2.size - (i + 1))) (slFrom_lt (by omega)))) rfl<|LX.l (fun _ hJ => LO.mv (.r rfl)) rfl<|LX.l (fun _ hJ => LO.mv (.r rfl)) rfl<|LX.l (fun _ hJ => LO.eqv (LO.sl (l := i) S383 N45 (.r rfl) (.r rfl) rfl (by omega)) (congrArg (fun q => Value.slice q (l.length - i) (cap - i)) (slFrom_lt (by omega)))) rfl<|LX.s<|LX.nil) (HX.s<|HX.s<|HX.s<|HX.s<|HX.s<|HX.s<|HX.s<|HX.s<|HX.h rfl<|HO.cpy 0 (fun R => [R,_]) (cs := ((l.map vV).drop i)) S383 N45 (.r rfl) (.r rfl) rfl (min_l (by rw [List.length_drop, List.length_map]) (by omega)) (fun w hw j v hj => cell_blk (hw.inv 1 _ rfl) (by rw [hC, flat1]; rw [List.getElem?_append_left (by have := (List.getElem?_eq_some_iff.1 hj).1; rw [List.length_drop] at this; omega)]; exact drop_at hj)) (by simp only [List.size_toArray, List.length_append, List.length_take, List.length_drop, List.length_map, List.length_singleton, Array.length_toList]; omega) (fun u hu => one_v u (List.mem_of_mem_drop hu)) rfl (fun _ => rfl)<|⟨fun _ hw => hw.sel [1] rfl, HX.nil ?_⟩)
        refine VE.seqN ?_
        refine VC.seq ?_
        refine VC.reg (VO.l (LO.mv (.r rfl)) rfl<|VO.l (LO.as (.r rfl)) rfl<|VO.nil ?_)
        refine VE.seqN ?_
        refine VC.ret (VE.thenR (VE.res (vs := [_]) rfl ⟨rfl, trivial⟩ (fun w hw => ?_)))
        obtain ⟨sp2, hC2⟩ := hC2
        refine ⟨(some ⟨b2,0, none⟩, C2.size), trivial, by rw [show i + (l.length + 1 - i) = l.length + 1 by omega]; rfl, ?_⟩
        have hz := St.ofC (rows := (l.take i ++ x :: l.drop i).map vC) (cap := C2.size) (hw.sel [0] rfl) 0 rfl ⟨sp2, ?_⟩ ?_ ?_ ?_
        · exact hz
        · rw [ins_flat]
          simp only [hC2]
          exact ins_grow (by rw [List.length_map]; omega) (by rw [List.length_map])
        · rw [← Array.length_toList]
          simp only [List.length_append, List.length_take, List.length_drop, List.length_map, Array.length_toList]
          rw [← Array.length_toList] at *
          simp only [List.length_append, List.length_take, List.length_drop, List.length_map, List.length_singleton] at *
          omega
        · intro r hr; obtain ⟨y,_, rfl⟩ := List.mem_map.1 hr; rfl
        · rw [List.length_map, List.length_append, List.length_cons, List.length_take, List.length_drop]; omega
      ·
        have hsp : 0 < spare.length := by omega
        refine VC.skip (VE.seqN ?_)
        refine VC.seq ?_
        refine VC.reg (VO.l (LO.mv (.r rfl)) rfl<|VO.l (LO.mv (.r rfl)) rfl<|VO.l (LO.mv (.r rfl)) rfl<|VO.l (LO.add (.r rfl) (.r rfl) (wi (by omega) (by omega))) rfl<|VO.l (LO.slH (k := (l.length + 1)) S383 N45 (.r rfl) (.r rfl) (by omega) (by omega)) rfl<|VO.l (LO.as (.r rfl)) rfl<|VO.nil ?_)
        refine VE.seqN ?_
        refine VC.seq ?_
        refine VC.seq ?_
        refine VC.reg (VO.l (LO.mv (.r rfl)) rfl<|VO.l (LO.mv (.r rfl)) rfl<|VO.l (LO.mv (.r rfl)) rfl<|VO.l (LO.mv (.r rfl)) rfl<|VO.l (LO.add (.r rfl) (.r rfl) (wi (by omega) (by omega))) rfl<|VO.l (LO.eqv (LO.sl (l := (i + 1)) S383 N45 (.r rfl) (.r rfl) (by omega) (by omega)) (congrArg (fun q => Value.slice q ((l.length + 1) - (i + 1)) (cap - (i + 1))) (slFrom_lt (by omega)))) rfl<|VO.l (LO.ovl (TB := 4) Tryz.func216 (by kernel_rfl) (by kernel_rfl) (by kernel_rfl) (by kernel_rfl) S383 N45 (.r rfl) (.r rfl) (fun w hw => hv _ _ hw) (fun w hw => hw.inv 0 _ rfl) (hne (by simp)) (by omega)) rfl<|VO.l (LO.not (.r rfl)) rfl<|VO.nil ?_)
        refine VE.seqN ?_
        refine VC.cond rfl (fun h68 => ?_) (fun h68 => ?_)
        ·
          refine VC.seq ?_
          refine VC.drawH [[0], []] [some 0, some 0, some 0, some 0, some 0, some 0, some 0, some 0, none] mixed (by kernel_rfl) rfl (LX.l (fun _ hJ => LO.mv (.r rfl)) rfl<|LX.l (fun _ hJ => LO.mv (.r rfl)) rfl<|LX.l (fun _ hJ => LO.mv (.r rfl)) rfl<|LX.l (fun _ hJ => LO.add (.r rfl) (.r rfl) (wi (by omega) (by omega))) rfl<|LX.l (fun _ hJ => LO.eqv (LO.sl (l := (i + 1)) S383 N45 (.r rfl) (.r rfl) (by omega) (by omega)) (congrArg (fun q => Value.slice q ((l.length + 1) - (i + 1)) (cap - (i + 1))) (slFrom_lt (by omega)))) rfl<|LX.l (fun _ hJ => LO.mv (.r rfl)) rfl<|LX.l (fun _ hJ => LO.mv (.r rfl)) rfl<|LX.l (fun _ hJ => LO.eqv (LO.sl (l := i) S383 N45 (.r rfl) (.r rfl) rfl (by omega)) (congrArg (fun q => Value.slice q ((l.length + 1) - i) (cap - i)) (slFrom_lt (by omega)))) rfl<|LX.s<|LX.nil) (HX.s<|HX.s<|HX.s<|HX.s<|HX.s<|HX.s<|HX.s<|HX.s<|HX.h rfl<|HO.cpy 0 (fun R => [R]) (cs := ((l.map vV).drop i)) S383 N45 (.r rfl) (.r rfl) rfl (min_r (by rw [List.length_drop, List.length_map]; omega) (by omega)) (fun w hw j v hj => cell_blk (hw.inv 0 _ rfl) (by rw [hC, flat1]; rw [List.getElem?_append_left (by have := (List.getElem?_eq_some_iff.1 hj).1; rw [List.length_drop] at this; omega)]; exact drop_at hj)) (by rw [List.length_drop, List.length_map]; omega) (fun u hu => one_v u (List.mem_of_mem_drop hu)) rfl (fun _ => rfl)<|⟨fun _ hw => hw.sel [] rfl, HX.nil ?_⟩)
          refine VE.seqN ?_
          refine VC.seq ?_
          refine VC.reg (VO.l (LO.mv (.r rfl)) rfl<|VO.l (LO.mv (.r rfl)) rfl<|VO.l (LO.eqv (LO.sl (l := i) S383 N45 (.r rfl) (.r rfl) rfl (by omega)) (congrArg (fun q => Value.slice q ((l.length + 1) - i) (cap - i)) (slFrom_lt (by omega)))) rfl<|VO.l (LO.mv (.r rfl)) rfl<|VO.h rfl<|HO.cpy 0 (fun R => [R]) (cs := [vV x]) S383 N45 (.r rfl) (.r rfl) rfl (min_l rfl (by omega)) (fun w hw => cells_inv (hv _ _ hw)) (by simp only [List.size_toArray, List.length_append, List.length_take, List.length_drop, List.length_map, List.length_singleton, Array.length_toList]; omega) (fun u hu => by rw [List.mem_singleton.1 hu]; rfl) rfl (fun _ => rfl)<|VO.nil ?_)
          refine VE.seqN ?_
          refine VC.seq ?_
          refine VC.reg (VO.l (LO.mv (.r rfl)) rfl<|VO.l (LO.as (.r rfl)) rfl<|VO.nil ?_)
          refine VE.seqN ?_
          refine VC.ret (VE.thenR (VE.res (vs := [_]) rfl ⟨rfl, trivial⟩ (fun w hw => ?_)))
          refine ⟨(some ⟨b, 0, none⟩, cap), trivial, rfl, ?_⟩
          have hz := St.ofC (rows := (l.take i ++ x :: l.drop i).map vC) (cap := cap) hw 0 rfl ⟨spare.drop 1, ?_⟩ ?_ ?_ ?_
          · exact hz
          · rw [ins_flat]
            simp only [hC, flat1]
            exact ins_room (by rw [List.length_map]; omega) hsp
          · simp only [List.size_toArray, List.length_append, List.length_take, List.length_drop, List.length_map, List.length_singleton, Array.length_toList]; omega
          · intro r hr; obtain ⟨y,_, rfl⟩ := List.mem_map.1 hr; rfl
          · rw [List.length_map, List.length_append, List.length_cons, List.length_take, List.length_drop]; omega
        ·
          (exfalso; (simp at h68))

end Go.Proofs.YtffbohecdocajaaGreat

namespace Go.Proofs.YtffbohecdocajaaGreat
open Go.SL Go.Proofs Go.Pulse
set_option linter.unusedVariables false
/-- A key of messages: radar, tilt, time. -/
abbrev KeyM := Fin 3 × Int × Int
abbrev nmV (r : Fin 3) : Value := .string (nmT r)
abbrev keyC (k : KeyM) : List Value := [.string (nmT k.1), .int .i64 k.2.1, .int .i64 k.2.2]
abbrev keyV (k : KeyM) : Value := triV nmV intV intV k
theorem nmT_inj {a b : Fin 3} (h : nmT a = nmT b) : a = b := by
  have := nmT_eq a b
  rw [h] at this
  simpa using this
def cmpK (a b : KeyM) : Int := orI [cmpI a.2.2 b.2.2, cmpI (fI a.1) (fI b.1), cmpI a.2.1 b.2.1]
theorem orI_3 {a b c : Int} : orI [a, b, c] = if a ≠ 0 then a else if b ≠ 0 then b else c := by
  show (if a ≠ 0 then a else if b ≠ 0 then b else if c ≠ 0 then c else 0) = _
  split
  · rfl
  · split
    · rfl
    · split <;> omega
theorem cmpK_lt {a b : KeyM} : cmpK a b < 0 ↔ a.2.2 < b.2.2 ∨ (a.2.2 = b.2.2 ∧ (fI a.1 < fI b.1 ∨ (fI a.1 = fI b.1 ∧ a.2.1 < b.2.1))) := by
  unfold cmpK
  rw [orI_3]
  have h1 := cmpI_lt (x := a.2.2) (y := b.2.2)
  have h2 := cmpI_0 (x := a.2.2) (y := b.2.2)
  have h3 := cmpI_lt (x := fI a.1) (y := fI b.1)
  have h4 := cmpI_0 (x := fI a.1) (y := fI b.1)
  have h5 := cmpI_lt (x := a.2.1) (y := b.2.1)
  generalize cmpI a.2.2 b.2.2 = x at *
  generalize cmpI (fI a.1) (fI b.1) = y at *
  generalize cmpI a.2.1 b.2.1 = z at *
  generalize fI a.1 = f1 at *
  generalize fI b.1 = f2 at *
  split
  · omega
  · split <;> omega
theorem cmpK_irr (a : KeyM) : ¬ cmpK a a < 0 := by rw [cmpK_lt]; omega
theorem cmpK_tr (a b c : KeyM) (h : cmpK a b < 0) (k : cmpK b c < 0) : cmpK a c < 0 := by
  rw [cmpK_lt] at *
  generalize fI a.1 = f1 at *
  generalize fI b.1 = f2 at *
  generalize fI c.1 = f3 at *
  omega
theorem cmpK_0 {a b : KeyM} (h1 : ¬ cmpK a b < 0) (h2 : ¬ cmpK b a < 0) : a = b := by
  rw [cmpK_lt] at h1 h2
  obtain ⟨r, t, s⟩ := a
  obtain ⟨r2, t2, s2⟩ := b
  dsimp only [fI] at h1 h2
  have e1 : r = r2 := Fin.ext (by omega)
  have e2 : t = t2 := by omega
  have e3 : s = s2 := by omega
  rw [e1, e2, e3]
/-- The keys of what is kept, in their order. -/
structure KeysOf (S : KeyM → List (List Span)) (ks : List KeyM) : Prop where
  s : ks.Pairwise fun a b => cmpK a b < 0
  m : ∀ k, k ∈ ks ↔ S k ≠ []
theorem KeysOf.uniq {S : KeyM → List (List Span)} {ks ks2 : List KeyM} (h : KeysOf S ks) (h2 : KeysOf S ks2) : ks = ks2 :=
  srt_uniq (lt := fun a b => cmpK a b < 0) cmpK_irr cmpK_tr h.s h2.s (fun k => by rw [h.m, h2.m])
/-- Different values of a key, as they lie. -/
structure TY where
  l : List VY
  p : Option Addr
  c : Nat
def dTY : TY := ⟨[], none, 0⟩
abbrev tV (e : TY) : Value := .slice e.p e.l.length e.c
abbrev tOwn (e : TY) : Res := own 45 1 e.p e.c (e.l.map vC)
/-- What a node keeps, and where it lies. -/
structure NdK (S : KeyM → List (List Span)) (M : KeyM → Option TY) (ts : List TY) (vs : List VY) : Prop where
  s : ∀ k, SrtV (S k)
  w : ∀ k v, v ∈ S k → v.length ≤ 36
  e : ∀ k e, M k = some e → (e ∈ ts ∧ ∀ y, y ∈ e.l → y ∈ vs) ∧ vls e.l = S k ∧ 0 < e.l.length
  n : ∀ k, M k = none → S k = []
theorem NdK.zero : NdK (fun _ => []) (fun _ => none) [] [] := ⟨fun _ => List.Pairwise.nil, fun _ _ h => (by cases h), fun _ _ h => (by cases h), fun _ _ => rfl⟩
section
variable {S : KeyM → List (List Span)} {M : KeyM → Option TY} {ts ts2 : List TY} {vs vs2 : List VY} {k : KeyM} {v : List Span}
theorem NdK.mono (h : NdK S M ts vs) (h1 : ∀ y, y ∈ ts → y ∈ ts2) (h2 : ∀ y, y ∈ vs → y ∈ vs2) : NdK S M ts2 vs2 :=
  ⟨h.s, h.w, fun k e q => by obtain ⟨⟨a, b⟩, c⟩ := h.e k e q; exact ⟨⟨h1 _ a, fun y hy => h2 _ (b y hy)⟩, c⟩, h.n⟩
theorem NdK.get (h : NdK S M ts vs) (k : KeyM) : vls ((M k).getD dTY).l = S k := by
  cases q : M k with
  | none => exact (h.n k q).symm
  | some e => exact (h.e k e q).2.1
theorem NdK.ne (h : NdK S M ts vs) (k : KeyM) : S k ≠ [] ↔ (M k).isSome = true := by
  cases q : M k with
  | none => simp [h.n k q]
  | some e =>
    obtain ⟨_, a, b⟩ := h.e k e q
    rw [← a]
    simp only [Option.isSome_some, iff_true, ne_eq]
    intro z
    have := congrArg List.length z
    rw [List.length_map] at this
    simp at this
    rw [this] at b
    exact absurd b (Nat.lt_irrefl _)
def updS (S : KeyM → List (List Span)) (k : KeyM) (l : List (List Span)) : KeyM → List (List Span) := fun m => if m = k then l else S m
theorem NdK.put (h : NdK S M ts vs) {vy : VY} {e : TY} (hv : ¬ vy.v ∈ S k) (hl : vy.v.length ≤ 36) (he : e.l = ((M k).getD dTY).l.take (posV (S k) vy.v) ++ vy :: ((M k).getD dTY).l.drop (posV (S k) vy.v)) : NdK (updS S k (insV (S k) vy.v)) (updG M k e) (e :: ts) (vy :: vs) := by
  have hg := h.get k
  have hin : vls e.l = insV (S k) vy.v := by
    unfold insV
    rw [he, ← hg]
    show List.map _ (_ ++ _ :: _) = _
    rw [List.map_append, List.map_cons, List.map_take, List.map_drop]
  have hold : ∀ y, y ∈ ((M k).getD dTY).l → y ∈ vs := fun y hy => by
    cases q : M k with
    | none => rw [q] at hy; cases hy
    | some e2 => rw [q] at hy; exact (h.e k e2 q).1.2 y hy
  refine ⟨fun m => ?_, fun m v hm => ?_, fun m e2 hm => ?_, fun m hm => ?_⟩
  · unfold updS
    split
    · exact insV_srt (h.s k) hv
    · exact h.s m
  · unfold updS at hm
    split at hm
    · rcases insV_mem.1 hm with q | q
      · rw [q]; exact hl
      · exact h.w k v q
    · exact h.w m v hm
  · unfold updG at hm
    unfold updS
    split at hm
    · rename_i q
      cases hm
      rw [if_pos q]
      refine ⟨⟨List.mem_cons_self, fun y hy => ?_⟩, hin, by rw [he, List.length_append, List.length_cons]; omega⟩
      rw [he] at hy
      rcases List.mem_append.1 hy with z | z
      · exact List.mem_cons_of_mem _ (hold y (List.mem_of_mem_take z))
      · rcases List.mem_cons.1 z with z | z
        · rw [z]; exact List.mem_cons_self
        · exact List.mem_cons_of_mem _ (hold y (List.mem_of_mem_drop z))
    · rename_i q
      rw [if_neg q]
      obtain ⟨⟨a, b⟩, c⟩ := h.e m e2 hm
      exact ⟨⟨List.mem_cons_of_mem _ a, fun y hy => List.mem_cons_of_mem _ (b y hy)⟩, c⟩
  · unfold updG at hm
    unfold updS
    split at hm
    · cases hm
    · rename_i q; rw [if_neg q]; exact h.n m hm
/-- How many messages a node has. -/
structure NdN (S : KeyM → List (List Span)) (c : Nat) : Prop where
  h : ∃ ps : List (KeyM × List Span), ps.Nodup ∧ (∀ k v, (k, v) ∈ ps ↔ v ∈ S k) ∧ c = ps.length
theorem NdN.zero : NdN (fun _ => []) 0 := ⟨[], List.nodup_nil, fun k v => ⟨fun h => (by cases h), fun h => (by cases h)⟩, rfl⟩
theorem NdN.put {c : Nat} (h : NdN S c) (hv : ¬ v ∈ S k) : NdN (updS S k (insV (S k) v)) (c + 1) := by
  obtain ⟨ps, h1, h2, h3⟩ := h.h
  refine ⟨(k, v) :: ps, List.nodup_cons.2 ⟨fun q => hv ((h2 k v).1 q), h1⟩, fun m u => ?_, by rw [List.length_cons, h3]⟩
  rw [List.mem_cons, h2]
  unfold updS
  by_cases q : m = k
  · subst q
    rw [if_pos rfl, insV_mem, Prod.mk.injEq]
    simp
  · rw [if_neg q, Prod.mk.injEq]
    simp [q]
theorem NdN.len {c : Nat} (h : NdN S c) (hs : SrtV (S k)) : (S k).length ≤ c := by
  obtain ⟨ps, h1, h2, h3⟩ := h.h
  have hn : (S k).Nodup := hs.imp fun {a b} q z => by rw [z] at q; exact cmpV_irr b q
  have hn2 : ((S k).map fun v => (k, v)).Nodup := by
    rw [List.nodup_iff_pairwise_ne, List.pairwise_map]
    exact (List.nodup_iff_pairwise_ne.1 hn).imp fun {a b} q z => q (Prod.mk.inj z).2
  have := List.Nodup.length_le_of_subset hn2 (l₂ := ps) fun x hx => by
    obtain ⟨v, hv, rfl⟩ := List.mem_map.1 hx
    exact (h2 k v).2 hv
  rw [List.length_map] at this
  omega
theorem NdN.uniq {c c2 : Nat} (h : NdN S c) (h2 : NdN S c2) : c = c2 := by
  obtain ⟨ps, a1, a2, a3⟩ := h.h
  obtain ⟨qs, b1, b2, b3⟩ := h2.h
  have l1 := List.Nodup.length_le_of_subset a1 (l₂ := qs) fun x hx => (b2 x.1 x.2).2 ((a2 x.1 x.2).1 hx)
  have l2 := List.Nodup.length_le_of_subset b1 (l₂ := ps) fun x hx => (a2 x.1 x.2).2 ((b2 x.1 x.2).1 hx)
  omega
/-- A node with a message more, if it is new. -/
def addS (S : KeyM → List (List Span)) (k : KeyM) (v : List Span) : KeyM → List (List Span) := if v ∈ S k then S else updS S k (insV (S k) v)
theorem addS_mem {m : KeyM} {u : List Span} : u ∈ addS S k v m ↔ u ∈ S m ∨ (m = k ∧ u = v) := by
  unfold addS
  split
  · rename_i q
    refine ⟨.inl, fun z => ?_⟩
    rcases z with z | ⟨rfl, rfl⟩
    · exact z
    · exact q
  · unfold updS
    split
    · rename_i q
      subst q
      rw [insV_mem]
      constructor
      · rintro (z | z)
        · exact .inr ⟨rfl, z⟩
        · exact .inl z
      · rintro (z | ⟨_, z⟩)
        · exact .inr z
        · exact .inl z
    · rename_i q
      exact ⟨.inl, fun z => z.resolve_right fun y => q y.1⟩
/-- What is kept follows from which messages there are. -/
theorem S_uniq {S S2 : KeyM → List (List Span)} (h : ∀ k, SrtV (S k)) (h2 : ∀ k, SrtV (S2 k)) (hm : ∀ k v, v ∈ S k ↔ v ∈ S2 k) : S = S2 := funext fun k => srtV_uniq (h k) (h2 k) (hm k)
end
end Go.Proofs.YtffbohecdocajaaGreat

namespace Go.Proofs.YtffbohecdocajaaGreat
open Go.SL Go.Proofs Go.Pulse
set_option linter.unusedVariables false

theorem F277_3 : FieldAt Tryz.prog 277 3 11 := ⟨_,_, Tryz.underlying277, rfl, rfl, 0, by kernel_rfl⟩
theorem O274 : IsOne Tryz.prog 274 := ⟨⟨_, Tryz.underlying274, rfl⟩, by kernel_rfl⟩
theorem F277_1 : FieldAt Tryz.prog 277 1 9 := ⟨_,_, Tryz.underlying277, rfl, rfl, 0, by kernel_rfl⟩
theorem O273 : IsOne Tryz.prog 273 := ⟨⟨_, Tryz.underlying273, rfl⟩, by kernel_rfl⟩
theorem F141_0 : FieldAt Tryz.prog 141 0 0 := ⟨_,_, Tryz.underlying141, rfl, rfl, 2, by kernel_rfl⟩
theorem F139_0 : FieldAt Tryz.prog 139 0 0 := ⟨_,_, Tryz.underlying139, rfl, rfl, 0, by kernel_rfl⟩
theorem Z270 : ZeroOf Tryz.prog 270 (.agg #[.string ByteArray.empty, .int .i64 0, .int .i64 0, .int .i64 0, .int .i64 0, .int .i64 0, .int .i64 0, .int .i64 0, .int .i64 0, .int .i64 0]) := by unfold ZeroOf; kernel_rfl
theorem F139_1 : FieldAt Tryz.prog 139 1 1 := ⟨_,_, Tryz.underlying139, rfl, rfl, 0, by kernel_rfl⟩
theorem C162 : IsFn Tryz.prog 162 := ⟨_, Tryz.func162, by decide, rfl⟩
theorem F139_2 : FieldAt Tryz.prog 139 2 2 := ⟨_,_, Tryz.underlying139, rfl, rfl, 0, by kernel_rfl⟩
theorem F141_1 : FieldAt Tryz.prog 141 1 3 := ⟨_,_, Tryz.underlying141, rfl, rfl, 0, by kernel_rfl⟩
theorem F277_0 : FieldAt Tryz.prog 277 0 0 := ⟨_,_, Tryz.underlying277, rfl, rfl, 8, by kernel_rfl⟩
theorem F131_0 : FieldAt Tryz.prog 131 0 0 := ⟨_,_, Tryz.underlying131, rfl, rfl, 4, by kernel_rfl⟩
theorem F88_3 : FieldAt Tryz.prog 88 3 3 := ⟨_,_, Tryz.underlying88, rfl, rfl, 0, by kernel_rfl⟩
theorem F88_4 : FieldAt Tryz.prog 88 4 4 := ⟨_,_, Tryz.underlying88, rfl, rfl, 0, by kernel_rfl⟩
theorem C161 : IsFn Tryz.prog 161 := ⟨_, Tryz.func161, by decide, rfl⟩
theorem A139 : IsAgg Tryz.prog 139 3 := ⟨⟨_, Tryz.underlying139, rfl⟩, by kernel_rfl⟩
theorem C163 : IsFn Tryz.prog 163 := ⟨_, Tryz.func163, by decide, rfl⟩


/-- A node, as it lies. -/
structure NdQ where
  w : Nat
  h : Nat
  nr : Nat
  pr : Option Addr
  cr : Nat
  rm : Nat
  km : Nat
  lm : Nat
abbrev ndL (q : NdQ) (c : Nat) : List Value := [.int .i64 0, .int .i64 0, .int .i64 1000, .int .i64 (q.w : Nat), .int .i64 (q.h : Nat), .int .i64 8000000, .int .i64 9000000, .slice q.pr q.nr q.cr, .int .i64 600, .map (some q.rm), .int .i64 0, .map (some q.km), .int .i64 (c : Nat), .map (some q.lm)]
abbrev ndB (b : Nat) (q : NdQ) (c : Nat) : Res := blk b (.cells (ndL q c).toArray 277)
abbrev mgC (k : KeyM) (v : List Span) (p : Option Addr) (c : Nat) : List Value := [.string (nmT k.1), .int .i64 k.2.1, .int .i64 k.2.2, .slice p v.length c]
def rdV : Option RdM → Value
  | none => .agg #[.string ByteArray.empty, .int .i64 0, .int .i64 0, .int .i64 0, .int .i64 0, .int .i64 0, .int .i64 0, .int .i64 0, .int .i64 0, .int .i64 0]
  | some a => .agg (rdC a).toArray
theorem cell9 : Cell1 Tryz.prog 9 nmV := cell1_nm Tryz.underlying9 O9 nmT_inj
theorem cell3 : Cell1 Tryz.prog 3 intV := cell1_int Tryz.underlying3 O3
theorem key9 : KeyE Tryz.prog 9 nmV := key_nm Tryz.underlying9 nmT_inj
theorem s3_139 : IsS3 Tryz.prog 139 9 3 3 := ⟨_,_,_, Tryz.underlying139, ⟨by decide, by decide, by decide⟩, ⟨rfl, rfl, rfl⟩, ⟨rfl, rfl, rfl⟩, by kernel_rfl⟩
theorem key139 : KeyE Tryz.prog 139 keyV := key_tri cell9 cell3 cell3 s3_139
theorem map273 : IsMapG Tryz.prog 273 nmV rdV none := ⟨_,_, Tryz.underlying273, key9, by unfold ZeroOf; kernel_rfl⟩
theorem map274 : IsMapG Tryz.prog 274 keyV tV dTY := ⟨_,_, Tryz.underlying274, key139, by unfold ZeroOf; kernel_rfl⟩
theorem mapR_keep {α δ : Type} {kE : α → Value} {vE : δ → Value} {b : Nat} {M : α → Option δ} {w0 w : World} {L : List Res} (h : (mapR kE vE b M).inv w0) (hw : St (bs w0) L w) : (mapR kE vE b M).inv w := by
  obtain ⟨es, c, h1, h2⟩ := h
  have hb : b < w0.heap.size := by
    rcases Nat.lt_or_ge b w0.heap.size with q | q
    · exact q
    · rw [Array.getElem?_eq_none q] at h1; cases h1
  exact ⟨es, c, (hw.fr b hb (fun f => f)).trans h1, h2⟩
/-- What lies there of a node. -/
structure NdW (w : World) (b : Nat) (q : NdQ) (c : Nat) (M : KeyM → Option TY) (ts : List TY) (vs : List VY) : Prop where
  B : Cells w ⟨b, 0, none⟩ (ndL q c)
  K : (mapR keyV tV q.km M).inv w
  T : ∀ e, e ∈ ts → RO 1 vC w e.p e.l
  V : ∀ y, y ∈ vs → Spans w y.p y.v
theorem NdW.of {β : Bs} {L : List Res} {w : World} {b : Nat} {q : NdQ} {c : Nat} {M : KeyM → Option TY} {ts : List TY} {vs : List VY} (hw : St β L w) (i1 i2 i3 i4 : Nat) (h1 : L[i1]? = some (ndB b q c)) (h2 : L[i2]? = some (mapR keyV tV q.km M)) (h3 : L[i3]? = some (bagD (ts.map tOwn))) (h4 : L[i4]? = some (bagD (vs.map vOwn))) : NdW w b q c M ts vs :=
  ⟨cells_inv (hw.inv i1 _ h1), hw.inv i2 _ h2, fun e he => own_inv_rows ((hw.inv i3 _ h3).1 _ (List.mem_map_of_mem he)), fun y hy => own_inv_rows ((hw.inv i4 _ h4).1 _ (List.mem_map_of_mem hy))⟩
theorem NdW.row {w : World} {b : Nat} {q : NdQ} {c : Nat} {S : KeyM → List (List Span)} {M : KeyM → Option TY} {ts : List TY} {vs : List VY} (h : NdW w b q c M ts vs) (hk : NdK S M ts vs) (k : KeyM) : RO 1 vC w ((M k).getD dTY).p ((M k).getD dTY).l ∧ ∀ y, y ∈ ((M k).getD dTY).l → Spans w y.p y.v ∧ y.v.length < 1000000 := by
  have hg := hk.get k
  cases q : M k with
  | none => exact ⟨⟨fun j r hr => by simp [dTY] at hr, fun _ => rfl, fun _ a ha => by cases ha⟩, fun y hy => by cases hy⟩
  | some e =>
    obtain ⟨⟨a, b⟩, c,_⟩ := hk.e k e q
    refine ⟨h.T e a, fun y hy => ⟨h.V y (b y hy), ?_⟩⟩
    have : y.v ∈ S k := by rw [← c]; exact List.mem_map_of_mem hy
    have := hk.w k _ this
    omega
theorem NdW.keep {w0 w : World} {L : List Res} {b : Nat} {q : NdQ} {c : Nat} {M : KeyM → Option TY} {ts : List TY} {vs : List VY} (h : NdW w0 b q c M ts vs) (hw : St (bs w0) L w) : NdW w b q c M ts vs :=
  ⟨cells_keep h.B w hw, mapR_keep h.K hw, fun e he => (h.T e he).keep w hw, fun y hy => (h.V y hy).keep w hw⟩
/-- A message is as it should be. -/
structure MgOk (q : NdQ) (R : Fin 3 → Option (Option RdM)) (k : KeyM) (v : List Span) : Prop where
  r : ∃ a, R k.1 = some (some a)
  t : 0 ≤ k.2.1 ∧ k.2.1 ≤ 256
  s : 0 ≤ k.2.2 ∧ k.2.2 ≤ 4294967296
  n : (q.w : Int) * (q.h : Int) = (v.length : Int)
  l : v.length ≤ 36
  v : ∀ s, s ∈ v → 0 ≤ s.lo ∧ s.lo ≤ s.hi ∧ s.hi ≤ 1000000
theorem lk_get {S : KeyM → List (List Span)} {M : KeyM → Option TY} {ts : List TY} {vs : List VY} (h : NdK S M ts vs) (k : KeyM) (n : Nat) (hn : (S k).length ≤ n) : ((M k).getD dTY).l.length ≤ n := by
  have := congrArg List.length (h.get k)
  rw [List.length_map] at this
  omega

set_option maxRecDepth 20000 in
theorem within_t (n lo hi : Int) (w : World) (h : lo ≤ n ∧ n ≤ hi) :
  Calls Tryz.prog 162 #[.int .i64 n, .int .i64 lo, .int .i64 hi] w fun e w' => e = .returned (.bool true) ∧ St (bs w) [] w' := by
  refine enter (vs := [_,_,_]) (env := [(0,_), (1,_), (2,_)]) Tryz.func162 rfl rfl rfl rfl ?_
  refine VC.seq ?_
  refine VC.reg (VO.l (LO.as (.r rfl)) rfl<|VO.nil ?_)
  refine VE.seqN ?_
  refine VC.seq ?_
  refine VC.reg (VO.l (LO.mv (.r rfl)) rfl<|VO.l (LO.mv (.r rfl)) rfl<|VO.l (LO.le (.r rfl) (.r rfl)) rfl<|VO.l (LO.mv (.r rfl)) rfl<|VO.lg rfl rfl (GD.t _) (fun hg => LO.mv (.r rfl)) rfl<|VO.lg rfl rfl (GD.t _) (fun hg => LO.mv (.r rfl)) rfl<|VO.lg rfl rfl (GD.t _) (fun hg => LO.le (.g hg rfl) (.g hg rfl)) rfl<|VO.l (LO.pkA (.r rfl) rfl rfl (.r rfl)) rfl<|VO.l (LO.as (.r rfl)) rfl<|VO.nil ?_)
  refine VE.seqN ?_
  refine VC.ret (VE.res (vs := [_]) rfl ⟨rfl, trivial⟩ (fun w hw => ?_))
  exact ⟨by rw [decide_eq_true h.1, decide_eq_true h.2]; rfl, hw.nil⟩

set_option maxRecDepth 20000 in
theorem inside_t (s : Span) (lo hi : Int) (w : World) (h : lo ≤ s.lo ∧ s.lo ≤ s.hi ∧ s.hi ≤ hi) :
  Calls Tryz.prog 161 #[spanV s, .int .i64 lo, .int .i64 hi] w fun e w' => e = .returned (.bool true) ∧ St (bs w) [] w' := by
  refine enter (vs := [_,_,_]) (env := [(0,_), (1,_), (2,_)]) Tryz.func161 rfl rfl rfl rfl ?_
  refine VC.seq ?_
  refine VC.reg (VO.h rfl<|HO.box (C := #[_,_]) rfl rfl fun b1 => VO.l (LO.as (.r rfl)) rfl<|VO.nil ?_)
  refine VE.seqN ?_
  refine VC.seq ?_
  refine VC.reg (VO.l (LO.mv (.r rfl)) rfl<|VO.l (LO.fa (r := 0) F25_0 (.r rfl) rfl) rfl<|VO.l (LO.ld O3 (.r rfl) (fun _ hw => cells_at hw 0 rfl ⟨_, rfl⟩)) rfl<|VO.l (LO.le (.r rfl) (.r rfl)) rfl<|VO.l (LO.mv (.r rfl)) rfl<|VO.lg rfl rfl (GD.t _) (fun hg => LO.fa (r := 0) F25_0 (.r rfl) rfl) rfl<|VO.lg rfl rfl (GD.t _) (fun hg => LO.ld O3 (.g hg rfl) (fun _ hw => cells_at hw 0 rfl ⟨_, rfl⟩)) rfl<|VO.lg rfl rfl (GD.t _) (fun hg => LO.fa (r := 1) F25_1 (.r rfl) rfl) rfl<|VO.lg rfl rfl (GD.t _) (fun hg => LO.ld O3 (.g hg rfl) (fun _ hw => cells_at hw 0 rfl ⟨_, rfl⟩)) rfl<|VO.lg rfl rfl (GD.t _) (fun hg => LO.le (.g hg rfl) (.g hg rfl)) rfl<|VO.l (LO.pkA (.r rfl) rfl rfl (.r rfl)) rfl<|VO.l (LO.mv (.r rfl)) rfl<|VO.lg rfl rfl (GD.t _) (fun hg => LO.fa (r := 1) F25_1 (.r rfl) rfl) rfl<|VO.lg rfl rfl (GD.t _) (fun hg => LO.ld O3 (.g hg rfl) (fun _ hw => cells_at hw 0 rfl ⟨_, rfl⟩)) rfl<|VO.lg rfl rfl (GD.t _) (fun hg => LO.mv (.r rfl)) rfl<|VO.lg rfl rfl (GD.t _) (fun hg => LO.le (.g hg rfl) (.g hg rfl)) rfl<|VO.l (LO.pkA (.r rfl) rfl rfl (.r rfl)) rfl<|VO.l (LO.as (.r rfl)) rfl<|VO.nil ?_)
  refine VE.seqN ?_
  refine VC.ret (VE.res (vs := [_]) rfl ⟨rfl, trivial⟩ (fun w hw => ?_))
  exact ⟨by rw [decide_eq_true h.1, decide_eq_true h.2.1, decide_eq_true h.2.2]; rfl, hw.nil⟩

set_option maxRecDepth 20000 in
theorem seen_c (s : Span) (w : World) :
  Calls Tryz.prog 102 #[spanV s] w fun e w' => e = .returned (.bool (decide (s.lo ≤ s.hi))) ∧ St (bs w) [] w' := by
  refine enter (vs := [_]) (env := [(0,_)]) Tryz.func102 rfl rfl rfl rfl ?_
  refine VC.seq ?_
  refine VC.reg (VO.h rfl<|HO.box (C := #[_,_]) rfl rfl fun b1 => VO.l (LO.as (.r rfl)) rfl<|VO.nil ?_)
  refine VE.seqN ?_
  refine VC.seq ?_
  refine VC.reg (VO.l (LO.fa (r := 0) F25_0 (.r rfl) rfl) rfl<|VO.l (LO.ld O3 (.r rfl) (fun _ hw => cells_at hw 0 rfl ⟨_, rfl⟩)) rfl<|VO.l (LO.fa (r := 1) F25_1 (.r rfl) rfl) rfl<|VO.l (LO.ld O3 (.r rfl) (fun _ hw => cells_at hw 0 rfl ⟨_, rfl⟩)) rfl<|VO.l (LO.le (.r rfl) (.r rfl)) rfl<|VO.l (LO.as (.r rfl)) rfl<|VO.nil ?_)
  refine VE.seqN ?_
  refine VC.ret (VE.res (vs := [_]) rfl ⟨rfl, trivial⟩ (fun w hw => ?_))
  exact ⟨rfl, hw.nil⟩

set_option maxRecDepth 20000 in
theorem apart_c (a b : Span) (w : World) :
  Calls Tryz.prog 106 #[spanV a, spanV b] w fun e w' => e = .returned (.bool (decide (b.hi < a.lo) || decide (a.hi < b.lo))) ∧ St (bs w) [] w' := by
  refine enter (vs := [_,_]) (env := [(0,_), (1,_)]) Tryz.func106 rfl rfl rfl rfl ?_
  refine VC.seq ?_
  refine VC.reg (VO.h rfl<|HO.box (C := #[_,_]) rfl rfl fun b1 => VO.h rfl<|HO.box (C := #[_,_]) rfl rfl fun b2 => VO.l (LO.as (.r rfl)) rfl<|VO.nil ?_)
  refine VE.seqN ?_
  refine VC.seq ?_
  refine VC.reg (VO.l (LO.fa (r := 0) F25_0 (.r rfl) rfl) rfl<|VO.l (LO.ld O3 (.r rfl) (fun _ hw => cells_at hw 1 rfl ⟨_, rfl⟩)) rfl<|VO.l (LO.fa (r := 1) F25_1 (.r rfl) rfl) rfl<|VO.l (LO.ld O3 (.r rfl) (fun _ hw => cells_at hw 0 rfl ⟨_, rfl⟩)) rfl<|VO.l (LO.gt (.r rfl) (.r rfl)) rfl<|VO.l (LO.mv (.r rfl)) rfl<|VO.lg rfl rfl (GD.f _) (fun hg => LO.fa (r := 0) F25_0 (.r rfl) rfl) rfl<|VO.lg rfl rfl (GD.f _) (fun hg => LO.ld O3 (.g hg rfl) (fun _ hw => cells_at hw 0 rfl ⟨_, rfl⟩)) rfl<|VO.lg rfl rfl (GD.f _) (fun hg => LO.fa (r := 1) F25_1 (.r rfl) rfl) rfl<|VO.lg rfl rfl (GD.f _) (fun hg => LO.ld O3 (.g hg rfl) (fun _ hw => cells_at hw 1 rfl ⟨_, rfl⟩)) rfl<|VO.lg rfl rfl (GD.f _) (fun hg => LO.gt (.g hg rfl) (.g hg rfl)) rfl<|VO.l (LO.pkO (.r rfl) (.r rfl) rfl rfl) rfl<|VO.l (LO.as (.r rfl)) rfl<|VO.nil ?_)
  refine VE.seqN ?_
  refine VC.ret (VE.res (vs := [_]) rfl ⟨rfl, trivial⟩ (fun w hw => ?_))
  exact ⟨rfl, hw.nil⟩

set_option maxRecDepth 20000 in
theorem nothing_c (bn : Nat) (q : NdQ) (c : Nat) (w : World) (hB : Cells w ⟨bn, 0, none⟩ (ndL q c)) :
  Calls Tryz.prog 92 #[.pointer (some ⟨bn, 0, none⟩)] w fun e w' => e = .returned (.bool false) ∧ St (bs w) [] w' := by
  refine enter (vs := [_]) (env := [(0,_)]) Tryz.func92 rfl rfl rfl rfl ?_
  refine VC.seq ?_
  refine VC.reg (VO.l (LO.as (.r rfl)) rfl<|VO.nil ?_)
  refine VE.seqN ?_
  refine VC.seq ?_
  refine VC.reg (VO.l (LO.mv (.r rfl)) rfl<|VO.l (LO.eqP1 ⟨_, Tryz.underlying133⟩ (.r rfl) (.r rfl)) rfl<|VO.l (LO.mv (.r rfl)) rfl<|VO.lg rfl rfl (GD.f _) (fun hg => LO.mv (.r rfl)) rfl<|VO.lg rfl rfl (GD.f _) (fun hg => LO.nc (.g hg rfl)) rfl<|VO.lg rfl rfl (GD.f _) (fun hg => LO.fa (r := 11) F277_3 (.g hg rfl) rfl) rfl<|VO.lg rfl rfl (GD.f _) (fun hg => LO.ld O274 (.g hg rfl) (cells_keep (sub_cells (off := 11) hB ⟨_, rfl⟩))) rfl<|VO.lg rfl rfl (GD.f _) (fun hg => LO.eqM ⟨_,_, Tryz.underlying274⟩ (.g hg rfl) (.r rfl)) rfl<|VO.l (LO.pkO (.r rfl) (.r rfl) rfl rfl) rfl<|VO.l (LO.as (.r rfl)) rfl<|VO.nil ?_)
  refine VE.seqN ?_
  refine VC.ret (VE.res (vs := [_]) rfl ⟨rfl, trivial⟩ (fun w hw => ?_))
  exact ⟨rfl, hw.nil⟩

set_option maxRecDepth 20000 in
set_option maxHeartbeats 1000000 in
theorem wrong_c (bn : Nat) (q : NdQ) (c : Nat) (R : Fin 3 → Option (Option RdM)) (k : KeyM) (v : List Span) (pv : Option Addr) (cv : Nat) (w : World) (hm : MgOk q R k v) (hB : Cells w ⟨bn, 0, none⟩ (ndL q c)) (hR : (mapR nmV rdV q.rm R).inv w) (hv : Spans w pv v) :
  Calls Tryz.prog 93 #[.pointer (some ⟨bn, 0, none⟩), .agg (mgC k v pv cv).toArray] w fun e w' => e = .returned (.int .i64 0) ∧ St (bs w) [] w' := by
  obtain ⟨a, ha⟩ := hm.r
  have hmn := hm.n
  have hml := hm.l
  refine enter (vs := [_,_]) (env := [(0,_), (1,_)]) Tryz.func93 rfl rfl rfl rfl ?_
  refine VC.seq ?_
  refine VC.reg (VO.h rfl<|HO.box (C := #[_,_,_,_]) rfl rfl fun b1 => VO.l (LO.as (.r rfl)) rfl<|VO.nil ?_)
  refine VE.seqN ?_
  refine VC.seq ?_
  refine VC.drawH [[0], [0], [0]] [some 1, some 1, some 1, some 1, some 1, some 1, some 1, some 1, some 1, some 1, some 2, none, none, some 2] mixed (by kernel_rfl) rfl (LX.l (fun _ hJ => LO.mv (.r rfl)) rfl<|LX.l (fun _ hJ => LO.nc (.r rfl)) rfl<|LX.l (fun _ hJ => LO.fa (r := 9) F277_1 (.r rfl) rfl) rfl<|LX.l (fun _ hJ => LO.ld O273 (.r rfl) (cells_keep (sub_cells (off := 9) hB ⟨_, rfl⟩))) rfl<|LX.l (fun _ hJ => LO.fa (r := 0) F141_0 (.r rfl) rfl) rfl<|LX.l (fun _ hJ => LO.fa (r := 0) F139_0 (.r rfl) rfl) rfl<|LX.l (fun _ hJ => LO.ld O9 (.r rfl) (fun _ hw => cells_at (hJ _ hw) 0 rfl ⟨_, rfl⟩)) rfl<|LX.l (fun _ hJ => LO.eqv (LO.lkG map273 (.r rfl) (.r rfl) (fun w hw => mapR_keep hR (hJ _ hw))) (show Value.tuple #[rdV ((R k.1).getD none), .bool (R k.1).isSome] = .tuple #[.agg (rdC a).toArray, .bool true] by rw [ha]; rfl)) rfl<|LX.l (fun _ hJ => LO.mv (.r rfl)) rfl<|LX.l (fun _ hJ => LO.ex (.r rfl) rfl) rfl<|LX.l (fun _ hJ => LO.ex (.r rfl) rfl) rfl<|LX.s<|LX.s<|LX.l (fun _ hJ => LO.as (.r rfl)) rfl<|LX.nil) (HX.s<|HX.s<|HX.s<|HX.s<|HX.s<|HX.s<|HX.s<|HX.s<|HX.s<|HX.s<|HX.s<|HX.h rfl<|HO.alloc (C := #[_,_,_,_,_,_,_,_,_,_]) Z270 rfl fun b4 => ⟨fun _ hw => hw.sel [1] rfl, HX.h0<|HO.st 0 (vs := [_,_,_,_,_,_,_,_,_,_]) (C' := [_,_,_,_,_,_,_,_,_,_]) (L' := [_,_]) N270 rfl rfl rfl rfl rfl rfl rfl rfl<|⟨fun _ hw => hw.sel [1] rfl, HX.s<|HX.nil ?_⟩⟩)
  refine VE.seqN ?_
  refine VC.seq ?_
  refine VC.block ?_
  refine VC.seq ?_
  refine VC.reg (VO.l (LO.mv (.r rfl)) rfl<|VO.l (LO.not (.r rfl)) rfl<|VO.l (LO.as (.r rfl)) rfl<|VO.nil ?_)
  refine VE.seqN ?_
  refine VC.cond rfl (fun h20 => ?_) (fun h20 => ?_)
  ·
    (exfalso; simp at h20)
  ·
    refine VC.seq ?_
    refine VC.reg (VO.l (LO.fa (r := 0) F141_0 (.r rfl) rfl) rfl<|VO.l (LO.fa (r := 1) F139_1 (.r rfl) rfl) rfl<|VO.l (LO.ld O3 (.r rfl) (fun _ hw => cells_at hw 1 rfl ⟨_, rfl⟩)) rfl<|VO.l (LO.call (xs := [_,_,_]) (vs := [_,_,_]) C162 ⟨(.r rfl), (.r rfl), (.r rfl), trivial⟩ (fun w _ => within_t _ _ _ w hm.t)) rfl<|VO.l (LO.not (.r rfl)) rfl<|VO.l (LO.mv (.r rfl)) rfl<|VO.lg rfl rfl (GD.f _) (fun hg => LO.fa (r := 0) F141_0 (.r rfl) rfl) rfl<|VO.lg rfl rfl (GD.f _) (fun hg => LO.fa (r := 2) F139_2 (.g hg rfl) rfl) rfl<|VO.lg rfl rfl (GD.f _) (fun hg => LO.ld O3 (.g hg rfl) (fun _ hw => cells_at hw 1 rfl ⟨_, rfl⟩)) rfl<|VO.lg rfl rfl (GD.f _) (fun hg => LO.call (xs := [_,_,_]) (vs := [_,_,_]) C162 ⟨(.g hg rfl), (.r rfl), (.r rfl), trivial⟩ (fun w _ => within_t _ _ _ w hm.s)) rfl<|VO.lg rfl rfl (GD.f _) (fun hg => LO.not (.g hg rfl)) rfl<|VO.l (LO.pkO (.r rfl) (.r rfl) rfl rfl) rfl<|VO.l (LO.as (.r rfl)) rfl<|VO.nil ?_)
    refine VE.seqN ?_
    refine VC.cond rfl (fun h23 => ?_) (fun h23 => ?_)
    ·
      (exfalso; simp at h23)
    ·
      refine VC.seq ?_
      refine VC.draw mixed (LL.l (LO.fa (r := 3) F141_1 (.r rfl) rfl) rfl<|LL.l (LO.ld O45 (.r rfl) (fun _ hw => cells_at hw 1 rfl ⟨_, rfl⟩)) rfl<|LL.l (LO.len S45 (.r rfl) rfl) rfl<|LL.l (LO.mv (.r rfl)) rfl<|LL.l (LO.nc (.r rfl)) rfl<|LL.l (LO.fa (r := 0) F277_0 (.r rfl) rfl) rfl<|LL.l (LO.fa (r := 0) F131_0 (.r rfl) rfl) rfl<|LL.l (LO.fa (r := 3) F88_3 (.r rfl) rfl) rfl<|LL.l (LO.ld O3 (.r rfl) (cells_keep (sub_cells (off := 3) hB ⟨_, rfl⟩))) rfl<|LL.l (LO.mv (.r rfl)) rfl<|LL.l (LO.nc (.r rfl)) rfl<|LL.l (LO.fa (r := 0) F277_0 (.r rfl) rfl) rfl<|LL.l (LO.fa (r := 0) F131_0 (.r rfl) rfl) rfl<|LL.l (LO.fa (r := 4) F88_4 (.r rfl) rfl) rfl<|LL.l (LO.ld O3 (.r rfl) (cells_keep (sub_cells (off := 4) hB ⟨_, rfl⟩))) rfl<|LL.l (LO.mul (.r rfl) (.r rfl) (wi (by omega) (by omega))) rfl<|LL.l (LO.ne (.r rfl) (.r rfl)) rfl<|LL.l (LO.as (.r rfl)) rfl<|LL.nil) (by kernel_rfl) ?_
      refine VE.seqN ?_
      refine VC.cond rfl (fun h36 => ?_) (fun h36 => ?_)
      ·
        (exfalso; omega)
      ·
        refine VC.skip (VE.inN (VE.seqN ?_))
        refine VC.seq ?_
        refine VC.seq ?_
        refine VC.reg (VO.l (LO.fa (r := 3) F141_1 (.r rfl) rfl) rfl<|VO.l (LO.ld O45 (.r rfl) (fun _ hw => cells_at hw 1 rfl ⟨_, rfl⟩)) rfl<|VO.l (LO.len S45 (.r rfl) rfl) rfl<|VO.l (LO.mv (.r rfl)) rfl<|VO.nil ?_)
        refine VE.seqN ?_
        refine VC.block ?_
        refine VC.loopK (α := Nat) 0 (fun gx => [(57, .int .i64 (gx : Nat))]) [(55,_), (56,_)] (fun gx => []) (fun gx => gx ≤ v.length) (fun gx => v.length - gx) 0 (by exact Nat.zero_le _) (.cons rfl (.cons rfl (.cons rfl .nil))) (fun _ h => h) ?_
        rintro i hi
        refine VC.seq ?_
        refine VC.reg (VO.l (LO.lt (.r rfl) (.r rfl)) rfl<|VO.nil ?_)
        refine VE.seqN ?_
        refine VC.seq ?_
        refine VC.cond rfl (fun h4 => ?_) (fun h4 => ?_)
        ·
          refine VC.skip (VE.seqN ?_)
          refine VC.seq ?_
          refine VC.block ?_
          refine VC.seq ?_
          refine VC.reg (VO.l (LO.ixs S45 N25 hv.sm (.r rfl) (.r rfl) rfl (by omega)) rfl<|VO.l (LO.lda (vs := [_,_]) A25 (.r rfl) (fun w hw => cells_part (off := 0) ((hv.at zs (j := i) (by omega)) w hw) ⟨_, rfl⟩) rfl) rfl<|VO.h rfl<|HO.alloc (C := #[_,_]) Z25 rfl fun b6 => VO.h0<|HO.st 0 (vs := [_,_]) (C' := [_,_]) (L' := [_,_,_]) N25 rfl rfl rfl rfl rfl rfl rfl rfl<|VO.nil ?_)
          refine VE.seqN ?_
          refine VC.seq ?_
          refine VC.reg (VO.l (LO.lda (vs := [_,_]) A25 (.r rfl) (fun _ hw => cells_at hw 0 rfl ⟨_, rfl⟩) rfl) rfl<|VO.l (LO.call (xs := [_,_,_]) (vs := [_,_,_]) C161 ⟨(.r rfl), (.r rfl), (.r rfl), trivial⟩ (fun w _ => inside_t (v.getD i zs) 0 1000000 w (hm.v _ (getD_mem (by omega))))) rfl<|VO.l (LO.not (.r rfl)) rfl<|VO.nil ?_)
          refine VE.seqN ?_
          refine VC.cond rfl (fun h63 => ?_) (fun h63 => ?_)
          ·
            (exfalso; simp at h63)
          ·
            refine VC.skip (VE.inN (VE.seqN ?_))
            refine VC.reg (VO.l (LO.add (.r rfl) (.r rfl) (wi (by omega) (by omega))) rfl<|VO.l (LO.mv (.r rfl)) rfl<|VO.nil ?_)
            refine VE.thenN fun a w ha hw => ⟨i + 1, (by omega), (by omega), ha.sub (.cons rfl (.cons rfl (.cons rfl .nil))), hw.sel [1,2] rfl⟩
        ·
          refine VC.exit (VE.thenX (VE.thenX (VE.inX (VE.seqN ?_))))
          refine VC.seq ?_
          refine VC.reg (VO.l (LO.as (.r rfl)) rfl<|VO.nil ?_)
          refine VE.seqN ?_
          refine VC.ret (VE.res (vs := [_]) rfl ⟨rfl, trivial⟩ (fun w hw => ?_))
          exact ⟨rfl, hw.nil⟩

set_option maxRecDepth 20000 in
set_option maxHeartbeats 1000000 in
theorem place_c (bn : Nat) (q : NdQ) (c : Nat) (S : KeyM → List (List Span)) (M : KeyM → Option TY) (ts : List TY) (vs : List VY) (k : KeyM) (v : List Span) (pv : Option Addr) (cv : Nat) (w : World) (hN : NdK S M ts vs) (hn : (S k).length ≤ 1000) (hvl : v.length ≤ 36) (hW : NdW w bn q c M ts vs) (hv : Spans w pv v) :
  Calls Tryz.prog 94 #[.pointer (some ⟨bn, 0, none⟩), .agg (mgC k v pv cv).toArray] w fun e w' => e = .returned (.tuple #[.int .i64 (posV (S k) v : Nat), .bool (decide (v ∈ S k))]) ∧ St (bs w) [] w' := by
  have hg := hN.get k
  have hln := lk_get hN k 1000 hn
  refine enter (vs := [_,_]) (env := [(0,_), (1,_)]) Tryz.func94 rfl rfl rfl rfl ?_
  refine VC.seq ?_
  refine VC.reg (VO.h rfl<|HO.box (C := #[_,_,_,_]) rfl rfl fun b1 => VO.l (LO.as (.r rfl)) rfl<|VO.l (LO.as (.r rfl)) rfl<|VO.nil ?_)
  refine VE.seqN ?_
  refine VC.seq ?_
  refine VC.draw mixed (LL.l (LO.mv (.r rfl)) rfl<|LL.l (LO.nc (.r rfl)) rfl<|LL.l (LO.fa (r := 11) F277_3 (.r rfl) rfl) rfl<|LL.l (LO.ld O274 (.r rfl) (cells_keep (sub_cells (off := 11) hW.B ⟨_, rfl⟩))) rfl<|LL.l (LO.fa (r := 0) F141_0 (.r rfl) rfl) rfl<|LL.l (LO.lda (vs := [_,_,_]) A139 (.r rfl) (fun _ hw => cells_at hw 0 rfl ⟨_, rfl⟩) rfl) rfl<|LL.l (LO.lkG1 (n := k) map274 (.r rfl) (.r rfl) (fun w hw => mapR_keep hW.K hw)) rfl<|LL.l (LO.fa (r := 3) F141_1 (.r rfl) rfl) rfl<|LL.l (LO.ld O45 (.r rfl) (fun _ hw => cells_at hw 0 rfl ⟨_, rfl⟩)) rfl<|LL.l (LO.call (xs := [_,_,_]) (vs := [_,_,_]) C163 ⟨(.r rfl), (.r rfl), (.r rfl), trivial⟩ (fun w hw => search_c ((M k).getD dTY).l v ((M k).getD dTY).p pv ((M k).getD dTY).c cv w (by omega) (by rw [hg]; exact hN.s k) ((hW.row hN k).1.keep w hw) (fun y hy => ⟨((hW.row hN k).2 y hy).1.keep w hw, ((hW.row hN k).2 y hy).2⟩) (by omega) (hv.keep w hw))) rfl<|LL.l (LO.ex (.r rfl) rfl) rfl<|LL.l (LO.ex (.r rfl) rfl) rfl<|LL.l (LO.as (.r rfl)) rfl<|LL.l (LO.as (.r rfl)) rfl<|LL.nil) (by kernel_rfl) ?_
  refine VE.seqN ?_
  refine VC.ret (VE.res (vs := [_,_]) rfl ⟨rfl, rfl, trivial⟩ (fun w hw => ?_))
  exact ⟨by rw [← hg]; rfl, hw.nil⟩

end Go.Proofs.YtffbohecdocajaaGreat
