/-
  Strings: lengths, bytes, pieces, comparisons, a rune as a string, a range over a string's runes; a scope that no jump crosses.
  DERIVED: THE SHELF's CONTRACTS AT THIS DUMP, IN PLAIN WORDS (tools/lay-plain.mjs out of 'TryShelf.lean', which tools/lay-shelf.mjs wrote): THE SAME DECLARATIONS UNDER THE SAME NAMES: 'import', 'namespace', 'open', 'def', 'theorem' AND NOTHING ELSE: no command of the shelf's: FOR A HAND-IN. Each laying: the table of numbers ('.._ren') and one theorem, a field a fact of the dump's own or the kernel's comparison; each contract: ONE APPLICATION.
  The predicate of names.
  Names.
  Services: what is valid.
  Services are checked by the program.
  Services are checked by the document.
  States at all leads.
  Threats of the program.
  Threats of the document.
  Threat of the document.
  What is recent.
  The memory of an office, and the hand of a step.
  A record meets a threat.
-/
import Derived.Test.YtdjflomhaljljaaKCNT04
import Derived.Laws.Strings3
import Derived.Laws.Runes
import Derived.Laws.RangeAny
import Derived.Lib.OthersKept
import Derived.Scope
import Derived.Shelf.Small.Utf8
import Derived.Shelf.Small.Strs
import Derived.Shelf.Small.Wraps
import Derived.Shelf.Strings.Search1
import Derived.Shelf.Strings.Runes
import Derived.Ground.Names2Prog
import Derived.Shelf.Slices.SearchI
import Derived.Shelf.Slices.Empties
import Derived.Test.YtdjflomhaljljaaProg

namespace Go.SL
set_option linter.unusedVariables false
open Go.RowKit

section
variable {P : Program} {ro : Option Nat} {β : Bs} {ds : List Deferred} {N : Nat} {env : Env} {L : List Res} {Q : Exit → Act → World → Prop}

theorem stepR_scopeI {b : Frame} {a : Act} {k : List Item} {cs : List Frame} {w : World} {c : Code} : step P (lone (b.atR a (.code (.scope c) :: k)) cs w) = .next (lone (b.atR a (.code c :: .inScope c :: k)) cs w) :=
  step_lone_go (by simp [stepG, stepG.exec, Frame.atR])
theorem stepR_inScopeI {b : Frame} {a : Act} {k : List Item} {cs : List Frame} {w : World} {c : Code} : step P (lone (b.atR a (.inScope c :: k)) cs w) = .next (lone (b.atR a k) cs w) :=
  step_lone_go (by simp [stepG, stepG.exec, Frame.atR])
theorem wpIn_scopeI {c : Code} {a : Act} {w : World} (h : c.wpIn (Wf ro) 0 P (Exit.noGoto Q) a w) : (Code.scope c).wpIn (Wf ro) 0 P Q a w := by
  intro b k cs hro hb hrm
  obtain ⟨e, a₁, w₁, hq, harr⟩ := h b (.inScope c :: k) cs hro hb hrm
  cases e with
  | normal => exact ⟨.normal, a₁, w₁, hq, .of_steps (.one (fenced_calm hb hrm rfl) stepR_scopeI) (StepsIn.trans harr (.one (fenced_calm hb hrm rfl) stepR_inScopeI))⟩
  | exit id => exact ⟨.exit id, a₁, w₁, hq, .of_steps (.one (fenced_calm hb hrm rfl) stepR_scopeI) ⟨fun k' hk => harr.1 k' (by simp [exitTo, hk]), fun hr hk => harr.2 hr (by simp [exitTo, hk])⟩⟩
  | goto l => exact hq.elim
  | ret => exact ⟨.ret, a₁, w₁, hq, ArrivesIn.of_steps (e := .ret) (.one (fenced_calm hb hrm rfl) stepR_scopeI) harr⟩
  | panic ch => exact ⟨.panic ch, a₁, w₁, hq, ArrivesIn.of_steps (e := .panic ch) (.one (fenced_calm hb hrm rfl) stepR_scopeI) harr⟩
  | outgrown => exact ⟨.outgrown, a₁, w₁, hq, ArrivesIn.of_steps (e := .outgrown) (.one (fenced_calm hb hrm rfl) stepR_scopeI) harr⟩

theorem VC.scope {c : Code} (h : VC P ro β N ds env L c (Exit.noGoto Q)) : VC P ro β N ds env L (.scope c) Q := fun a w ha hw => wpIn_scopeI (h a w ha hw)
theorem VE.scR (h : VE β N ds env L .ret Q) : VE β N ds env L .ret (Exit.noGoto Q) := fun a w ha hw => h a w ha hw
variable {d : Option Nat} {ty : TypeId} {pos : String} {aft : Array Edge} {g : Option (Nat × Bool)}
theorem LO.lenS {T : Nat} {x : Operand} {s : ByteArray} {aT : Array TypeId} (hT : P.underlying T = some .string) (hx : OV env x (.string s)) (ha : aT[0]? = some T) : LO P β env L ⟨d, .call ⟨.builtin .len, #[x], aT⟩, ty, pos, aft, g⟩ (.int .i64 s.size) :=
  .of_run fun a w h hw => ⟨w, by simp [execOp, resolve, invoke, builtin, h x (by simp [Op.operands, Call.operands]) _ hx, Builtin.len_, ha, run_underlying hT, goInt], hw⟩
theorem LO.ixS {T : Nat} {x i : Operand} {s : ByteArray} {k : IntKind} {e : Int} {j : Nat} (hT : P.underlying T = some .string) (hx : OV env x (.string s)) (hi : OV env i (.int k e)) (he : e = (j : Int)) (hj : j < s.size) : LO P β env L ⟨d, .index T x i, ty, pos, aft, g⟩ (.int .u8 ((s.data.toList.getD j 0).toNat : Int)) :=
  .of_run fun a w h hw => ⟨w, by
    subst he
    have hr := run_index_string (P := P) (w := w) T s k (j : Int) hT
    rw [dif_pos ⟨by omega, by omega⟩] at hr
    have e2 : (s[(j : Int).toNat]'(by omega)) = s.data.toList.getD j 0 := by
      have hl : j < s.data.toList.length := by rw [Array.length_toList]; exact hj
      simp only [Int.toNat_natCast, List.getD, List.getElem?_eq_getElem hl, Option.getD_some]
      rfl
    rw [e2] at hr
    simp [execOp, h x (by simp [Op.operands]) _ hx, h i (by simp [Op.operands]) _ hi, hr], hw⟩
theorem LO.slS {T : Nat} {x i : Operand} {s : ByteArray} {k : IntKind} {e : Int} (hT : P.underlying T = some .string) (hx : OV env x (.string s)) (hi : OV env i (.int k e)) (h0 : 0 ≤ e) (h1 : e ≤ (s.size : Int)) : LO P β env L ⟨d, .slice T x (some i) none none, ty, pos, aft, g⟩ (.string (s.extract e.toNat s.size)) :=
  .of_run fun a w h hw => ⟨w, by
    have hr := run_slice_string_from_if (P := P) (w := w) T s k e hT
    rw [if_pos ⟨h0, h1⟩] at hr
    simp [execOp, h x (by simp [Op.operands]) _ hx, h i (by simp [Op.operands]) _ hi, Instr.sliceAt, run_underlying hT, hr], hw⟩
theorem LO.cvS {sT dT : Nat} {x : Operand} {k : IntKind} {m : Int} (hs : ∃ d, P.underlying sT = some d) (hT : P.underlying dT = some .string) (hx : OV env x (.int k m)) : LO P β env L ⟨d, .convert sT dT x, ty, pos, aft, g⟩ (.string (Utf8.encode m)) :=
  .of_run fun a w h hw => ⟨w, by
    have hr := run_convert_int_string (P := P) w sT dT k m (Option.isSome_iff_exists.2 hs) hT
    simp [execOp, h x (by simp [Op.operands]) _ hx, hr], hw⟩
theorem LO.neS {xT yT : Nat} {x y : Operand} {s t : ByteArray} (hx : OV env x (.string s)) (hy : OV env y (.string t)) : LO P β env L ⟨d, .binOp .neq xT x y yT, ty, pos, aft, g⟩ (.bool (!(s.toList == t.toList))) :=
  .of_run fun a w h hw => ⟨w, by simp [execOp, h x (by simp [Op.operands]) _ hx, h y (by simp [Op.operands]) _ hy, eqGuard, binOp_string_neq], hw⟩

theorem LO.eqB {x y : Operand} {xT yT : TypeId} {a b : Bool} (hT : P.underlying xT = some .bool) (hx : OV env x (.bool a)) (hy : OV env y (.bool b)) :
    LO P β env L ⟨d, .binOp .eql xT x y yT, ty, pos, aft, g⟩ (.bool (decide (a = b))) :=
  .of_run fun ac w h hw => ⟨w, by
    have key : ∀ dd, (Op.equalIn (dd + 1) xT (.bool a) (.bool b)).run P w = .ok (a == b) w := fun dd => by simp [Op.equalIn, run_underlying hT]
    have e : (Op.equal xT (.bool a) (.bool b)).run P w = .ok (a == b) w := key 9999
    simp [execOp, h x (by simp [Op.operands]) _ hx, h y (by simp [Op.operands]) _ hy, eqGuard, binOp, e, Result.andThen_ok]
    cases a <;> cases b <;> rfl, hw⟩
section
variable {K : Value → List Res → Prop} {dd : Option Nat}
theorem HO.range {T : Nat} {x : Operand} {s : ByteArray} (hT : P.underlying T = some .string) (hx : ev env x = some (.string s)) (k : ∀ b, K (.pointer (some ⟨b, 0, none⟩)) (blk b (.stringIter s 0) :: L)) : HO P β env L ⟨dd, .range T x, ty, pos, aft, g⟩ K := by
  intro a w h hw
  refine .inl ⟨_, w.iter s 0,_,_, ?_, .inl rfl, k w.heap.size, hw.alloc _⟩
  simp [execOp, h x (by simp [Op.operands]) _ hx, run_range_string w T s hT]
theorem HO.nextT (i : Nat) (LF : Res → List Res) {x : Operand} {s : ByteArray} {b p : Nat} (hx : ev env x = some (.pointer (some ⟨b, 0, none⟩))) (hi : L[i]? = some (blk b (.stringIter s p))) (hL : ∀ R : Res, L.set i R = LF R) (hp : p < s.size)
    (k : K (.tuple #[.bool true, .int .i64 p, .int .i32 (Utf8.decode s p).1]) (LF (blk b (.stringIter s (p + (Utf8.decode s p).2))))) : HO P β env L ⟨dd, .next x true, ty, pos, aft, g⟩ K := by
  intro a w h hw
  have hb : w.heap[b]? = some (.stringIter s p) := hw.inv i _ hi
  refine .inl ⟨_, w.iterAt b s (p + (Utf8.decode s p).2),_,_, ?_, .inl rfl, k, ?_⟩
  · have := Go.Lib.run_next_any_at (P := P) w b s p ty hb hp
    simp [execOp, h x (by simp [Op.operands]) _ hx, this]
  · exact hw.upd hi (hL _).symm (Go.Lib.iterAt_heap w b s p _ hb) (fun j hj => Go.Lib.iterAt_other w b j s _ hj) (Go.Lib.iterAt_size w b s _) rfl rfl rfl
theorem HO.nextF (i : Nat) {x : Operand} {s : ByteArray} {b p : Nat} (hx : ev env x = some (.pointer (some ⟨b, 0, none⟩))) (hi : L[i]? = some (blk b (.stringIter s p))) (hp : ¬ p < s.size)
    (k : K (.tuple #[.bool false]) L) : HO P β env L ⟨dd, .next x true, ty, pos, aft, g⟩ K := by
  intro a w h hw
  have hb : w.heap[b]? = some (.stringIter s p) := hw.inv i _ hi
  refine .inl ⟨_, w,_,_, ?_, .inl rfl, k, hw⟩
  have := Go.Lib.run_next_end_at (P := P) w b s p ty hb hp
  simp [execOp, h x (by simp [Op.operands]) _ hx, this]
end
end

/-! ### What a string's runes come to -/
/-- The place at which the first rune with 'p r = truth' begins; -1: there is none. -/
def idxF (p : Nat → Bool) (s : ByteArray) : Nat → Nat → Int
  | 0,_ => -1
  | f + 1, q => if q < s.size then (if p (Utf8.decode s q).1 = true then (q : Int) else idxF p s f (q + (Utf8.decode s q).2)) else -1
theorem idxF_end {p : Nat → Bool} {s : ByteArray} : ∀ {f q : Nat}, ¬ q < s.size → idxF p s f q = -1
  | 0,_,_ => rfl
  | f + 1, q, h => by rw [idxF, if_neg h]
theorem decode_pos (s : ByteArray) (q : Nat) : 1 ≤ (Utf8.decode s q).2 := by
  simp only [Utf8.decode]
  repeat' split
  all_goals simp_all
/-- A byte that is no ASCII byte begins a rune that is none. -/
theorem idxF_bytes {p : Nat → Bool} {s : ByteArray} (h : ∀ r, 128 ≤ r → p r = true) : ∀ {f q : Nat}, s.size ≤ q + f → (idxF p s f q < 0 ↔ ∀ j, q ≤ j → j < s.size → p (s.data.toList.getD j 0).toNat = false)
  | 0, q, hf => by simp only [idxF]; exact ⟨fun _ j h1 h2 => by omega, fun _ => by decide⟩
  | f + 1, q, hf => by
    rw [idxF]
    by_cases hq : q < s.size
    · rw [if_pos hq]
      have eg : s.data.toList.getD q 0 = s[q]'hq := by
        have hl : q < s.data.toList.length := by rw [Array.length_toList]; exact hq
        simp only [List.getD, List.getElem?_eq_getElem hl, Option.getD_some]
        rfl
      by_cases ha : (s[q]'hq).toNat < 128
      · rw [decode_ascii s q hq ha]
        dsimp only
        by_cases hp : p (s[q]'hq).toNat = true
        · rw [if_pos hp]
          refine ⟨fun k => by omega, fun k => ?_⟩
          have := k q (Nat.le_refl _) hq
          rw [eg, hp] at this; cases this
        · rw [if_neg hp]
          rw [idxF_bytes h (f := f) (q := q + 1) (by omega)]
          refine ⟨fun k j h1 h2 => ?_, fun k j h1 h2 => k j (by omega) h2⟩
          by_cases e : j = q
          · subst e; rw [eg]; simpa using hp
          · exact k j (by omega) h2
      · have hd := decode_high s q hq (by omega)
        rw [if_pos (h _ hd.1)]
        refine ⟨fun k => by omega, fun k => ?_⟩
        have := k q (Nat.le_refl _) hq
        rw [eg, h _ (by omega)] at this; cases this
    · rw [if_neg hq]
      exact ⟨fun _ j h1 h2 => by omega, fun _ => by decide⟩
end Go.SL

namespace Go.Proofs
open Go.Shelf
def Try.lays137_ren : Go.Shelf.Ren := ⟨fun | 137 => 108 | 217 => 114 | 266 => 117 | n => n, fun | 9 => 9 | 5 => 5 | 3 => 3 | n => n, fun | n => n⟩
theorem Try.lays137 : Go.Proofs.Lays.n137 Try.prog Try.lays137_ren := {
  mixed := by kernel_rfl
  f137 := Try.func108.trans (congrArg some (by kernel_rfl))
  f217 := Try.func114.trans (congrArg some (by kernel_rfl))
  f266 := Try.func117.trans (congrArg some (by kernel_rfl))
  t3 := Try.underlying3
  a3 := Try.isAgg3
  z3 := Try.sizeOf3
  v3 := Try.zeroValue3
  t5 := Try.underlying5
  a5 := Try.isAgg5
  z5 := Try.sizeOf5
  v5 := Try.zeroValue5
  t9 := Try.underlying9
  a9 := Try.isAgg9
  z9 := Try.sizeOf9
  v9 := Try.zeroValue9 }
open Go.RowKit in
/-- strings.IndexByte: "IndexByte returns the index of the first instance of c in s, or -1 if c is not present in s.": IT RETURNS 'Lib.indexByte s c'; the world is as it was. (LAID: no walk: one application.) -/
theorem Try.strings_IndexByte (s : ByteArray) (c : Int) (w : World) :
    Calls Try.prog 108 #[.string s, .int .u8 c] w fun e w' => e = .returned (.int .i64 (Lib.indexByte s.data.toList c.toNat.toUInt8)) ∧ w' = w := Any.strings_IndexByte Try.lays137 s c w
def Try.laysNm225_ren : Go.Shelf.Ren := ⟨fun | 25 => 79 | 31 => 99 | 32 => 100 | 37 => 106 | n => n, fun | 22 => 55 | 3 => 3 | 4 => 4 | 40 => 224 | 0 => 0 | n => n, fun | n => n⟩
theorem Try.laysNm225 : Go.Proofs.Lays2.n25 Try.prog Try.laysNm225_ren := {
  mixed := by kernel_rfl
  f25 := Try.func79.trans (congrArg some (by kernel_rfl))
  f31 := Try.func99.trans (congrArg some (by kernel_rfl))
  f32 := Try.func100.trans (congrArg some (by kernel_rfl))
  f37 := Try.func106.trans (congrArg some (by kernel_rfl))
  t0 := Try.underlying0
  a0 := Try.isAgg0
  z0 := Try.sizeOf0
  v0 := Try.zeroValue0
  t3 := Try.underlying3
  a3 := Try.isAgg3
  z3 := Try.sizeOf3
  v3 := Try.zeroValue3
  t4 := Try.underlying4
  a4 := Try.isAgg4
  z4 := Try.sizeOf4
  v4 := Try.zeroValue4
  t22 := Try.underlying55
  a22 := Try.isAgg55
  z22 := Try.sizeOf55
  v22 := Try.zeroValue55
  t40 := Try.underlying224
  a40 := Try.isAgg224
  z40 := Try.sizeOf224
  v40 := Try.zeroValue224 }
open Go.RowKit Go.Lib in
/-- slices.BinarySearch at []int: "BinarySearch searches for target in a sorted slice and returns the earliest position where target is found, or the position where target would appear in the sort order; it also returns a bool saying whether the target is really found in the slice. The slice must be sorted in increasing order.": OF A SORTED SLICE IT RETURNS how many elements are less than the target, and whether the target is among the elements; the world is as it was but for the count of draws. 'zs': what the cells behind the slice's address hold; 'zs.take n': its elements. (Of a slice that is not sorted: no contract here.) (LAID: no walk: one application.) -/
theorem Try.slices_BinarySearch_int (b off n c : Nat) (zs : List Int) (x : Int) (w : World) (hz : n ≤ zs.length) (hbig : n < 4611686018427387904) (hc : ∀ j, j < zs.length → w.cell? ⟨b, off + j, none⟩ = some (.int .i64 (zs.getD j 0))) (hs : (zs.take n).Pairwise (· ≤ ·)) :
    Calls Try.prog 79 #[.slice (some ⟨b, off, none⟩) n c, .int .i64 x] w fun e w' => e = .returned (.tuple #[.int .i64 ((zs.take n).countP (· < x) : Nat), .bool ((zs.take n).contains x)]) ∧ ∃ q, w' = w.drewN q := Any.slices_BinarySearch_int Try.laysNm225 b off n c zs x w hz hbig hc hs
open Go.RowKit Go.Lib in
/-- slices.BinarySearch at []int of no element: position 0, not found; the world is as it was. (LAID: no walk: one application.) -/
theorem Try.slices_BinarySearch_int_empty (a : Option Addr) (c : Nat) (x : Int) (w : World) :
    Calls Try.prog 79 #[.slice a 0 c, .int .i64 x] w fun e w' => e = .returned (.tuple #[.int .i64 0, .bool false]) ∧ w' = w := Any.slices_BinarySearch_int_empty Try.laysNm225 a c x w
end Go.Proofs

namespace Go.Proofs.Ytdjflomhaljljaa
open Go.SL Go.Proofs Go.Cast
set_option linter.unusedVariables false

theorem C108 : IsFn Try.prog 108 := ⟨_, Try.func108, by decide, rfl⟩
theorem C109 : IsFn Try.prog 109 := ⟨_, Try.func109, by decide, rfl⟩
theorem C102 : IsFn Try.prog 102 := ⟨_, Try.func102, by decide, rfl⟩
theorem C84 : IsFn Try.prog 84 := ⟨_, Try.func84, by decide, rfl⟩
theorem C83 : IsFn Try.prog 83 := ⟨_, Try.func83, by decide, rfl⟩
theorem C107 : IsFn Try.prog 107 := ⟨_, Try.func107, by decide, rfl⟩
theorem C101 : IsFn Try.prog 101 := ⟨_, Try.func101, by decide, rfl⟩


theorem getD_mem {α : Type} {l : List α} {d : α} {j : Nat} (hj : j < l.length) : l.getD j d ∈ l := by
  rw [List.getD_eq_getElem?_getD, List.getElem?_eq_getElem hj]; exact List.getElem_mem hj
def hayS : ByteArray := ⟨#[97,98,99,100,101,102,103,104,105,106,107,108,109,110,111,112,113,114,115,116,117,118,119,120,121,122,48,49,50,51,52,53,54,55,56,57,95]⟩
/-- What may stand in a name. -/
def nameR (r : Nat) : Bool := (decide (97 ≤ r) && decide (r ≤ 122)) || (decide (48 ≤ r) && decide (r ≤ 57)) || decide (r = 95)
def pN (r : Nat) : Bool := !nameR r
theorem pN_high (r : Nat) (h : 128 ≤ r) : pN r = true := by unfold pN nameR; simp; omega
theorem hay_ascii : ∀ b ∈ hayS.data.toList, b.toNat < 128 := by decide
theorem hay_has : ∀ n : Fin 128, decide (0 ≤ Lib.indexByte hayS.data.toList n.val.toUInt8) = nameR n.val := by decide +kernel
def runeIx (s : ByteArray) (r : Int) : Int := if r < 128 then Lib.indexByte s.data.toList r.toNat.toUInt8 else -1
theorem hay_rune (r : Nat) : decide (0 ≤ runeIx hayS (r : Int)) = nameR r := by
  unfold runeIx
  by_cases h : r < 128
  · rw [if_pos (by omega)]
    exact hay_has ⟨r, h⟩
  · rw [if_neg (by omega)]
    have := pN_high r (by omega)
    unfold pN at this
    simp at this
    rw [this]; rfl
theorem u8_of {r : Int} (h0 : 0 ≤ r) (h1 : r < 128) : IntKind.u8.wrap r = r := by
  have e : r % 256 = r := by omega
  unfold IntKind.wrap
  simp [IntKind.bits, IntKind.signed, e]
theorem St.of_eq {w w' : World} (h : w' = w) : St (bs w) [] w' := by subst h; exact St.refl _
theorem byteN (c : UInt8) : ((c.toNat : Nat) : Int).toNat.toUInt8 = c := by simp
theorem enc_f {r : Int} (hv : Lib.validRune r = true) (h : 128 ≤ r) : 2 ≤ (Utf8.encode r).size ∧ (Utf8.encode r).size ≤ 4 ∧ 128 ≤ ((Utf8.encode r).data.toList.getD ((Utf8.encode r).size - 1) 0).toNat := by
  have hv2 : Utf8.valid r = true := by rw [validRune_eq]; exact hv
  obtain ⟨h1, h2, h3⟩ := encode_facts r hv2 h
  refine ⟨h1, h2, ?_⟩
  have hl : (Utf8.encode r).size - 1 < (Utf8.encode r).data.toList.length := by
    rw [Array.length_toList]; exact (show (Utf8.encode r).size - 1 < (Utf8.encode r).size by omega)
  have := h3 (by omega)
  simp only [List.getD, List.getElem?_eq_getElem hl, Option.getD_some]
  exact this
theorem byte_lt {s : ByteArray} (hs : ∀ b ∈ s.data.toList, b.toNat < 128) (j : Nat) : (s.data.toList.getD j 0).toNat < 128 := by
  rcases Nat.lt_or_ge j s.data.toList.length with h | h
  · exact hs _ (getD_mem h)
  · rw [List.getD_eq_getElem?_getD, List.getElem?_eq_none h]; decide
theorem ix_none {s : ByteArray} {a e : Nat} {c : UInt8} (hs : ∀ b ∈ s.data.toList, b.toNat < 128) (hc : 128 ≤ c.toNat) : Lib.indexByte (s.extract a e).data.toList ((c.toNat : Nat) : Int).toNat.toUInt8 = -1 := by
  rw [byteN, ← Lib.firstIdx_eq]; exact firstIdx_ascii s a e c hs hc
theorem dec_lt {s : ByteArray} (hs : ∀ b ∈ s.data.toList, b.toNat < 128) {q : Nat} (hq : q < s.size) : (Utf8.decode s q).1 < 128 := by
  have h : (s[q]'hq).toNat < 128 := hs _ (Array.getElem_mem_toList (xs := s.data) hq)
  rw [decode_ascii s q hq h]; exact h

set_option maxRecDepth 20000 in
theorem validRune_c (r : Int) (w : World) :
  Calls Try.prog 109 #[.int .i32 r] w fun e w' => e = .returned (.bool (Lib.validRune r)) ∧ St (bs w) [] w' := by
  refine enter (vs := [_]) (env := [(0,_)]) Try.func109 rfl rfl rfl rfl ?_
  refine VC.seq ?_
  refine VC.reg (VO.l (LO.as (.r rfl)) rfl<|VO.nil ?_)
  refine VE.seqN ?_
  refine VC.seq ?_
  refine VC.block ?_
  refine VC.seq ?_
  refine VC.reg (VO.l (LO.mv (.r rfl)) rfl<|VO.l (LO.le (.r rfl) (.r rfl)) rfl<|VO.l (LO.mv (.r rfl)) rfl<|VO.lg rfl rfl (GD.t _) (fun hg => LO.mv (.r rfl)) rfl<|VO.lg rfl rfl (GD.t _) (fun hg => LO.lt (.g hg rfl) (.r rfl)) rfl<|VO.l (LO.pkA (.r rfl) rfl rfl (.r rfl)) rfl<|VO.l (LO.as (.r rfl)) rfl<|VO.nil ?_)
  refine VE.seqN ?_
  refine VC.cond rfl (fun h1 => ?_) (fun h1 => ?_)
  ·
    refine VC.seq ?_
    refine VC.reg (VO.l (LO.as (.r rfl)) rfl<|VO.nil ?_)
    refine VE.seqN ?_
    refine VC.ret (VE.inR (VE.thenR (VE.res (vs := [_]) rfl ⟨rfl, trivial⟩ (fun w hw => ?_))))
    exact ⟨by simp only [resV, Lib.validRune]; first | rw [decide_eq_true (show (0 ≤ r ∧ r < 0xD800) ∨ (0xDFFF < r ∧ r ≤ 0x10FFFF) by omega)] | rw [decide_eq_false (show ¬ ((0 ≤ r ∧ r < 0xD800) ∨ (0xDFFF < r ∧ r ≤ 0x10FFFF)) by omega)], hw.nil⟩
  ·
    refine VC.seq ?_
    refine VC.reg (VO.l (LO.mv (.r rfl)) rfl<|VO.l (LO.lt (.r rfl) (.r rfl)) rfl<|VO.l (LO.mv (.r rfl)) rfl<|VO.lg rfl rfl (GD.t _) (fun hg => LO.mv (.r rfl)) rfl<|VO.lg rfl rfl (GD.t _) (fun hg => LO.le (.g hg rfl) (.r rfl)) rfl<|VO.l (LO.pkA (.r rfl) rfl rfl (.r rfl)) rfl<|VO.l (LO.as (.r rfl)) rfl<|VO.nil ?_)
    refine VE.seqN ?_
    refine VC.cond rfl (fun h2 => ?_) (fun h2 => ?_)
    ·
      refine VC.seq ?_
      refine VC.reg (VO.l (LO.as (.r rfl)) rfl<|VO.nil ?_)
      refine VE.seqN ?_
      refine VC.ret (VE.inR (VE.thenR (VE.res (vs := [_]) rfl ⟨rfl, trivial⟩ (fun w hw => ?_))))
      exact ⟨by simp only [resV, Lib.validRune]; first | rw [decide_eq_true (show (0 ≤ r ∧ r < 0xD800) ∨ (0xDFFF < r ∧ r ≤ 0x10FFFF) by omega)] | rw [decide_eq_false (show ¬ ((0 ≤ r ∧ r < 0xD800) ∨ (0xDFFF < r ∧ r ≤ 0x10FFFF)) by omega)], hw.nil⟩
    ·
      refine VC.skip (VE.inN (VE.seqN ?_))
      refine VC.seq ?_
      refine VC.reg (VO.l (LO.as (.r rfl)) rfl<|VO.nil ?_)
      refine VE.seqN ?_
      refine VC.ret (VE.res (vs := [_]) rfl ⟨rfl, trivial⟩ (fun w hw => ?_))
      exact ⟨by simp only [resV, Lib.validRune]; first | rw [decide_eq_true (show (0 ≤ r ∧ r < 0xD800) ∨ (0xDFFF < r ∧ r ≤ 0x10FFFF) by omega)] | rw [decide_eq_false (show ¬ ((0 ≤ r ∧ r < 0xD800) ∨ (0xDFFF < r ∧ r ≤ 0x10FFFF)) by omega)], hw.nil⟩

set_option maxRecDepth 20000 in
theorem indexRune_c (s : ByteArray) (r : Int) (w : World) (h0 : 0 ≤ r) (hs : ∀ b ∈ s.data.toList, b.toNat < 128) (h4 : 4 ≤ s.size) (h5 : s.size < 100000) :
  Calls Try.prog 102 #[.string s, .int .i32 r] w fun e w' => e = .returned (.int .i64 (runeIx s r)) ∧ St (bs w) [] w' := by
  refine enter (vs := [_,_]) (env := [(0,_), (1,_)]) Try.func102 rfl rfl rfl rfl ?_
  refine VC.seq ?_
  refine VC.reg (VO.l (LO.as (.r rfl)) rfl<|VO.nil ?_)
  refine VE.seqN ?_
  refine VC.block ?_
  refine VC.seq ?_
  refine VC.reg (VO.l (LO.mv (.r rfl)) rfl<|VO.l (LO.le (.r rfl) (.r rfl)) rfl<|VO.l (LO.mv (.r rfl)) rfl<|VO.lg rfl rfl (GD.t _) (fun hg => LO.mv (.r rfl)) rfl<|VO.lg rfl rfl (GD.t _) (fun hg => LO.lt (.g hg rfl) (.r rfl)) rfl<|VO.l (LO.pkA (.r rfl) rfl rfl (.r rfl)) rfl<|VO.l (LO.as (.r rfl)) rfl<|VO.nil ?_)
  refine VE.seqN ?_
  refine VC.cond rfl (fun h160 => ?_) (fun h160 => ?_)
  ·
    refine VC.seq ?_
    refine VC.reg (VO.l (LO.mv (.r rfl)) rfl<|VO.l (LO.mv (.r rfl)) rfl<|VO.l (LO.cv ⟨_, Try.underlying21⟩ Try.underlying5 (.r rfl) (u8_of (by omega) (by omega))) rfl<|VO.l (LO.call (xs := [_,_]) (vs := [_,_]) C108 ⟨(.r rfl), (.r rfl), trivial⟩ (fun w _ => (Try.strings_IndexByte s r w).mono fun e w' q => ⟨q.1, St.of_eq q.2⟩)) rfl<|VO.l (LO.as (.r rfl)) rfl<|VO.nil ?_)
    refine VE.seqN ?_
    refine VC.ret (VE.inR (VE.res (vs := [_]) rfl ⟨rfl, trivial⟩ (fun w hw => ?_)))
    first | exact ⟨by simp only [resV, runeIx]; rw [if_pos (by omega)], hw.nil⟩ | exact ⟨by simp only [resV, runeIx]; rw [if_neg (by omega)], hw.nil⟩
  ·
    refine VC.seq ?_
    refine VC.reg (VO.l (LO.mv (.r rfl)) rfl<|VO.l (LO.eq (.r rfl) (.r rfl)) rfl<|VO.l (LO.as (.r rfl)) rfl<|VO.nil ?_)
    refine VE.seqN ?_
    refine VC.cond rfl (fun h171 => ?_) (fun h171 => ?_)
    ·
      refine VC.seq ?_
      refine VC.seq ?_
      refine VC.reg (VO.l (LO.mv (.r rfl)) rfl<|VO.h rfl<|HO.range Try.underlying9 rfl fun b1 => VO.nil ?_)
      refine VE.seqN ?_
      refine VC.block ?_
      refine VC.loopK (α := Nat) 1 (fun gx => []) [(175,_)] (fun gx => [blk b1 (.stringIter s gx)]) (fun gx => True) (fun gx => s.size - gx) 0 (by exact trivial) (.cons rfl .nil) (fun _ h => h) ?_
      rintro q _
      refine VC.seq ?_
      by_cases hps : q < s.size
      ·
        refine VC.reg (VO.h rfl<|HO.nextT 0 (fun R => [R]) rfl rfl (fun _ => rfl) hps<|VO.h rfl<|HO.lo (LO.ex (.r rfl) rfl)<|VO.nil ?_)
        refine VE.seqN ?_
        refine VC.seq ?_
        refine VC.cond rfl (fun h177 => ?_) (fun h177 => ?_)
        ·
          refine VC.skip (VE.seqN ?_)
          refine VC.block ?_
          refine VC.seq ?_
          refine VC.reg (VO.l (LO.ex (.r rfl) rfl) rfl<|VO.l (LO.ex (.r rfl) rfl) rfl<|VO.l (LO.as (.r rfl)) rfl<|VO.l (LO.as (.r rfl)) rfl<|VO.nil ?_)
          refine VE.seqN ?_
          refine VC.seq ?_
          have hdc := dec_lt hs hps
          refine VC.reg (VO.l (LO.mv (.r rfl)) rfl<|VO.l (LO.eq (.r rfl) (.r rfl)) rfl<|VO.nil ?_)
          refine VE.seqN ?_
          refine VC.cond rfl (fun h181 => ?_) (fun h181 => ?_)
          ·
            (exfalso; omega)
          ·
            refine VC.skip (VE.inN ?_)
            refine VE.thenN fun a w ha hw => ⟨q + (Utf8.decode s q).2, trivial, (by have := decode_pos s q; omega), ha.sub (.cons rfl .nil), hw⟩
        ·
          (exfalso; exact h177 rfl)
      ·
        refine VC.reg (VO.h rfl<|HO.nextF 0 rfl rfl hps<|VO.h rfl<|HO.lo (LO.ex (.r rfl) rfl)<|VO.nil ?_)
        refine VE.seqN ?_
        refine VC.seq ?_
        refine VC.cond rfl (fun h177 => ?_) (fun h177 => ?_)
        ·
          (exfalso; cases h177)
        ·
          refine VC.exit (VE.thenX (VE.thenX (VE.inX (VE.seqN ?_))))
          refine VC.seq ?_
          refine VC.reg (VO.l (LO.as (.r rfl)) rfl<|VO.nil ?_)
          refine VE.seqN ?_
          refine VC.ret (VE.inR (VE.res (vs := [_]) rfl ⟨rfl, trivial⟩ (fun w hw => ?_)))
          first | exact ⟨by simp only [resV, runeIx]; rw [if_pos (by omega)], hw.nil⟩ | exact ⟨by simp only [resV, runeIx]; rw [if_neg (by omega)], hw.nil⟩
    ·
      refine VC.seq ?_
      refine VC.reg (VO.l (LO.mv (.r rfl)) rfl<|VO.l (LO.call (xs := [_]) (vs := [_]) C109 ⟨(.r rfl), trivial⟩ (fun w _ => validRune_c _ w)) rfl<|VO.l (LO.not (.r rfl)) rfl<|VO.l (LO.as (.r rfl)) rfl<|VO.nil ?_)
      refine VE.seqN ?_
      refine VC.cond rfl (fun h183 => ?_) (fun h183 => ?_)
      ·
        refine VC.seq ?_
        refine VC.reg (VO.l (LO.as (.r rfl)) rfl<|VO.nil ?_)
        refine VE.seqN ?_
        refine VC.ret (VE.inR (VE.res (vs := [_]) rfl ⟨rfl, trivial⟩ (fun w hw => ?_)))
        first | exact ⟨by simp only [resV, runeIx]; rw [if_pos (by omega)], hw.nil⟩ | exact ⟨by simp only [resV, runeIx]; rw [if_neg (by omega)], hw.nil⟩
      ·
        have hv : Lib.validRune r = true := by simpa using h183
        obtain ⟨e1, e2, e3⟩ := enc_f hv (by omega)
        have b1 := byte_lt hs ((Utf8.encode r).size - 1)
        refine VC.scope ?_
        refine VC.seq ?_
        refine VC.reg (VO.l (LO.mv (.r rfl)) rfl<|VO.l (LO.cvS ⟨_, Try.underlying21⟩ Try.underlying9 (.r rfl)) rfl<|VO.l (LO.as (.r rfl)) rfl<|VO.nil ?_)
        refine VE.seqN ?_
        refine VC.seq ?_
        refine VC.reg (VO.l (LO.mv (.r rfl)) rfl<|VO.l (LO.lenS Try.underlying9 (.r rfl) rfl) rfl<|VO.l (LO.sub (.r rfl) (.r rfl) (wi (by omega) (by omega))) rfl<|VO.l (LO.as (.r rfl)) rfl<|VO.nil ?_)
        refine VE.seqN ?_
        refine VC.seq ?_
        refine VC.reg (VO.l (LO.mv (.r rfl)) rfl<|VO.l (LO.as (.r rfl)) rfl<|VO.nil ?_)
        refine VE.seqN ?_
        refine VC.seq ?_
        refine VC.reg (VO.l (LO.as (.r rfl)) rfl<|VO.nil ?_)
        refine VE.seqN ?_
        refine VC.seq ?_
        refine VC.block ?_
        refine VC.loopK (α := Nat) 0 (fun gx => [(4, .int .i64 0), (9, .int .i64 (((Utf8.encode r).size : Int) - 1))]) [(0,_), (7,_), (8,_)] (fun gx => []) (fun gx => True) (fun gx => gx) 0 (by exact trivial) (.cons rfl (.cons rfl (.cons rfl (.cons rfl (.cons rfl .nil))))) (fun _ h => h) ?_
        rintro u _
        refine VC.seq ?_
        refine VC.seq ?_
        refine VC.reg (VO.l (LO.mv (.r rfl)) rfl<|VO.l (LO.mv (.r rfl)) rfl<|VO.l (LO.lenS Try.underlying9 (.r rfl) rfl) rfl<|VO.l (LO.lt (.r rfl) (.r rfl)) rfl<|VO.nil ?_)
        refine VE.seqN ?_
        refine VC.cond rfl (fun h26 => ?_) (fun h26 => ?_)
        ·
          refine VC.skip (VE.seqN ?_)
          refine VC.block ?_
          refine VC.scope ?_
          refine VC.seq ?_
          refine VC.seq ?_
          refine VC.draw mixed (LL.l (LO.mv (.r rfl)) rfl<|LL.l (LO.mv (.r rfl)) rfl<|LL.l (LO.ixS (j := ((Utf8.encode r).size - 1)) Try.underlying9 (.r rfl) (.r rfl) (by omega) (by omega)) rfl<|LL.l (LO.mv (.r rfl)) rfl<|LL.l (LO.mv (.r rfl)) rfl<|LL.l (LO.ixS (j := ((Utf8.encode r).size - 1)) Try.underlying9 (.r rfl) (.r rfl) (by omega) (by omega)) rfl<|LL.l (LO.ne (.r rfl) (.r rfl)) rfl<|LL.nil) (by kernel_rfl) ?_
          refine VE.seqN ?_
          refine VC.cond rfl (fun h33 => ?_) (fun h33 => ?_)
          ·
            refine VC.seq ?_
            refine VC.draw mixed (LL.l (LO.mv (.r rfl)) rfl<|LL.l (LO.mv (.r rfl)) rfl<|LL.l (LO.add (.r rfl) (.r rfl) (wi (by omega) (by omega))) rfl<|LL.l (LO.slS Try.underlying9 (.r rfl) (.r rfl) (by omega) (by omega)) rfl<|LL.l (LO.mv (.r rfl)) rfl<|LL.l (LO.mv (.r rfl)) rfl<|LL.l (LO.ixS (j := ((Utf8.encode r).size - 1)) Try.underlying9 (.r rfl) (.r rfl) (by omega) (by omega)) rfl<|LL.l (LO.call (xs := [_,_]) (vs := [_,_]) C108 ⟨(.r rfl), (.r rfl), trivial⟩ (fun w _ => (Try.strings_IndexByte _ _ w).mono fun e w' q => ⟨q.1, St.of_eq q.2⟩)) rfl<|LL.l (LO.as (.r rfl)) rfl<|LL.nil) (by kernel_rfl) ?_
            refine VE.seqN ?_
            refine VC.seq ?_
            refine VC.seq ?_
            refine VC.reg (VO.l (LO.mv (.r rfl)) rfl<|VO.l (LO.lt (.r rfl) (.r rfl)) rfl<|VO.nil ?_)
            refine VE.seqN ?_
            refine VC.cond rfl (fun h43 => ?_) (fun h43 => ?_)
            ·
              refine VC.seq ?_
              refine VC.reg (VO.l (LO.as (.r rfl)) rfl<|VO.nil ?_)
              refine VE.seqN ?_
              refine VC.ret (VE.thenR (VE.thenR (VE.scR (VE.inR (VE.thenR (VE.inR (VE.thenR (VE.scR (VE.inR (VE.res (vs := [_]) rfl ⟨rfl, trivial⟩ (fun w hw => ?_)))))))))))
              first | exact ⟨by simp only [resV, runeIx]; rw [if_pos (by omega)], hw.nil⟩ | exact ⟨by simp only [resV, runeIx]; rw [if_neg (by omega)], hw.nil⟩
            ·
              (exfalso; (rw [ix_none hs e3] at h43; omega))
          ·
            (exfalso; omega)
        ·
          (exfalso; omega)

set_option maxRecDepth 20000 in
theorem containsRune_c (s : ByteArray) (r : Int) (w : World) (h0 : 0 ≤ r) (hs : ∀ b ∈ s.data.toList, b.toNat < 128) (h4 : 4 ≤ s.size) (h5 : s.size < 100000) :
  Calls Try.prog 84 #[.string s, .int .i32 r] w fun e w' => e = .returned (.bool (decide (0 ≤ runeIx s r))) ∧ St (bs w) [] w' := by
  refine enter (vs := [_,_]) (env := [(0,_), (1,_)]) Try.func84 rfl rfl rfl rfl ?_
  refine VC.seq ?_
  refine VC.reg (VO.l (LO.as (.r rfl)) rfl<|VO.nil ?_)
  refine VE.seqN ?_
  refine VC.seq ?_
  refine VC.reg (VO.l (LO.mv (.r rfl)) rfl<|VO.l (LO.mv (.r rfl)) rfl<|VO.l (LO.call (xs := [_,_]) (vs := [_,_]) C102 ⟨(.r rfl), (.r rfl), trivial⟩ (fun w _ => indexRune_c s r w h0 hs h4 h5)) rfl<|VO.l (LO.ge (.r rfl) (.r rfl)) rfl<|VO.l (LO.as (.r rfl)) rfl<|VO.nil ?_)
  refine VE.seqN ?_
  refine VC.ret (VE.res (vs := [_]) rfl ⟨rfl, trivial⟩ (fun w hw => ?_))
  exact ⟨rfl, hw.nil⟩

set_option maxRecDepth 20000 in
theorem nameRune_c (r : Nat) (w : World) :
  Calls Try.prog 83 #[.int .i32 (r : Int)] w fun e w' => e = .returned (.bool (pN r)) ∧ St (bs w) [] w' := by
  refine enter (vs := [_]) (env := [(0,_)]) Try.func83 rfl rfl rfl rfl ?_
  refine VC.seq ?_
  refine VC.reg (VO.l (LO.as (.r rfl)) rfl<|VO.nil ?_)
  refine VE.seqN ?_
  refine VC.seq ?_
  refine VC.reg (VO.l (LO.mv (.r rfl)) rfl<|VO.l (LO.call (xs := [_,_]) (vs := [_,_]) C84 ⟨(.r rfl), (.r rfl), trivial⟩ (fun w _ => containsRune_c hayS (r : Int) w (by omega) hay_ascii (by decide) (by decide))) rfl<|VO.l (LO.not (.r rfl)) rfl<|VO.l (LO.as (.r rfl)) rfl<|VO.nil ?_)
  refine VE.seqN ?_
  refine VC.ret (VE.res (vs := [_]) rfl ⟨rfl, trivial⟩ (fun w hw => ?_))
  exact ⟨by simp only [resV]; rw [hay_rune]; rfl, hw.nil⟩

set_option maxRecDepth 20000 in
theorem indexFunc_c (s : ByteArray) (w : World) :
  Calls Try.prog 107 #[.string s, .func (.func 83) #[] #[], .bool true] w fun e w' => e = .returned (.int .i64 (idxF pN s s.size 0)) ∧ St (bs w) [] w' := by
  refine enter (vs := [_,_,_]) (env := [(0,_), (1,_), (2,_)]) Try.func107 rfl rfl rfl rfl ?_
  refine VC.seq ?_
  refine VC.reg (VO.l (LO.as (.r rfl)) rfl<|VO.nil ?_)
  refine VE.seqN ?_
  refine VC.seq ?_
  refine VC.seq ?_
  refine VC.reg (VO.l (LO.mv (.r rfl)) rfl<|VO.h rfl<|HO.range Try.underlying9 rfl fun b1 => VO.nil ?_)
  refine VE.seqN ?_
  refine VC.block ?_
  refine VC.loopK (α := Nat × Nat) 1 (fun gx => []) [(1,_), (2,_), (10,_)] (fun gx => [blk b1 (.stringIter s gx.1)]) (fun gx => idxF pN s gx.2 gx.1 = idxF pN s s.size 0 ∧ s.size ≤ gx.1 + gx.2) (fun gx => gx.2) (0, s.size) (by exact ⟨rfl, by omega⟩) (.cons rfl (.cons rfl (.cons rfl .nil))) (fun _ h => h) ?_
  rintro ⟨q, f⟩ ⟨hI, hf⟩
  show VC _ _ _ _ _ ([] ++ _) ([blk b1 (.stringIter s q)] ++ _) _ _
  dsimp only at hI hf
  refine VC.seq ?_
  by_cases hps : q < s.size
  ·
    obtain ⟨f, rfl⟩ : ∃ k, f = k + 1 := ⟨f - 1, by omega⟩
    rw [idxF, if_pos hps] at hI
    refine VC.reg (VO.h rfl<|HO.nextT 0 (fun R => [R]) rfl rfl (fun _ => rfl) hps<|VO.h rfl<|HO.lo (LO.ex (.r rfl) rfl)<|VO.nil ?_)
    refine VE.seqN ?_
    refine VC.seq ?_
    refine VC.cond rfl (fun h12 => ?_) (fun h12 => ?_)
    ·
      refine VC.skip (VE.seqN ?_)
      refine VC.block ?_
      refine VC.seq ?_
      refine VC.reg (VO.l (LO.ex (.r rfl) rfl) rfl<|VO.l (LO.ex (.r rfl) rfl) rfl<|VO.l (LO.as (.r rfl)) rfl<|VO.l (LO.as (.r rfl)) rfl<|VO.nil ?_)
      refine VE.seqN ?_
      refine VC.seq ?_
      refine VC.reg (VO.l (LO.mv (.r rfl)) rfl<|VO.l (LO.mv (.r rfl)) rfl<|VO.l (LO.callv (first := []) (cap := []) (xs := [_]) (vs := [_]) (.r rfl) C83 ⟨(.r rfl), trivial⟩ (fun w _ => nameRune_c _ w)) rfl<|VO.l (LO.mv (.r rfl)) rfl<|VO.l (LO.eqB Try.underlying4 (.r rfl) (.r rfl)) rfl<|VO.nil ?_)
      refine VE.seqN ?_
      refine VC.cond rfl (fun h19 => ?_) (fun h19 => ?_)
      ·
        rw [if_pos h19] at hI
        refine VC.seq ?_
        refine VC.reg (VO.l (LO.mv (.r rfl)) rfl<|VO.l (LO.as (.r rfl)) rfl<|VO.nil ?_)
        refine VE.seqN ?_
        refine VC.ret (VE.inR (VE.thenR (VE.inR (VE.thenR (VE.res (vs := [_]) rfl ⟨rfl, trivial⟩ (fun w hw => ?_))))))
        exact ⟨by simp only [resV]; rw [← hI] <;> rfl, hw.nil⟩
      ·
        rw [if_neg h19] at hI
        refine VC.skip (VE.inN ?_)
        refine VE.thenN fun a w ha hw => ⟨(q + (Utf8.decode s q).2, f), ⟨hI, by have := decode_pos s q; dsimp only; omega⟩, (by dsimp only; omega), ha.sub (.cons rfl (.cons rfl (.cons rfl .nil))), hw⟩
    ·
      (exfalso; exact h12 rfl)
  ·
    rw [idxF_end hps] at hI
    refine VC.reg (VO.h rfl<|HO.nextF 0 rfl rfl hps<|VO.h rfl<|HO.lo (LO.ex (.r rfl) rfl)<|VO.nil ?_)
    refine VE.seqN ?_
    refine VC.seq ?_
    refine VC.cond rfl (fun h12 => ?_) (fun h12 => ?_)
    ·
      (exfalso; cases h12)
    ·
      refine VC.exit (VE.thenX (VE.thenX (VE.inX (VE.seqN ?_))))
      refine VC.seq ?_
      refine VC.reg (VO.l (LO.as (.r rfl)) rfl<|VO.nil ?_)
      refine VE.seqN ?_
      refine VC.ret (VE.res (vs := [_]) rfl ⟨rfl, trivial⟩ (fun w hw => ?_))
      exact ⟨by simp only [resV]; rw [← hI] <;> rfl, hw.nil⟩

set_option maxRecDepth 20000 in
theorem IndexFunc_c (s : ByteArray) (w : World) :
  Calls Try.prog 101 #[.string s, .func (.func 83) #[] #[]] w fun e w' => e = .returned (.int .i64 (idxF pN s s.size 0)) ∧ St (bs w) [] w' := by
  refine enter (vs := [_,_]) (env := [(0,_), (1,_)]) Try.func101 rfl rfl rfl rfl ?_
  refine VC.seq ?_
  refine VC.reg (VO.l (LO.as (.r rfl)) rfl<|VO.nil ?_)
  refine VE.seqN ?_
  refine VC.seq ?_
  refine VC.reg (VO.l (LO.mv (.r rfl)) rfl<|VO.l (LO.mv (.r rfl)) rfl<|VO.l (LO.call (xs := [_,_,_]) (vs := [_,_,_]) C107 ⟨(.r rfl), (.r rfl), (.r rfl), trivial⟩ (fun w _ => indexFunc_c _ w)) rfl<|VO.l (LO.as (.r rfl)) rfl<|VO.nil ?_)
  refine VE.seqN ?_
  refine VC.ret (VE.res (vs := [_]) rfl ⟨rfl, trivial⟩ (fun w hw => ?_))
  exact ⟨rfl, hw.nil⟩

set_option maxRecDepth 20000 in
theorem ContainsFunc_c (s : ByteArray) (w : World) :
  Calls Try.prog 82 #[.string s, .func (.func 83) #[] #[]] w fun e w' => e = .returned (.bool (decide (0 ≤ idxF pN s s.size 0))) ∧ St (bs w) [] w' := by
  refine enter (vs := [_,_]) (env := [(0,_), (1,_)]) Try.func82 rfl rfl rfl rfl ?_
  refine VC.seq ?_
  refine VC.reg (VO.l (LO.as (.r rfl)) rfl<|VO.nil ?_)
  refine VE.seqN ?_
  refine VC.seq ?_
  refine VC.reg (VO.l (LO.mv (.r rfl)) rfl<|VO.l (LO.mv (.r rfl)) rfl<|VO.l (LO.call (xs := [_,_]) (vs := [_,_]) C101 ⟨(.r rfl), (.r rfl), trivial⟩ (fun w _ => IndexFunc_c _ w)) rfl<|VO.l (LO.ge (.r rfl) (.r rfl)) rfl<|VO.l (LO.as (.r rfl)) rfl<|VO.nil ?_)
  refine VE.seqN ?_
  refine VC.ret (VE.res (vs := [_]) rfl ⟨rfl, trivial⟩ (fun w hw => ?_))
  exact ⟨rfl, hw.nil⟩

end Go.Proofs.Ytdjflomhaljljaa

namespace Go.Proofs.Ytdjflomhaljljaa
open Go.SL Go.Proofs Go.Cast
set_option linter.unusedVariables false

theorem C82 : IsFn Try.prog 82 := ⟨_, Try.func82, by decide, rfl⟩


def byteAt (s : ByteArray) (j : Nat) : Nat := (s.data.toList.getD j 0).toNat
def nameB (s : ByteArray) : Bool := ((((decide (1 ≤ (s.size : Int)) && decide ((s.size : Int) ≤ 12)) && decide (97 ≤ (byteAt s 0 : Int))) && decide ((byteAt s 0 : Int) ≤ 122)) && (List.range s.size).all fun j => nameR (byteAt s j))
theorem nameB_idx {s : ByteArray} : (!decide (0 ≤ idxF pN s s.size 0)) = (List.range s.size).all fun j => nameR (byteAt s j) := by
  have h := idxF_bytes (p := pN) (s := s) (fun r hr => pN_high r hr) (f := s.size) (q := 0) (by omega)
  rw [Bool.eq_iff_iff, List.all_eq_true]
  constructor
  · intro q j hj
    have h1 : idxF pN s s.size 0 < 0 := by simpa using q
    have := h.1 h1 j (Nat.zero_le _) (List.mem_range.1 hj)
    unfold pN at this
    cases k : nameR (byteAt s j) with
    | true => rfl
    | false => unfold byteAt at k; rw [k] at this; cases this
  · intro q
    have : idxF pN s s.size 0 < 0 := h.2 fun j _ hj => by
      have := q j (List.mem_range.2 hj)
      unfold byteAt at this
      unfold pN; rw [this]; rfl
    simpa using this
theorem LO.neE {P : Program} {β : Bs} {env : Env} {L : List Res} {d : Option Nat} {ty : TypeId} {pos : String} {aft : Array Edge} {g : Option (Nat × Bool)} {xT yT : Nat} {x y : Operand} {s : ByteArray} (hx : OV env x (.string s)) (hy : OV env y (.string ⟨#[]⟩)) : LO P β env L ⟨d, .binOp .neq xT x y yT, ty, pos, aft, g⟩ (.bool (decide (1 ≤ (s.size : Int)))) := by
  have h := LO.neS (P := P) (β := β) (L := L) (d := d) (ty := ty) (pos := pos) (aft := aft) (g := g) (xT := xT) (yT := yT) hx hy
  have e : (!(s.toList == (⟨#[]⟩ : ByteArray).toList)) = decide (1 ≤ (s.size : Int)) := by
    rw [ByteArray.toList_eq, ByteArray.toList_eq]
    have hs : s.data.toList.length = s.size := Array.length_toList
    cases q : s.data.toList with
    | nil => rw [q] at hs; simp at hs; simp [← hs]
    | cons b l => rw [q] at hs; simp at hs; simp; omega
  rw [e] at h
  exact h

theorem nn {b : Bool} (h : ¬ ¬ b = true) : b = true := Classical.not_not.1 h

set_option maxRecDepth 20000 in
theorem Name_c (s : ByteArray) (w : World) :
  Calls Try.prog 63 #[.string s] w fun e w' => e = .returned (.bool (nameB s)) ∧ St (bs w) [] w' := by
  refine enter (vs := [_]) (env := [(0,_)]) Try.func63 rfl rfl rfl rfl ?_
  refine VC.seq ?_
  refine VC.reg (VO.l (LO.as (.r rfl)) rfl<|VO.nil ?_)
  refine VE.seqN ?_
  refine VC.seq ?_
  refine VC.reg (VO.l (LO.mv (.r rfl)) rfl<|VO.l (LO.neE (.r rfl) (.r rfl)) rfl<|VO.l (LO.mv (.r rfl)) rfl<|VO.lg rfl rfl (GD.t _) (fun hg => LO.mv (.r rfl)) rfl<|VO.lg rfl rfl (GD.t _) (fun hg => LO.lenS Try.underlying9 (.g hg rfl) rfl) rfl<|VO.lg rfl rfl (GD.t _) (fun hg => LO.le (.g hg rfl) (.r rfl)) rfl<|VO.l (LO.pkA (.r rfl) rfl rfl (.r rfl)) rfl<|VO.l (LO.mv (.r rfl)) rfl<|VO.lg rfl rfl (GD.t _) (fun hg => LO.mv (.r rfl)) rfl<|VO.lg rfl rfl (GD.t _) (fun hg => LO.ixS (j := 0) Try.underlying9 (.g hg rfl) (.r rfl) rfl (by have q := IsP.yes inferInstance hg; omega)) rfl<|VO.lg rfl rfl (GD.t _) (fun hg => LO.ge (.g hg rfl) (.r rfl)) rfl<|VO.l (LO.pkA (.r rfl) rfl rfl (.r rfl)) rfl<|VO.l (LO.mv (.r rfl)) rfl<|VO.lg rfl rfl (GD.t _) (fun hg => LO.mv (.r rfl)) rfl<|VO.lg rfl rfl (GD.t _) (fun hg => LO.ixS (j := 0) Try.underlying9 (.g hg rfl) (.r rfl) rfl (by have q := IsP.yes inferInstance hg; omega)) rfl<|VO.lg rfl rfl (GD.t _) (fun hg => LO.le (.g hg rfl) (.r rfl)) rfl<|VO.l (LO.pkA (.r rfl) rfl rfl (.r rfl)) rfl<|VO.l (LO.mv (.r rfl)) rfl<|VO.lg rfl rfl (GD.t _) (fun hg => LO.mv (.r rfl)) rfl<|VO.lg rfl rfl (GD.t _) (fun hg => LO.call (xs := [_,_]) (vs := [_,_]) C82 ⟨(.g hg rfl), (.r rfl), trivial⟩ (fun w _ => ContainsFunc_c _ w)) rfl<|VO.lg rfl rfl (GD.t _) (fun hg => LO.not (.g hg rfl)) rfl<|VO.l (LO.pkA (.r rfl) rfl rfl (.r rfl)) rfl<|VO.l (LO.as (.r rfl)) rfl<|VO.nil ?_)
  refine VE.seqN ?_
  refine VC.ret (VE.res (vs := [_]) rfl ⟨rfl, trivial⟩ (fun w hw => ?_))
  exact ⟨by simp only [resV]; rw [nameB_idx]; rfl, hw.nil⟩

end Go.Proofs.Ytdjflomhaljljaa

namespace Go.Proofs.Ytdjflomhaljljaa
open Go.SL Go.Proofs Go.Cast
set_option linter.unusedVariables false

theorem F74_1 : FieldAt Try.prog 74 1 1 := ⟨_,_, Try.underlying74, rfl, rfl, 0, by kernel_rfl⟩
theorem C45 : IsFn Try.prog 45 := ⟨_, Try.func45, by decide, rfl⟩


structure Reg where
  name : ByteArray
  pix : List Int
instance : Inhabited Reg := ⟨⟨ByteArray.empty, []⟩⟩
/-- A region in memory: where its pixels lie. -/
structure RG where
  r : Reg
  px : Option Addr
  cx : Nat
def RG.cells (x : RG) : List Value := [.string x.r.name, .slice x.px x.r.pix.length x.cx]
structure Regs (w : World) (p : Option Addr) (l : List RG) : Prop where
  rows : Go.SL.Rows w 2 p (l.map RG.cells)
  ok : ∀ x, x ∈ l → Ints w x.px x.r.pix ∧ x.r.pix.length < 1000000000000
theorem Regs.sm {w : World} {p : Option Addr} {l : List RG} (h : Regs w p l) : SlSome p l.length := Go.SL.Rows.some h.rows (by simp)
theorem Regs.keep {w0 w : World} {L : List Res} {p : Option Addr} {l : List RG} (h : Regs w0 p l) (hw : St (bs w0) L w) : Regs w p l := ⟨h.rows.keep w hw, fun x hx => ⟨(h.ok x hx).1.keep w hw, (h.ok x hx).2⟩⟩
theorem Regs.at {w0 : World} {p : Option Addr} {l : List RG} (h : Regs w0 p l) {L : List Res} {j : Nat} {x : RG} (hx : l[j]? = some x) : ∀ w, St (bs w0) L w → Cells w ⟨pb p, po p + j * 2, none⟩ x.cells :=
  fun w hw => (h.rows.keep w hw).cells j _ (by rw [List.getElem?_map, hx]; rfl)
structure Sp where
  g : Grid
  regs : List Reg
  lead : Int
  step : Int
  hold : Int
abbrev specV (g : Grid) (p : Option Addr) (n c : Nat) (a b d : Int) : Value := .agg #[.int .i64 g.x, .int .i64 g.y, .int .i64 g.size, .int .i64 g.wide, .int .i64 g.high, .slice p n c, .int .i64 a, .int .i64 b, .int .i64 d]
def pixE (g : Grid) (l : List Int) : Int := if l = [] then 18 else firstE (mayE g l) l.length
/-- The names of the first regions. -/
def metB (l : List Reg) (i : Nat) : ByteArray → Bool := fun s => (l.take i).any fun r => decide (s = r.name)
def regE (g : Grid) (l : List Reg) (i : Nat) : Int :=
  if ¬ nameB (l.getD i default).name = true then 10 else if metB l i (l.getD i default).name = true then 5 else pixE g (l.getD i default).pix
def rulesOk (s : Sp) : Prop := (0 ≤ s.lead ∧ s.lead ≤ 7200) ∧ (30 ≤ s.step ∧ s.step ≤ 3600) ∧ (0 ≤ s.hold ∧ s.hold ≤ 86400)
instance (s : Sp) : Decidable (rulesOk s) := by unfold rulesOk; exact inferInstance
def specE (s : Sp) : Int :=
  if ¬ gridOk s.g then 3 else if s.regs = [] then 18 else if 32 < s.regs.length then 9
  else if firstE (regE s.g s.regs) s.regs.length ≠ 0 then firstE (regE s.g s.regs) s.regs.length else if ¬ rulesOk s then 3 else 0
theorem pE1 {g : Grid} {l : List Int} (h : (l.length : Int) = 0) : 18 = pixE g l := (if_pos (List.length_eq_zero_iff.1 (by omega))).symm
theorem pE0 {g : Grid} {l : List Int} (h : ¬ (l.length : Int) = 0) : pixE g l = firstE (mayE g l) l.length := if_neg (fun q => h (by rw [q]; rfl))
theorem pE2 {g : Grid} {l : List Int} {j : Nat} {e : Int} (h : ¬ (l.length : Int) = 0) (hz : ∀ k, k < j → mayE g l k = 0) (hj : (j : Int) < l.length) (he : mayE g l j = e) (h0 : e ≠ 0) : e = pixE g l := by
  rw [pE0 h, firstE_at hz (by omega) (n := l.length) (by omega), he]
theorem pE3 {g : Grid} {l : List Int} {j : Nat} (h : ¬ (l.length : Int) = 0) (hz : ∀ k, k < j → mayE g l k = 0) (hj : ¬ (j : Int) < l.length) : 0 = pixE g l := by
  rw [pE0 h, firstE_zero (fun k hk => hz k (by omega))]
theorem met_step {l : List Reg} {j : Nat} (h : j < l.length) : metB l (j + 1) = insS (metB l j) (l.getD j default).name := by
  funext s
  unfold metB insS
  rw [List.take_add_one, List.getElem?_eq_getElem h, List.getD_eq_getElem?_getD, List.getElem?_eq_getElem h, List.any_append]
  simp only [Option.toList_some, List.any_cons, List.any_nil, Bool.or_false, Option.getD_some]
  rw [Bool.or_comm]
theorem met_zero (l : List Reg) : metB l 0 = fun _ => false := by funext s; simp [metB]
section
variable {s : Sp}
theorem sE1 (h : ¬ gridE s.g = 0) : gridE s.g = specE s := by
  unfold specE
  by_cases q : gridOk s.g
  · exact absurd (if_pos q) h
  · rw [if_pos q]; exact if_neg q
theorem sE2 (hg : gridOk s.g) (h : (s.regs.length : Int) = 0) : 18 = specE s := by
  unfold specE
  rw [if_neg (fun q => q hg), if_pos (List.length_eq_zero_iff.1 (by omega))]
theorem sE3 (hg : gridOk s.g) (h : ¬ (s.regs.length : Int) = 0) (k : (32 : Int) < s.regs.length) : 9 = specE s := by
  unfold specE
  rw [if_neg (fun q => q hg), if_neg (fun q => h (by rw [q]; rfl)), if_pos (by omega)]
theorem sE0 (hg : gridOk s.g) (h : ¬ (s.regs.length : Int) = 0) (k : ¬ (32 : Int) < s.regs.length) : specE s = if firstE (regE s.g s.regs) s.regs.length ≠ 0 then firstE (regE s.g s.regs) s.regs.length else if ¬ rulesOk s then 3 else 0 := by
  unfold specE
  rw [if_neg (fun q => q hg), if_neg (fun q => h (by rw [q]; rfl)), if_neg (by omega)]
theorem sE4 (hg : gridOk s.g) (h : ¬ (s.regs.length : Int) = 0) (k : ¬ (32 : Int) < s.regs.length) {j : Nat} {e : Int} (hz : ∀ k, k < j → regE s.g s.regs k = 0) (hj : (j : Int) < s.regs.length) (he : regE s.g s.regs j = e) (h0 : e ≠ 0) : e = specE s := by
  rw [sE0 hg h k, firstE_at hz (by omega) (n := s.regs.length) (by omega), he, if_pos h0]
theorem sE5 (hg : gridOk s.g) (h : ¬ (s.regs.length : Int) = 0) (k : ¬ (32 : Int) < s.regs.length) {j : Nat} (hz : ∀ k, k < j → regE s.g s.regs k = 0) (hj : ¬ (j : Int) < s.regs.length) (hr : ¬ rulesOk s) : 3 = specE s := by
  rw [sE0 hg h k, firstE_zero (fun k hk => hz k (by omega)), if_neg (by omega), if_pos hr]
theorem sE6 (hg : gridOk s.g) (h : ¬ (s.regs.length : Int) = 0) (k : ¬ (32 : Int) < s.regs.length) {j : Nat} (hz : ∀ k, k < j → regE s.g s.regs k = 0) (hj : ¬ (j : Int) < s.regs.length) (hr : rulesOk s) : 0 = specE s := by
  rw [sE0 hg h k, firstE_zero (fun k hk => hz k (by omega)), if_neg (by omega), if_neg (fun q => q hr)]
theorem regE1 {g : Grid} {l : List Reg} {j : Nat} (h : ¬ nameB (l.getD j default).name = true) : regE g l j = 10 := if_pos h
theorem regE2 {g : Grid} {l : List Reg} {j : Nat} (h : nameB (l.getD j default).name = true) (k : metB l j (l.getD j default).name = true) : regE g l j = 5 := by unfold regE; rw [if_neg (fun q => q h), if_pos k]
theorem regE3 {g : Grid} {l : List Reg} {j : Nat} (h : nameB (l.getD j default).name = true) (k : ¬ metB l j (l.getD j default).name = true) : regE g l j = pixE g (l.getD j default).pix := by unfold regE; rw [if_neg (fun q => q h), if_neg k]
end
theorem getD_r {l : List RG} {j : Nat} {x : RG} (hx : l[j]? = some x) : (l.map RG.r).getD j default = x.r := by
  rw [List.getD_eq_getElem?_getD, List.getElem?_map, hx]; rfl

set_option maxRecDepth 20000 in
theorem iwithin_c (n lo hi : Int) (w : World) :
  Calls Try.prog 45 #[.int .i64 n, .int .i64 lo, .int .i64 hi] w fun e w' => e = .returned (.bool (decide (lo ≤ n) && decide (n ≤ hi))) ∧ St (bs w) [] w' := by
  refine enter (vs := [_,_,_]) (env := [(0,_), (1,_), (2,_)]) Try.func45 rfl rfl rfl rfl ?_
  refine VC.seq ?_
  refine VC.reg (VO.l (LO.as (.r rfl)) rfl<|VO.nil ?_)
  refine VE.seqN ?_
  refine VC.seq ?_
  refine VC.reg (VO.l (LO.mv (.r rfl)) rfl<|VO.l (LO.mv (.r rfl)) rfl<|VO.l (LO.le (.r rfl) (.r rfl)) rfl<|VO.l (LO.mv (.r rfl)) rfl<|VO.lg rfl rfl (GD.t _) (fun hg => LO.mv (.r rfl)) rfl<|VO.lg rfl rfl (GD.t _) (fun hg => LO.mv (.r rfl)) rfl<|VO.lg rfl rfl (GD.t _) (fun hg => LO.le (.g hg rfl) (.g hg rfl)) rfl<|VO.l (LO.pkA (.r rfl) rfl rfl (.r rfl)) rfl<|VO.l (LO.as (.r rfl)) rfl<|VO.nil ?_)
  refine VE.seqN ?_
  refine VC.ret (VE.res (vs := [_]) rfl ⟨rfl, trivial⟩ (fun w hw => ?_))
  exact ⟨rfl, hw.nil⟩

set_option maxRecDepth 20000 in
theorem rcheck_c (r : RG) (g : Grid) (w : World) (hg : gridOk g) (hl : Ints w r.px r.r.pix) (hn : r.r.pix.length < 1000000000000) :
  Calls Try.prog 64 #[.agg #[.string r.r.name, .slice r.px r.r.pix.length r.cx], gridV g] w fun e w' => e = .returned (.int .i64 (pixE g r.r.pix)) ∧ St (bs w) [] w' := by
  have har := area_bd hg
  refine enter (vs := [_,_]) (env := [(0,_), (1,_)]) Try.func64 rfl rfl rfl rfl ?_
  refine VC.seq ?_
  refine VC.reg (VO.h rfl<|HO.box (C := #[_,_]) rfl rfl fun b1 => VO.h rfl<|HO.box (C := #[_,_,_,_,_]) rfl rfl fun b2 => VO.l (LO.as (.r rfl)) rfl<|VO.nil ?_)
  refine VE.seqN ?_
  refine VC.seq ?_
  refine VC.seq ?_
  refine VC.reg (VO.l (LO.fa (r := 1) F74_1 (.r rfl) rfl) rfl<|VO.l (LO.ld O55 (.r rfl) (fun _ hw => cells_at hw 1 rfl ⟨_, rfl⟩)) rfl<|VO.l (LO.len S55 (.r rfl) rfl) rfl<|VO.l (LO.eq (.r rfl) (.r rfl)) rfl<|VO.nil ?_)
  refine VE.seqN ?_
  refine VC.cond rfl (fun h1 => ?_) (fun h1 => ?_)
  ·
    refine VC.seq ?_
    refine VC.reg (VO.l (LO.as (.r rfl)) rfl<|VO.nil ?_)
    refine VE.seqN ?_
    refine VC.ret (VE.thenR (VE.res (vs := [_]) rfl ⟨rfl, trivial⟩ (fun w hw => ?_)))
    refine ⟨?_, hw.nil⟩
    simp only [resV]
    congr 2
    first | exact pE1 h1 | exact pE2 h1 hz h2 (by unfold mayE; rw [if_pos h3]) (by decide) | exact pE2 h1 hz h2 (by unfold mayE; rw [if_neg h3, if_pos (by omega)]) (by decide) | exact pE3 h1 hz h2
  ·
    refine VC.skip (VE.seqN ?_)
    refine VC.seq ?_
    refine VC.seq ?_
    refine VC.reg (VO.l (LO.fa (r := 1) F74_1 (.r rfl) rfl) rfl<|VO.l (LO.ld O55 (.r rfl) (fun _ hw => cells_at hw 1 rfl ⟨_, rfl⟩)) rfl<|VO.l (LO.len S55 (.r rfl) rfl) rfl<|VO.l (LO.mv (.r rfl)) rfl<|VO.nil ?_)
    refine VE.seqN ?_
    refine VC.block ?_
    refine VC.loopK (α := Nat) 0 (fun gx => [(14, .int .i64 (gx : Nat))]) [(2,_), (3,_), (12,_), (13,_)] (fun gx => []) (fun gx => gx ≤ r.r.pix.length ∧ ∀ k, k < gx → mayE g r.r.pix k = 0) (fun gx => r.r.pix.length - gx) 0 (by exact ⟨by omega, fun k hk => by omega⟩) (.cons rfl (.cons rfl (.cons rfl (.cons rfl (.cons rfl .nil))))) (fun _ h => h) ?_
    rintro j ⟨hj, hz⟩
    refine VC.seq ?_
    refine VC.reg (VO.l (LO.lt (.r rfl) (.r rfl)) rfl<|VO.nil ?_)
    refine VE.seqN ?_
    refine VC.seq ?_
    refine VC.cond rfl (fun h2 => ?_) (fun h2 => ?_)
    ·
      refine VC.skip (VE.seqN ?_)
      refine VC.seq ?_
      refine VC.block ?_
      refine VC.seq ?_
      refine VC.reg (VO.l (LO.mv (.r rfl)) rfl<|VO.l (LO.ixs S55 N3 hl.some (.r rfl) (.r rfl) rfl (by omega)) rfl<|VO.l (LO.ld O3 (.r rfl) (hl.at (j := j) (by omega))) rfl<|VO.l (LO.as (.r rfl)) rfl<|VO.l (LO.as (.r rfl)) rfl<|VO.nil ?_)
      refine VE.seqN ?_
      refine VC.block ?_
      refine VC.seq ?_
      refine VC.reg (VO.l (LO.mv (.r rfl)) rfl<|VO.l (LO.fa (r := 3) F23_3 (.r rfl) rfl) rfl<|VO.l (LO.ld O3 (.r rfl) (fun _ hw => cells_at hw 0 rfl ⟨_, rfl⟩)) rfl<|VO.l (LO.fa (r := 4) F23_4 (.r rfl) rfl) rfl<|VO.l (LO.ld O3 (.r rfl) (fun _ hw => cells_at hw 0 rfl ⟨_, rfl⟩)) rfl<|VO.l (LO.mul (.r rfl) (.r rfl) (wi (by omega) (by omega))) rfl<|VO.l (LO.sub (.r rfl) (.r rfl) (wi (by omega) (by omega))) rfl<|VO.l (LO.call (xs := [_,_,_]) (vs := [_,_,_]) C45 ⟨(.r rfl), (.r rfl), (.r rfl), trivial⟩ (fun w _ => iwithin_c _ _ _ w)) rfl<|VO.l (LO.not (.r rfl)) rfl<|VO.l (LO.as (.r rfl)) rfl<|VO.nil ?_)
      refine VE.seqN ?_
      refine VC.cond rfl (fun h3 => ?_) (fun h3 => ?_)
      ·
        refine VC.seq ?_
        refine VC.reg (VO.l (LO.as (.r rfl)) rfl<|VO.nil ?_)
        refine VE.seqN ?_
        refine VC.ret (VE.inR (VE.inR (VE.thenR (VE.thenR (VE.inR (VE.thenR (VE.res (vs := [_]) rfl ⟨rfl, trivial⟩ (fun w hw => ?_))))))))
        refine ⟨?_, hw.nil⟩
        simp only [resV]
        congr 2
        first | exact pE1 h1 | exact pE2 h1 hz h2 (by unfold mayE; rw [if_pos h3]) (by decide) | exact pE2 h1 hz h2 (by unfold mayE; rw [if_neg h3, if_pos (by omega)]) (by decide) | exact pE3 h1 hz h2
      ·
        refine VC.seq ?_
        refine VC.reg (VO.l (LO.mv (.r rfl)) rfl<|VO.l (LO.gt (.r rfl) (.r rfl)) rfl<|VO.l (LO.mv (.r rfl)) rfl<|VO.lg rfl rfl (GD.t _) (fun hg => LO.mv (.r rfl)) rfl<|VO.lg rfl rfl (GD.t _) (fun hg => LO.fa (r := 1) F74_1 (.r rfl) rfl) rfl<|VO.lg rfl rfl (GD.t _) (fun hg => LO.ld O55 (.g hg rfl) (fun _ hw => cells_at hw 1 rfl ⟨_, rfl⟩)) rfl<|VO.lg rfl rfl (GD.t _) (fun hg => LO.mv (.r rfl)) rfl<|VO.lg rfl rfl (GD.t _) (fun hg => LO.sub (.g hg rfl) (.r rfl) (wi (by omega) (by omega))) rfl<|VO.lg rfl rfl (GD.t _) (fun hg => LO.ixs S55 N3 hl.some (.g hg rfl) (.g hg rfl) (by have := of_decide_eq_true hg; omega) (by omega)) rfl<|VO.lg rfl rfl (GD.t _) (fun hg => LO.ld O3 (.g hg rfl) (hl.at (j := (j - 1)) (by omega))) rfl<|VO.lg rfl rfl (GD.t _) (fun hg => LO.le (.g hg rfl) (.g hg rfl)) rfl<|VO.l (LO.pkA (.r rfl) rfl rfl (.r rfl)) rfl<|VO.l (LO.as (.r rfl)) rfl<|VO.nil ?_)
        refine VE.seqN ?_
        refine VC.cond rfl (fun h4 => ?_) (fun h4 => ?_)
        ·
          refine VC.seq ?_
          refine VC.reg (VO.l (LO.as (.r rfl)) rfl<|VO.nil ?_)
          refine VE.seqN ?_
          refine VC.ret (VE.inR (VE.inR (VE.thenR (VE.thenR (VE.inR (VE.thenR (VE.res (vs := [_]) rfl ⟨rfl, trivial⟩ (fun w hw => ?_))))))))
          refine ⟨?_, hw.nil⟩
          simp only [resV]
          congr 2
          first | exact pE1 h1 | exact pE2 h1 hz h2 (by unfold mayE; rw [if_pos h3]) (by decide) | exact pE2 h1 hz h2 (by unfold mayE; rw [if_neg h3, if_pos (by omega)]) (by decide) | exact pE3 h1 hz h2
        ·
          refine VC.skip (VE.inN (VE.inN (VE.seqN ?_)))
          refine VC.reg (VO.l (LO.add (.r rfl) (.r rfl) (wi (by omega) (by omega))) rfl<|VO.l (LO.mv (.r rfl)) rfl<|VO.nil ?_)
          refine VE.thenN fun a w ha hw => ⟨j + 1, ⟨by omega, step_zero hz (mayE_zero h3 h4)⟩, (by omega), ha.sub (.cons rfl (.cons rfl (.cons rfl (.cons rfl (.cons rfl .nil))))), hw⟩
    ·
      refine VC.exit (VE.thenX (VE.thenX (VE.inX (VE.seqN ?_))))
      refine VC.seq ?_
      refine VC.reg (VO.l (LO.as (.r rfl)) rfl<|VO.nil ?_)
      refine VE.seqN ?_
      refine VC.ret (VE.res (vs := [_]) rfl ⟨rfl, trivial⟩ (fun w hw => ?_))
      refine ⟨?_, hw.nil⟩
      simp only [resV]
      congr 2
      first | exact pE1 h1 | exact pE2 h1 hz h2 (by unfold mayE; rw [if_pos h3]) (by decide) | exact pE2 h1 hz h2 (by unfold mayE; rw [if_neg h3, if_pos (by omega)]) (by decide) | exact pE3 h1 hz h2

end Go.Proofs.Ytdjflomhaljljaa

namespace Go.Proofs.Ytdjflomhaljljaa
open Go.SL Go.Proofs Go.Cast
set_option linter.unusedVariables false

theorem F28_0 : FieldAt Try.prog 28 0 0 := ⟨_,_, Try.underlying28, rfl, rfl, 4, by kernel_rfl⟩
theorem F28_1 : FieldAt Try.prog 28 1 5 := ⟨_,_, Try.underlying28, rfl, rfl, 0, by kernel_rfl⟩
theorem O24 : IsOne Try.prog 24 := ⟨⟨_, Try.underlying24, rfl⟩, by kernel_rfl⟩
theorem S24 : IsSlice Try.prog 24 74 := Try.underlying24
theorem N74 : (Try.prog.info? 74).map (·.size) = some 2 := by kernel_rfl
theorem A74 : IsAgg Try.prog 74 2 := ⟨⟨_, Try.underlying74, rfl⟩, by kernel_rfl⟩
theorem Z74 : ZeroOf Try.prog 74 (.agg #[.string ByteArray.empty, .slice none 0 0]) := by unfold ZeroOf; kernel_rfl
theorem F74_0 : FieldAt Try.prog 74 0 0 := ⟨_,_, Try.underlying74, rfl, rfl, 0, by kernel_rfl⟩
theorem O9 : IsOne Try.prog 9 := ⟨⟨_, Try.underlying9, rfl⟩, by kernel_rfl⟩
theorem C63 : IsFn Try.prog 63 := ⟨_, Try.func63, by decide, rfl⟩
theorem M173 : IsSetS Try.prog 173 := ⟨9,4, Try.underlying173, Try.underlying9, by unfold ZeroOf; kernel_rfl⟩
theorem C64 : IsFn Try.prog 64 := ⟨_, Try.func64, by decide, rfl⟩
theorem F28_2 : FieldAt Try.prog 28 2 6 := ⟨_,_, Try.underlying28, rfl, rfl, 2, by kernel_rfl⟩
theorem F26_0 : FieldAt Try.prog 26 0 0 := ⟨_,_, Try.underlying26, rfl, rfl, 0, by kernel_rfl⟩
theorem F26_1 : FieldAt Try.prog 26 1 1 := ⟨_,_, Try.underlying26, rfl, rfl, 0, by kernel_rfl⟩
theorem F26_2 : FieldAt Try.prog 26 2 2 := ⟨_,_, Try.underlying26, rfl, rfl, 0, by kernel_rfl⟩


set_option maxRecDepth 20000 in
theorem Check_c (g : Grid) (l : List RG) (pl : Option Addr) (cl : Nat) (a b d : Int) (w : World) (hll : l.length < 1000000000000) (hl : Regs w pl l) :
  Calls Try.prog 34 #[specV g pl l.length cl a b d] w fun e w' => e = .returned (.int .i64 (specE ⟨g, l.map RG.r, a, b, d⟩)) ∧ St (bs w) [] w' := by
  refine enter (vs := [_]) (env := [(0,_)]) Try.func34 rfl rfl rfl rfl ?_
  refine VC.seq ?_
  refine VC.reg (VO.h rfl<|HO.box (C := #[_,_,_,_,_,_,_,_,_]) rfl rfl fun b1 => VO.l (LO.as (.r rfl)) rfl<|VO.nil ?_)
  refine VE.seqN ?_
  refine VC.seq ?_
  refine VC.seq ?_
  refine VC.reg (VO.l (LO.fa (r := 0) F28_0 (.r rfl) rfl) rfl<|VO.l (LO.lda (vs := [_,_,_,_,_]) A23 (.r rfl) (fun _ hw => cells_at hw 0 rfl ⟨_, rfl⟩) rfl) rfl<|VO.l (LO.call (xs := [_]) (vs := [_]) C62 ⟨(.r rfl), trivial⟩ (fun w _ => checkGrid_c g w)) rfl<|VO.l (LO.as (.r rfl)) rfl<|VO.nil ?_)
  refine VE.seqN ?_
  refine VC.seq ?_
  refine VC.reg (VO.l (LO.mv (.r rfl)) rfl<|VO.l (LO.ne (.r rfl) (.r rfl)) rfl<|VO.nil ?_)
  refine VE.seqN ?_
  refine VC.cond rfl (fun h1 => ?_) (fun h1 => ?_)
  ·
    refine VC.seq ?_
    refine VC.reg (VO.l (LO.mv (.r rfl)) rfl<|VO.l (LO.as (.r rfl)) rfl<|VO.nil ?_)
    refine VE.seqN ?_
    refine VC.ret (VE.thenR (VE.res (vs := [_]) rfl ⟨rfl, trivial⟩ (fun w hw => ?_)))
    refine ⟨?_, hw.nil⟩
    simp only [resV]
    congr 2
    have hlen : (l.map RG.r).length = l.length := List.length_map ..
    first | exact sE1 (s := ⟨g, l.map RG.r, a, b, d⟩) h1 | exact sE2 (s := ⟨g, l.map RG.r, a, b, d⟩) hgo (by simpa using h2) | exact sE3 (s := ⟨g, l.map RG.r, a, b, d⟩) hgo (by simpa using h2) (by simpa using h3) | exact sE4 (s := ⟨g, l.map RG.r, a, b, d⟩) hgo (by simpa using h2) (by simpa using h3) hz (by simpa using h4) (regE1 (by rw [hxd]; exact h5)) (by decide) | exact sE4 (s := ⟨g, l.map RG.r, a, b, d⟩) hgo (by simpa using h2) (by simpa using h3) hz (by simpa using h4) (regE2 (by rw [hxd]; exact h5') (by rw [hxd]; exact h6)) (by decide) | exact sE4 (s := ⟨g, l.map RG.r, a, b, d⟩) hgo (by simpa using h2) (by simpa using h3) hz (by simpa using h4) ((regE3 (by rw [hxd]; exact h5') (by rw [hxd]; exact h6)).trans (by rw [hxd])) h7 | exact sE5 (s := ⟨g, l.map RG.r, a, b, d⟩) hgo (by simpa using h2) (by simpa using h3) hz (by simpa using h4) (by unfold rulesOk; dsimp only; omega) | exact sE6 (s := ⟨g, l.map RG.r, a, b, d⟩) hgo (by simpa using h2) (by simpa using h3) hz (by simpa using h4) (by unfold rulesOk; dsimp only; omega)
  ·
    have hgo : gridOk g := gridOk_of h1
    refine VC.skip (VE.seqN ?_)
    refine VC.seq ?_
    refine VC.block ?_
    refine VC.seq ?_
    refine VC.reg (VO.l (LO.fa (r := 5) F28_1 (.r rfl) rfl) rfl<|VO.l (LO.ld O24 (.r rfl) (fun _ hw => cells_at hw 0 rfl ⟨_, rfl⟩)) rfl<|VO.l (LO.len S24 (.r rfl) rfl) rfl<|VO.l (LO.eq (.r rfl) (.r rfl)) rfl<|VO.l (LO.as (.r rfl)) rfl<|VO.nil ?_)
    refine VE.seqN ?_
    refine VC.cond rfl (fun h2 => ?_) (fun h2 => ?_)
    ·
      refine VC.seq ?_
      refine VC.reg (VO.l (LO.as (.r rfl)) rfl<|VO.nil ?_)
      refine VE.seqN ?_
      refine VC.ret (VE.inR (VE.thenR (VE.res (vs := [_]) rfl ⟨rfl, trivial⟩ (fun w hw => ?_))))
      refine ⟨?_, hw.nil⟩
      simp only [resV]
      congr 2
      have hlen : (l.map RG.r).length = l.length := List.length_map ..
      first | exact sE1 (s := ⟨g, l.map RG.r, a, b, d⟩) h1 | exact sE2 (s := ⟨g, l.map RG.r, a, b, d⟩) hgo (by simpa using h2) | exact sE3 (s := ⟨g, l.map RG.r, a, b, d⟩) hgo (by simpa using h2) (by simpa using h3) | exact sE4 (s := ⟨g, l.map RG.r, a, b, d⟩) hgo (by simpa using h2) (by simpa using h3) hz (by simpa using h4) (regE1 (by rw [hxd]; exact h5)) (by decide) | exact sE4 (s := ⟨g, l.map RG.r, a, b, d⟩) hgo (by simpa using h2) (by simpa using h3) hz (by simpa using h4) (regE2 (by rw [hxd]; exact h5') (by rw [hxd]; exact h6)) (by decide) | exact sE4 (s := ⟨g, l.map RG.r, a, b, d⟩) hgo (by simpa using h2) (by simpa using h3) hz (by simpa using h4) ((regE3 (by rw [hxd]; exact h5') (by rw [hxd]; exact h6)).trans (by rw [hxd])) h7 | exact sE5 (s := ⟨g, l.map RG.r, a, b, d⟩) hgo (by simpa using h2) (by simpa using h3) hz (by simpa using h4) (by unfold rulesOk; dsimp only; omega) | exact sE6 (s := ⟨g, l.map RG.r, a, b, d⟩) hgo (by simpa using h2) (by simpa using h3) hz (by simpa using h4) (by unfold rulesOk; dsimp only; omega)
    ·
      refine VC.seq ?_
      refine VC.reg (VO.l (LO.fa (r := 5) F28_1 (.r rfl) rfl) rfl<|VO.l (LO.ld O24 (.r rfl) (fun _ hw => cells_at hw 0 rfl ⟨_, rfl⟩)) rfl<|VO.l (LO.len S24 (.r rfl) rfl) rfl<|VO.l (LO.gt (.r rfl) (.r rfl)) rfl<|VO.l (LO.as (.r rfl)) rfl<|VO.nil ?_)
      refine VE.seqN ?_
      refine VC.cond rfl (fun h3 => ?_) (fun h3 => ?_)
      ·
        refine VC.seq ?_
        refine VC.reg (VO.l (LO.as (.r rfl)) rfl<|VO.nil ?_)
        refine VE.seqN ?_
        refine VC.ret (VE.inR (VE.thenR (VE.res (vs := [_]) rfl ⟨rfl, trivial⟩ (fun w hw => ?_))))
        refine ⟨?_, hw.nil⟩
        simp only [resV]
        congr 2
        have hlen : (l.map RG.r).length = l.length := List.length_map ..
        first | exact sE1 (s := ⟨g, l.map RG.r, a, b, d⟩) h1 | exact sE2 (s := ⟨g, l.map RG.r, a, b, d⟩) hgo (by simpa using h2) | exact sE3 (s := ⟨g, l.map RG.r, a, b, d⟩) hgo (by simpa using h2) (by simpa using h3) | exact sE4 (s := ⟨g, l.map RG.r, a, b, d⟩) hgo (by simpa using h2) (by simpa using h3) hz (by simpa using h4) (regE1 (by rw [hxd]; exact h5)) (by decide) | exact sE4 (s := ⟨g, l.map RG.r, a, b, d⟩) hgo (by simpa using h2) (by simpa using h3) hz (by simpa using h4) (regE2 (by rw [hxd]; exact h5') (by rw [hxd]; exact h6)) (by decide) | exact sE4 (s := ⟨g, l.map RG.r, a, b, d⟩) hgo (by simpa using h2) (by simpa using h3) hz (by simpa using h4) ((regE3 (by rw [hxd]; exact h5') (by rw [hxd]; exact h6)).trans (by rw [hxd])) h7 | exact sE5 (s := ⟨g, l.map RG.r, a, b, d⟩) hgo (by simpa using h2) (by simpa using h3) hz (by simpa using h4) (by unfold rulesOk; dsimp only; omega) | exact sE6 (s := ⟨g, l.map RG.r, a, b, d⟩) hgo (by simpa using h2) (by simpa using h3) hz (by simpa using h4) (by unfold rulesOk; dsimp only; omega)
      ·
        refine VC.skip (VE.inN (VE.seqN ?_))
        refine VC.seq ?_
        refine VC.reg (VO.h rfl<|HO.mksets fun b2 => VO.h rfl<|HO.lo (LO.as (.r rfl))<|VO.nil ?_)
        refine VE.seqN ?_
        refine VC.seq ?_
        refine VC.seq ?_
        refine VC.reg (VO.l (LO.fa (r := 5) F28_1 (.r rfl) rfl) rfl<|VO.l (LO.ld O24 (.r rfl) (fun _ hw => cells_at hw 1 rfl ⟨_, rfl⟩)) rfl<|VO.l (LO.len S24 (.r rfl) rfl) rfl<|VO.l (LO.mv (.r rfl)) rfl<|VO.nil ?_)
        refine VE.seqN ?_
        refine VC.block ?_
        refine VC.loopK (α := Nat) 1 (fun gx => [(28, .int .i64 (gx : Nat))]) [(1,_), (4,_), (26,_), (27,_)] (fun gx => [setRs b2 (metB (l.map RG.r) gx)]) (fun gx => gx ≤ l.length ∧ ∀ k, k < gx → regE g (l.map RG.r) k = 0) (fun gx => l.length - gx) 0 (by exact ⟨by omega, fun k hk => by omega⟩) (.cons rfl (.cons rfl (.cons rfl (.cons rfl (.cons rfl .nil))))) (fun w h => by rw [met_zero]; exact h) ?_
        rintro j ⟨hj, hz⟩
        refine VC.seq ?_
        refine VC.reg (VO.l (LO.lt (.r rfl) (.r rfl)) rfl<|VO.nil ?_)
        refine VE.seqN ?_
        refine VC.seq ?_
        refine VC.cond rfl (fun h4 => ?_) (fun h4 => ?_)
        ·
          obtain ⟨x, hx⟩ : ∃ x, l[j]? = some x := ⟨_, List.getElem?_eq_getElem (by omega)⟩
          have hxo := hl.ok x (List.mem_of_getElem? hx)
          have hxd := getD_r hx
          refine VC.skip (VE.seqN ?_)
          refine VC.seq ?_
          refine VC.block ?_
          refine VC.seq ?_
          refine VC.reg (VO.l (LO.ixs S24 N74 hl.sm (.r rfl) (.r rfl) rfl (by omega)) rfl<|VO.l (LO.lda (vs := [_,_]) A74 (.r rfl) (hl.at hx) rfl) rfl<|VO.h rfl<|HO.alloc (C := #[_,_]) Z74 rfl fun b3 => VO.h0<|HO.st 0 (vs := [_,_]) (C' := [_,_]) (L' := [_,_,_]) N74 rfl rfl rfl rfl rfl rfl rfl rfl<|VO.nil ?_)
          refine VE.seqN ?_
          refine VC.seq ?_
          refine VC.block ?_
          refine VC.seq ?_
          refine VC.reg (VO.l (LO.fa (r := 0) F74_0 (.r rfl) rfl) rfl<|VO.l (LO.ld O9 (.r rfl) (fun _ hw => cells_at hw 0 rfl ⟨_, rfl⟩)) rfl<|VO.l (LO.call (xs := [_]) (vs := [_]) C63 ⟨(.r rfl), trivial⟩ (fun w _ => Name_c _ w)) rfl<|VO.l (LO.not (.r rfl)) rfl<|VO.l (LO.as (.r rfl)) rfl<|VO.nil ?_)
          refine VE.seqN ?_
          refine VC.cond rfl (fun h5 => ?_) (fun h5 => ?_)
          ·
            refine VC.seq ?_
            refine VC.reg (VO.l (LO.as (.r rfl)) rfl<|VO.nil ?_)
            refine VE.seqN ?_
            refine VC.ret (VE.inR (VE.thenR (VE.inR (VE.thenR (VE.thenR (VE.inR (VE.thenR (VE.res (vs := [_]) rfl ⟨rfl, trivial⟩ (fun w hw => ?_)))))))))
            refine ⟨?_, hw.nil⟩
            simp only [resV]
            congr 2
            have hlen : (l.map RG.r).length = l.length := List.length_map ..
            first | exact sE1 (s := ⟨g, l.map RG.r, a, b, d⟩) h1 | exact sE2 (s := ⟨g, l.map RG.r, a, b, d⟩) hgo (by simpa using h2) | exact sE3 (s := ⟨g, l.map RG.r, a, b, d⟩) hgo (by simpa using h2) (by simpa using h3) | exact sE4 (s := ⟨g, l.map RG.r, a, b, d⟩) hgo (by simpa using h2) (by simpa using h3) hz (by simpa using h4) (regE1 (by rw [hxd]; exact h5)) (by decide) | exact sE4 (s := ⟨g, l.map RG.r, a, b, d⟩) hgo (by simpa using h2) (by simpa using h3) hz (by simpa using h4) (regE2 (by rw [hxd]; exact h5') (by rw [hxd]; exact h6)) (by decide) | exact sE4 (s := ⟨g, l.map RG.r, a, b, d⟩) hgo (by simpa using h2) (by simpa using h3) hz (by simpa using h4) ((regE3 (by rw [hxd]; exact h5') (by rw [hxd]; exact h6)).trans (by rw [hxd])) h7 | exact sE5 (s := ⟨g, l.map RG.r, a, b, d⟩) hgo (by simpa using h2) (by simpa using h3) hz (by simpa using h4) (by unfold rulesOk; dsimp only; omega) | exact sE6 (s := ⟨g, l.map RG.r, a, b, d⟩) hgo (by simpa using h2) (by simpa using h3) hz (by simpa using h4) (by unfold rulesOk; dsimp only; omega)
          ·
            have h5' : nameB x.r.name = true := nn h5
            refine VC.seq ?_
            refine VC.reg (VO.l (LO.mv (.r rfl)) rfl<|VO.l (LO.fa (r := 0) F74_0 (.r rfl) rfl) rfl<|VO.l (LO.ld O9 (.r rfl) (fun _ hw => cells_at hw 0 rfl ⟨_, rfl⟩)) rfl<|VO.l (LO.lks M173 (.r rfl) (.r rfl) (fun _ hw => St.inv hw 1 _ rfl)) rfl<|VO.l (LO.as (.r rfl)) rfl<|VO.nil ?_)
            refine VE.seqN ?_
            refine VC.cond rfl (fun h6 => ?_) (fun h6 => ?_)
            ·
              refine VC.seq ?_
              refine VC.reg (VO.l (LO.as (.r rfl)) rfl<|VO.nil ?_)
              refine VE.seqN ?_
              refine VC.ret (VE.inR (VE.thenR (VE.inR (VE.thenR (VE.thenR (VE.inR (VE.thenR (VE.res (vs := [_]) rfl ⟨rfl, trivial⟩ (fun w hw => ?_)))))))))
              refine ⟨?_, hw.nil⟩
              simp only [resV]
              congr 2
              have hlen : (l.map RG.r).length = l.length := List.length_map ..
              first | exact sE1 (s := ⟨g, l.map RG.r, a, b, d⟩) h1 | exact sE2 (s := ⟨g, l.map RG.r, a, b, d⟩) hgo (by simpa using h2) | exact sE3 (s := ⟨g, l.map RG.r, a, b, d⟩) hgo (by simpa using h2) (by simpa using h3) | exact sE4 (s := ⟨g, l.map RG.r, a, b, d⟩) hgo (by simpa using h2) (by simpa using h3) hz (by simpa using h4) (regE1 (by rw [hxd]; exact h5)) (by decide) | exact sE4 (s := ⟨g, l.map RG.r, a, b, d⟩) hgo (by simpa using h2) (by simpa using h3) hz (by simpa using h4) (regE2 (by rw [hxd]; exact h5') (by rw [hxd]; exact h6)) (by decide) | exact sE4 (s := ⟨g, l.map RG.r, a, b, d⟩) hgo (by simpa using h2) (by simpa using h3) hz (by simpa using h4) ((regE3 (by rw [hxd]; exact h5') (by rw [hxd]; exact h6)).trans (by rw [hxd])) h7 | exact sE5 (s := ⟨g, l.map RG.r, a, b, d⟩) hgo (by simpa using h2) (by simpa using h3) hz (by simpa using h4) (by unfold rulesOk; dsimp only; omega) | exact sE6 (s := ⟨g, l.map RG.r, a, b, d⟩) hgo (by simpa using h2) (by simpa using h3) hz (by simpa using h4) (by unfold rulesOk; dsimp only; omega)
            ·
              refine VC.skip (VE.inN (VE.seqN ?_))
              refine VC.seq ?_
              refine VC.reg (VO.l (LO.mv (.r rfl)) rfl<|VO.l (LO.fa (r := 0) F74_0 (.r rfl) rfl) rfl<|VO.l (LO.ld O9 (.r rfl) (fun _ hw => cells_at hw 0 rfl ⟨_, rfl⟩)) rfl<|VO.h0<|HO.mus 1 (fun R => [_, R,_]) M173 (.r rfl) (.r rfl) (.r rfl) rfl (fun _ => rfl)<|VO.nil ?_)
              refine VE.seqN ?_
              refine VC.seq ?_
              refine VC.reg (VO.l (LO.lda (vs := [_,_]) A74 (.r rfl) (fun _ hw => cells_at hw 0 rfl ⟨_, rfl⟩) rfl) rfl<|VO.l (LO.fa (r := 0) F28_0 (.r rfl) rfl) rfl<|VO.l (LO.lda (vs := [_,_,_,_,_]) A23 (.r rfl) (fun _ hw => cells_at hw 2 rfl ⟨_, rfl⟩) rfl) rfl<|VO.l (LO.call (xs := [_,_]) (vs := [_,_]) C64 ⟨(.r rfl), (.r rfl), trivial⟩ (fun w hw => rcheck_c x g w hgo (hxo.1.keep w hw) hxo.2)) rfl<|VO.l (LO.as (.r rfl)) rfl<|VO.nil ?_)
              refine VE.seqN ?_
              refine VC.seq ?_
              refine VC.reg (VO.l (LO.mv (.r rfl)) rfl<|VO.l (LO.ne (.r rfl) (.r rfl)) rfl<|VO.nil ?_)
              refine VE.seqN ?_
              refine VC.cond rfl (fun h7 => ?_) (fun h7 => ?_)
              ·
                refine VC.seq ?_
                refine VC.reg (VO.l (LO.mv (.r rfl)) rfl<|VO.l (LO.as (.r rfl)) rfl<|VO.nil ?_)
                refine VE.seqN ?_
                refine VC.ret (VE.inR (VE.thenR (VE.thenR (VE.inR (VE.thenR (VE.res (vs := [_]) rfl ⟨rfl, trivial⟩ (fun w hw => ?_)))))))
                refine ⟨?_, hw.nil⟩
                simp only [resV]
                congr 2
                have hlen : (l.map RG.r).length = l.length := List.length_map ..
                first | exact sE1 (s := ⟨g, l.map RG.r, a, b, d⟩) h1 | exact sE2 (s := ⟨g, l.map RG.r, a, b, d⟩) hgo (by simpa using h2) | exact sE3 (s := ⟨g, l.map RG.r, a, b, d⟩) hgo (by simpa using h2) (by simpa using h3) | exact sE4 (s := ⟨g, l.map RG.r, a, b, d⟩) hgo (by simpa using h2) (by simpa using h3) hz (by simpa using h4) (regE1 (by rw [hxd]; exact h5)) (by decide) | exact sE4 (s := ⟨g, l.map RG.r, a, b, d⟩) hgo (by simpa using h2) (by simpa using h3) hz (by simpa using h4) (regE2 (by rw [hxd]; exact h5') (by rw [hxd]; exact h6)) (by decide) | exact sE4 (s := ⟨g, l.map RG.r, a, b, d⟩) hgo (by simpa using h2) (by simpa using h3) hz (by simpa using h4) ((regE3 (by rw [hxd]; exact h5') (by rw [hxd]; exact h6)).trans (by rw [hxd])) h7 | exact sE5 (s := ⟨g, l.map RG.r, a, b, d⟩) hgo (by simpa using h2) (by simpa using h3) hz (by simpa using h4) (by unfold rulesOk; dsimp only; omega) | exact sE6 (s := ⟨g, l.map RG.r, a, b, d⟩) hgo (by simpa using h2) (by simpa using h3) hz (by simpa using h4) (by unfold rulesOk; dsimp only; omega)
              ·
                refine VC.skip (VE.inN (VE.seqN ?_))
                refine VC.reg (VO.l (LO.add (.r rfl) (.r rfl) (wi (by omega) (by omega))) rfl<|VO.l (LO.mv (.r rfl)) rfl<|VO.nil ?_)
                refine VE.thenN fun a w ha hw => ⟨j + 1, ⟨by omega, step_zero hz ((regE3 (by rw [hxd]; exact h5') (by rw [hxd]; exact h6)).trans (by rw [hxd]; exact Classical.not_not.1 h7))⟩, (by omega), ha.sub (.cons rfl (.cons rfl (.cons rfl (.cons rfl (.cons rfl .nil))))), (by rw [met_step (by simp; omega), hxd]; exact hw.sel [1,2] rfl)⟩
        ·
          refine VC.exit (VE.thenX (VE.thenX (VE.inX (VE.seqN ?_))))
          refine VC.seq ?_
          refine VC.seq ?_
          refine VC.reg (VO.l (LO.fa (r := 6) F28_2 (.r rfl) rfl) rfl<|VO.l (LO.fa (r := 6) F26_0 (.r rfl) rfl) rfl<|VO.l (LO.ld O3 (.r rfl) (fun _ hw => cells_at hw 1 rfl ⟨_, rfl⟩)) rfl<|VO.l (LO.call (xs := [_,_,_]) (vs := [_,_,_]) C45 ⟨(.r rfl), (.r rfl), (.r rfl), trivial⟩ (fun w _ => iwithin_c _ _ _ w)) rfl<|VO.l (LO.not (.r rfl)) rfl<|VO.l (LO.mv (.r rfl)) rfl<|VO.lg rfl rfl (GD.f _) (fun hg => LO.fa (r := 6) F28_2 (.r rfl) rfl) rfl<|VO.lg rfl rfl (GD.f _) (fun hg => LO.fa (r := 7) F26_1 (.g hg rfl) rfl) rfl<|VO.lg rfl rfl (GD.f _) (fun hg => LO.ld O3 (.g hg rfl) (fun _ hw => cells_at hw 1 rfl ⟨_, rfl⟩)) rfl<|VO.lg rfl rfl (GD.f _) (fun hg => LO.call (xs := [_,_,_]) (vs := [_,_,_]) C45 ⟨(.g hg rfl), (.r rfl), (.r rfl), trivial⟩ (fun w _ => iwithin_c _ _ _ w)) rfl<|VO.lg rfl rfl (GD.f _) (fun hg => LO.not (.g hg rfl)) rfl<|VO.l (LO.pkO (.r rfl) (.r rfl) rfl rfl) rfl<|VO.l (LO.mv (.r rfl)) rfl<|VO.lg rfl rfl (GD.f _) (fun hg => LO.fa (r := 6) F28_2 (.r rfl) rfl) rfl<|VO.lg rfl rfl (GD.f _) (fun hg => LO.fa (r := 8) F26_2 (.g hg rfl) rfl) rfl<|VO.lg rfl rfl (GD.f _) (fun hg => LO.ld O3 (.g hg rfl) (fun _ hw => cells_at hw 1 rfl ⟨_, rfl⟩)) rfl<|VO.lg rfl rfl (GD.f _) (fun hg => LO.call (xs := [_,_,_]) (vs := [_,_,_]) C45 ⟨(.g hg rfl), (.r rfl), (.r rfl), trivial⟩ (fun w _ => iwithin_c _ _ _ w)) rfl<|VO.lg rfl rfl (GD.f _) (fun hg => LO.not (.g hg rfl)) rfl<|VO.l (LO.pkO (.r rfl) (.r rfl) rfl rfl) rfl<|VO.nil ?_)
          refine VE.seqN ?_
          refine VC.cond rfl (fun h8 => ?_) (fun h8 => ?_)
          ·
            refine VC.seq ?_
            refine VC.reg (VO.l (LO.as (.r rfl)) rfl<|VO.nil ?_)
            refine VE.seqN ?_
            refine VC.ret (VE.thenR (VE.res (vs := [_]) rfl ⟨rfl, trivial⟩ (fun w hw => ?_)))
            refine ⟨?_, hw.nil⟩
            simp only [resV]
            congr 2
            have hlen : (l.map RG.r).length = l.length := List.length_map ..
            first | exact sE1 (s := ⟨g, l.map RG.r, a, b, d⟩) h1 | exact sE2 (s := ⟨g, l.map RG.r, a, b, d⟩) hgo (by simpa using h2) | exact sE3 (s := ⟨g, l.map RG.r, a, b, d⟩) hgo (by simpa using h2) (by simpa using h3) | exact sE4 (s := ⟨g, l.map RG.r, a, b, d⟩) hgo (by simpa using h2) (by simpa using h3) hz (by simpa using h4) (regE1 (by rw [hxd]; exact h5)) (by decide) | exact sE4 (s := ⟨g, l.map RG.r, a, b, d⟩) hgo (by simpa using h2) (by simpa using h3) hz (by simpa using h4) (regE2 (by rw [hxd]; exact h5') (by rw [hxd]; exact h6)) (by decide) | exact sE4 (s := ⟨g, l.map RG.r, a, b, d⟩) hgo (by simpa using h2) (by simpa using h3) hz (by simpa using h4) ((regE3 (by rw [hxd]; exact h5') (by rw [hxd]; exact h6)).trans (by rw [hxd])) h7 | exact sE5 (s := ⟨g, l.map RG.r, a, b, d⟩) hgo (by simpa using h2) (by simpa using h3) hz (by simpa using h4) (by unfold rulesOk; dsimp only; omega) | exact sE6 (s := ⟨g, l.map RG.r, a, b, d⟩) hgo (by simpa using h2) (by simpa using h3) hz (by simpa using h4) (by unfold rulesOk; dsimp only; omega)
          ·
            refine VC.skip (VE.seqN ?_)
            refine VC.seq ?_
            refine VC.reg (VO.l (LO.as (.r rfl)) rfl<|VO.nil ?_)
            refine VE.seqN ?_
            refine VC.ret (VE.res (vs := [_]) rfl ⟨rfl, trivial⟩ (fun w hw => ?_))
            refine ⟨?_, hw.nil⟩
            simp only [resV]
            congr 2
            have hlen : (l.map RG.r).length = l.length := List.length_map ..
            first | exact sE1 (s := ⟨g, l.map RG.r, a, b, d⟩) h1 | exact sE2 (s := ⟨g, l.map RG.r, a, b, d⟩) hgo (by simpa using h2) | exact sE3 (s := ⟨g, l.map RG.r, a, b, d⟩) hgo (by simpa using h2) (by simpa using h3) | exact sE4 (s := ⟨g, l.map RG.r, a, b, d⟩) hgo (by simpa using h2) (by simpa using h3) hz (by simpa using h4) (regE1 (by rw [hxd]; exact h5)) (by decide) | exact sE4 (s := ⟨g, l.map RG.r, a, b, d⟩) hgo (by simpa using h2) (by simpa using h3) hz (by simpa using h4) (regE2 (by rw [hxd]; exact h5') (by rw [hxd]; exact h6)) (by decide) | exact sE4 (s := ⟨g, l.map RG.r, a, b, d⟩) hgo (by simpa using h2) (by simpa using h3) hz (by simpa using h4) ((regE3 (by rw [hxd]; exact h5') (by rw [hxd]; exact h6)).trans (by rw [hxd])) h7 | exact sE5 (s := ⟨g, l.map RG.r, a, b, d⟩) hgo (by simpa using h2) (by simpa using h3) hz (by simpa using h4) (by unfold rulesOk; dsimp only; omega) | exact sE6 (s := ⟨g, l.map RG.r, a, b, d⟩) hgo (by simpa using h2) (by simpa using h3) hz (by simpa using h4) (by unfold rulesOk; dsimp only; omega)

end Go.Proofs.Ytdjflomhaljljaa

namespace Go.Proofs.Ytdjflomhaljljaa
open Go.SL Go.Proofs Go.Cast
set_option linter.unusedVariables false

end Go.Proofs.Ytdjflomhaljljaa

namespace Go.Proofs.Ytdjflomhaljljaa
open Go.SL Go.Proofs Go.Cast
set_option linter.unusedVariables false

theorem C73 : IsFn Try.prog 73 := ⟨_, Try.func73, by decide, rfl⟩
theorem S127 : IsSlice Try.prog 127 55 := Try.underlying127
theorem Z55 : ZeroOf Try.prog 55 (.slice none 0 0) := by unfold ZeroOf; kernel_rfl
theorem N55 : (Try.prog.info? 55).map (·.size) = some 1 := by kernel_rfl
theorem I55 : EInfo Try.prog 55 1 24 (.slice none 0 0) := ⟨by kernel_rfl, by kernel_rfl, by unfold ZeroOf; kernel_rfl, rfl, by decide⟩


abbrev iC (n : Int) : List Value := [.int .i64 n]
abbrev IRow := RowA Int
def zI : IRow := RowA.z
def lsI (rs : List IRow) : List (List Int) := rs.map (·.l)
theorem lsI_len {rs : List IRow} : (lsI rs).length = rs.length := List.length_map ..
theorem lsI_get {rs : List IRow} (i : Nat) : (lsI rs).getD i [] = (rs.getD i zI).l := by
  unfold lsI
  rw [List.getD_eq_getElem?_getD, List.getD_eq_getElem?_getD, List.getElem?_map]
  cases rs[i]? <;> rfl
theorem lsI_app {xs ys : List IRow} : lsI (xs ++ ys) = lsI xs ++ lsI ys := List.map_append ..
theorem getD_some {α : Type} {l : List α} {d : α} {j : Nat} (hj : j < l.length) : l[j]? = some (l.getD j d) := by
  rw [List.getD_eq_getElem?_getD, List.getElem?_eq_getElem hj]; rfl
theorem irow_at {w : World} {p : Option Addr} {rs : List IRow} (h : RR 1 iC w p rs) {i : Nat} (hi : i < rs.length) : (rs.getD i zI).l.length ≤ (rs.getD i zI).c ∧ RO 1 iC w (rs.getD i zI).p (rs.getD i zI).l := h.2 _ (getD_mem (d := zI) hi)
structure Thr where
  lv : Int
  ld : Int
  px : Int
abbrev thrV (t : Thr) : Value := .agg #[.int .i64 t.lv, .int .i64 t.ld, .int .i64 t.px]
/-- The threat behind some of the pixels, at a lead. -/
def thrP (l : List Int) (x : Int) (pix : List Int) (a : Thr) : Nat → Thr
  | 0 => a
  | k + 1 => if (thrP l x pix a k).lv < l.getD (pix.getD k 0).toNat 0 then ⟨l.getD (pix.getD k 0).toNat 0, x, pix.getD k 0⟩ else thrP l x pix a k
/-- The threat behind some of the leads. -/
def thrL (ls : List (List Int)) (pix : List Int) (b : Int) : Nat → Thr
  | 0 => ⟨0, -1, -1⟩
  | i + 1 => thrP (ls.getD i []) (i * b) pix (thrL ls pix b i) pix.length
def thr (ls : List (List Int)) (pix : List Int) (b : Int) : Thr := thrL ls pix b ls.length
theorem thrP_y {l pix : List Int} {x v : Int} {a t : Thr} {k : Nat} (h : t = thrP l x pix a k) (hv : v = l.getD (pix.getD k 0).toNat 0) (hk : t.lv < v) : Thr.mk v x (pix.getD k 0) = thrP l x pix a (k + 1) := by
  subst h hv; unfold thrP; rw [if_pos hk]
theorem thrP_n {l pix : List Int} {x v : Int} {a t : Thr} {k : Nat} (h : t = thrP l x pix a k) (hv : v = l.getD (pix.getD k 0).toNat 0) (hk : ¬ t.lv < v) : t = thrP l x pix a (k + 1) := by
  subst h hv
  conv => rhs; unfold thrP
  rw [if_neg hk]
/-- How many leads are looked at. -/
def lookN (a b : Int) : Nat := (a / b).toNat + 1
def lookE (g : Grid) (l : List Cloud) : Int := atE g l 0
def lookI (g : Grid) (l : List Cloud) (b : Int) (n : Nat) : List (List Int) := (List.range n).map fun k : Nat => atL g l (k * b)
theorem lookI_len {g : Grid} {l : List Cloud} {b : Int} {n : Nat} : (lookI g l b n).length = n := by simp [lookI]
theorem lookI_add {g : Grid} {l : List Cloud} {b : Int} {n : Nat} : lookI g l b (n + 1) = lookI g l b n ++ [atL g l (n * b)] := by unfold lookI; rw [List.range_succ, List.map_append]; rfl
def lookL (g : Grid) (l : List Cloud) (a b : Int) : List (List Int) := if lookE g l ≠ 0 then [] else lookI g l b (lookN a b)
theorem look_lt {a b : Int} {i : Nat} (ha : 0 ≤ a) (hb : 30 ≤ b) : (i : Int) * b ≤ a ↔ i < lookN a b := by
  unfold lookN
  have h := Int.le_ediv_iff_mul_le (a := (i : Int)) (b := a) (c := b) (by omega)
  have h0 : 0 ≤ a / b := Int.ediv_nonneg ha (by omega)
  constructor
  · intro q; have := h.2 q; omega
  · intro q; exact h.1 (by omega)
theorem look_bd {a b : Int} {i : Nat} (ha : 0 ≤ a) (ha2 : a ≤ 7200) (hb : 30 ≤ b) (hb2 : b ≤ 3600) (hi : i ≤ lookN a b) : 0 ≤ (i : Int) * b ∧ (i : Int) * b ≤ 10800 ∧ i ≤ 241 := by
  have h0 : 0 ≤ a / b := Int.ediv_nonneg ha (by omega)
  have h1 : b * (a / b) ≤ a := Int.mul_ediv_self_le (by omega)
  have h2 : (i : Int) ≤ a / b + 1 := by unfold lookN at hi; omega
  have h3 : (i : Int) * b ≤ (a / b + 1) * b := Int.mul_le_mul_of_nonneg_right h2 (by omega)
  have h4 : (a / b + 1) * b = b * (a / b) + b := by rw [Int.add_mul, Int.one_mul, Int.mul_comm]
  have h5 : 30 * (a / b) ≤ b * (a / b) := Int.mul_le_mul_of_nonneg_right hb h0
  refine ⟨Int.mul_nonneg (by omega) (by omega), by omega, by omega⟩
theorem atE_lead {g : Grid} {l : List Cloud} {t : Int} (h1 : 0 ≤ t) (h2 : t ≤ 7200) : atE g l t = lookE g l := by
  unfold lookE atE
  simp [h1, h2]
theorem atL_len {g : Grid} {l : List Cloud} {t : Int} (h : atE g l t = 0) : (atL g l t).length = (g.wide * g.high).toNat := by
  unfold atL; rw [if_neg (by omega)]; simp
theorem look_err {g : Grid} {l : List Cloud} {a b e : Int} {w w' : World} {L : List Res} (he : e = lookE g l) (h0 : ¬ e = 0) (hw : St (bs w) L w') :
    ∃ x : (Option Addr × Nat) × List IRow, lsI x.2 = lookL g l a b ∧ Ending.returned (.tuple #[.slice none 0 0, .int .i64 e]) = .returned (.tuple #[.slice x.1.1 x.2.length x.1.2, .int .i64 (lookE g l)]) ∧ St (bs w) [own 55 1 x.1.1 x.1.2 (x.2.map rowC), bagR 3 1 iC x.2] w' :=
  ⟨((none, 0), []), by unfold lookL; rw [if_pos (by rw [← he]; exact h0)]; rfl, by rw [he]; rfl, (hw.nil.bagRNil 3 1 iC).ownNil 55 1⟩

set_option maxRecDepth 20000 in
theorem look_c (g : Grid) (rp : Option Addr) (rn rc : Nat) (a b d : Int) (l : List CP) (pl : Option Addr) (cl : Nat) (w : World) (ha : 0 ≤ a) (ha2 : a ≤ 7200) (hb : 30 ≤ b) (hb2 : b ≤ 3600) (hll : l.length < 1000000000000) (hl : Clouds w pl l) :
  Calls Try.prog 46 #[specV g rp rn rc a b d, .slice pl l.length cl] w fun e w' => ∃ x : (Option Addr × Nat) × List IRow, lsI x.2 = lookL g (l.map CP.c) a b ∧ e = .returned (.tuple #[.slice x.1.1 x.2.length x.1.2, .int .i64 (lookE g (l.map CP.c))]) ∧ St (bs w) [own 55 1 x.1.1 x.1.2 (x.2.map rowC), bagR 3 1 iC x.2] w' := by
  refine enter (vs := [_,_]) (env := [(0,_), (1,_)]) Try.func46 rfl rfl rfl rfl ?_
  refine VC.seq ?_
  refine VC.reg (VO.h rfl<|HO.box (C := #[_,_,_,_,_,_,_,_,_]) rfl rfl fun b1 => VO.l (LO.as (.r rfl)) rfl<|VO.l (LO.as (.r rfl)) rfl<|VO.nil ?_)
  refine VE.seqN ?_
  refine VC.seq ?_
  refine VC.reg (VO.l (LO.as (.r rfl)) rfl<|VO.nil ?_)
  refine VE.seqN ?_
  refine VC.seq ?_
  refine VC.seq ?_
  refine VC.reg (VO.l (LO.as (.r rfl)) rfl<|VO.nil ?_)
  refine VE.seqN ?_
  refine VC.block ?_
  refine VC.loopK (α := Nat × (List IRow) × (Option Addr) × Nat) 0 (fun gx => [(6, .slice gx.2.2.1 gx.2.1.length gx.2.2.2), (7, .int .i64 ((gx.1 : Int) * b))]) [(1,_), (2,_)] (fun gx => [own 55 1 gx.2.2.1 gx.2.2.2 (gx.2.1.map rowC), bagR 3 1 iC gx.2.1]) (fun gx => gx.1 ≤ lookN a b ∧ lsI gx.2.1 = lookI g (l.map CP.c) b gx.1 ∧ (0 < gx.1 → lookE g (l.map CP.c) = 0)) (fun gx => lookN a b - gx.1) (0, [], none, 0) (by exact ⟨Nat.zero_le _, rfl, fun h => absurd h (by omega)⟩) (.cons rfl (.cons (congrArg (fun z => some (Value.int .i64 z)) (Int.zero_mul b).symm) (.cons rfl (.cons rfl .nil)))) (fun _ h => ((h.bagRNil 3 1 iC).ownNil 55 1)) ?_
  rintro ⟨i, xs, px, cx⟩ ⟨hi, hX, hz⟩
  show VC _ _ _ _ _ ([(6, .slice px xs.length cx), (7, .int .i64 ((i : Int) * b))] ++ _) ([own 55 1 px cx (xs.map rowC), bagR 3 1 iC xs] ++ _) _ _
  dsimp only at hi hX hz
  have hxl : xs.length = i := by rw [← lsI_len, hX, lookI_len]
  refine VC.seq ?_
  refine VC.seq ?_
  have hbd0 := look_bd ha ha2 hb hb2 hi
  refine VC.reg (VO.l (LO.mv (.r rfl)) rfl<|VO.l (LO.fa (r := 6) F28_2 (.r rfl) rfl) rfl<|VO.l (LO.fa (r := 6) F26_0 (.r rfl) rfl) rfl<|VO.l (LO.ld O3 (.r rfl) (fun _ hw => cells_at hw 2 rfl ⟨_, rfl⟩)) rfl<|VO.l (LO.le (.r rfl) (.r rfl)) rfl<|VO.nil ?_)
  refine VE.seqN ?_
  refine VC.cond rfl (fun h14 => ?_) (fun h14 => ?_)
  ·
    have hi2 := (look_lt ha hb).1 h14
    have hbd := look_bd ha ha2 hb hb2 hi
    have hae := atE_lead (g := g) (l := l.map CP.c) (t := (i : Int) * b) hbd.1 (by omega)
    refine VC.skip (VE.seqN ?_)
    refine VC.seq ?_
    refine VC.block ?_
    refine VC.seq ?_
    refine VC.reg (VO.l (LO.fa (r := 0) F28_0 (.r rfl) rfl) rfl<|VO.l (LO.lda (vs := [_,_,_,_,_]) A23 (.r rfl) (fun _ hw => cells_at hw 2 rfl ⟨_, rfl⟩) rfl) rfl<|VO.l (LO.mv (.r rfl)) rfl<|VO.l (LO.mv (.r rfl)) rfl<|VO.h rfl<|HO.callx (xs := [_,_,_]) (vs := [_,_,_]) C73 ⟨(.r rfl), (.r rfl), (.r rfl), trivial⟩ (fun w hw => At_c g l pl cl ((i : Int) * b) w hll ⟨hl.rows.keep w hw, fun x hx => ⟨(hl.ok x hx).1.keep w hw, (hl.ok x hx).2.1.keep w hw, (hl.ok x hx).2.2⟩⟩) fun q _ => VO.h rfl<|HO.lo (LO.mv (.r rfl))<|VO.h rfl<|HO.lo (LO.ex (.r rfl) rfl)<|VO.h rfl<|HO.lo (LO.ex (.r rfl) rfl)<|VO.h rfl<|HO.lo (LO.as (.r rfl))<|VO.h rfl<|HO.lo (LO.as (.r rfl))<|VO.nil ?_)
    refine VE.seqN ?_
    refine VC.seq ?_
    refine VC.seq ?_
    refine VC.reg (VO.l (LO.mv (.r rfl)) rfl<|VO.l (LO.ne (.r rfl) (.r rfl)) rfl<|VO.nil ?_)
    refine VE.seqN ?_
    refine VC.cond rfl (fun h29 => ?_) (fun h29 => ?_)
    ·
      refine VC.seq ?_
      refine VC.reg (VO.l (LO.mv (.r rfl)) rfl<|VO.l (LO.as (.r rfl)) rfl<|VO.l (LO.as (.r rfl)) rfl<|VO.nil ?_)
      refine VE.seqN ?_
      refine VC.ret (VE.thenR (VE.inR (VE.thenR (VE.thenR (VE.inR (VE.thenR (VE.res (vs := [_,_]) rfl ⟨rfl, rfl, trivial⟩ (fun w hw => ?_))))))))
      first | exact look_err hae h29 hw | exact ⟨((px, cx), xs), by have h0 := hz (by unfold lookN at hi3; omega); unfold lookL; rw [if_neg (by omega), hX, hi3], by rw [hz (by unfold lookN at hi3; omega)]; rfl, hw.sel [0,1] rfl⟩
    ·
      refine VC.skip (VE.seqN ?_)
      refine VC.reg (VO.l (LO.mv (.r rfl)) rfl<|VO.l (LO.mv (.r rfl)) rfl<|VO.h rfl<|HO.bs (ps := [(_,_)]) (vs := [(_,_)]) (Z := [_]) (C := [_]) S127 Z55 N55 ⟨(.r rfl), trivial⟩ rfl rfl rfl rfl ⟨_, [_], [_], rfl, rfl, rfl, rfl, rfl⟩ fun b5 => VO.h rfl<|HO.appT ((⟨q.1, q.2, atL g (l.map CP.c) ((i : Int) * b)⟩ : IRow)) 2 0 (fun R => [_,_, R,_,_]) S127 S127 I55 (.r rfl) (.r rfl) rfl rfl rfl rfl rfl rfl rfl (fun _ => rfl) rfl (by omega) fun p3 c3 => VO.h rfl<|HO.lo (LO.as (.r rfl))<|VO.nil ?_)
      refine VE.inN (VE.seqN ?_)
      refine VC.reg (VO.l (LO.mv (.r rfl)) rfl<|VO.l (LO.fa (r := 6) F28_2 (.r rfl) rfl) rfl<|VO.l (LO.fa (r := 7) F26_1 (.r rfl) rfl) rfl<|VO.l (LO.ld O3 (.r rfl) (fun _ hw => cells_at hw 4 rfl ⟨_, rfl⟩)) rfl<|VO.l (LO.add (.r rfl) (.r rfl) (wi (by omega) (by omega))) rfl<|VO.l (LO.as (.r rfl)) rfl<|VO.nil ?_)
      refine VE.thenN fun a w ha hw => ⟨(i + 1, xs ++ [(⟨q.1, q.2, atL g (l.map CP.c) ((i : Int) * b)⟩ : IRow)], p3, c3), ⟨by dsimp only; omega, by dsimp only; rw [lsI_app, hX, lookI_add]; rfl, fun _ => by rw [← hae]; exact Classical.not_not.1 h29⟩, (by dsimp only; omega), ha.sub (.cons rfl (.cons (congrArg (fun z => some (Value.int .i64 z)) (by show (i : Int) * b + b = ((i + 1 : Nat) : Int) * b; rw [Int.natCast_succ, Int.add_mul, Int.one_mul])) (.cons rfl (.cons rfl .nil)))), ((hw.sel [1,3,2,4] rfl).bagRIn (x := (⟨q.1, q.2, atL g (l.map CP.c) ((i : Int) * b)⟩ : IRow))).sel [1,0,2] rfl⟩
  ·
    have hi3 : i = lookN a b := by have := (look_lt (i := i) ha hb).2; omega
    refine VC.exit (VE.thenX (VE.thenX (VE.inX (VE.seqN ?_))))
    refine VC.seq ?_
    refine VC.reg (VO.l (LO.mv (.r rfl)) rfl<|VO.l (LO.as (.r rfl)) rfl<|VO.l (LO.as (.r rfl)) rfl<|VO.nil ?_)
    refine VE.seqN ?_
    refine VC.ret (VE.res (vs := [_,_]) rfl ⟨rfl, rfl, trivial⟩ (fun w hw => ?_))
    first | exact look_err hae h29 hw | exact ⟨((px, cx), xs), by have h0 := hz (by unfold lookN at hi3; omega); unfold lookL; rw [if_neg (by omega), hX, hi3], by rw [hz (by unfold lookN at hi3; omega)]; rfl, hw.sel [0,1] rfl⟩

end Go.Proofs.Ytdjflomhaljljaa

namespace Go.Proofs.Ytdjflomhaljljaa
open Go.SL Go.Proofs Go.Cast
set_option linter.unusedVariables false

theorem Z131 : ZeroOf Try.prog 131 (.agg #[.int .i64 0, .int .i64 0, .int .i64 0]) := by unfold ZeroOf; kernel_rfl
theorem B131 : Builds Try.prog 131 [(0,1), (1,1), (2,1)] [.int .i64 0, .int .i64 0, .int .i64 0] := Builds.mk fun _ => by kernel_rfl
theorem N131 : (Try.prog.info? 131).map (·.size) = some 3 := by kernel_rfl
theorem F131_0 : FieldAt Try.prog 131 0 0 := ⟨_,_, Try.underlying131, rfl, rfl, 0, by kernel_rfl⟩
theorem A131 : IsAgg Try.prog 131 3 := ⟨⟨_, Try.underlying131, rfl⟩, by kernel_rfl⟩
theorem A28 : IsAgg Try.prog 28 9 := ⟨⟨_, Try.underlying28, rfl⟩, by kernel_rfl⟩
theorem C34 : IsFn Try.prog 34 := ⟨_, Try.func34, by decide, rfl⟩
theorem C46 : IsFn Try.prog 46 := ⟨_, Try.func46, by decide, rfl⟩
theorem C47 : IsFn Try.prog 47 := ⟨_, Try.func47, by decide, rfl⟩
theorem F131_1 : FieldAt Try.prog 131 1 1 := ⟨_,_, Try.underlying131, rfl, rfl, 0, by kernel_rfl⟩
theorem F131_2 : FieldAt Try.prog 131 2 2 := ⟨_,_, Try.underlying131, rfl, rfl, 0, by kernel_rfl⟩


theorem thrL_step {ls : List (List Int)} {pix : List Int} {b : Int} {i : Nat} {t u : Thr} (ht : t = thrL ls pix b i) (hu : u = thrP (ls.getD i []) (i * b) pix t pix.length) : u = thrL ls pix b (i + 1) := by
  subst ht; exact hu
theorem mul_small {i : Nat} {b : Int} (hi : i ≤ 1000) (hb : 0 ≤ b) (hb2 : b ≤ 3600) : 0 ≤ (i : Int) * b ∧ (i : Int) * b ≤ 3600000 := by
  refine ⟨Int.mul_nonneg (by omega) hb, ?_⟩
  have : (i : Int) * b ≤ 1000 * b := Int.mul_le_mul_of_nonneg_right (by omega) hb
  omega
/-- The pixels of a region lie in the rows of states. -/
def PixIn (pix : List Int) (rs : List IRow) : Prop := ∃ n : Nat, (∀ k, k < pix.length → 0 ≤ pix.getD k 0 ∧ pix.getD k 0 < n) ∧ ∀ i, i < rs.length → (rs.getD i zI).l.length = n
theorem look_pix {g : Grid} {l : List Cloud} {a b : Int} {rs : List IRow} {pix : List Int} (ha : 0 ≤ a) (ha2 : a ≤ 7200) (hb : 30 ≤ b) (hb2 : b ≤ 3600) (h : lsI rs = lookL g l a b) (h0 : lookE g l = 0) (hp : pixE g pix = 0) (hg : gridOk g) : PixIn pix rs := by
  have h1 : lsI rs = lookI g l b (lookN a b) := by rw [h]; unfold lookL; rw [if_neg (by omega)]
  have hN : rs.length = lookN a b := by rw [← lsI_len, h1, lookI_len]
  refine ⟨(g.wide * g.high).toNat, fun k hk => ?_, fun i hi => ?_⟩
  · have e : pix.getD k 0 = pix[k] := by rw [List.getD_eq_getElem?_getD, List.getElem?_eq_getElem hk]; rfl
    have h2 : firstE (mayE g pix) pix.length = 0 := by
      unfold pixE at hp
      split at hp
      · omega
      · exact hp
    have h3 := firstE_eq h2 k hk
    unfold mayE at h3
    have := area_bd hg
    split at h3
    · omega
    · omega
  · rw [← lsI_get, h1]
    have hbd := look_bd (i := i) ha ha2 hb hb2 (by omega)
    have e : (lookI g l b (lookN a b)).getD i [] = atL g l (i * b) := by
      unfold lookI
      rw [List.getD_eq_getElem?_getD, List.getElem?_map, List.getElem?_range (by omega)]; rfl
    rw [e]
    have hlt := (look_lt (i := i) ha hb).2 (by omega)
    exact atL_len (by rw [atE_lead hbd.1 (by omega)]; exact h0)

theorem specOk {s : Sp} (h : specE s = 0) : gridOk s.g ∧ s.regs.length ≤ 32 ∧ 0 < s.regs.length ∧ (∀ i, i < s.regs.length → pixE s.g (s.regs.getD i default).pix = 0) ∧ rulesOk s := by
  unfold specE at h
  split at h
  · omega
  · rename_i q1
    have q1 := Classical.not_not.1 q1
    split at h
    · omega
    · rename_i q2
      split at h
      · omega
      · split at h
        · omega
        · rename_i q4
          have q4 := Classical.not_not.1 q4
          split at h
          · omega
          · rename_i q5
            have q5 := Classical.not_not.1 q5
            have hl : 0 < s.regs.length := List.length_pos_iff.2 q2
            refine ⟨q1, by omega, hl, fun i hi => ?_, q5⟩
            have := firstE_eq q4 i hi
            unfold regE at this
            split at this
            · omega
            · split at this
              · omega
              · exact this
section
variable {s : Sp} {i : Int} {l : List Cloud}
end

set_option maxRecDepth 20000 in
theorem threat_c (r : RG) (rs : List IRow) (p : Option Addr) (c : Nat) (b : Int) (w : World) (hl : Ints w r.px r.r.pix) (hn : r.r.pix.length < 1000000000000) (hs : RR 1 iC w p rs) (hrn : rs.length ≤ 241) (hb : 0 ≤ b) (hb2 : b ≤ 3600) (hpi : PixIn r.r.pix rs) :
  Calls Try.prog 47 #[.agg #[.string r.r.name, .slice r.px r.r.pix.length r.cx], .slice p rs.length c, .int .i64 b] w fun e w' => e = .returned (thrV (thr (lsI rs) r.r.pix b)) ∧ St (bs w) [] w' := by
  obtain ⟨n, hpx, hrw⟩ := hpi
  refine enter (vs := [_,_,_]) (env := [(0,_), (1,_), (2,_)]) Try.func47 rfl rfl rfl rfl ?_
  refine VC.seq ?_
  refine VC.reg (VO.h rfl<|HO.box (C := #[_,_]) rfl rfl fun b1 => VO.h rfl<|HO.alloc (C := #[_,_,_]) Z131 rfl fun b2 => VO.nil ?_)
  refine VE.seqN ?_
  refine VC.seq ?_
  refine VC.reg (VO.l (LO.bd (ps := [(_,_), (_,_), (_,_)]) (vs := [(_,_), (_,_), (_,_)]) (C := [_,_,_]) B131  ⟨(.r rfl), (.r rfl), (.r rfl), trivial⟩ rfl ⟨_, [_], [_,_,_], rfl, rfl, rfl, rfl, ⟨_, [_], [_,_,_], rfl, rfl, rfl, rfl, ⟨_, [_], [_,_,_], rfl, rfl, rfl, rfl, rfl⟩⟩⟩) rfl<|VO.h rfl<|HO.alloc (C := #[_,_,_]) Z131 rfl fun b3 => VO.h0<|HO.st 0 (vs := [_,_,_]) (C' := [_,_,_]) (L' := [_,_,_]) N131 rfl rfl rfl rfl rfl rfl rfl rfl<|VO.nil ?_)
  refine VE.seqN ?_
  refine VC.seq ?_
  refine VC.seq ?_
  refine VC.reg (VO.l (LO.mv (.r rfl)) rfl<|VO.l (LO.len S127 (.r rfl) rfl) rfl<|VO.l (LO.mv (.r rfl)) rfl<|VO.nil ?_)
  refine VE.seqN ?_
  refine VC.block ?_
  refine VC.loopK (α := Nat × Thr) 1 (fun gx => [(16, .int .i64 (gx.1 : Nat))]) [(2,_), (3,_), (6,_), (7,_), (14,_), (15,_)] (fun gx => [blk b3 (.cells #[.int .i64 gx.2.lv, .int .i64 gx.2.ld, .int .i64 gx.2.px] 131)]) (fun gx => gx.1 ≤ rs.length ∧ gx.2 = thrL (lsI rs) r.r.pix b gx.1) (fun gx => rs.length - gx.1) (0, Thr.mk 0 (-1) (-1)) (by exact ⟨Nat.zero_le _, rfl⟩) (.cons rfl (.cons rfl (.cons rfl (.cons rfl (.cons rfl (.cons rfl (.cons rfl .nil))))))) (fun _ h => h) ?_
  rintro ⟨i, t⟩ ⟨hi, ht⟩
  show VC _ _ _ _ _ ([(16, .int .i64 (i : Nat))] ++ _) ([blk b3 (.cells #[.int .i64 t.lv, .int .i64 t.ld, .int .i64 t.px] 131)] ++ _) _ _
  dsimp only at hi ht
  refine VC.seq ?_
  refine VC.reg (VO.l (LO.lt (.r rfl) (.r rfl)) rfl<|VO.nil ?_)
  refine VE.seqN ?_
  refine VC.seq ?_
  refine VC.cond rfl (fun h17 => ?_) (fun h17 => ?_)
  ·
    have hrow := irow_at hs (i := i) (by omega)
    have hri := hrw i (by omega)
    have hib := mul_small (i := i) (b := b) (by omega) hb hb2
    refine VC.skip (VE.seqN ?_)
    refine VC.seq ?_
    refine VC.block ?_
    refine VC.seq ?_
    refine VC.reg (VO.l (LO.mv (.r rfl)) rfl<|VO.l (LO.ixs S127 N55 hs.1.sm (.r rfl) (.r rfl) rfl (by omega)) rfl<|VO.l (LO.ld O55 (.r rfl) (fun w hw => cells_part (off := 0) ((hs.1.at zI (j := i) (by omega)) w hw) ⟨_, rfl⟩)) rfl<|VO.l (LO.as (.r rfl)) rfl<|VO.l (LO.as (.r rfl)) rfl<|VO.nil ?_)
    refine VE.seqN ?_
    refine VC.seq ?_
    refine VC.reg (VO.l (LO.fa (r := 1) F74_1 (.r rfl) rfl) rfl<|VO.l (LO.ld O55 (.r rfl) (fun _ hw => cells_at hw 2 rfl ⟨_, rfl⟩)) rfl<|VO.l (LO.len S55 (.r rfl) rfl) rfl<|VO.l (LO.mv (.r rfl)) rfl<|VO.nil ?_)
    refine VE.seqN ?_
    refine VC.block ?_
    refine VC.loopK (α := Nat × Thr) 1 (fun gx => [(24, .int .i64 (gx.1 : Nat))]) [(2,_), (3,_), (6,_), (7,_), (8,_), (9,_), (14,_), (15,_), (16,_), (22,_), (23,_)] (fun gx => [blk b3 (.cells #[.int .i64 gx.2.lv, .int .i64 gx.2.ld, .int .i64 gx.2.px] 131)]) (fun gx => gx.1 ≤ r.r.pix.length ∧ gx.2 = thrP (rs.getD i zI).l ((i : Int) * b) r.r.pix t gx.1) (fun gx => r.r.pix.length - gx.1) (0, t) (by exact ⟨Nat.zero_le _, rfl⟩) (.cons rfl (.cons rfl (.cons rfl (.cons rfl (.cons rfl (.cons rfl (.cons rfl (.cons rfl (.cons rfl (.cons rfl (.cons rfl (.cons rfl .nil)))))))))))) (fun _ h => h) ?_
    rintro ⟨k, u⟩ ⟨hk, hu⟩
    show VC _ _ _ _ _ ([(24, .int .i64 (k : Nat))] ++ _) ([blk b3 (.cells #[.int .i64 u.lv, .int .i64 u.ld, .int .i64 u.px] 131)] ++ _) _ _
    dsimp only at hk hu
    refine VC.seq ?_
    refine VC.reg (VO.l (LO.lt (.r rfl) (.r rfl)) rfl<|VO.nil ?_)
    refine VE.seqN ?_
    refine VC.seq ?_
    refine VC.cond rfl (fun h25 => ?_) (fun h25 => ?_)
    ·
      have hpk := hpx k (by omega)
      refine VC.skip (VE.seqN ?_)
      refine VC.seq ?_
      refine VC.block ?_
      refine VC.seq ?_
      refine VC.reg (VO.l (LO.ixs S55 N3 hl.some (.r rfl) (.r rfl) rfl (by omega)) rfl<|VO.l (LO.ld O3 (.r rfl) (fun w hw => cells_part (off := 0) ((hl.at (j := k) (by omega)) w hw) ⟨_, rfl⟩)) rfl<|VO.l (LO.as (.r rfl)) rfl<|VO.nil ?_)
      refine VE.seqN ?_
      refine VC.seq ?_
      refine VC.reg (VO.l (LO.mv (.r rfl)) rfl<|VO.l (LO.mv (.r rfl)) rfl<|VO.l (LO.ixs S55 N3 hrow.2.sm (.r rfl) (.r rfl) (Int.toNat_of_nonneg (by omega)).symm (by omega)) rfl<|VO.l (LO.ld O3 (.r rfl) (fun w hw => cells_part (off := 0) ((hrow.2.at 0 (j := (r.r.pix.getD k 0).toNat) (by omega)) w hw) ⟨_, rfl⟩)) rfl<|VO.l (LO.as (.r rfl)) rfl<|VO.nil ?_)
      refine VE.seqN ?_
      refine VC.seq ?_
      refine VC.reg (VO.l (LO.mv (.r rfl)) rfl<|VO.l (LO.fa (r := 0) F131_0 (.r rfl) rfl) rfl<|VO.l (LO.ld O3 (.r rfl) (fun _ hw => cells_at hw 0 rfl ⟨_, rfl⟩)) rfl<|VO.l (LO.gt (.r rfl) (.r rfl)) rfl<|VO.nil ?_)
      refine VE.seqN ?_
      refine VC.cond rfl (fun h35 => ?_) (fun h35 => ?_)
      ·
        refine VC.reg (VO.l (LO.mv (.r rfl)) rfl<|VO.l (LO.mv (.r rfl)) rfl<|VO.l (LO.mv (.r rfl)) rfl<|VO.l (LO.mul (.r rfl) (.r rfl) (wi (by omega) (by omega))) rfl<|VO.l (LO.mv (.r rfl)) rfl<|VO.l (LO.bd (ps := [(_,_), (_,_), (_,_)]) (vs := [(_,_), (_,_), (_,_)]) (C := [_,_,_]) B131  ⟨(.r rfl), (.r rfl), (.r rfl), trivial⟩ rfl ⟨_, [_], [_,_,_], rfl, rfl, rfl, rfl, ⟨_, [_], [_,_,_], rfl, rfl, rfl, rfl, ⟨_, [_], [_,_,_], rfl, rfl, rfl, rfl, rfl⟩⟩⟩) rfl<|VO.h0<|HO.st 0 (vs := [_,_,_]) (C' := [_,_,_]) (L' := [_,_,_]) N131 rfl rfl rfl rfl rfl rfl rfl rfl<|VO.nil ?_)
        refine VE.inN (VE.seqN ?_)
        refine VC.reg (VO.l (LO.add (.r rfl) (.r rfl) (wi (by omega) (by omega))) rfl<|VO.l (LO.mv (.r rfl)) rfl<|VO.nil ?_)
        refine VE.thenN fun a w ha hw => ⟨(k + 1, Thr.mk ((rs.getD i zI).l.getD (r.r.pix.getD k 0).toNat 0) ((i : Int) * b) (r.r.pix.getD k 0)), ⟨by dsimp only; omega, thrP_y hu rfl (by omega)⟩, (by dsimp only; omega), ha.sub (.cons rfl (.cons rfl (.cons rfl (.cons rfl (.cons rfl (.cons rfl (.cons rfl (.cons rfl (.cons rfl (.cons rfl (.cons rfl (.cons rfl .nil)))))))))))), hw⟩
      ·
        refine VC.skip (VE.inN (VE.seqN ?_))
        refine VC.reg (VO.l (LO.add (.r rfl) (.r rfl) (wi (by omega) (by omega))) rfl<|VO.l (LO.mv (.r rfl)) rfl<|VO.nil ?_)
        refine VE.thenN fun a w ha hw => ⟨(k + 1, u), ⟨by dsimp only; omega, thrP_n hu rfl (by omega)⟩, (by dsimp only; omega), ha.sub (.cons rfl (.cons rfl (.cons rfl (.cons rfl (.cons rfl (.cons rfl (.cons rfl (.cons rfl (.cons rfl (.cons rfl (.cons rfl (.cons rfl .nil)))))))))))), hw⟩
    ·
      refine VC.exit (VE.thenX (VE.thenX (VE.inX (VE.inN (VE.seqN ?_)))))
      refine VC.reg (VO.l (LO.add (.r rfl) (.r rfl) (wi (by omega) (by omega))) rfl<|VO.l (LO.mv (.r rfl)) rfl<|VO.nil ?_)
      refine VE.thenN fun a w ha hw => ⟨(i + 1, u), ⟨by dsimp only; omega, thrL_step ht (by rw [lsI_get, show r.r.pix.length = k by omega]; exact hu)⟩, (by dsimp only; omega), ha.sub (.cons rfl (.cons rfl (.cons rfl (.cons rfl (.cons rfl (.cons rfl (.cons rfl .nil))))))), hw⟩
  ·
    refine VC.exit (VE.thenX (VE.thenX (VE.inX (VE.seqN ?_))))
    refine VC.seq ?_
    refine VC.reg (VO.l (LO.lda (vs := [_,_,_]) A131 (.r rfl) (fun _ hw => cells_at hw 0 rfl ⟨_, rfl⟩) rfl) rfl<|VO.h0<|HO.st 1 (vs := [_,_,_]) (C' := [_,_,_]) (L' := [_,_,_]) N131 rfl rfl rfl rfl rfl rfl rfl rfl<|VO.nil ?_)
    refine VE.seqN ?_
    refine VC.ret (VE.res (vs := [_]) rfl ⟨RV.agg (vs := [_,_,_]) A131 rfl (cells_blk 1 rfl ⟨_, rfl⟩) rfl, trivial⟩ (fun w hw => ?_))
    refine ⟨?_, hw.nil⟩
    have hi2 : i = rs.length := by omega
    simp only [resV]
    unfold thr
    rw [lsI_len, ← hi2, ← ht]

end Go.Proofs.Ytdjflomhaljljaa

namespace Go.Proofs.Ytdjflomhaljljaa
open Go.SL Go.Proofs Go.Cast
set_option linter.unusedVariables false

def zT : Thr := ⟨0, -1, -1⟩
theorem pix_in {g : Grid} {pix : List Int} (hp : pixE g pix = 0) {k : Nat} (hk : k < pix.length) : 0 ≤ pix.getD k 0 ∧ pix.getD k 0 ≤ g.wide * g.high - 1 := by
  have h2 : firstE (mayE g pix) pix.length = 0 := by
    unfold pixE at hp
    split at hp
    · omega
    · exact hp
  have h3 := firstE_eq h2 k hk
  unfold mayE at h3
  split at h3
  · omega
  · rename_i q; exact Classical.not_not.1 q
end Go.Proofs.Ytdjflomhaljljaa

namespace Go.Proofs.Ytdjflomhaljljaa
open Go.SL Go.Proofs Go.Cast
set_option linter.unusedVariables false

end Go.Proofs.Ytdjflomhaljljaa

namespace Go.Proofs.Ytdjflomhaljljaa
open Go.SL Go.Proofs Go.Cast
set_option linter.unusedVariables false

theorem F195_0 : FieldAt Try.prog 195 0 0 := ⟨_,_, Try.underlying195, rfl, rfl, 0, by kernel_rfl⟩
theorem S154 : IsSlice Try.prog 154 195 := Try.underlying154
theorem N195 : (Try.prog.info? 195).map (·.size) = some 2 := by kernel_rfl
theorem A195 : IsAgg Try.prog 195 2 := ⟨⟨_, Try.underlying195, rfl⟩, by kernel_rfl⟩
theorem C78 : IsFn Try.prog 78 := ⟨_, Try.func78, by decide, rfl⟩
theorem C98 : IsFn Try.prog 98 := ⟨_, Try.func98, by decide, rfl⟩
theorem Z195 : ZeroOf Try.prog 195 (.agg #[.int .i64 0, .int .i64 0]) := by unfold ZeroOf; kernel_rfl


structure Rch where
  t : Int
  lv : Int
def zRch : Rch := ⟨0,0⟩
def rchC (x : Rch) : List Value := [.int .i64 x.t, .int .i64 x.lv]
/-- What is too old to be held. -/
def oldR (T H : Int) (x : Rch) : Bool := decide (x.t < T - H)
def ixR (f : Rch → Bool) (l : List Rch) : Int := if l.findIdx f < l.length then (l.findIdx f : Int) else -1
theorem ixR_none {f : Rch → Bool} {l : List Rch} (h : ∀ k, k < l.length → f (l.getD k zRch) = false) : ixR f l = -1 := by
  have : l.findIdx f = l.length := List.findIdx_eq_length.2 fun x hx => by
    obtain ⟨k, hk, e⟩ := List.getElem_of_mem hx
    have := h k hk
    rw [List.getD_eq_getElem?_getD, List.getElem?_eq_getElem hk] at this
    rw [← e]; exact this
  unfold ixR; rw [if_neg (by omega)]
theorem ixR_some {f : Rch → Bool} {l : List Rch} {j : Nat} (hj : j < l.length) (h : ∀ k, k < j → f (l.getD k zRch) = false) (hf : f (l.getD j zRch) = true) : ixR f l = j := by
  have : l.findIdx f = j := (List.findIdx_eq hj).2 ⟨by rw [List.getD_eq_getElem?_getD, List.getElem?_eq_getElem hj] at hf; exact hf, fun k hk => by
    have := h k hk
    rw [List.getD_eq_getElem?_getD, List.getElem?_eq_getElem (by omega)] at this; exact this⟩
  unfold ixR; rw [if_pos (by omega), this]
theorem filter_all {f : Rch → Bool} {l : List Rch} (h : ∀ x, x ∈ l → f x = false) : l.filter (fun x => !f x) = l := List.filter_eq_self.2 fun x hx => by rw [h x hx]; rfl
theorem ixR_spec {f : Rch → Bool} {l : List Rch} (h : ¬ ixR f l = -1) : ∃ i : Nat, ixR f l = i ∧ i < l.length ∧ l.take i = (l.take (i + 1)).filter (fun x => !f x) := by
  unfold ixR at h ⊢
  split at h
  · rename_i q
    rw [if_pos q]
    refine ⟨l.findIdx f, rfl, q, ?_⟩
    have h2 := (List.findIdx_eq q).1 rfl
    have hall : ∀ x, x ∈ l.take (l.findIdx f) → f x = false := fun x hx => by
      obtain ⟨k, hk, e⟩ := List.getElem_of_mem hx
      rw [List.length_take] at hk
      rw [← e, List.getElem_take]
      exact h2.2 k (by omega)
    rw [List.take_add_one, List.getElem?_eq_getElem q, List.filter_append, filter_all hall]
    simp [h2.1]
  · exact absurd rfl h
theorem ixR_self {f : Rch → Bool} {l : List Rch} (h : ixR f l = -1) : l.filter (fun x => !f x) = l := by
  unfold ixR at h
  split at h
  · omega
  · refine filter_all fun x hx => ?_
    have : l.findIdx f = l.length := by have := List.findIdx_le_length (p := f) (xs := l); omega
    exact List.findIdx_eq_length.1 this x hx
def keepR (T H : Int) (l : List Rch) : List Rch := l.filter fun x => !oldR T H x
theorem del_keep {f : Rch → Bool} {l ys : List Rch} {i j : Nat} (hi : i ≤ j) (hj : j < l.length) (hl : ys.length = l.length) (h1 : ys.take i = (l.take j).filter (fun x => !f x)) (h2 : ys.drop j = l.drop j) (hf : ¬ f (ys.getD j zRch) = true) :
    (ys.set i (ys.getD j zRch)).take (i + 1) = (l.take (j + 1)).filter (fun x => !f x) ∧ (ys.set i (ys.getD j zRch)).drop (j + 1) = l.drop (j + 1) := by
  have e : ys.getD j zRch = l.getD j zRch := by
    rw [List.getD_eq_getElem?_getD, List.getD_eq_getElem?_getD]
    have := congrArg (fun z => z[0]?) h2
    simp only [List.getElem?_drop, Nat.add_zero] at this
    rw [this]
  constructor
  · rw [List.take_add_one, List.take_set_of_le (Nat.le_refl _), h1, List.getElem?_set, if_pos rfl, if_pos (by omega), List.take_add_one, List.filter_append, getD_some (l := l) (d := zRch) hj]
    congr 1
    rw [e] at hf ⊢
    generalize l.getD j zRch = v at hf ⊢
    simp [hf]
  · rw [List.drop_set_of_lt (by omega)]
    have := congrArg (fun z => z.drop 1) h2
    simpa [List.drop_drop, Nat.add_comm] using this
theorem del_drop {f : Rch → Bool} {l ys : List Rch} {i j : Nat} (hj : j < l.length) (hl : ys.length = l.length) (h1 : ys.take i = (l.take j).filter (fun x => !f x)) (h2 : ys.drop j = l.drop j) (hf : f (ys.getD j zRch) = true) :
    ys.take i = (l.take (j + 1)).filter (fun x => !f x) ∧ ys.drop (j + 1) = l.drop (j + 1) := by
  have e : ys.getD j zRch = l.getD j zRch := by
    rw [List.getD_eq_getElem?_getD, List.getD_eq_getElem?_getD]
    have := congrArg (fun z => z[0]?) h2
    simp only [List.getElem?_drop, Nat.add_zero] at this
    rw [this]
  constructor
  · rw [List.take_add_one, List.filter_append, getD_some (l := l) (d := zRch) hj, h1]
    rw [e] at hf
    generalize l.getD j zRch = v at hf ⊢
    simp [hf]
  · have := congrArg (fun z => z.drop 1) h2
    simpa [List.drop_drop, Nat.add_comm] using this
theorem del_end {f : Rch → Bool} {l ys : List Rch} {i j : Nat} (hj : j = l.length) (h1 : ys.take i = (l.take j).filter (fun x => !f x)) : ys.take i = l.filter fun x => !f x := by
  subst hj; rwa [List.take_length] at h1

set_option maxRecDepth 20000 in
theorem tooOld_c (x : Rch) (T H : Int) (b7 b8 : Nat) (w : World) (h7 : Cells w ⟨b7,0, none⟩ [.int .i64 T]) (h8 : Cells w ⟨b8,0, none⟩ [.int .i64 H]) (hT1 : 0 ≤ T) (hT2 : T ≤ 1000000000000) (hH1 : 0 ≤ H) (hH2 : H ≤ 1000000) :
  Calls Try.prog 78 #[.agg (rchC x).toArray, .pointer (some ⟨b7,0, none⟩), .pointer (some ⟨b8,0, none⟩)] w fun e w' => e = .returned (.bool (oldR T H x)) ∧ St (bs w) [] w' := by
  refine enter (vs := [_,_,_]) (env := [(0,_), (1,_), (2,_)]) Try.func78 rfl rfl rfl rfl ?_
  refine VC.seq ?_
  refine VC.reg (VO.h rfl<|HO.box (C := #[_,_]) rfl rfl fun b1 => VO.l (LO.as (.r rfl)) rfl<|VO.nil ?_)
  refine VE.seqN ?_
  refine VC.seq ?_
  refine VC.reg (VO.l (LO.fa (r := 0) F195_0 (.r rfl) rfl) rfl<|VO.l (LO.ld O3 (.r rfl) (fun _ hw => cells_at hw 0 rfl ⟨_, rfl⟩)) rfl<|VO.l (LO.ld O3 (.r rfl) (cells_keep (sub_cells (off := 0) h7 ⟨_, rfl⟩))) rfl<|VO.l (LO.ld O3 (.r rfl) (cells_keep (sub_cells (off := 0) h8 ⟨_, rfl⟩))) rfl<|VO.l (LO.sub (.r rfl) (.r rfl) (wi (by omega) (by omega))) rfl<|VO.l (LO.lt (.r rfl) (.r rfl)) rfl<|VO.l (LO.as (.r rfl)) rfl<|VO.nil ?_)
  refine VE.seqN ?_
  refine VC.ret (VE.res (vs := [_]) rfl ⟨rfl, trivial⟩ (fun w hw => ?_))
  exact ⟨rfl, hw.nil⟩

set_option maxRecDepth 20000 in
theorem IndexFunc_r (l : List Rch) (p : Option Addr) (c : Nat) (T H : Int) (b7 b8 : Nat) (w : World) (hn : l.length < 1000000000000) (hl : RO 2 rchC w p l) (h7 : Cells w ⟨b7,0, none⟩ [.int .i64 T]) (h8 : Cells w ⟨b8,0, none⟩ [.int .i64 H]) (hT1 : 0 ≤ T) (hT2 : T ≤ 1000000000000) (hH1 : 0 ≤ H) (hH2 : H ≤ 1000000) :
  Calls Try.prog 98 #[.slice p l.length c, .func (.func 78) #[] #[.pointer (some ⟨b7,0, none⟩), .pointer (some ⟨b8,0, none⟩)]] w fun e w' => e = .returned (.int .i64 (ixR (oldR T H) l)) ∧ St (bs w) [] w' := by
  refine enter (vs := [_,_]) (env := [(0,_), (1,_)]) Try.func98 rfl rfl rfl rfl ?_
  refine VC.seq ?_
  refine VC.reg (VO.l (LO.as (.r rfl)) rfl<|VO.nil ?_)
  refine VE.seqN ?_
  refine VC.seq ?_
  refine VC.seq ?_
  refine VC.reg (VO.l (LO.mv (.r rfl)) rfl<|VO.l (LO.len S154 (.r rfl) rfl) rfl<|VO.l (LO.mv (.r rfl)) rfl<|VO.nil ?_)
  refine VE.seqN ?_
  refine VC.block ?_
  refine VC.loopK (α := Nat) 0 (fun gx => [(8, .int .i64 (gx : Nat))]) [(0,_), (1,_), (7,_)] (fun gx => []) (fun gx => gx ≤ l.length ∧ ∀ k, k < gx → oldR T H (l.getD k zRch) = false) (fun gx => l.length - gx) 0 (by exact ⟨Nat.zero_le _, fun k hk => by omega⟩) (.cons rfl (.cons rfl (.cons rfl (.cons rfl .nil)))) (fun _ h => h) ?_
  rintro j ⟨hj, hz⟩
  refine VC.seq ?_
  refine VC.reg (VO.l (LO.lt (.r rfl) (.r rfl)) rfl<|VO.nil ?_)
  refine VE.seqN ?_
  refine VC.seq ?_
  refine VC.cond rfl (fun h9 => ?_) (fun h9 => ?_)
  ·
    refine VC.skip (VE.seqN ?_)
    refine VC.seq ?_
    refine VC.block ?_
    refine VC.seq ?_
    refine VC.reg (VO.l (LO.mv (.r rfl)) rfl<|VO.l (LO.as (.r rfl)) rfl<|VO.nil ?_)
    refine VE.seqN ?_
    refine VC.seq ?_
    refine VC.reg (VO.l (LO.mv (.r rfl)) rfl<|VO.l (LO.mv (.r rfl)) rfl<|VO.l (LO.mv (.r rfl)) rfl<|VO.l (LO.ixs S154 N195 hl.sm (.r rfl) (.r rfl) rfl (by omega)) rfl<|VO.l (LO.lda (vs := [_,_]) A195 (.r rfl) (fun w hw => cells_part (off := 0) ((hl.at zRch (j := j) (by omega)) w hw) ⟨_, rfl⟩) rfl) rfl<|VO.l (LO.callv (first := []) (cap := [_,_]) (xs := [_]) (vs := [_]) (.r rfl) C78 ⟨(.r rfl), trivial⟩ (fun w hw => tooOld_c (l.getD j zRch) T H b7 b8 w (cells_keep h7 w hw) (cells_keep h8 w hw) hT1 hT2 hH1 hH2)) rfl<|VO.nil ?_)
    refine VE.seqN ?_
    refine VC.cond rfl (fun h16 => ?_) (fun h16 => ?_)
    ·
      refine VC.seq ?_
      refine VC.reg (VO.l (LO.mv (.r rfl)) rfl<|VO.l (LO.as (.r rfl)) rfl<|VO.nil ?_)
      refine VE.seqN ?_
      refine VC.ret (VE.inR (VE.thenR (VE.thenR (VE.inR (VE.thenR (VE.res (vs := [_]) rfl ⟨rfl, trivial⟩ (fun w hw => ?_)))))))
      refine ⟨?_, hw.nil⟩
      simp only [resV]
      first | rw [ixR_some (by omega) hz h16] | rw [ixR_none (fun k hk => hz k (by omega))]
    ·
      refine VC.skip (VE.inN (VE.seqN ?_))
      refine VC.reg (VO.l (LO.add (.r rfl) (.r rfl) (wi (by omega) (by omega))) rfl<|VO.l (LO.mv (.r rfl)) rfl<|VO.nil ?_)
      refine VE.thenN fun a w ha hw => ⟨j + 1, ⟨by omega, fun k hk => by by_cases q : k = j; (· subst q; simpa using h16); (· exact hz k (by omega))⟩, (by omega), ha.sub (.cons rfl (.cons rfl (.cons rfl (.cons rfl .nil)))), hw⟩
  ·
    refine VC.exit (VE.thenX (VE.thenX (VE.inX (VE.seqN ?_))))
    refine VC.seq ?_
    refine VC.reg (VO.l (LO.as (.r rfl)) rfl<|VO.nil ?_)
    refine VE.seqN ?_
    refine VC.ret (VE.res (vs := [_]) rfl ⟨rfl, trivial⟩ (fun w hw => ?_))
    refine ⟨?_, hw.nil⟩
    simp only [resV]
    first | rw [ixR_some (by omega) hz h16] | rw [ixR_none (fun k hk => hz k (by omega))]

set_option maxRecDepth 20000 in
theorem DeleteFunc_c (l : List Rch) (p : Option Addr) (c : Nat) (T H : Int) (b7 b8 : Nat) (w : World) (hn : l.length < 1000000000000) (hh : Has w [own 195 2 p c (l.map rchC), blk b7 (.cells #[.int .i64 T] 3), blk b8 (.cells #[.int .i64 H] 3)]) (hT1 : 0 ≤ T) (hT2 : T ≤ 1000000000000) (hH1 : 0 ≤ H) (hH2 : H ≤ 1000000) :
  Calls Try.prog 77 #[.slice p l.length c, .func (.func 78) #[] #[.pointer (some ⟨b7,0, none⟩), .pointer (some ⟨b8,0, none⟩)]] w fun e w' => ∃ x : Unit, True ∧ e = .returned (.slice p (keepR T H l).length c) ∧ St ⟨w, fpL [own 195 2 p c (l.map rchC), blk b7 (.cells #[.int .i64 T] 3), blk b8 (.cells #[.int .i64 H] 3)]⟩ [own 195 2 p c ((keepR T H l).map rchC), blk b7 (.cells #[.int .i64 T] 3), blk b8 (.cells #[.int .i64 H] 3)] w' := by
  have hlc : l.length ≤ c := by have := (St.inv hh 0 _ rfl).1; rwa [List.length_map] at this
  refine enterO (vs := [_,_]) (env := [(0,_), (1,_)]) hh.enter Try.func77 rfl rfl rfl rfl ?_
  refine VC.seq ?_
  refine VC.reg (VO.l (LO.as (.r rfl)) rfl<|VO.nil ?_)
  refine VE.seqN ?_
  refine VC.seq ?_
  refine VC.reg (VO.l (LO.mv (.r rfl)) rfl<|VO.l (LO.mv (.r rfl)) rfl<|VO.l (LO.call (xs := [_,_]) (vs := [_,_]) C98 ⟨(.r rfl), (.r rfl), trivial⟩ (fun w hw => IndexFunc_r l p c T H b7 b8 w hn (RO.of_own hw 0 rfl) (cells_at hw 1 rfl ⟨_, rfl⟩) (cells_at hw 2 rfl ⟨_, rfl⟩) hT1 hT2 hH1 hH2)) rfl<|VO.l (LO.as (.r rfl)) rfl<|VO.nil ?_)
  refine VE.seqN ?_
  refine VC.seq ?_
  refine VC.seq ?_
  refine VC.reg (VO.l (LO.mv (.r rfl)) rfl<|VO.l (LO.eq (.r rfl) (.r rfl)) rfl<|VO.nil ?_)
  refine VE.seqN ?_
  refine VC.cond rfl (fun h12 => ?_) (fun h12 => ?_)
  ·
    refine VC.seq ?_
    refine VC.reg (VO.l (LO.mv (.r rfl)) rfl<|VO.l (LO.as (.r rfl)) rfl<|VO.nil ?_)
    refine VE.seqN ?_
    refine VC.ret (VE.thenR (VE.res (vs := [_]) rfl ⟨rfl, trivial⟩ (fun w hw => ?_)))
    first | exact ⟨(), trivial, by unfold keepR; rw [ixR_self h12]; rfl, by unfold keepR; rw [ixR_self h12]; exact hw.sel [0,1,2] rfl⟩ | (have hE := del_end (f := oldR T H) (by omega) hy1; exact ⟨(), trivial, by unfold keepR; rw [← hE, List.length_take, Nat.min_eq_left (by omega)]; rfl, by unfold keepR; rw [← hE, List.map_take]; exact hw.sel [0,1,2] rfl⟩)
  ·
    obtain ⟨i0, hi0, hil, hit⟩ := ixR_spec h12
    refine VC.skip (VE.seqN ?_)
    refine VC.seq ?_
    refine VC.seq ?_
    refine VC.reg (VO.l (LO.mv (.r rfl)) rfl<|VO.l (LO.add (.r rfl) (.r rfl) (wi (by omega) (by omega))) rfl<|VO.l (LO.as (.r rfl)) rfl<|VO.nil ?_)
    refine VE.seqN ?_
    refine VC.block ?_
    refine VC.loopK (α := Nat × Nat × (List Rch)) 1 (fun gx => [(5, .int .i64 (gx.1 : Nat)), (6, .int .i64 (gx.2.1 : Nat))]) [(0,_), (1,_)] (fun gx => [own 195 2 p c (gx.2.2.map rchC)]) (fun gx => gx.1 < gx.2.1 ∧ gx.2.1 ≤ l.length ∧ gx.2.2.length = l.length ∧ gx.2.2.take gx.1 = (l.take gx.2.1).filter (fun x => !oldR T H x) ∧ gx.2.2.drop gx.2.1 = l.drop gx.2.1) (fun gx => l.length - gx.2.1) (i0, i0 + 1, l) (by exact ⟨Nat.lt_succ_self _, hil, rfl, hit, rfl⟩) (.cons (congrArg (fun z => some (Value.int .i64 z)) hi0) (.cons (congrArg (fun z => some (Value.int .i64 z)) (by rw [hi0]; rfl)) (.cons rfl (.cons rfl .nil)))) (fun _ h => h) ?_
    rintro ⟨i, j, ys⟩ ⟨hij, hj, hyl, hy1, hy2⟩
    show VC _ _ _ _ _ ([(5, .int .i64 (i : Nat)), (6, .int .i64 (j : Nat))] ++ _) ([own 195 2 p c (ys.map rchC)] ++ _) _ _
    dsimp only at hij hj hyl hy1 hy2
    refine VC.seq ?_
    refine VC.seq ?_
    refine VC.reg (VO.l (LO.mv (.r rfl)) rfl<|VO.l (LO.mv (.r rfl)) rfl<|VO.l (LO.len S154 (.r rfl) rfl) rfl<|VO.l (LO.lt (.r rfl) (.r rfl)) rfl<|VO.nil ?_)
    refine VE.seqN ?_
    refine VC.cond rfl (fun h19 => ?_) (fun h19 => ?_)
    ·
      refine VC.skip (VE.seqN ?_)
      refine VC.seq ?_
      refine VC.block ?_
      refine VC.seq ?_
      refine VC.reg (VO.l (LO.mv (.r rfl)) rfl<|VO.l (LO.mv (.r rfl)) rfl<|VO.l (LO.ixo S154 N195 (fun _ hw => (own_rows hw 0 rfl).some (by rw [List.length_map]; omega)) (.r rfl) (.r rfl) rfl (by omega)) rfl<|VO.l (LO.lda (vs := [_,_]) A195 (.r rfl) (fun w hw => cells_part (off := 0) (own_cell hw 0 rfl (getD_some (d := zRch) (by omega))) ⟨_, rfl⟩) rfl) rfl<|VO.h rfl<|HO.alloc (C := #[_,_]) Z195 rfl fun b4 => VO.h0<|HO.st 0 (vs := [_,_]) (C' := [_,_]) (L' := [_,_,_,_]) N195 rfl rfl rfl rfl rfl rfl rfl rfl<|VO.nil ?_)
      refine VE.seqN ?_
      refine VC.seq ?_
      refine VC.reg (VO.l (LO.mv (.r rfl)) rfl<|VO.l (LO.lda (vs := [_,_]) A195 (.r rfl) (fun _ hw => cells_at hw 0 rfl ⟨_, rfl⟩) rfl) rfl<|VO.l (LO.callv (first := []) (cap := [_,_]) (xs := [_]) (vs := [_]) (.r rfl) C78 ⟨(.r rfl), trivial⟩ (fun w hw => tooOld_c (ys.getD j zRch) T H b7 b8 w (cells_at hw 2 rfl ⟨_, rfl⟩) (cells_at hw 3 rfl ⟨_, rfl⟩) hT1 hT2 hH1 hH2)) rfl<|VO.l (LO.not (.r rfl)) rfl<|VO.nil ?_)
      refine VE.seqN ?_
      refine VC.cond rfl (fun h29 => ?_) (fun h29 => ?_)
      ·
        refine VC.seq ?_
        refine VC.reg (VO.l (LO.mv (.r rfl)) rfl<|VO.l (LO.mv (.r rfl)) rfl<|VO.l (LO.lda (vs := [_,_]) A195 (.r rfl) (fun _ hw => cells_at hw 0 rfl ⟨_, rfl⟩) rfl) rfl<|VO.l (LO.ixo S154 N195 (fun _ hw => (own_rows hw 1 rfl).some (by rw [List.length_map]; omega)) (.r rfl) (.r rfl) rfl (by omega)) rfl<|VO.h0<|HO.sto 1 (fun R => [_, R,_,_]) (o := 0) (vs := [_,_]) N195 (.r rfl) (.r rfl) rfl (by rw [List.getElem?_map, getD_some (d := zRch) (by omega)]; rfl) rfl rfl (Nat.le_of_ble_eq_true rfl) rfl (fun _ => rfl)<|VO.nil ?_)
        refine VE.seqN ?_
        refine VC.reg (VO.l (LO.mv (.r rfl)) rfl<|VO.l (LO.add (.r rfl) (.r rfl) (wi (by omega) (by omega))) rfl<|VO.l (LO.as (.r rfl)) rfl<|VO.nil ?_)
        refine VE.inN (VE.seqN ?_)
        refine VC.reg (VO.l (LO.mv (.r rfl)) rfl<|VO.l (LO.add (.r rfl) (.r rfl) (wi (by omega) (by omega))) rfl<|VO.l (LO.as (.r rfl)) rfl<|VO.nil ?_)
        refine VE.thenN fun a w ha hw => ⟨(i + 1, j + 1, ys.set i (ys.getD j zRch)), (by have q := del_keep (f := oldR T H) (Nat.le_of_lt hij) (by omega) hyl hy1 hy2 h29; exact ⟨by dsimp only; omega, by dsimp only; omega, by dsimp only; rw [List.length_set]; exact hyl, q.1, q.2⟩), (by dsimp only; omega), ha.sub (.cons rfl (.cons rfl (.cons rfl (.cons rfl .nil)))), (by first | exact hw.sel [1,2,3] rfl | (rw [List.map_set]; exact hw.sel [1,2,3] rfl) | (rw [List.map_set]; exact hw))⟩
      ·
        refine VC.skip (VE.inN (VE.seqN ?_))
        refine VC.reg (VO.l (LO.mv (.r rfl)) rfl<|VO.l (LO.add (.r rfl) (.r rfl) (wi (by omega) (by omega))) rfl<|VO.l (LO.as (.r rfl)) rfl<|VO.nil ?_)
        refine VE.thenN fun a w ha hw => ⟨(i, j + 1, ys), (by have q := del_drop (f := oldR T H) (by omega) hyl hy1 hy2 (by simpa using h29); exact ⟨by dsimp only; omega, by dsimp only; omega, hyl, q.1, q.2⟩), (by dsimp only; omega), ha.sub (.cons rfl (.cons rfl (.cons rfl (.cons rfl .nil)))), (by first | exact hw.sel [1,2,3] rfl | (rw [List.map_set]; exact hw.sel [1,2,3] rfl) | (rw [List.map_set]; exact hw))⟩
    ·
      refine VC.exit (VE.thenX (VE.thenX (VE.inX (VE.seqN ?_))))
      refine VC.seq ?_
      refine VC.reg (VO.l (LO.mv (.r rfl)) rfl<|VO.l (LO.mv (.r rfl)) rfl<|VO.l (LO.sl (l := i) S154 N195 (.r rfl) (.r rfl) rfl (by omega)) rfl<|VO.h0<|HO.clr 0 i (fun R => [R,_,_]) S154 Z195 rfl rfl (.r rfl) rfl (by rw [List.length_map]; omega) (by rw [List.length_map]; omega) rfl (fun _ => rfl)<|VO.nil ?_)
      refine VE.seqN ?_
      refine VC.seq ?_
      refine VC.reg (VO.l (LO.mv (.r rfl)) rfl<|VO.l (LO.mv (.r rfl)) rfl<|VO.l (LO.slH (k := i) S154 N195 (.r rfl) (.r rfl) rfl (by omega)) rfl<|VO.l (LO.as (.r rfl)) rfl<|VO.nil ?_)
      refine VE.seqN ?_
      refine VC.ret (VE.res (vs := [_]) rfl ⟨rfl, trivial⟩ (fun w hw => ?_))
      first | exact ⟨(), trivial, by unfold keepR; rw [ixR_self h12]; rfl, by unfold keepR; rw [ixR_self h12]; exact hw.sel [0,1,2] rfl⟩ | (have hE := del_end (f := oldR T H) (by omega) hy1; exact ⟨(), trivial, by unfold keepR; rw [← hE, List.length_take, Nat.min_eq_left (by omega)]; rfl, by unfold keepR; rw [← hE, List.map_take]; exact hw.sel [0,1,2] rfl⟩)

end Go.Proofs.Ytdjflomhaljljaa

namespace Go.Proofs.Ytdjflomhaljljaa
open Go.SL Go.Proofs Go.Cast
set_option linter.unusedVariables false

theorem F156_3 : FieldAt Try.prog 156 3 4 := ⟨_,_, Try.underlying156, rfl, rfl, 0, by kernel_rfl⟩
theorem F117_1 : FieldAt Try.prog 117 1 9 := ⟨_,_, Try.underlying117, rfl, rfl, 0, by kernel_rfl⟩
theorem O113 : IsOne Try.prog 113 := ⟨⟨_, Try.underlying113, rfl⟩, by kernel_rfl⟩
theorem S113 : IsSlice Try.prog 113 151 := Try.underlying113
theorem F62_2 : FieldAt Try.prog 62 2 2 := ⟨_,_, Try.underlying62, rfl, rfl, 0, by kernel_rfl⟩
theorem O53 : IsOne Try.prog 53 := ⟨⟨_, Try.underlying53, rfl⟩, by kernel_rfl⟩
theorem F117_3 : FieldAt Try.prog 117 3 11 := ⟨_,_, Try.underlying117, rfl, rfl, 0, by kernel_rfl⟩
theorem O114 : IsOne Try.prog 114 := ⟨⟨_, Try.underlying114, rfl⟩, by kernel_rfl⟩
theorem S114 : IsSlice Try.prog 114 150 := Try.underlying114
theorem F62_1 : FieldAt Try.prog 62 1 1 := ⟨_,_, Try.underlying62, rfl, rfl, 0, by kernel_rfl⟩
theorem F62_0 : FieldAt Try.prog 62 0 0 := ⟨_,_, Try.underlying62, rfl, rfl, 0, by kernel_rfl⟩
theorem B64 : Builds Try.prog 64 [(0,1), (1,1), (2,1), (3,1), (4,1)] [.int .i64 0, .int .i64 0, .int .i64 0, .int .i64 0, .int .i64 0] := Builds.mk fun _ => by kernel_rfl
theorem F156_4 : FieldAt Try.prog 156 4 5 := ⟨_,_, Try.underlying156, rfl, rfl, 0, by kernel_rfl⟩
theorem N150 : (Try.prog.info? 150).map (·.size) = some 1 := by kernel_rfl
theorem O150 : IsOne Try.prog 150 := ⟨⟨_, Try.underlying150, rfl⟩, by kernel_rfl⟩
theorem Z150 : ZeroOf Try.prog 150 (.pointer none) := by unfold ZeroOf; kernel_rfl
theorem I150 : EInfo Try.prog 150 1 8 (.pointer none) := ⟨by kernel_rfl, by kernel_rfl, by unfold ZeroOf; kernel_rfl, rfl, by decide⟩
theorem N114 : (Try.prog.info? 114).map (·.size) = some 1 := by kernel_rfl
theorem F64_4 : FieldAt Try.prog 64 4 4 := ⟨_,_, Try.underlying64, rfl, rfl, 0, by kernel_rfl⟩
theorem F62_3 : FieldAt Try.prog 62 3 3 := ⟨_,_, Try.underlying62, rfl, rfl, 0, by kernel_rfl⟩
theorem F64_0 : FieldAt Try.prog 64 0 0 := ⟨_,_, Try.underlying64, rfl, rfl, 0, by kernel_rfl⟩
theorem F62_4 : FieldAt Try.prog 62 4 4 := ⟨_,_, Try.underlying62, rfl, rfl, 0, by kernel_rfl⟩
theorem O60 : IsOne Try.prog 60 := ⟨⟨_, Try.underlying60, rfl⟩, by kernel_rfl⟩
theorem A62 : IsAgg Try.prog 62 7 := ⟨⟨_, Try.underlying62, rfl⟩, by kernel_rfl⟩
theorem S60 : IsSlice Try.prog 60 62 := Try.underlying60
theorem Z62 : ZeroOf Try.prog 62 (.agg #[.int .i64 0, .int .i64 0, .int .i64 0, .int .i64 0, .int .i64 0, .int .i64 0, .int .i64 0]) := by unfold ZeroOf; kernel_rfl
theorem N62 : (Try.prog.info? 62).map (·.size) = some 7 := by kernel_rfl
theorem I62 : EInfo Try.prog 62 7 56 (.agg #[.int .i64 0, .int .i64 0, .int .i64 0, .int .i64 0, .int .i64 0, .int .i64 0, .int .i64 0]) := ⟨by kernel_rfl, by kernel_rfl, by unfold ZeroOf; kernel_rfl, rfl, by decide⟩
theorem N60 : (Try.prog.info? 60).map (·.size) = some 1 := by kernel_rfl
theorem F64_3 : FieldAt Try.prog 64 3 3 := ⟨_,_, Try.underlying64, rfl, rfl, 0, by kernel_rfl⟩


abbrev ptrN (b : Nat) : Value := .pointer (some ⟨b, 0, none⟩)
def ptrO (o : Option Nat) : Value := .pointer (o.map fun b => ⟨b, 0, none⟩)
def lastI (l : List Int) : Int := l.getD (l.length - 1) 0
structure RcM where
  x : RG
  b : Nat
  i : Nat
  rc : List Rch
  pr : Option Addr
  cr : Nat
  lv : List Int
  pv : Option Addr
  cv : Nat
  op : Option Nat
abbrev RcM.C (r : RcM) : List Value := [.string r.x.r.name, .slice r.x.px r.x.r.pix.length r.x.cx, .int .i64 r.i, .slice r.pr r.rc.length r.cr, .slice r.pv r.lv.length r.cv, ptrO r.op]
abbrev RcM.blk (r : RcM) : Res := Go.SL.blk r.b (.cells r.C.toArray 156)
abbrev RcM.rcR (r : RcM) : Res := own 195 2 r.pr r.cr (r.rc.map rchC)
abbrev RcM.lvR (r : RcM) : Res := own 3 1 r.pv r.cv (r.lv.map iC)
structure CsM where
  b : Nat
  nm : Int
  rg : Int
  bg : Int
  en : Int
  pk : Int
abbrev CsM.C (c : CsM) : List Value := [.int .i64 c.nm, .int .i64 c.rg, .int .i64 c.bg, .int .i64 c.en, .int .i64 c.pk]
abbrev CsM.blk (c : CsM) : Res := Go.SL.blk c.b (.cells c.C.toArray 64)
def csP (c : CsM) : List Value := [ptrN c.b]
def rcP (r : RcM) : List Value := [ptrN r.b]
structure Ev where
  t : Int
  rg : Int
  kd : Int
  lv : Int
  nm : Int
  ld : Int
  px : Int
def evC (x : Ev) : List Value := [.int .i64 x.t, .int .i64 x.rg, .int .i64 x.kd, .int .i64 x.lv, .int .i64 x.nm, .int .i64 x.ld, .int .i64 x.px]
inductive LgM where
  | st (t : Int) (p : Option Addr) (c : Nat) (l : List CP)
  | nt (t : Int) (g : Grid) (p : Option Addr) (c : Nat) (vs : List Span) (lv : Int)
def LgM.val : LgM → List Value
  | .st t p c l => [.iface 158 (.agg #[.int .i64 t, .slice p l.length c])]
  | .nt t g p c vs lv => [.iface 165 (.agg #[.int .i64 t, .int .i64 g.x, .int .i64 g.y, .int .i64 g.size, .int .i64 g.wide, .int .i64 g.high, .slice p vs.length c, .int .i64 lv])]
def cpR (x : CP) : List Res := [own 3 1 x.ps x.cs (x.c.sure.map iC), own 3 1 x.pm x.cm (x.c.may.map iC)]
def LgM.res : LgM → List Res
  | .st _ p c l => [own 80 7 p c (l.map CP.cells), bagD (l.flatMap cpR)]
  | .nt _ _ p c vs _ => [own 76 2 p c (vs.map Span.cells)]
structure OfM where
  b : Nat
  g : Grid
  rg : List RG
  pg : Option Addr
  cg : Nat
  lead : Int
  step : Int
  hold : Int
  rc : List RcM
  pc : Option Addr
  cc : Nat
  ts : List Int
  pt : Option Addr
  ct : Nat
  cs : List CsM
  pk : Option Addr
  ck : Nat
  lg : List LgM
  pl : Option Addr
  cl : Nat
abbrev OfM.C (o : OfM) : List Value := [.int .i64 o.g.x, .int .i64 o.g.y, .int .i64 o.g.size, .int .i64 o.g.wide, .int .i64 o.g.high, .slice o.pg o.rg.length o.cg, .int .i64 o.lead, .int .i64 o.step, .int .i64 o.hold, .slice o.pc o.rc.length o.cc, .slice o.pt o.ts.length o.ct, .slice o.pk o.cs.length o.ck, .slice o.pl o.lg.length o.cl]
abbrev OfM.blk (o : OfM) : Res := Go.SL.blk o.b (.cells o.C.toArray 117)
abbrev OfM.csR (o : OfM) : Res := own 150 1 o.pk o.ck (o.cs.map csP)
abbrev OfM.csB (o : OfM) : Res := bagD (o.cs.map CsM.blk)
/-- What the hand of a step does with an event: a warning begins, or the one that is open is turned. -/
def HandP (cs : List CsM) (op : Option Nat) (x : Ev) (cs' : List CsM) (op' : Option Nat) (x' : Ev) : Prop :=
  (x.kd = 1 ∧ ∃ b, op' = some b ∧ cs' = cs ++ [⟨b, cs.length + 1, x.rg, x.t, 1099511627776, max 0 x.lv⟩] ∧ x' = { x with nm := cs.length + 1 }) ∨
  (x.kd ≠ 1 ∧ ∃ (k : Nat) (c : CsM), cs[k]? = some c ∧ op = some c.b ∧ op' = op ∧ cs' = cs.set k { c with en := if x.kd = 2 then x.t else c.en, pk := max c.pk x.lv } ∧ x' = { x with nm := c.nm })
theorem St.bagAdd {β : Bs} {L Rs : List Res} {r : Res} {w : World} (h : St β (r :: bagD Rs :: L) w) : St β (bagD (Rs ++ [r]) :: L) w := St.unfocus (A := Rs) (B := []) (by rw [List.append_nil]; exact h)
theorem St.bagCs {β : Bs} {L : List Res} {cs : List CsM} {c : CsM} {w : World} (h : St β (CsM.blk c :: bagD (cs.map CsM.blk) :: L) w) : St β (bagD ((cs ++ [c]).map CsM.blk) :: L) w := by rw [List.map_append]; exact St.bagAdd h

theorem LO.eqPn {P : Program} {β : Bs} {env : Env} {L : List Res} {d : Option Nat} {ty : TypeId} {pos : String} {aft : Array Edge} {g : Option (Nat × Bool)} {T T2 : TypeId} {x y : Operand} {p : Addr} (hT : ∃ E, P.underlying T = some (.pointer E)) (hx : OV env x (.pointer (some p))) (hy : OV env y (.pointer none)) :
    LO P β env L ⟨d, .binOp .eql T x y T2, ty, pos, aft, g⟩ (.bool false) :=
  .of_run fun a w h hw => ⟨w, by
    obtain ⟨E, hE⟩ := hT
    have key : (Op.equalIn Op.maxDepth T (.pointer (some p)) (.pointer none)).run P w = .ok false w := by
      show (Op.equalIn (9999 + 1) T (.pointer (some p)) (.pointer none)).run P w = _
      unfold Op.equalIn
      rw [Sem.run_bind, run_underlying hE]
      rfl
    simp only [execOp, h x (by simp [Op.operands]) _ hx, h y (by simp [Op.operands]) _ hy, eqGuard, binOp, Op.equal, Sem.run_bind, Sem.run_pure, Result.andThen_ok, key, Bool.not_true, Bool.false_eq_true, if_false], hw⟩
set_option maxRecDepth 20000 in
theorem level_c (r : RcM) (w : World) (hn : r.lv.length < 1000000000000) (h : Cells w ⟨r.b, 0, none⟩ r.C) (hl : RO 1 iC w r.pv r.lv) :
  Calls Try.prog 54 #[ptrN r.b] w fun e w' => e = .returned (.int .i64 (lastI r.lv)) ∧ St (bs w) [] w' := by
  refine enter (vs := [_]) (env := [(0,_)]) Try.func54 rfl rfl rfl rfl ?_
  refine VC.seq ?_
  refine VC.reg (VO.l (LO.as (.r rfl)) rfl<|VO.nil ?_)
  refine VE.seqN ?_
  refine VC.seq ?_
  refine VC.seq ?_
  refine VC.reg (VO.l (LO.mv (.r rfl)) rfl<|VO.l (LO.nc (.r rfl)) rfl<|VO.l (LO.fa (r := 4) F156_3 (.r rfl) rfl) rfl<|VO.l (LO.ld O55 (.r rfl) (cells_keep (sub_cells (off := 4) h ⟨_, rfl⟩))) rfl<|VO.l (LO.len S55 (.r rfl) rfl) rfl<|VO.l (LO.eq (.r rfl) (.r rfl)) rfl<|VO.nil ?_)
  refine VE.seqN ?_
  refine VC.cond rfl (fun h8 => ?_) (fun h8 => ?_)
  ·
    refine VC.seq ?_
    refine VC.reg (VO.l (LO.as (.r rfl)) rfl<|VO.nil ?_)
    refine VE.seqN ?_
    refine VC.ret (VE.thenR (VE.res (vs := [_]) rfl ⟨rfl, trivial⟩ (fun w hw => ?_)))
    refine ⟨?_, hw.nil⟩
    simp only [resV]
    first | rfl | (unfold lastI; rw [List.getD_eq_getElem?_getD, List.getElem?_eq_none (by omega)]; rfl)
  ·
    refine VC.skip (VE.seqN ?_)
    refine VC.seq ?_
    refine VC.draw mixed (LL.l (LO.mv (.r rfl)) rfl<|LL.l (LO.nc (.r rfl)) rfl<|LL.l (LO.fa (r := 4) F156_3 (.r rfl) rfl) rfl<|LL.l (LO.ld O55 (.r rfl) (cells_keep (sub_cells (off := 4) h ⟨_, rfl⟩))) rfl<|LL.l (LO.mv (.r rfl)) rfl<|LL.l (LO.nc (.r rfl)) rfl<|LL.l (LO.fa (r := 4) F156_3 (.r rfl) rfl) rfl<|LL.l (LO.ld O55 (.r rfl) (cells_keep (sub_cells (off := 4) h ⟨_, rfl⟩))) rfl<|LL.l (LO.len S55 (.r rfl) rfl) rfl<|LL.l (LO.sub (.r rfl) (.r rfl) (wi (by omega) (by omega))) rfl<|LL.l (LO.ixs S55 N3 hl.sm (.r rfl) (.r rfl) (by omega) (by omega)) rfl<|LL.l (LO.ld O3 (.r rfl) (fun w hw => cells_part (off := 0) ((hl.at 0 (j := (r.lv.length - 1)) (by omega)) w hw) ⟨_, rfl⟩)) rfl<|LL.l (LO.as (.r rfl)) rfl<|LL.nil) (by kernel_rfl) ?_
    refine VE.seqN ?_
    refine VC.ret (VE.res (vs := [_]) rfl ⟨rfl, trivial⟩ (fun w hw => ?_))
    refine ⟨?_, hw.nil⟩
    simp only [resV]
    first | rfl | (unfold lastI; rw [List.getD_eq_getElem?_getD, List.getElem?_eq_none (by omega)]; rfl)

set_option maxRecDepth 20000 in
theorem nothing_c (o : OfM) (w : World) (hn : o.rc.length < 1000000000000) (h : Cells w ⟨o.b, 0, none⟩ o.C) :
  Calls Try.prog 53 #[ptrN o.b] w fun e w' => e = .returned (.bool (decide ((o.rc.length : Int) = 0))) ∧ St (bs w) [] w' := by
  refine enter (vs := [_]) (env := [(0,_)]) Try.func53 rfl rfl rfl rfl ?_
  refine VC.seq ?_
  refine VC.reg (VO.l (LO.as (.r rfl)) rfl<|VO.nil ?_)
  refine VE.seqN ?_
  refine VC.seq ?_
  refine VC.reg (VO.l (LO.mv (.r rfl)) rfl<|VO.l (LO.eqPn ⟨_, Try.underlying53⟩ (.r rfl) (.r rfl)) rfl<|VO.l (LO.mv (.r rfl)) rfl<|VO.lg rfl rfl (GD.f _) (fun hg => LO.mv (.r rfl)) rfl<|VO.lg rfl rfl (GD.f _) (fun hg => LO.nc (.g hg rfl)) rfl<|VO.lg rfl rfl (GD.f _) (fun hg => LO.fa (r := 9) F117_1 (.g hg rfl) rfl) rfl<|VO.lg rfl rfl (GD.f _) (fun hg => LO.ld O113 (.g hg rfl) (cells_keep (sub_cells (off := 9) h ⟨_, rfl⟩))) rfl<|VO.lg rfl rfl (GD.f _) (fun hg => LO.len S113 (.g hg rfl) rfl) rfl<|VO.lg rfl rfl (GD.f _) (fun hg => LO.eq (.g hg rfl) (.r rfl)) rfl<|VO.l (LO.pkO (.r rfl) (.r rfl) rfl rfl) rfl<|VO.l (LO.as (.r rfl)) rfl<|VO.nil ?_)
  refine VE.seqN ?_
  refine VC.ret (VE.res (vs := [_]) rfl ⟨rfl, trivial⟩ (fun w hw => ?_))
  exact ⟨rfl, hw.nil⟩

set_option maxRecDepth 20000 in
theorem hand_b (o : OfM) (r : RcM) (x : Ev) (es : List Ev) (pe : Option Addr) (ce bo bu : Nat) (w : World) (hcs : o.cs.length < 1000000) (hes : es.length < 1000000) (hk : x.kd = 1) (hh : Has w [blk bo (.cells #[ptrN o.b] 53), blk bu (.cells #[.slice pe es.length ce] 60), own 62 7 pe ce (es.map evC), o.blk, o.csR, o.csB, r.blk]) :
  Calls Try.prog 57 #[.agg (evC x).toArray, ptrN r.b, ptrN bo, ptrN bu] w fun e w' => ∃ y : Nat × (Option Addr × Nat) × (Option Addr × Nat), True ∧ e = .returned (.tuple #[]) ∧ St ⟨w, fpL [blk bo (.cells #[ptrN o.b] 53), blk bu (.cells #[.slice pe es.length ce] 60), own 62 7 pe ce (es.map evC), o.blk, o.csR, o.csB, r.blk]⟩ [blk bo (.cells #[ptrN o.b] 53), blk bu (.cells #[.slice y.2.2.1 (es ++ [{ x with nm := o.cs.length + 1 }]).length y.2.2.2] 60), own 62 7 y.2.2.1 y.2.2.2 ((es ++ [{ x with nm := o.cs.length + 1 }]).map evC), OfM.blk { o with cs := o.cs ++ [CsM.mk y.1 (o.cs.length + 1) x.rg x.t 1099511627776 (max 0 x.lv)], pk := y.2.1.1, ck := y.2.1.2 }, own 150 1 y.2.1.1 y.2.1.2 ((o.cs ++ [CsM.mk y.1 (o.cs.length + 1) x.rg x.t 1099511627776 (max 0 x.lv)]).map csP), bagD ((o.cs ++ [CsM.mk y.1 (o.cs.length + 1) x.rg x.t 1099511627776 (max 0 x.lv)]).map CsM.blk), RcM.blk { r with op := some y.1 }] w' := by
  refine enterO (vs := [_,_,_,_]) (env := [(0,_), (1,_), (2,_), (3,_)]) hh.enter Try.func57 rfl rfl rfl rfl ?_
  refine VC.seq ?_
  refine VC.reg (VO.h rfl<|HO.box (C := #[_,_,_,_,_,_,_]) rfl rfl fun b8 => VO.nil ?_)
  refine VE.seqN ?_
  refine VC.seq ?_
  refine VC.seq ?_
  refine VC.reg (VO.l (LO.fa (r := 2) F62_2 (.r rfl) rfl) rfl<|VO.l (LO.ld O3 (.r rfl) (fun _ hw => cells_at hw 0 rfl ⟨_, rfl⟩)) rfl<|VO.l (LO.eq (.r rfl) (.r rfl)) rfl<|VO.nil ?_)
  refine VE.seqN ?_
  refine VC.cond rfl (fun h8 => ?_) (fun h8 => ?_)
  ·
    refine VC.seq ?_
    refine VC.drawH [[0,1,2,3,4,5,6,7], [0,1,2,3,4,5,6,7], [0,1,2,3,4,5,6]] [some 1, some 0, some 0, some 0, some 0, some 0, some 0, some 0, some 0, some 0, some 0, some 0, none, some 1, some 1, none] mixed (by kernel_rfl) rfl (LX.l (fun _ hJ => LO.mv (.r rfl)) rfl<|LX.l (fun _ hJ => LO.ld O53 (.r rfl) (fun _ hw => cells_at (hJ _ hw) 1 rfl ⟨_, rfl⟩)) rfl<|LX.l (fun _ hJ => LO.nc (.r rfl)) rfl<|LX.l (fun _ hJ => LO.fa (r := 11) F117_3 (.r rfl) rfl) rfl<|LX.l (fun _ hJ => LO.ld O114 (.r rfl) (fun _ hw => cells_at (hJ _ hw) 4 rfl ⟨_, rfl⟩)) rfl<|LX.l (fun _ hJ => LO.len S114 (.r rfl) rfl) rfl<|LX.l (fun _ hJ => LO.add (.r rfl) (.r rfl) (wi (by omega) (by omega))) rfl<|LX.l (fun _ hJ => LO.fa (r := 1) F62_1 (.r rfl) rfl) rfl<|LX.l (fun _ hJ => LO.ld O3 (.r rfl) (fun _ hw => cells_at (hJ _ hw) 0 rfl ⟨_, rfl⟩)) rfl<|LX.l (fun _ hJ => LO.fa (r := 0) F62_0 (.r rfl) rfl) rfl<|LX.l (fun _ hJ => LO.ld O3 (.r rfl) (fun _ hw => cells_at (hJ _ hw) 0 rfl ⟨_, rfl⟩)) rfl<|LX.l (fun _ hJ => LO.bd (ps := [(_,_), (_,_), (_,_), (_,_)]) (vs := [(_,_), (_,_), (_,_), (_,_)]) (C := [_,_,_,_,_]) B64  ⟨(.r rfl), (.r rfl), (.r rfl), (.r rfl), trivial⟩ rfl ⟨_, [_], [_,_,_,_,_], rfl, rfl, rfl, rfl, ⟨_, [_], [_,_,_,_,_], rfl, rfl, rfl, rfl, ⟨_, [_], [_,_,_,_,_], rfl, rfl, rfl, rfl, ⟨_, [_], [_,_,_,_,_], rfl, rfl, rfl, rfl, rfl⟩⟩⟩⟩) rfl<|LX.s<|LX.l (fun _ hJ => LO.nc (.r rfl)) rfl<|LX.l (fun _ hJ => LO.fa (r := 5) F156_4 (.r rfl) rfl) rfl<|LX.s<|LX.nil) (HX.s<|HX.s<|HX.s<|HX.s<|HX.s<|HX.s<|HX.s<|HX.s<|HX.s<|HX.s<|HX.s<|HX.s<|HX.h rfl<|HO.box (C := #[_,_,_,_,_]) rfl rfl fun b11 => ⟨selJ (L1 := [_,_,_,_,_,_,_,_]) [1,2,3,4,5,6,7,8] rfl rfl rfl, HX.s<|HX.s<|HX.h0<|HO.st 8 (vs := [_]) (C' := [_,_,_,_,_,_]) (L' := [_,_,_,_,_,_,_,_,_]) N150 rfl rfl rfl rfl rfl rfl rfl rfl<|⟨selJ (L1 := [_,_,_,_,_,_,_]) [1,2,3,4,5,6,7] rfl rfl rfl, HX.nil ?_⟩⟩)
    refine VE.seqN ?_
    refine VC.drawH [[0,1,2,3,4,5,6,7,8], [0,1,2,3,4,5,6,7,8], [0,1,2,3,4,5,7,8], [0,1,2,3,4,7,8]] [some 2, some 1, some 1, some 1, some 1, some 0, some 0, some 0, some 0, none, none, some 2, some 2, none] mixed (by kernel_rfl) rfl (LX.l (fun _ hJ => LO.ld O53 (.r rfl) (fun _ hw => cells_at (hJ _ hw) 2 rfl ⟨_, rfl⟩)) rfl<|LX.l (fun _ hJ => LO.ld O53 (.r rfl) (fun _ hw => cells_at (hJ _ hw) 2 rfl ⟨_, rfl⟩)) rfl<|LX.l (fun _ hJ => LO.nc (.r rfl)) rfl<|LX.l (fun _ hJ => LO.fa (r := 11) F117_3 (.r rfl) rfl) rfl<|LX.l (fun _ hJ => LO.ld O114 (.r rfl) (fun _ hw => cells_at (hJ _ hw) 5 rfl ⟨_, rfl⟩)) rfl<|LX.l (fun _ hJ => LO.mv (.r rfl)) rfl<|LX.l (fun _ hJ => LO.nc (.r rfl)) rfl<|LX.l (fun _ hJ => LO.fa (r := 5) F156_4 (.r rfl) rfl) rfl<|LX.l (fun _ hJ => LO.ld O150 (.r rfl) (fun _ hw => cells_at (hJ _ hw) 8 rfl ⟨_, rfl⟩)) rfl<|LX.s<|LX.s<|LX.l (fun _ hJ => LO.nc (.r rfl)) rfl<|LX.l (fun _ hJ => LO.fa (r := 11) F117_3 (.r rfl) rfl) rfl<|LX.s<|LX.nil) (HX.s<|HX.s<|HX.s<|HX.s<|HX.s<|HX.s<|HX.s<|HX.s<|HX.s<|HX.h rfl<|HO.bs (ps := [(_,_)]) (vs := [(_,_)]) (Z := [_]) (C := [_]) S114 Z150 N150 ⟨(.r rfl), trivial⟩ rfl rfl rfl rfl ⟨_, [_], [_], rfl, rfl, rfl, rfl, rfl⟩ fun b15 => ⟨selJ (L1 := [_,_,_,_,_,_,_,_,_]) [1,2,3,4,5,6,7,8,9] rfl rfl rfl, HX.h rfl<|HO.appT ((CsM.mk b11 ((o.cs.length : Int) + 1) x.rg x.t 1099511627776 (max 0 x.lv))) 7 0 (fun R => [_,_,_,_,_,_,_, R,_,_]) S114 S114 I150 (.r rfl) (.r rfl) rfl rfl rfl rfl rfl rfl rfl (fun _ => rfl) rfl (by omega) fun p10 c10 => ⟨selJ (L1 := [_,_,_,_,_,_,_,_]) [1,2,3,4,5,6,8,9] rfl rfl rfl, HX.s<|HX.s<|HX.h0<|HO.st 6 (vs := [_]) (C' := [_,_,_,_,_,_,_,_,_,_,_,_,_]) (L' := [_,_,_,_,_,_,_,_,_,_]) N114 rfl rfl rfl rfl rfl rfl rfl rfl<|⟨selJ (L1 := [_,_,_,_,_,_,_]) [1,2,3,4,5,8,9] rfl rfl rfl, HX.nil ?_⟩⟩⟩)
    refine VE.seqN ?_
    refine VC.seq ?_
    refine VC.seq ?_
    refine VC.reg (VO.l (LO.fa (r := 2) F62_2 (.r rfl) rfl) rfl<|VO.l (LO.ld O3 (.r rfl) (fun _ hw => cells_at hw 2 rfl ⟨_, rfl⟩)) rfl<|VO.l (LO.eq (.r rfl) (.r rfl)) rfl<|VO.nil ?_)
    refine VE.seqN ?_
    refine VC.cond rfl (fun h39 => ?_) (fun h39 => ?_)
    ·
      (exfalso; omega)
    ·
      refine VC.skip (VE.seqN ?_)
      refine VC.seq ?_
      refine VC.drawH [[0,1,2,3,4,5,6,7,8,9], [0,2,3,4,5,6,7,8,9]] [some 0, some 0, some 0, some 0, some 0, some 0, some 0, some 0, some 0, some 0, some 0, some 0, some 0, some 0, some 0, some 0, none] mixed (by kernel_rfl) rfl (LX.l (fun _ hJ => LO.mv (.r rfl)) rfl<|LX.l (fun _ hJ => LO.nc (.r rfl)) rfl<|LX.l (fun _ hJ => LO.fa (r := 5) F156_4 (.r rfl) rfl) rfl<|LX.l (fun _ hJ => LO.ld O150 (.r rfl) (fun _ hw => cells_at (hJ _ hw) 9 rfl ⟨_, rfl⟩)) rfl<|LX.l (fun _ hJ => LO.mv (.r rfl)) rfl<|LX.l (fun _ hJ => LO.nc (.r rfl)) rfl<|LX.l (fun _ hJ => LO.fa (r := 5) F156_4 (.r rfl) rfl) rfl<|LX.l (fun _ hJ => LO.ld O150 (.r rfl) (fun _ hw => cells_at (hJ _ hw) 9 rfl ⟨_, rfl⟩)) rfl<|LX.l (fun _ hJ => LO.nc (.r rfl)) rfl<|LX.l (fun _ hJ => LO.fa (r := 4) F64_4 (.r rfl) rfl) rfl<|LX.l (fun _ hJ => LO.ld O3 (.r rfl) (fun _ hw => cells_at (hJ _ hw) 1 rfl ⟨_, rfl⟩)) rfl<|LX.l (fun _ hJ => LO.fa (r := 3) F62_3 (.r rfl) rfl) rfl<|LX.l (fun _ hJ => LO.ld O3 (.r rfl) (fun _ hw => cells_at (hJ _ hw) 2 rfl ⟨_, rfl⟩)) rfl<|LX.l (fun _ hJ => LO.max (.r rfl) (.r rfl)) rfl<|LX.l (fun _ hJ => LO.nc (.r rfl)) rfl<|LX.l (fun _ hJ => LO.fa (r := 4) F64_4 (.r rfl) rfl) rfl<|LX.s<|LX.nil) (HX.s<|HX.s<|HX.s<|HX.s<|HX.s<|HX.s<|HX.s<|HX.s<|HX.s<|HX.s<|HX.s<|HX.s<|HX.s<|HX.s<|HX.s<|HX.s<|HX.h0<|HO.st 1 (vs := [_]) (C' := [_,_,_,_,_]) (L' := [_,_,_,_,_,_,_,_,_,_]) N3 rfl rfl rfl rfl rfl rfl rfl rfl<|⟨selJ (L1 := [_,_,_,_,_,_,_,_,_]) [0,2,3,4,5,6,7,8,9] rfl rfl rfl, HX.nil ?_⟩)
      refine VE.seqN ?_
      refine VC.seq ?_
      refine VC.reg (VO.l (LO.mv (.r rfl)) rfl<|VO.l (LO.nc (.r rfl)) rfl<|VO.l (LO.fa (r := 5) F156_4 (.r rfl) rfl) rfl<|VO.l (LO.ld O150 (.r rfl) (fun _ hw => cells_at hw 9 rfl ⟨_, rfl⟩)) rfl<|VO.l (LO.nc (.r rfl)) rfl<|VO.l (LO.fa (r := 0) F64_0 (.r rfl) rfl) rfl<|VO.l (LO.ld O3 (.r rfl) (fun _ hw => cells_at hw 1 rfl ⟨_, rfl⟩)) rfl<|VO.l (LO.fa (r := 4) F62_4 (.r rfl) rfl) rfl<|VO.h0<|HO.st 2 (vs := [_]) (C' := [_,_,_,_,_,_,_]) (L' := [_,_,_,_,_,_,_,_,_,_]) N3 rfl rfl rfl rfl rfl rfl rfl rfl<|VO.nil ?_)
      refine VE.seqN ?_
      refine VC.reg (VO.l (LO.ld O60 (.r rfl) (fun _ hw => cells_at hw 4 rfl ⟨_, rfl⟩)) rfl<|VO.l (LO.lda (vs := [_,_,_,_,_,_,_]) A62 (.r rfl) (fun _ hw => cells_at hw 2 rfl ⟨_, rfl⟩) rfl) rfl<|VO.h rfl<|HO.bs (ps := [(_,_)]) (vs := [(_,_)]) (Z := [_,_,_,_,_,_,_]) (C := [_,_,_,_,_,_,_]) S60 Z62 N62 ⟨(.r rfl), trivial⟩ rfl rfl rfl rfl ⟨_, [_,_,_,_,_,_,_], [_,_,_,_,_,_,_], rfl, rfl, rfl, rfl, rfl⟩ fun b20 => VO.h rfl<|HO.appT ((Ev.mk x.t x.rg x.kd x.lv ((o.cs.length : Int) + 1) x.ld x.px)) 6 0 (fun R => [_,_,_,_,_,_, R,_,_,_,_]) S60 S60 I62 (.r rfl) (.r rfl) rfl rfl rfl rfl rfl rfl rfl (fun _ => rfl) rfl (by omega) fun p3 c3 => VO.h0<|HO.st 5 (vs := [_]) (C' := [_]) (L' := [_,_,_,_,_,_,_,_,_,_,_]) N60 rfl rfl rfl rfl rfl rfl rfl rfl<|VO.nil ?_)
      refine VE.resN (vs := []) rfl trivial (fun w hw => ?_)
      exact ⟨(b11, (p10, c10), (p3, c3)), trivial, rfl, (St.bagCs (c := CsM.mk b11 ((o.cs.length : Int) + 1) x.rg x.t 1099511627776 (max 0 x.lv)) (selK (L1 := [_,_] ++ [_,_,_,_,_,_]) [2,9,4,5,6,7,8,10] rfl rfl _ hw)).sel [1,2,3,4,5,0,6] rfl⟩
  ·
    (exfalso; exact h8 hk)

set_option maxRecDepth 20000 in
theorem hand_o (o : OfM) (r : RcM) (x : Ev) (es : List Ev) (pe : Option Addr) (ce bo bu : Nat) (w : World) (hcs : o.cs.length < 1000000) (hes : es.length < 1000000) (c : CsM) (Rs : List Res) (hk : ¬ x.kd = 1) (hh : Has w [blk bo (.cells #[ptrN o.b] 53), blk bu (.cells #[.slice pe es.length ce] 60), own 62 7 pe ce (es.map evC), o.blk, o.csR, c.blk, bagD Rs, RcM.blk { r with op := some c.b }]) :
  Calls Try.prog 57 #[.agg (evC x).toArray, ptrN r.b, ptrN bo, ptrN bu] w fun e w' => ∃ y : Option Addr × Nat, True ∧ e = .returned (.tuple #[]) ∧ St ⟨w, fpL [blk bo (.cells #[ptrN o.b] 53), blk bu (.cells #[.slice pe es.length ce] 60), own 62 7 pe ce (es.map evC), o.blk, o.csR, c.blk, bagD Rs, RcM.blk { r with op := some c.b }]⟩ [blk bo (.cells #[ptrN o.b] 53), blk bu (.cells #[.slice y.1 (es ++ [{ x with nm := c.nm }]).length y.2] 60), own 62 7 y.1 y.2 ((es ++ [{ x with nm := c.nm }]).map evC), o.blk, o.csR, CsM.blk { c with en := if x.kd = 2 then x.t else c.en, pk := max c.pk x.lv }, bagD Rs, RcM.blk { r with op := some c.b }] w' := by
  refine enterO (vs := [_,_,_,_]) (env := [(0,_), (1,_), (2,_), (3,_)]) hh.enter Try.func57 rfl rfl rfl rfl ?_
  refine VC.seq ?_
  refine VC.reg (VO.h rfl<|HO.box (C := #[_,_,_,_,_,_,_]) rfl rfl fun b9 => VO.nil ?_)
  refine VE.seqN ?_
  refine VC.seq ?_
  refine VC.seq ?_
  refine VC.reg (VO.l (LO.fa (r := 2) F62_2 (.r rfl) rfl) rfl<|VO.l (LO.ld O3 (.r rfl) (fun _ hw => cells_at hw 0 rfl ⟨_, rfl⟩)) rfl<|VO.l (LO.eq (.r rfl) (.r rfl)) rfl<|VO.nil ?_)
  refine VE.seqN ?_
  refine VC.cond rfl (fun h8 => ?_) (fun h8 => ?_)
  ·
    (exfalso; exact hk h8)
  ·
    refine VC.skip (VE.seqN ?_)
    refine VC.seq ?_
    refine VC.seq ?_
    refine VC.reg (VO.l (LO.fa (r := 2) F62_2 (.r rfl) rfl) rfl<|VO.l (LO.ld O3 (.r rfl) (fun _ hw => cells_at hw 0 rfl ⟨_, rfl⟩)) rfl<|VO.l (LO.eq (.r rfl) (.r rfl)) rfl<|VO.nil ?_)
    refine VE.seqN ?_
    refine VC.cond rfl (fun h39 => ?_) (fun h39 => ?_)
    ·
      refine VC.drawH [[0,1,2,3,4,5,6,7,8], [0,1,2,3,4,5,7,8]] [some 0, some 0, some 0, some 0, some 0, some 0, some 0, some 0, none] mixed (by kernel_rfl) rfl (LX.l (fun _ hJ => LO.mv (.r rfl)) rfl<|LX.l (fun _ hJ => LO.nc (.r rfl)) rfl<|LX.l (fun _ hJ => LO.fa (r := 5) F156_4 (.r rfl) rfl) rfl<|LX.l (fun _ hJ => LO.ld O150 (.r rfl) (fun _ hw => cells_at (hJ _ hw) 8 rfl ⟨_, rfl⟩)) rfl<|LX.l (fun _ hJ => LO.fa (r := 0) F62_0 (.r rfl) rfl) rfl<|LX.l (fun _ hJ => LO.ld O3 (.r rfl) (fun _ hw => cells_at (hJ _ hw) 0 rfl ⟨_, rfl⟩)) rfl<|LX.l (fun _ hJ => LO.nc (.r rfl)) rfl<|LX.l (fun _ hJ => LO.fa (r := 3) F64_3 (.r rfl) rfl) rfl<|LX.s<|LX.nil) (HX.s<|HX.s<|HX.s<|HX.s<|HX.s<|HX.s<|HX.s<|HX.s<|HX.h0<|HO.st 6 (vs := [_]) (C' := [_,_,_,_,_]) (L' := [_,_,_,_,_,_,_,_,_]) N3 rfl rfl rfl rfl rfl rfl rfl rfl<|⟨selJ (L1 := [_,_,_,_,_,_,_,_]) [0,1,2,3,4,5,7,8] rfl rfl rfl, HX.nil ?_⟩)
      refine VE.seqN ?_
      refine VC.seq ?_
      refine VC.drawH [[0,1,2,3,4,5,6,7,8], [0,1,2,3,4,5,7,8]] [some 0, some 0, some 0, some 0, some 0, some 0, some 0, some 0, some 0, some 0, some 0, some 0, some 0, some 0, some 0, some 0, none] mixed (by kernel_rfl) rfl (LX.l (fun _ hJ => LO.mv (.r rfl)) rfl<|LX.l (fun _ hJ => LO.nc (.r rfl)) rfl<|LX.l (fun _ hJ => LO.fa (r := 5) F156_4 (.r rfl) rfl) rfl<|LX.l (fun _ hJ => LO.ld O150 (.r rfl) (fun _ hw => cells_at (hJ _ hw) 8 rfl ⟨_, rfl⟩)) rfl<|LX.l (fun _ hJ => LO.mv (.r rfl)) rfl<|LX.l (fun _ hJ => LO.nc (.r rfl)) rfl<|LX.l (fun _ hJ => LO.fa (r := 5) F156_4 (.r rfl) rfl) rfl<|LX.l (fun _ hJ => LO.ld O150 (.r rfl) (fun _ hw => cells_at (hJ _ hw) 8 rfl ⟨_, rfl⟩)) rfl<|LX.l (fun _ hJ => LO.nc (.r rfl)) rfl<|LX.l (fun _ hJ => LO.fa (r := 4) F64_4 (.r rfl) rfl) rfl<|LX.l (fun _ hJ => LO.ld O3 (.r rfl) (fun _ hw => cells_at (hJ _ hw) 6 rfl ⟨_, rfl⟩)) rfl<|LX.l (fun _ hJ => LO.fa (r := 3) F62_3 (.r rfl) rfl) rfl<|LX.l (fun _ hJ => LO.ld O3 (.r rfl) (fun _ hw => cells_at (hJ _ hw) 0 rfl ⟨_, rfl⟩)) rfl<|LX.l (fun _ hJ => LO.max (.r rfl) (.r rfl)) rfl<|LX.l (fun _ hJ => LO.nc (.r rfl)) rfl<|LX.l (fun _ hJ => LO.fa (r := 4) F64_4 (.r rfl) rfl) rfl<|LX.s<|LX.nil) (HX.s<|HX.s<|HX.s<|HX.s<|HX.s<|HX.s<|HX.s<|HX.s<|HX.s<|HX.s<|HX.s<|HX.s<|HX.s<|HX.s<|HX.s<|HX.s<|HX.h0<|HO.st 6 (vs := [_]) (C' := [_,_,_,_,_]) (L' := [_,_,_,_,_,_,_,_,_]) N3 rfl rfl rfl rfl rfl rfl rfl rfl<|⟨selJ (L1 := [_,_,_,_,_,_,_,_]) [0,1,2,3,4,5,7,8] rfl rfl rfl, HX.nil ?_⟩)
      refine VE.seqN ?_
      refine VC.seq ?_
      refine VC.reg (VO.l (LO.mv (.r rfl)) rfl<|VO.l (LO.nc (.r rfl)) rfl<|VO.l (LO.fa (r := 5) F156_4 (.r rfl) rfl) rfl<|VO.l (LO.ld O150 (.r rfl) (fun _ hw => cells_at hw 8 rfl ⟨_, rfl⟩)) rfl<|VO.l (LO.nc (.r rfl)) rfl<|VO.l (LO.fa (r := 0) F64_0 (.r rfl) rfl) rfl<|VO.l (LO.ld O3 (.r rfl) (fun _ hw => cells_at hw 6 rfl ⟨_, rfl⟩)) rfl<|VO.l (LO.fa (r := 4) F62_4 (.r rfl) rfl) rfl<|VO.h0<|HO.st 0 (vs := [_]) (C' := [_,_,_,_,_,_,_]) (L' := [_,_,_,_,_,_,_,_,_]) N3 rfl rfl rfl rfl rfl rfl rfl rfl<|VO.nil ?_)
      refine VE.seqN ?_
      refine VC.reg (VO.l (LO.ld O60 (.r rfl) (fun _ hw => cells_at hw 2 rfl ⟨_, rfl⟩)) rfl<|VO.l (LO.lda (vs := [_,_,_,_,_,_,_]) A62 (.r rfl) (fun _ hw => cells_at hw 0 rfl ⟨_, rfl⟩) rfl) rfl<|VO.h rfl<|HO.bs (ps := [(_,_)]) (vs := [(_,_)]) (Z := [_,_,_,_,_,_,_]) (C := [_,_,_,_,_,_,_]) S60 Z62 N62 ⟨(.r rfl), trivial⟩ rfl rfl rfl rfl ⟨_, [_,_,_,_,_,_,_], [_,_,_,_,_,_,_], rfl, rfl, rfl, rfl, rfl⟩ fun b15 => VO.h rfl<|HO.appT ((Ev.mk x.t x.rg x.kd x.lv c.nm x.ld x.px)) 4 0 (fun R => [_,_,_,_, R,_,_,_,_,_]) S60 S60 I62 (.r rfl) (.r rfl) rfl rfl rfl rfl rfl rfl rfl (fun _ => rfl) rfl (by omega) fun p3 c3 => VO.h0<|HO.st 3 (vs := [_]) (C' := [_]) (L' := [_,_,_,_,_,_,_,_,_,_]) N60 rfl rfl rfl rfl rfl rfl rfl rfl<|VO.nil ?_)
      refine VE.resN (vs := []) rfl trivial (fun w hw => ?_)
      exact ⟨(p3, c3), trivial, rfl, by first | (rw [if_pos h39]; exact selK (L1 := [_,_,_,_,_,_,_,_]) [2,3,4,5,6,7,8,9] rfl rfl _ hw) | (rw [if_neg h39]; exact selK (L1 := [_,_,_,_,_,_,_,_]) [2,3,4,5,6,7,8,9] rfl rfl _ hw)⟩
    ·
      refine VC.skip (VE.seqN ?_)
      refine VC.seq ?_
      refine VC.drawH [[0,1,2,3,4,5,6,7,8], [0,1,2,3,4,5,7,8]] [some 0, some 0, some 0, some 0, some 0, some 0, some 0, some 0, some 0, some 0, some 0, some 0, some 0, some 0, some 0, some 0, none] mixed (by kernel_rfl) rfl (LX.l (fun _ hJ => LO.mv (.r rfl)) rfl<|LX.l (fun _ hJ => LO.nc (.r rfl)) rfl<|LX.l (fun _ hJ => LO.fa (r := 5) F156_4 (.r rfl) rfl) rfl<|LX.l (fun _ hJ => LO.ld O150 (.r rfl) (fun _ hw => cells_at (hJ _ hw) 8 rfl ⟨_, rfl⟩)) rfl<|LX.l (fun _ hJ => LO.mv (.r rfl)) rfl<|LX.l (fun _ hJ => LO.nc (.r rfl)) rfl<|LX.l (fun _ hJ => LO.fa (r := 5) F156_4 (.r rfl) rfl) rfl<|LX.l (fun _ hJ => LO.ld O150 (.r rfl) (fun _ hw => cells_at (hJ _ hw) 8 rfl ⟨_, rfl⟩)) rfl<|LX.l (fun _ hJ => LO.nc (.r rfl)) rfl<|LX.l (fun _ hJ => LO.fa (r := 4) F64_4 (.r rfl) rfl) rfl<|LX.l (fun _ hJ => LO.ld O3 (.r rfl) (fun _ hw => cells_at (hJ _ hw) 6 rfl ⟨_, rfl⟩)) rfl<|LX.l (fun _ hJ => LO.fa (r := 3) F62_3 (.r rfl) rfl) rfl<|LX.l (fun _ hJ => LO.ld O3 (.r rfl) (fun _ hw => cells_at (hJ _ hw) 0 rfl ⟨_, rfl⟩)) rfl<|LX.l (fun _ hJ => LO.max (.r rfl) (.r rfl)) rfl<|LX.l (fun _ hJ => LO.nc (.r rfl)) rfl<|LX.l (fun _ hJ => LO.fa (r := 4) F64_4 (.r rfl) rfl) rfl<|LX.s<|LX.nil) (HX.s<|HX.s<|HX.s<|HX.s<|HX.s<|HX.s<|HX.s<|HX.s<|HX.s<|HX.s<|HX.s<|HX.s<|HX.s<|HX.s<|HX.s<|HX.s<|HX.h0<|HO.st 6 (vs := [_]) (C' := [_,_,_,_,_]) (L' := [_,_,_,_,_,_,_,_,_]) N3 rfl rfl rfl rfl rfl rfl rfl rfl<|⟨selJ (L1 := [_,_,_,_,_,_,_,_]) [0,1,2,3,4,5,7,8] rfl rfl rfl, HX.nil ?_⟩)
      refine VE.seqN ?_
      refine VC.seq ?_
      refine VC.reg (VO.l (LO.mv (.r rfl)) rfl<|VO.l (LO.nc (.r rfl)) rfl<|VO.l (LO.fa (r := 5) F156_4 (.r rfl) rfl) rfl<|VO.l (LO.ld O150 (.r rfl) (fun _ hw => cells_at hw 8 rfl ⟨_, rfl⟩)) rfl<|VO.l (LO.nc (.r rfl)) rfl<|VO.l (LO.fa (r := 0) F64_0 (.r rfl) rfl) rfl<|VO.l (LO.ld O3 (.r rfl) (fun _ hw => cells_at hw 6 rfl ⟨_, rfl⟩)) rfl<|VO.l (LO.fa (r := 4) F62_4 (.r rfl) rfl) rfl<|VO.h0<|HO.st 0 (vs := [_]) (C' := [_,_,_,_,_,_,_]) (L' := [_,_,_,_,_,_,_,_,_]) N3 rfl rfl rfl rfl rfl rfl rfl rfl<|VO.nil ?_)
      refine VE.seqN ?_
      refine VC.reg (VO.l (LO.ld O60 (.r rfl) (fun _ hw => cells_at hw 2 rfl ⟨_, rfl⟩)) rfl<|VO.l (LO.lda (vs := [_,_,_,_,_,_,_]) A62 (.r rfl) (fun _ hw => cells_at hw 0 rfl ⟨_, rfl⟩) rfl) rfl<|VO.h rfl<|HO.bs (ps := [(_,_)]) (vs := [(_,_)]) (Z := [_,_,_,_,_,_,_]) (C := [_,_,_,_,_,_,_]) S60 Z62 N62 ⟨(.r rfl), trivial⟩ rfl rfl rfl rfl ⟨_, [_,_,_,_,_,_,_], [_,_,_,_,_,_,_], rfl, rfl, rfl, rfl, rfl⟩ fun b20 => VO.h rfl<|HO.appT ((Ev.mk x.t x.rg x.kd x.lv c.nm x.ld x.px)) 4 0 (fun R => [_,_,_,_, R,_,_,_,_,_]) S60 S60 I62 (.r rfl) (.r rfl) rfl rfl rfl rfl rfl rfl rfl (fun _ => rfl) rfl (by omega) fun p3 c3 => VO.h0<|HO.st 3 (vs := [_]) (C' := [_]) (L' := [_,_,_,_,_,_,_,_,_,_]) N60 rfl rfl rfl rfl rfl rfl rfl rfl<|VO.nil ?_)
      refine VE.resN (vs := []) rfl trivial (fun w hw => ?_)
      exact ⟨(p3, c3), trivial, rfl, by first | (rw [if_pos h39]; exact selK (L1 := [_,_,_,_,_,_,_,_]) [2,3,4,5,6,7,8,9] rfl rfl _ hw) | (rw [if_neg h39]; exact selK (L1 := [_,_,_,_,_,_,_,_]) [2,3,4,5,6,7,8,9] rfl rfl _ hw)⟩

end Go.Proofs.Ytdjflomhaljljaa

namespace Go.Proofs.Ytdjflomhaljljaa
open Go.SL Go.Proofs Go.Cast
set_option linter.unusedVariables false

theorem C54 : IsFn Try.prog 54 := ⟨_, Try.func54, by decide, rfl⟩
theorem F156_2 : FieldAt Try.prog 156 2 3 := ⟨_,_, Try.underlying156, rfl, rfl, 0, by kernel_rfl⟩
theorem O154 : IsOne Try.prog 154 := ⟨⟨_, Try.underlying154, rfl⟩, by kernel_rfl⟩
theorem C77 : IsFn Try.prog 77 := ⟨_, Try.func77, by decide, rfl⟩
theorem B195 : Builds Try.prog 195 [(0,1), (1,1)] [.int .i64 0, .int .i64 0] := Builds.mk fun _ => by kernel_rfl
theorem I195 : EInfo Try.prog 195 2 16 (.agg #[.int .i64 0, .int .i64 0]) := ⟨by kernel_rfl, by kernel_rfl, by unfold ZeroOf; kernel_rfl, rfl, by decide⟩
theorem N154 : (Try.prog.info? 154).map (·.size) = some 1 := by kernel_rfl
theorem F195_1 : FieldAt Try.prog 195 1 1 := ⟨_,_, Try.underlying195, rfl, rfl, 0, by kernel_rfl⟩
theorem F156_1 : FieldAt Try.prog 156 1 2 := ⟨_,_, Try.underlying156, rfl, rfl, 0, by kernel_rfl⟩
theorem B62 : Builds Try.prog 62 [(0,1), (1,1), (2,1), (3,1), (4,1), (5,1), (6,1)] [.int .i64 0, .int .i64 0, .int .i64 0, .int .i64 0, .int .i64 0, .int .i64 0, .int .i64 0] := Builds.mk fun _ => by kernel_rfl
theorem F62_5 : FieldAt Try.prog 62 5 5 := ⟨_,_, Try.underlying62, rfl, rfl, 0, by kernel_rfl⟩
theorem F62_6 : FieldAt Try.prog 62 6 6 := ⟨_,_, Try.underlying62, rfl, rfl, 0, by kernel_rfl⟩
theorem C57 : IsFn Try.prog 57 := ⟨_, Try.func57, by decide, rfl⟩


theorem St.moreO {w w' : World} {O O' : Nat → Prop} {L : List Res} (h : St ⟨w, O⟩ L w') (hs : ∀ k, O k → O' k) : St ⟨w, O'⟩ L w' :=
  ⟨h.os, h.tape, h.output, h.size, fun k hk hO => h.fr k hk (fun q => hO (hs k q)), h.inv, fun i r hr k hk => ⟨(h.rng i r hr k hk).1.imp (hs k) id, (h.rng i r hr k hk).2⟩, h.dis⟩
theorem split_at {α : Type} {l : List α} {k : Nat} {x : α} (h : l[k]? = some x) : l = l.take k ++ x :: l.drop (k + 1) := by
  obtain ⟨hk, rfl⟩ := List.getElem?_eq_some_iff.1 h
  rw [← List.drop_eq_getElem_cons hk, List.take_append_drop]
theorem set_split {α : Type} {l : List α} {k : Nat} {x y : α} (h : l[k]? = some x) : l.set k y = l.take k ++ y :: l.drop (k + 1) := by
  obtain ⟨hk, rfl⟩ := List.getElem?_eq_some_iff.1 h
  rw [List.set_eq_take_append_cons_drop, if_pos hk]
theorem Has.ofSt {w0 w : World} {O : Nat → Prop} {L : List Res} (h : St ⟨w0, O⟩ L w) : Has w L := h.has (List.Sublist.refl _)
/-- The hand of a step. -/
theorem hand_c (o : OfM) (r : RcM) (x : Ev) (es : List Ev) (pe : Option Addr) (ce bo bu : Nat) (w : World) (hcs : o.cs.length < 1000000) (hes : es.length < 1000000) (hop : x.kd ≠ 1 → ∃ (k : Nat) (c : CsM), o.cs[k]? = some c ∧ r.op = some c.b)
    (hh : Has w [blk bo (.cells #[ptrN o.b] 53), blk bu (.cells #[.slice pe es.length ce] 60), own 62 7 pe ce (es.map evC), OfM.blk o, OfM.csR o, OfM.csB o, RcM.blk r]) : Calls Try.prog 57 #[.agg (evC x).toArray, ptrN r.b, ptrN bo, ptrN bu] w fun e w' => ∃ y : (List CsM × Option Nat × Ev) × (Option Addr × Nat) × (Option Addr × Nat), HandP o.cs r.op x y.1.1 y.1.2.1 y.1.2.2 ∧ e = .returned (.tuple #[]) ∧
      St ⟨w, fpL [blk bo (.cells #[ptrN o.b] 53), blk bu (.cells #[.slice pe es.length ce] 60), own 62 7 pe ce (es.map evC), OfM.blk o, OfM.csR o, OfM.csB o, RcM.blk r]⟩ [blk bo (.cells #[ptrN o.b] 53), blk bu (.cells #[.slice y.2.2.1 (es ++ [y.1.2.2]).length y.2.2.2] 60), own 62 7 y.2.2.1 y.2.2.2 ((es ++ [y.1.2.2]).map evC), OfM.blk { o with cs := y.1.1, pk := y.2.1.1, ck := y.2.1.2 }, own 150 1 y.2.1.1 y.2.1.2 (y.1.1.map csP), bagD (y.1.1.map CsM.blk), RcM.blk { r with op := y.1.2.1 }] w' := by
  by_cases hk : x.kd = 1
  · refine (hand_b o r x es pe ce bo bu w hcs hes hk hh).mono ?_
    rintro e w' ⟨y,_, he, hs⟩
    exact ⟨((o.cs ++ [CsM.mk y.1 (o.cs.length + 1) x.rg x.t 1099511627776 (max 0 x.lv)], some y.1, { x with nm := o.cs.length + 1 }), y.2.1, y.2.2), .inl ⟨hk, y.1, rfl, rfl, rfl⟩, he, hs⟩
  · obtain ⟨k, c, hc, hr⟩ := hop hk
    have hr2 : r = { r with op := some c.b } := by cases r; simp only [RcM.mk.injEq, true_and] at hr ⊢; exact hr
    have hcm : o.cs.map CsM.blk = (o.cs.take k).map CsM.blk ++ c.blk :: (o.cs.drop (k + 1)).map CsM.blk := by
      conv => lhs; rw [split_at hc]
      rw [List.map_append, List.map_cons]
    have h1 : St ⟨w, fpL [blk bo (.cells #[ptrN o.b] 53), blk bu (.cells #[.slice pe es.length ce] 60), own 62 7 pe ce (es.map evC), OfM.blk o, OfM.csR o, OfM.csB o, RcM.blk r]⟩ [bagD ((o.cs.take k).map CsM.blk ++ c.blk :: (o.cs.drop (k + 1)).map CsM.blk), blk bo (.cells #[ptrN o.b] 53), blk bu (.cells #[.slice pe es.length ce] 60), own 62 7 pe ce (es.map evC), o.blk, o.csR, r.blk] w := by
      rw [← hcm]; exact hh.enter.sel [5,0,1,2,3,4,6] rfl
    have h2 := h1.focus.sel [2,3,4,5,6,0,1,7] rfl
    rw [hr2] at h2
    refine (hand_o o r x es pe ce bo bu w hcs hes c _ hk (Has.ofSt h2)).mono ?_
    rintro e w' ⟨y,_, he, hs⟩
    refine ⟨((o.cs.set k { c with en := if x.kd = 2 then x.t else c.en, pk := max c.pk x.lv }, r.op, { x with nm := c.nm }), (o.pk, o.ck), y), .inr ⟨hk, k, c, hc, hr, rfl, rfl, rfl⟩, he, ?_⟩
    have hsub : ∀ b, fpL [blk bo (.cells #[ptrN o.b] 53), blk bu (.cells #[.slice pe es.length ce] 60), own 62 7 pe ce (es.map evC), o.blk, o.csR, c.blk, bagD ((o.cs.take k).map CsM.blk ++ (o.cs.drop (k + 1)).map CsM.blk), RcM.blk { r with op := some c.b }] b → fpL [blk bo (.cells #[ptrN o.b] 53), blk bu (.cells #[.slice pe es.length ce] 60), own 62 7 pe ce (es.map evC), OfM.blk o, OfM.csR o, OfM.csB o, RcM.blk r] b := by
      intro b hb
      rw [fpL_mem] at hb ⊢
      obtain ⟨q, hq, hqb⟩ := hb
      simp only [List.mem_cons, List.not_mem_nil, or_false] at hq
      have hbag : ∀ s, s ∈ o.cs.map CsM.blk → s.fp b → ∃ t, t ∈ [blk bo (.cells #[ptrN o.b] 53), blk bu (.cells #[.slice pe es.length ce] 60), own 62 7 pe ce (es.map evC), OfM.blk o, OfM.csR o, OfM.csB o, RcM.blk r] ∧ t.fp b := fun s hs hsb => ⟨o.csB, by simp, s, hs, hsb⟩
      rcases hq with rfl | rfl | rfl | rfl | rfl | rfl | rfl | rfl
      · exact ⟨_, by simp, hqb⟩
      · exact ⟨_, by simp, hqb⟩
      · exact ⟨_, by simp, hqb⟩
      · exact ⟨o.blk, by simp, hqb⟩
      · exact ⟨o.csR, by simp, hqb⟩
      · exact hbag c.blk (by rw [hcm]; simp) hqb
      · obtain ⟨s, hs, hsb⟩ := hqb
        exact hbag s (by rw [hcm]; simp only [List.mem_append, List.mem_cons] at hs ⊢; rcases hs with q | q; exact .inl q; exact .inr (.inr q)) hsb
      · exact ⟨r.blk, by simp, hqb⟩
    have h3 := (St.moreO hs hsub).sel [5,6,0,1,2,3,4,7] rfl
    have h4 := h3.unfocus.sel [1,2,3,4,5,0,6] rfl
    have e1 : (o.cs.set k { c with en := if x.kd = 2 then x.t else c.en, pk := max c.pk x.lv }).map CsM.blk = (o.cs.take k).map CsM.blk ++ (CsM.blk { c with en := if x.kd = 2 then x.t else c.en, pk := max c.pk x.lv }) :: (o.cs.drop (k + 1)).map CsM.blk := by
      rw [set_split hc, List.map_append, List.map_cons]
    have e2 : (o.cs.set k { c with en := if x.kd = 2 then x.t else c.en, pk := max c.pk x.lv }).map csP = o.cs.map csP := by
      rw [List.map_set]
      refine set_self ?_
      rw [List.getElem?_map, hc]; rfl
    have e3 : OfM.blk { o with cs := o.cs.set k { c with en := if x.kd = 2 then x.t else c.en, pk := max c.pk x.lv }, pk := o.pk, ck := o.ck } = o.blk := by simp only [OfM.blk, OfM.C, List.length_set]
    have e4 : RcM.blk { r with op := r.op } = r.blk := rfl
    dsimp only
    rw [e1, e2, e3]
    rw [← hr2] at h4
    exact h4
/-- slices.DeleteFunc within a frame. -/
theorem DeleteFunc_d {β : Bs} {L : List Res} {w : World} (hw : St β L w) (i j k : Nat) {l : List Rch} {p : Option Addr} {c : Nat} {T H : Int} {b7 b8 : Nat} (hi : L[i]? = some (own 195 2 p c (l.map rchC))) (hj : L[j]? = some (blk b7 (.cells #[.int .i64 T] 3))) (hk : L[k]? = some (blk b8 (.cells #[.int .i64 H] 3)))
    (hij : i ≠ j) (hik : i ≠ k) (hjk : j ≠ k) (hn : l.length < 1000000000000) (hT1 : 0 ≤ T) (hT2 : T ≤ 1000000000000) (hH1 : 0 ≤ H) (hH2 : H ≤ 1000000) :
    Calls Try.prog 77 #[.slice p l.length c, .func (.func 78) #[] #[.pointer (some ⟨b7,0, none⟩), .pointer (some ⟨b8,0, none⟩)]] w fun e w' => ∃ x : Unit, True ∧ e = .returned (.slice p (keepR T H l).length c) ∧ St ⟨w, (own 195 2 p c (l.map rchC)).fp⟩ [own 195 2 p c ((keepR T H l).map rchC)] w' := by
  have hh : Has w [own 195 2 p c (l.map rchC), blk b7 (.cells #[.int .i64 T] 3), blk b8 (.cells #[.int .i64 H] 3)] := by
    refine has_mk ?_ ?_ ?_
    · intro r hr
      simp only [List.mem_cons, List.not_mem_nil, or_false] at hr
      rcases hr with rfl | rfl | rfl
      · exact hw.inv i _ hi
      · exact hw.inv j _ hj
      · exact hw.inv k _ hk
    · intro r hr
      simp only [List.mem_cons, List.not_mem_nil, or_false] at hr
      rcases hr with rfl | rfl | rfl
      · exact fun q hq => (hw.rng i _ hi q hq).2
      · exact fun q hq => (hw.rng j _ hj q hq).2
      · exact fun q hq => (hw.rng k _ hk q hq).2
    · refine List.pairwise_cons.2 ⟨?_, List.pairwise_cons.2 ⟨?_, List.pairwise_cons.2 ⟨by simp, List.Pairwise.nil⟩⟩⟩
      · intro r hr
        simp only [List.mem_cons, List.not_mem_nil, or_false] at hr
        rcases hr with rfl | rfl
        · exact hw.dis i j _ _ hij hi hj
        · exact hw.dis i k _ _ hik hi hk
      · intro r hr
        simp only [List.mem_cons, List.not_mem_nil, or_false] at hr
        rcases hr with rfl
        exact hw.dis j k _ _ hjk hj hk
  refine (DeleteFunc_c l p c T H b7 b8 w hn hh hT1 hT2 hH1 hH2).mono ?_
  rintro e w' ⟨x,_, he, hs⟩
  refine ⟨x, trivial, he, ?_⟩
  have h7 := hs.inv 1 _ rfl
  have h8 := hs.inv 2 _ rfl
  have g7 := hw.inv j _ hj
  have g8 := hw.inv k _ hk
  refine ⟨hs.os, hs.tape, hs.output, hs.size, fun q hq hO => ?_, ?_, ?_, ?_⟩
  · by_cases e7 : q = b7
    · subst e7; exact h7.trans g7.symm
    · by_cases e8 : q = b8
      · subst e8; exact h8.trans g8.symm
      · refine hs.fr q hq (fun hf => ?_)
        obtain ⟨r, hr, hrq⟩ := fpL_mem.1 hf
        simp only [List.mem_cons, List.not_mem_nil, or_false] at hr
        rcases hr with rfl | rfl | rfl
        · exact hO hrq
        · exact e7 hrq
        · exact e8 hrq
  · intro q r hr
    exact hs.inv q r (by cases q with | zero => simpa using hr | succ q => simp at hr)
  · intro q r hr b hb
    cases q with
    | succ q => simp at hr
    | zero =>
      simp at hr; subst hr
      exact ⟨.inl hb, (hs.rng 0 _ rfl b hb).2⟩
  · intro q1 q2 r s hne h1 h2
    cases q1 with
    | succ q => simp at h1
    | zero => cases q2 with
      | succ q => simp at h2
      | zero => exact absurd rfl hne
def maxLv (l : List Rch) : Int := l.foldl (fun m x => max m x.lv) 0
theorem foldl_max_ge : ∀ (l : List Rch) (m : Int), m ≤ l.foldl (fun m x => max m x.lv) m
  | [], m => Int.le_refl _
  | x :: l, m => Int.le_trans (Int.le_max_left ..) (foldl_max_ge l _)
theorem maxLv_nn (l : List Rch) : 0 ≤ maxLv l := foldl_max_ge l 0
theorem maxLv_take {l : List Rch} {j : Nat} (hj : j < l.length) : max (maxLv (l.take j)) (l.getD j zRch).lv = maxLv (l.take (j + 1)) := by
  unfold maxLv
  rw [List.take_add_one, getD_some (l := l) (d := zRch) hj, List.foldl_append]; rfl
abbrev nowRc (T H : Int) (rc : List Rch) (lv : Int) : List Rch := keepR T H rc ++ [Rch.mk T lv]
def meetK (b n : Int) : Int := if b < n then (if b = 0 then 1 else 3) else if n = 0 then 2 else 4
def meetEv (i T b n : Int) (t : Thr) : Ev := ⟨T, i, meetK b n, n, 0, if b < n then t.ld else -1, if b < n then t.px else -1⟩
structure MeetY where
  r : RcM
  cs : List CsM
  pk : Option Addr
  ck : Nat
  es : List Ev
  pe : Option Addr
  ce : Nat
/-- What a record does when it meets a threat. -/
def MeetP (r : RcM) (T H : Int) (t : Thr) (cs : List CsM) (es : List Ev) (y : MeetY) : Prop :=
  y.r.x = r.x ∧ y.r.b = r.b ∧ y.r.i = r.i ∧ y.r.rc = nowRc T H r.rc t.lv ∧ y.r.lv = r.lv ++ [maxLv (nowRc T H r.rc t.lv)] ∧
  ((maxLv (nowRc T H r.rc t.lv) = lastI r.lv ∧ y.r.op = r.op ∧ y.cs = cs ∧ y.es = es) ∨
   (maxLv (nowRc T H r.rc t.lv) ≠ lastI r.lv ∧ ∃ x', HandP cs r.op (meetEv r.i T (lastI r.lv) (maxLv (nowRc T H r.rc t.lv)) t) y.cs y.r.op x' ∧ y.es = es ++ [x']))

set_option maxRecDepth 20000 in
theorem meet_c (o : OfM) (r : RcM) (t : Thr) (T H : Int) (es : List Ev) (pe : Option Addr) (ce bo bu : Nat) (w : World) (hcs : o.cs.length < 1000000) (hes : es.length < 1000000) (hrc : r.rc.length < 1000000) (hlv : r.lv.length < 1000000) (hT1 : 0 ≤ T) (hT2 : T ≤ 1000000000000) (hH1 : 0 ≤ H) (hH2 : H ≤ 1000000) (hop : lastI r.lv ≠ 0 → ∃ (k : Nat) (c : CsM), o.cs[k]? = some c ∧ r.op = some c.b) (hh : Has w [blk bo (.cells #[ptrN o.b] 53), blk bu (.cells #[.slice pe es.length ce] 60), own 62 7 pe ce (es.map evC), OfM.blk o, OfM.csR o, OfM.csB o, RcM.blk r, r.rcR, r.lvR]) :
  Calls Try.prog 58 #[ptrN r.b, thrV t, .int .i64 T, .int .i64 H, .func (.func 57) #[] #[ptrN bo, ptrN bu]] w fun e w' => ∃ y : MeetY, MeetP r T H t o.cs es y ∧ e = .returned (.tuple #[]) ∧ St ⟨w, fpL [blk bo (.cells #[ptrN o.b] 53), blk bu (.cells #[.slice pe es.length ce] 60), own 62 7 pe ce (es.map evC), OfM.blk o, OfM.csR o, OfM.csB o, RcM.blk r, r.rcR, r.lvR]⟩ [blk bo (.cells #[ptrN o.b] 53), blk bu (.cells #[.slice y.pe y.es.length y.ce] 60), own 62 7 y.pe y.ce (y.es.map evC), OfM.blk { o with cs := y.cs, pk := y.pk, ck := y.ck }, own 150 1 y.pk y.ck (y.cs.map csP), bagD (y.cs.map CsM.blk), y.r.blk, y.r.rcR, y.r.lvR] w' := by
  have hkl : (keepR T H r.rc).length ≤ r.rc.length := List.length_filter_le ..
  have hnl : (nowRc T H r.rc t.lv).length = (keepR T H r.rc).length + 1 := by simp
  have hnl2 : (keepR T H r.rc ++ [Rch.mk T t.lv]).length = (keepR T H r.rc).length + 1 := by simp
  refine enterO (vs := [_,_,_,_,_]) (env := [(0,_), (1,_), (2,_), (3,_), (4,_)]) hh.enter Try.func58 rfl rfl rfl rfl ?_
  refine VC.seq ?_
  refine VC.reg (VO.h rfl<|HO.box (C := #[_,_,_]) rfl rfl fun b10 => VO.h rfl<|HO.box (C := #[_]) rfl rfl fun b11 => VO.h rfl<|HO.box (C := #[_]) rfl rfl fun b12 => VO.nil ?_)
  refine VE.seqN ?_
  refine VC.seq ?_
  refine VC.reg (VO.l (LO.mv (.r rfl)) rfl<|VO.l (LO.call (xs := [_]) (vs := [_]) C54 ⟨(.r rfl), trivial⟩ (fun w hw => level_c r w (by omega) (cells_at hw 9 rfl ⟨_, rfl⟩) (RO.of_own hw 11 rfl))) rfl<|VO.l (LO.as (.r rfl)) rfl<|VO.nil ?_)
  refine VE.seqN ?_
  refine VC.seq ?_
  refine VC.drawB [⟨11,28, fun b => .slice (some ⟨b, 0, none⟩) 1 1,195, #[_,_]⟩] [[0,1,2,3,4,5,6,7,8,9,10,11], [0,1,2,3,4,5,6,7,8,9,10,11], [0,1,2,3,4,5,6,7,8,9,11], [0,1,2,3,4,5,6,7,8,9,11], [0,1,2,3,4,5,6,7,8,9,11], [0,1,2,3,4,5,6,7,8,11]] [some 4, some 3, some 3, some 3, some 3, none, none, some 2, some 2, some 2, some 2, none, none, some 4, some 4, none] mixed (by kernel_rfl) rfl (LX.l (fun _ hJ => LO.mv (.r rfl)) rfl<|LX.l (fun _ hJ => LO.mv (.r rfl)) rfl<|LX.l (fun _ hJ => LO.nc (.r rfl)) rfl<|LX.l (fun _ hJ => LO.fa (r := 3) F156_2 (.r rfl) rfl) rfl<|LX.l (fun _ hJ => LO.ld O154 (.r rfl) (fun _ hw => cells_at (hJ _ hw) 9 rfl ⟨_, rfl⟩)) rfl<|LX.s<|LX.s<|LX.l (fun _ hJ => LO.ld O3 (.r rfl) (fun _ hw => cells_at (hJ _ hw) 1 rfl ⟨_, rfl⟩)) rfl<|LX.l (fun _ hJ => LO.fa (r := 0) F131_0 (.r rfl) rfl) rfl<|LX.l (fun _ hJ => LO.ld O3 (.r rfl) (fun _ hw => cells_at (hJ _ hw) 2 rfl ⟨_, rfl⟩)) rfl<|LX.l (fun _ hJ => LO.bd (ps := [(_,_), (_,_)]) (vs := [(_,_), (_,_)]) (C := [_,_]) B195  ⟨(.r rfl), (.r rfl), trivial⟩ rfl ⟨_, [_], [_,_], rfl, rfl, rfl, rfl, ⟨_, [_], [_,_], rfl, rfl, rfl, rfl, rfl⟩⟩) rfl<|LX.s<|LX.s<|LX.l (fun _ hJ => LO.nc (.r rfl)) rfl<|LX.l (fun _ hJ => LO.fa (r := 3) F156_2 (.r rfl) rfl) rfl<|LX.s<|LX.nil) (⟨⟨rfl,_, rfl, FO.bs (ps := [(_,_)]) (vs := [(_,_)]) (Z := [_,_]) (C := [_,_]) S154 Z195 N195 ⟨(.r rfl), trivial⟩ rfl rfl rfl rfl ⟨_, [_,_], [_,_], rfl, rfl, rfl, rfl, rfl⟩⟩, trivial⟩) (HY.s<|HY.s<|HY.s<|HY.s<|HY.s<|HY.h rfl rfl fun X => HO.lo (LO.mf (cap := [_,_]) ⟨(.r rfl), (.r rfl), trivial⟩)<|⟨[_,_,_,_,_,_,_,_,_,_,_,_], rfl, selJ (L1 := [_,_,_,_,_,_,_,_,_,_,_,_]) [0,1,2,3,4,5,6,7,8,9,10,11] rfl rfl rfl, HY.h rfl rfl fun X => HO.callh (first := []) (cap := []) (xs := [_,_]) (vs := [_,_]) 10 (fun R => [_,_,_,_,_,_,_,_,_,_, R,_] ++ X) rfl (.r rfl) C77 ⟨(.r rfl), (.r rfl), trivial⟩ (fun _ => rfl) (fun w hw => DeleteFunc_d hw 10 1 0 rfl rfl rfl (by decide) (by decide) (by decide) (by omega) hT1 hT2 hH1 hH2) fun dz _ => ⟨[_,_,_,_,_,_,_,_,_,_,_,_], rfl, selJ (L1 := [_,_,_,_,_,_,_,_,_,_,_]) [0,1,2,3,4,5,6,7,8,9,11] rfl rfl rfl, HY.s<|HY.s<|HY.s<|HY.s<|HY.f rfl fun b17 => ⟨selJ (L1 := [_,_,_,_,_,_,_,_,_,_,_]) [1,2,3,4,5,6,7,8,9,10,12] rfl rfl rfl, HY.h rfl rfl fun X => HO.appT ((Rch.mk T t.lv)) 11 0 (fun R => [_,_,_,_,_,_,_,_,_,_,_, R,_] ++ X) S154 S154 I195 (.r rfl) (.r rfl) rfl rfl rfl rfl rfl rfl rfl (fun _ => rfl) rfl (by omega) fun p12 c12 => ⟨[_,_,_,_,_,_,_,_,_,_,_,_,_], rfl, selJ (L1 := [_,_,_,_,_,_,_,_,_,_,_]) [1,2,3,4,5,6,7,8,9,10,12] rfl rfl rfl, HY.s<|HY.s<|HY.h0 rfl fun X => HO.st 10 (vs := [_]) (C' := [_,_,_,_,_,_]) (L' := [_,_,_,_,_,_,_,_,_,_,_,_,_] ++ X) N154 rfl rfl rfl rfl rfl rfl rfl rfl<|⟨[_,_,_,_,_,_,_,_,_,_,_,_,_], rfl, selJ (L1 := [_,_,_,_,_,_,_,_,_,_]) [1,2,3,4,5,6,7,8,9,12] rfl rfl rfl, HY.nil ?_⟩⟩⟩⟩⟩)
  refine VE.seqN ?_
  refine VC.seq ?_
  refine VC.reg (VO.l (LO.as (.r rfl)) rfl<|VO.nil ?_)
  refine VE.seqN ?_
  refine VC.seq ?_
  refine VC.seq ?_
  refine VC.reg (VO.l (LO.mv (.r rfl)) rfl<|VO.l (LO.nc (.r rfl)) rfl<|VO.l (LO.fa (r := 3) F156_2 (.r rfl) rfl) rfl<|VO.l (LO.ld O154 (.r rfl) (fun _ hw => cells_at hw 10 rfl ⟨_, rfl⟩)) rfl<|VO.l (LO.len S154 (.r rfl) rfl) rfl<|VO.l (LO.mv (.r rfl)) rfl<|VO.nil ?_)
  refine VE.seqN ?_
  refine VC.block ?_
  refine VC.loopK (α := Nat) 0 (fun gx => [(11, .int .i64 (maxLv ((nowRc T H r.rc t.lv).take gx))), (37, .int .i64 (gx : Nat))]) [(0,_), (4,_), (6,_), (7,_), (10,_), (35,_), (36,_)] (fun gx => []) (fun gx => gx ≤ (nowRc T H r.rc t.lv).length) (fun gx => (nowRc T H r.rc t.lv).length - gx) 0 (by exact Nat.zero_le _) (.cons rfl (.cons rfl (.cons rfl (.cons rfl (.cons rfl (.cons rfl (.cons rfl (.cons rfl (.cons rfl .nil))))))))) (fun _ h => h) ?_
  rintro j hj
  refine VC.seq ?_
  refine VC.reg (VO.l (LO.lt (.r rfl) (.r rfl)) rfl<|VO.nil ?_)
  refine VE.seqN ?_
  refine VC.seq ?_
  refine VC.cond rfl (fun h38 => ?_) (fun h38 => ?_)
  ·
    refine VC.skip (VE.seqN ?_)
    refine VC.seq ?_
    refine VC.block ?_
    refine VC.seq ?_
    refine VC.reg (VO.l (LO.ixo S154 N195 (fun _ hw => (own_rows hw 11 rfl).some (by rw [List.length_map])) (.r rfl) (.r rfl) rfl (by omega)) rfl<|VO.l (LO.lda (vs := [_,_]) A195 (.r rfl) (fun w hw => cells_part (off := 0) (own_cell hw 11 rfl (getD_some (d := zRch) (by omega))) ⟨_, rfl⟩) rfl) rfl<|VO.h rfl<|HO.alloc (C := #[_,_]) Z195 rfl fun b19 => VO.h0<|HO.st 0 (vs := [_,_]) (C' := [_,_]) (L' := [_,_,_,_,_,_,_,_,_,_,_,_,_,_]) N195 rfl rfl rfl rfl rfl rfl rfl rfl<|VO.nil ?_)
    refine VE.seqN ?_
    refine VC.reg (VO.l (LO.mv (.r rfl)) rfl<|VO.l (LO.fa (r := 1) F195_1 (.r rfl) rfl) rfl<|VO.l (LO.ld O3 (.r rfl) (fun _ hw => cells_at hw 0 rfl ⟨_, rfl⟩)) rfl<|VO.l (LO.max (.r rfl) (.r rfl)) rfl<|VO.l (LO.as (.r rfl)) rfl<|VO.nil ?_)
    refine VE.inN (VE.seqN ?_)
    refine VC.reg (VO.l (LO.add (.r rfl) (.r rfl) (wi (by omega) (by omega))) rfl<|VO.l (LO.mv (.r rfl)) rfl<|VO.nil ?_)
    refine VE.thenN fun a w ha hw => ⟨j + 1, (by omega), (by omega), ha.sub (.cons (Eq.trans (b := some (Value.int .i64 (max (maxLv ((nowRc T H r.rc t.lv).take j)) ((nowRc T H r.rc t.lv).getD j zRch).lv))) rfl (by rw [maxLv_take (by omega)])) (.cons rfl (.cons rfl (.cons rfl (.cons rfl (.cons rfl (.cons rfl (.cons rfl (.cons rfl .nil))))))))), hw.sel [1,2,3,4,5,6,7,8,9,10,11,12,13] rfl⟩
  ·
    refine VC.exit (VE.thenX (VE.thenX (VE.inX (VE.seqN ?_))))
    refine VC.seq ?_
    have hj2 : j = (nowRc T H r.rc t.lv).length := by omega
    rw [show (nowRc T H r.rc t.lv).take j = (nowRc T H r.rc t.lv) from by rw [hj2, List.take_length]]
    refine VC.reg (VO.l (LO.mv (.r rfl)) rfl<|VO.l (LO.mv (.r rfl)) rfl<|VO.l (LO.nc (.r rfl)) rfl<|VO.l (LO.fa (r := 4) F156_3 (.r rfl) rfl) rfl<|VO.l (LO.ld O55 (.r rfl) (fun _ hw => cells_at hw 10 rfl ⟨_, rfl⟩)) rfl<|VO.l (LO.mv (.r rfl)) rfl<|VO.h rfl<|HO.bs (ps := [(_,_)]) (vs := [(_,_)]) (Z := [_]) (C := [_]) S55 Z3 N3 ⟨(.r rfl), trivial⟩ rfl rfl rfl rfl ⟨_, [_], [_], rfl, rfl, rfl, rfl, rfl⟩ fun b21 => VO.h rfl<|HO.appT ((maxLv (nowRc T H r.rc t.lv))) 13 0 (fun R => [_,_,_,_,_,_,_,_,_,_,_,_,_, R]) S55 S55 I3 (.r rfl) (.r rfl) rfl rfl rfl rfl rfl rfl rfl (fun _ => rfl) rfl (by omega) fun p7 c7 => VO.l (LO.nc (.r rfl)) rfl<|VO.l (LO.fa (r := 4) F156_3 (.r rfl) rfl) rfl<|VO.h0<|HO.st 11 (vs := [_]) (C' := [_,_,_,_,_,_]) (L' := [_,_,_,_,_,_,_,_,_,_,_,_,_,_]) N55 rfl rfl rfl rfl rfl rfl rfl rfl<|VO.nil ?_)
    refine VE.seqN ?_
    refine VC.seq ?_
    refine VC.drawH [[0,1,2,3,4,5,6,7,8,9,10,11,12,13], [0,1,2,3,4,5,6,7,8,9,10,11,12,13], [0,1,2,3,4,5,6,7,8,9,10,11,12,13]] [some 1, some 1, some 1, some 1, some 1, some 1, some 1, none, none] mixed (by kernel_rfl) rfl (LX.l (fun _ hJ => LO.ld O3 (.r rfl) (fun _ hw => cells_at (hJ _ hw) 3 rfl ⟨_, rfl⟩)) rfl<|LX.l (fun _ hJ => LO.mv (.r rfl)) rfl<|LX.l (fun _ hJ => LO.nc (.r rfl)) rfl<|LX.l (fun _ hJ => LO.fa (r := 2) F156_1 (.r rfl) rfl) rfl<|LX.l (fun _ hJ => LO.ld O3 (.r rfl) (fun _ hw => cells_at (hJ _ hw) 11 rfl ⟨_, rfl⟩)) rfl<|LX.l (fun _ hJ => LO.mv (.r rfl)) rfl<|LX.l (fun _ hJ => LO.bd (ps := [(_,_), (_,_), (_,_), (_,_), (_,_)]) (vs := [(_,_), (_,_), (_,_), (_,_), (_,_)]) (C := [_,_,_,_,_,_,_]) B62  ⟨(.r rfl), (.r rfl), (.r rfl), (.r rfl), (.r rfl), trivial⟩ rfl ⟨_, [_], [_,_,_,_,_,_,_], rfl, rfl, rfl, rfl, ⟨_, [_], [_,_,_,_,_,_,_], rfl, rfl, rfl, rfl, ⟨_, [_], [_,_,_,_,_,_,_], rfl, rfl, rfl, rfl, ⟨_, [_], [_,_,_,_,_,_,_], rfl, rfl, rfl, rfl, ⟨_, [_], [_,_,_,_,_,_,_], rfl, rfl, rfl, rfl, rfl⟩⟩⟩⟩⟩) rfl<|LX.s<|LX.s<|LX.nil) (HX.s<|HX.s<|HX.s<|HX.s<|HX.s<|HX.s<|HX.s<|HX.h rfl<|HO.alloc (C := #[_,_,_,_,_,_,_]) Z62 rfl fun b25 => ⟨selJ (L1 := [_,_,_,_,_,_,_,_,_,_,_,_,_,_]) [1,2,3,4,5,6,7,8,9,10,11,12,13,14] rfl rfl rfl, HX.h0<|HO.st 0 (vs := [_,_,_,_,_,_,_]) (C' := [_,_,_,_,_,_,_]) (L' := [_,_,_,_,_,_,_,_,_,_,_,_,_,_,_]) N62 rfl rfl rfl rfl rfl rfl rfl rfl<|⟨selJ (L1 := [_,_,_,_,_,_,_,_,_,_,_,_,_,_]) [1,2,3,4,5,6,7,8,9,10,11,12,13,14] rfl rfl rfl, HX.nil ?_⟩⟩)
    refine VE.seqN ?_
    refine VC.seq ?_
    refine VC.block ?_
    refine VC.seq ?_
    refine VC.reg (VO.l (LO.mv (.r rfl)) rfl<|VO.l (LO.mv (.r rfl)) rfl<|VO.l (LO.eq (.r rfl) (.r rfl)) rfl<|VO.l (LO.as (.r rfl)) rfl<|VO.nil ?_)
    refine VE.seqN ?_
    refine VC.cond rfl (fun h64 => ?_) (fun h64 => ?_)
    ·
      refine VC.ret (VE.inR (VE.thenR (VE.res (vs := []) rfl trivial (fun w hw => ?_))))
      exact ⟨⟨{ r with rc := (nowRc T H r.rc t.lv), pr := p12, cr := c12, lv := r.lv ++ [(maxLv (nowRc T H r.rc t.lv))], pv := p7, cv := c7 }, o.cs, o.pk, o.ck, es, pe, ce⟩, ⟨rfl, rfl, rfl, rfl, rfl, .inl ⟨h64, rfl, rfl, rfl⟩⟩, rfl, selK (L1 := [_,_,_,_,_,_,_,_,_]) [6,7,8,9,10,11,12,13,14] rfl rfl _ hw⟩
    ·
      refine VC.seq ?_
      refine VC.reg (VO.l (LO.mv (.r rfl)) rfl<|VO.l (LO.mv (.r rfl)) rfl<|VO.l (LO.gt (.r rfl) (.r rfl)) rfl<|VO.l (LO.as (.r rfl)) rfl<|VO.nil ?_)
      refine VE.seqN ?_
      refine VC.cond rfl (fun h68 => ?_) (fun h68 => ?_)
      ·
        refine VC.seq ?_
        refine VC.seq ?_
        refine VC.reg (VO.l (LO.fa (r := 2) F62_2 (.r rfl) rfl) rfl<|VO.h0<|HO.st 0 (vs := [_]) (C' := [_,_,_,_,_,_,_]) (L' := [_,_,_,_,_,_,_,_,_,_,_,_,_,_,_]) N3 rfl rfl rfl rfl rfl rfl rfl rfl<|VO.nil ?_)
        refine VE.seqN ?_
        refine VC.seq ?_
        refine VC.reg (VO.l (LO.mv (.r rfl)) rfl<|VO.l (LO.eq (.r rfl) (.r rfl)) rfl<|VO.nil ?_)
        refine VE.seqN ?_
        refine VC.cond rfl (fun h74 => ?_) (fun h74 => ?_)
        ·
          refine VC.reg (VO.l (LO.fa (r := 2) F62_2 (.r rfl) rfl) rfl<|VO.h0<|HO.st 0 (vs := [_]) (C' := [_,_,_,_,_,_,_]) (L' := [_,_,_,_,_,_,_,_,_,_,_,_,_,_,_]) N3 rfl rfl rfl rfl rfl rfl rfl rfl<|VO.nil ?_)
          refine VE.seqN ?_
          refine VC.drawH [[0,1,2,3,4,5,6,7,8,9,10,11,12,13,14], [1,2,3,4,5,6,7,8,9,10,11,12,13,14], [1,2,3,4,5,6,7,8,9,10,11,12,13,14]] [some 0, some 0, some 1, some 1, some 0, none, some 1, none] mixed (by kernel_rfl) rfl (LX.l (fun _ hJ => LO.fa (r := 1) F131_1 (.r rfl) rfl) rfl<|LX.l (fun _ hJ => LO.ld O3 (.r rfl) (fun _ hw => cells_at (hJ _ hw) 5 rfl ⟨_, rfl⟩)) rfl<|LX.l (fun _ hJ => LO.fa (r := 2) F131_2 (.r rfl) rfl) rfl<|LX.l (fun _ hJ => LO.ld O3 (.r rfl) (fun _ hw => cells_at (hJ _ hw) 4 rfl ⟨_, rfl⟩)) rfl<|LX.l (fun _ hJ => LO.fa (r := 5) F62_5 (.r rfl) rfl) rfl<|LX.s<|LX.l (fun _ hJ => LO.fa (r := 6) F62_6 (.r rfl) rfl) rfl<|LX.s<|LX.nil) (HX.s<|HX.s<|HX.s<|HX.s<|HX.s<|HX.h0<|HO.st 0 (vs := [_]) (C' := [_,_,_,_,_,_,_]) (L' := [_,_,_,_,_,_,_,_,_,_,_,_,_,_,_]) N3 rfl rfl rfl rfl rfl rfl rfl rfl<|⟨selJ (L1 := [_,_,_,_,_,_,_,_,_,_,_,_,_,_]) [1,2,3,4,5,6,7,8,9,10,11,12,13,14] rfl rfl rfl, HX.s<|HX.h0<|HO.st 0 (vs := [_]) (C' := [_,_,_,_,_,_,_]) (L' := [_,_,_,_,_,_,_,_,_,_,_,_,_,_,_]) N3 rfl rfl rfl rfl rfl rfl rfl rfl<|⟨selJ (L1 := [_,_,_,_,_,_,_,_,_,_,_,_,_,_]) [1,2,3,4,5,6,7,8,9,10,11,12,13,14] rfl rfl rfl, HX.nil ?_⟩⟩)
          refine VE.inN (VE.seqN ?_)
          refine VC.reg (VO.l (LO.mv (.r rfl)) rfl<|VO.l (LO.lda (vs := [_,_,_,_,_,_,_]) A62 (.r rfl) (fun _ hw => cells_at hw 0 rfl ⟨_, rfl⟩) rfl) rfl<|VO.l (LO.mv (.r rfl)) rfl<|VO.h rfl<|HO.callP (first := []) (cap := [_,_]) (xs := [_,_]) (vs := [_,_]) [_,_,_,_,_,_,_] [_,_,_,_,_,_,_,_] (selK (L1 := [_,_,_,_,_,_,_] ++ [_,_,_,_,_,_,_,_]) [6,7,8,9,10,11,12,0,1,2,3,4,5,13,14] rfl rfl) (.r rfl) C57 ⟨(.r rfl), (.r rfl), trivial⟩ (fun w _ hh => hand_c o { r with rc := (nowRc T H r.rc t.lv), pr := p12, cr := c12, lv := r.lv ++ [(maxLv (nowRc T H r.rc t.lv))], pv := p7, cv := c7 } (Ev.mk T r.i 1 (maxLv (nowRc T H r.rc t.lv)) 0 t.ld t.px) es pe ce bo bu w hcs hes (fun hq => by first | exact absurd rfl hq | exact hop (by have := maxLv_nn (nowRc T H r.rc t.lv); omega)) hh) fun z hz => VO.nil ?_)
          refine VE.resN (vs := []) rfl trivial (fun w hw => ?_)
          exact ⟨⟨{ ({ r with rc := (nowRc T H r.rc t.lv), pr := p12, cr := c12, lv := r.lv ++ [(maxLv (nowRc T H r.rc t.lv))], pv := p7, cv := c7 } : RcM) with op := z.1.2.1 }, z.1.1, z.2.1.1, z.2.1.2, es ++ [z.1.2.2], z.2.2.1, z.2.2.2⟩, ⟨rfl, rfl, rfl, rfl, rfl, .inr ⟨h64, z.1.2.2, (by have e : (Ev.mk T r.i 1 (maxLv (nowRc T H r.rc t.lv)) 0 t.ld t.px) = meetEv r.i T (lastI r.lv) (maxLv (nowRc T H r.rc t.lv)) t := (by simp only [meetEv, meetK, if_pos h68, if_pos h74]); rw [← e]; exact hz), rfl⟩⟩, rfl, selK (L1 := [_,_,_,_,_,_,_,_,_]) [0,1,2,3,4,5,6,13,14] rfl rfl _ hw⟩
        ·
          refine VC.skip (VE.seqN ?_)
          refine VC.drawH [[0,1,2,3,4,5,6,7,8,9,10,11,12,13,14], [1,2,3,4,5,6,7,8,9,10,11,12,13,14], [1,2,3,4,5,6,7,8,9,10,11,12,13,14]] [some 0, some 0, some 1, some 1, some 0, none, some 1, none] mixed (by kernel_rfl) rfl (LX.l (fun _ hJ => LO.fa (r := 1) F131_1 (.r rfl) rfl) rfl<|LX.l (fun _ hJ => LO.ld O3 (.r rfl) (fun _ hw => cells_at (hJ _ hw) 5 rfl ⟨_, rfl⟩)) rfl<|LX.l (fun _ hJ => LO.fa (r := 2) F131_2 (.r rfl) rfl) rfl<|LX.l (fun _ hJ => LO.ld O3 (.r rfl) (fun _ hw => cells_at (hJ _ hw) 4 rfl ⟨_, rfl⟩)) rfl<|LX.l (fun _ hJ => LO.fa (r := 5) F62_5 (.r rfl) rfl) rfl<|LX.s<|LX.l (fun _ hJ => LO.fa (r := 6) F62_6 (.r rfl) rfl) rfl<|LX.s<|LX.nil) (HX.s<|HX.s<|HX.s<|HX.s<|HX.s<|HX.h0<|HO.st 0 (vs := [_]) (C' := [_,_,_,_,_,_,_]) (L' := [_,_,_,_,_,_,_,_,_,_,_,_,_,_,_]) N3 rfl rfl rfl rfl rfl rfl rfl rfl<|⟨selJ (L1 := [_,_,_,_,_,_,_,_,_,_,_,_,_,_]) [1,2,3,4,5,6,7,8,9,10,11,12,13,14] rfl rfl rfl, HX.s<|HX.h0<|HO.st 0 (vs := [_]) (C' := [_,_,_,_,_,_,_]) (L' := [_,_,_,_,_,_,_,_,_,_,_,_,_,_,_]) N3 rfl rfl rfl rfl rfl rfl rfl rfl<|⟨selJ (L1 := [_,_,_,_,_,_,_,_,_,_,_,_,_,_]) [1,2,3,4,5,6,7,8,9,10,11,12,13,14] rfl rfl rfl, HX.nil ?_⟩⟩)
          refine VE.inN (VE.seqN ?_)
          refine VC.reg (VO.l (LO.mv (.r rfl)) rfl<|VO.l (LO.lda (vs := [_,_,_,_,_,_,_]) A62 (.r rfl) (fun _ hw => cells_at hw 0 rfl ⟨_, rfl⟩) rfl) rfl<|VO.l (LO.mv (.r rfl)) rfl<|VO.h rfl<|HO.callP (first := []) (cap := [_,_]) (xs := [_,_]) (vs := [_,_]) [_,_,_,_,_,_,_] [_,_,_,_,_,_,_,_] (selK (L1 := [_,_,_,_,_,_,_] ++ [_,_,_,_,_,_,_,_]) [6,7,8,9,10,11,12,0,1,2,3,4,5,13,14] rfl rfl) (.r rfl) C57 ⟨(.r rfl), (.r rfl), trivial⟩ (fun w _ hh => hand_c o { r with rc := (nowRc T H r.rc t.lv), pr := p12, cr := c12, lv := r.lv ++ [(maxLv (nowRc T H r.rc t.lv))], pv := p7, cv := c7 } (Ev.mk T r.i 3 (maxLv (nowRc T H r.rc t.lv)) 0 t.ld t.px) es pe ce bo bu w hcs hes (fun hq => by first | exact absurd rfl hq | exact hop (by have := maxLv_nn (nowRc T H r.rc t.lv); omega)) hh) fun z hz => VO.nil ?_)
          refine VE.resN (vs := []) rfl trivial (fun w hw => ?_)
          exact ⟨⟨{ ({ r with rc := (nowRc T H r.rc t.lv), pr := p12, cr := c12, lv := r.lv ++ [(maxLv (nowRc T H r.rc t.lv))], pv := p7, cv := c7 } : RcM) with op := z.1.2.1 }, z.1.1, z.2.1.1, z.2.1.2, es ++ [z.1.2.2], z.2.2.1, z.2.2.2⟩, ⟨rfl, rfl, rfl, rfl, rfl, .inr ⟨h64, z.1.2.2, (by have e : (Ev.mk T r.i 3 (maxLv (nowRc T H r.rc t.lv)) 0 t.ld t.px) = meetEv r.i T (lastI r.lv) (maxLv (nowRc T H r.rc t.lv)) t := (by simp only [meetEv, meetK, if_pos h68, if_neg h74]); rw [← e]; exact hz), rfl⟩⟩, rfl, selK (L1 := [_,_,_,_,_,_,_,_,_]) [0,1,2,3,4,5,6,13,14] rfl rfl _ hw⟩
      ·
        refine VC.seq ?_
        refine VC.reg (VO.l (LO.mv (.r rfl)) rfl<|VO.l (LO.eq (.r rfl) (.r rfl)) rfl<|VO.l (LO.as (.r rfl)) rfl<|VO.nil ?_)
        refine VE.seqN ?_
        refine VC.cond rfl (fun h82 => ?_) (fun h82 => ?_)
        ·
          refine VC.reg (VO.l (LO.fa (r := 2) F62_2 (.r rfl) rfl) rfl<|VO.h0<|HO.st 0 (vs := [_]) (C' := [_,_,_,_,_,_,_]) (L' := [_,_,_,_,_,_,_,_,_,_,_,_,_,_,_]) N3 rfl rfl rfl rfl rfl rfl rfl rfl<|VO.nil ?_)
          refine VE.inN (VE.seqN ?_)
          refine VC.reg (VO.l (LO.mv (.r rfl)) rfl<|VO.l (LO.lda (vs := [_,_,_,_,_,_,_]) A62 (.r rfl) (fun _ hw => cells_at hw 0 rfl ⟨_, rfl⟩) rfl) rfl<|VO.l (LO.mv (.r rfl)) rfl<|VO.h rfl<|HO.callP (first := []) (cap := [_,_]) (xs := [_,_]) (vs := [_,_]) [_,_,_,_,_,_,_] [_,_,_,_,_,_,_,_] (selK (L1 := [_,_,_,_,_,_,_] ++ [_,_,_,_,_,_,_,_]) [6,7,8,9,10,11,12,0,1,2,3,4,5,13,14] rfl rfl) (.r rfl) C57 ⟨(.r rfl), (.r rfl), trivial⟩ (fun w _ hh => hand_c o { r with rc := (nowRc T H r.rc t.lv), pr := p12, cr := c12, lv := r.lv ++ [(maxLv (nowRc T H r.rc t.lv))], pv := p7, cv := c7 } (Ev.mk T r.i 2 (maxLv (nowRc T H r.rc t.lv)) 0 (-1) (-1)) es pe ce bo bu w hcs hes (fun hq => by first | exact absurd rfl hq | exact hop (by have := maxLv_nn (nowRc T H r.rc t.lv); omega)) hh) fun z hz => VO.nil ?_)
          refine VE.resN (vs := []) rfl trivial (fun w hw => ?_)
          exact ⟨⟨{ ({ r with rc := (nowRc T H r.rc t.lv), pr := p12, cr := c12, lv := r.lv ++ [(maxLv (nowRc T H r.rc t.lv))], pv := p7, cv := c7 } : RcM) with op := z.1.2.1 }, z.1.1, z.2.1.1, z.2.1.2, es ++ [z.1.2.2], z.2.2.1, z.2.2.2⟩, ⟨rfl, rfl, rfl, rfl, rfl, .inr ⟨h64, z.1.2.2, (by have e : (Ev.mk T r.i 2 (maxLv (nowRc T H r.rc t.lv)) 0 (-1) (-1)) = meetEv r.i T (lastI r.lv) (maxLv (nowRc T H r.rc t.lv)) t := (by simp only [meetEv, meetK, if_neg h68, if_pos h82]); rw [← e]; exact hz), rfl⟩⟩, rfl, selK (L1 := [_,_,_,_,_,_,_,_,_]) [0,1,2,3,4,5,6,13,14] rfl rfl _ hw⟩
        ·
          refine VC.reg (VO.l (LO.fa (r := 2) F62_2 (.r rfl) rfl) rfl<|VO.h0<|HO.st 0 (vs := [_]) (C' := [_,_,_,_,_,_,_]) (L' := [_,_,_,_,_,_,_,_,_,_,_,_,_,_,_]) N3 rfl rfl rfl rfl rfl rfl rfl rfl<|VO.nil ?_)
          refine VE.inN (VE.seqN ?_)
          refine VC.reg (VO.l (LO.mv (.r rfl)) rfl<|VO.l (LO.lda (vs := [_,_,_,_,_,_,_]) A62 (.r rfl) (fun _ hw => cells_at hw 0 rfl ⟨_, rfl⟩) rfl) rfl<|VO.l (LO.mv (.r rfl)) rfl<|VO.h rfl<|HO.callP (first := []) (cap := [_,_]) (xs := [_,_]) (vs := [_,_]) [_,_,_,_,_,_,_] [_,_,_,_,_,_,_,_] (selK (L1 := [_,_,_,_,_,_,_] ++ [_,_,_,_,_,_,_,_]) [6,7,8,9,10,11,12,0,1,2,3,4,5,13,14] rfl rfl) (.r rfl) C57 ⟨(.r rfl), (.r rfl), trivial⟩ (fun w _ hh => hand_c o { r with rc := (nowRc T H r.rc t.lv), pr := p12, cr := c12, lv := r.lv ++ [(maxLv (nowRc T H r.rc t.lv))], pv := p7, cv := c7 } (Ev.mk T r.i 4 (maxLv (nowRc T H r.rc t.lv)) 0 (-1) (-1)) es pe ce bo bu w hcs hes (fun hq => by first | exact absurd rfl hq | exact hop (by have := maxLv_nn (nowRc T H r.rc t.lv); omega)) hh) fun z hz => VO.nil ?_)
          refine VE.resN (vs := []) rfl trivial (fun w hw => ?_)
          exact ⟨⟨{ ({ r with rc := (nowRc T H r.rc t.lv), pr := p12, cr := c12, lv := r.lv ++ [(maxLv (nowRc T H r.rc t.lv))], pv := p7, cv := c7 } : RcM) with op := z.1.2.1 }, z.1.1, z.2.1.1, z.2.1.2, es ++ [z.1.2.2], z.2.2.1, z.2.2.2⟩, ⟨rfl, rfl, rfl, rfl, rfl, .inr ⟨h64, z.1.2.2, (by have e : (Ev.mk T r.i 4 (maxLv (nowRc T H r.rc t.lv)) 0 (-1) (-1)) = meetEv r.i T (lastI r.lv) (maxLv (nowRc T H r.rc t.lv)) t := (by simp only [meetEv, meetK, if_neg h68, if_neg h82]); rw [← e]; exact hz), rfl⟩⟩, rfl, selK (L1 := [_,_,_,_,_,_,_,_,_]) [0,1,2,3,4,5,6,13,14] rfl rfl _ hw⟩

end Go.Proofs.Ytdjflomhaljljaa
