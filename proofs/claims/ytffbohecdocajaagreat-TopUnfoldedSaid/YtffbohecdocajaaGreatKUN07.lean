/-
  DERIVED: THE SHELF's CONTRACTS AT THIS DUMP, IN PLAIN WORDS (tools/lay-plain.mjs out of 'TryzShelf.lean', which tools/lay-shelf.mjs wrote): THE SAME DECLARATIONS UNDER THE SAME NAMES: 'import', 'namespace', 'open', 'def', 'theorem' AND NOTHING ELSE: no command of the shelf's: FOR A HAND-IN. Each laying: the table of numbers ('.._ren') and one theorem, a field a fact of the dump's own or the kernel's comparison; each contract: ONE APPLICATION.
  Strings: lengths, bytes, pieces, comparisons, a rune as a string, a range over a string's runes; a scope that no jump crosses.
  The data of layer 2 and what its functions come to, in plain words: no program stands in this text.
  Quotients, rounded down and up; rows of structs. No program stands in this text.
  The first walks: small functions.
  What is valid: trains, receivers, spans of turns.
  Echoes are valid.
  slices.Sort and slices.Compact on a slice of ints that the call owns.
  The library that arcs rest on.
  Arcs of the program.
  Sums, shares and steps of the program.
-/
import Derived.Test.YtffbohecdocajaaGreatKUN06
import Derived.Shelf.Small.Utf8
import Derived.Shelf.Small.Bits
import Derived.Shelf.Small.Strs
import Derived.Shelf.Small.Wraps
import Derived.Shelf.Strconv.Itoa0
import Derived.Shelf.Strings.Search1
import Derived.Shelf.Sort.Plain
import Derived.Shelf.Strings.Runes
import Derived.Shelf.Bits.Mul64
import Derived.Ground.Names2Prog
import Derived.Shelf.Slices.Clone
import Derived.Shelf.Slices.CompactI
import Derived.Shelf.Slices.SearchI
import Derived.Shelf.Slices.Cells
import Derived.Shelf.Slices.In.SortNone
import Derived.Shelf.Slices.Empties
import Derived.Ground.SlgnProg
import Derived.Shelf.SlicesE.Clone
import Derived.Test.YtffbohecdocajaaGreatProg
import Derived.Laws.Strings3
import Derived.Laws.Runes
import Derived.Laws.RangeAny
import Derived.Lib.OthersKept
import Derived.Scope

set_option linter.unusedSimpArgs false
namespace Go.Proofs
open Go.Shelf
def Tryz.lays125_ren : Go.Shelf.Ren := ⟨fun | 125 => 196 | 128 => 250 | 129 => 251 | n => n, fun | 46 => 396 | 3 => 3 | 51 => 32 | 53 => 503 | 4 => 4 | 5 => 5 | 9 => 9 | n => n, fun | n => n⟩
theorem Tryz.lays125 : Go.Proofs.Lays.n125 Tryz.prog Tryz.lays125_ren := {
  mixed := by kernel_rfl
  f125 := Tryz.func196.trans (congrArg some (by kernel_rfl))
  f128 := Tryz.func250.trans (congrArg some (by kernel_rfl))
  f129 := Tryz.func251.trans (congrArg some (by kernel_rfl))
  t3 := Tryz.underlying3
  a3 := Tryz.isAgg3
  z3 := Tryz.sizeOf3
  v3 := Tryz.zeroValue3
  t4 := Tryz.underlying4
  a4 := Tryz.isAgg4
  z4 := Tryz.sizeOf4
  v4 := Tryz.zeroValue4
  t5 := Tryz.underlying5
  a5 := Tryz.isAgg5
  z5 := Tryz.sizeOf5
  v5 := Tryz.zeroValue5
  t9 := Tryz.underlying9
  a9 := Tryz.isAgg9
  z9 := Tryz.sizeOf9
  v9 := Tryz.zeroValue9
  t46 := Tryz.underlying396
  a46 := Tryz.isAgg396
  z46 := Tryz.sizeOf396
  v46 := Tryz.zeroValue396
  t51 := Tryz.underlying32
  a51 := Tryz.isAgg32
  z51 := Tryz.sizeOf32
  v51 := Tryz.zeroValue32
  t53 := Tryz.underlying503
  a53 := Tryz.isAgg503
  z53 := Tryz.sizeOf503
  v53 := Tryz.zeroValue503 }
/-- bits.Len: "Len returns the minimum number of bits required to represent x; the result is 0 for x == 0.": IT RETURNS 'Lib.bitLen x'; the world is as it was. (A uint has 64 bits in the model.) ITS CALLEE bits.Len64 IS MET BY ITS OWN CONTRACT OFF THE SHELF (lay that first). (LAID: no walk: one application.) -/
theorem Tryz.bits_Len (x : Int) (w : World) (h0 : 0 ≤ x) (h1 : x ≤ 18446744073709551615) :
    Calls Tryz.prog 196 #[.int .u64 x] w fun e w' => e = .returned (.int .i64 (Lib.bitLen x.toNat)) ∧ w' = w := Any.bits_Len Tryz.lays125 x w h0 h1
def Tryz.lays137_ren : Go.Shelf.Ren := ⟨fun | 137 => 272 | 217 => 299 | 266 => 307 | n => n, fun | 9 => 9 | 5 => 5 | 3 => 3 | n => n, fun | n => n⟩
theorem Tryz.lays137 : Go.Proofs.Lays.n137 Tryz.prog Tryz.lays137_ren := {
  mixed := by kernel_rfl
  f137 := Tryz.func272.trans (congrArg some (by kernel_rfl))
  f217 := Tryz.func299.trans (congrArg some (by kernel_rfl))
  f266 := Tryz.func307.trans (congrArg some (by kernel_rfl))
  t3 := Tryz.underlying3
  a3 := Tryz.isAgg3
  z3 := Tryz.sizeOf3
  v3 := Tryz.zeroValue3
  t5 := Tryz.underlying5
  a5 := Tryz.isAgg5
  z5 := Tryz.sizeOf5
  v5 := Tryz.zeroValue5
  t9 := Tryz.underlying9
  a9 := Tryz.isAgg9
  z9 := Tryz.sizeOf9
  v9 := Tryz.zeroValue9 }
open Go.RowKit in
/-- strings.IndexByte: "IndexByte returns the index of the first instance of c in s, or -1 if c is not present in s.": IT RETURNS 'Lib.indexByte s c'; the world is as it was. (LAID: no walk: one application.) -/
theorem Tryz.strings_IndexByte (s : ByteArray) (c : Int) (w : World) :
    Calls Tryz.prog 272 #[.string s, .int .u8 c] w fun e w' => e = .returned (.int .i64 (Lib.indexByte s.data.toList c.toNat.toUInt8)) ∧ w' = w := Any.strings_IndexByte Tryz.lays137 s c w
def Tryz.lays189_ren : Go.Shelf.Ren := ⟨fun | 189 => 205 | 125 => 196 | 257 => 252 | 128 => 250 | 129 => 251 | 294 => 283 | 295 => 284 | 296 => 285 | 297 => 286 | 298 => 287 | 299 => 288 | 216 => 254 | 300 => 289 | 301 => 290 | 328 => 301 | 329 => 279 | 330 => 280 | 331 => 302 | 332 => 303 | 215 => 172 | 343 => 308 | n => n, fun | 28 => 112 | 3 => 3 | 46 => 396 | 0 => 0 | 51 => 32 | 53 => 503 | 4 => 4 | 183 => 496 | 182 => 495 | 131 => 279 | 5 => 5 | 9 => 9 | 218 => 526 | 222 => 530 | 228 => 548 | 229 => 457 | n => n, fun | n => n⟩
theorem Tryz.lays189 : Go.Proofs.Lays.n189 Tryz.prog Tryz.lays189_ren := {
  mixed := by kernel_rfl
  f125 := Tryz.func196.trans (congrArg some (by kernel_rfl))
  f128 := Tryz.func250.trans (congrArg some (by kernel_rfl))
  f129 := Tryz.func251.trans (congrArg some (by kernel_rfl))
  f189 := Tryz.func205.trans (congrArg some (by kernel_rfl))
  f215 := Tryz.func172.trans (congrArg some (by kernel_rfl))
  f216 := Tryz.func254.trans (congrArg some (by kernel_rfl))
  f257 := Tryz.func252.trans (congrArg some (by kernel_rfl))
  f294 := Tryz.func283.trans (congrArg some (by kernel_rfl))
  f295 := Tryz.func284.trans (congrArg some (by kernel_rfl))
  f296 := Tryz.func285.trans (congrArg some (by kernel_rfl))
  f297 := Tryz.func286.trans (congrArg some (by kernel_rfl))
  f298 := Tryz.func287.trans (congrArg some (by kernel_rfl))
  f299 := Tryz.func288.trans (congrArg some (by kernel_rfl))
  f300 := Tryz.func289.trans (congrArg some (by kernel_rfl))
  f301 := Tryz.func290.trans (congrArg some (by kernel_rfl))
  f328 := Tryz.func301.trans (congrArg some (by kernel_rfl))
  f329 := Tryz.func279.trans (congrArg some (by kernel_rfl))
  f330 := Tryz.func280.trans (congrArg some (by kernel_rfl))
  f331 := Tryz.func302.trans (congrArg some (by kernel_rfl))
  f332 := Tryz.func303.trans (congrArg some (by kernel_rfl))
  f343 := Tryz.func308.trans (congrArg some (by kernel_rfl))
  t0 := Tryz.underlying0
  a0 := Tryz.isAgg0
  z0 := Tryz.sizeOf0
  v0 := Tryz.zeroValue0
  t3 := Tryz.underlying3
  a3 := Tryz.isAgg3
  z3 := Tryz.sizeOf3
  v3 := Tryz.zeroValue3
  t4 := Tryz.underlying4
  a4 := Tryz.isAgg4
  z4 := Tryz.sizeOf4
  v4 := Tryz.zeroValue4
  t5 := Tryz.underlying5
  a5 := Tryz.isAgg5
  z5 := Tryz.sizeOf5
  v5 := Tryz.zeroValue5
  t9 := Tryz.underlying9
  a9 := Tryz.isAgg9
  z9 := Tryz.sizeOf9
  v9 := Tryz.zeroValue9
  t28 := Tryz.underlying112
  a28 := Tryz.isAgg112
  z28 := Tryz.sizeOf112
  v28 := Tryz.zeroValue112
  t46 := Tryz.underlying396
  a46 := Tryz.isAgg396
  z46 := Tryz.sizeOf396
  v46 := Tryz.zeroValue396
  t51 := Tryz.underlying32
  a51 := Tryz.isAgg32
  z51 := Tryz.sizeOf32
  v51 := Tryz.zeroValue32
  t53 := Tryz.underlying503
  a53 := Tryz.isAgg503
  z53 := Tryz.sizeOf503
  v53 := Tryz.zeroValue503
  t131 := Tryz.underlying279
  a131 := Tryz.isAgg279
  z131 := Tryz.sizeOf279
  v131 := Tryz.zeroValue279
  t182 := Tryz.underlying495
  a182 := Tryz.isAgg495
  z182 := Tryz.sizeOf495
  v182 := Tryz.zeroValue495
  t183 := Tryz.underlying496
  a183 := Tryz.isAgg496
  z183 := Tryz.sizeOf496
  v183 := Tryz.zeroValue496
  t218 := Tryz.underlying526
  a218 := Tryz.isAgg526
  z218 := Tryz.sizeOf526
  v218 := Tryz.zeroValue526
  t222 := Tryz.underlying530
  a222 := Tryz.isAgg530
  z222 := Tryz.sizeOf530
  v222 := Tryz.zeroValue530
  t228 := Tryz.underlying548
  a228 := Tryz.isAgg548
  z228 := Tryz.sizeOf548
  v228 := Tryz.zeroValue548
  t229 := Tryz.underlying457
  a229 := Tryz.isAgg457
  z229 := Tryz.sizeOf457
  v229 := Tryz.zeroValue457 }
open Go.Sort Go.RowKit in
theorem Tryz.slices_Sort_int (blk off cap : Nat) (zs : List Int) (w : World) (hH : Holds (Value.int .i64) w blk off zs.toArray) (hblk : blk < w.heap.size) (hsz : zs.length < 4611686018427387904) :
    Calls Tryz.prog 205 #[.slice (some ⟨blk, off, none⟩) zs.length cap] w fun e w' =>
      e = .returned (.tuple #[]) ∧ ∃ n os, w' = grow (putRow (Value.int .i64) (Sort.ahead w n) blk off (zs.mergeSort fun x y => decide (x ≤ y)).toArray) os := Any.slices_Sort_int Tryz.lays189 blk off cap zs w hH hblk hsz
def Tryz.laysNm220_ren : Go.Shelf.Ren := ⟨fun | 20 => 227 | n => n, fun | 22 => 112 | 3 => 3 | 4 => 4 | 0 => 0 | n => n, fun | n => n⟩
theorem Tryz.laysNm220 : Go.Proofs.Lays2.n20 Tryz.prog Tryz.laysNm220_ren := {
  mixed := by kernel_rfl
  f20 := Tryz.func227.trans (congrArg some (by kernel_rfl))
  t0 := Tryz.underlying0
  a0 := Tryz.isAgg0
  z0 := Tryz.sizeOf0
  v0 := Tryz.zeroValue0
  t3 := Tryz.underlying3
  a3 := Tryz.isAgg3
  z3 := Tryz.sizeOf3
  v3 := Tryz.zeroValue3
  t4 := Tryz.underlying4
  a4 := Tryz.isAgg4
  z4 := Tryz.sizeOf4
  v4 := Tryz.zeroValue4
  t22 := Tryz.underlying112
  a22 := Tryz.isAgg112
  z22 := Tryz.sizeOf112
  v22 := Tryz.zeroValue112
  i3 := by kernel_rfl }
open Go.RowKit Go.Lib Go.Sort in
/-- slices.Compact at []int: "Compact replaces consecutive runs of equal elements with a single copy. This is like the uniq command found on Unix. Compact modifies the contents of the slice s and returns the modified slice, which may have a smaller length. Compact zeroes the elements between the new length and the original length. The result preserves the nilness of s.": IT RETURNS THE SLICE CUT TO 'Lib.compact zs'; ITS CELLS HOLD 'Lib.compact zs', THEN ZERO VALUES up to the old length; all else is as it was, but for the count of draws. IN THE WORDS OF slices.Sort's CONTRACT ('Holds', 'putRow'): so the everyday 'slices.Sort(xs); xs = slices.Compact(xs)' goes from the one contract to the other. It asks 'zs.length ≤ cap' (every slice's: the reslicing 's[:k]' looks at it). Length 0, nil: '.._empty'. (LAID: no walk: one application.) -/
theorem Tryz.slices_Compact_int (blk off cap : Nat) (zs : List Int) (w : World) (hH : Holds (Value.int .i64) w blk off zs.toArray) (hsz : zs.length ≤ 9223372036854775807) (hcap : zs.length ≤ cap) :
    Calls Tryz.prog 227 #[.slice (some ⟨blk, off, none⟩) zs.length cap] w fun e w' => e = .returned (.slice (some ⟨blk, off, none⟩) (Lib.compact zs).length cap) ∧ ∃ q, w' = putRow (Value.int .i64) (Sort.ahead w q) blk off (Lib.compact zs ++ List.replicate (zs.length - (Lib.compact zs).length) 0).toArray := Any.slices_Compact_int Tryz.laysNm220 blk off cap zs w hH hsz hcap
open Go.RowKit Go.Lib Go.Sort in
/-- The same at a slice of length 0, a nil one too: it comes back as it is. (LAID: no walk: one application.) -/
theorem Tryz.slices_Compact_int_empty (a : Option Addr) (cap : Nat) (w : World) :
    Calls Tryz.prog 227 #[.slice a 0 cap] w fun e w' => e = .returned (.slice a 0 cap) ∧ w' = w := Any.slices_Compact_int_empty Tryz.laysNm220 a cap w
open Go.RowKit Go.Sort in
/-- .. and plain. (LAID: no walk: one application.) -/
theorem Tryz.slices_Sort_int_none (p : Option Addr) (cap : Nat) (w : World) :
    Calls Tryz.prog 205 #[.slice p 0 cap] w fun e w' => e = .returned (.tuple #[]) ∧ w' = w := Any.slices_Sort_int_none Tryz.lays189 p cap w
end Go.Proofs

namespace Go.SL
set_option linter.unusedVariables false
open Go.RowKit

section
variable {P : Program} {ro : Option Nat} {β : Bs} {ds : List Deferred} {N : Nat} {env : Env} {L : List Res} {Q : Exit → Act → World → Prop}

theorem stepR_scopeI {b : Frame} {a : Act} {k : List Item} {cs : List Frame} {w : World} {c : Code} : step P (lone (b.atR a (.code (.scope c) :: k)) cs w) = .next (lone (b.atR a (.code c :: .inScope c :: k)) cs w) :=
  step_lone_go (by simp [stepG, stepG.exec, Frame.atR])
theorem stepR_inScopeI {b : Frame} {a : Act} {k : List Item} {cs : List Frame} {w : World} {c : Code} : step P (lone (b.atR a (.inScope c :: k)) cs w) = .next (lone (b.atR a k) cs w) :=
  step_lone_go (by simp [stepG, stepG.exec, Frame.atR])
theorem wpIn_scopeI {c : Code} {a : Act} {w : World} (h : c.wpIn (Wf ro) 0 P (Exit.noGoto Q) a w) : (Code.scope c).wpIn (Wf ro) 0 P Q a w := by
  intro b k cs hro hb hrm
  obtain ⟨e, a₁, w₁, hq, harr⟩ := h b (.inScope c :: k) cs hro hb hrm
  cases e with
  | normal => exact ⟨.normal, a₁, w₁, hq, .of_steps (.one (fenced_calm hb hrm rfl) stepR_scopeI) (StepsIn.trans harr (.one (fenced_calm hb hrm rfl) stepR_inScopeI))⟩
  | exit id => exact ⟨.exit id, a₁, w₁, hq, .of_steps (.one (fenced_calm hb hrm rfl) stepR_scopeI) ⟨fun k' hk => harr.1 k' (by simp [exitTo, hk]), fun hr hk => harr.2 hr (by simp [exitTo, hk])⟩⟩
  | goto l => exact hq.elim
  | ret => exact ⟨.ret, a₁, w₁, hq, ArrivesIn.of_steps (e := .ret) (.one (fenced_calm hb hrm rfl) stepR_scopeI) harr⟩
  | panic ch => exact ⟨.panic ch, a₁, w₁, hq, ArrivesIn.of_steps (e := .panic ch) (.one (fenced_calm hb hrm rfl) stepR_scopeI) harr⟩
  | outgrown => exact ⟨.outgrown, a₁, w₁, hq, ArrivesIn.of_steps (e := .outgrown) (.one (fenced_calm hb hrm rfl) stepR_scopeI) harr⟩

theorem VC.scope {c : Code} (h : VC P ro β N ds env L c (Exit.noGoto Q)) : VC P ro β N ds env L (.scope c) Q := fun a w ha hw => wpIn_scopeI (h a w ha hw)
theorem VE.scR (h : VE β N ds env L .ret Q) : VE β N ds env L .ret (Exit.noGoto Q) := fun a w ha hw => h a w ha hw
variable {d : Option Nat} {ty : TypeId} {pos : String} {aft : Array Edge} {g : Option (Nat × Bool)}
theorem LO.lenS {T : Nat} {x : Operand} {s : ByteArray} {aT : Array TypeId} (hT : P.underlying T = some .string) (hx : OV env x (.string s)) (ha : aT[0]? = some T) : LO P β env L ⟨d, .call ⟨.builtin .len, #[x], aT⟩, ty, pos, aft, g⟩ (.int .i64 s.size) :=
  .of_run fun a w h hw => ⟨w, by simp [execOp, resolve, invoke, builtin, h x (by simp [Op.operands, Call.operands]) _ hx, Builtin.len_, ha, run_underlying hT, goInt], hw⟩
theorem LO.ixS {T : Nat} {x i : Operand} {s : ByteArray} {k : IntKind} {e : Int} {j : Nat} (hT : P.underlying T = some .string) (hx : OV env x (.string s)) (hi : OV env i (.int k e)) (he : e = (j : Int)) (hj : j < s.size) : LO P β env L ⟨d, .index T x i, ty, pos, aft, g⟩ (.int .u8 ((s.data.toList.getD j 0).toNat : Int)) :=
  .of_run fun a w h hw => ⟨w, by
    subst he
    have hr := run_index_string (P := P) (w := w) T s k (j : Int) hT
    rw [dif_pos ⟨by omega, by omega⟩] at hr
    have e2 : (s[(j : Int).toNat]'(by omega)) = s.data.toList.getD j 0 := by
      have hl : j < s.data.toList.length := by rw [Array.length_toList]; exact hj
      simp only [Int.toNat_natCast, List.getD, List.getElem?_eq_getElem hl, Option.getD_some]
      rfl
    rw [e2] at hr
    simp [execOp, h x (by simp [Op.operands]) _ hx, h i (by simp [Op.operands]) _ hi, hr], hw⟩
theorem LO.slS {T : Nat} {x i : Operand} {s : ByteArray} {k : IntKind} {e : Int} (hT : P.underlying T = some .string) (hx : OV env x (.string s)) (hi : OV env i (.int k e)) (h0 : 0 ≤ e) (h1 : e ≤ (s.size : Int)) : LO P β env L ⟨d, .slice T x (some i) none none, ty, pos, aft, g⟩ (.string (s.extract e.toNat s.size)) :=
  .of_run fun a w h hw => ⟨w, by
    have hr := run_slice_string_from_if (P := P) (w := w) T s k e hT
    rw [if_pos ⟨h0, h1⟩] at hr
    simp [execOp, h x (by simp [Op.operands]) _ hx, h i (by simp [Op.operands]) _ hi, Instr.sliceAt, run_underlying hT, hr], hw⟩
theorem LO.cvS {sT dT : Nat} {x : Operand} {k : IntKind} {m : Int} (hs : ∃ d, P.underlying sT = some d) (hT : P.underlying dT = some .string) (hx : OV env x (.int k m)) : LO P β env L ⟨d, .convert sT dT x, ty, pos, aft, g⟩ (.string (Utf8.encode m)) :=
  .of_run fun a w h hw => ⟨w, by
    have hr := run_convert_int_string (P := P) w sT dT k m (Option.isSome_iff_exists.2 hs) hT
    simp [execOp, h x (by simp [Op.operands]) _ hx, hr], hw⟩
theorem LO.neS {xT yT : Nat} {x y : Operand} {s t : ByteArray} (hx : OV env x (.string s)) (hy : OV env y (.string t)) : LO P β env L ⟨d, .binOp .neq xT x y yT, ty, pos, aft, g⟩ (.bool (!(s.toList == t.toList))) :=
  .of_run fun a w h hw => ⟨w, by simp [execOp, h x (by simp [Op.operands]) _ hx, h y (by simp [Op.operands]) _ hy, eqGuard, binOp_string_neq], hw⟩

theorem LO.eqB {x y : Operand} {xT yT : TypeId} {a b : Bool} (hT : P.underlying xT = some .bool) (hx : OV env x (.bool a)) (hy : OV env y (.bool b)) :
    LO P β env L ⟨d, .binOp .eql xT x y yT, ty, pos, aft, g⟩ (.bool (decide (a = b))) :=
  .of_run fun ac w h hw => ⟨w, by
    have key : ∀ dd, (Op.equalIn (dd + 1) xT (.bool a) (.bool b)).run P w = .ok (a == b) w := fun dd => by simp [Op.equalIn, run_underlying hT]
    have e : (Op.equal xT (.bool a) (.bool b)).run P w = .ok (a == b) w := key 9999
    simp [execOp, h x (by simp [Op.operands]) _ hx, h y (by simp [Op.operands]) _ hy, eqGuard, binOp, e, Result.andThen_ok]
    cases a <;> cases b <;> rfl, hw⟩
section
variable {K : Value → List Res → Prop} {dd : Option Nat}
theorem HO.range {T : Nat} {x : Operand} {s : ByteArray} (hT : P.underlying T = some .string) (hx : ev env x = some (.string s)) (k : ∀ b, K (.pointer (some ⟨b, 0, none⟩)) (blk b (.stringIter s 0) :: L)) : HO P β env L ⟨dd, .range T x, ty, pos, aft, g⟩ K := by
  intro a w h hw
  refine .inl ⟨_, w.iter s 0,_,_, ?_, .inl rfl, k w.heap.size, hw.alloc _⟩
  simp [execOp, h x (by simp [Op.operands]) _ hx, run_range_string w T s hT]
theorem HO.nextT (i : Nat) (LF : Res → List Res) {x : Operand} {s : ByteArray} {b p : Nat} (hx : ev env x = some (.pointer (some ⟨b, 0, none⟩))) (hi : L[i]? = some (blk b (.stringIter s p))) (hL : ∀ R : Res, L.set i R = LF R) (hp : p < s.size)
    (k : K (.tuple #[.bool true, .int .i64 p, .int .i32 (Utf8.decode s p).1]) (LF (blk b (.stringIter s (p + (Utf8.decode s p).2))))) : HO P β env L ⟨dd, .next x true, ty, pos, aft, g⟩ K := by
  intro a w h hw
  have hb : w.heap[b]? = some (.stringIter s p) := hw.inv i _ hi
  refine .inl ⟨_, w.iterAt b s (p + (Utf8.decode s p).2),_,_, ?_, .inl rfl, k, ?_⟩
  · have := Go.Lib.run_next_any_at (P := P) w b s p ty hb hp
    simp [execOp, h x (by simp [Op.operands]) _ hx, this]
  · exact hw.upd hi (hL _).symm (Go.Lib.iterAt_heap w b s p _ hb) (fun j hj => Go.Lib.iterAt_other w b j s _ hj) (Go.Lib.iterAt_size w b s _) rfl rfl rfl
theorem HO.nextF (i : Nat) {x : Operand} {s : ByteArray} {b p : Nat} (hx : ev env x = some (.pointer (some ⟨b, 0, none⟩))) (hi : L[i]? = some (blk b (.stringIter s p))) (hp : ¬ p < s.size)
    (k : K (.tuple #[.bool false]) L) : HO P β env L ⟨dd, .next x true, ty, pos, aft, g⟩ K := by
  intro a w h hw
  have hb : w.heap[b]? = some (.stringIter s p) := hw.inv i _ hi
  refine .inl ⟨_, w,_,_, ?_, .inl rfl, k, hw⟩
  have := Go.Lib.run_next_end_at (P := P) w b s p ty hb hp
  simp [execOp, h x (by simp [Op.operands]) _ hx, this]
end
end

/-! ### What a string's runes come to -/
/-- The place at which the first rune with 'p r = truth' begins; -1: there is none. -/
def idxF (p : Nat → Bool) (s : ByteArray) : Nat → Nat → Int
  | 0,_ => -1
  | f + 1, q => if q < s.size then (if p (Utf8.decode s q).1 = true then (q : Int) else idxF p s f (q + (Utf8.decode s q).2)) else -1
theorem idxF_end {p : Nat → Bool} {s : ByteArray} : ∀ {f q : Nat}, ¬ q < s.size → idxF p s f q = -1
  | 0,_,_ => rfl
  | f + 1, q, h => by rw [idxF, if_neg h]
theorem decode_pos (s : ByteArray) (q : Nat) : 1 ≤ (Utf8.decode s q).2 := by
  simp only [Utf8.decode]
  repeat' split
  all_goals simp_all
/-- A byte that is no ASCII byte begins a rune that is none. -/
theorem idxF_bytes {p : Nat → Bool} {s : ByteArray} (h : ∀ r, 128 ≤ r → p r = true) : ∀ {f q : Nat}, s.size ≤ q + f → (idxF p s f q < 0 ↔ ∀ j, q ≤ j → j < s.size → p (s.data.toList.getD j 0).toNat = false)
  | 0, q, hf => by simp only [idxF]; exact ⟨fun _ j h1 h2 => by omega, fun _ => by decide⟩
  | f + 1, q, hf => by
    rw [idxF]
    by_cases hq : q < s.size
    · rw [if_pos hq]
      have eg : s.data.toList.getD q 0 = s[q]'hq := by
        have hl : q < s.data.toList.length := by rw [Array.length_toList]; exact hq
        simp only [List.getD, List.getElem?_eq_getElem hl, Option.getD_some]
        rfl
      by_cases ha : (s[q]'hq).toNat < 128
      · rw [decode_ascii s q hq ha]
        dsimp only
        by_cases hp : p (s[q]'hq).toNat = true
        · rw [if_pos hp]
          refine ⟨fun k => by omega, fun k => ?_⟩
          have := k q (Nat.le_refl _) hq
          rw [eg, hp] at this; cases this
        · rw [if_neg hp]
          rw [idxF_bytes h (f := f) (q := q + 1) (by omega)]
          refine ⟨fun k j h1 h2 => ?_, fun k j h1 h2 => k j (by omega) h2⟩
          by_cases e : j = q
          · subst e; rw [eg]; simpa using hp
          · exact k j (by omega) h2
      · have hd := decode_high s q hq (by omega)
        rw [if_pos (h _ hd.1)]
        refine ⟨fun k => by omega, fun k => ?_⟩
        have := k q (Nat.le_refl _) hq
        rw [eg, h _ (by omega)] at this; cases this
    · rw [if_neg hq]
      exact ⟨fun _ j h1 h2 => by omega, fun _ => by decide⟩
end Go.SL

namespace Go.Pulse
set_option linter.unusedVariables false

structure Span where
  lo : Int
  hi : Int
  deriving DecidableEq
structure Train where
  lam : Int
  kind : Int
  first : Int
  second : Int
  count : Int
structure Recv where
  level : Int
  phase : Int
  nlo : Int
  nhi : Int
structure Sample where
  h : Int
  p : Int
  v : Int
  q : Int
structure Echo where
  kind : Int
  power : Span
  s0 : Span
  s1 : Span
  spread : Int
  ratio : Span
  mtch : Span
  turn : Span
  deriving DecidableEq
def zs : Span := ⟨0,0⟩
def zE : Echo := ⟨0, zs, zs, zs, 0, zs, zs, zs⟩
def zSm : Sample := ⟨0,0,0,0⟩
/-! ### What is valid -/
def trainOk (t : Train) : Prop := (10000 ≤ t.lam ∧ t.lam ≤ 1000000) ∧ (200 ≤ t.first ∧ t.first ≤ 5000) ∧ t.count ≤ 64 ∧
  ((t.kind = 1 ∧ t.second = 0 ∧ 2 ≤ t.count) ∨ (t.kind = 2 ∧ t.count % 2 = 0 ∧ (200 ≤ t.second ∧ t.second ≤ 5000) ∧ t.first < t.second ∧ 4 ≤ t.count) ∨ (t.kind = 3 ∧ (200 ≤ t.second ∧ t.second ≤ 5000) ∧ t.first < t.second ∧ 3 ≤ t.count))
instance (t : Train) : Decidable (trainOk t) := by unfold trainOk; exact inferInstance
def kndOk (k : Int) : Prop := k = 1 ∨ k = 2 ∨ k = 3
instance (k : Int) : Decidable (kndOk k) := by unfold kndOk; exact inferInstance
def trainE (t : Train) : Int := if kndOk t.kind then (if trainOk t then 0 else 3) else 2
def recvOk (r : Recv) : Prop := (0 ≤ r.level ∧ r.level ≤ 64) ∧ (0 ≤ r.phase ∧ r.phase ≤ 4096) ∧ 0 ≤ r.nlo ∧ r.nlo ≤ r.nhi ∧ r.nhi ≤ 1048576
instance (r : Recv) : Decidable (recvOk r) := by unfold recvOk; exact inferInstance
def recvE (r : Recv) : Int := if recvOk r then 0 else 3
def inS (s : Span) (lo hi : Int) : Prop := lo ≤ s.lo ∧ s.lo ≤ s.hi ∧ s.hi ≤ hi
instance (s : Span) (lo hi : Int) : Decidable (inS s lo hi) := by unfold inS; exact inferInstance
def turnS (s : Span) : Prop := (-32768 ≤ s.lo ∧ s.lo ≤ 32767) ∧ s.lo ≤ s.hi ∧ s.hi ≤ s.lo + 65535
instance (s : Span) : Decidable (turnS s) := by unfold turnS; exact inferInstance
def echoOk (x : Echo) : Prop := inS x.power 0 1073741824 ∧
  ((x.kind = 1 ∧ x = { zE with kind := 1, power := ⟨0, x.power.hi⟩ }) ∨
   ((x.kind = 2 ∨ x.kind = 3) ∧ 0 < x.power.lo ∧ inS x.ratio 0 1000000 ∧ inS x.mtch 0 1000 ∧ (0 ≤ x.spread ∧ x.spread ≤ 65535) ∧
     ((x.kind = 2 ∧ x.s0 = zs ∧ x.s1 = zs ∧ x.turn = zs) ∨ (x.kind = 3 ∧ turnS x.s0 ∧ turnS x.s1 ∧ turnS x.turn))))
instance (x : Echo) : Decidable (echoOk x) := by unfold echoOk; exact inferInstance
def echoE (x : Echo) : Int := if kndOk x.kind then (if echoOk x then 0 else 3) else 2
def smpOk (x : Sample) : Prop := (0 ≤ x.h ∧ x.h ≤ 1023) ∧ (0 ≤ x.v ∧ x.v ≤ 1023) ∧ (0 ≤ x.p ∧ x.p ≤ 65535) ∧ (0 ≤ x.q ∧ x.q ≤ 65535)
instance (x : Sample) : Decidable (smpOk x) := by unfold smpOk; exact inferInstance

/-! ### Numbers on a circle -/
def wr (a : Int) : Int := a % 65536
def up (a b : Int) : Int := -(-a / b)
def arcW (l : List Int) (d : Int) : Int := (l.map fun x => wr (x - d)).foldl max 0
def arcStep (l : List Int) (s : Int × Int) (d : Int) : Int × Int := if arcW l d < s.2 ∨ (arcW l d = s.2 ∧ d < s.1) then (d, arcW l d) else s
def arcR (l : List Int) : Int × Int := l.foldl (arcStep l) (0,65536)
def arcT (l : List Int) (b : Int) : Int := (l.map fun d => b + wr (d - b)).sum
def arcSum (l : List Int) : Int := arcT l (arcR l).1
def tog (l : List Int) (phase : Int) : Prop := l = [] ∨ (arcR l).2 + 4 * phase < 32768
instance (l : List Int) (p : Int) : Decidable (tog l p) := by unfold tog; exact inferInstance
def meanS (l : List Int) (slack : Int) : Span :=
  if l = [] then zs else
    let lo := (arcSum l - slack) / (l.length : Int)
    let hi := up (arcSum l + slack) (l.length : Int)
    ⟨wr (lo + 32768) - 32768, wr (lo + 32768) - 32768 + hi - lo⟩
def wid (l : List Int) : Int := if l = [] then 0 else (arcR l).2

/-! ### Echoes -/
def sq (m a : Int) : Int := max 0 (a + m) * max 0 (a + m)
def sumH (m : Int) (l : List Sample) : Int := (l.map fun x => sq m x.h).sum
def sumV (m : Int) (l : List Sample) : Int := (l.map fun x => sq m x.v).sum
def sumX (m : Int) (l : List Sample) : Int := (l.map fun x => max 0 (x.h + m) * max 0 (x.v + m)).sum
def powS (r : Recv) (a b n : Int) : Span := ⟨max 0 (a / n - r.nhi), max 0 (up b n - r.nlo)⟩
def ratioS (p q : Span) : Span := ⟨min 1000000 (1000 * q.lo / p.hi), min 1000000 (up (1000 * q.hi) p.lo)⟩
def shareD (a b : Int) : Int := if b = 0 then 0 else min 1000 (1000 * a * a / b)
def shareU (a b : Int) : Int := if b = 0 then 1000 else min 1000 (up (1000 * a * a) b)
def stW (kind : Int) (n i : Nat) : Int := if kind = 1 then 0 else if kind = 2 then (if i + 1 = n / 2 then 2 else if n / 2 ≤ i then 1 else 0) else ((i % 2 : Nat) : Int)
def stD (l : List Sample) (i : Nat) : Int := wr ((l.getD (i + 1) zSm).p - (l.getD i zSm).p)
def stP (kind : Int) (l : List Sample) (w : Int) (m : Nat) : List Int := ((List.range m).filter fun i => decide (stW kind l.length i = w)).map (stD l)
def stL (kind : Int) (l : List Sample) (w : Int) : List Int := stP kind l w (l.length - 1)
def turnL (l : List Sample) : List Int := l.map fun x => wr (x.q - x.p)
def slk (t : Train) (r : Recv) (s : List Int) : Int := if t.kind = 3 then 2 * r.phase * s.length else 2 * r.phase
def pow0 (r : Recv) (l : List Sample) : Span := powS r (sumH (-r.level) l) (sumH r.level l) l.length
def pow1 (r : Recv) (l : List Sample) : Span := powS r (sumV (-r.level) l) (sumV r.level l) l.length
def mtchS (r : Recv) (l : List Sample) : Span := ⟨shareD (sumX (-r.level) l) (sumH r.level l * sumV r.level l), shareU (sumX r.level l) (sumH (-r.level) l * sumV (-r.level) l)⟩
def goodT (t : Train) (r : Recv) (l : List Sample) : Prop := tog (turnL l) r.phase ∧ tog (stL t.kind l 0) r.phase ∧ tog (stL t.kind l 1) r.phase
instance (t : Train) (r : Recv) (l : List Sample) : Decidable (goodT t r l) := by unfold goodT; exact inferInstance
def spreadL (t : Train) (l : List Sample) : Int := max (max 0 (wid (stL t.kind l 0))) (wid (stL t.kind l 1))
def hearX (t : Train) (r : Recv) (l : List Sample) : Echo :=
  if (pow0 r l).lo = 0 then { zE with kind := 1, power := pow0 r l }
  else if ¬ goodT t r l then { zE with kind := 2, power := pow0 r l, spread := spreadL t l, ratio := ratioS (pow0 r l) (pow1 r l), mtch := mtchS r l }
  else ⟨3, pow0 r l, meanS (stL t.kind l 0) (slk t r (stL t.kind l 0)), meanS (stL t.kind l 1) (slk t r (stL t.kind l 1)), spreadL t l, ratioS (pow0 r l) (pow1 r l), mtchS r l, meanS (turnL l) (2 * r.phase * l.length)⟩
def hearE (t : Train) (r : Recv) (l : List Sample) : Int :=
  if trainE t ≠ 0 then trainE t else if recvE r ≠ 0 then recvE r else if (l.length : Int) ≠ t.count then 11 else if ∀ x ∈ l, smpOk x then 0 else 3
def hearR (t : Train) (r : Recv) (l : List Sample) : Echo := if hearE t r l = 0 then hearX t r l else zE

/-- The first that is not 0. -/
def firstE (f : Nat → Int) : Nat → Int
  | 0 => 0
  | n + 1 => if firstE f n ≠ 0 then firstE f n else f n
theorem firstE_zero {f : Nat → Int} : ∀ {n : Nat}, (∀ k, k < n → f k = 0) → firstE f n = 0
  | 0,_ => rfl
  | n + 1, h => by
    have := firstE_zero (f := f) (n := n) (fun k hk => h k (by omega))
    simp [firstE, this, h n (by omega)]
theorem firstE_at {f : Nat → Int} {i : Nat} (h : ∀ k, k < i → f k = 0) (hi : f i ≠ 0) : ∀ {n : Nat}, i < n → firstE f n = f i
  | 0, hn => by omega
  | n + 1, hn => by
    by_cases e : i = n
    · subst e; simp [firstE, firstE_zero h]
    · have := firstE_at h hi (n := n) (by omega)
      simp [firstE, this, hi]
/-! ### What is proved of them -/
theorem wr_bd (a : Int) : 0 ≤ wr a ∧ wr a ≤ 65535 := by unfold wr; omega
theorem foldl_max_le (l : List Int) : ∀ a, a ≤ l.foldl max a := by
  induction l with
  | nil => intro a; exact Int.le_refl _
  | cons x l ih => intro a; exact Int.le_trans (Int.le_max_left a x) (ih _)
theorem foldl_max_mem {l : List Int} : ∀ {a x : Int}, x ∈ l → x ≤ l.foldl max a := by
  induction l with
  | nil => intro a x h; cases h
  | cons y l ih =>
    intro a x h
    rcases List.mem_cons.1 h with rfl | h
    · exact Int.le_trans (Int.le_max_right a x) (foldl_max_le l _)
    · exact ih h
theorem foldl_max_eq {l : List Int} : ∀ {a : Int}, l.foldl max a = a ∨ l.foldl max a ∈ l := by
  induction l with
  | nil => intro a; exact .inl rfl
  | cons y l ih =>
    intro a
    show l.foldl max (max a y) = a ∨ l.foldl max (max a y) ∈ _
    rcases ih (a := max a y) with h | h
    · rw [h]
      rcases Int.le_total a y with q | q
      · rw [Int.max_eq_right q]; exact .inr (by simp)
      · exact .inl (Int.max_eq_left q)
    · exact .inr (List.mem_cons_of_mem _ h)
theorem arcW_ge {l : List Int} {d x : Int} (h : x ∈ l) : wr (x - d) ≤ arcW l d := foldl_max_mem (List.mem_map_of_mem h)
theorem arcW_bd (l : List Int) (d : Int) : 0 ≤ arcW l d ∧ arcW l d ≤ 65535 := by
  refine ⟨foldl_max_le _ _, ?_⟩
  rcases foldl_max_eq (l := l.map fun x => wr (x - d)) (a := 0) with h | h
  · unfold arcW; rw [h]; decide
  · obtain ⟨x,_, e⟩ := List.mem_map.1 h
    unfold arcW; rw [← e]; exact (wr_bd _).2
theorem arcW_is {l : List Int} {d m : Int} (h0 : 0 ≤ m) (h1 : ∀ x ∈ l, wr (x - d) ≤ m) (h2 : m = 0 ∨ ∃ x ∈ l, wr (x - d) = m) : arcW l d = m := by
  refine Int.le_antisymm ?_ ?_
  · rcases foldl_max_eq (l := l.map fun x => wr (x - d)) (a := 0) with h | h
    · unfold arcW; rw [h]; exact h0
    · obtain ⟨x, hx, e⟩ := List.mem_map.1 h
      unfold arcW; rw [← e]; exact h1 x hx
  · rcases h2 with rfl | ⟨x, hx, e⟩
    · exact (arcW_bd l d).1
    · rw [← e]; exact arcW_ge hx
/-- What an arc is: the narrowest one, and of those the one with the least base. -/
def ArcP (l : List Int) (b w : Int) : Prop := b ∈ l ∧ w = arcW l b ∧ ∀ x ∈ l, w < arcW l x ∨ (w = arcW l x ∧ b ≤ x)
theorem ArcP.uniq {l : List Int} {b w b' w' : Int} (h : ArcP l b w) (k : ArcP l b' w') : b = b' ∧ w = w' := by
  obtain ⟨h1, h2, h3⟩ := h
  obtain ⟨k1, k2, k3⟩ := k
  have := h3 _ k1
  have := k3 _ h1
  omega
/-- The same for the numbers that have been looked at. -/
def ArcQ (l m : List Int) (b w : Int) : Prop := (m = [] ∧ b = 0 ∧ w = 65536) ∨ (b ∈ m ∧ w = arcW l b ∧ ∀ x ∈ m, w < arcW l x ∨ (w = arcW l x ∧ b ≤ x))
theorem ArcQ.step {l m : List Int} {s : Int × Int} {d : Int} (h : ArcQ l m s.1 s.2) : ArcQ l (m ++ [d]) (arcStep l s d).1 (arcStep l s d).2 := by
  have hb := arcW_bd l d
  right
  unfold arcStep
  rcases h with ⟨rfl, h1, h2⟩ | ⟨h1, h2, h3⟩
  · rw [if_pos (by omega)]
    refine ⟨by simp, rfl, fun x hx => ?_⟩
    simp at hx; subst hx; exact .inr ⟨rfl, Int.le_refl _⟩
  · split
    · rename_i q
      refine ⟨by simp, rfl, fun x hx => ?_⟩
      rcases List.mem_append.1 hx with hx | hx
      · have := h3 x hx
        dsimp only
        omega
      · simp at hx; subst hx; exact .inr ⟨rfl, Int.le_refl _⟩
    · rename_i q
      refine ⟨by simp [h1], h2, fun x hx => ?_⟩
      rcases List.mem_append.1 hx with hx | hx
      · exact h3 x hx
      · simp at hx; subst hx; omega
theorem ArcQ.fold {l : List Int} : ∀ (m m0 : List Int) (s : Int × Int), ArcQ l m0 s.1 s.2 → ArcQ l (m0 ++ m) (m.foldl (arcStep l) s).1 (m.foldl (arcStep l) s).2
  | [], m0, s, h => by simpa using h
  | d :: m, m0, s, h => by
    have := ArcQ.fold m (m0 ++ [d]) (arcStep l s d) h.step
    simpa using this
theorem arcR_is {l : List Int} (h : l ≠ []) : ArcP l (arcR l).1 (arcR l).2 := by
  have := ArcQ.fold (l := l) l [] (0,65536) (.inl ⟨rfl, rfl, rfl⟩)
  rw [List.nil_append] at this
  rcases this with ⟨q,_⟩ | q
  · exact absurd q h
  · exact q
theorem arcR_eq {l : List Int} {b w : Int} (h : ArcP l b w) : arcR l = (b, w) := by
  have := (arcR_is (l := l) (fun q => by rw [q] at h; cases h.1)).uniq h
  exact Prod.ext this.1 this.2
theorem arcR_mem {l : List Int} {m : List Int} (hm : ∀ x, x ∈ m ↔ x ∈ l) : ∀ d, arcW l d = arcW m d := fun d => by
  refine arcW_is (arcW_bd m d).1 (fun x hx => arcW_ge ((hm x).2 hx)) ?_
  rcases foldl_max_eq (l := m.map fun x => wr (x - d)) (a := 0) with h | h
  · exact .inl h
  · obtain ⟨x, hx, e⟩ := List.mem_map.1 h
    exact .inr ⟨x, (hm x).1 hx, e⟩

/-- The width from a member of an ascending list on: what lies ahead of it decides. -/
theorem arcW_asc {s : List Int} (hs : s.Pairwise (· < ·)) (hb : ∀ x ∈ s, 0 ≤ x ∧ x ≤ 65535) {i : Nat} (hi : i < s.length) :
    arcW s s[i] = wr (s[(i + s.length - 1) % s.length]'(Nat.mod_lt _ (by omega)) - s[i]) := by
  have hlt : ∀ {a b : Nat} (ha : a < s.length) (hb' : b < s.length), a < b → s[a] < s[b] := fun ha hb' hab => List.pairwise_iff_getElem.1 hs _ _ ha hb' hab
  have hle : ∀ {a b : Nat} (ha : a < s.length) (hb' : b < s.length), a ≤ b → s[a] ≤ s[b] := fun {a b} ha hb' hab => by
    rcases Nat.lt_or_eq_of_le hab with q | q
    · exact Int.le_of_lt (hlt ha hb' q)
    · subst q; exact Int.le_refl _
  have hbi := hb _ (List.getElem_mem hi)
  by_cases h0 : i = 0
  · subst h0
    have e : (0 + s.length - 1) % s.length = s.length - 1 := by rw [Nat.zero_add]; exact Nat.mod_eq_of_lt (by omega)
    have hl : s.length - 1 < s.length := by omega
    have hbl := hb _ (List.getElem_mem hl)
    have hge := hle hi hl (by omega)
    simp only [e]
    refine arcW_is (wr_bd _).1 (fun x hx => ?_) (.inr ⟨_, List.getElem_mem hl, rfl⟩)
    obtain ⟨k, hk, rfl⟩ := List.mem_iff_getElem.1 hx
    have h1 := hle hk hl (by omega)
    have h2 := hle hi hk (by omega)
    have h3 := hb _ (List.getElem_mem hk)
    unfold wr; omega
  · have e : (i + s.length - 1) % s.length = i - 1 := by
      rw [show i + s.length - 1 = i - 1 + s.length by omega, Nat.add_mod_right, Nat.mod_eq_of_lt (by omega)]
    have hl : i - 1 < s.length := by omega
    have hbl := hb _ (List.getElem_mem hl)
    have hlt1 := hlt hl hi (by omega)
    simp only [e]
    refine arcW_is (wr_bd _).1 (fun x hx => ?_) (.inr ⟨_, List.getElem_mem hl, rfl⟩)
    obtain ⟨k, hk, rfl⟩ := List.mem_iff_getElem.1 hx
    have h3 := hb _ (List.getElem_mem hk)
    rcases Nat.lt_or_ge k i with q | q
    · have h1 := hle hk hl (by omega)
      have h4 := hlt hk hi q
      unfold wr; omega
    · have h1 := hle hi hk q
      unfold wr; omega

/-- Of ascending numbers the first of those with the least width. -/
def ascStep (s : List Int) (st : Int × Int) (d : Int) : Int × Int := if arcW s d < st.2 then (d, arcW s d) else st
theorem asc_fold {s : List Int} (hs : s.Pairwise (· < ·)) (n : Nat) (hn : n ≤ s.length) : (s.take n).foldl (ascStep s) (0,65536) = (s.take n).foldl (arcStep s) (0,65536) := by
  induction n with
  | zero => rfl
  | succ n ih =>
    have hlt : n < s.length := by omega
    have ih := ih (by omega)
    rw [List.take_add_one, List.getElem?_eq_getElem hlt]
    simp only [Option.toList_some, List.foldl_append, List.foldl_cons, List.foldl_nil]
    rw [ih]
    have hq := ArcQ.fold (l := s) (s.take n) [] (0,65536) (.inl ⟨rfl, rfl, rfl⟩)
    rw [List.nil_append] at hq
    generalize (s.take n).foldl (arcStep s) (0,65536) = st at hq
    have hb := arcW_bd s s[n]
    unfold ascStep arcStep
    by_cases h1 : arcW s s[n] < st.2
    · rw [if_pos h1, if_pos (.inl h1)]
    · rw [if_neg h1]
      rw [if_neg]
      rintro (q | ⟨q1, q2⟩)
      · exact h1 q
      · rcases hq with ⟨_,_, k⟩ | ⟨k,_⟩
        · omega
        · obtain ⟨j, hj, e⟩ := List.mem_iff_getElem.1 k
          rw [List.length_take] at hj
          rw [List.getElem_take] at e
          have := List.pairwise_iff_getElem.1 hs j n (by omega) hlt (by omega)
          omega
theorem asc_arc {s l : List Int} (hs : s.Pairwise (· < ·)) (hm : ∀ x, x ∈ s ↔ x ∈ l) : s.foldl (ascStep s) (0,65536) = arcR l := by
  have h1 := asc_fold hs s.length (Nat.le_refl _)
  rw [List.take_length] at h1
  rw [h1]
  by_cases h0 : l = []
  · subst h0
    have : s = [] := by
      cases s with
      | nil => rfl
      | cons x s => have := (hm x).1 (by simp); cases this
    subst this; rfl
  · have hs0 : s ≠ [] := by
      cases l with
      | nil => exact absurd rfl h0
      | cons x l => intro q; have := (hm x).2 (by simp); rw [q] at this; cases this
    have h2 : ArcP s (s.foldl (arcStep s) (0,65536)).1 (s.foldl (arcStep s) (0,65536)).2 := arcR_is hs0
    obtain ⟨a1, a2, a3⟩ := h2
    refine (arcR_eq ⟨(hm _).1 a1, ?_, fun x hx => ?_⟩).symm
    · rw [a2]; exact (arcR_mem hm _).symm
    · have := a3 x ((hm x).2 hx)
      rw [arcR_mem hm x]; exact this
end Go.Pulse

namespace Go.Pulse
set_option linter.unusedVariables false
theorem tdiv_bd (a b : Int) (hb : 0 < b) (h1 : -9223372036854775807 ≤ a) (h2 : a ≤ 9223372036854775807) : -9223372036854775807 ≤ a.tdiv b ∧ a.tdiv b ≤ 9223372036854775807 ∧ (a.tmod b < 0 → a / b = a.tdiv b - 1) ∧ (0 ≤ a.tmod b → a / b = a.tdiv b) ∧ -9223372036854775807 ≤ a / b := by
  have e := Int.mul_tdiv_add_tmod a b
  have f := Int.mul_ediv_add_emod a b
  have hm := Int.emod_nonneg a (by omega : b ≠ 0)
  have hm2 := Int.emod_lt_of_pos a hb
  rcases Int.le_total 0 a with h | h
  · have r1 := Int.tmod_nonneg b h
    have e1 : a.tdiv b = a / b := Int.tdiv_eq_ediv_of_nonneg h
    have d1 : 0 ≤ a / b := Int.ediv_nonneg h (by omega)
    have d2 : a / b ≤ a := Int.ediv_le_self b h
    refine ⟨by omega, by omega, fun q => by omega, fun _ => e1.symm, by omega⟩
  · have r1 : a.tdiv b = -((-a) / b) := by
      have := Int.neg_tdiv (a := -a) (b := b)
      rw [Int.neg_neg] at this
      rw [this, Int.tdiv_eq_ediv_of_nonneg (by omega)]
    have d1 : 0 ≤ (-a) / b := Int.ediv_nonneg (by omega) (by omega)
    have d2 : (-a) / b ≤ -a := Int.ediv_le_self b (by omega)
    have d3 := Int.mul_ediv_add_emod (-a) b
    have d4 := Int.emod_nonneg (-a) (by omega : b ≠ 0)
    have d5 := Int.emod_lt_of_pos (-a) hb
    have t1 : a.tmod b = a - b * a.tdiv b := by omega
    have key : b * a.tdiv b = -(b * ((-a) / b)) := by rw [r1, Int.mul_neg]
    refine ⟨by omega, by omega, fun q => ?_, fun q => ?_, ?_⟩
    · have h7 : 0 < (-a) % b := by omega
      have : a / b = -((-a) / b) - 1 := by
        have : a = b * (-((-a) / b) - 1) + (b - (-a) % b) := by rw [Int.mul_sub, Int.mul_neg]; omega
        have h8 := Int.ediv_emod_unique (a := a) (b := b) (r := b - (-a) % b) (q := -((-a) / b) - 1) hb
        exact (h8.2 ⟨by omega, by omega, by omega⟩).1
      omega
    · have h7 : (-a) % b = 0 := by omega
      have : a / b = -((-a) / b) := by
        have h8 := Int.ediv_emod_unique (a := a) (b := b) (r := 0) (q := -((-a) / b)) hb
        exact (h8.2 ⟨by rw [Int.mul_neg]; omega, by omega, by omega⟩).1
      omega
    · by_cases h7 : (-a) % b = 0
      · have h8 := Int.ediv_emod_unique (a := a) (b := b) (r := 0) (q := -((-a) / b)) hb
        have := (h8.2 ⟨by rw [Int.mul_neg]; omega, by omega, by omega⟩).1
        omega
      · have h8 := Int.ediv_emod_unique (a := a) (b := b) (r := b - (-a) % b) (q := -((-a) / b) - 1) hb
        have := (h8.2 ⟨by rw [Int.mul_sub, Int.mul_neg]; omega, by omega, by omega⟩).1
        have : (-a) / b ≤ 9223372036854775806 := by
          rcases Nat.lt_or_ge 1 b.toNat with h9 | h9
          · have h10 : b * ((-a) / b) ≥ 2 * ((-a) / b) := Int.mul_le_mul_of_nonneg_right (by omega) d1
            omega
          · have : b = 1 := by omega
            subst this
            omega
        omega
theorem tdiv_up (a b : Int) (hb : 0 < b) (h2 : a ≤ 9223372036854775807) : a / b ≤ 9223372036854775807 := by
  rcases Int.le_total 0 a with h | h
  · exact Int.le_trans (Int.ediv_le_self b h) h2
  · have : a / b ≤ 0 := Int.ediv_nonpos_of_nonpos_of_neg (by omega) (by omega)
    omega
/-- What 'q := a / b; if q*b > a { q-- }' comes to. -/
theorem down_bd (a b : Int) (hb : 0 < b) (h1 : -9223372036854775807 ≤ a) (h2 : a ≤ 9223372036854775807) : (-9223372036854775807 ≤ a.tdiv b ∧ a.tdiv b ≤ 9223372036854775807) ∧ (-9223372036854775807 ≤ a.tdiv b * b ∧ a.tdiv b * b ≤ 9223372036854775807) ∧ (a < a.tdiv b * b → a.tdiv b - 1 = a / b) ∧ (¬ a < a.tdiv b * b → a.tdiv b = a / b) ∧ -9223372036854775807 ≤ a / b ∧ a / b ≤ 9223372036854775807 := by
  obtain ⟨q1, q2, q3, q4, q5⟩ := tdiv_bd a b hb h1 h2
  have e := Int.mul_tdiv_add_tmod a b
  rw [Int.mul_comm] at e
  have q6 := tdiv_up a b hb h2
  have m1 : a.tmod b < b := Int.tmod_lt_of_pos a hb
  have m2 : -b < a.tmod b := by
    rcases Int.le_total 0 a with h | h
    · have := Int.tmod_nonneg b h; omega
    · have e2 : (-a).tmod b = -(a.tmod b) := Int.neg_tmod ..
      have := Int.tmod_lt_of_pos (-a) hb
      omega
  have hs : (-9223372036854775807 ≤ a.tdiv b * b ∧ a.tdiv b * b ≤ 9223372036854775807) := by
    rcases Int.le_total 0 a with h | h
    · have r1 := Int.tmod_nonneg b h
      have d1 : 0 ≤ a.tdiv b := by rw [Int.tdiv_eq_ediv_of_nonneg h]; exact Int.ediv_nonneg h (by omega)
      have := Int.mul_nonneg d1 (by omega : 0 ≤ b)
      omega
    · have r1 : a.tmod b ≤ 0 := by
        have e2 : (-a).tmod b = -(a.tmod b) := Int.neg_tmod ..
        have := Int.tmod_nonneg b (by omega : 0 ≤ -a)
        omega
      have d1 : a.tdiv b ≤ 0 := by
        have e3 : (-a).tdiv b = -(a.tdiv b) := Int.neg_tdiv ..
        have : 0 ≤ (-a).tdiv b := by rw [Int.tdiv_eq_ediv_of_nonneg (by omega)]; exact Int.ediv_nonneg (by omega) (by omega)
        omega
      have := Int.mul_nonneg (by omega : 0 ≤ -(a.tdiv b)) (by omega : 0 ≤ b)
      rw [Int.neg_mul] at this
      omega
  exact ⟨⟨q1, q2⟩, hs, fun h => (q3 (by omega) ▸ rfl), fun h => (q4 (by omega)).symm, q5, q6⟩
theorem tmod2 (a : Int) : a.tmod 2 = 0 ↔ a % 2 = 0 := by
  rw [← Int.dvd_iff_tmod_eq_zero, ← Int.dvd_iff_emod_eq_zero]
end Go.Pulse
namespace Go.SL
set_option linter.unusedVariables false
section
variable {α : Type} {z : Nat} {f : α → List Value} {w0 w : World} {p : Option Addr} {l : List α} {L : List Res} {β : Bs}
end
end Go.SL

namespace Go.Proofs.YtffbohecdocajaaGreat
open Go.SL Go.Proofs Go.Pulse
set_option linter.unusedVariables false

theorem F25_0 : FieldAt Tryz.prog 25 0 0 := ⟨_,_, Tryz.underlying25, rfl, rfl, 0, by kernel_rfl⟩
theorem O3 : IsOne Tryz.prog 3 := ⟨⟨_, Tryz.underlying3, rfl⟩, by kernel_rfl⟩
theorem F25_1 : FieldAt Tryz.prog 25 1 1 := ⟨_,_, Tryz.underlying25, rfl, rfl, 0, by kernel_rfl⟩
theorem C179 : IsFn Tryz.prog 179 := ⟨_, Tryz.func179, by decide, rfl⟩
abbrev trainV (t : Train) : Value := .agg #[.int .i64 t.lam, .int .i64 t.kind, .int .i64 t.first, .int .i64 t.second, .int .i64 t.count]
abbrev recvV (r : Recv) : Value := .agg #[.int .i64 r.level, .int .i64 r.phase, .int .i64 r.nlo, .int .i64 r.nhi]
abbrev spanC (s : Span) : List Value := [.int .i64 s.lo, .int .i64 s.hi]
abbrev spanV (s : Span) : Value := .agg #[.int .i64 s.lo, .int .i64 s.hi]
abbrev smpC (x : Sample) : List Value := [.int .i64 x.h, .int .i64 x.p, .int .i64 x.v, .int .i64 x.q]
abbrev echoC (x : Echo) : List Value := [.int .i64 x.kind, .int .i64 x.power.lo, .int .i64 x.power.hi, .int .i64 x.s0.lo, .int .i64 x.s0.hi, .int .i64 x.s1.lo, .int .i64 x.s1.hi, .int .i64 x.spread, .int .i64 x.ratio.lo, .int .i64 x.ratio.hi, .int .i64 x.mtch.lo, .int .i64 x.mtch.hi, .int .i64 x.turn.lo, .int .i64 x.turn.hi]
abbrev echoV (x : Echo) : Value := .agg #[.int .i64 x.kind, .int .i64 x.power.lo, .int .i64 x.power.hi, .int .i64 x.s0.lo, .int .i64 x.s0.hi, .int .i64 x.s1.lo, .int .i64 x.s1.hi, .int .i64 x.spread, .int .i64 x.ratio.lo, .int .i64 x.ratio.hi, .int .i64 x.mtch.lo, .int .i64 x.mtch.hi, .int .i64 x.turn.lo, .int .i64 x.turn.hi]
abbrev intC (n : Int) : List Value := [.int .i64 n]
abbrev Spans (w : World) (p : Option Addr) (l : List Span) : Prop := RO 2 spanC w p l
abbrev Smps (w : World) (p : Option Addr) (l : List Sample) : Prop := RO 4 smpC w p l
set_option maxRecDepth 20000 in
theorem within_c (n lo hi : Int) (w : World) :
  Calls Tryz.prog 54 #[.int .i64 n, .int .i64 lo, .int .i64 hi] w fun e w' => e = .returned (.bool (decide (lo ≤ n) && decide (n ≤ hi))) ∧ St (bs w) [] w' := by
  refine enter (vs := [_,_,_]) (env := [(0,_), (1,_), (2,_)]) Tryz.func54 rfl rfl rfl rfl ?_
  refine VC.seq ?_
  refine VC.reg (VO.l (LO.as (.r rfl)) rfl<|VO.nil ?_)
  refine VE.seqN ?_
  refine VC.seq ?_
  refine VC.reg (VO.l (LO.mv (.r rfl)) rfl<|VO.l (LO.mv (.r rfl)) rfl<|VO.l (LO.le (.r rfl) (.r rfl)) rfl<|VO.l (LO.mv (.r rfl)) rfl<|VO.lg rfl rfl (GD.t _) (fun hg => LO.mv (.r rfl)) rfl<|VO.lg rfl rfl (GD.t _) (fun hg => LO.mv (.r rfl)) rfl<|VO.lg rfl rfl (GD.t _) (fun hg => LO.le (.g hg rfl) (.g hg rfl)) rfl<|VO.l (LO.pkA (.r rfl) rfl rfl (.r rfl)) rfl<|VO.l (LO.as (.r rfl)) rfl<|VO.nil ?_)
  refine VE.seqN ?_
  refine VC.ret (VE.res (vs := [_]) rfl ⟨rfl, trivial⟩ (fun w hw => ?_))
  exact ⟨rfl, hw.nil⟩

set_option maxRecDepth 20000 in
theorem bwithin_c (n lo hi : Int) (w : World) :
  Calls Tryz.prog 119 #[.int .i64 n, .int .i64 lo, .int .i64 hi] w fun e w' => e = .returned (.bool (decide (lo ≤ n) && decide (n ≤ hi))) ∧ St (bs w) [] w' := by
  refine enter (vs := [_,_,_]) (env := [(0,_), (1,_), (2,_)]) Tryz.func119 rfl rfl rfl rfl ?_
  refine VC.seq ?_
  refine VC.reg (VO.l (LO.as (.r rfl)) rfl<|VO.nil ?_)
  refine VE.seqN ?_
  refine VC.seq ?_
  refine VC.reg (VO.l (LO.mv (.r rfl)) rfl<|VO.l (LO.mv (.r rfl)) rfl<|VO.l (LO.le (.r rfl) (.r rfl)) rfl<|VO.l (LO.mv (.r rfl)) rfl<|VO.lg rfl rfl (GD.t _) (fun hg => LO.mv (.r rfl)) rfl<|VO.lg rfl rfl (GD.t _) (fun hg => LO.mv (.r rfl)) rfl<|VO.lg rfl rfl (GD.t _) (fun hg => LO.le (.g hg rfl) (.g hg rfl)) rfl<|VO.l (LO.pkA (.r rfl) rfl rfl (.r rfl)) rfl<|VO.l (LO.as (.r rfl)) rfl<|VO.nil ?_)
  refine VE.seqN ?_
  refine VC.ret (VE.res (vs := [_]) rfl ⟨rfl, trivial⟩ (fun w hw => ?_))
  exact ⟨rfl, hw.nil⟩

set_option maxRecDepth 20000 in
theorem inside_c (s t lo hi : Int) (w : World) :
  Calls Tryz.prog 111 #[.agg #[.int .i64 s, .int .i64 t], .int .i64 lo, .int .i64 hi] w fun e w' => e = .returned (.bool ((decide (lo ≤ s) && decide (s ≤ t)) && decide (t ≤ hi))) ∧ St (bs w) [] w' := by
  refine enter (vs := [_,_,_]) (env := [(0,_), (1,_), (2,_)]) Tryz.func111 rfl rfl rfl rfl ?_
  refine VC.seq ?_
  refine VC.reg (VO.h rfl<|HO.box (C := #[_,_]) rfl rfl fun b1 => VO.l (LO.as (.r rfl)) rfl<|VO.nil ?_)
  refine VE.seqN ?_
  refine VC.seq ?_
  refine VC.reg (VO.l (LO.mv (.r rfl)) rfl<|VO.l (LO.fa (r := 0) F25_0 (.r rfl) rfl) rfl<|VO.l (LO.ld O3 (.r rfl) (fun _ hw => cells_at hw 0 rfl ⟨_, rfl⟩)) rfl<|VO.l (LO.le (.r rfl) (.r rfl)) rfl<|VO.l (LO.mv (.r rfl)) rfl<|VO.lg rfl rfl (GD.t _) (fun hg => LO.fa (r := 0) F25_0 (.r rfl) rfl) rfl<|VO.lg rfl rfl (GD.t _) (fun hg => LO.ld O3 (.g hg rfl) (fun _ hw => cells_at hw 0 rfl ⟨_, rfl⟩)) rfl<|VO.lg rfl rfl (GD.t _) (fun hg => LO.fa (r := 1) F25_1 (.r rfl) rfl) rfl<|VO.lg rfl rfl (GD.t _) (fun hg => LO.ld O3 (.g hg rfl) (fun _ hw => cells_at hw 0 rfl ⟨_, rfl⟩)) rfl<|VO.lg rfl rfl (GD.t _) (fun hg => LO.le (.g hg rfl) (.g hg rfl)) rfl<|VO.l (LO.pkA (.r rfl) rfl rfl (.r rfl)) rfl<|VO.l (LO.mv (.r rfl)) rfl<|VO.lg rfl rfl (GD.t _) (fun hg => LO.fa (r := 1) F25_1 (.r rfl) rfl) rfl<|VO.lg rfl rfl (GD.t _) (fun hg => LO.ld O3 (.g hg rfl) (fun _ hw => cells_at hw 0 rfl ⟨_, rfl⟩)) rfl<|VO.lg rfl rfl (GD.t _) (fun hg => LO.mv (.r rfl)) rfl<|VO.lg rfl rfl (GD.t _) (fun hg => LO.le (.g hg rfl) (.g hg rfl)) rfl<|VO.l (LO.pkA (.r rfl) rfl rfl (.r rfl)) rfl<|VO.l (LO.as (.r rfl)) rfl<|VO.nil ?_)
  refine VE.seqN ?_
  refine VC.ret (VE.res (vs := [_]) rfl ⟨rfl, trivial⟩ (fun w hw => ?_))
  exact ⟨rfl, hw.nil⟩

set_option maxRecDepth 20000 in
theorem wrap_c (a : Int) (w : World) :
  Calls Tryz.prog 112 #[.int .i64 a] w fun e w' => e = .returned (.int .i64 (wr a)) ∧ St (bs w) [] w' := by
  refine enter (vs := [_]) (env := [(0,_)]) Tryz.func112 rfl rfl rfl rfl ?_
  refine VC.seq ?_
  refine VC.reg (VO.l (LO.as (.r rfl)) rfl<|VO.nil ?_)
  refine VE.seqN ?_
  refine VC.seq ?_
  refine VC.reg (VO.l (LO.mv (.r rfl)) rfl<|VO.l (LO.mask (.r rfl) (.r rfl)) rfl<|VO.l (LO.as (.r rfl)) rfl<|VO.nil ?_)
  refine VE.seqN ?_
  refine VC.ret (VE.res (vs := [_]) rfl ⟨rfl, trivial⟩ (fun w hw => ?_))
  exact ⟨rfl, hw.nil⟩

set_option maxRecDepth 20000 in
theorem down_c (a b : Int) (h1 : -9223372036854775807 ≤ a) (h2 : a ≤ 9223372036854775807) (hb : 0 < b) (w : World) :
  Calls Tryz.prog 179 #[.int .i64 a, .int .i64 b] w fun e w' => e = .returned (.int .i64 (a / b)) ∧ St (bs w) [] w' := by
  have ⟨q1, q2, q3, q4, q5⟩ := down_bd a b hb h1 h2
  refine enter (vs := [_,_]) (env := [(0,_), (1,_)]) Tryz.func179 rfl rfl rfl rfl ?_
  refine VC.seq ?_
  refine VC.reg (VO.l (LO.as (.r rfl)) rfl<|VO.nil ?_)
  refine VE.seqN ?_
  refine VC.seq ?_
  refine VC.reg (VO.l (LO.mv (.r rfl)) rfl<|VO.l (LO.mv (.r rfl)) rfl<|VO.l (LO.quo (.r rfl) (.r rfl) (by omega) (wi (by omega) (by omega))) rfl<|VO.l (LO.as (.r rfl)) rfl<|VO.nil ?_)
  refine VE.seqN ?_
  refine VC.seq ?_
  refine VC.seq ?_
  refine VC.reg (VO.l (LO.mv (.r rfl)) rfl<|VO.l (LO.mv (.r rfl)) rfl<|VO.l (LO.mul (.r rfl) (.r rfl) (wi (by omega) (by omega))) rfl<|VO.l (LO.mv (.r rfl)) rfl<|VO.l (LO.gt (.r rfl) (.r rfl)) rfl<|VO.nil ?_)
  refine VE.seqN ?_
  refine VC.cond rfl (fun h1 => ?_) (fun h1 => ?_)
  ·
    refine VC.reg (VO.l (LO.mv (.r rfl)) rfl<|VO.l (LO.sub (.r rfl) (.r rfl) (wi (by omega) (by omega))) rfl<|VO.l (LO.as (.r rfl)) rfl<|VO.nil ?_)
    refine VE.seqN ?_
    refine VC.seq ?_
    refine VC.reg (VO.l (LO.mv (.r rfl)) rfl<|VO.l (LO.as (.r rfl)) rfl<|VO.nil ?_)
    refine VE.seqN ?_
    refine VC.ret (VE.res (vs := [_]) rfl ⟨rfl, trivial⟩ (fun w hw => ?_))
    exact ⟨by simp only [resV]; congr 2; omega, hw.nil⟩
  ·
    refine VC.skip (VE.seqN ?_)
    refine VC.seq ?_
    refine VC.reg (VO.l (LO.mv (.r rfl)) rfl<|VO.l (LO.as (.r rfl)) rfl<|VO.nil ?_)
    refine VE.seqN ?_
    refine VC.ret (VE.res (vs := [_]) rfl ⟨rfl, trivial⟩ (fun w hw => ?_))
    exact ⟨by simp only [resV]; congr 2; omega, hw.nil⟩

set_option maxRecDepth 20000 in
theorem up_c (a b : Int) (h1 : -9223372036854775807 ≤ a) (h2 : a ≤ 9223372036854775807) (hb : 0 < b) (w : World) :
  Calls Tryz.prog 180 #[.int .i64 a, .int .i64 b] w fun e w' => e = .returned (.int .i64 (up a b)) ∧ St (bs w) [] w' := by
  have ⟨q1, q2, q3, q4, q5⟩ := down_bd (-a) b hb (by omega) (by omega)
  refine enter (vs := [_,_]) (env := [(0,_), (1,_)]) Tryz.func180 rfl rfl rfl rfl ?_
  refine VC.seq ?_
  refine VC.reg (VO.l (LO.as (.r rfl)) rfl<|VO.nil ?_)
  refine VE.seqN ?_
  refine VC.seq ?_
  refine VC.reg (VO.l (LO.mv (.r rfl)) rfl<|VO.l (LO.neg (.r rfl) (wi (by omega) (by omega))) rfl<|VO.l (LO.mv (.r rfl)) rfl<|VO.l (LO.call (xs := [_,_]) (vs := [_,_]) C179 ⟨(.r rfl), (.r rfl), trivial⟩ (fun w _ => down_c _ _ (by omega) (by omega) (by omega) w)) rfl<|VO.l (LO.neg (.r rfl) (wi (by omega) (by omega))) rfl<|VO.l (LO.as (.r rfl)) rfl<|VO.nil ?_)
  refine VE.seqN ?_
  refine VC.ret (VE.res (vs := [_]) rfl ⟨rfl, trivial⟩ (fun w hw => ?_))
  exact ⟨rfl, hw.nil⟩

end Go.Proofs.YtffbohecdocajaaGreat

namespace Go.Proofs.YtffbohecdocajaaGreat
open Go.SL Go.Proofs Go.Pulse
set_option linter.unusedVariables false

theorem F23_1 : FieldAt Tryz.prog 23 1 1 := ⟨_,_, Tryz.underlying23, rfl, rfl, 0, by kernel_rfl⟩
theorem F23_3 : FieldAt Tryz.prog 23 3 3 := ⟨_,_, Tryz.underlying23, rfl, rfl, 0, by kernel_rfl⟩
theorem mixed : Tryz.prog.follows .mixedOrders = true := by kernel_rfl
theorem F23_0 : FieldAt Tryz.prog 23 0 0 := ⟨_,_, Tryz.underlying23, rfl, rfl, 0, by kernel_rfl⟩
theorem C54 : IsFn Tryz.prog 54 := ⟨_, Tryz.func54, by decide, rfl⟩
theorem F23_2 : FieldAt Tryz.prog 23 2 2 := ⟨_,_, Tryz.underlying23, rfl, rfl, 0, by kernel_rfl⟩
theorem F23_4 : FieldAt Tryz.prog 23 4 4 := ⟨_,_, Tryz.underlying23, rfl, rfl, 0, by kernel_rfl⟩
theorem F27_0 : FieldAt Tryz.prog 27 0 0 := ⟨_,_, Tryz.underlying27, rfl, rfl, 0, by kernel_rfl⟩
theorem F27_1 : FieldAt Tryz.prog 27 1 1 := ⟨_,_, Tryz.underlying27, rfl, rfl, 0, by kernel_rfl⟩
theorem F27_2 : FieldAt Tryz.prog 27 2 2 := ⟨_,_, Tryz.underlying27, rfl, rfl, 1, by kernel_rfl⟩
theorem A25 : IsAgg Tryz.prog 25 2 := ⟨⟨_, Tryz.underlying25, rfl⟩, by kernel_rfl⟩
theorem C111 : IsFn Tryz.prog 111 := ⟨_, Tryz.func111, by decide, rfl⟩
theorem S45 : IsSlice Tryz.prog 45 25 := Tryz.underlying45
theorem N25 : (Tryz.prog.info? 25).map (·.size) = some 2 := by kernel_rfl
theorem Z25 : ZeroOf Tryz.prog 25 (.agg #[.int .i64 0, .int .i64 0]) := by unfold ZeroOf; kernel_rfl


theorem all_step {α : Type} {P : α → Prop} {l : List α} {d : α} {j : Nat} (hz : ∀ k, k < j → P (l.getD k d)) (h : P (l.getD j d)) : ∀ k, k < j + 1 → P (l.getD k d) := by
  intro k hk
  rcases Nat.lt_or_ge k j with q | q
  · exact hz k q
  · have : k = j := by omega
    subst this; exact h
theorem getD_mem {α : Type} {l : List α} {d : α} {j : Nat} (hj : j < l.length) : l.getD j d ∈ l := by
  rw [List.getD_eq_getElem?_getD, List.getElem?_eq_getElem hj]; exact List.getElem_mem hj
theorem mem_getD {α : Type} {l : List α} {d x : α} (h : x ∈ l) : ∃ j, j < l.length ∧ l.getD j d = x := by
  obtain ⟨j, hj, e⟩ := List.mem_iff_getElem.1 h
  exact ⟨j, hj, by rw [List.getD_eq_getElem?_getD, List.getElem?_eq_getElem hj]; exact e⟩
theorem all_no {α : Type} {P : α → Prop} [DecidablePred P] {l : List α} {d : α} {j : Nat} (hj : j < l.length) (h : ¬ P (l.getD j d)) : false = decide (∀ s ∈ l, P s) := by
  symm; rw [decide_eq_false_iff_not]; exact fun q => h (q _ (getD_mem hj))
theorem all_yes {α : Type} {P : α → Prop} [DecidablePred P] {l : List α} {d : α} {j : Nat} (hz : ∀ k, k < j → P (l.getD k d)) (hj : l.length ≤ j) : true = decide (∀ s ∈ l, P s) := by
  symm; rw [decide_eq_true_iff]; intro s hs
  obtain ⟨k, hk, rfl⟩ := mem_getD (d := d) hs
  exact hz k (by omega)
def echoF (x : Echo) : Prop := (0 ≤ x.power.lo ∧ x.power.lo ≤ x.power.hi ∧ x.power.hi ≤ 1073741824) ∧
  ((x.kind = 1 ∧ x.power.lo = 0 ∧ x.s0.lo = 0 ∧ x.s0.hi = 0 ∧ x.s1.lo = 0 ∧ x.s1.hi = 0 ∧ x.spread = 0 ∧ x.ratio.lo = 0 ∧ x.ratio.hi = 0 ∧ x.mtch.lo = 0 ∧ x.mtch.hi = 0 ∧ x.turn.lo = 0 ∧ x.turn.hi = 0) ∨
   ((x.kind = 2 ∨ x.kind = 3) ∧ 0 < x.power.lo ∧ (0 ≤ x.ratio.lo ∧ x.ratio.lo ≤ x.ratio.hi ∧ x.ratio.hi ≤ 1000000) ∧ (0 ≤ x.mtch.lo ∧ x.mtch.lo ≤ x.mtch.hi ∧ x.mtch.hi ≤ 1000) ∧ (0 ≤ x.spread ∧ x.spread ≤ 65535) ∧
     ((x.kind = 2 ∧ x.s0.lo = 0 ∧ x.s0.hi = 0 ∧ x.s1.lo = 0 ∧ x.s1.hi = 0 ∧ x.turn.lo = 0 ∧ x.turn.hi = 0) ∨
      (x.kind = 3 ∧ ((-32768 ≤ x.s0.lo ∧ x.s0.lo ≤ 32767) ∧ x.s0.lo ≤ x.s0.hi ∧ x.s0.hi ≤ x.s0.lo + 65535) ∧ ((-32768 ≤ x.s1.lo ∧ x.s1.lo ≤ 32767) ∧ x.s1.lo ≤ x.s1.hi ∧ x.s1.hi ≤ x.s1.lo + 65535) ∧ ((-32768 ≤ x.turn.lo ∧ x.turn.lo ≤ 32767) ∧ x.turn.lo ≤ x.turn.hi ∧ x.turn.hi ≤ x.turn.lo + 65535)))))
instance (x : Echo) : Decidable (echoF x) := by unfold echoF; exact inferInstance
theorem echoOk_iff (x : Echo) : echoOk x ↔ echoF x := by
  obtain ⟨a, ⟨b, c⟩, ⟨d, e⟩, ⟨f, g⟩, i, ⟨j, k⟩, ⟨l, m⟩, ⟨n, o⟩⟩ := x
  simp only [echoOk, echoF, inS, turnS, zE, zs, Echo.mk.injEq, Span.mk.injEq, true_and, and_true, and_assoc, and_self_left]
theorem echoE_flat (x : Echo) : echoE x = if kndOk x.kind then (if echoF x then 0 else 3) else 2 := by
  unfold echoE
  by_cases h : echoF x
  · rw [if_pos h, if_pos ((echoOk_iff x).2 h)]
  · rw [if_neg h, if_neg (fun q => h ((echoOk_iff x).1 q))]

set_option maxRecDepth 20000 in
theorem trainP_c (t : Train) (w : World) :
  Calls Tryz.prog 45 #[trainV t] w fun e w' => e = .returned (.int .i64 (trainE t)) ∧ St (bs w) [] w' := by
  refine enter (vs := [_]) (env := [(0,_)]) Tryz.func45 rfl rfl rfl rfl ?_
  refine VC.seq ?_
  refine VC.reg (VO.h rfl<|HO.box (C := #[_,_,_,_,_]) rfl rfl fun b1 => VO.l (LO.as (.r rfl)) rfl<|VO.nil ?_)
  refine VE.seqN ?_
  refine VC.seq ?_
  refine VC.reg (VO.l (LO.as (.r rfl)) rfl<|VO.l (LO.as (.r rfl)) rfl<|VO.nil ?_)
  refine VE.seqN ?_
  refine VC.seq ?_
  refine VC.seq ?_
  refine VC.reg (VO.l (LO.fa (r := 1) F23_1 (.r rfl) rfl) rfl<|VO.l (LO.ld O3 (.r rfl) (fun _ hw => cells_at hw 0 rfl ⟨_, rfl⟩)) rfl<|VO.nil ?_)
  refine VE.seqN ?_
  refine VC.block ?_
  refine VC.seq ?_
  refine VC.reg (VO.l (LO.eq (.r rfl) (.r rfl)) rfl<|VO.l (LO.as (.r rfl)) rfl<|VO.nil ?_)
  refine VE.seqN ?_
  refine VC.cond rfl (fun h1 => ?_) (fun h1 => ?_)
  ·
    refine VC.draw mixed (LL.l (LO.fa (r := 3) F23_3 (.r rfl) rfl) rfl<|LL.l (LO.ld O3 (.r rfl) (fun _ hw => cells_at hw 0 rfl ⟨_, rfl⟩)) rfl<|LL.l (LO.eq (.r rfl) (.r rfl)) rfl<|LL.l (LO.as (.r rfl)) rfl<|LL.l (LO.as (.r rfl)) rfl<|LL.nil) (by kernel_rfl) ?_
    refine VE.inN (VE.seqN ?_)
    refine VC.seq ?_
    refine VC.seq ?_
    refine VC.reg (VO.l (LO.fa (r := 1) F23_1 (.r rfl) rfl) rfl<|VO.l (LO.ld O3 (.r rfl) (fun _ hw => cells_at hw 0 rfl ⟨_, rfl⟩)) rfl<|VO.l (LO.ne (.r rfl) (.r rfl)) rfl<|VO.nil ?_)
    refine VE.seqN ?_
    refine VC.cond rfl (fun h2 => ?_) (fun h2 => ?_)
    ·
      (exfalso; omega)
    ·
      refine VC.skip (VE.seqN ?_)
      refine VC.seq ?_
      refine VC.seq ?_
      refine VC.reg (VO.l (LO.mv (.r rfl)) rfl<|VO.l (LO.not (.r rfl)) rfl<|VO.l (LO.mv (.r rfl)) rfl<|VO.lg rfl rfl (GD.f _) (fun hg => LO.fa (r := 0) F23_0 (.r rfl) rfl) rfl<|VO.lg rfl rfl (GD.f _) (fun hg => LO.ld O3 (.g hg rfl) (fun _ hw => cells_at hw 0 rfl ⟨_, rfl⟩)) rfl<|VO.lg rfl rfl (GD.f _) (fun hg => LO.call (xs := [_,_,_]) (vs := [_,_,_]) C54 ⟨(.g hg rfl), (.r rfl), (.r rfl), trivial⟩ (fun w _ => within_c _ _ _ w)) rfl<|VO.lg rfl rfl (GD.f _) (fun hg => LO.not (.g hg rfl)) rfl<|VO.l (LO.pkO (.r rfl) (.r rfl) rfl rfl) rfl<|VO.l (LO.mv (.r rfl)) rfl<|VO.lg rfl rfl (GD.f _) (fun hg => LO.fa (r := 2) F23_2 (.r rfl) rfl) rfl<|VO.lg rfl rfl (GD.f _) (fun hg => LO.ld O3 (.g hg rfl) (fun _ hw => cells_at hw 0 rfl ⟨_, rfl⟩)) rfl<|VO.lg rfl rfl (GD.f _) (fun hg => LO.call (xs := [_,_,_]) (vs := [_,_,_]) C54 ⟨(.g hg rfl), (.r rfl), (.r rfl), trivial⟩ (fun w _ => within_c _ _ _ w)) rfl<|VO.lg rfl rfl (GD.f _) (fun hg => LO.not (.g hg rfl)) rfl<|VO.l (LO.pkO (.r rfl) (.r rfl) rfl rfl) rfl<|VO.l (LO.mv (.r rfl)) rfl<|VO.lg rfl rfl (GD.f _) (fun hg => LO.fa (r := 4) F23_4 (.r rfl) rfl) rfl<|VO.lg rfl rfl (GD.f _) (fun hg => LO.ld O3 (.g hg rfl) (fun _ hw => cells_at hw 0 rfl ⟨_, rfl⟩)) rfl<|VO.lg rfl rfl (GD.f _) (fun hg => LO.mv (.r rfl)) rfl<|VO.lg rfl rfl (GD.f _) (fun hg => LO.call (xs := [_,_,_]) (vs := [_,_,_]) C54 ⟨(.g hg rfl), (.g hg rfl), (.r rfl), trivial⟩ (fun w _ => within_c _ _ _ w)) rfl<|VO.lg rfl rfl (GD.f _) (fun hg => LO.not (.g hg rfl)) rfl<|VO.l (LO.pkO (.r rfl) (.r rfl) rfl rfl) rfl<|VO.nil ?_)
      refine VE.seqN ?_
      refine VC.cond rfl (fun h3 => ?_) (fun h3 => ?_)
      ·
        refine VC.seq ?_
        refine VC.reg (VO.l (LO.as (.r rfl)) rfl<|VO.nil ?_)
        refine VE.seqN ?_
        refine VC.ret (VE.thenR (VE.res (vs := [_]) rfl ⟨rfl, trivial⟩ (fun w hw => ?_)))
        refine ⟨?_, hw.nil⟩
        simp only [resV]
        congr 2
        try simp only [eq_self, true_and] at *
        have q2 := tmod2 t.count
        rw [trainE]
        first | (rw [if_neg (by unfold kndOk; omega)]; done) | (rw [if_pos (by unfold kndOk; omega), if_pos (by unfold trainOk; omega)]; done) | (rw [if_pos (by unfold kndOk; omega), if_neg (by unfold trainOk; omega)]; done) | (exfalso; omega)
      ·
        refine VC.skip (VE.seqN ?_)
        refine VC.seq ?_
        refine VC.reg (VO.l (LO.as (.r rfl)) rfl<|VO.nil ?_)
        refine VE.seqN ?_
        refine VC.ret (VE.res (vs := [_]) rfl ⟨rfl, trivial⟩ (fun w hw => ?_))
        refine ⟨?_, hw.nil⟩
        simp only [resV]
        congr 2
        try simp only [eq_self, true_and] at *
        have q2 := tmod2 t.count
        rw [trainE]
        first | (rw [if_neg (by unfold kndOk; omega)]; done) | (rw [if_pos (by unfold kndOk; omega), if_pos (by unfold trainOk; omega)]; done) | (rw [if_pos (by unfold kndOk; omega), if_neg (by unfold trainOk; omega)]; done) | (exfalso; omega)
  ·
    refine VC.seq ?_
    refine VC.reg (VO.l (LO.eq (.r rfl) (.r rfl)) rfl<|VO.l (LO.as (.r rfl)) rfl<|VO.nil ?_)
    refine VE.seqN ?_
    refine VC.cond rfl (fun h4 => ?_) (fun h4 => ?_)
    ·
      refine VC.draw mixed (LL.l (LO.fa (r := 4) F23_4 (.r rfl) rfl) rfl<|LL.l (LO.ld O3 (.r rfl) (fun _ hw => cells_at hw 0 rfl ⟨_, rfl⟩)) rfl<|LL.l (LO.rem (.r rfl) (.r rfl) (by omega)) rfl<|LL.l (LO.eq (.r rfl) (.r rfl)) rfl<|LL.l (LO.as (.r rfl)) rfl<|LL.l (LO.as (.r rfl)) rfl<|LL.nil) (by kernel_rfl) ?_
      refine VE.inN (VE.seqN ?_)
      refine VC.seq ?_
      refine VC.seq ?_
      refine VC.reg (VO.l (LO.fa (r := 1) F23_1 (.r rfl) rfl) rfl<|VO.l (LO.ld O3 (.r rfl) (fun _ hw => cells_at hw 0 rfl ⟨_, rfl⟩)) rfl<|VO.l (LO.ne (.r rfl) (.r rfl)) rfl<|VO.nil ?_)
      refine VE.seqN ?_
      refine VC.cond rfl (fun h5 => ?_) (fun h5 => ?_)
      ·
        refine VC.reg (VO.l (LO.mv (.r rfl)) rfl<|VO.l (LO.mv (.r rfl)) rfl<|VO.lg rfl rfl (GD.t _) (fun hg => LO.fa (r := 3) F23_3 (.r rfl) rfl) rfl<|VO.lg rfl rfl (GD.t _) (fun hg => LO.ld O3 (.g hg rfl) (fun _ hw => cells_at hw 0 rfl ⟨_, rfl⟩)) rfl<|VO.lg rfl rfl (GD.t _) (fun hg => LO.call (xs := [_,_,_]) (vs := [_,_,_]) C54 ⟨(.g hg rfl), (.r rfl), (.r rfl), trivial⟩ (fun w _ => within_c _ _ _ w)) rfl<|VO.l (LO.pkA (.r rfl) rfl rfl (.r rfl)) rfl<|VO.l (LO.mv (.r rfl)) rfl<|VO.lg rfl rfl (GD.t _) (fun hg => LO.fa (r := 2) F23_2 (.r rfl) rfl) rfl<|VO.lg rfl rfl (GD.t _) (fun hg => LO.ld O3 (.g hg rfl) (fun _ hw => cells_at hw 0 rfl ⟨_, rfl⟩)) rfl<|VO.lg rfl rfl (GD.t _) (fun hg => LO.fa (r := 3) F23_3 (.r rfl) rfl) rfl<|VO.lg rfl rfl (GD.t _) (fun hg => LO.ld O3 (.g hg rfl) (fun _ hw => cells_at hw 0 rfl ⟨_, rfl⟩)) rfl<|VO.lg rfl rfl (GD.t _) (fun hg => LO.lt (.g hg rfl) (.g hg rfl)) rfl<|VO.l (LO.pkA (.r rfl) rfl rfl (.r rfl)) rfl<|VO.l (LO.as (.r rfl)) rfl<|VO.nil ?_)
        refine VE.seqN ?_
        refine VC.seq ?_
        refine VC.seq ?_
        refine VC.reg (VO.l (LO.mv (.r rfl)) rfl<|VO.l (LO.not (.r rfl)) rfl<|VO.l (LO.mv (.r rfl)) rfl<|VO.lg rfl rfl (GD.f _) (fun hg => LO.fa (r := 0) F23_0 (.r rfl) rfl) rfl<|VO.lg rfl rfl (GD.f _) (fun hg => LO.ld O3 (.g hg rfl) (fun _ hw => cells_at hw 0 rfl ⟨_, rfl⟩)) rfl<|VO.lg rfl rfl (GD.f _) (fun hg => LO.call (xs := [_,_,_]) (vs := [_,_,_]) C54 ⟨(.g hg rfl), (.r rfl), (.r rfl), trivial⟩ (fun w _ => within_c _ _ _ w)) rfl<|VO.lg rfl rfl (GD.f _) (fun hg => LO.not (.g hg rfl)) rfl<|VO.l (LO.pkO (.r rfl) (.r rfl) rfl rfl) rfl<|VO.l (LO.mv (.r rfl)) rfl<|VO.lg rfl rfl (GD.f _) (fun hg => LO.fa (r := 2) F23_2 (.r rfl) rfl) rfl<|VO.lg rfl rfl (GD.f _) (fun hg => LO.ld O3 (.g hg rfl) (fun _ hw => cells_at hw 0 rfl ⟨_, rfl⟩)) rfl<|VO.lg rfl rfl (GD.f _) (fun hg => LO.call (xs := [_,_,_]) (vs := [_,_,_]) C54 ⟨(.g hg rfl), (.r rfl), (.r rfl), trivial⟩ (fun w _ => within_c _ _ _ w)) rfl<|VO.lg rfl rfl (GD.f _) (fun hg => LO.not (.g hg rfl)) rfl<|VO.l (LO.pkO (.r rfl) (.r rfl) rfl rfl) rfl<|VO.l (LO.mv (.r rfl)) rfl<|VO.lg rfl rfl (GD.f _) (fun hg => LO.fa (r := 4) F23_4 (.r rfl) rfl) rfl<|VO.lg rfl rfl (GD.f _) (fun hg => LO.ld O3 (.g hg rfl) (fun _ hw => cells_at hw 0 rfl ⟨_, rfl⟩)) rfl<|VO.lg rfl rfl (GD.f _) (fun hg => LO.mv (.r rfl)) rfl<|VO.lg rfl rfl (GD.f _) (fun hg => LO.call (xs := [_,_,_]) (vs := [_,_,_]) C54 ⟨(.g hg rfl), (.g hg rfl), (.r rfl), trivial⟩ (fun w _ => within_c _ _ _ w)) rfl<|VO.lg rfl rfl (GD.f _) (fun hg => LO.not (.g hg rfl)) rfl<|VO.l (LO.pkO (.r rfl) (.r rfl) rfl rfl) rfl<|VO.nil ?_)
        refine VE.seqN ?_
        refine VC.cond rfl (fun h6 => ?_) (fun h6 => ?_)
        ·
          refine VC.seq ?_
          refine VC.reg (VO.l (LO.as (.r rfl)) rfl<|VO.nil ?_)
          refine VE.seqN ?_
          refine VC.ret (VE.thenR (VE.res (vs := [_]) rfl ⟨rfl, trivial⟩ (fun w hw => ?_)))
          refine ⟨?_, hw.nil⟩
          simp only [resV]
          congr 2
          try simp only [eq_self, true_and] at *
          have q2 := tmod2 t.count
          rw [trainE]
          first | (rw [if_neg (by unfold kndOk; omega)]; done) | (rw [if_pos (by unfold kndOk; omega), if_pos (by unfold trainOk; omega)]; done) | (rw [if_pos (by unfold kndOk; omega), if_neg (by unfold trainOk; omega)]; done) | (exfalso; omega)
        ·
          refine VC.skip (VE.seqN ?_)
          refine VC.seq ?_
          refine VC.reg (VO.l (LO.as (.r rfl)) rfl<|VO.nil ?_)
          refine VE.seqN ?_
          refine VC.ret (VE.res (vs := [_]) rfl ⟨rfl, trivial⟩ (fun w hw => ?_))
          refine ⟨?_, hw.nil⟩
          simp only [resV]
          congr 2
          try simp only [eq_self, true_and] at *
          have q2 := tmod2 t.count
          rw [trainE]
          first | (rw [if_neg (by unfold kndOk; omega)]; done) | (rw [if_pos (by unfold kndOk; omega), if_pos (by unfold trainOk; omega)]; done) | (rw [if_pos (by unfold kndOk; omega), if_neg (by unfold trainOk; omega)]; done) | (exfalso; omega)
      ·
        (exfalso; omega)
    ·
      refine VC.seq ?_
      refine VC.reg (VO.l (LO.eq (.r rfl) (.r rfl)) rfl<|VO.l (LO.as (.r rfl)) rfl<|VO.nil ?_)
      refine VE.seqN ?_
      refine VC.cond rfl (fun h7 => ?_) (fun h7 => ?_)
      ·
        refine VC.reg (VO.l (LO.as (.r rfl)) rfl<|VO.nil ?_)
        refine VE.inN (VE.seqN ?_)
        refine VC.seq ?_
        refine VC.seq ?_
        refine VC.reg (VO.l (LO.fa (r := 1) F23_1 (.r rfl) rfl) rfl<|VO.l (LO.ld O3 (.r rfl) (fun _ hw => cells_at hw 0 rfl ⟨_, rfl⟩)) rfl<|VO.l (LO.ne (.r rfl) (.r rfl)) rfl<|VO.nil ?_)
        refine VE.seqN ?_
        refine VC.cond rfl (fun h8 => ?_) (fun h8 => ?_)
        ·
          refine VC.reg (VO.l (LO.mv (.r rfl)) rfl<|VO.l (LO.mv (.r rfl)) rfl<|VO.lg rfl rfl (GD.t _) (fun hg => LO.fa (r := 3) F23_3 (.r rfl) rfl) rfl<|VO.lg rfl rfl (GD.t _) (fun hg => LO.ld O3 (.g hg rfl) (fun _ hw => cells_at hw 0 rfl ⟨_, rfl⟩)) rfl<|VO.lg rfl rfl (GD.t _) (fun hg => LO.call (xs := [_,_,_]) (vs := [_,_,_]) C54 ⟨(.g hg rfl), (.r rfl), (.r rfl), trivial⟩ (fun w _ => within_c _ _ _ w)) rfl<|VO.l (LO.pkA (.r rfl) rfl rfl (.r rfl)) rfl<|VO.l (LO.mv (.r rfl)) rfl<|VO.lg rfl rfl (GD.t _) (fun hg => LO.fa (r := 2) F23_2 (.r rfl) rfl) rfl<|VO.lg rfl rfl (GD.t _) (fun hg => LO.ld O3 (.g hg rfl) (fun _ hw => cells_at hw 0 rfl ⟨_, rfl⟩)) rfl<|VO.lg rfl rfl (GD.t _) (fun hg => LO.fa (r := 3) F23_3 (.r rfl) rfl) rfl<|VO.lg rfl rfl (GD.t _) (fun hg => LO.ld O3 (.g hg rfl) (fun _ hw => cells_at hw 0 rfl ⟨_, rfl⟩)) rfl<|VO.lg rfl rfl (GD.t _) (fun hg => LO.lt (.g hg rfl) (.g hg rfl)) rfl<|VO.l (LO.pkA (.r rfl) rfl rfl (.r rfl)) rfl<|VO.l (LO.as (.r rfl)) rfl<|VO.nil ?_)
          refine VE.seqN ?_
          refine VC.seq ?_
          refine VC.seq ?_
          refine VC.reg (VO.l (LO.mv (.r rfl)) rfl<|VO.l (LO.not (.r rfl)) rfl<|VO.l (LO.mv (.r rfl)) rfl<|VO.lg rfl rfl (GD.f _) (fun hg => LO.fa (r := 0) F23_0 (.r rfl) rfl) rfl<|VO.lg rfl rfl (GD.f _) (fun hg => LO.ld O3 (.g hg rfl) (fun _ hw => cells_at hw 0 rfl ⟨_, rfl⟩)) rfl<|VO.lg rfl rfl (GD.f _) (fun hg => LO.call (xs := [_,_,_]) (vs := [_,_,_]) C54 ⟨(.g hg rfl), (.r rfl), (.r rfl), trivial⟩ (fun w _ => within_c _ _ _ w)) rfl<|VO.lg rfl rfl (GD.f _) (fun hg => LO.not (.g hg rfl)) rfl<|VO.l (LO.pkO (.r rfl) (.r rfl) rfl rfl) rfl<|VO.l (LO.mv (.r rfl)) rfl<|VO.lg rfl rfl (GD.f _) (fun hg => LO.fa (r := 2) F23_2 (.r rfl) rfl) rfl<|VO.lg rfl rfl (GD.f _) (fun hg => LO.ld O3 (.g hg rfl) (fun _ hw => cells_at hw 0 rfl ⟨_, rfl⟩)) rfl<|VO.lg rfl rfl (GD.f _) (fun hg => LO.call (xs := [_,_,_]) (vs := [_,_,_]) C54 ⟨(.g hg rfl), (.r rfl), (.r rfl), trivial⟩ (fun w _ => within_c _ _ _ w)) rfl<|VO.lg rfl rfl (GD.f _) (fun hg => LO.not (.g hg rfl)) rfl<|VO.l (LO.pkO (.r rfl) (.r rfl) rfl rfl) rfl<|VO.l (LO.mv (.r rfl)) rfl<|VO.lg rfl rfl (GD.f _) (fun hg => LO.fa (r := 4) F23_4 (.r rfl) rfl) rfl<|VO.lg rfl rfl (GD.f _) (fun hg => LO.ld O3 (.g hg rfl) (fun _ hw => cells_at hw 0 rfl ⟨_, rfl⟩)) rfl<|VO.lg rfl rfl (GD.f _) (fun hg => LO.mv (.r rfl)) rfl<|VO.lg rfl rfl (GD.f _) (fun hg => LO.call (xs := [_,_,_]) (vs := [_,_,_]) C54 ⟨(.g hg rfl), (.g hg rfl), (.r rfl), trivial⟩ (fun w _ => within_c _ _ _ w)) rfl<|VO.lg rfl rfl (GD.f _) (fun hg => LO.not (.g hg rfl)) rfl<|VO.l (LO.pkO (.r rfl) (.r rfl) rfl rfl) rfl<|VO.nil ?_)
          refine VE.seqN ?_
          refine VC.cond rfl (fun h9 => ?_) (fun h9 => ?_)
          ·
            refine VC.seq ?_
            refine VC.reg (VO.l (LO.as (.r rfl)) rfl<|VO.nil ?_)
            refine VE.seqN ?_
            refine VC.ret (VE.thenR (VE.res (vs := [_]) rfl ⟨rfl, trivial⟩ (fun w hw => ?_)))
            refine ⟨?_, hw.nil⟩
            simp only [resV]
            congr 2
            try simp only [eq_self, true_and] at *
            have q2 := tmod2 t.count
            rw [trainE]
            first | (rw [if_neg (by unfold kndOk; omega)]; done) | (rw [if_pos (by unfold kndOk; omega), if_pos (by unfold trainOk; omega)]; done) | (rw [if_pos (by unfold kndOk; omega), if_neg (by unfold trainOk; omega)]; done) | (exfalso; omega)
          ·
            refine VC.skip (VE.seqN ?_)
            refine VC.seq ?_
            refine VC.reg (VO.l (LO.as (.r rfl)) rfl<|VO.nil ?_)
            refine VE.seqN ?_
            refine VC.ret (VE.res (vs := [_]) rfl ⟨rfl, trivial⟩ (fun w hw => ?_))
            refine ⟨?_, hw.nil⟩
            simp only [resV]
            congr 2
            try simp only [eq_self, true_and] at *
            have q2 := tmod2 t.count
            rw [trainE]
            first | (rw [if_neg (by unfold kndOk; omega)]; done) | (rw [if_pos (by unfold kndOk; omega), if_pos (by unfold trainOk; omega)]; done) | (rw [if_pos (by unfold kndOk; omega), if_neg (by unfold trainOk; omega)]; done) | (exfalso; omega)
        ·
          (exfalso; omega)
      ·
        refine VC.seq ?_
        refine VC.reg (VO.l (LO.as (.r rfl)) rfl<|VO.nil ?_)
        refine VE.seqN ?_
        refine VC.ret (VE.inR (VE.thenR (VE.res (vs := [_]) rfl ⟨rfl, trivial⟩ (fun w hw => ?_))))
        refine ⟨?_, hw.nil⟩
        simp only [resV]
        congr 2
        try simp only [eq_self, true_and] at *
        have q2 := tmod2 t.count
        rw [trainE]
        first | (rw [if_neg (by unfold kndOk; omega)]; done) | (rw [if_pos (by unfold kndOk; omega), if_pos (by unfold trainOk; omega)]; done) | (rw [if_pos (by unfold kndOk; omega), if_neg (by unfold trainOk; omega)]; done) | (exfalso; omega)

set_option maxRecDepth 20000 in
theorem recvP_c (r : Recv) (w : World) :
  Calls Tryz.prog 46 #[recvV r] w fun e w' => e = .returned (.int .i64 (recvE r)) ∧ St (bs w) [] w' := by
  refine enter (vs := [_]) (env := [(0,_)]) Tryz.func46 rfl rfl rfl rfl ?_
  refine VC.seq ?_
  refine VC.reg (VO.h rfl<|HO.box (C := #[_,_,_,_]) rfl rfl fun b1 => VO.l (LO.as (.r rfl)) rfl<|VO.nil ?_)
  refine VE.seqN ?_
  refine VC.seq ?_
  refine VC.seq ?_
  refine VC.reg (VO.l (LO.fa (r := 0) F27_0 (.r rfl) rfl) rfl<|VO.l (LO.ld O3 (.r rfl) (fun _ hw => cells_at hw 0 rfl ⟨_, rfl⟩)) rfl<|VO.l (LO.call (xs := [_,_,_]) (vs := [_,_,_]) C54 ⟨(.r rfl), (.r rfl), (.r rfl), trivial⟩ (fun w _ => within_c _ _ _ w)) rfl<|VO.l (LO.not (.r rfl)) rfl<|VO.l (LO.mv (.r rfl)) rfl<|VO.lg rfl rfl (GD.f _) (fun hg => LO.fa (r := 1) F27_1 (.r rfl) rfl) rfl<|VO.lg rfl rfl (GD.f _) (fun hg => LO.ld O3 (.g hg rfl) (fun _ hw => cells_at hw 0 rfl ⟨_, rfl⟩)) rfl<|VO.lg rfl rfl (GD.f _) (fun hg => LO.call (xs := [_,_,_]) (vs := [_,_,_]) C54 ⟨(.g hg rfl), (.r rfl), (.r rfl), trivial⟩ (fun w _ => within_c _ _ _ w)) rfl<|VO.lg rfl rfl (GD.f _) (fun hg => LO.not (.g hg rfl)) rfl<|VO.l (LO.pkO (.r rfl) (.r rfl) rfl rfl) rfl<|VO.l (LO.mv (.r rfl)) rfl<|VO.lg rfl rfl (GD.f _) (fun hg => LO.fa (r := 2) F27_2 (.r rfl) rfl) rfl<|VO.lg rfl rfl (GD.f _) (fun hg => LO.lda (vs := [_,_]) A25 (.g hg rfl) (fun _ hw => cells_at hw 0 rfl ⟨_, rfl⟩) rfl) rfl<|VO.lg rfl rfl (GD.f _) (fun hg => LO.call (xs := [_,_,_]) (vs := [_,_,_]) C111 ⟨(.g hg rfl), (.r rfl), (.r rfl), trivial⟩ (fun w _ => inside_c _ _ _ _ w)) rfl<|VO.lg rfl rfl (GD.f _) (fun hg => LO.not (.g hg rfl)) rfl<|VO.l (LO.pkO (.r rfl) (.r rfl) rfl rfl) rfl<|VO.nil ?_)
  refine VE.seqN ?_
  refine VC.cond rfl (fun h1 => ?_) (fun h1 => ?_)
  ·
    refine VC.seq ?_
    refine VC.reg (VO.l (LO.as (.r rfl)) rfl<|VO.nil ?_)
    refine VE.seqN ?_
    refine VC.ret (VE.thenR (VE.res (vs := [_]) rfl ⟨rfl, trivial⟩ (fun w hw => ?_)))
    refine ⟨?_, hw.nil⟩
    simp only [resV]
    congr 2
    rw [recvE]
    first | (rw [if_pos (by unfold recvOk; omega)]; done) | (rw [if_neg (by unfold recvOk; omega)]; done) | (exfalso; omega)
  ·
    refine VC.skip (VE.seqN ?_)
    refine VC.seq ?_
    refine VC.reg (VO.l (LO.as (.r rfl)) rfl<|VO.nil ?_)
    refine VE.seqN ?_
    refine VC.ret (VE.res (vs := [_]) rfl ⟨rfl, trivial⟩ (fun w hw => ?_))
    refine ⟨?_, hw.nil⟩
    simp only [resV]
    congr 2
    rw [recvE]
    first | (rw [if_pos (by unfold recvOk; omega)]; done) | (rw [if_neg (by unfold recvOk; omega)]; done) | (exfalso; omega)

set_option maxRecDepth 20000 in
theorem turning_c (l : List Span) (p : Option Addr) (c : Nat) (w : World) (hn : l.length < 1000000000000) (hl : Spans w p l) :
  Calls Tryz.prog 120 #[.slice p l.length c] w fun e w' => e = .returned (.bool (decide (∀ s ∈ l, turnS s))) ∧ St (bs w) [] w' := by
  refine enter (vs := [_]) (env := [(0,_)]) Tryz.func120 rfl rfl rfl rfl ?_
  refine VC.seq ?_
  refine VC.reg (VO.l (LO.as (.r rfl)) rfl<|VO.nil ?_)
  refine VE.seqN ?_
  refine VC.seq ?_
  refine VC.seq ?_
  refine VC.reg (VO.l (LO.mv (.r rfl)) rfl<|VO.l (LO.len S45 (.r rfl) rfl) rfl<|VO.l (LO.mv (.r rfl)) rfl<|VO.nil ?_)
  refine VE.seqN ?_
  refine VC.block ?_
  refine VC.loopK (α := Nat) 0 (fun gx => [(7, .int .i64 (gx : Nat))]) [(5,_), (6,_)] (fun gx => []) (fun gx => gx ≤ l.length ∧ ∀ k, k < gx → turnS (l.getD k zs)) (fun gx => l.length - gx) 0 (by exact ⟨by omega, fun k hk => by omega⟩) (.cons rfl (.cons rfl (.cons rfl .nil))) (fun _ h => h) ?_
  rintro j ⟨hj, hz⟩
  refine VC.seq ?_
  refine VC.reg (VO.l (LO.lt (.r rfl) (.r rfl)) rfl<|VO.nil ?_)
  refine VE.seqN ?_
  refine VC.seq ?_
  refine VC.cond rfl (fun h1 => ?_) (fun h1 => ?_)
  ·
    refine VC.skip (VE.seqN ?_)
    refine VC.seq ?_
    refine VC.block ?_
    refine VC.seq ?_
    refine VC.reg (VO.l (LO.ixs S45 N25 hl.sm (.r rfl) (.r rfl) rfl (by omega)) rfl<|VO.l (LO.lda (vs := [_,_]) A25 (.r rfl) (fun w hw => cells_part (off := 0) ((hl.at zs (j := j) (by omega)) w hw) ⟨_, rfl⟩) rfl) rfl<|VO.h rfl<|HO.alloc (C := #[_,_]) Z25 rfl fun b1 => VO.h0<|HO.st 0 (vs := [_,_]) (C' := [_,_]) (L' := [_]) N25 rfl rfl rfl rfl rfl rfl rfl rfl<|VO.nil ?_)
    refine VE.seqN ?_
    refine VC.seq ?_
    refine VC.reg (VO.l (LO.fa (r := 0) F25_0 (.r rfl) rfl) rfl<|VO.l (LO.ld O3 (.r rfl) (fun _ hw => cells_at hw 0 rfl ⟨_, rfl⟩)) rfl<|VO.l (LO.call (xs := [_,_,_]) (vs := [_,_,_]) C54 ⟨(.r rfl), (.r rfl), (.r rfl), trivial⟩ (fun w _ => within_c _ _ _ w)) rfl<|VO.l (LO.not (.r rfl)) rfl<|VO.l (LO.mv (.r rfl)) rfl<|VO.lg rfl rfl (GD.f _) (fun hg => LO.fa (r := 1) F25_1 (.r rfl) rfl) rfl<|VO.lg rfl rfl (GD.f _) (fun hg => LO.ld O3 (.g hg rfl) (fun _ hw => cells_at hw 0 rfl ⟨_, rfl⟩)) rfl<|VO.lg rfl rfl (GD.f _) (fun hg => LO.fa (r := 0) F25_0 (.r rfl) rfl) rfl<|VO.lg rfl rfl (GD.f _) (fun hg => LO.ld O3 (.g hg rfl) (fun _ hw => cells_at hw 0 rfl ⟨_, rfl⟩)) rfl<|VO.lg rfl rfl (GD.f _) (fun hg => LO.fa (r := 0) F25_0 (.r rfl) rfl) rfl<|VO.lg rfl rfl (GD.f _) (fun hg => LO.ld O3 (.g hg rfl) (fun _ hw => cells_at hw 0 rfl ⟨_, rfl⟩)) rfl<|VO.lg rfl rfl (GD.f _) (fun hg => LO.add (.g hg rfl) (.r rfl) (wi (by have q := IsP.yes inferInstance hg; omega) (by have q := IsP.yes inferInstance hg; omega))) rfl<|VO.lg rfl rfl (GD.f _) (fun hg => LO.sub (.g hg rfl) (.r rfl) (wi (by have q := IsP.yes inferInstance hg; omega) (by have q := IsP.yes inferInstance hg; omega))) rfl<|VO.lg rfl rfl (GD.f _) (fun hg => LO.call (xs := [_,_,_]) (vs := [_,_,_]) C54 ⟨(.g hg rfl), (.g hg rfl), (.g hg rfl), trivial⟩ (fun w _ => within_c _ _ _ w)) rfl<|VO.lg rfl rfl (GD.f _) (fun hg => LO.not (.g hg rfl)) rfl<|VO.l (LO.pkO (.r rfl) (.r rfl) rfl rfl) rfl<|VO.nil ?_)
    refine VE.seqN ?_
    refine VC.cond rfl (fun h2 => ?_) (fun h2 => ?_)
    ·
      refine VC.seq ?_
      refine VC.reg (VO.l (LO.as (.r rfl)) rfl<|VO.nil ?_)
      refine VE.seqN ?_
      refine VC.ret (VE.inR (VE.thenR (VE.thenR (VE.inR (VE.thenR (VE.res (vs := [_]) rfl ⟨rfl, trivial⟩ (fun w hw => ?_)))))))
      refine ⟨?_, hw.nil⟩
      simp only [resV]
      congr 2
      first | exact all_no (d := zs) (j := j) (by omega) (by unfold turnS; omega) | exact all_yes (d := zs) (j := j) hz (by omega)
    ·
      refine VC.skip (VE.inN (VE.seqN ?_))
      refine VC.reg (VO.l (LO.add (.r rfl) (.r rfl) (wi (by omega) (by omega))) rfl<|VO.l (LO.mv (.r rfl)) rfl<|VO.nil ?_)
      refine VE.thenN fun a w ha hw => ⟨j + 1, ⟨by omega, all_step hz (by unfold turnS; omega)⟩, (by omega), ha.sub (.cons rfl (.cons rfl (.cons rfl .nil))), hw.sel [] rfl⟩
  ·
    refine VC.exit (VE.thenX (VE.thenX (VE.inX (VE.seqN ?_))))
    refine VC.seq ?_
    refine VC.reg (VO.l (LO.as (.r rfl)) rfl<|VO.nil ?_)
    refine VE.seqN ?_
    refine VC.ret (VE.res (vs := [_]) rfl ⟨rfl, trivial⟩ (fun w hw => ?_))
    refine ⟨?_, hw.nil⟩
    simp only [resV]
    congr 2
    first | exact all_no (d := zs) (j := j) (by omega) (by unfold turnS; omega) | exact all_yes (d := zs) (j := j) hz (by omega)

end Go.Proofs.YtffbohecdocajaaGreat

namespace Go.Proofs.YtffbohecdocajaaGreat
open Go.SL Go.Proofs Go.Pulse
set_option linter.unusedVariables false

theorem F76_1 : FieldAt Tryz.prog 76 1 1 := ⟨_,_, Tryz.underlying76, rfl, rfl, 1, by kernel_rfl⟩
theorem F76_0 : FieldAt Tryz.prog 76 0 0 := ⟨_,_, Tryz.underlying76, rfl, rfl, 0, by kernel_rfl⟩
theorem A76 : IsAgg Tryz.prog 76 14 := ⟨⟨_, Tryz.underlying76, rfl⟩, by kernel_rfl⟩
theorem B25 : Builds Tryz.prog 25 [(0,1), (1,1)] [.int .i64 0, .int .i64 0] := Builds.mk fun _ => by kernel_rfl
theorem B76 : Builds Tryz.prog 76 [(0,1), (1,2), (3,4), (7,1), (8,2), (10,2), (12,2)] [.int .i64 0, .int .i64 0, .int .i64 0, .int .i64 0, .int .i64 0, .int .i64 0, .int .i64 0, .int .i64 0, .int .i64 0, .int .i64 0, .int .i64 0, .int .i64 0, .int .i64 0, .int .i64 0] := Builds.mk fun _ => by kernel_rfl
theorem EA76 : FlatA Tryz.prog 76 14 := ⟨⟨_, Tryz.underlying76, rfl⟩, by kernel_rfl, by kernel_rfl⟩
theorem F76_4 : FieldAt Tryz.prog 76 4 8 := ⟨_,_, Tryz.underlying76, rfl, rfl, 1, by kernel_rfl⟩
theorem F76_5 : FieldAt Tryz.prog 76 5 10 := ⟨_,_, Tryz.underlying76, rfl, rfl, 1, by kernel_rfl⟩
theorem F76_3 : FieldAt Tryz.prog 76 3 7 := ⟨_,_, Tryz.underlying76, rfl, rfl, 0, by kernel_rfl⟩
theorem F76_2 : FieldAt Tryz.prog 76 2 3 := ⟨_,_, Tryz.underlying76, rfl, rfl, 3, by kernel_rfl⟩
theorem A74 : IsAgg Tryz.prog 74 4 := ⟨⟨_, Tryz.underlying74, rfl⟩, by kernel_rfl⟩
theorem B74 : BuildsA Tryz.prog 74 [(0,2), (2,2)] [.int .i64 0, .int .i64 0, .int .i64 0, .int .i64 0] := BuildsA.mk (z := 2) (n := 2) (fun _ => by kernel_rfl) rfl
theorem EA74 : FlatA Tryz.prog 74 4 := ⟨⟨_, Tryz.underlying74, rfl⟩, by kernel_rfl, by kernel_rfl⟩
theorem F76_6 : FieldAt Tryz.prog 76 6 12 := ⟨_,_, Tryz.underlying76, rfl, rfl, 1, by kernel_rfl⟩
theorem EA25 : FlatA Tryz.prog 25 2 := ⟨⟨_, Tryz.underlying25, rfl⟩, by kernel_rfl, by kernel_rfl⟩
theorem C120 : IsFn Tryz.prog 120 := ⟨_, Tryz.func120, by decide, rfl⟩
theorem turning3 (a b c : Span) (p : Nat) (w : World) (h : Cells w ⟨p, 0, none⟩ [.int .i64 a.lo, .int .i64 a.hi, .int .i64 b.lo, .int .i64 b.hi, .int .i64 c.lo, .int .i64 c.hi]) : Calls Tryz.prog 120 #[.slice (some ⟨p, 0, none⟩) 3 3] w fun e w' => e = .returned (.bool (decide (turnS a ∧ turnS b ∧ turnS c))) ∧ St (bs w) [] w' :=
  (turning_c [a, b, c] (some ⟨p, 0, none⟩) 3 w (by simp) (RO.ofC (fun _ => rfl) h)).mono fun e w' ⟨h1, h2⟩ => ⟨by rw [h1]; congr 2; rw [Bool.eq_iff_iff]; simp, h2⟩

set_option maxRecDepth 20000 in
theorem echoP_c (x : Echo) (w : World) :
  Calls Tryz.prog 55 #[echoV x] w fun e w' => e = .returned (.int .i64 (echoE x)) ∧ St (bs w) [] w' := by
  refine enter (vs := [_]) (env := [(0,_)]) Tryz.func55 rfl rfl rfl rfl ?_
  refine VC.seq ?_
  refine VC.reg (VO.h rfl<|HO.box (C := #[_,_,_,_,_,_,_,_,_,_,_,_,_,_]) rfl rfl fun b1 => VO.l (LO.as (.r rfl)) rfl<|VO.nil ?_)
  refine VE.seqN ?_
  refine VC.seq ?_
  refine VC.reg (VO.l (LO.fa (r := 1) F76_1 (.r rfl) rfl) rfl<|VO.l (LO.lda (vs := [_,_]) A25 (.r rfl) (fun _ hw => cells_at hw 0 rfl ⟨_, rfl⟩) rfl) rfl<|VO.l (LO.call (xs := [_,_,_]) (vs := [_,_,_]) C111 ⟨(.r rfl), (.r rfl), (.r rfl), trivial⟩ (fun w _ => inside_c _ _ _ _ w)) rfl<|VO.l (LO.as (.r rfl)) rfl<|VO.nil ?_)
  refine VE.seqN ?_
  refine VC.seq ?_
  refine VC.seq ?_
  refine VC.reg (VO.l (LO.fa (r := 0) F76_0 (.r rfl) rfl) rfl<|VO.l (LO.ld O3 (.r rfl) (fun _ hw => cells_at hw 0 rfl ⟨_, rfl⟩)) rfl<|VO.nil ?_)
  refine VE.seqN ?_
  refine VC.block ?_
  refine VC.seq ?_
  refine VC.reg (VO.l (LO.eq (.r rfl) (.r rfl)) rfl<|VO.l (LO.as (.r rfl)) rfl<|VO.nil ?_)
  refine VE.seqN ?_
  refine VC.cond rfl (fun h1 => ?_) (fun h1 => ?_)
  ·
    refine VC.reg (VO.l (LO.mv (.r rfl)) rfl<|VO.l (LO.mv (.r rfl)) rfl<|VO.lg rfl rfl (GD.t _) (fun hg => LO.lda (vs := [_,_,_,_,_,_,_,_,_,_,_,_,_,_]) A76 (.r rfl) (fun _ hw => cells_at hw 0 rfl ⟨_, rfl⟩) rfl) rfl<|VO.lg rfl rfl (GD.t _) (fun hg => LO.fa (r := 1) F76_1 (.r rfl) rfl) rfl<|VO.lg rfl rfl (GD.t _) (fun hg => LO.fa (r := 2) F25_1 (.g hg rfl) rfl) rfl<|VO.lg rfl rfl (GD.t _) (fun hg => LO.ld O3 (.g hg rfl) (fun _ hw => cells_at hw 0 rfl ⟨_, rfl⟩)) rfl<|VO.lg rfl rfl (GD.t _) (fun hg => LO.bd (ps := [(_,_)]) (vs := [(_,_)]) (C := [_,_]) B25  ⟨(.g hg rfl), trivial⟩ rfl ⟨_, [_], [_,_], rfl, rfl, rfl, rfl, rfl⟩) rfl<|VO.lg rfl rfl (GD.t _) (fun hg => LO.bd (ps := [(_,_), (_,_)]) (vs := [(_,_), (_,_)]) (C := [_,_,_,_,_,_,_,_,_,_,_,_,_,_]) B76  ⟨(.r rfl), (.g hg rfl), trivial⟩ rfl ⟨_, [_], [_,_,_,_,_,_,_,_,_,_,_,_,_,_], rfl, rfl, rfl, rfl, ⟨_, [_,_], [_,_,_,_,_,_,_,_,_,_,_,_,_,_], rfl, rfl, rfl, rfl, rfl⟩⟩) rfl<|VO.lg rfl rfl (GD.t _) (fun hg => LO.eqA («as» := [_,_,_,_,_,_,_,_,_,_,_,_,_,_]) (bs := [_,_,_,_,_,_,_,_,_,_,_,_,_,_]) EA76 (.g hg rfl) (.g hg rfl) rfl rfl) rfl<|VO.l (LO.pkA (.r rfl) rfl rfl (.r rfl)) rfl<|VO.l (LO.as (.r rfl)) rfl<|VO.nil ?_)
    refine VE.inN (VE.seqN ?_)
    refine VC.seq ?_
    refine VC.seq ?_
    refine VC.reg (VO.l (LO.mv (.r rfl)) rfl<|VO.l (LO.not (.r rfl)) rfl<|VO.nil ?_)
    refine VE.seqN ?_
    refine VC.cond rfl (fun h2 => ?_) (fun h2 => ?_)
    ·
      refine VC.seq ?_
      refine VC.reg (VO.l (LO.as (.r rfl)) rfl<|VO.nil ?_)
      refine VE.seqN ?_
      refine VC.ret (VE.thenR (VE.res (vs := [_]) rfl ⟨rfl, trivial⟩ (fun w hw => ?_)))
      refine ⟨?_, hw.nil⟩
      simp only [resV]
      congr 2
      rw [echoE_flat]
      clear hw
      by_cases k1 : x.kind = 1 <;> by_cases k2 : x.kind = 2 <;> by_cases k3 : x.kind = 3 <;> (try omega) <;> (try simp_all [kndOk, echoF, turnS, and_assoc]) <;> first | assumption | omega | (intros; simp_all; done) | (intros; simp_all; omega)
    ·
      refine VC.skip (VE.seqN ?_)
      refine VC.seq ?_
      refine VC.reg (VO.l (LO.as (.r rfl)) rfl<|VO.nil ?_)
      refine VE.seqN ?_
      refine VC.ret (VE.res (vs := [_]) rfl ⟨rfl, trivial⟩ (fun w hw => ?_))
      refine ⟨?_, hw.nil⟩
      simp only [resV]
      congr 2
      rw [echoE_flat]
      clear hw
      by_cases k1 : x.kind = 1 <;> by_cases k2 : x.kind = 2 <;> by_cases k3 : x.kind = 3 <;> (try omega) <;> (try simp_all [kndOk, echoF, turnS, and_assoc]) <;> first | assumption | omega | (intros; simp_all; done) | (intros; simp_all; omega)
  ·
    refine VC.seq ?_
    refine VC.seq ?_
    refine VC.reg (VO.l (LO.eq (.r rfl) (.r rfl)) rfl<|VO.l (LO.as (.r rfl)) rfl<|VO.nil ?_)
    refine VE.seqN ?_
    refine VC.cond rfl (fun h3 => ?_) (fun h3 => ?_)
    ·
      refine VC.skip (VE.seqN ?_)
      refine VC.cond rfl (fun h4 => ?_) (fun h4 => ?_)
      ·
        refine VC.seq ?_
        refine VC.reg (VO.l (LO.mv (.r rfl)) rfl<|VO.l (LO.mv (.r rfl)) rfl<|VO.lg rfl rfl (GD.t _) (fun hg => LO.fa (r := 1) F76_1 (.r rfl) rfl) rfl<|VO.lg rfl rfl (GD.t _) (fun hg => LO.fa (r := 1) F25_0 (.g hg rfl) rfl) rfl<|VO.lg rfl rfl (GD.t _) (fun hg => LO.ld O3 (.g hg rfl) (fun _ hw => cells_at hw 0 rfl ⟨_, rfl⟩)) rfl<|VO.lg rfl rfl (GD.t _) (fun hg => LO.gt (.g hg rfl) (.r rfl)) rfl<|VO.l (LO.pkA (.r rfl) rfl rfl (.r rfl)) rfl<|VO.l (LO.mv (.r rfl)) rfl<|VO.lg rfl rfl (GD.t _) (fun hg => LO.fa (r := 8) F76_4 (.r rfl) rfl) rfl<|VO.lg rfl rfl (GD.t _) (fun hg => LO.lda (vs := [_,_]) A25 (.g hg rfl) (fun _ hw => cells_at hw 0 rfl ⟨_, rfl⟩) rfl) rfl<|VO.lg rfl rfl (GD.t _) (fun hg => LO.call (xs := [_,_,_]) (vs := [_,_,_]) C111 ⟨(.g hg rfl), (.r rfl), (.r rfl), trivial⟩ (fun w _ => inside_c _ _ _ _ w)) rfl<|VO.l (LO.pkA (.r rfl) rfl rfl (.r rfl)) rfl<|VO.l (LO.mv (.r rfl)) rfl<|VO.lg rfl rfl (GD.t _) (fun hg => LO.fa (r := 10) F76_5 (.r rfl) rfl) rfl<|VO.lg rfl rfl (GD.t _) (fun hg => LO.lda (vs := [_,_]) A25 (.g hg rfl) (fun _ hw => cells_at hw 0 rfl ⟨_, rfl⟩) rfl) rfl<|VO.lg rfl rfl (GD.t _) (fun hg => LO.call (xs := [_,_,_]) (vs := [_,_,_]) C111 ⟨(.g hg rfl), (.r rfl), (.r rfl), trivial⟩ (fun w _ => inside_c _ _ _ _ w)) rfl<|VO.l (LO.pkA (.r rfl) rfl rfl (.r rfl)) rfl<|VO.l (LO.mv (.r rfl)) rfl<|VO.lg rfl rfl (GD.t _) (fun hg => LO.fa (r := 7) F76_3 (.r rfl) rfl) rfl<|VO.lg rfl rfl (GD.t _) (fun hg => LO.ld O3 (.g hg rfl) (fun _ hw => cells_at hw 0 rfl ⟨_, rfl⟩)) rfl<|VO.lg rfl rfl (GD.t _) (fun hg => LO.call (xs := [_,_,_]) (vs := [_,_,_]) C54 ⟨(.g hg rfl), (.r rfl), (.r rfl), trivial⟩ (fun w _ => within_c _ _ _ w)) rfl<|VO.l (LO.pkA (.r rfl) rfl rfl (.r rfl)) rfl<|VO.l (LO.as (.r rfl)) rfl<|VO.nil ?_)
        refine VE.seqN ?_
        refine VC.seq ?_
        refine VC.reg (VO.l (LO.fa (r := 0) F76_0 (.r rfl) rfl) rfl<|VO.l (LO.ld O3 (.r rfl) (fun _ hw => cells_at hw 0 rfl ⟨_, rfl⟩)) rfl<|VO.l (LO.eq (.r rfl) (.r rfl)) rfl<|VO.nil ?_)
        refine VE.seqN ?_
        refine VC.cond rfl (fun h5 => ?_) (fun h5 => ?_)
        ·
          refine VC.reg (VO.l (LO.mv (.r rfl)) rfl<|VO.l (LO.mv (.r rfl)) rfl<|VO.lg rfl rfl (GD.t _) (fun hg => LO.fa (r := 3) F76_2 (.r rfl) rfl) rfl<|VO.lg rfl rfl (GD.t _) (fun hg => LO.lda (vs := [_,_,_,_]) A74 (.g hg rfl) (fun _ hw => cells_at hw 0 rfl ⟨_, rfl⟩) rfl) rfl<|VO.lg rfl rfl (GD.t _) (fun hg => LO.bda (ps := []) (vs := []) (C := [_,_,_,_]) B74 rfl trivial rfl rfl) rfl<|VO.lg rfl rfl (GD.t _) (fun hg => LO.eqA («as» := [_,_,_,_]) (bs := [_,_,_,_]) EA74 (.g hg rfl) (.g hg rfl) rfl rfl) rfl<|VO.l (LO.pkA (.r rfl) rfl rfl (.r rfl)) rfl<|VO.l (LO.mv (.r rfl)) rfl<|VO.lg rfl rfl (GD.t _) (fun hg => LO.fa (r := 12) F76_6 (.r rfl) rfl) rfl<|VO.lg rfl rfl (GD.t _) (fun hg => LO.lda (vs := [_,_]) A25 (.g hg rfl) (fun _ hw => cells_at hw 0 rfl ⟨_, rfl⟩) rfl) rfl<|VO.lg rfl rfl (GD.t _) (fun hg => LO.bd (ps := []) (vs := []) (C := [_,_]) B25  trivial rfl rfl) rfl<|VO.lg rfl rfl (GD.t _) (fun hg => LO.eqA («as» := [_,_]) (bs := [_,_]) EA25 (.g hg rfl) (.g hg rfl) rfl rfl) rfl<|VO.l (LO.pkA (.r rfl) rfl rfl (.r rfl)) rfl<|VO.l (LO.as (.r rfl)) rfl<|VO.nil ?_)
          refine VE.inN (VE.seqN ?_)
          refine VC.seq ?_
          refine VC.seq ?_
          refine VC.reg (VO.l (LO.mv (.r rfl)) rfl<|VO.l (LO.not (.r rfl)) rfl<|VO.nil ?_)
          refine VE.seqN ?_
          refine VC.cond rfl (fun h6 => ?_) (fun h6 => ?_)
          ·
            refine VC.seq ?_
            refine VC.reg (VO.l (LO.as (.r rfl)) rfl<|VO.nil ?_)
            refine VE.seqN ?_
            refine VC.ret (VE.thenR (VE.res (vs := [_]) rfl ⟨rfl, trivial⟩ (fun w hw => ?_)))
            refine ⟨?_, hw.nil⟩
            simp only [resV]
            congr 2
            rw [echoE_flat]
            clear hw
            by_cases k1 : x.kind = 1 <;> by_cases k2 : x.kind = 2 <;> by_cases k3 : x.kind = 3 <;> (try omega) <;> (try simp_all [kndOk, echoF, turnS, and_assoc]) <;> first | assumption | omega | (intros; simp_all; done) | (intros; simp_all; omega)
          ·
            refine VC.skip (VE.seqN ?_)
            refine VC.seq ?_
            refine VC.reg (VO.l (LO.as (.r rfl)) rfl<|VO.nil ?_)
            refine VE.seqN ?_
            refine VC.ret (VE.res (vs := [_]) rfl ⟨rfl, trivial⟩ (fun w hw => ?_))
            refine ⟨?_, hw.nil⟩
            simp only [resV]
            congr 2
            rw [echoE_flat]
            clear hw
            by_cases k1 : x.kind = 1 <;> by_cases k2 : x.kind = 2 <;> by_cases k3 : x.kind = 3 <;> (try omega) <;> (try simp_all [kndOk, echoF, turnS, and_assoc]) <;> first | assumption | omega | (intros; simp_all; done) | (intros; simp_all; omega)
        ·
          refine VC.reg (VO.l (LO.mv (.r rfl)) rfl<|VO.l (LO.mv (.r rfl)) rfl<|VO.lg rfl rfl (GD.t _) (fun hg => LO.fa (r := 3) F76_2 (.r rfl) rfl) rfl<|VO.lg rfl rfl (GD.t _) (fun hg => LO.ixa (j := 0) (r := 3) Tryz.underlying74 N25 (.g hg rfl) (.r rfl) rfl (by decide) rfl) rfl<|VO.lg rfl rfl (GD.t _) (fun hg => LO.lda (vs := [_,_]) A25 (.g hg rfl) (fun _ hw => cells_at hw 0 rfl ⟨_, rfl⟩) rfl) rfl<|VO.lg rfl rfl (GD.t _) (fun hg => LO.fa (r := 3) F76_2 (.r rfl) rfl) rfl<|VO.lg rfl rfl (GD.t _) (fun hg => LO.ixa (j := 1) (r := 5) Tryz.underlying74 N25 (.g hg rfl) (.r rfl) rfl (by decide) rfl) rfl<|VO.lg rfl rfl (GD.t _) (fun hg => LO.lda (vs := [_,_]) A25 (.g hg rfl) (fun _ hw => cells_at hw 0 rfl ⟨_, rfl⟩) rfl) rfl<|VO.lg rfl rfl (GD.t _) (fun hg => LO.fa (r := 12) F76_6 (.r rfl) rfl) rfl<|VO.lg rfl rfl (GD.t _) (fun hg => LO.lda (vs := [_,_]) A25 (.g hg rfl) (fun _ hw => cells_at hw 0 rfl ⟨_, rfl⟩) rfl) rfl<|VO.bc (x := 63) rfl (fun hg11_1 => VO.gT rfl rfl (congrArg Value.bool hg11_1) rfl<|HO.bs (ps := [(_,_), (_,_), (_,_)]) (vs := [(_,_), (_,_), (_,_)]) (Z := [_,_,_,_,_,_]) (C := [_,_,_,_,_,_]) S45 Z25 N25 ⟨(.g hg11_1 rfl), (.g hg11_1 rfl), (.g hg11_1 rfl), trivial⟩ rfl rfl rfl rfl ⟨_, [_,_], [_,_,_,_,_,_], rfl, rfl, rfl, rfl, ⟨_, [_,_], [_,_,_,_,_,_], rfl, rfl, rfl, rfl, ⟨_, [_,_], [_,_,_,_,_,_], rfl, rfl, rfl, rfl, rfl⟩⟩⟩ fun b2 => VO.gT rfl rfl (congrArg Value.bool hg11_1) rfl<|HO.lo (LO.call (xs := [_]) (vs := [_]) C120 ⟨(.r rfl), trivial⟩ (fun w hw => turning3 _ _ _ _ w (cells_at hw 0 rfl ⟨[], rfl⟩)))<|VO.h rfl<|HO.lo (LO.pkT (.r rfl) hg11_1 (.r rfl))<|VO.h rfl<|HO.lo (LO.as (.r rfl))<|VO.nil ?_) (fun hg11_1 => VO.gF rfl rfl hg11_1 rfl<|VO.gF rfl rfl hg11_1 rfl<|VO.h rfl<|HO.lo (LO.pkF (.r rfl) hg11_1 (.r rfl))<|VO.h rfl<|HO.lo (LO.as (.r rfl))<|VO.nil ?_))
          ·
            refine VE.inN (VE.seqN ?_)
            refine VC.seq ?_
            refine VC.seq ?_
            refine VC.reg (VO.l (LO.mv (.r rfl)) rfl<|VO.l (LO.not (.r rfl)) rfl<|VO.nil ?_)
            refine VE.seqN ?_
            refine VC.cond rfl (fun h7 => ?_) (fun h7 => ?_)
            ·
              refine VC.seq ?_
              refine VC.reg (VO.l (LO.as (.r rfl)) rfl<|VO.nil ?_)
              refine VE.seqN ?_
              refine VC.ret (VE.thenR (VE.res (vs := [_]) rfl ⟨rfl, trivial⟩ (fun w hw => ?_)))
              refine ⟨?_, hw.nil⟩
              simp only [resV]
              congr 2
              rw [echoE_flat]
              clear hw
              by_cases k1 : x.kind = 1 <;> by_cases k2 : x.kind = 2 <;> by_cases k3 : x.kind = 3 <;> (try omega) <;> (try simp_all [kndOk, echoF, turnS, and_assoc]) <;> first | assumption | omega | (intros; simp_all; done) | (intros; simp_all; omega)
            ·
              refine VC.skip (VE.seqN ?_)
              refine VC.seq ?_
              refine VC.reg (VO.l (LO.as (.r rfl)) rfl<|VO.nil ?_)
              refine VE.seqN ?_
              refine VC.ret (VE.res (vs := [_]) rfl ⟨rfl, trivial⟩ (fun w hw => ?_))
              refine ⟨?_, hw.nil⟩
              simp only [resV]
              congr 2
              rw [echoE_flat]
              clear hw
              by_cases k1 : x.kind = 1 <;> by_cases k2 : x.kind = 2 <;> by_cases k3 : x.kind = 3 <;> (try omega) <;> (try simp_all [kndOk, echoF, turnS, and_assoc]) <;> first | assumption | omega | (intros; simp_all; done) | (intros; simp_all; omega)
          ·
            refine VE.inN (VE.seqN ?_)
            refine VC.seq ?_
            refine VC.seq ?_
            refine VC.reg (VO.l (LO.mv (.r rfl)) rfl<|VO.l (LO.not (.r rfl)) rfl<|VO.nil ?_)
            refine VE.seqN ?_
            refine VC.cond rfl (fun h8 => ?_) (fun h8 => ?_)
            ·
              refine VC.seq ?_
              refine VC.reg (VO.l (LO.as (.r rfl)) rfl<|VO.nil ?_)
              refine VE.seqN ?_
              refine VC.ret (VE.thenR (VE.res (vs := [_]) rfl ⟨rfl, trivial⟩ (fun w hw => ?_)))
              refine ⟨?_, hw.nil⟩
              simp only [resV]
              congr 2
              rw [echoE_flat]
              clear hw
              by_cases k1 : x.kind = 1 <;> by_cases k2 : x.kind = 2 <;> by_cases k3 : x.kind = 3 <;> (try omega) <;> (try simp_all [kndOk, echoF, turnS, and_assoc]) <;> first | assumption | omega | (intros; simp_all; done) | (intros; simp_all; omega)
            ·
              refine VC.skip (VE.seqN ?_)
              refine VC.seq ?_
              refine VC.reg (VO.l (LO.as (.r rfl)) rfl<|VO.nil ?_)
              refine VE.seqN ?_
              refine VC.ret (VE.res (vs := [_]) rfl ⟨rfl, trivial⟩ (fun w hw => ?_))
              refine ⟨?_, hw.nil⟩
              simp only [resV]
              congr 2
              rw [echoE_flat]
              clear hw
              by_cases k1 : x.kind = 1 <;> by_cases k2 : x.kind = 2 <;> by_cases k3 : x.kind = 3 <;> (try omega) <;> (try simp_all [kndOk, echoF, turnS, and_assoc]) <;> first | assumption | omega | (intros; simp_all; done) | (intros; simp_all; omega)
      ·
        (exfalso; omega)
    ·
      refine VC.reg (VO.l (LO.eq (.r rfl) (.r rfl)) rfl<|VO.l (LO.as (.r rfl)) rfl<|VO.nil ?_)
      refine VE.seqN ?_
      refine VC.cond rfl (fun h9 => ?_) (fun h9 => ?_)
      ·
        refine VC.seq ?_
        refine VC.reg (VO.l (LO.mv (.r rfl)) rfl<|VO.l (LO.mv (.r rfl)) rfl<|VO.lg rfl rfl (GD.t _) (fun hg => LO.fa (r := 1) F76_1 (.r rfl) rfl) rfl<|VO.lg rfl rfl (GD.t _) (fun hg => LO.fa (r := 1) F25_0 (.g hg rfl) rfl) rfl<|VO.lg rfl rfl (GD.t _) (fun hg => LO.ld O3 (.g hg rfl) (fun _ hw => cells_at hw 0 rfl ⟨_, rfl⟩)) rfl<|VO.lg rfl rfl (GD.t _) (fun hg => LO.gt (.g hg rfl) (.r rfl)) rfl<|VO.l (LO.pkA (.r rfl) rfl rfl (.r rfl)) rfl<|VO.l (LO.mv (.r rfl)) rfl<|VO.lg rfl rfl (GD.t _) (fun hg => LO.fa (r := 8) F76_4 (.r rfl) rfl) rfl<|VO.lg rfl rfl (GD.t _) (fun hg => LO.lda (vs := [_,_]) A25 (.g hg rfl) (fun _ hw => cells_at hw 0 rfl ⟨_, rfl⟩) rfl) rfl<|VO.lg rfl rfl (GD.t _) (fun hg => LO.call (xs := [_,_,_]) (vs := [_,_,_]) C111 ⟨(.g hg rfl), (.r rfl), (.r rfl), trivial⟩ (fun w _ => inside_c _ _ _ _ w)) rfl<|VO.l (LO.pkA (.r rfl) rfl rfl (.r rfl)) rfl<|VO.l (LO.mv (.r rfl)) rfl<|VO.lg rfl rfl (GD.t _) (fun hg => LO.fa (r := 10) F76_5 (.r rfl) rfl) rfl<|VO.lg rfl rfl (GD.t _) (fun hg => LO.lda (vs := [_,_]) A25 (.g hg rfl) (fun _ hw => cells_at hw 0 rfl ⟨_, rfl⟩) rfl) rfl<|VO.lg rfl rfl (GD.t _) (fun hg => LO.call (xs := [_,_,_]) (vs := [_,_,_]) C111 ⟨(.g hg rfl), (.r rfl), (.r rfl), trivial⟩ (fun w _ => inside_c _ _ _ _ w)) rfl<|VO.l (LO.pkA (.r rfl) rfl rfl (.r rfl)) rfl<|VO.l (LO.mv (.r rfl)) rfl<|VO.lg rfl rfl (GD.t _) (fun hg => LO.fa (r := 7) F76_3 (.r rfl) rfl) rfl<|VO.lg rfl rfl (GD.t _) (fun hg => LO.ld O3 (.g hg rfl) (fun _ hw => cells_at hw 0 rfl ⟨_, rfl⟩)) rfl<|VO.lg rfl rfl (GD.t _) (fun hg => LO.call (xs := [_,_,_]) (vs := [_,_,_]) C54 ⟨(.g hg rfl), (.r rfl), (.r rfl), trivial⟩ (fun w _ => within_c _ _ _ w)) rfl<|VO.l (LO.pkA (.r rfl) rfl rfl (.r rfl)) rfl<|VO.l (LO.as (.r rfl)) rfl<|VO.nil ?_)
        refine VE.seqN ?_
        refine VC.seq ?_
        refine VC.reg (VO.l (LO.fa (r := 0) F76_0 (.r rfl) rfl) rfl<|VO.l (LO.ld O3 (.r rfl) (fun _ hw => cells_at hw 0 rfl ⟨_, rfl⟩)) rfl<|VO.l (LO.eq (.r rfl) (.r rfl)) rfl<|VO.nil ?_)
        refine VE.seqN ?_
        refine VC.cond rfl (fun h10 => ?_) (fun h10 => ?_)
        ·
          (exfalso; omega)
        ·
          refine VC.reg (VO.l (LO.mv (.r rfl)) rfl<|VO.l (LO.mv (.r rfl)) rfl<|VO.lg rfl rfl (GD.t _) (fun hg => LO.fa (r := 3) F76_2 (.r rfl) rfl) rfl<|VO.lg rfl rfl (GD.t _) (fun hg => LO.ixa (j := 0) (r := 3) Tryz.underlying74 N25 (.g hg rfl) (.r rfl) rfl (by decide) rfl) rfl<|VO.lg rfl rfl (GD.t _) (fun hg => LO.lda (vs := [_,_]) A25 (.g hg rfl) (fun _ hw => cells_at hw 0 rfl ⟨_, rfl⟩) rfl) rfl<|VO.lg rfl rfl (GD.t _) (fun hg => LO.fa (r := 3) F76_2 (.r rfl) rfl) rfl<|VO.lg rfl rfl (GD.t _) (fun hg => LO.ixa (j := 1) (r := 5) Tryz.underlying74 N25 (.g hg rfl) (.r rfl) rfl (by decide) rfl) rfl<|VO.lg rfl rfl (GD.t _) (fun hg => LO.lda (vs := [_,_]) A25 (.g hg rfl) (fun _ hw => cells_at hw 0 rfl ⟨_, rfl⟩) rfl) rfl<|VO.lg rfl rfl (GD.t _) (fun hg => LO.fa (r := 12) F76_6 (.r rfl) rfl) rfl<|VO.lg rfl rfl (GD.t _) (fun hg => LO.lda (vs := [_,_]) A25 (.g hg rfl) (fun _ hw => cells_at hw 0 rfl ⟨_, rfl⟩) rfl) rfl<|VO.bc (x := 63) rfl (fun hg11_1 => VO.gT rfl rfl (congrArg Value.bool hg11_1) rfl<|HO.bs (ps := [(_,_), (_,_), (_,_)]) (vs := [(_,_), (_,_), (_,_)]) (Z := [_,_,_,_,_,_]) (C := [_,_,_,_,_,_]) S45 Z25 N25 ⟨(.g hg11_1 rfl), (.g hg11_1 rfl), (.g hg11_1 rfl), trivial⟩ rfl rfl rfl rfl ⟨_, [_,_], [_,_,_,_,_,_], rfl, rfl, rfl, rfl, ⟨_, [_,_], [_,_,_,_,_,_], rfl, rfl, rfl, rfl, ⟨_, [_,_], [_,_,_,_,_,_], rfl, rfl, rfl, rfl, rfl⟩⟩⟩ fun b3 => VO.gT rfl rfl (congrArg Value.bool hg11_1) rfl<|HO.lo (LO.call (xs := [_]) (vs := [_]) C120 ⟨(.r rfl), trivial⟩ (fun w hw => turning3 _ _ _ _ w (cells_at hw 0 rfl ⟨[], rfl⟩)))<|VO.h rfl<|HO.lo (LO.pkT (.r rfl) hg11_1 (.r rfl))<|VO.h rfl<|HO.lo (LO.as (.r rfl))<|VO.nil ?_) (fun hg11_1 => VO.gF rfl rfl hg11_1 rfl<|VO.gF rfl rfl hg11_1 rfl<|VO.h rfl<|HO.lo (LO.pkF (.r rfl) hg11_1 (.r rfl))<|VO.h rfl<|HO.lo (LO.as (.r rfl))<|VO.nil ?_))
          ·
            refine VE.inN (VE.seqN ?_)
            refine VC.seq ?_
            refine VC.seq ?_
            refine VC.reg (VO.l (LO.mv (.r rfl)) rfl<|VO.l (LO.not (.r rfl)) rfl<|VO.nil ?_)
            refine VE.seqN ?_
            refine VC.cond rfl (fun h11 => ?_) (fun h11 => ?_)
            ·
              refine VC.seq ?_
              refine VC.reg (VO.l (LO.as (.r rfl)) rfl<|VO.nil ?_)
              refine VE.seqN ?_
              refine VC.ret (VE.thenR (VE.res (vs := [_]) rfl ⟨rfl, trivial⟩ (fun w hw => ?_)))
              refine ⟨?_, hw.nil⟩
              simp only [resV]
              congr 2
              rw [echoE_flat]
              clear hw
              by_cases k1 : x.kind = 1 <;> by_cases k2 : x.kind = 2 <;> by_cases k3 : x.kind = 3 <;> (try omega) <;> (try simp_all [kndOk, echoF, turnS, and_assoc]) <;> first | assumption | omega | (intros; simp_all; done) | (intros; simp_all; omega)
            ·
              refine VC.skip (VE.seqN ?_)
              refine VC.seq ?_
              refine VC.reg (VO.l (LO.as (.r rfl)) rfl<|VO.nil ?_)
              refine VE.seqN ?_
              refine VC.ret (VE.res (vs := [_]) rfl ⟨rfl, trivial⟩ (fun w hw => ?_))
              refine ⟨?_, hw.nil⟩
              simp only [resV]
              congr 2
              rw [echoE_flat]
              clear hw
              by_cases k1 : x.kind = 1 <;> by_cases k2 : x.kind = 2 <;> by_cases k3 : x.kind = 3 <;> (try omega) <;> (try simp_all [kndOk, echoF, turnS, and_assoc]) <;> first | assumption | omega | (intros; simp_all; done) | (intros; simp_all; omega)
          ·
            refine VE.inN (VE.seqN ?_)
            refine VC.seq ?_
            refine VC.seq ?_
            refine VC.reg (VO.l (LO.mv (.r rfl)) rfl<|VO.l (LO.not (.r rfl)) rfl<|VO.nil ?_)
            refine VE.seqN ?_
            refine VC.cond rfl (fun h12 => ?_) (fun h12 => ?_)
            ·
              refine VC.seq ?_
              refine VC.reg (VO.l (LO.as (.r rfl)) rfl<|VO.nil ?_)
              refine VE.seqN ?_
              refine VC.ret (VE.thenR (VE.res (vs := [_]) rfl ⟨rfl, trivial⟩ (fun w hw => ?_)))
              refine ⟨?_, hw.nil⟩
              simp only [resV]
              congr 2
              rw [echoE_flat]
              clear hw
              by_cases k1 : x.kind = 1 <;> by_cases k2 : x.kind = 2 <;> by_cases k3 : x.kind = 3 <;> (try omega) <;> (try simp_all [kndOk, echoF, turnS, and_assoc]) <;> first | assumption | omega | (intros; simp_all; done) | (intros; simp_all; omega)
            ·
              refine VC.skip (VE.seqN ?_)
              refine VC.seq ?_
              refine VC.reg (VO.l (LO.as (.r rfl)) rfl<|VO.nil ?_)
              refine VE.seqN ?_
              refine VC.ret (VE.res (vs := [_]) rfl ⟨rfl, trivial⟩ (fun w hw => ?_))
              refine ⟨?_, hw.nil⟩
              simp only [resV]
              congr 2
              rw [echoE_flat]
              clear hw
              by_cases k1 : x.kind = 1 <;> by_cases k2 : x.kind = 2 <;> by_cases k3 : x.kind = 3 <;> (try omega) <;> (try simp_all [kndOk, echoF, turnS, and_assoc]) <;> first | assumption | omega | (intros; simp_all; done) | (intros; simp_all; omega)
      ·
        refine VC.seq ?_
        refine VC.reg (VO.l (LO.as (.r rfl)) rfl<|VO.nil ?_)
        refine VE.seqN ?_
        refine VC.ret (VE.inR (VE.thenR (VE.res (vs := [_]) rfl ⟨rfl, trivial⟩ (fun w hw => ?_))))
        refine ⟨?_, hw.nil⟩
        simp only [resV]
        congr 2
        rw [echoE_flat]
        clear hw
        by_cases k1 : x.kind = 1 <;> by_cases k2 : x.kind = 2 <;> by_cases k3 : x.kind = 3 <;> (try omega) <;> (try simp_all [kndOk, echoF, turnS, and_assoc]) <;> first | assumption | omega | (intros; simp_all; done) | (intros; simp_all; omega)

end Go.Proofs.YtffbohecdocajaaGreat

namespace Go.SL
set_option linter.unusedVariables false
set_option linter.unusedSimpArgs false
open Go.RowKit Go.Sort
section
variable {P : Program} {β : Bs} {L : List Res}

theorem flat_ints (l : List Int) : (l.map fun n => [Value.int .i64 n]).flatten = l.map (Value.int .i64) := by
  induction l with
  | nil => rfl
  | cons x l ih => simp [ih]

theorem holds_own {w : World} {E cap : Nat} {a : Addr} {l : List Int} (h : (own E 1 (some a) cap (l.map fun n => [.int .i64 n])).inv w) : Holds (Value.int .i64) w a.block 0 l.toArray ∧ a = ⟨a.block, 0, none⟩ := by
  obtain ⟨h1, h2, h3, h4⟩ := h
  obtain ⟨g1, g2, C, spare, g3, g4, g5⟩ := h4 a rfl
  have ea : a = ⟨a.block, 0, none⟩ := by cases a; simp_all
  refine ⟨fun j hj => ?_, ea⟩
  rw [List.size_toArray] at hj
  refine ⟨?_, frozen_of_row w a.block _ C E g3⟩
  rw [flat_ints] at g4
  have : C.toList[0 + j]? = some (.int .i64 l[j]) := by
    rw [g4, Nat.zero_add, List.getElem?_append_left (by simpa using hj), List.getElem?_map, List.getElem?_eq_getElem hj]; rfl
  simp only [World.cell?, g3, Option.isSome_none, Bool.false_eq_true, if_false]
  rw [← Array.getElem?_toList, this]
  congr 2
  rw [getElem!_pos _ _ (by simpa using hj)]
  simp

/-- The row of an owned slice is turned in place; behind it new blocks may lie. -/
theorem own_put {w w' : World} {E cap b n : Nat} {l m : List Int} {os : Array Obj} (h : (own E 1 (some ⟨b, 0, none⟩) cap (l.map fun n => [.int .i64 n])).inv w) (hb : b < w.heap.size) (hm : m.length = l.length)
    (hw : w' = grow (putRow (Value.int .i64) (Sort.ahead w n) b 0 m.toArray) os) : St ⟨w, (own E 1 (some ⟨b, 0, none⟩) cap (l.map fun n => [.int .i64 n])).fp⟩ [own E 1 (some ⟨b, 0, none⟩) cap (m.map fun n => [.int .i64 n])] w' := by
  obtain ⟨h1, h2, h3, h4⟩ := h
  obtain ⟨g1, g2, C, spare, g3, g4, g5⟩ := h4 _ rfl
  rw [flat_ints] at g4
  have hsz : (putRow (Value.int .i64) (Sort.ahead w n) b 0 m.toArray).heap.size = w.heap.size := by rw [size_putRow]; rfl
  have hlen : l.length ≤ C.size := by
    have : C.toList.length = C.size := Array.length_toList
    rw [← this, g4]; simp
  have hnew : w'.heap[b]? = some (.cells (putCells (Value.int .i64) 0 m.toArray C) E (0,0)) := by
    rw [hw, heap_grow_old _ _ (by rw [hsz]; exact hb)]
    have : (Sort.ahead w n).heap = w.heap := rfl
    simp only [putRow, mapBlock, this, Array.getElem?_modify, g3, if_true, Option.map_some, onCells]
  have hC : (putCells (Value.int .i64) 0 m.toArray C).toList = m.map (Value.int .i64) ++ spare := by
    refine List.ext_getElem? fun k => ?_
    have e1 : (putCells (Value.int .i64) 0 m.toArray C).toList[k]? = C.toList[k]?.map fun x => if k < m.length then .int .i64 (m.toArray[k]!) else x := by
      unfold putCells
      simp [Array.getElem?_mapIdx]
    rw [e1, g4]
    by_cases hk : k < m.length
    · rw [List.getElem?_append_left (by simp; omega), List.getElem?_append_left (by simpa using hk), List.getElem?_map, List.getElem?_map, List.getElem?_eq_getElem hk, List.getElem?_eq_getElem (show k < l.length by omega)]
      simp [hk]
    · rw [List.getElem?_append_right (by simp; omega), List.getElem?_append_right (by simpa using hk)]
      simp only [List.length_map, hm]
      rw [hm] at hk
      cases spare[k - l.length]? with
      | none => rfl
      | some v => simp only [Option.map_some]; rw [if_neg hk]
  have hfr : ∀ k, k < w.heap.size → k ≠ b → w'.heap[k]? = w.heap[k]? := by
    intro k hk hne
    rw [hw, heap_grow_old _ _ (by rw [hsz]; exact hk)]
    have : (Sort.ahead w n).heap = w.heap := rfl
    simp only [putRow, mapBlock, this, Array.getElem?_modify]
    rw [if_neg (Ne.symm hne)]
  refine ⟨by rw [hw]; rfl, by rw [hw]; rfl, by rw [hw]; rfl, by rw [hw, size_grow, hsz]; exact Nat.le_add_right _ _, ?_, ?_, ?_, ?_⟩
  · intro k hk hO
    exact hfr k hk (fun e => hO ⟨by simp, e⟩)
  · intro i r hr
    cases i with
    | zero =>
      cases hr
      refine ⟨by simp [hm] at h1 ⊢; exact h1, by intro r hr; obtain ⟨x,_, rfl⟩ := List.mem_map.1 hr; rfl, fun q => (by cases q), fun a q => ?_⟩
      cases q
      refine ⟨rfl, rfl,_, spare, hnew, by rw [flat_ints]; exact hC, ?_⟩
      rw [← g5]; simp [putCells]
    | succ i => simp at hr
  · intro i r hr k hk
    cases i with
    | zero =>
      cases hr
      have e : k = b := hk.2
      subst e
      refine ⟨.inl ⟨by simp, rfl⟩, ?_⟩
      rw [hw, size_grow, hsz]; exact Nat.lt_of_lt_of_le hb (Nat.le_add_right _ _)
    | succ i => simp at hr
  · intro i j r s hij hr hs
    cases i with
    | zero => cases j with | zero => exact absurd rfl hij | succ j => simp at hs
    | succ i => simp at hr

/-- A slice that is owned is cut to fewer elements: the rest is spare. -/
theorem St.ownCut {w : World} {E z cap : Nat} {p : Option Addr} {l m : List (List Value)} (hw : St β L w) (i : Nat) (hi : L[i]? = some (own E z p cap (l ++ m))) : St β (L.set i (own E z p cap l)) w := by
  refine hw.conv i hi (fun k hk => hk) ?_
  obtain ⟨h1, h2, h3, h4⟩ := hw.inv i _ hi
  refine ⟨by simp at h1; omega, fun r hr => h2 r (by simp [hr]), fun q => ⟨by have := (h3 q).1; simp at this; exact this.1, (h3 q).2⟩, fun a ha => ?_⟩
  obtain ⟨g1, g2, C, spare, g3, g4, g5⟩ := h4 a ha
  exact ⟨g1, g2, C, m.flatten ++ spare, g3, by rw [g4]; simp, g5⟩
theorem own_cut {w : World} {w0 : World} {O : Nat → Prop} {E z cap : Nat} {p : Option Addr} {l m : List (List Value)} (hw : St ⟨w0, O⟩ [own E z p cap (l ++ m)] w) : St ⟨w0, O⟩ [own E z p cap l] w := hw.ownCut 0 rfl

end
end Go.SL
namespace Go.Proofs.YtffbohecdocajaaGreat
open Go.SL Go.Proofs Go.Pulse Go.Sort
set_option linter.unusedVariables false
def sortL (l : List Int) : List Int := l.mergeSort fun x y => decide (x ≤ y)
theorem sortL_len (l : List Int) : (sortL l).length = l.length := List.length_mergeSort ..
/-- slices.Sort at a slice of ints that is owned. -/
theorem Sort_h {β : Bs} {L : List Res} {w : World} {p : Option Addr} {cap : Nat} {l : List Int} (i : Nat) (hw : St β L w) (hi : L[i]? = some (own 3 1 p cap (l.map intC))) (hl : l.length < 4611686018427387904) :
    Calls Tryz.prog 205 #[.slice p l.length cap] w fun e w' => ∃ x : Unit, True ∧ e = .returned (.tuple #[]) ∧ St ⟨w, (own 3 1 p cap (l.map intC)).fp⟩ [own 3 1 p cap ((sortL l).map intC)] w' := by
  have hinv := hw.inv i _ hi
  have hrng := hw.rng i _ hi
  cases p with
  | none =>
    have h0 : l = [] := by simpa using (hinv.2.2.1 rfl).1
    subst h0
    refine (Tryz.slices_Sort_int_none none cap w).mono fun e w' ⟨h1, h2⟩ => ⟨(), trivial, h1, ?_⟩
    subst h2
    rw [show sortL [] = [] from by simp [sortL]]
    exact St.one hinv (fun k hk => (hrng k hk).2)
  | some a =>
    obtain ⟨hH, ea⟩ := holds_own hinv
    have hb : a.block < w.heap.size := (hrng a.block ⟨by simp, rfl⟩).2
    rw [ea] at hinv ⊢
    refine (Tryz.slices_Sort_int a.block 0 cap l w hH hb hl).mono fun e w' ⟨h1, n, os, h2⟩ => ⟨(), trivial, h1, ?_⟩
    exact own_put (m := sortL l) hinv hb (sortL_len l) h2
theorem compact_len (l : List Int) : (Lib.compact l).length ≤ l.length := by
  unfold Lib.compact Lib.compactUpTo
  rw [List.length_map]
  have := List.length_filter_le (Lib.keeps l.toArray) (List.range l.length)
  simpa using this
/-- slices.Compact at a slice of ints that is owned. -/
theorem Compact_h {β : Bs} {L : List Res} {w : World} {p : Option Addr} {cap : Nat} {l : List Int} (i : Nat) (hw : St β L w) (hi : L[i]? = some (own 3 1 p cap (l.map intC))) (hl : l.length < 4611686018427387904) :
    Calls Tryz.prog 227 #[.slice p l.length cap] w fun e w' => ∃ x : Unit, True ∧ e = .returned (.slice p (Lib.compact l).length cap) ∧ St ⟨w, (own 3 1 p cap (l.map intC)).fp⟩ [own 3 1 p cap ((Lib.compact l).map intC)] w' := by
  have hinv := hw.inv i _ hi
  have hrng := hw.rng i _ hi
  cases p with
  | none =>
    have h0 : l = [] := by simpa using (hinv.2.2.1 rfl).1
    subst h0
    refine (Tryz.slices_Compact_int_empty none cap w).mono fun e w' ⟨h1, h2⟩ => ⟨(), trivial, h1, ?_⟩
    subst h2
    exact St.one hinv (fun k hk => (hrng k hk).2)
  | some a =>
    obtain ⟨hH, ea⟩ := holds_own hinv
    have hb : a.block < w.heap.size := (hrng a.block ⟨by simp, rfl⟩).2
    rw [ea] at hinv ⊢
    have hc : l.length ≤ cap := by have := hinv.1; simpa using this
    refine (Tryz.slices_Compact_int a.block 0 cap l w hH (by omega) hc).mono fun e w' ⟨h1, n, h2⟩ => ⟨(), trivial, h1, ?_⟩
    have := own_put (m := Lib.compact l ++ List.replicate (l.length - (Lib.compact l).length) 0) (os := #[]) (w' := w') (n := n) hinv hb (by have := compact_len l; simp; omega) (by rw [h2, grow_empty])
    rw [List.map_append] at this
    exact own_cut this
end Go.Proofs.YtffbohecdocajaaGreat

namespace Go.Proofs.YtffbohecdocajaaGreat
open Go.SL Go.Proofs Go.Pulse
set_option linter.unusedVariables false

theorem S112 : IsSlice Tryz.prog 112 3 := Tryz.underlying112
theorem N3 : (Tryz.prog.info? 3).map (·.size) = some 1 := by kernel_rfl
theorem O112 : IsOne Tryz.prog 112 := ⟨⟨_, Tryz.underlying112, rfl⟩, by kernel_rfl⟩
theorem Z3 : ZeroOf Tryz.prog 3 (.int .i64 0) := by unfold ZeroOf; kernel_rfl
theorem I3 : EInfo Tryz.prog 3 1 8 (.int .i64 0) := ⟨by kernel_rfl, by kernel_rfl, by unfold ZeroOf; kernel_rfl, rfl, by decide⟩
theorem N112 : (Tryz.prog.info? 112).map (·.size) = some 1 := by kernel_rfl
theorem C253 : IsFn Tryz.prog 253 := ⟨_, Tryz.func253, by decide, rfl⟩
theorem C207 : IsFn Tryz.prog 207 := ⟨_, Tryz.func207, by decide, rfl⟩
theorem C205 : IsFn Tryz.prog 205 := ⟨_, Tryz.func205, by decide, rfl⟩


def inT (x : Int) : Prop := 0 ≤ x ∧ x ≤ 65535
instance : DecidablePred inT := fun x => by unfold inT; exact inferInstance
def valCap (l : List Int) (p : Option Addr) (c b : Nat) (w : World) : Prop := Cells w ⟨b, 0, none⟩ [.slice p l.length c] ∧ Ints w p l
theorem ints_here {w : World} {p : Option Addr} {l : List Int} (h : Ints w p l) {j : Nat} (hj : j < l.length) : Cells w ⟨pb p, po p + j * 1, none⟩ [.int .i64 (l.getD j 0)] := h.cells j _ (by simp [List.getElem?_eq_getElem hj, List.getD])
theorem getD_some {α : Type} {l : List α} {d : α} {i : Nat} (h : i < l.length) : l[i]? = some (l.getD i d) := by rw [List.getD_eq_getElem?_getD, List.getElem?_eq_getElem h]; rfl
theorem seq_end {J Jx : Nat → Res → Prop} {xs : List (List Value)} {r : Res} {β : Bs} {w : World} (h : J xs.length r ∨ ∃ n, n ≤ xs.length ∧ Jx n r) (hw : St β [r] w) : ∃ n r', (J xs.length r' ∨ (n ≤ xs.length ∧ Jx n r')) ∧ St β [r'] w := by
  rcases h with h | ⟨n, h1, h2⟩
  · exact ⟨0, r, .inl h, hw⟩
  · exact ⟨n, r, .inr ⟨h1, h2⟩, hw⟩
theorem row_of {l : List Int} {n : Nat} {vs : List Value} (h : (l.map intC)[n]? = some vs) : ∃ v, vs = [.int .i64 v] ∧ l[n]? = some v := by
  rw [List.getElem?_map] at h
  cases q : l[n]? with
  | none => rw [q] at h; cases h
  | some v => rw [q] at h; cases h; exact ⟨v, rfl, rfl⟩
theorem take_at {α : Type} {l : List α} {n : Nat} {v : α} (hv : l[n]? = some v) : l.take (n + 1) = l.take n ++ [v] := by
  rw [List.take_add_one, hv]; rfl
theorem _root_.Go.SL.St.tl {β : Bs} {r : Res} {L : List Res} {w : World} (h : St β (r :: L) w) : St β L w := h.map (fun j => j + 1) (fun a b hab _ _ => by omega) (fun j s hs => .inr (by simpa using hs))

set_option maxRecDepth 20000 in
theorem values_c (l : List Int) (p : Option Addr) (c : Nat) (w : World) :
  Calls Tryz.prog 228 #[.slice p l.length c] w fun e w' => ∃ b : Nat, True ∧ e = .returned (.func (.func 265) #[] #[.pointer (some ⟨b, 0, none⟩)]) ∧ St (bs w) [blk b (.cells #[.slice p l.length c] 112)] w' := by
  refine enter (vs := [_]) (env := [(0,_)]) Tryz.func228 rfl rfl rfl rfl ?_
  refine VC.seq ?_
  refine VC.reg (VO.h rfl<|HO.box (C := #[_]) rfl rfl fun b1 => VO.l (LO.as (.r rfl)) rfl<|VO.nil ?_)
  refine VE.seqN ?_
  refine VC.seq ?_
  refine VC.reg (VO.h rfl<|HO.lo (LO.mf (cap := [_]) ⟨(.r rfl), trivial⟩)<|VO.h rfl<|HO.lo (LO.as (.r rfl))<|VO.nil ?_)
  refine VE.seqN ?_
  refine VC.ret (VE.res (vs := [_]) rfl ⟨rfl, trivial⟩ (fun w hw => ?_))
  exact ⟨b1, trivial, rfl, hw⟩

set_option maxRecDepth 20000 in
theorem values_seq (l : List Int) (p : Option Addr) (c b : Nat) (hn : l.length < 1000000000000) :
  SeqC Tryz.prog 265 [.pointer (some ⟨b, 0, none⟩)] (valCap l p c b) (l.map intC) := by
  intro l0 J Jx w r hCap hyl hJ hi0 hf0
  have hs0 : SlSome p l.length := (hCap _ _ _ hJ hi0).2.some
  refine enterO (vs := [_,_]) (env := [(0,_), (1,_)]) (St.one hi0 hf0) Tryz.func265 rfl rfl rfl rfl ?_
  refine VC.seq ?_
  refine VC.reg (VO.l (LO.ld O112 (.r rfl) (fun _ hw => sub_cells (off := 0) (hCap _ _ _ hJ (St.inv hw 0 _ rfl)).1 ⟨_, rfl⟩)) rfl<|VO.l (LO.len S112 (.r rfl) rfl) rfl<|VO.l (LO.mv (.r rfl)) rfl<|VO.nil ?_)
  refine VE.seqN ?_
  refine VC.block ?_
  refine VC.loopK (α := Nat × Res) 1 (fun x => [(7, .int .i64 (x.1 : Nat))]) [(0,_), (5,_), (6,_)] (fun x => [x.2]) (fun x => x.1 ≤ l.length ∧ J x.1 x.2) (fun x => l.length - x.1) (0, r) (by exact ⟨by omega, hJ⟩) (.cons rfl (.cons rfl (.cons rfl (.cons rfl .nil)))) (fun _ h => h) ?_
  rintro ⟨i, r⟩ ⟨hi, hJ⟩
  show VC _ _ _ _ _ ([(7, .int .i64 (i : Nat))] ++ _) ([r] ++ _) _ _
  refine VC.seq ?_
  refine VC.reg (VO.l (LO.lt (.r rfl) (.r rfl)) rfl<|VO.nil ?_)
  refine VE.seqN ?_
  refine VC.seq ?_
  refine VC.cond rfl (fun h1 => ?_) (fun h1 => ?_)
  ·
    refine VC.skip (VE.seqN ?_)
    refine VC.seq ?_
    refine VC.block ?_
    refine VC.seq ?_
    refine VC.reg (VO.l (LO.ixs S112 N3 hs0 (.r rfl) (.r rfl) rfl (by omega)) rfl<|VO.l (LO.ld O3 (.r rfl) (fun w hw => ints_here (hCap _ _ _ hJ (St.inv hw 0 _ rfl)).2 (j := i) (by omega))) rfl<|VO.l (LO.as (.r rfl)) rfl<|VO.nil ?_)
    refine VE.seqN ?_
    refine VC.seq ?_
    refine VC.reg (VO.l (LO.mv (.r rfl)) rfl<|VO.l (LO.mv (.r rfl)) rfl<|VO.h rfl<|HO.yield 0 (r := r) (vs := [_]) (post := fun b r' => if b = true then J (i + 1) r' else Jx (i + 1) r') (.r rfl) ⟨.r rfl, trivial⟩ rfl (fun w2 hi hr hs => hyl i _ (by rw [List.getElem?_map, getD_some (show i < l.length by omega)]; rfl) r w2 hJ hi hr hs) fun b1 r1 hp => VO.h rfl<|HO.lo (LO.not (.r rfl))<|VO.nil ?_)
    refine VE.seqN ?_
    refine VC.cond rfl (fun h4 => ?_) (fun h4 => ?_)
    ·
      rw [if_neg h4] at hp
      have hE : J (l.map intC).length r1 ∨ ∃ n, n ≤ (l.map intC).length ∧ Jx n r1 := .inr ⟨i + 1, by rw [List.length_map]; omega, hp⟩
      refine VC.ret (VE.inR (VE.thenR (VE.thenR (VE.inR (VE.res (vs := []) rfl trivial (fun w hw => ?_))))))
      exact ⟨rfl, seq_end hE hw⟩
    ·
      rw [if_pos (by simpa using h4)] at hp
      refine VC.skip (VE.inN (VE.seqN ?_))
      refine VC.reg (VO.l (LO.add (.r rfl) (.r rfl) (wi (by omega) (by omega))) rfl<|VO.l (LO.mv (.r rfl)) rfl<|VO.nil ?_)
      refine VE.thenN fun a w ha hw => ⟨(i + 1, r1), ⟨by omega, hp⟩, by omega, ha.sub (.cons rfl (.cons rfl (.cons rfl (.cons rfl .nil)))), hw⟩
  ·
    have hE : J (l.map intC).length r ∨ ∃ n, n ≤ (l.map intC).length ∧ Jx n r := .inl (by rw [List.length_map, show l.length = i by omega]; exact hJ)
    refine VC.exit (VE.thenX (VE.thenX (VE.inX (VE.resN (vs := []) rfl trivial (fun w hw => ?_)))))
    exact ⟨rfl, seq_end hE hw⟩

set_option maxRecDepth 20000 in
theorem appendSeq_c (gf : FuncId) (lb : List Value) (Cap : World → Prop) (xs : List Int) (w : World) (hf : IsFn Tryz.prog gf) (hseq : SeqC Tryz.prog gf lb Cap (xs.map intC)) (hC : ∀ w' : World, (∀ k, k < w.heap.size → w'.heap[k]? = w.heap[k]?) → Cap w') (hn : xs.length < 1000000000) :
  Calls Tryz.prog 253 #[.slice none 0 0, .func (.func gf) #[] lb.toArray] w fun e w' => ∃ x : Option Addr × Nat, True ∧ e = .returned (.slice x.1 (xs).length x.2) ∧ St (bs w) [own 3 1 x.1 x.2 ((xs).map intC)] w' := by
  refine enter (vs := [_,_]) (env := [(0,_), (1,_)]) Tryz.func253 rfl rfl rfl rfl ?_
  refine VC.seq ?_
  refine VC.reg (VO.h rfl<|HO.box (C := #[_]) rfl rfl fun b1 => VO.l (LO.as (.r rfl)) rfl<|VO.nil ?_)
  refine VE.seqN ?_
  refine VC.seq ?_
  refine VC.seq ?_
  refine VC.reg (VO.l (LO.mv (.r rfl)) rfl<|VO.nil ?_)
  refine VE.seqN ?_
  refine VC.block ?_
  refine VC.rangeFuncF (α := Nat × Option Addr × Nat) (fun x => [own 3 1 x.2.1 x.2.2 ((xs.take x.1).map intC), blk b1 (.cells #[.slice x.2.1 x.1 x.2.2] 112)]) (fun n x => x.1 = n ∧ n ≤ xs.length) (fun c n x => False) (0, none, 0) (fun vs => [(5, vs.getD 0 (.bool false)), (2, .pointer (some ⟨b1,0, none⟩))]) rfl hf hseq (fun _ h => h.ownNil 3 1) (⟨rfl, by omega⟩) (fun vs hv => by obtain ⟨n,_, rfl⟩ := List.mem_map.1 hv; rfl) (by decide) (fun n x w2 _ _ hfr => hC w2 (fun k hk => hfr k hk (fun q => q))) ?_ ?_ ?_ ?_
  ·
    intro n x vs l T w1 hI hxs hst
    obtain ⟨v, rfl, hv⟩ := row_of hxs
    obtain ⟨xn, xp, xc⟩ := x
    obtain ⟨hxn, hle⟩ := hI
    dsimp only at hxn
    subst hxn
    have hlt : xn < xs.length := (List.getElem?_eq_some_iff.1 hv).1
    refine VC.reg (VO.l (LO.as (.r rfl)) rfl<|VO.nil ?_)
    exact fun a w ha hw => ⟨rfl, ha.sub (.cons rfl (.cons rfl .nil)), hw⟩
  ·
    intro n x vs l T w1 hI hxs hst
    obtain ⟨v, rfl, hv⟩ := row_of hxs
    obtain ⟨xn, xp, xc⟩ := x
    obtain ⟨hxn, hle⟩ := hI
    dsimp only at hxn
    subst hxn
    have hlt : xn < xs.length := (List.getElem?_eq_some_iff.1 hv).1
    refine VC.block ?_
    refine VC.reg (VO.l (LO.ld O112 (.r rfl) (fun _ hw => cells_at hw 1 rfl ⟨_, rfl⟩)) rfl<|VO.l (LO.mv (.r rfl)) rfl<|VO.h rfl<|HO.bs (ps := [(_,_)]) (vs := [(_,_)]) (Z := [_]) (C := [_]) S112 Z3 N3 ⟨(.r rfl), trivial⟩ rfl rfl rfl rfl ⟨_, [_], [_], rfl, rfl, rfl, rfl, rfl⟩ fun b11 => VO.h rfl<|HO.appT (v) 1 0 (fun R => [_, R,_] ++ T) S112 S112 I3 (.r rfl) (.r rfl) rfl rfl rfl rfl rfl rfl rfl (fun _ => rfl) (by simp; omega) (by simp; omega) fun p3 c3 => VO.h0<|HO.st 2 (vs := [_]) (C' := [_]) N112 rfl rfl rfl rfl rfl rfl rfl rfl<|VO.nil ?_)
    refine VE.inN ?_
    exact fun a w ha hw => ⟨(xn + 1, p3, c3), ⟨rfl, by omega⟩, by have h2 := hw.tl; rw [← take_at hv, show (xs.take (xn + 1)).length = xn + 1 by simp; omega] at h2; exact h2⟩
  ·
    intro D x hI
    obtain ⟨xn, xp, xc⟩ := x
    obtain ⟨hxn, hle⟩ := hI
    have hxn : xn = xs.length := by simpa using hxn
    subst hxn
    refine VE.inN (VE.seqN ?_)
    refine VC.seq ?_
    refine VC.reg (VO.l (LO.ld O112 (.r rfl) (fun _ hw => cells_at hw 1 rfl ⟨_, rfl⟩)) rfl<|VO.l (LO.as (.r rfl)) rfl<|VO.nil ?_)
    refine VE.seqN ?_
    refine VC.ret (VE.resD 2 (vs := [_]) rfl rfl rfl ⟨rfl, trivial⟩ (fun w hw => ?_))
    exact ⟨(xp, xc), trivial, rfl, by have h2 := hw.sel [0] rfl; rw [← List.take_length (l := xs)]; exact h2⟩
  ·
    intro D c n x hn hI
    exact hI.elim

set_option maxRecDepth 20000 in
theorem collect_c (gf : FuncId) (lb : List Value) (Cap : World → Prop) (xs : List Int) (w : World) (hf : IsFn Tryz.prog gf) (hseq : SeqC Tryz.prog gf lb Cap (xs.map intC)) (hC : ∀ w' : World, (∀ k, k < w.heap.size → w'.heap[k]? = w.heap[k]?) → Cap w') (hn : xs.length < 1000000000) :
  Calls Tryz.prog 207 #[.func (.func gf) #[] lb.toArray] w fun e w' => ∃ x : Option Addr × Nat, True ∧ e = .returned (.slice x.1 (xs).length x.2) ∧ St (bs w) [own 3 1 x.1 x.2 ((xs).map intC)] w' := by
  refine enter (vs := [_]) (env := [(0,_)]) Tryz.func207 rfl rfl rfl rfl ?_
  refine VC.seq ?_
  refine VC.reg (VO.l (LO.as (.r rfl)) rfl<|VO.nil ?_)
  refine VE.seqN ?_
  refine VC.seq ?_
  refine VC.reg (VO.l (LO.mv (.r rfl)) rfl<|VO.h rfl<|HO.callx (xs := [_,_]) (vs := [_,_]) C253 ⟨(.r rfl), (.r rfl), trivial⟩ (fun w hw => appendSeq_c gf lb Cap xs w hf hseq (fun w2 h2 => hC w2 (fun k hk => (h2 k (Nat.lt_of_lt_of_le hk hw.size)).trans (hw.fr k hk (fun q => q)))) hn) fun x _ => VO.h rfl<|HO.lo (LO.as (.r rfl))<|VO.nil ?_)
  refine VE.seqN ?_
  refine VC.ret (VE.res (vs := [_]) rfl ⟨rfl, trivial⟩ (fun w hw => ?_))
  exact ⟨x, trivial, rfl, hw⟩

set_option maxRecDepth 20000 in
theorem sorted_c (gf : FuncId) (lb : List Value) (Cap : World → Prop) (xs : List Int) (w : World) (hf : IsFn Tryz.prog gf) (hseq : SeqC Tryz.prog gf lb Cap (xs.map intC)) (hC : ∀ w' : World, (∀ k, k < w.heap.size → w'.heap[k]? = w.heap[k]?) → Cap w') (hn : xs.length < 1000000000) :
  Calls Tryz.prog 150 #[.func (.func gf) #[] lb.toArray] w fun e w' => ∃ x : Option Addr × Nat, True ∧ e = .returned (.slice x.1 (sortL xs).length x.2) ∧ St (bs w) [own 3 1 x.1 x.2 ((sortL xs).map intC)] w' := by
  refine enter (vs := [_]) (env := [(0,_)]) Tryz.func150 rfl rfl rfl rfl ?_
  refine VC.seq ?_
  refine VC.reg (VO.l (LO.as (.r rfl)) rfl<|VO.nil ?_)
  refine VE.seqN ?_
  refine VC.seq ?_
  refine VC.reg (VO.l (LO.mv (.r rfl)) rfl<|VO.h rfl<|HO.callx (xs := [_]) (vs := [_]) C207 ⟨(.r rfl), trivial⟩ (fun w hw => collect_c gf lb Cap xs w hf hseq (fun w2 h2 => hC w2 (fun k hk => (h2 k (Nat.lt_of_lt_of_le hk hw.size)).trans (hw.fr k hk (fun q => q)))) hn) fun x _ => VO.h rfl<|HO.lo (LO.as (.r rfl))<|VO.nil ?_)
  refine VE.seqN ?_
  refine VC.seq ?_
  refine VC.reg (VO.l (LO.mv (.r rfl)) rfl<|VO.h rfl<|HO.callh (first := []) (cap := []) (xs := [_]) (vs := [_]) 0 (fun R => [R]) rfl (.r rfl) C205 ⟨(.r rfl), trivial⟩ (fun _ => rfl) (fun w hw => Sort_h 0 hw rfl (by omega)) fun _ _ => VO.nil ?_)
  refine VE.seqN ?_
  refine VC.seq ?_
  refine VC.reg (VO.l (LO.mv (.r rfl)) rfl<|VO.l (LO.as (.r rfl)) rfl<|VO.nil ?_)
  refine VE.seqN ?_
  refine VC.ret (VE.res (vs := [_]) rfl ⟨rfl, trivial⟩ (fun w hw => ?_))
  exact ⟨x, trivial, by rw [sortL_len]; rfl, hw⟩

end Go.Proofs.YtffbohecdocajaaGreat

namespace Go.Proofs.YtffbohecdocajaaGreat
open Go.SL Go.Proofs Go.Pulse
set_option linter.unusedVariables false

theorem C265 : IsFn Tryz.prog 265 := ⟨_, Tryz.func265, by decide, rfl⟩
theorem F411_3 : FieldAt Tryz.prog 411 3 3 := ⟨_,_, Tryz.underlying411, rfl, rfl, 0, by kernel_rfl⟩
theorem F411_1 : FieldAt Tryz.prog 411 1 1 := ⟨_,_, Tryz.underlying411, rfl, rfl, 0, by kernel_rfl⟩
theorem F411_2 : FieldAt Tryz.prog 411 2 2 := ⟨_,_, Tryz.underlying411, rfl, rfl, 0, by kernel_rfl⟩
theorem C180 : IsFn Tryz.prog 180 := ⟨_, Tryz.func180, by decide, rfl⟩
theorem C112 : IsFn Tryz.prog 112 := ⟨_, Tryz.func112, by decide, rfl⟩
theorem Z411 : ZeroOf Tryz.prog 411 (.agg #[.int .i64 0, .int .i64 0, .int .i64 0, .int .i64 0]) := by unfold ZeroOf; kernel_rfl
theorem C228 : IsFn Tryz.prog 228 := ⟨_, Tryz.func228, by decide, rfl⟩
theorem C150 : IsFn Tryz.prog 150 := ⟨_, Tryz.func150, by decide, rfl⟩
theorem C227 : IsFn Tryz.prog 227 := ⟨_, Tryz.func227, by decide, rfl⟩
theorem B411 : Builds Tryz.prog 411 [(0,1), (1,1), (2,1), (3,1)] [.int .i64 0, .int .i64 0, .int .i64 0, .int .i64 0] := Builds.mk fun _ => by kernel_rfl
theorem N411 : (Tryz.prog.info? 411).map (·.size) = some 4 := by kernel_rfl
theorem F411_0 : FieldAt Tryz.prog 411 0 0 := ⟨_,_, Tryz.underlying411, rfl, rfl, 0, by kernel_rfl⟩
theorem A411 : IsAgg Tryz.prog 411 4 := ⟨⟨_, Tryz.underlying411, rfl⟩, by kernel_rfl⟩
theorem C183 : IsFn Tryz.prog 183 := ⟨_, Tryz.func183, by decide, rfl⟩


abbrev arcV (l : List Int) : Value := .agg #[.int .i64 (arcR l).1, .int .i64 (arcR l).2, .int .i64 (arcSum l), .int .i64 l.length]
def meanR (s n sl : Int) : Span := if n = 0 then zs else ⟨wr ((s - sl) / n + 32768) - 32768, wr ((s - sl) / n + 32768) - 32768 + up (s + sl) n - (s - sl) / n⟩
theorem ediv_abs {a n B : Int} (hn : 0 < n) (h1 : -B ≤ a) (h2 : a ≤ B) (hB : 0 ≤ B) : -B ≤ a / n ∧ a / n ≤ B := by
  constructor
  · rw [Int.le_ediv_iff_mul_le hn]
    have : B * 1 ≤ B * n := Int.mul_le_mul_of_nonneg_left (by omega) hB
    rw [Int.neg_mul]; omega
  · have : B * 1 ≤ B * n := Int.mul_le_mul_of_nonneg_left (by omega) hB
    have : a / n < B + 1 := Int.ediv_lt_of_lt_mul hn (by rw [Int.add_mul]; omega)
    omega
theorem cells_fr {w w' : World} {p : Addr} {vs : List Value} (hfr : ∀ k, k < w.heap.size → w'.heap[k]? = w.heap[k]?) (h : Cells w p vs) : Cells w' p vs := by
  intro j v hj
  have h0 := h j v hj
  have hb : (p.add j).block < w.heap.size := by
    rcases Nat.lt_or_ge (p.add j).block w.heap.size with h | h
    · exact h
    · simp [World.cell?, Array.getElem?_eq_none h] at h0
  rw [World.cell?_of_block (w := w) (hfr _ hb)]; exact h0
theorem ro_fr {w w' : World} {z : Nat} {p : Option Addr} {rows : List (List Value)} (hfr : ∀ k, k < w.heap.size → w'.heap[k]? = w.heap[k]?) (h : Go.SL.Rows w z p rows) : Go.SL.Rows w' z p rows := ⟨fun j r hr => cells_fr hfr (h.cells j r hr), h.nil, h.spot⟩
theorem sortL_asc (l : List Int) : (sortL l).Pairwise (· ≤ ·) := by
  have := List.pairwise_mergeSort (le := fun x y : Int => decide (x ≤ y)) (fun a b c h k => by simp at h k ⊢; omega) (fun a b => by simp; omega) l
  exact this.imp (fun h => by simpa using h)
theorem get_bang {d : List Int} {i : Nat} (h : i < d.length) : d.toArray[i]! = d[i] := by
  rw [getElem!_pos _ _ (by simpa using h)]; simp
theorem comp_mem (l : List Int) : ∀ x, x ∈ Lib.compact (sortL l) ↔ x ∈ l := by
  intro x
  have hs := sortL_asc l
  have hm : x ∈ l ↔ x ∈ sortL l := by unfold sortL; exact List.mem_mergeSort.symm
  rw [hm]
  generalize sortL l = z at hs
  unfold Lib.compact Lib.compactUpTo
  constructor
  · intro h
    obtain ⟨k, hk, rfl⟩ := List.mem_map.1 h
    have hk := List.mem_range.1 (List.mem_filter.1 hk).1
    rw [get_bang hk]; exact List.getElem_mem hk
  · intro h
    obtain ⟨k, hk, e⟩ := List.mem_iff_getElem.1 h
    have key : ∀ k (hk : k < z.length), z[k] = x → x ∈ ((List.range z.length).filter (Lib.keeps z.toArray)).map (z.toArray[·]!) := by
      intro k
      induction k with
      | zero =>
        intro hk e
        exact List.mem_map.2 ⟨0, List.mem_filter.2 ⟨List.mem_range.2 hk, by simp [Lib.keeps]⟩, by rw [get_bang hk, e]⟩
      | succ k ih =>
        intro hk e
        by_cases q : z[k] = x
        · exact ih (by omega) q
        · exact List.mem_map.2 ⟨k + 1, List.mem_filter.2 ⟨List.mem_range.2 hk, by
            simp only [Lib.keeps, decide_eq_true_eq]
            right
            rw [get_bang hk, Nat.add_sub_cancel, get_bang (by omega), e]; exact fun h => q h.symm⟩, by rw [get_bang hk, e]⟩
    exact key k hk e
theorem comp_asc (l : List Int) : (Lib.compact (sortL l)).Pairwise (· < ·) := by
  have hs := sortL_asc l
  generalize sortL l = z at hs
  unfold Lib.compact Lib.compactUpTo
  rw [List.pairwise_map, List.pairwise_filter]
  have hle : ∀ {a b : Nat} (ha : a < z.length) (hb' : b < z.length), a ≤ b → z[a] ≤ z[b] := fun {a b} ha hb' hab => by
    rcases Nat.lt_or_eq_of_le hab with q | q
    · exact List.pairwise_iff_getElem.1 hs _ _ ha hb' q
    · subst q; exact Int.le_refl _
  refine List.pairwise_iff_getElem.2 fun i j hi hj hij h1 h2 => ?_
  rw [List.length_range] at hi hj
  rw [List.getElem_range, List.getElem_range] at *
  simp only [Lib.keeps, decide_eq_true_eq] at h2
  rw [get_bang hi, get_bang hj] at *
  rcases h2 with h2 | h2
  · omega
  · rw [get_bang (by omega)] at h2
    have a1 := hle hi (show j - 1 < z.length by omega) (by omega)
    have a2 := hle (show j - 1 < z.length by omega) hj (by omega)
    omega
def ascF (s : List Int) (i : Nat) : Int × Int := (s.take i).foldl (ascStep s) (0,65536)
theorem ascF_succ {s : List Int} {i : Nat} (hi : i < s.length) : ascF s (i + 1) = ascStep s (ascF s i) (s.getD i 0) := by
  unfold ascF
  rw [take_at (getD_some (d := 0) hi), List.foldl_append]; rfl
theorem asc_w {s : List Int} (hs : s.Pairwise (· < ·)) (hb : ∀ k, k < s.length → inT (s.getD k 0)) {i : Nat} (hi : i < s.length) : arcW s (s.getD i 0) = wr (s.getD ((i + s.length - 1) % s.length) 0 - s.getD i 0) := by
  have h := arcW_asc hs (fun x hx => by
    obtain ⟨k, hk, rfl⟩ := mem_getD (d := 0) hx
    exact hb k hk) hi
  have hm : (i + s.length - 1) % s.length < s.length := Nat.mod_lt _ (by omega)
  rw [List.getD_eq_getElem?_getD, List.getElem?_eq_getElem hi, List.getD_eq_getElem?_getD, List.getElem?_eq_getElem hm]
  exact h
theorem asc_t {s : List Int} (hs : s.Pairwise (· < ·)) (hb : ∀ k, k < s.length → inT (s.getD k 0)) {i : Nat} (hi : i < s.length) (h : wr (s.getD ((i + s.length - 1) % s.length) 0 - s.getD i 0) < (ascF s i).2) : ascF s (i + 1) = (s.getD i 0, wr (s.getD ((i + s.length - 1) % s.length) 0 - s.getD i 0)) := by
  rw [ascF_succ hi, ascStep, asc_w hs hb hi, if_pos h]
theorem asc_f {s : List Int} (hs : s.Pairwise (· < ·)) (hb : ∀ k, k < s.length → inT (s.getD k 0)) {i : Nat} (hi : i < s.length) (h : ¬ wr (s.getD ((i + s.length - 1) % s.length) 0 - s.getD i 0) < (ascF s i).2) : ascF s (i + 1) = ascF s i := by
  rw [ascF_succ hi, ascStep, asc_w hs hb hi, if_neg h]
theorem rem_ix {i n : Nat} (h : i < n) : ((i : Int) + (n : Int) - 1).tmod (n : Int) = (((i + n - 1) % n : Nat) : Int) := by
  rw [Int.tmod_eq_emod_of_nonneg (by omega)]
  rw [show (i : Int) + (n : Int) - 1 = ((i + n - 1 : Nat) : Int) by omega]
  exact (Int.natCast_emod _ _).symm
theorem arcR_bd {l : List Int} (hb : ∀ x ∈ l, inT x) : (0 ≤ (arcR l).1 ∧ (arcR l).1 ≤ 65535) ∧ 0 ≤ (arcR l).2 ∧ (arcR l).2 ≤ 65536 := by
  by_cases h : l = []
  · subst h; decide
  · obtain ⟨h1, h2,_⟩ := arcR_is h
    have := hb _ h1
    have := arcW_bd l (arcR l).1
    unfold inT at *
    omega
theorem arcT_bd (m : List Int) {b : Int} (h1 : 0 ≤ b) (h2 : b ≤ 65535) : 0 ≤ arcT m b ∧ arcT m b ≤ 131070 * (m.length : Int) := by
  induction m with
  | nil => simp [arcT]
  | cons x m ih =>
    have := wr_bd (x - b)
    simp only [arcT, List.map_cons, List.sum_cons, List.length_cons] at *
    omega
theorem arcT_step {l : List Int} {b : Int} {j : Nat} (hj : j < l.length) : arcT (l.take (j + 1)) b = arcT (l.take j) b + (b + wr (l.getD j 0 - b)) := by
  unfold arcT
  rw [take_at (getD_some (d := 0) hj), List.map_append, List.sum_append]
  simp
theorem len0 {l : List Int} : (l.length : Int) = 0 ↔ l = [] := by
  rw [← List.length_eq_zero_iff]; omega
set_option maxRecDepth 20000 in
theorem tog_c (b wd s n ph : Int) (w : World) (h1 : 0 ≤ wd) (h2 : wd ≤ 65536) (h3 : 0 ≤ ph) (h4 : ph ≤ 4096) :
  Calls Tryz.prog 184 #[.agg #[.int .i64 b, .int .i64 wd, .int .i64 s, .int .i64 n], .int .i64 ph] w fun e w' => e = .returned (.bool (decide (n = 0) || decide (wd + 4 * ph < 32768))) ∧ St (bs w) [] w' := by
  refine enter (vs := [_,_]) (env := [(0,_), (1,_)]) Tryz.func184 rfl rfl rfl rfl ?_
  refine VC.seq ?_
  refine VC.reg (VO.h rfl<|HO.box (C := #[_,_,_,_]) rfl rfl fun b1 => VO.l (LO.as (.r rfl)) rfl<|VO.nil ?_)
  refine VE.seqN ?_
  refine VC.seq ?_
  refine VC.reg (VO.l (LO.fa (r := 3) F411_3 (.r rfl) rfl) rfl<|VO.l (LO.ld O3 (.r rfl) (fun _ hw => cells_at hw 0 rfl ⟨_, rfl⟩)) rfl<|VO.l (LO.eq (.r rfl) (.r rfl)) rfl<|VO.l (LO.mv (.r rfl)) rfl<|VO.lg rfl rfl (GD.f _) (fun hg => LO.fa (r := 1) F411_1 (.r rfl) rfl) rfl<|VO.lg rfl rfl (GD.f _) (fun hg => LO.ld O3 (.g hg rfl) (fun _ hw => cells_at hw 0 rfl ⟨_, rfl⟩)) rfl<|VO.lg rfl rfl (GD.f _) (fun hg => LO.mv (.r rfl)) rfl<|VO.lg rfl rfl (GD.f _) (fun hg => LO.mul (.r rfl) (.g hg rfl) (wi (by omega) (by omega))) rfl<|VO.lg rfl rfl (GD.f _) (fun hg => LO.add (.g hg rfl) (.g hg rfl) (wi (by omega) (by omega))) rfl<|VO.lg rfl rfl (GD.f _) (fun hg => LO.lt (.g hg rfl) (.r rfl)) rfl<|VO.l (LO.pkO (.r rfl) (.r rfl) rfl rfl) rfl<|VO.l (LO.as (.r rfl)) rfl<|VO.nil ?_)
  refine VE.seqN ?_
  refine VC.ret (VE.res (vs := [_]) rfl ⟨rfl, trivial⟩ (fun w hw => ?_))
  exact ⟨rfl, hw.nil⟩

set_option maxRecDepth 20000 in
theorem mean_c (b wd s n sl : Int) (w : World) (hs1 : -1000000000000 ≤ s) (hs2 : s ≤ 1000000000000) (hl1 : 0 ≤ sl) (hl2 : sl ≤ 1000000000000) (hn : 0 ≤ n) (hn2 : n ≤ 1000000000000) :
  Calls Tryz.prog 185 #[.agg #[.int .i64 b, .int .i64 wd, .int .i64 s, .int .i64 n], .int .i64 sl] w fun e w' => e = .returned (spanV (meanR s n sl)) ∧ St (bs w) [] w' := by
  refine enter (vs := [_,_]) (env := [(0,_), (1,_)]) Tryz.func185 rfl rfl rfl rfl ?_
  refine VC.seq ?_
  refine VC.reg (VO.h rfl<|HO.box (C := #[_,_,_,_]) rfl rfl fun b1 => VO.h rfl<|HO.alloc (C := #[_,_]) Z25 rfl fun b2 => VO.nil ?_)
  refine VE.seqN ?_
  refine VC.seq ?_
  refine VC.seq ?_
  refine VC.reg (VO.l (LO.fa (r := 3) F411_3 (.r rfl) rfl) rfl<|VO.l (LO.ld O3 (.r rfl) (fun _ hw => cells_at hw 1 rfl ⟨_, rfl⟩)) rfl<|VO.l (LO.eq (.r rfl) (.r rfl)) rfl<|VO.nil ?_)
  refine VE.seqN ?_
  refine VC.cond rfl (fun h1 => ?_) (fun h1 => ?_)
  ·
    refine VC.seq ?_
    refine VC.reg (VO.l (LO.bd (ps := []) (vs := []) (C := [_,_]) B25  trivial rfl rfl) rfl<|VO.h0<|HO.st 0 (vs := [_,_]) (C' := [_,_]) (L' := [_,_]) N25 rfl rfl rfl rfl rfl rfl rfl rfl<|VO.nil ?_)
    refine VE.seqN ?_
    refine VC.ret (VE.thenR (VE.res (vs := [_]) rfl ⟨RV.agg (vs := [_,_]) A25 rfl (cells_blk 0 rfl ⟨_, rfl⟩) rfl, trivial⟩ (fun w hw => ?_)))
    refine ⟨?_, hw.nil⟩
    simp only [resV]
    first | (rw [meanR, if_pos h1]; rfl) | (rw [meanR, if_neg h1])
  ·
    have hn0 : 0 < n := by omega
    have hlo := ediv_abs (a := s - sl) (B := 2000000000000) hn0 (by omega) (by omega) (by omega)
    have hhi := ediv_abs (a := -(s + sl)) (B := 2000000000000) hn0 (by omega) (by omega) (by omega)
    have hw3 := wr_bd ((s - sl) / n + 32768)
    refine VC.skip (VE.seqN ?_)
    refine VC.seq ?_
    refine VC.draw mixed (LL.l (LO.fa (r := 2) F411_2 (.r rfl) rfl) rfl<|LL.l (LO.ld O3 (.r rfl) (fun _ hw => cells_at hw 1 rfl ⟨_, rfl⟩)) rfl<|LL.l (LO.mv (.r rfl)) rfl<|LL.l (LO.sub (.r rfl) (.r rfl) (wi (by omega) (by omega))) rfl<|LL.l (LO.fa (r := 3) F411_3 (.r rfl) rfl) rfl<|LL.l (LO.ld O3 (.r rfl) (fun _ hw => cells_at hw 1 rfl ⟨_, rfl⟩)) rfl<|LL.l (LO.call (xs := [_,_]) (vs := [_,_]) C179 ⟨(.r rfl), (.r rfl), trivial⟩ (fun w _ => down_c _ _ (by omega) (by omega) (by omega) w)) rfl<|LL.l (LO.fa (r := 2) F411_2 (.r rfl) rfl) rfl<|LL.l (LO.ld O3 (.r rfl) (fun _ hw => cells_at hw 1 rfl ⟨_, rfl⟩)) rfl<|LL.l (LO.mv (.r rfl)) rfl<|LL.l (LO.add (.r rfl) (.r rfl) (wi (by omega) (by omega))) rfl<|LL.l (LO.fa (r := 3) F411_3 (.r rfl) rfl) rfl<|LL.l (LO.ld O3 (.r rfl) (fun _ hw => cells_at hw 1 rfl ⟨_, rfl⟩)) rfl<|LL.l (LO.call (xs := [_,_]) (vs := [_,_]) C180 ⟨(.r rfl), (.r rfl), trivial⟩ (fun w _ => up_c _ _ (by omega) (by omega) (by omega) w)) rfl<|LL.l (LO.as (.r rfl)) rfl<|LL.l (LO.as (.r rfl)) rfl<|LL.nil) (by kernel_rfl) ?_
    refine VE.seqN ?_
    refine VC.seq ?_
    refine VC.reg (VO.l (LO.mv (.r rfl)) rfl<|VO.l (LO.add (.r rfl) (.r rfl) (wi (by omega) (by omega))) rfl<|VO.l (LO.call (xs := [_]) (vs := [_]) C112 ⟨(.r rfl), trivial⟩ (fun w _ => wrap_c _ w)) rfl<|VO.l (LO.sub (.r rfl) (.r rfl) (wi (by omega) (by omega))) rfl<|VO.l (LO.as (.r rfl)) rfl<|VO.nil ?_)
    refine VE.seqN ?_
    refine VC.seq ?_
    refine VC.reg (VO.l (LO.mv (.r rfl)) rfl<|VO.l (LO.mv (.r rfl)) rfl<|VO.l (LO.mv (.r rfl)) rfl<|VO.l (LO.add (.r rfl) (.r rfl) (wi (by unfold up; omega) (by unfold up; omega))) rfl<|VO.l (LO.mv (.r rfl)) rfl<|VO.l (LO.sub (.r rfl) (.r rfl) (wi (by unfold up; omega) (by unfold up; omega))) rfl<|VO.l (LO.bd (ps := [(_,_), (_,_)]) (vs := [(_,_), (_,_)]) (C := [_,_]) B25  ⟨(.r rfl), (.r rfl), trivial⟩ rfl ⟨_, [_], [_,_], rfl, rfl, rfl, rfl, ⟨_, [_], [_,_], rfl, rfl, rfl, rfl, rfl⟩⟩) rfl<|VO.h0<|HO.st 0 (vs := [_,_]) (C' := [_,_]) (L' := [_,_]) N25 rfl rfl rfl rfl rfl rfl rfl rfl<|VO.nil ?_)
    refine VE.seqN ?_
    refine VC.ret (VE.res (vs := [_]) rfl ⟨RV.agg (vs := [_,_]) A25 rfl (cells_blk 0 rfl ⟨_, rfl⟩) rfl, trivial⟩ (fun w hw => ?_))
    refine ⟨?_, hw.nil⟩
    simp only [resV]
    first | (rw [meanR, if_pos h1]; rfl) | (rw [meanR, if_neg h1])

set_option maxRecDepth 20000 in
theorem arcOf_c (l : List Int) (p : Option Addr) (c : Nat) (w : World) (hn : l.length < 1000000000) (hl : Ints w p l) (hb : ∀ x ∈ l, inT x) :
  Calls Tryz.prog 183 #[.slice p l.length c] w fun e w' => e = .returned (arcV l) ∧ St (bs w) [] w' := by
  have hS1 := comp_asc l
  have hS2 := comp_mem l
  have hS3 := compact_len (sortL l)
  rw [sortL_len] at hS3
  have hS4 : ∀ k, k < (Lib.compact (sortL l)).length → inT ((Lib.compact (sortL l)).getD k 0) := fun k hk => hb _ ((hS2 _).1 (getD_mem hk))
  have hA1 := asc_arc hS1 hS2
  refine enter (vs := [_]) (env := [(0,_)]) Tryz.func183 rfl rfl rfl rfl ?_
  refine VC.seq ?_
  refine VC.reg (VO.h rfl<|HO.alloc (C := #[_,_,_,_]) Z411 rfl fun b1 => VO.nil ?_)
  refine VE.seqN ?_
  refine VC.seq ?_
  refine VC.reg (VO.l (LO.mv (.r rfl)) rfl<|VO.h rfl<|HO.callx (xs := [_]) (vs := [_]) C228 ⟨(.r rfl), trivial⟩ (fun w _ => values_c l p c w) fun vb _ => VO.h rfl<|HO.callx (xs := [_]) (vs := [_]) C150 ⟨(.r rfl), trivial⟩ (fun w hw => sorted_c 265 [.pointer (some ⟨vb, 0, none⟩)] (valCap l p c vb) l w C265 (values_seq l p c vb (by omega)) (fun w2 h2 => ⟨cells_fr h2 (cells_at hw 0 rfl ⟨[], rfl⟩), ro_fr h2 (hl.keep w hw)⟩) (by omega)) fun x _ => VO.h rfl<|HO.callh (first := []) (cap := []) (xs := [_]) (vs := [_]) 0 (fun R => [R,_,_]) rfl (.r rfl) C227 ⟨(.r rfl), trivial⟩ (fun _ => rfl) (fun w hw => Compact_h 0 hw rfl (by rw [sortL_len]; omega)) fun _ _ => VO.h rfl<|HO.lo (LO.as (.r rfl))<|VO.nil ?_)
  refine VE.seqN ?_
  refine VC.seq ?_
  refine VC.reg (VO.l (LO.mv (.r rfl)) rfl<|VO.l (LO.len S112 (.r rfl) rfl) rfl<|VO.l (LO.bd (ps := [(_,_), (_,_)]) (vs := [(_,_), (_,_)]) (C := [_,_,_,_]) B411  ⟨(.r rfl), (.r rfl), trivial⟩ rfl ⟨_, [_], [_,_,_,_], rfl, rfl, rfl, rfl, ⟨_, [_], [_,_,_,_], rfl, rfl, rfl, rfl, rfl⟩⟩) rfl<|VO.h rfl<|HO.alloc (C := #[_,_,_,_]) Z411 rfl fun b5 => VO.h0<|HO.st 0 (vs := [_,_,_,_]) (C' := [_,_,_,_]) (L' := [_,_,_,_]) N411 rfl rfl rfl rfl rfl rfl rfl rfl<|VO.nil ?_)
  refine VE.seqN ?_
  refine VC.seq ?_
  refine VC.seq ?_
  refine VC.reg (VO.l (LO.mv (.r rfl)) rfl<|VO.l (LO.len S112 (.r rfl) rfl) rfl<|VO.l (LO.mv (.r rfl)) rfl<|VO.nil ?_)
  refine VE.seqN ?_
  refine VC.block ?_
  refine VC.loopK (α := Nat) 1 (fun gx => [(20, .int .i64 (gx : Nat))]) [(0,_), (2,_), (3,_), (4,_), (18,_), (19,_)] (fun gx => [blk b5 (.cells #[.int .i64 (ascF (Lib.compact (sortL l)) gx).1, .int .i64 (ascF (Lib.compact (sortL l)) gx).2, .int .i64 0, .int .i64 l.length] 411)]) (fun gx => gx ≤ (Lib.compact (sortL l)).length) (fun gx => (Lib.compact (sortL l)).length - gx) 0 (by exact Nat.zero_le _) (.cons rfl (.cons rfl (.cons rfl (.cons rfl (.cons rfl (.cons rfl (.cons rfl .nil))))))) (fun _ h => h) ?_
  rintro i hi
  refine VC.seq ?_
  refine VC.reg (VO.l (LO.lt (.r rfl) (.r rfl)) rfl<|VO.nil ?_)
  refine VE.seqN ?_
  refine VC.seq ?_
  refine VC.cond rfl (fun h1 => ?_) (fun h1 => ?_)
  ·
    refine VC.skip (VE.seqN ?_)
    refine VC.seq ?_
    refine VC.block ?_
    refine VC.seq ?_
    refine VC.reg (VO.l (LO.mv (.r rfl)) rfl<|VO.l (LO.ixo S112 N3 (fun _ hw => (own_rows hw 1 rfl).some (by simp)) (.r rfl) (.r rfl) rfl (by omega)) rfl<|VO.l (LO.ld O3 (.r rfl) (fun w hw => cells_part (off := 0) (own_cell hw 1 rfl (getD_some (d := 0) (by first | omega | exact Nat.mod_lt _ (by omega)))) ⟨_, rfl⟩)) rfl<|VO.l (LO.as (.r rfl)) rfl<|VO.l (LO.as (.r rfl)) rfl<|VO.nil ?_)
    refine VE.seqN ?_
    refine VC.seq ?_
    refine VC.reg (VO.l (LO.mv (.r rfl)) rfl<|VO.l (LO.mv (.r rfl)) rfl<|VO.l (LO.mv (.r rfl)) rfl<|VO.l (LO.len S112 (.r rfl) rfl) rfl<|VO.l (LO.add (.r rfl) (.r rfl) (wi (by omega) (by omega))) rfl<|VO.l (LO.sub (.r rfl) (.r rfl) (wi (by omega) (by omega))) rfl<|VO.l (LO.mv (.r rfl)) rfl<|VO.l (LO.len S112 (.r rfl) rfl) rfl<|VO.l (LO.rem (.r rfl) (.r rfl) (by omega)) rfl<|VO.l (LO.ixo S112 N3 (fun _ hw => (own_rows hw 1 rfl).some (by simp)) (.r rfl) (.r rfl) (rem_ix (by omega)) (Nat.mod_lt _ (by omega))) rfl<|VO.l (LO.ld O3 (.r rfl) (fun w hw => cells_part (off := 0) (own_cell hw 1 rfl (getD_some (d := 0) (by first | omega | exact Nat.mod_lt _ (by omega)))) ⟨_, rfl⟩)) rfl<|VO.l (LO.as (.r rfl)) rfl<|VO.nil ?_)
    refine VE.seqN ?_
    refine VC.seq ?_
    have q1 := hS4 i (by omega)
    have q2 := hS4 ((i + (Lib.compact (sortL l)).length - 1) % (Lib.compact (sortL l)).length) (Nat.mod_lt _ (by omega))
    unfold inT at q1 q2
    refine VC.reg (VO.l (LO.mv (.r rfl)) rfl<|VO.l (LO.mv (.r rfl)) rfl<|VO.l (LO.sub (.r rfl) (.r rfl) (wi (by omega) (by omega))) rfl<|VO.l (LO.call (xs := [_]) (vs := [_]) C112 ⟨(.r rfl), trivial⟩ (fun w _ => wrap_c _ w)) rfl<|VO.l (LO.as (.r rfl)) rfl<|VO.nil ?_)
    refine VE.seqN ?_
    refine VC.seq ?_
    refine VC.reg (VO.l (LO.mv (.r rfl)) rfl<|VO.l (LO.fa (r := 1) F411_1 (.r rfl) rfl) rfl<|VO.l (LO.ld O3 (.r rfl) (fun _ hw => cells_at hw 0 rfl ⟨_, rfl⟩)) rfl<|VO.l (LO.lt (.r rfl) (.r rfl)) rfl<|VO.nil ?_)
    refine VE.seqN ?_
    refine VC.cond rfl (fun h43 => ?_) (fun h43 => ?_)
    ·
      refine VC.reg (VO.l (LO.mv (.r rfl)) rfl<|VO.l (LO.mv (.r rfl)) rfl<|VO.l (LO.fa (r := 0) F411_0 (.r rfl) rfl) rfl<|VO.h0<|HO.st 0 (vs := [_]) (C' := [_,_,_,_]) (L' := [_,_,_,_]) N3 rfl rfl rfl rfl rfl rfl rfl rfl<|VO.l (LO.fa (r := 1) F411_1 (.r rfl) rfl) rfl<|VO.h0<|HO.st 0 (vs := [_]) (C' := [_,_,_,_]) (L' := [_,_,_,_]) N3 rfl rfl rfl rfl rfl rfl rfl rfl<|VO.nil ?_)
      refine VE.inN (VE.seqN ?_)
      refine VC.reg (VO.l (LO.add (.r rfl) (.r rfl) (wi (by omega) (by omega))) rfl<|VO.l (LO.mv (.r rfl)) rfl<|VO.nil ?_)
      refine VE.thenN fun a w ha hw => ⟨i + 1, (by omega), (by omega), ha.sub (.cons rfl (.cons rfl (.cons rfl (.cons rfl (.cons rfl (.cons rfl (.cons rfl .nil))))))), (by first | (rw [asc_t hS1 hS4 (by omega) h43]; exact hw) | (rw [asc_f hS1 hS4 (by omega) h43]; exact hw))⟩
    ·
      refine VC.skip (VE.inN (VE.seqN ?_))
      refine VC.reg (VO.l (LO.add (.r rfl) (.r rfl) (wi (by omega) (by omega))) rfl<|VO.l (LO.mv (.r rfl)) rfl<|VO.nil ?_)
      refine VE.thenN fun a w ha hw => ⟨i + 1, (by omega), (by omega), ha.sub (.cons rfl (.cons rfl (.cons rfl (.cons rfl (.cons rfl (.cons rfl (.cons rfl .nil))))))), (by first | (rw [asc_t hS1 hS4 (by omega) h43]; exact hw) | (rw [asc_f hS1 hS4 (by omega) h43]; exact hw))⟩
  ·
    refine VC.exit (VE.thenX (VE.thenX (VE.inX (VE.seqN ?_))))
    refine VC.seq ?_
    refine VC.seq ?_
    have hi0 : i = (Lib.compact (sortL l)).length := by omega
    have hAi : ascF (Lib.compact (sortL l)) i = arcR l := by rw [hi0, ascF, List.take_length]; exact hA1
    rw [hAi]
    clear hAi hi0
    have hB := arcR_bd hb
    refine VC.reg (VO.l (LO.mv (.r rfl)) rfl<|VO.l (LO.len S112 (.r rfl) rfl) rfl<|VO.l (LO.mv (.r rfl)) rfl<|VO.nil ?_)
    refine VE.seqN ?_
    refine VC.block ?_
    refine VC.loopK (α := Nat) 1 (fun gx => [(51, .int .i64 (gx : Nat))]) [(2,_), (4,_), (49,_), (50,_)] (fun gx => [blk b5 (.cells #[.int .i64 (arcR l).1, .int .i64 (arcR l).2, .int .i64 (arcT (l.take gx) (arcR l).1), .int .i64 l.length] 411)]) (fun gx => gx ≤ l.length) (fun gx => l.length - gx) 0 (by exact Nat.zero_le _) (.cons rfl (.cons rfl (.cons rfl (.cons rfl (.cons rfl .nil))))) (fun _ h => h) ?_
    rintro j hj
    refine VC.seq ?_
    refine VC.reg (VO.l (LO.lt (.r rfl) (.r rfl)) rfl<|VO.nil ?_)
    refine VE.seqN ?_
    refine VC.seq ?_
    refine VC.cond rfl (fun h3 => ?_) (fun h3 => ?_)
    ·
      refine VC.skip (VE.seqN ?_)
      refine VC.seq ?_
      refine VC.block ?_
      refine VC.seq ?_
      refine VC.reg (VO.l (LO.ixs S112 N3 hl.some (.r rfl) (.r rfl) rfl (by omega)) rfl<|VO.l (LO.ld O3 (.r rfl) (fun w hw => cells_part (off := 0) ((hl.at (j := j) (by omega)) w hw) ⟨_, rfl⟩)) rfl<|VO.l (LO.as (.r rfl)) rfl<|VO.nil ?_)
      refine VE.seqN ?_
      have q3 := hb _ (getD_mem (d := 0) (show j < l.length by omega))
      unfold inT at q3
      have q4 := arcT_bd (l.take j) (b := (arcR l).1) (by omega) (by omega)
      rw [List.length_take] at q4
      have q5 := wr_bd (l.getD j 0 - (arcR l).1)
      refine VC.drawH [[0,1,2,3], [1,2,3]] [some 0, some 0, some 0, some 0, some 0, some 0, some 0, some 0, some 0, some 0, some 0, some 0, none] mixed (by kernel_rfl) rfl (LX.l (fun _ hJ => LO.fa (r := 2) F411_2 (.r rfl) rfl) rfl<|LX.l (fun _ hJ => LO.ld O3 (.r rfl) (fun _ hw => cells_at (hJ _ hw) 0 rfl ⟨_, rfl⟩)) rfl<|LX.l (fun _ hJ => LO.fa (r := 0) F411_0 (.r rfl) rfl) rfl<|LX.l (fun _ hJ => LO.ld O3 (.r rfl) (fun _ hw => cells_at (hJ _ hw) 0 rfl ⟨_, rfl⟩)) rfl<|LX.l (fun _ hJ => LO.mv (.r rfl)) rfl<|LX.l (fun _ hJ => LO.fa (r := 0) F411_0 (.r rfl) rfl) rfl<|LX.l (fun _ hJ => LO.ld O3 (.r rfl) (fun _ hw => cells_at (hJ _ hw) 0 rfl ⟨_, rfl⟩)) rfl<|LX.l (fun _ hJ => LO.sub (.r rfl) (.r rfl) (wi (by omega) (by omega))) rfl<|LX.l (fun _ hJ => LO.call (xs := [_]) (vs := [_]) C112 ⟨(.r rfl), trivial⟩ (fun w _ => wrap_c _ w)) rfl<|LX.l (fun _ hJ => LO.add (.r rfl) (.r rfl) (wi (by omega) (by omega))) rfl<|LX.l (fun _ hJ => LO.add (.r rfl) (.r rfl) (wi (by omega) (by omega))) rfl<|LX.l (fun _ hJ => LO.fa (r := 2) F411_2 (.r rfl) rfl) rfl<|LX.s<|LX.nil) (HX.s<|HX.s<|HX.s<|HX.s<|HX.s<|HX.s<|HX.s<|HX.s<|HX.s<|HX.s<|HX.s<|HX.s<|HX.h0<|HO.st 0 (vs := [_]) (C' := [_,_,_,_]) (L' := [_,_,_,_]) N3 rfl rfl rfl rfl rfl rfl rfl rfl<|⟨fun _ hw => hw.sel [1,2,3] rfl, HX.nil ?_⟩)
      refine VE.inN (VE.seqN ?_)
      refine VC.reg (VO.l (LO.add (.r rfl) (.r rfl) (wi (by omega) (by omega))) rfl<|VO.l (LO.mv (.r rfl)) rfl<|VO.nil ?_)
      refine VE.thenN fun a w ha hw => ⟨j + 1, (by omega), (by omega), ha.sub (.cons rfl (.cons rfl (.cons rfl (.cons rfl (.cons rfl .nil))))), (by rw [arcT_step (by omega)]; exact hw)⟩
    ·
      refine VC.exit (VE.thenX (VE.thenX (VE.inX (VE.seqN ?_))))
      refine VC.seq ?_
      refine VC.reg (VO.l (LO.lda (vs := [_,_,_,_]) A411 (.r rfl) (fun _ hw => cells_at hw 0 rfl ⟨_, rfl⟩) rfl) rfl<|VO.h0<|HO.st 3 (vs := [_,_,_,_]) (C' := [_,_,_,_]) (L' := [_,_,_,_]) N411 rfl rfl rfl rfl rfl rfl rfl rfl<|VO.nil ?_)
      refine VE.seqN ?_
      refine VC.ret (VE.res (vs := [_]) rfl ⟨RV.agg (vs := [_,_,_,_]) A411 rfl (cells_blk 3 rfl ⟨_, rfl⟩) rfl, trivial⟩ (fun w hw => ?_))
      refine ⟨?_, hw.nil⟩
      simp only [resV]
      rw [show l.take j = l from List.take_of_length_le (by omega)]
      rfl

end Go.Proofs.YtffbohecdocajaaGreat

namespace Go.Proofs.YtffbohecdocajaaGreat
open Go.SL Go.Proofs Go.Pulse
set_option linter.unusedVariables false

theorem C226 : IsFn Tryz.prog 226 := ⟨_, Tryz.func226, by decide, rfl⟩
theorem S40 : IsSlice Tryz.prog 40 50 := Tryz.underlying40
theorem N50 : (Tryz.prog.info? 50).map (·.size) = some 4 := by kernel_rfl
theorem A50 : IsAgg Tryz.prog 50 4 := ⟨⟨_, Tryz.underlying50, rfl⟩, by kernel_rfl⟩
theorem Z50 : ZeroOf Tryz.prog 50 (.agg #[.int .i64 0, .int .i64 0, .int .i64 0, .int .i64 0]) := by unfold ZeroOf; kernel_rfl
theorem F50_0 : FieldAt Tryz.prog 50 0 0 := ⟨_,_, Tryz.underlying50, rfl, rfl, 0, by kernel_rfl⟩
theorem F50_2 : FieldAt Tryz.prog 50 2 2 := ⟨_,_, Tryz.underlying50, rfl, rfl, 0, by kernel_rfl⟩
theorem O40 : IsOne Tryz.prog 40 := ⟨⟨_, Tryz.underlying40, rfl⟩, by kernel_rfl⟩
theorem F50_1 : FieldAt Tryz.prog 50 1 1 := ⟨_,_, Tryz.underlying50, rfl, rfl, 0, by kernel_rfl⟩


theorem ro_keepO {α : Type} {z : Nat} {f : α → List Value} {β : Bs} {p : Option Addr} {l : List α} {L : List Res} (hO : l ≠ [] → ¬ β.O (pb p)) (h : RO z f β.w p l) : ∀ w, St β L w → RO z f w p l := fun w hw => by
  refine ⟨fun j r hr => ?_, h.nil, h.spot⟩
  refine cells_keepO (hO ?_) (Go.SL.Rows.cells h j r hr) w hw
  intro e; rw [e] at hr; simp at hr
theorem ro_drop {α : Type} {z : Nat} {f : α → List Value} {w : World} {p : Option Addr} {l : List α} {k c : Nat} (h : RO z f w p l) (hk : k ≤ l.length) (hc : l.length ≤ c) : RO z f w (slFrom p c k z) (l.drop k) := by
  have := rows_drop (k := k) (c := c) h (by simpa using hk) (by simpa using hc)
  unfold RO; rw [List.map_drop]; exact this
theorem drop_here {α : Type} {z : Nat} {f : α → List Value} {w : World} {p : Option Addr} {l : List α} {k c : Nat} {d : α} (h : RO z f w p l) (hk : k ≤ l.length) (hc : l.length ≤ c) {j : Nat} (hj : k + j < l.length) : Cells w ⟨pb (slFrom p c k z), po (slFrom p c k z) + j * z, none⟩ (f (l.getD (j + k) d)) := by
  have h1 := (ro_drop h hk hc).here d (j := j) (by rw [List.length_drop]; omega)
  rw [show (l.drop k).getD j d = l.getD (j + k) d by rw [List.getD_eq_getElem?_getD, List.getD_eq_getElem?_getD, List.getElem?_drop, Nat.add_comm]] at h1
  exact h1
theorem max_bd {a m : Int} (h1 : 0 ≤ a) (h2 : a ≤ 1023) (h3 : -64 ≤ m) (h4 : m ≤ 64) : 0 ≤ max 0 (a + m) ∧ max 0 (a + m) ≤ 1087 := by omega
theorem prod_bd {x y A B : Int} (h1 : 0 ≤ x) (h2 : x ≤ A) (h3 : 0 ≤ y) (h4 : y ≤ B) : 0 ≤ x * y ∧ x * y ≤ A * B := by
  refine ⟨Int.mul_nonneg h1 h3, ?_⟩
  exact Int.le_trans (Int.mul_le_mul_of_nonneg_right h2 h3) (Int.mul_le_mul_of_nonneg_left h4 (Int.le_trans h1 h2))
theorem sq_bd {a c m : Int} (h1 : 0 ≤ a) (h2 : a ≤ 1023) (h5 : 0 ≤ c) (h6 : c ≤ 1023) (h3 : -64 ≤ m) (h4 : m ≤ 64) : 0 ≤ max 0 (a + m) * max 0 (c + m) ∧ max 0 (a + m) * max 0 (c + m) ≤ 1181569 := by
  have q1 := max_bd h1 h2 h3 h4
  have q2 := max_bd h5 h6 h3 h4
  exact prod_bd (A := 1087) (B := 1087) q1.1 q1.2 q2.1 q2.2
theorem sum_bd {α : Type} {f : α → Int} {B : Int} : ∀ {l : List α}, (∀ x ∈ l, 0 ≤ f x ∧ f x ≤ B) → 0 ≤ (l.map f).sum ∧ (l.map f).sum ≤ B * (l.length : Int)
  | [],_ => by simp
  | x :: l, h => by
    have h1 := h x (by simp)
    have h2 := sum_bd (f := f) (B := B) (l := l) (fun y hy => h y (by simp [hy]))
    simp only [List.map_cons, List.sum_cons, List.length_cons]
    rw [show ((l.length + 1 : Nat) : Int) = (l.length : Int) + 1 by omega, Int.mul_add, Int.mul_one]
    omega
theorem sum_step {α : Type} {f : α → Int} {l : List α} {d : α} {j : Nat} (hj : j < l.length) : ((l.take (j + 1)).map f).sum = ((l.take j).map f).sum + f (l.getD j d) := by
  rw [take_at (getD_some (d := d) hj), List.map_append, List.sum_append]; simp
section
variable {m : Int} {l : List Sample}
theorem sumH_bd (h3 : -64 ≤ m) (h4 : m ≤ 64) (hs : ∀ x ∈ l, smpOk x) : 0 ≤ sumH m l ∧ sumH m l ≤ 1181569 * (l.length : Int) := sum_bd (fun x hx => by
  have q := hs x hx
  unfold smpOk at q
  exact sq_bd (by omega) (by omega) (by omega) (by omega) h3 h4)
theorem sumV_bd (h3 : -64 ≤ m) (h4 : m ≤ 64) (hs : ∀ x ∈ l, smpOk x) : 0 ≤ sumV m l ∧ sumV m l ≤ 1181569 * (l.length : Int) := sum_bd (fun x hx => by
  have q := hs x hx
  unfold smpOk at q
  exact sq_bd (by omega) (by omega) (by omega) (by omega) h3 h4)
theorem sumX_bd (h3 : -64 ≤ m) (h4 : m ≤ 64) (hs : ∀ x ∈ l, smpOk x) : 0 ≤ sumX m l ∧ sumX m l ≤ 1181569 * (l.length : Int) := sum_bd (fun x hx => by
  have q := hs x hx
  unfold smpOk at q
  exact sq_bd (by omega) (by omega) (by omega) (by omega) h3 h4)
theorem sumH_step {j : Nat} (hj : j < l.length) : sumH m (l.take (j + 1)) = sumH m (l.take j) + max 0 ((l.getD j zSm).h + m) * max 0 ((l.getD j zSm).h + m) := sum_step hj
theorem sumV_step {j : Nat} (hj : j < l.length) : sumV m (l.take (j + 1)) = sumV m (l.take j) + max 0 ((l.getD j zSm).v + m) * max 0 ((l.getD j zSm).v + m) := sum_step hj
theorem sumX_step {j : Nat} (hj : j < l.length) : sumX m (l.take (j + 1)) = sumX m (l.take j) + max 0 ((l.getD j zSm).h + m) * max 0 ((l.getD j zSm).v + m) := sum_step hj
end
theorem tdiv_nat (n : Nat) : ((n : Int)).tdiv 2 = ((n / 2 : Nat) : Int) := by rw [Int.tdiv_eq_ediv_of_nonneg (by omega)]; omega
def pairC (q : Int × Int) : List Value := [.int .i64 q.1, .int .i64 q.2]
def stQ (kind : Int) (l : List Sample) (m : Nat) : List (Int × Int) := ((List.range m).filter fun i => decide (stW kind l.length i ≠ 2)).map fun i => (stW kind l.length i, stD l i)
def stepCap (t : Train) (l : List Sample) (p : Option Addr) (c b d : Nat) (w : World) : Prop := Cells w ⟨b, 0, none⟩ [.slice p l.length c] ∧ Cells w ⟨d, 0, none⟩ [.int .i64 t.lam, .int .i64 t.kind, .int .i64 t.first, .int .i64 t.second, .int .i64 t.count] ∧ Smps w p l
section
variable {k v : Int} {l : List Sample} {i n : Nat}
theorem stW1 (h : k = 1) : stW k n i = 0 ∧ (0 : Int) ≠ 2 := ⟨if_pos h, by decide⟩
theorem stW2a (h : k = 2) (h2 : n / 2 ≤ i) : stW k n i = 1 ∧ (1 : Int) ≠ 2 := ⟨by unfold stW; rw [if_neg (by omega), if_pos h, if_neg (by omega), if_pos h2], by decide⟩
theorem stW2b (h : k = 2) (h2 : ¬ n / 2 ≤ i) (h3 : ¬ i + 1 = n / 2) : stW k n i = 0 ∧ (0 : Int) ≠ 2 := ⟨by unfold stW; rw [if_neg (by omega), if_pos h, if_neg h3, if_neg h2], by decide⟩
theorem stW3 (h : ¬ k = 1) (h2 : ¬ k = 2) (h3 : k = 3) : stW k n i = ((i : Int)).tmod 2 ∧ ((i : Int)).tmod 2 ≠ 2 := by
  rw [Int.tmod_eq_emod_of_nonneg (by omega)]
  refine ⟨?_, by omega⟩
  unfold stW; rw [if_neg h, if_neg h2]; omega
theorem stQ_yes (h : stW k l.length i = v ∧ v ≠ 2) : (stQ k l (i + 1)).length = (stQ k l i).length + 1 := by
  unfold stQ; rw [List.range_succ, List.filter_append, List.map_append]
  simp [h.1, h.2]
theorem stQ_no (h : k = 2) (h2 : i + 1 = l.length / 2) : (stQ k l (i + 1)).length = (stQ k l i).length := by
  have e : stW k l.length i = 2 := by unfold stW; rw [if_neg (by omega), if_pos h, if_pos h2]
  unfold stQ; rw [List.range_succ, List.filter_append, List.map_append]
  simp [e]
theorem stQ_pre {m : Nat} (h : i ≤ m) : ∃ r, stQ k l m = stQ k l i ++ r := by
  induction m with
  | zero => exact ⟨[], by rw [show i = 0 by omega]; simp⟩
  | succ m ih =>
    rcases Nat.lt_or_ge m i with q | q
    · exact ⟨[], by rw [show i = m + 1 by omega]; simp⟩
    · obtain ⟨r, hr⟩ := ih q
      refine ⟨r ++ ((List.filter (fun i => decide (stW k l.length i ≠ 2)) [m]).map fun i => (stW k l.length i, stD l i)), ?_⟩
      rw [← List.append_assoc, ← hr]
      unfold stQ; rw [List.range_succ, List.filter_append, List.map_append]
theorem stQ_at' {m : Nat} (hm : i < m) (h : stW k l.length i = v ∧ v ≠ 2) : (stQ k l m)[(stQ k l i).length]? = some (v, stD l i) := by
  obtain ⟨r, hr⟩ := stQ_pre (k := k) (l := l) (i := i + 1) (m := m) (by omega)
  have e : stQ k l (i + 1) = stQ k l i ++ [(v, stD l i)] := by
    unfold stQ; rw [List.range_succ, List.filter_append, List.map_append]
    simp [h.1, h.2]
  rw [hr, e, List.append_assoc]
  simp
theorem stQ_at (hm : i < l.length - 1) (hk : k = 1 ∨ k = 2 ∨ k = 3) (h : stW k l.length i = v ∧ v ≠ 2) : ((stQ k l (l.length - 1)).map pairC)[(stQ k l i).length]? = some [.int .i64 v, .int .i64 (stD l i)] := by
  rw [List.getElem?_map, stQ_at' hm h]; rfl
theorem stQ_lt (hm : i < l.length - 1) (h : stW k l.length i = v ∧ v ≠ 2) : (stQ k l i).length + 1 ≤ (stQ k l (l.length - 1)).length := by
  have := stQ_at' hm h
  have := (List.getElem?_eq_some_iff.1 this).1
  omega
end

set_option maxRecDepth 20000 in
theorem of_c (b : Nat) (l : List Sample) (p : Option Addr) (c : Nat) (m : Int) (w : World) (hm1 : -64 ≤ m) (hm2 : m ≤ 64) (hn : l.length ≤ 64) (hs : ∀ x ∈ l, smpOk x) (hl : Smps w p l) (hne : l ≠ [] → pb p ≠ b) (hi0 : (blk b (.cells #[.int .i64 0, .int .i64 0, .int .i64 0] 402)).inv w) (hf0 : ∀ k, (blk b (.cells #[.int .i64 0, .int .i64 0, .int .i64 0] 402)).fp k → k < w.heap.size) :
  Calls Tryz.prog 178 #[.pointer (some ⟨b, 0, none⟩), .slice p l.length c, .int .i64 m] w fun e w' => e = .returned (.tuple #[]) ∧ St ⟨w, (blk b (.cells #[.int .i64 0, .int .i64 0, .int .i64 0] 402)).fp⟩ [blk b (.cells #[.int .i64 (sumH m l), .int .i64 (sumV m l), .int .i64 (sumX m l)] 402)] w' := by
  have hk : ∀ L w2, St ⟨w, (blk b (.cells #[.int .i64 0, .int .i64 0, .int .i64 0] 402)).fp⟩ L w2 → Smps w2 p l := fun L w2 h2 => ro_keepO (β := ⟨w, (blk b (.cells #[.int .i64 0, .int .i64 0, .int .i64 0] 402)).fp⟩) (by intro h3; exact hne h3) hl w2 h2
  refine enterO (vs := [_,_,_]) (env := [(0,_), (1,_), (2,_)]) (St.one hi0 hf0) Tryz.func178 rfl rfl rfl rfl ?_
  refine VC.seq ?_
  refine VC.reg (VO.l (LO.mv (.r rfl)) rfl<|VO.l (LO.len S40 (.r rfl) rfl) rfl<|VO.l (LO.mv (.r rfl)) rfl<|VO.nil ?_)
  refine VE.seqN ?_
  refine VC.block ?_
  refine VC.loopK (α := Nat) 1 (fun gx => [(12, .int .i64 (gx : Nat))]) [(0,_), (2,_), (10,_), (11,_)] (fun gx => [blk b (.cells #[.int .i64 (sumH m (l.take gx)), .int .i64 (sumV m (l.take gx)), .int .i64 (sumX m (l.take gx))] 402)]) (fun gx => gx ≤ l.length) (fun gx => l.length - gx) 0 (by exact Nat.zero_le _) (.cons rfl (.cons rfl (.cons rfl (.cons rfl (.cons rfl .nil))))) (fun _ h => h) ?_
  rintro j hj
  refine VC.seq ?_
  refine VC.reg (VO.l (LO.lt (.r rfl) (.r rfl)) rfl<|VO.nil ?_)
  refine VE.seqN ?_
  refine VC.seq ?_
  refine VC.cond rfl (fun h1 => ?_) (fun h1 => ?_)
  ·
    refine VC.skip (VE.seqN ?_)
    refine VC.seq ?_
    refine VC.block ?_
    refine VC.seq ?_
    refine VC.reg (VO.l (LO.ixs S40 N50 hl.sm (.r rfl) (.r rfl) rfl (by omega)) rfl<|VO.l (LO.lda (vs := [_,_,_,_]) A50 (.r rfl) (fun w hw => (hk _ w hw).here zSm (j := j) (by omega)) rfl) rfl<|VO.h rfl<|HO.alloc (C := #[_,_,_,_]) Z50 rfl fun b2 => VO.h0<|HO.st 0 (vs := [_,_,_,_]) (C' := [_,_,_,_]) (L' := [_,_]) N50 rfl rfl rfl rfl rfl rfl rfl rfl<|VO.nil ?_)
    refine VE.seqN ?_
    refine VC.seq ?_
    have q1 := hs _ (getD_mem (d := zSm) (show j < l.length by omega))
    unfold smpOk at q1
    refine VC.draw mixed (LL.l (LO.fa (r := 0) F50_0 (.r rfl) rfl) rfl<|LL.l (LO.ld O3 (.r rfl) (fun _ hw => cells_at hw 0 rfl ⟨_, rfl⟩)) rfl<|LL.l (LO.mv (.r rfl)) rfl<|LL.l (LO.add (.r rfl) (.r rfl) (wi (by omega) (by omega))) rfl<|LL.l (LO.max (.r rfl) (.r rfl)) rfl<|LL.l (LO.fa (r := 2) F50_2 (.r rfl) rfl) rfl<|LL.l (LO.ld O3 (.r rfl) (fun _ hw => cells_at hw 0 rfl ⟨_, rfl⟩)) rfl<|LL.l (LO.mv (.r rfl)) rfl<|LL.l (LO.add (.r rfl) (.r rfl) (wi (by omega) (by omega))) rfl<|LL.l (LO.max (.r rfl) (.r rfl)) rfl<|LL.l (LO.as (.r rfl)) rfl<|LL.l (LO.as (.r rfl)) rfl<|LL.nil) (by kernel_rfl) ?_
    refine VE.seqN ?_
    have q2 := sq_bd (a := (l.getD j zSm).h) (c := (l.getD j zSm).h) (m := m) (by omega) (by omega) (by omega) (by omega) hm1 hm2
    have q3 := sq_bd (a := (l.getD j zSm).v) (c := (l.getD j zSm).v) (m := m) (by omega) (by omega) (by omega) (by omega) hm1 hm2
    have q4 := sq_bd (a := (l.getD j zSm).h) (c := (l.getD j zSm).v) (m := m) (by omega) (by omega) (by omega) (by omega) hm1 hm2
    have r1 := sumH_bd (m := m) (l := l.take j) hm1 hm2 (fun x hx => hs x (List.mem_of_mem_take hx))
    have r2 := sumV_bd (m := m) (l := l.take j) hm1 hm2 (fun x hx => hs x (List.mem_of_mem_take hx))
    have r3 := sumX_bd (m := m) (l := l.take j) hm1 hm2 (fun x hx => hs x (List.mem_of_mem_take hx))
    rw [List.length_take] at r1 r2 r3
    refine VC.drawH [[0,1], [0], [0], [0]] [some 0, some 1, some 2, some 0, some 0, some 0, some 0, some 0, some 0, some 0, some 0, some 0, some 0, some 0, some 0, some 1, some 1, some 1, some 1, some 0, some 0, some 0, some 0, some 2, some 2, some 2, some 2, some 0, some 0, none, some 1, some 1, none, some 2, some 2, none] mixed (by kernel_rfl) rfl (LX.l (fun _ hJ => LO.mv (.r rfl)) rfl<|LX.l (fun _ hJ => LO.mv (.r rfl)) rfl<|LX.l (fun _ hJ => LO.mv (.r rfl)) rfl<|LX.l (fun _ hJ => LO.mv (.r rfl)) rfl<|LX.l (fun _ hJ => LO.nc (.r rfl)) rfl<|LX.l (fun _ hJ => LO.ixa (j := 0) (r := 0) Tryz.underlying402 N3 (.r rfl) (.r rfl) rfl (by decide) rfl) rfl<|LX.l (fun _ hJ => LO.ld O3 (.r rfl) (fun _ hw => cells_at (hJ _ hw) 1 rfl ⟨_, rfl⟩)) rfl<|LX.l (fun _ hJ => LO.mv (.r rfl)) rfl<|LX.l (fun _ hJ => LO.mv (.r rfl)) rfl<|LX.l (fun _ hJ => LO.mul (.r rfl) (.r rfl) (wi (by omega) (by omega))) rfl<|LX.l (fun _ hJ => LO.add (.r rfl) (.r rfl) (wi (by omega) (by omega))) rfl<|LX.l (fun _ hJ => LO.mv (.r rfl)) rfl<|LX.l (fun _ hJ => LO.nc (.r rfl)) rfl<|LX.l (fun _ hJ => LO.ixa (j := 1) (r := 1) Tryz.underlying402 N3 (.r rfl) (.r rfl) rfl (by decide) rfl) rfl<|LX.l (fun _ hJ => LO.ld O3 (.r rfl) (fun _ hw => cells_at (hJ _ hw) 1 rfl ⟨_, rfl⟩)) rfl<|LX.l (fun _ hJ => LO.mv (.r rfl)) rfl<|LX.l (fun _ hJ => LO.mv (.r rfl)) rfl<|LX.l (fun _ hJ => LO.mul (.r rfl) (.r rfl) (wi (by omega) (by omega))) rfl<|LX.l (fun _ hJ => LO.add (.r rfl) (.r rfl) (wi (by omega) (by omega))) rfl<|LX.l (fun _ hJ => LO.mv (.r rfl)) rfl<|LX.l (fun _ hJ => LO.nc (.r rfl)) rfl<|LX.l (fun _ hJ => LO.ixa (j := 2) (r := 2) Tryz.underlying402 N3 (.r rfl) (.r rfl) rfl (by decide) rfl) rfl<|LX.l (fun _ hJ => LO.ld O3 (.r rfl) (fun _ hw => cells_at (hJ _ hw) 1 rfl ⟨_, rfl⟩)) rfl<|LX.l (fun _ hJ => LO.mv (.r rfl)) rfl<|LX.l (fun _ hJ => LO.mv (.r rfl)) rfl<|LX.l (fun _ hJ => LO.mul (.r rfl) (.r rfl) (wi (by omega) (by omega))) rfl<|LX.l (fun _ hJ => LO.add (.r rfl) (.r rfl) (wi (by omega) (by omega))) rfl<|LX.l (fun _ hJ => LO.nc (.r rfl)) rfl<|LX.l (fun _ hJ => LO.ixa (j := 0) (r := 0) Tryz.underlying402 N3 (.r rfl) (.r rfl) rfl (by decide) rfl) rfl<|LX.s<|LX.l (fun _ hJ => LO.nc (.r rfl)) rfl<|LX.l (fun _ hJ => LO.ixa (j := 1) (r := 1) Tryz.underlying402 N3 (.r rfl) (.r rfl) rfl (by decide) rfl) rfl<|LX.s<|LX.l (fun _ hJ => LO.nc (.r rfl)) rfl<|LX.l (fun _ hJ => LO.ixa (j := 2) (r := 2) Tryz.underlying402 N3 (.r rfl) (.r rfl) rfl (by decide) rfl) rfl<|LX.s<|LX.nil) (HX.s<|HX.s<|HX.s<|HX.s<|HX.s<|HX.s<|HX.s<|HX.s<|HX.s<|HX.s<|HX.s<|HX.s<|HX.s<|HX.s<|HX.s<|HX.s<|HX.s<|HX.s<|HX.s<|HX.s<|HX.s<|HX.s<|HX.s<|HX.s<|HX.s<|HX.s<|HX.s<|HX.s<|HX.s<|HX.h0<|HO.st 1 (vs := [_]) (C' := [_,_,_]) (L' := [_,_]) N3 rfl rfl rfl rfl rfl rfl rfl rfl<|⟨fun _ hw => hw.sel [0] rfl, HX.s<|HX.s<|HX.h0<|HO.st 1 (vs := [_]) (C' := [_,_,_]) (L' := [_,_]) N3 rfl rfl rfl rfl rfl rfl rfl rfl<|⟨fun _ hw => hw.sel [0] rfl, HX.s<|HX.s<|HX.h0<|HO.st 1 (vs := [_]) (C' := [_,_,_]) (L' := [_,_]) N3 rfl rfl rfl rfl rfl rfl rfl rfl<|⟨fun _ hw => hw.sel [0] rfl, HX.nil ?_⟩⟩⟩)
    refine VE.inN (VE.seqN ?_)
    refine VC.reg (VO.l (LO.add (.r rfl) (.r rfl) (wi (by omega) (by omega))) rfl<|VO.l (LO.mv (.r rfl)) rfl<|VO.nil ?_)
    refine VE.thenN fun a w ha hw => ⟨j + 1, (by omega), (by omega), ha.sub (.cons rfl (.cons rfl (.cons rfl (.cons rfl (.cons rfl .nil))))), (by rw [sumH_step (by omega), sumV_step (by omega), sumX_step (by omega)]; exact hw.sel [1] rfl)⟩
  ·
    refine VC.exit (VE.thenX (VE.thenX (VE.inX (VE.resN (vs := []) rfl trivial (fun w hw => ?_)))))
    exact ⟨rfl, by rw [show l = l.take j from (List.take_of_length_le (by omega)).symm]; simpa using hw⟩

set_option maxRecDepth 20000 in
theorem shareD_c (a b : Int) (w : World) (ha1 : 0 ≤ a) (ha2 : a ≤ 100000000) (ha3 : 1000 * a * a ≤ 9000000000000000000) (ha4 : 0 ≤ 1000 * a * a) (hb1 : 0 ≤ b) :
  Calls Tryz.prog 181 #[.int .i64 a, .int .i64 b, .func (.func 179) #[] #[], .int .i64 0] w fun e w' => e = .returned (.int .i64 (shareD a b)) ∧ St (bs w) [] w' := by
  refine enter (vs := [_,_,_,_]) (env := [(0,_), (1,_), (2,_), (3,_)]) Tryz.func181 rfl rfl rfl rfl ?_
  refine VC.seq ?_
  refine VC.reg (VO.l (LO.as (.r rfl)) rfl<|VO.nil ?_)
  refine VE.seqN ?_
  refine VC.seq ?_
  refine VC.seq ?_
  refine VC.reg (VO.l (LO.mv (.r rfl)) rfl<|VO.l (LO.eq (.r rfl) (.r rfl)) rfl<|VO.nil ?_)
  refine VE.seqN ?_
  refine VC.cond rfl (fun h1 => ?_) (fun h1 => ?_)
  ·
    refine VC.seq ?_
    refine VC.reg (VO.l (LO.mv (.r rfl)) rfl<|VO.l (LO.as (.r rfl)) rfl<|VO.nil ?_)
    refine VE.seqN ?_
    refine VC.ret (VE.thenR (VE.res (vs := [_]) rfl ⟨rfl, trivial⟩ (fun w hw => ?_)))
    refine ⟨?_, hw.nil⟩
    simp only [resV]
    first | (rw [shareD, if_pos h1]; done) | (rw [shareD, if_neg h1]; done)
  ·
    refine VC.skip (VE.seqN ?_)
    refine VC.seq ?_
    refine VC.reg (VO.l (LO.mv (.r rfl)) rfl<|VO.l (LO.mv (.r rfl)) rfl<|VO.l (LO.mul (.r rfl) (.r rfl) (wi (by omega) (by omega))) rfl<|VO.l (LO.mv (.r rfl)) rfl<|VO.l (LO.mul (.r rfl) (.r rfl) (wi (by omega) (by omega))) rfl<|VO.l (LO.mv (.r rfl)) rfl<|VO.l (LO.callv (first := []) (cap := []) (xs := [_,_]) (vs := [_,_]) (.r rfl) C179 ⟨(.r rfl), (.r rfl), trivial⟩ (fun w _ => down_c _ _ (by omega) (by omega) (by omega) w)) rfl<|VO.l (LO.min (.r rfl) (.r rfl)) rfl<|VO.l (LO.as (.r rfl)) rfl<|VO.nil ?_)
    refine VE.seqN ?_
    refine VC.ret (VE.res (vs := [_]) rfl ⟨rfl, trivial⟩ (fun w hw => ?_))
    refine ⟨?_, hw.nil⟩
    simp only [resV]
    first | (rw [shareD, if_pos h1]; done) | (rw [shareD, if_neg h1]; done)

set_option maxRecDepth 20000 in
theorem shareU_c (a b : Int) (w : World) (ha1 : 0 ≤ a) (ha2 : a ≤ 100000000) (ha3 : 1000 * a * a ≤ 9000000000000000000) (ha4 : 0 ≤ 1000 * a * a) (hb1 : 0 ≤ b) :
  Calls Tryz.prog 181 #[.int .i64 a, .int .i64 b, .func (.func 180) #[] #[], .int .i64 1000] w fun e w' => e = .returned (.int .i64 (shareU a b)) ∧ St (bs w) [] w' := by
  refine enter (vs := [_,_,_,_]) (env := [(0,_), (1,_), (2,_), (3,_)]) Tryz.func181 rfl rfl rfl rfl ?_
  refine VC.seq ?_
  refine VC.reg (VO.l (LO.as (.r rfl)) rfl<|VO.nil ?_)
  refine VE.seqN ?_
  refine VC.seq ?_
  refine VC.seq ?_
  refine VC.reg (VO.l (LO.mv (.r rfl)) rfl<|VO.l (LO.eq (.r rfl) (.r rfl)) rfl<|VO.nil ?_)
  refine VE.seqN ?_
  refine VC.cond rfl (fun h1 => ?_) (fun h1 => ?_)
  ·
    refine VC.seq ?_
    refine VC.reg (VO.l (LO.mv (.r rfl)) rfl<|VO.l (LO.as (.r rfl)) rfl<|VO.nil ?_)
    refine VE.seqN ?_
    refine VC.ret (VE.thenR (VE.res (vs := [_]) rfl ⟨rfl, trivial⟩ (fun w hw => ?_)))
    refine ⟨?_, hw.nil⟩
    simp only [resV]
    first | (rw [shareU, if_pos h1]; done) | (rw [shareU, if_neg h1]; done)
  ·
    refine VC.skip (VE.seqN ?_)
    refine VC.seq ?_
    refine VC.reg (VO.l (LO.mv (.r rfl)) rfl<|VO.l (LO.mv (.r rfl)) rfl<|VO.l (LO.mul (.r rfl) (.r rfl) (wi (by omega) (by omega))) rfl<|VO.l (LO.mv (.r rfl)) rfl<|VO.l (LO.mul (.r rfl) (.r rfl) (wi (by omega) (by omega))) rfl<|VO.l (LO.mv (.r rfl)) rfl<|VO.l (LO.callv (first := []) (cap := []) (xs := [_,_]) (vs := [_,_]) (.r rfl) C180 ⟨(.r rfl), (.r rfl), trivial⟩ (fun w _ => up_c _ _ (by omega) (by omega) (by omega) w)) rfl<|VO.l (LO.min (.r rfl) (.r rfl)) rfl<|VO.l (LO.as (.r rfl)) rfl<|VO.nil ?_)
    refine VE.seqN ?_
    refine VC.ret (VE.res (vs := [_]) rfl ⟨rfl, trivial⟩ (fun w hw => ?_))
    refine ⟨?_, hw.nil⟩
    simp only [resV]
    first | (rw [shareU, if_pos h1]; done) | (rw [shareU, if_neg h1]; done)

set_option maxRecDepth 20000 in
theorem steps_c (t : Train) (l : List Sample) (p : Option Addr) (c : Nat) (w : World) :
  Calls Tryz.prog 182 #[trainV t, .slice p l.length c] w fun e w' => ∃ q : Nat × Nat, True ∧ e = .returned (.func (.func 226) #[] #[.pointer (some ⟨q.1,0, none⟩), .pointer (some ⟨q.2,0, none⟩)]) ∧ St (bs w) [blk q.1 (.cells #[.slice p l.length c] 40), blk q.2 (.cells #[.int .i64 t.lam, .int .i64 t.kind, .int .i64 t.first, .int .i64 t.second, .int .i64 t.count] 23)] w' := by
  refine enter (vs := [_,_]) (env := [(0,_), (1,_)]) Tryz.func182 rfl rfl rfl rfl ?_
  refine VC.seq ?_
  refine VC.reg (VO.h rfl<|HO.box (C := #[_,_,_,_,_]) rfl rfl fun b1 => VO.h rfl<|HO.box (C := #[_]) rfl rfl fun b2 => VO.l (LO.as (.r rfl)) rfl<|VO.nil ?_)
  refine VE.seqN ?_
  refine VC.seq ?_
  refine VC.reg (VO.h rfl<|HO.lo (LO.mf (cap := [_,_]) ⟨(.r rfl), (.r rfl), trivial⟩)<|VO.h rfl<|HO.lo (LO.as (.r rfl))<|VO.nil ?_)
  refine VE.seqN ?_
  refine VC.ret (VE.res (vs := [_]) rfl ⟨rfl, trivial⟩ (fun w hw => ?_))
  exact ⟨(b2, b1), trivial, rfl, hw⟩

set_option maxRecDepth 20000 in
theorem steps_seq (t : Train) (l : List Sample) (p : Option Addr) (c b d : Nat) (hn : l.length ≤ 64) (hn1 : 1 ≤ l.length) (hc : l.length ≤ c) (hk : kndOk t.kind) (hs : ∀ x ∈ l, smpOk x) :
  SeqC Tryz.prog 226 [.pointer (some ⟨b, 0, none⟩), .pointer (some ⟨d, 0, none⟩)] (stepCap t l p c b d) ((stQ t.kind l (l.length - 1)).map pairC) := by
  intro l0 J Jx w r hCap hyl hY hi0 hf0
  have hs0 : SlSome p l.length := (hCap _ _ _ hY hi0).2.2.sm
  have hs1 : SlSome (slFrom p c 1 4) (l.length - 1) := by have := (ro_drop (k := 1) (hCap _ _ _ hY hi0).2.2 (by omega) hc).sm; rwa [List.length_drop] at this
  unfold kndOk at hk
  have hd2 := tdiv_nat l.length
  refine enterO (vs := [_,_,_]) (env := [(0,_), (1,_), (2,_)]) (St.one hi0 hf0) Tryz.func226 rfl rfl rfl rfl ?_
  refine VC.seq ?_
  refine VC.reg (VO.l (LO.ld O40 (.r rfl) (fun _ hw => sub_cells (off := 0) (hCap _ _ _ hY (St.inv hw 0 _ rfl)).1 ⟨_, rfl⟩)) rfl<|VO.l (LO.sl (l := 1) S40 N50 (.r rfl) (.r rfl) rfl (by omega)) rfl<|VO.l (LO.len S40 (.r rfl) rfl) rfl<|VO.l (LO.mv (.r rfl)) rfl<|VO.nil ?_)
  refine VE.seqN ?_
  refine VC.block ?_
  refine VC.loopK (α := Nat × Res) 1 (fun x => [(10, .int .i64 (x.1 : Nat))]) [(0,_), (1,_), (2,_), (8,_), (9,_)] (fun x => [x.2]) (fun x => x.1 ≤ l.length - 1 ∧ J ((stQ t.kind l x.1).length) x.2) (fun x => l.length - 1 - x.1) (0, r) (by exact ⟨by omega, hY⟩) (.cons rfl (.cons rfl (.cons rfl (.cons rfl (.cons rfl (.cons rfl .nil)))))) (fun _ h => h) ?_
  rintro ⟨i, r⟩ ⟨hi, hY⟩
  show VC _ _ _ _ _ ([(10, .int .i64 (i : Nat))] ++ _) ([r] ++ _) _ _
  refine VC.seq ?_
  refine VC.reg (VO.l (LO.lt (.r rfl) (.r rfl)) rfl<|VO.nil ?_)
  refine VE.seqN ?_
  refine VC.seq ?_
  refine VC.cond rfl (fun h1 => ?_) (fun h1 => ?_)
  ·
    refine VC.skip (VE.seqN ?_)
    refine VC.seq ?_
    refine VC.block ?_
    refine VC.seq ?_
    refine VC.reg (VO.l (LO.mv (.r rfl)) rfl<|VO.l (LO.ixs S40 N50 hs1 (.r rfl) (.r rfl) rfl (by omega)) rfl<|VO.l (LO.lda (vs := [_,_,_,_]) A50 (.r rfl) (fun w hw => drop_here (d := zSm) (k := 1) (hCap _ _ _ hY (St.inv hw 0 _ rfl)).2.2 (by omega) hc (j := i) (by omega)) rfl) rfl<|VO.h rfl<|HO.alloc (C := #[_,_,_,_]) Z50 rfl fun b2 => VO.l (LO.as (.r rfl)) rfl<|VO.h0<|HO.st 0 (vs := [_,_,_,_]) (C' := [_,_,_,_]) (L' := [_,_]) N50 rfl rfl rfl rfl rfl rfl rfl rfl<|VO.nil ?_)
    refine VE.seqN ?_
    refine VC.seq ?_
    refine VC.reg (VO.l (LO.as (.r rfl)) rfl<|VO.nil ?_)
    refine VE.seqN ?_
    refine VC.seq ?_
    refine VC.seq ?_
    refine VC.reg (VO.l (LO.fa (r := 1) F23_1 (.r rfl) rfl) rfl<|VO.l (LO.ld O3 (.r rfl) (fun _ hw => sub_cells (off := 1) (hCap _ _ _ hY (St.inv hw 1 _ rfl)).2.1 ⟨_, rfl⟩)) rfl<|VO.nil ?_)
    refine VE.seqN ?_
    refine VC.block ?_
    refine VC.seq ?_
    refine VC.reg (VO.l (LO.eq (.r rfl) (.r rfl)) rfl<|VO.l (LO.as (.r rfl)) rfl<|VO.nil ?_)
    refine VE.seqN ?_
    refine VC.cond rfl (fun h2 => ?_) (fun h2 => ?_)
    ·
      refine VC.seq ?_
      refine VC.seq ?_
      refine VC.reg (VO.l (LO.mv (.r rfl)) rfl<|VO.l (LO.add (.r rfl) (.r rfl) (wi (by omega) (by omega))) rfl<|VO.l (LO.ld O40 (.r rfl) (fun _ hw => sub_cells (off := 0) (hCap _ _ _ hY (St.inv hw 1 _ rfl)).1 ⟨_, rfl⟩)) rfl<|VO.l (LO.len S40 (.r rfl) rfl) rfl<|VO.l (LO.quo (.r rfl) (.r rfl) (by omega) (wi (by omega) (by omega))) rfl<|VO.l (LO.eq (.r rfl) (.r rfl)) rfl<|VO.nil ?_)
      refine VE.seqN ?_
      refine VC.cond rfl (fun h3 => ?_) (fun h3 => ?_)
      ·
        refine VC.exit (VE.thenX (VE.outX rfl (VE.thenX (VE.inX (VE.seqN ?_)))))
        refine VC.reg (VO.l (LO.add (.r rfl) (.r rfl) (wi (by omega) (by omega))) rfl<|VO.l (LO.mv (.r rfl)) rfl<|VO.nil ?_)
        refine VE.thenN fun a w ha hw => ⟨(i + 1,_), ⟨by omega, by first | (rw [stQ_yes (by first | exact stW1 (by omega) | exact stW2a (by omega) (by omega) | exact stW2b (by omega) (by omega) (by omega) | exact stW3 (by omega) (by omega) (by omega))]; exact hp) | (rw [stQ_no (by omega) (by omega)]; exact hY)⟩, by omega, ha.sub (.cons rfl (.cons rfl (.cons rfl (.cons rfl (.cons rfl (.cons rfl .nil)))))), hw.sel [1] rfl⟩
      ·
        refine VC.skip (VE.seqN ?_)
        refine VC.seq ?_
        refine VC.reg (VO.l (LO.mv (.r rfl)) rfl<|VO.l (LO.ld O40 (.r rfl) (fun _ hw => sub_cells (off := 0) (hCap _ _ _ hY (St.inv hw 1 _ rfl)).1 ⟨_, rfl⟩)) rfl<|VO.l (LO.len S40 (.r rfl) rfl) rfl<|VO.l (LO.quo (.r rfl) (.r rfl) (by omega) (wi (by omega) (by omega))) rfl<|VO.l (LO.ge (.r rfl) (.r rfl)) rfl<|VO.nil ?_)
        refine VE.seqN ?_
        refine VC.cond rfl (fun h4 => ?_) (fun h4 => ?_)
        ·
          refine VC.reg (VO.l (LO.as (.r rfl)) rfl<|VO.nil ?_)
          refine VE.inN (VE.seqN ?_)
          refine VC.seq ?_
          have q1 := hs _ (getD_mem (d := zSm) (show i < l.length by omega))
          have q2 := hs _ (getD_mem (d := zSm) (show i + 1 < l.length by omega))
          unfold smpOk at q1 q2
          have hlt : i < l.length - 1 := by omega
          refine VC.drawH [[0,1], [0], [0]] [some 0, some 0, some 0, some 0, some 0, some 0, some 0, some 0, some 0, some 0, some 0, none, none] mixed (by kernel_rfl) rfl (LX.l (fun _ hJ => LO.mv (.r rfl)) rfl<|LX.l (fun _ hJ => LO.mv (.r rfl)) rfl<|LX.l (fun _ hJ => LO.fa (r := 1) F50_1 (.r rfl) rfl) rfl<|LX.l (fun _ hJ => LO.ld O3 (.r rfl) (fun _ hw => cells_at (hJ _ hw) 0 rfl ⟨_, rfl⟩)) rfl<|LX.l (fun _ hJ => LO.ld O40 (.r rfl) (fun _ hw => sub_cells (off := 0) (hCap _ _ _ hY (St.inv (hJ _ hw) 1 _ rfl)).1 ⟨_, rfl⟩)) rfl<|LX.l (fun _ hJ => LO.mv (.r rfl)) rfl<|LX.l (fun _ hJ => LO.ixs S40 N50 hs0 (.r rfl) (.r rfl) rfl (by omega)) rfl<|LX.l (fun _ hJ => LO.fa F50_1 (.r rfl) rfl) rfl<|LX.l (fun _ hJ => LO.ld O3 (.r rfl) (fun w hw => cells_part (off := 1) ((hCap _ _ _ hY (St.inv (hJ _ hw) 1 _ rfl)).2.2.here zSm (j := i) (by omega)) ⟨_, rfl⟩)) rfl<|LX.l (fun _ hJ => LO.sub (.r rfl) (.r rfl) (wi (by omega) (by omega))) rfl<|LX.l (fun _ hJ => LO.call (xs := [_]) (vs := [_]) C112 ⟨(.r rfl), trivial⟩ (fun w _ => wrap_c _ w)) rfl<|LX.s<|LX.s<|LX.nil) (HX.s<|HX.s<|HX.s<|HX.s<|HX.s<|HX.s<|HX.s<|HX.s<|HX.s<|HX.s<|HX.s<|HX.h rfl<|HO.yield 1 (r := r) (vs := [_,_]) (post := fun b r' => if b = true then J ((stQ t.kind l i).length + 1) r' else Jx ((stQ t.kind l i).length + 1) r') (.r rfl) ⟨.r rfl, .r rfl, trivial⟩ rfl (fun w2 hi hr hs => hyl ((stQ t.kind l i).length) _ (by first | exact stQ_at hlt hk (by first | exact stW1 (by omega) | exact stW2a (by omega) (by omega) | exact stW2b (by omega) (by omega) (by omega) | exact stW3 (by omega) (by omega) (by omega))) r w2 hY hi hr hs) fun b1 r1 hp => ⟨fun _ hw => hw.sel [0] rfl, HX.h rfl<|HO.lo (LO.not (.r rfl))<|⟨fun _ hw => hw.sel [0] rfl, HX.nil ?_⟩⟩)
          refine VE.seqN ?_
          refine VC.cond rfl (fun h4 => ?_) (fun h4 => ?_)
          ·
            rw [if_neg h4] at hp
            have hE : J ((stQ t.kind l (l.length - 1)).map pairC).length r1 ∨ ∃ n, n ≤ ((stQ t.kind l (l.length - 1)).map pairC).length ∧ Jx n r1 := .inr ⟨(stQ t.kind l i).length + 1, by rw [List.length_map]; exact stQ_lt hlt (by first | exact stW1 (by omega) | exact stW2a (by omega) (by omega) | exact stW2b (by omega) (by omega) (by omega) | exact stW3 (by omega) (by omega) (by omega)), hp⟩
            refine VC.ret (VE.inR (VE.thenR (VE.thenR (VE.inR (VE.res (vs := []) rfl trivial (fun w hw => ?_))))))
            first | exact ⟨rfl, seq_end hE hw⟩ | exact ⟨rfl, seq_end hE (hw.sel [1] rfl)⟩
          ·
            rw [if_pos (by simpa using h4)] at hp
            refine VC.skip (VE.inN (VE.seqN ?_))
            refine VC.reg (VO.l (LO.add (.r rfl) (.r rfl) (wi (by omega) (by omega))) rfl<|VO.l (LO.mv (.r rfl)) rfl<|VO.nil ?_)
            refine VE.thenN fun a w ha hw => ⟨(i + 1,_), ⟨by omega, by first | (rw [stQ_yes (by first | exact stW1 (by omega) | exact stW2a (by omega) (by omega) | exact stW2b (by omega) (by omega) (by omega) | exact stW3 (by omega) (by omega) (by omega))]; exact hp) | (rw [stQ_no (by omega) (by omega)]; exact hY)⟩, by omega, ha.sub (.cons rfl (.cons rfl (.cons rfl (.cons rfl (.cons rfl (.cons rfl .nil)))))), hw.sel [1] rfl⟩
        ·
          refine VC.skip (VE.inN (VE.seqN ?_))
          refine VC.seq ?_
          have q1 := hs _ (getD_mem (d := zSm) (show i < l.length by omega))
          have q2 := hs _ (getD_mem (d := zSm) (show i + 1 < l.length by omega))
          unfold smpOk at q1 q2
          have hlt : i < l.length - 1 := by omega
          refine VC.drawH [[0,1], [0], [0]] [some 0, some 0, some 0, some 0, some 0, some 0, some 0, some 0, some 0, some 0, some 0, none, none] mixed (by kernel_rfl) rfl (LX.l (fun _ hJ => LO.mv (.r rfl)) rfl<|LX.l (fun _ hJ => LO.mv (.r rfl)) rfl<|LX.l (fun _ hJ => LO.fa (r := 1) F50_1 (.r rfl) rfl) rfl<|LX.l (fun _ hJ => LO.ld O3 (.r rfl) (fun _ hw => cells_at (hJ _ hw) 0 rfl ⟨_, rfl⟩)) rfl<|LX.l (fun _ hJ => LO.ld O40 (.r rfl) (fun _ hw => sub_cells (off := 0) (hCap _ _ _ hY (St.inv (hJ _ hw) 1 _ rfl)).1 ⟨_, rfl⟩)) rfl<|LX.l (fun _ hJ => LO.mv (.r rfl)) rfl<|LX.l (fun _ hJ => LO.ixs S40 N50 hs0 (.r rfl) (.r rfl) rfl (by omega)) rfl<|LX.l (fun _ hJ => LO.fa F50_1 (.r rfl) rfl) rfl<|LX.l (fun _ hJ => LO.ld O3 (.r rfl) (fun w hw => cells_part (off := 1) ((hCap _ _ _ hY (St.inv (hJ _ hw) 1 _ rfl)).2.2.here zSm (j := i) (by omega)) ⟨_, rfl⟩)) rfl<|LX.l (fun _ hJ => LO.sub (.r rfl) (.r rfl) (wi (by omega) (by omega))) rfl<|LX.l (fun _ hJ => LO.call (xs := [_]) (vs := [_]) C112 ⟨(.r rfl), trivial⟩ (fun w _ => wrap_c _ w)) rfl<|LX.s<|LX.s<|LX.nil) (HX.s<|HX.s<|HX.s<|HX.s<|HX.s<|HX.s<|HX.s<|HX.s<|HX.s<|HX.s<|HX.s<|HX.h rfl<|HO.yield 1 (r := r) (vs := [_,_]) (post := fun b r' => if b = true then J ((stQ t.kind l i).length + 1) r' else Jx ((stQ t.kind l i).length + 1) r') (.r rfl) ⟨.r rfl, .r rfl, trivial⟩ rfl (fun w2 hi hr hs => hyl ((stQ t.kind l i).length) _ (by first | exact stQ_at hlt hk (by first | exact stW1 (by omega) | exact stW2a (by omega) (by omega) | exact stW2b (by omega) (by omega) (by omega) | exact stW3 (by omega) (by omega) (by omega))) r w2 hY hi hr hs) fun b1 r1 hp => ⟨fun _ hw => hw.sel [0] rfl, HX.h rfl<|HO.lo (LO.not (.r rfl))<|⟨fun _ hw => hw.sel [0] rfl, HX.nil ?_⟩⟩)
          refine VE.seqN ?_
          refine VC.cond rfl (fun h4 => ?_) (fun h4 => ?_)
          ·
            rw [if_neg h4] at hp
            have hE : J ((stQ t.kind l (l.length - 1)).map pairC).length r1 ∨ ∃ n, n ≤ ((stQ t.kind l (l.length - 1)).map pairC).length ∧ Jx n r1 := .inr ⟨(stQ t.kind l i).length + 1, by rw [List.length_map]; exact stQ_lt hlt (by first | exact stW1 (by omega) | exact stW2a (by omega) (by omega) | exact stW2b (by omega) (by omega) (by omega) | exact stW3 (by omega) (by omega) (by omega)), hp⟩
            refine VC.ret (VE.inR (VE.thenR (VE.thenR (VE.inR (VE.res (vs := []) rfl trivial (fun w hw => ?_))))))
            first | exact ⟨rfl, seq_end hE hw⟩ | exact ⟨rfl, seq_end hE (hw.sel [1] rfl)⟩
          ·
            rw [if_pos (by simpa using h4)] at hp
            refine VC.skip (VE.inN (VE.seqN ?_))
            refine VC.reg (VO.l (LO.add (.r rfl) (.r rfl) (wi (by omega) (by omega))) rfl<|VO.l (LO.mv (.r rfl)) rfl<|VO.nil ?_)
            refine VE.thenN fun a w ha hw => ⟨(i + 1,_), ⟨by omega, by first | (rw [stQ_yes (by first | exact stW1 (by omega) | exact stW2a (by omega) (by omega) | exact stW2b (by omega) (by omega) (by omega) | exact stW3 (by omega) (by omega) (by omega))]; exact hp) | (rw [stQ_no (by omega) (by omega)]; exact hY)⟩, by omega, ha.sub (.cons rfl (.cons rfl (.cons rfl (.cons rfl (.cons rfl (.cons rfl .nil)))))), hw.sel [1] rfl⟩
    ·
      refine VC.seq ?_
      refine VC.reg (VO.l (LO.eq (.r rfl) (.r rfl)) rfl<|VO.l (LO.as (.r rfl)) rfl<|VO.nil ?_)
      refine VE.seqN ?_
      refine VC.cond rfl (fun h7 => ?_) (fun h7 => ?_)
      ·
        refine VC.reg (VO.l (LO.mv (.r rfl)) rfl<|VO.l (LO.rem (.r rfl) (.r rfl) (by omega)) rfl<|VO.l (LO.as (.r rfl)) rfl<|VO.nil ?_)
        refine VE.inN (VE.seqN ?_)
        refine VC.seq ?_
        have q1 := hs _ (getD_mem (d := zSm) (show i < l.length by omega))
        have q2 := hs _ (getD_mem (d := zSm) (show i + 1 < l.length by omega))
        unfold smpOk at q1 q2
        have hlt : i < l.length - 1 := by omega
        refine VC.drawH [[0,1], [0], [0]] [some 0, some 0, some 0, some 0, some 0, some 0, some 0, some 0, some 0, some 0, some 0, none, none] mixed (by kernel_rfl) rfl (LX.l (fun _ hJ => LO.mv (.r rfl)) rfl<|LX.l (fun _ hJ => LO.mv (.r rfl)) rfl<|LX.l (fun _ hJ => LO.fa (r := 1) F50_1 (.r rfl) rfl) rfl<|LX.l (fun _ hJ => LO.ld O3 (.r rfl) (fun _ hw => cells_at (hJ _ hw) 0 rfl ⟨_, rfl⟩)) rfl<|LX.l (fun _ hJ => LO.ld O40 (.r rfl) (fun _ hw => sub_cells (off := 0) (hCap _ _ _ hY (St.inv (hJ _ hw) 1 _ rfl)).1 ⟨_, rfl⟩)) rfl<|LX.l (fun _ hJ => LO.mv (.r rfl)) rfl<|LX.l (fun _ hJ => LO.ixs S40 N50 hs0 (.r rfl) (.r rfl) rfl (by omega)) rfl<|LX.l (fun _ hJ => LO.fa F50_1 (.r rfl) rfl) rfl<|LX.l (fun _ hJ => LO.ld O3 (.r rfl) (fun w hw => cells_part (off := 1) ((hCap _ _ _ hY (St.inv (hJ _ hw) 1 _ rfl)).2.2.here zSm (j := i) (by omega)) ⟨_, rfl⟩)) rfl<|LX.l (fun _ hJ => LO.sub (.r rfl) (.r rfl) (wi (by omega) (by omega))) rfl<|LX.l (fun _ hJ => LO.call (xs := [_]) (vs := [_]) C112 ⟨(.r rfl), trivial⟩ (fun w _ => wrap_c _ w)) rfl<|LX.s<|LX.s<|LX.nil) (HX.s<|HX.s<|HX.s<|HX.s<|HX.s<|HX.s<|HX.s<|HX.s<|HX.s<|HX.s<|HX.s<|HX.h rfl<|HO.yield 1 (r := r) (vs := [_,_]) (post := fun b r' => if b = true then J ((stQ t.kind l i).length + 1) r' else Jx ((stQ t.kind l i).length + 1) r') (.r rfl) ⟨.r rfl, .r rfl, trivial⟩ rfl (fun w2 hi hr hs => hyl ((stQ t.kind l i).length) _ (by first | exact stQ_at hlt hk (by first | exact stW1 (by omega) | exact stW2a (by omega) (by omega) | exact stW2b (by omega) (by omega) (by omega) | exact stW3 (by omega) (by omega) (by omega))) r w2 hY hi hr hs) fun b1 r1 hp => ⟨fun _ hw => hw.sel [0] rfl, HX.h rfl<|HO.lo (LO.not (.r rfl))<|⟨fun _ hw => hw.sel [0] rfl, HX.nil ?_⟩⟩)
        refine VE.seqN ?_
        refine VC.cond rfl (fun h4 => ?_) (fun h4 => ?_)
        ·
          rw [if_neg h4] at hp
          have hE : J ((stQ t.kind l (l.length - 1)).map pairC).length r1 ∨ ∃ n, n ≤ ((stQ t.kind l (l.length - 1)).map pairC).length ∧ Jx n r1 := .inr ⟨(stQ t.kind l i).length + 1, by rw [List.length_map]; exact stQ_lt hlt (by first | exact stW1 (by omega) | exact stW2a (by omega) (by omega) | exact stW2b (by omega) (by omega) (by omega) | exact stW3 (by omega) (by omega) (by omega)), hp⟩
          refine VC.ret (VE.inR (VE.thenR (VE.thenR (VE.inR (VE.res (vs := []) rfl trivial (fun w hw => ?_))))))
          first | exact ⟨rfl, seq_end hE hw⟩ | exact ⟨rfl, seq_end hE (hw.sel [1] rfl)⟩
        ·
          rw [if_pos (by simpa using h4)] at hp
          refine VC.skip (VE.inN (VE.seqN ?_))
          refine VC.reg (VO.l (LO.add (.r rfl) (.r rfl) (wi (by omega) (by omega))) rfl<|VO.l (LO.mv (.r rfl)) rfl<|VO.nil ?_)
          refine VE.thenN fun a w ha hw => ⟨(i + 1,_), ⟨by omega, by first | (rw [stQ_yes (by first | exact stW1 (by omega) | exact stW2a (by omega) (by omega) | exact stW2b (by omega) (by omega) (by omega) | exact stW3 (by omega) (by omega) (by omega))]; exact hp) | (rw [stQ_no (by omega) (by omega)]; exact hY)⟩, by omega, ha.sub (.cons rfl (.cons rfl (.cons rfl (.cons rfl (.cons rfl (.cons rfl .nil)))))), hw.sel [1] rfl⟩
      ·
        refine VC.skip (VE.inN (VE.seqN ?_))
        refine VC.seq ?_
        have q1 := hs _ (getD_mem (d := zSm) (show i < l.length by omega))
        have q2 := hs _ (getD_mem (d := zSm) (show i + 1 < l.length by omega))
        unfold smpOk at q1 q2
        have hlt : i < l.length - 1 := by omega
        refine VC.drawH [[0,1], [0], [0]] [some 0, some 0, some 0, some 0, some 0, some 0, some 0, some 0, some 0, some 0, some 0, none, none] mixed (by kernel_rfl) rfl (LX.l (fun _ hJ => LO.mv (.r rfl)) rfl<|LX.l (fun _ hJ => LO.mv (.r rfl)) rfl<|LX.l (fun _ hJ => LO.fa (r := 1) F50_1 (.r rfl) rfl) rfl<|LX.l (fun _ hJ => LO.ld O3 (.r rfl) (fun _ hw => cells_at (hJ _ hw) 0 rfl ⟨_, rfl⟩)) rfl<|LX.l (fun _ hJ => LO.ld O40 (.r rfl) (fun _ hw => sub_cells (off := 0) (hCap _ _ _ hY (St.inv (hJ _ hw) 1 _ rfl)).1 ⟨_, rfl⟩)) rfl<|LX.l (fun _ hJ => LO.mv (.r rfl)) rfl<|LX.l (fun _ hJ => LO.ixs S40 N50 hs0 (.r rfl) (.r rfl) rfl (by omega)) rfl<|LX.l (fun _ hJ => LO.fa F50_1 (.r rfl) rfl) rfl<|LX.l (fun _ hJ => LO.ld O3 (.r rfl) (fun w hw => cells_part (off := 1) ((hCap _ _ _ hY (St.inv (hJ _ hw) 1 _ rfl)).2.2.here zSm (j := i) (by omega)) ⟨_, rfl⟩)) rfl<|LX.l (fun _ hJ => LO.sub (.r rfl) (.r rfl) (wi (by omega) (by omega))) rfl<|LX.l (fun _ hJ => LO.call (xs := [_]) (vs := [_]) C112 ⟨(.r rfl), trivial⟩ (fun w _ => wrap_c _ w)) rfl<|LX.s<|LX.s<|LX.nil) (HX.s<|HX.s<|HX.s<|HX.s<|HX.s<|HX.s<|HX.s<|HX.s<|HX.s<|HX.s<|HX.s<|HX.h rfl<|HO.yield 1 (r := r) (vs := [_,_]) (post := fun b r' => if b = true then J ((stQ t.kind l i).length + 1) r' else Jx ((stQ t.kind l i).length + 1) r') (.r rfl) ⟨.r rfl, .r rfl, trivial⟩ rfl (fun w2 hi hr hs => hyl ((stQ t.kind l i).length) _ (by first | exact stQ_at hlt hk (by first | exact stW1 (by omega) | exact stW2a (by omega) (by omega) | exact stW2b (by omega) (by omega) (by omega) | exact stW3 (by omega) (by omega) (by omega))) r w2 hY hi hr hs) fun b1 r1 hp => ⟨fun _ hw => hw.sel [0] rfl, HX.h rfl<|HO.lo (LO.not (.r rfl))<|⟨fun _ hw => hw.sel [0] rfl, HX.nil ?_⟩⟩)
        refine VE.seqN ?_
        refine VC.cond rfl (fun h4 => ?_) (fun h4 => ?_)
        ·
          rw [if_neg h4] at hp
          have hE : J ((stQ t.kind l (l.length - 1)).map pairC).length r1 ∨ ∃ n, n ≤ ((stQ t.kind l (l.length - 1)).map pairC).length ∧ Jx n r1 := .inr ⟨(stQ t.kind l i).length + 1, by rw [List.length_map]; exact stQ_lt hlt (by first | exact stW1 (by omega) | exact stW2a (by omega) (by omega) | exact stW2b (by omega) (by omega) (by omega) | exact stW3 (by omega) (by omega) (by omega)), hp⟩
          refine VC.ret (VE.inR (VE.thenR (VE.thenR (VE.inR (VE.res (vs := []) rfl trivial (fun w hw => ?_))))))
          first | exact ⟨rfl, seq_end hE hw⟩ | exact ⟨rfl, seq_end hE (hw.sel [1] rfl)⟩
        ·
          rw [if_pos (by simpa using h4)] at hp
          refine VC.skip (VE.inN (VE.seqN ?_))
          refine VC.reg (VO.l (LO.add (.r rfl) (.r rfl) (wi (by omega) (by omega))) rfl<|VO.l (LO.mv (.r rfl)) rfl<|VO.nil ?_)
          refine VE.thenN fun a w ha hw => ⟨(i + 1,_), ⟨by omega, by first | (rw [stQ_yes (by first | exact stW1 (by omega) | exact stW2a (by omega) (by omega) | exact stW2b (by omega) (by omega) (by omega) | exact stW3 (by omega) (by omega) (by omega))]; exact hp) | (rw [stQ_no (by omega) (by omega)]; exact hY)⟩, by omega, ha.sub (.cons rfl (.cons rfl (.cons rfl (.cons rfl (.cons rfl (.cons rfl .nil)))))), hw.sel [1] rfl⟩
  ·
    have hE : J ((stQ t.kind l (l.length - 1)).map pairC).length r ∨ ∃ n, n ≤ ((stQ t.kind l (l.length - 1)).map pairC).length ∧ Jx n r := .inl (by rw [List.length_map, show l.length - 1 = i by omega]; exact hY)
    refine VC.exit (VE.thenX (VE.thenX (VE.inX (VE.resN (vs := []) rfl trivial (fun w hw => ?_)))))
    first | exact ⟨rfl, seq_end hE hw⟩ | exact ⟨rfl, seq_end hE (hw.sel [1] rfl)⟩

end Go.Proofs.YtffbohecdocajaaGreat
