/-
  Strings: lengths, bytes, pieces, comparisons, a rune as a string, a range over a string's runes; a scope that no jump crosses.
  (and more)
-/
import Derived.Test.YtdjflomhaljljaaGreatKKRUN03
import Derived.Laws.Strings3
import Derived.Laws.Runes
import Derived.Laws.RangeAny
import Derived.Lib.OthersKept
import Derived.Scope
import Derived.Shelf.Small.Utf8
import Derived.Shelf.Small.Strs
import Derived.Shelf.Small.Wraps
import Derived.Shelf.Strings.Search1
import Derived.Shelf.Strings.Runes
import Derived.Ground.Names2Prog
import Derived.Shelf.Slices.Clone
import Derived.Shelf.Slices.SearchI
import Derived.Shelf.Slices.Empties
import Derived.Ground.SlgnProg
import Derived.Shelf.SlicesE.Clone
import Derived.Test.YtdjflomhaljljaaGreatProg

set_option maxRecDepth 20000
set_option maxHeartbeats 8000000
namespace Go.SL
set_option linter.unusedVariables false
open Go.RowKit
section
variable {P : Program} {ro : Option Nat} {β : Bs} {ds : List Deferred} {N : Nat} {env : Env} {L : List Res} {Q : Exit → Act → World → Prop}
theorem stepR_scopeI {b : Frame} {a : Act} {k : List Item} {cs : List Frame} {w : World} {c : Code} : step P (lone (b.atR a (.code (.scope c) :: k)) cs w) = .next (lone (b.atR a (.code c :: .inScope c :: k)) cs w) :=
  step_lone_go (by simp [stepG, stepG.exec, Frame.atR])
theorem stepR_inScopeI {b : Frame} {a : Act} {k : List Item} {cs : List Frame} {w : World} {c : Code} : step P (lone (b.atR a (.inScope c :: k)) cs w) = .next (lone (b.atR a k) cs w) :=
  step_lone_go (by simp [stepG, stepG.exec, Frame.atR])
theorem wpIn_scopeI {c : Code} {a : Act} {w : World} (h : c.wpIn (Wf ro) 0 P (Exit.noGoto Q) a w) : (Code.scope c).wpIn (Wf ro) 0 P Q a w := by
  intro b k cs hro hb hrm
  obtain ⟨e, a₁, w₁, hq, harr⟩ := h b (.inScope c :: k) cs hro hb hrm
  cases e with
  | normal => exact ⟨.normal, a₁, w₁, hq, .of_steps (.one (fenced_calm hb hrm rfl) stepR_scopeI) (StepsIn.trans harr (.one (fenced_calm hb hrm rfl) stepR_inScopeI))⟩
  | exit id => exact ⟨.exit id, a₁, w₁, hq, .of_steps (.one (fenced_calm hb hrm rfl) stepR_scopeI) ⟨fun k' hk => harr.1 k' (by simp [exitTo, hk]), fun hr hk => harr.2 hr (by simp [exitTo, hk])⟩⟩
  | goto l => exact hq.elim
  | ret => exact ⟨.ret, a₁, w₁, hq, ArrivesIn.of_steps (e := .ret) (.one (fenced_calm hb hrm rfl) stepR_scopeI) harr⟩
  | panic ch => exact ⟨.panic ch, a₁, w₁, hq, ArrivesIn.of_steps (e := .panic ch) (.one (fenced_calm hb hrm rfl) stepR_scopeI) harr⟩
  | outgrown => exact ⟨.outgrown, a₁, w₁, hq, ArrivesIn.of_steps (e := .outgrown) (.one (fenced_calm hb hrm rfl) stepR_scopeI) harr⟩
theorem VC.scope {c : Code} (h : VC P ro β N ds env L c (Exit.noGoto Q)) : VC P ro β N ds env L (.scope c) Q := fun a w ha hw => wpIn_scopeI (h a w ha hw)
theorem VE.scR (h : VE β N ds env L .ret Q) : VE β N ds env L .ret (Exit.noGoto Q) := fun a w ha hw => h a w ha hw
variable {d : Option Nat} {ty : TypeId} {pos : String} {aft : Array Edge} {g : Option (Nat × Bool)}
theorem LO.lenS {T : Nat} {x : Operand} {s : ByteArray} {aT : Array TypeId} (hT : P.underlying T = some .string) (hx : OV env x (.string s)) (ha : aT[0]? = some T) : LO P β env L ⟨d, .call ⟨.builtin .len, #[x], aT⟩, ty, pos, aft, g⟩ (.int .i64 s.size) :=
  .of_run fun a w h hw => ⟨w, by simp [execOp, resolve, invoke, builtin, h x (by simp [Op.operands, Call.operands]) _ hx, Builtin.len_, ha, run_underlying hT, goInt], hw⟩
theorem LO.ixS {T : Nat} {x i : Operand} {s : ByteArray} {k : IntKind} {e : Int} {j : Nat} (hT : P.underlying T = some .string) (hx : OV env x (.string s)) (hi : OV env i (.int k e)) (he : e = (j : Int)) (hj : j < s.size) : LO P β env L ⟨d, .index T x i, ty, pos, aft, g⟩ (.int .u8 ((s.data.toList.getD j 0).toNat : Int)) :=
  .of_run fun a w h hw => ⟨w, by
    subst he
    have hr := run_index_string (P := P) (w := w) T s k (j : Int) hT
    rw [dif_pos ⟨by omega, by omega⟩] at hr
    have e2 : (s[(j : Int).toNat]'(by omega)) = s.data.toList.getD j 0 := by
      have hl : j < s.data.toList.length := by rw [Array.length_toList]; exact hj
      simp only [Int.toNat_natCast, List.getD, List.getElem?_eq_getElem hl, Option.getD_some]
      rfl
    rw [e2] at hr
    simp [execOp, h x (by simp [Op.operands]) _ hx, h i (by simp [Op.operands]) _ hi, hr], hw⟩
theorem LO.slS {T : Nat} {x i : Operand} {s : ByteArray} {k : IntKind} {e : Int} (hT : P.underlying T = some .string) (hx : OV env x (.string s)) (hi : OV env i (.int k e)) (h0 : 0 ≤ e) (h1 : e ≤ (s.size : Int)) : LO P β env L ⟨d, .slice T x (some i) none none, ty, pos, aft, g⟩ (.string (s.extract e.toNat s.size)) :=
  .of_run fun a w h hw => ⟨w, by
    have hr := run_slice_string_from_if (P := P) (w := w) T s k e hT
    rw [if_pos ⟨h0, h1⟩] at hr
    simp [execOp, h x (by simp [Op.operands]) _ hx, h i (by simp [Op.operands]) _ hi, Instr.sliceAt, run_underlying hT, hr], hw⟩
theorem LO.cvS {sT dT : Nat} {x : Operand} {k : IntKind} {m : Int} (hs : ∃ d, P.underlying sT = some d) (hT : P.underlying dT = some .string) (hx : OV env x (.int k m)) : LO P β env L ⟨d, .convert sT dT x, ty, pos, aft, g⟩ (.string (Utf8.encode m)) :=
  .of_run fun a w h hw => ⟨w, by
    have hr := run_convert_int_string (P := P) w sT dT k m (Option.isSome_iff_exists.2 hs) hT
    simp [execOp, h x (by simp [Op.operands]) _ hx, hr], hw⟩
theorem LO.eqS {xT yT : Nat} {x y : Operand} {s t : ByteArray} (hx : OV env x (.string s)) (hy : OV env y (.string t)) : LO P β env L ⟨d, .binOp .eql xT x y yT, ty, pos, aft, g⟩ (.bool (s.toList == t.toList)) :=
  .of_run fun a w h hw => ⟨w, by simp [execOp, h x (by simp [Op.operands]) _ hx, h y (by simp [Op.operands]) _ hy, eqGuard, binOp_string_eql], hw⟩
theorem LO.neS {xT yT : Nat} {x y : Operand} {s t : ByteArray} (hx : OV env x (.string s)) (hy : OV env y (.string t)) : LO P β env L ⟨d, .binOp .neq xT x y yT, ty, pos, aft, g⟩ (.bool (!(s.toList == t.toList))) :=
  .of_run fun a w h hw => ⟨w, by simp [execOp, h x (by simp [Op.operands]) _ hx, h y (by simp [Op.operands]) _ hy, eqGuard, binOp_string_neq], hw⟩
theorem LO.eqB {x y : Operand} {xT yT : TypeId} {a b : Bool} (hT : P.underlying xT = some .bool) (hx : OV env x (.bool a)) (hy : OV env y (.bool b)) :
    LO P β env L ⟨d, .binOp .eql xT x y yT, ty, pos, aft, g⟩ (.bool (decide (a = b))) :=
  .of_run fun ac w h hw => ⟨w, by
    have key : ∀ dd, (Op.equalIn (dd + 1) xT (.bool a) (.bool b)).run P w = .ok (a == b) w := fun dd => by simp [Op.equalIn, run_underlying hT]
    have e : (Op.equal xT (.bool a) (.bool b)).run P w = .ok (a == b) w := key 9999
    simp [execOp, h x (by simp [Op.operands]) _ hx, h y (by simp [Op.operands]) _ hy, eqGuard, binOp, e, Result.andThen_ok]
    cases a <;> cases b <;> rfl, hw⟩
section
variable {K : Value → List Res → Prop} {dd : Option Nat}
theorem HO.range {T : Nat} {x : Operand} {s : ByteArray} (hT : P.underlying T = some .string) (hx : ev env x = some (.string s)) (k : ∀ b, K (.pointer (some ⟨b, 0, none⟩)) (blk b (.stringIter s 0) :: L)) : HO P β env L ⟨dd, .range T x, ty, pos, aft, g⟩ K := by
  intro a w h hw
  refine .inl ⟨_, w.iter s 0,_,_, ?_, .inl rfl, k w.heap.size, hw.alloc _⟩
  simp [execOp, h x (by simp [Op.operands]) _ hx, run_range_string w T s hT]
theorem HO.nextT (i : Nat) (LF : Res → List Res) {x : Operand} {s : ByteArray} {b p : Nat} (hx : ev env x = some (.pointer (some ⟨b, 0, none⟩))) (hi : L[i]? = some (blk b (.stringIter s p))) (hL : ∀ R : Res, L.set i R = LF R) (hp : p < s.size)
    (k : K (.tuple #[.bool true, .int .i64 p, .int .i32 (Utf8.decode s p).1]) (LF (blk b (.stringIter s (p + (Utf8.decode s p).2))))) : HO P β env L ⟨dd, .next x true, ty, pos, aft, g⟩ K := by
  intro a w h hw
  have hb : w.heap[b]? = some (.stringIter s p) := hw.inv i _ hi
  refine .inl ⟨_, w.iterAt b s (p + (Utf8.decode s p).2),_,_, ?_, .inl rfl, k, ?_⟩
  · have := Go.Lib.run_next_any_at (P := P) w b s p ty hb hp
    simp [execOp, h x (by simp [Op.operands]) _ hx, this]
  · exact hw.upd hi (hL _).symm (Go.Lib.iterAt_heap w b s p _ hb) (fun j hj => Go.Lib.iterAt_other w b j s _ hj) (Go.Lib.iterAt_size w b s _) rfl rfl rfl
theorem HO.nextF (i : Nat) {x : Operand} {s : ByteArray} {b p : Nat} (hx : ev env x = some (.pointer (some ⟨b, 0, none⟩))) (hi : L[i]? = some (blk b (.stringIter s p))) (hp : ¬ p < s.size)
    (k : K (.tuple #[.bool false]) L) : HO P β env L ⟨dd, .next x true, ty, pos, aft, g⟩ K := by
  intro a w h hw
  have hb : w.heap[b]? = some (.stringIter s p) := hw.inv i _ hi
  refine .inl ⟨_, w,_,_, ?_, .inl rfl, k, hw⟩
  have := Go.Lib.run_next_end_at (P := P) w b s p ty hb hp
  simp [execOp, h x (by simp [Op.operands]) _ hx, this]
end
end
/-! ### What a string's runes come to -/
def idxF (p : Nat → Bool) (s : ByteArray) : Nat → Nat → Int
  | 0,_ => -1
  | f + 1, q => if q < s.size then (if p (Utf8.decode s q).1 = true then (q : Int) else idxF p s f (q + (Utf8.decode s q).2)) else -1
theorem idxF_end {p : Nat → Bool} {s : ByteArray} : ∀ {f q : Nat}, ¬ q < s.size → idxF p s f q = -1
  | 0,_,_ => rfl
  | f + 1, q, h => by rw [idxF, if_neg h]
theorem decode_pos (s : ByteArray) (q : Nat) : 1 ≤ (Utf8.decode s q).2 := by
  simp only [Utf8.decode]
  repeat' split
  all_goals simp_all
theorem idxF_bytes {p : Nat → Bool} {s : ByteArray} (h : ∀ r, 128 ≤ r → p r = true) : ∀ {f q : Nat}, s.size ≤ q + f → (idxF p s f q < 0 ↔ ∀ j, q ≤ j → j < s.size → p (s.data.toList.getD j 0).toNat = false)
  | 0, q, hf => by simp only [idxF]; exact ⟨fun _ j h1 h2 => by omega, fun _ => by decide⟩
  | f + 1, q, hf => by
    rw [idxF]
    by_cases hq : q < s.size
    · rw [if_pos hq]
      have eg : s.data.toList.getD q 0 = s[q]'hq := by
        have hl : q < s.data.toList.length := by rw [Array.length_toList]; exact hq
        simp only [List.getD, List.getElem?_eq_getElem hl, Option.getD_some]
        rfl
      by_cases ha : (s[q]'hq).toNat < 128
      · rw [decode_ascii s q hq ha]
        dsimp only
        by_cases hp : p (s[q]'hq).toNat = true
        · rw [if_pos hp]
          refine ⟨fun k => by omega, fun k => ?_⟩
          have := k q (Nat.le_refl _) hq
          rw [eg, hp] at this; cases this
        · rw [if_neg hp]
          rw [idxF_bytes h (f := f) (q := q + 1) (by omega)]
          refine ⟨fun k j h1 h2 => ?_, fun k j h1 h2 => k j (by omega) h2⟩
          by_cases e : j = q
          · subst e; rw [eg]; simpa using hp
          · exact k j (by omega) h2
      · have hd := decode_high s q hq (by omega)
        rw [if_pos (h _ hd.1)]
        refine ⟨fun k => by omega, fun k => ?_⟩
        have := k q (Nat.le_refl _) hq
        rw [eg, h _ (by omega)] at this; cases this
    · rw [if_neg hq]
      exact ⟨fun _ j h1 h2 => by omega, fun _ => by decide⟩
end Go.SL
namespace Go.Proofs
open Go.Shelf
def Tryz.lays137_ren : Go.Shelf.Ren := ⟨fun | 137 => 97 | 217 => 104 | 266 => 107 | n => n, fun | 9 => 9 | 5 => 5 | 3 => 3 | n => n, fun | n => n⟩
theorem Tryz.lays137 : Go.Proofs.Lays.n137 Tryz.prog Tryz.lays137_ren := {
  mixed := by kernel_rfl
  f137 := Tryz.func97.trans (congrArg some (by kernel_rfl))
  f217 := Tryz.func104.trans (congrArg some (by kernel_rfl))
  f266 := Tryz.func107.trans (congrArg some (by kernel_rfl))
  t3 := Tryz.underlying3
  a3 := Tryz.isAgg3
  z3 := Tryz.sizeOf3
  v3 := Tryz.zeroValue3
  t5 := Tryz.underlying5
  a5 := Tryz.isAgg5
  z5 := Tryz.sizeOf5
  v5 := Tryz.zeroValue5
  t9 := Tryz.underlying9
  a9 := Tryz.isAgg9
  z9 := Tryz.sizeOf9
  v9 := Tryz.zeroValue9 }
open Go.RowKit in
theorem Tryz.strings_IndexByte (s : ByteArray) (c : Int) (w : World) :
    Calls Tryz.prog 97 #[.string s, .int .u8 c] w fun e w' => e = .returned (.int .i64 (Lib.indexByte s.data.toList c.toNat.toUInt8)) ∧ w' = w := Any.strings_IndexByte Tryz.lays137 s c w
def Tryz.laysNm225_ren : Go.Shelf.Ren := ⟨fun | 25 => 89 | 31 => 94 | 32 => 95 | 37 => 103 | n => n, fun | 22 => 72 | 3 => 3 | 4 => 4 | 40 => 202 | 0 => 0 | n => n, fun | n => n⟩
theorem Tryz.laysNm225 : Go.Proofs.Lays2.n25 Tryz.prog Tryz.laysNm225_ren := {
  mixed := by kernel_rfl
  f25 := Tryz.func89.trans (congrArg some (by kernel_rfl))
  f31 := Tryz.func94.trans (congrArg some (by kernel_rfl))
  f32 := Tryz.func95.trans (congrArg some (by kernel_rfl))
  f37 := Tryz.func103.trans (congrArg some (by kernel_rfl))
  t0 := Tryz.underlying0
  a0 := Tryz.isAgg0
  z0 := Tryz.sizeOf0
  v0 := Tryz.zeroValue0
  t3 := Tryz.underlying3
  a3 := Tryz.isAgg3
  z3 := Tryz.sizeOf3
  v3 := Tryz.zeroValue3
  t4 := Tryz.underlying4
  a4 := Tryz.isAgg4
  z4 := Tryz.sizeOf4
  v4 := Tryz.zeroValue4
  t22 := Tryz.underlying72
  a22 := Tryz.isAgg72
  z22 := Tryz.sizeOf72
  v22 := Tryz.zeroValue72
  t40 := Tryz.underlying202
  a40 := Tryz.isAgg202
  z40 := Tryz.sizeOf202
  v40 := Tryz.zeroValue202 }
open Go.RowKit Go.Lib in
theorem Tryz.slices_BinarySearch_int (b off n c : Nat) (zs : List Int) (x : Int) (w : World) (hz : n ≤ zs.length) (hbig : n < 4611686018427387904) (hc : ∀ j, j < zs.length → w.cell? ⟨b, off + j, none⟩ = some (.int .i64 (zs.getD j 0))) (hs : (zs.take n).Pairwise (· ≤ ·)) :
    Calls Tryz.prog 89 #[.slice (some ⟨b, off, none⟩) n c, .int .i64 x] w fun e w' => e = .returned (.tuple #[.int .i64 ((zs.take n).countP (· < x) : Nat), .bool ((zs.take n).contains x)]) ∧ ∃ q, w' = w.drewN q := Any.slices_BinarySearch_int Tryz.laysNm225 b off n c zs x w hz hbig hc hs
open Go.RowKit Go.Lib in
theorem Tryz.slices_BinarySearch_int_empty (a : Option Addr) (c : Nat) (x : Int) (w : World) :
    Calls Tryz.prog 89 #[.slice a 0 c, .int .i64 x] w fun e w' => e = .returned (.tuple #[.int .i64 0, .bool false]) ∧ w' = w := Any.slices_BinarySearch_int_empty Tryz.laysNm225 a c x w
end Go.Proofs
namespace Go.Proofs.YtdjflomhaljljaaGreat
open Go.SL Go.Proofs Go.Cast
set_option linter.unusedVariables false
theorem C97 : IsFn Tryz.prog 97 := ⟨_, Tryz.func97, by decide, rfl⟩
theorem C98 : IsFn Tryz.prog 98 := ⟨_, Tryz.func98, by decide, rfl⟩
theorem C91 : IsFn Tryz.prog 91 := ⟨_, Tryz.func91, by decide, rfl⟩
theorem C76 : IsFn Tryz.prog 76 := ⟨_, Tryz.func76, by decide, rfl⟩
theorem C75 : IsFn Tryz.prog 75 := ⟨_, Tryz.func75, by decide, rfl⟩
theorem C96 : IsFn Tryz.prog 96 := ⟨_, Tryz.func96, by decide, rfl⟩
theorem C90 : IsFn Tryz.prog 90 := ⟨_, Tryz.func90, by decide, rfl⟩
theorem getD_mem {α : Type} {l : List α} {d : α} {j : Nat} (hj : j < l.length) : l.getD j d ∈ l := by
  rw [List.getD_eq_getElem?_getD, List.getElem?_eq_getElem hj]; exact List.getElem_mem hj
def hayS : ByteArray := ⟨#[97,98,99,100,101,102,103,104,105,106,107,108,109,110,111,112,113,114,115,116,117,118,119,120,121,122,48,49,50,51,52,53,54,55,56,57,95]⟩
def nameR (r : Nat) : Bool := (decide (97 ≤ r) && decide (r ≤ 122)) || (decide (48 ≤ r) && decide (r ≤ 57)) || decide (r = 95)
def pN (r : Nat) : Bool := !nameR r
theorem pN_high (r : Nat) (h : 128 ≤ r) : pN r = true := by unfold pN nameR; simp; omega
theorem hay_ascii : ∀ b ∈ hayS.data.toList, b.toNat < 128 := by decide
theorem hay_has : ∀ n : Fin 128, decide (0 ≤ Lib.indexByte hayS.data.toList n.val.toUInt8) = nameR n.val := by decide +kernel
def runeIx (s : ByteArray) (r : Int) : Int := if r < 128 then Lib.indexByte s.data.toList r.toNat.toUInt8 else -1
theorem hay_rune (r : Nat) : decide (0 ≤ runeIx hayS (r : Int)) = nameR r := by
  unfold runeIx
  by_cases h : r < 128
  · rw [if_pos (by omega)]
    exact hay_has ⟨r, h⟩
  · rw [if_neg (by omega)]
    have := pN_high r (by omega)
    unfold pN at this
    simp at this
    rw [this]; rfl
theorem u8_of {r : Int} (h0 : 0 ≤ r) (h1 : r < 128) : IntKind.u8.wrap r = r := by
  have e : r % 256 = r := by omega
  unfold IntKind.wrap
  simp [IntKind.bits, IntKind.signed, e]
theorem St.of_eq {w w' : World} (h : w' = w) : St (bs w) [] w' := by subst h; exact St.refl _
theorem byteN (c : UInt8) : ((c.toNat : Nat) : Int).toNat.toUInt8 = c := by simp
theorem enc_f {r : Int} (hv : Lib.validRune r = true) (h : 128 ≤ r) : 2 ≤ (Utf8.encode r).size ∧ (Utf8.encode r).size ≤ 4 ∧ 128 ≤ ((Utf8.encode r).data.toList.getD ((Utf8.encode r).size - 1) 0).toNat := by
  have hv2 : Utf8.valid r = true := by rw [validRune_eq]; exact hv
  obtain ⟨h1, h2, h3⟩ := encode_facts r hv2 h
  refine ⟨h1, h2, ?_⟩
  have hl : (Utf8.encode r).size - 1 < (Utf8.encode r).data.toList.length := by
    rw [Array.length_toList]; exact (show (Utf8.encode r).size - 1 < (Utf8.encode r).size by omega)
  have := h3 (by omega)
  simp only [List.getD, List.getElem?_eq_getElem hl, Option.getD_some]
  exact this
theorem byte_lt {s : ByteArray} (hs : ∀ b ∈ s.data.toList, b.toNat < 128) (j : Nat) : (s.data.toList.getD j 0).toNat < 128 := by
  rcases Nat.lt_or_ge j s.data.toList.length with h | h
  · exact hs _ (getD_mem h)
  · rw [List.getD_eq_getElem?_getD, List.getElem?_eq_none h]; decide
theorem ix_none {s : ByteArray} {a e : Nat} {c : UInt8} (hs : ∀ b ∈ s.data.toList, b.toNat < 128) (hc : 128 ≤ c.toNat) : Lib.indexByte (s.extract a e).data.toList ((c.toNat : Nat) : Int).toNat.toUInt8 = -1 := by
  rw [byteN, ← Lib.firstIdx_eq]; exact firstIdx_ascii s a e c hs hc
theorem dec_lt {s : ByteArray} (hs : ∀ b ∈ s.data.toList, b.toNat < 128) {q : Nat} (hq : q < s.size) : (Utf8.decode s q).1 < 128 := by
  have h : (s[q]'hq).toNat < 128 := hs _ (Array.getElem_mem_toList (xs := s.data) hq)
  rw [decode_ascii s q hq h]; exact h
theorem validRune_c (r : Int) (w : World) :
 Calls Tryz.prog 98 #[.int .i32 r] w fun e w' => e = .returned (.bool (Lib.validRune r)) ∧ St (bs w) [] w' := by
 refine enter (vs := [_]) (env := [(0,_)]) Tryz.func98 rfl rfl rfl rfl ?_
 refine VC.q (VO.a rfl rfl<|VO.n<|VC.seq<|VC.block<|VC.q (VO.m rfl rfl<|VO.l (LO.le (.r rfl) (.r rfl)) rfl<|VO.m rfl rfl<|VO.gt rfl rfl (fun hg => LO.mv (.r rfl)) rfl<|VO.gt rfl rfl (fun hg => LO.lt (.g hg rfl) (.r rfl)) rfl<|VO.l (LO.pkA (.r rfl) rfl rfl (.r rfl)) rfl<|VO.a rfl rfl<|VO.n<|VC.cond rfl (fun h1 => ?_) (fun h1 => ?_)))
 ·
  refine VC.q (VO.a rfl rfl<|VO.n<|VC.ret (VE.inR (VE.thenR (VE.s rfl rfl (fun w hw => ?_)))))
  exact ⟨by simp only [resV, Lib.validRune]; first | rw [decide_eq_true (show (0 ≤ r ∧ r < 0xD800) ∨ (0xDFFF < r ∧ r ≤ 0x10FFFF) by omega)] | rw [decide_eq_false (show ¬ ((0 ≤ r ∧ r < 0xD800) ∨ (0xDFFF < r ∧ r ≤ 0x10FFFF)) by omega)], hw.nil⟩
 ·
  refine VC.q (VO.m rfl rfl<|VO.t rfl rfl rfl<|VO.m rfl rfl<|VO.gt rfl rfl (fun hg => LO.mv (.r rfl)) rfl<|VO.gt rfl rfl (fun hg => LO.le (.g hg rfl) (.r rfl)) rfl<|VO.l (LO.pkA (.r rfl) rfl rfl (.r rfl)) rfl<|VO.a rfl rfl<|VO.n<|VC.cond rfl (fun h2 => ?_) (fun h2 => ?_))
  ·
   refine VC.q (VO.a rfl rfl<|VO.n<|VC.ret (VE.inR (VE.thenR (VE.s rfl rfl (fun w hw => ?_)))))
   exact ⟨by simp only [resV, Lib.validRune]; first | rw [decide_eq_true (show (0 ≤ r ∧ r < 0xD800) ∨ (0xDFFF < r ∧ r ≤ 0x10FFFF) by omega)] | rw [decide_eq_false (show ¬ ((0 ≤ r ∧ r < 0xD800) ∨ (0xDFFF < r ∧ r ≤ 0x10FFFF)) by omega)], hw.nil⟩
  ·
   refine VC.skip (VE.inN (VE.seqN<|VC.q (VO.a rfl rfl<|VO.n<|VC.ret (VE.s rfl rfl (fun w hw => ?_)))))
   exact ⟨by simp only [resV, Lib.validRune]; first | rw [decide_eq_true (show (0 ≤ r ∧ r < 0xD800) ∨ (0xDFFF < r ∧ r ≤ 0x10FFFF) by omega)] | rw [decide_eq_false (show ¬ ((0 ≤ r ∧ r < 0xD800) ∨ (0xDFFF < r ∧ r ≤ 0x10FFFF)) by omega)], hw.nil⟩
theorem indexRune_c (s : ByteArray) (r : Int) (w : World) (h0 : 0 ≤ r) (hs : ∀ b ∈ s.data.toList, b.toNat < 128) (h4 : 4 ≤ s.size) (h5 : s.size < 100000) :
 Calls Tryz.prog 91 #[.string s, .int .i32 r] w fun e w' => e = .returned (.int .i64 (runeIx s r)) ∧ St (bs w) [] w' := by
 refine enter (vs := [_,_]) (env := [(0,_), (1,_)]) Tryz.func91 rfl rfl rfl rfl ?_
 refine VC.q (VO.a rfl rfl<|VO.n<|VC.block<|VC.q (VO.m rfl rfl<|VO.l (LO.le (.r rfl) (.r rfl)) rfl<|VO.m rfl rfl<|VO.gt rfl rfl (fun hg => LO.mv (.r rfl)) rfl<|VO.gt rfl rfl (fun hg => LO.lt (.g hg rfl) (.r rfl)) rfl<|VO.l (LO.pkA (.r rfl) rfl rfl (.r rfl)) rfl<|VO.a rfl rfl<|VO.n<|VC.cond rfl (fun h160 => ?_) (fun h160 => ?_)))
 ·
  refine VC.q (VO.m rfl rfl<|VO.m rfl rfl<|VO.l (LO.cv ⟨_, Tryz.underlying21⟩ Tryz.underlying5 (.r rfl) (u8_of (by omega) (by omega))) rfl<|VO.l (LO.call (xs := [_,_]) (vs := [_,_]) C97 ⟨(.r rfl), (.r rfl), trivial⟩ (fun w _ => (Tryz.strings_IndexByte s r w).mono fun e w' q => ⟨q.1, St.of_eq q.2⟩)) rfl<|VO.a rfl rfl<|VO.n<|VC.ret (VE.inR (VE.s rfl rfl (fun w hw => ?_))))
  first | exact ⟨by simp only [resV, runeIx]; rw [if_pos (by omega)], hw.nil⟩ | exact ⟨by simp only [resV, runeIx]; rw [if_neg (by omega)], hw.nil⟩
 ·
  refine VC.q (VO.m rfl rfl<|VO.l (LO.eq (.r rfl) (.r rfl)) rfl<|VO.a rfl rfl<|VO.n<|VC.cond rfl (fun h171 => ?_) (fun h171 => ?_))
  ·
   refine VC.seq<|VC.q (VO.m rfl rfl<|VO.h rfl<|HO.range Tryz.underlying9 rfl fun b1 => VO.n<|VC.block<|VC.loopK (α := Nat) 1 (fun gx => []) [(175,_)] (fun gx => [blk b1 (.stringIter s gx)]) (fun gx => True) (fun gx => s.size - gx) 0 (by exact trivial) (.cons rfl .nil) (fun _ h => h) ?_)
   rintro q _
   refine VC.seq ?_
   by_cases hps : q < s.size
   ·
    refine VC.reg (VO.h rfl<|HO.nextT 0 (fun R => [R]) rfl rfl (fun _ => rfl) hps<|VO.h rfl<|HO.lo (LO.ex (.r rfl) rfl)<|VO.n<|VC.seq<|VC.cond rfl (fun h177 => ?_) (fun h177 => ?_))
    ·
     refine VC.skip (VE.seqN<|VC.block<|VC.q (VO.l (LO.ex (.r rfl) rfl) rfl<|VO.l (LO.ex (.r rfl) rfl) rfl<|VO.a rfl rfl<|VO.a rfl rfl<|VO.n<|VC.seq ?_))
     have hdc := dec_lt hs hps
     refine VC.reg (VO.m rfl rfl<|VO.l (LO.eq (.r rfl) (.r rfl)) rfl<|VO.n<|VC.cond rfl (fun h181 => ?_) (fun h181 => ?_))
     · (exfalso; omega)
     ·
      refine VC.skip (VE.inN<|VE.thenN fun a w ha hw => ⟨q + (Utf8.decode s q).2, trivial, (by have := decode_pos s q; omega), ha.sub (.cons rfl .nil), hw⟩)
    · (exfalso; exact h177 rfl)
   ·
    refine VC.reg (VO.h rfl<|HO.nextF 0 rfl rfl hps<|VO.h rfl<|HO.lo (LO.ex (.r rfl) rfl)<|VO.n<|VC.seq<|VC.cond rfl (fun h177 => ?_) (fun h177 => ?_))
    · (exfalso; cases h177)
    ·
     refine VC.exit (VE.thenX (VE.thenX (VE.inX (VE.seqN<|VC.q (VO.a rfl rfl<|VO.n<|VC.ret (VE.inR (VE.s rfl rfl (fun w hw => ?_))))))))
     first | exact ⟨by simp only [resV, runeIx]; rw [if_pos (by omega)], hw.nil⟩ | exact ⟨by simp only [resV, runeIx]; rw [if_neg (by omega)], hw.nil⟩
  ·
   refine VC.q (VO.m rfl rfl<|VO.l (LO.call (xs := [_]) (vs := [_]) C98 ⟨(.r rfl), trivial⟩ (fun w _ => validRune_c _ w)) rfl<|VO.l (LO.not (.r rfl)) rfl<|VO.a rfl rfl<|VO.n<|VC.cond rfl (fun h183 => ?_) (fun h183 => ?_))
   ·
    refine VC.q (VO.a rfl rfl<|VO.n<|VC.ret (VE.inR (VE.s rfl rfl (fun w hw => ?_))))
    first | exact ⟨by simp only [resV, runeIx]; rw [if_pos (by omega)], hw.nil⟩ | exact ⟨by simp only [resV, runeIx]; rw [if_neg (by omega)], hw.nil⟩
   ·
    have hv : Lib.validRune r = true := by simpa using h183
    obtain ⟨e1, e2, e3⟩ := enc_f hv (by omega)
    have b1 := byte_lt hs ((Utf8.encode r).size - 1)
    refine VC.scope<|VC.q (VO.m rfl rfl<|VO.l (LO.cvS ⟨_, Tryz.underlying21⟩ Tryz.underlying9 (.r rfl)) rfl<|VO.a rfl rfl<|VO.n<|VC.q (VO.m rfl rfl<|VO.l (LO.lenS Tryz.underlying9 (.r rfl) rfl) rfl<|VO.l (LO.sub (.r rfl) (.r rfl) (wi (by omega) (by omega))) rfl<|VO.a rfl rfl<|VO.n<|VC.q (VO.m rfl rfl<|VO.a rfl rfl<|VO.n<|VC.q (VO.a rfl rfl<|VO.n ?_))))
    refine VC.seq<|VC.block<|VC.loopK (α := Nat) 0 (fun gx => [(4, .int .i64 0), (9, .int .i64 (((Utf8.encode r).size : Int) - 1))]) [(0,_), (7,_), (8,_)] (fun gx => []) (fun gx => True) (fun gx => gx) 0 (by exact trivial) (.c4 rfl rfl rfl rfl (.cons rfl .nil)) (fun _ h => h) ?_
    rintro u _
    refine VC.seq<|VC.q (VO.m rfl rfl<|VO.m rfl rfl<|VO.l (LO.lenS Tryz.underlying9 (.r rfl) rfl) rfl<|VO.t rfl rfl rfl<|VO.n<|VC.cond rfl (fun h26 => ?_) (fun h26 => ?_))
    ·
     refine VC.skip (VE.seqN<|VC.block<|VC.scope<|VC.seq<|VC.seq<|VC.draw mixed (LL.m rfl rfl<|LL.m rfl rfl<|LL.l (LO.ixS (j := ((Utf8.encode r).size - 1)) Tryz.underlying9 (.r rfl) (.r rfl) (by omega) (by omega)) rfl<|LL.m rfl rfl<|LL.m rfl rfl<|LL.l (LO.ixS (j := ((Utf8.encode r).size - 1)) Tryz.underlying9 (.r rfl) (.r rfl) (by omega) (by omega)) rfl<|LL.l (LO.ne (.r rfl) (.r rfl)) rfl<|LL.nil) (by kernel_rfl)<|VE.seqN<|VC.cond rfl (fun h33 => ?_) (fun h33 => ?_))
     ·
      refine VC.seq<|VC.draw mixed (LL.m rfl rfl<|LL.m rfl rfl<|LL.l (LO.add (.r rfl) (.r rfl) (wi (by omega) (by omega))) rfl<|LL.l (LO.slS Tryz.underlying9 (.r rfl) (.r rfl) (by omega) (by omega)) rfl<|LL.m rfl rfl<|LL.m rfl rfl<|LL.l (LO.ixS (j := ((Utf8.encode r).size - 1)) Tryz.underlying9 (.r rfl) (.r rfl) (by omega) (by omega)) rfl<|LL.l (LO.call (xs := [_,_]) (vs := [_,_]) C97 ⟨(.r rfl), (.r rfl), trivial⟩ (fun w _ => (Tryz.strings_IndexByte _ _ w).mono fun e w' q => ⟨q.1, St.of_eq q.2⟩)) rfl<|LL.l (LO.as (.r rfl)) rfl<|LL.nil) (by kernel_rfl)<|VE.seqN<|VC.seq<|VC.q (VO.m rfl rfl<|VO.t rfl rfl rfl<|VO.n<|VC.cond rfl (fun h43 => ?_) (fun h43 => ?_))
      ·
       refine VC.q (VO.a rfl rfl<|VO.n<|VC.ret (VE.thenR (VE.thenR (VE.scR (VE.inR (VE.thenR (VE.inR (VE.thenR (VE.scR (VE.inR (VE.s rfl rfl (fun w hw => ?_))))))))))))
       first | exact ⟨by simp only [resV, runeIx]; rw [if_pos (by omega)], hw.nil⟩ | exact ⟨by simp only [resV, runeIx]; rw [if_neg (by omega)], hw.nil⟩
      · (exfalso; (rw [ix_none hs e3] at h43; omega))
     · (exfalso; omega)
    · (exfalso; omega)
theorem containsRune_c (s : ByteArray) (r : Int) (w : World) (h0 : 0 ≤ r) (hs : ∀ b ∈ s.data.toList, b.toNat < 128) (h4 : 4 ≤ s.size) (h5 : s.size < 100000) :
 Calls Tryz.prog 76 #[.string s, .int .i32 r] w fun e w' => e = .returned (.bool (decide (0 ≤ runeIx s r))) ∧ St (bs w) [] w' := by
 refine enter (vs := [_,_]) (env := [(0,_), (1,_)]) Tryz.func76 rfl rfl rfl rfl ?_
 refine VC.q (VO.a rfl rfl<|VO.n<|VC.q (VO.m rfl rfl<|VO.m rfl rfl<|VO.l (LO.call (xs := [_,_]) (vs := [_,_]) C91 ⟨(.r rfl), (.r rfl), trivial⟩ (fun w _ => indexRune_c s r w h0 hs h4 h5)) rfl<|VO.l (LO.ge (.r rfl) (.r rfl)) rfl<|VO.a rfl rfl<|VO.n<|VC.ret (VE.s rfl rfl (fun w hw => ?_))))
 exact ⟨rfl, hw.nil⟩
theorem nameRune_c (r : Nat) (w : World) :
 Calls Tryz.prog 75 #[.int .i32 (r : Int)] w fun e w' => e = .returned (.bool (pN r)) ∧ St (bs w) [] w' := by
 refine enter (vs := [_]) (env := [(0,_)]) Tryz.func75 rfl rfl rfl rfl ?_
 refine VC.q (VO.a rfl rfl<|VO.n<|VC.q (VO.m rfl rfl<|VO.l (LO.call (xs := [_,_]) (vs := [_,_]) C76 ⟨(.r rfl), (.r rfl), trivial⟩ (fun w _ => containsRune_c hayS (r : Int) w (by omega) hay_ascii (by decide) (by decide))) rfl<|VO.l (LO.not (.r rfl)) rfl<|VO.a rfl rfl<|VO.n<|VC.ret (VE.s rfl rfl (fun w hw => ?_))))
 exact ⟨by simp only [resV]; rw [hay_rune]; rfl, hw.nil⟩
theorem indexFunc_c (s : ByteArray) (w : World) :
 Calls Tryz.prog 96 #[.string s, .func (.func 75) #[] #[], .bool true] w fun e w' => e = .returned (.int .i64 (idxF pN s s.size 0)) ∧ St (bs w) [] w' := by
 refine enter (vs := [_,_,_]) (env := [(0,_), (1,_), (2,_)]) Tryz.func96 rfl rfl rfl rfl ?_
 refine VC.q (VO.a rfl rfl<|VO.n<|VC.seq<|VC.q (VO.m rfl rfl<|VO.h rfl<|HO.range Tryz.underlying9 rfl fun b1 => VO.n<|VC.block<|VC.loopK (α := Nat × Nat) 1 (fun gx => []) [(1,_), (2,_), (10,_)] (fun gx => [blk b1 (.stringIter s gx.1)]) (fun gx => idxF pN s gx.2 gx.1 = idxF pN s s.size 0 ∧ s.size ≤ gx.1 + gx.2) (fun gx => gx.2) (0, s.size) (by exact ⟨rfl, by omega⟩) (.cons rfl (.cons rfl (.cons rfl .nil))) (fun _ h => h) ?_))
 rintro ⟨q, f⟩ ⟨hI, hf⟩
 show VC _ _ _ _ _ ([] ++ _) ([blk b1 (.stringIter s q)] ++ _) _ _
 dsimp only at hI hf
 refine VC.seq ?_
 by_cases hps : q < s.size
 ·
  obtain ⟨f, rfl⟩ : ∃ k, f = k + 1 := ⟨f - 1, by omega⟩
  rw [idxF, if_pos hps] at hI
  refine VC.reg (VO.h rfl<|HO.nextT 0 (fun R => [R]) rfl rfl (fun _ => rfl) hps<|VO.h rfl<|HO.lo (LO.ex (.r rfl) rfl)<|VO.n<|VC.seq<|VC.cond rfl (fun h12 => ?_) (fun h12 => ?_))
  ·
   refine VC.skip (VE.seqN<|VC.block<|VC.q (VO.l (LO.ex (.r rfl) rfl) rfl<|VO.l (LO.ex (.r rfl) rfl) rfl<|VO.a rfl rfl<|VO.a rfl rfl<|VO.n<|VC.q (VO.m rfl rfl<|VO.m rfl rfl<|VO.l (LO.callv (first := []) (cap := []) (xs := [_]) (vs := [_]) (.r rfl) C75 ⟨(.r rfl), trivial⟩ (fun w _ => nameRune_c _ w)) rfl<|VO.m rfl rfl<|VO.l (LO.eqB Tryz.underlying4 (.r rfl) (.r rfl)) rfl<|VO.n<|VC.cond rfl (fun h19 => ?_) (fun h19 => ?_))))
   ·
    rw [if_pos h19] at hI
    refine VC.q (VO.m rfl rfl<|VO.a rfl rfl<|VO.n<|VC.ret (VE.inR (VE.thenR (VE.inR (VE.thenR (VE.s rfl rfl (fun w hw => ?_)))))))
    exact ⟨by simp only [resV]; rw [← hI] <;> rfl, hw.nil⟩
   ·
    rw [if_neg h19] at hI
    refine VC.skip (VE.inN<|VE.thenN fun a w ha hw => ⟨(q + (Utf8.decode s q).2, f), ⟨hI, by have := decode_pos s q; dsimp only; omega⟩, (by dsimp only; omega), ha.sub (.cons rfl (.cons rfl (.cons rfl .nil))), hw⟩)
  · (exfalso; exact h12 rfl)
 ·
  rw [idxF_end hps] at hI
  refine VC.reg (VO.h rfl<|HO.nextF 0 rfl rfl hps<|VO.h rfl<|HO.lo (LO.ex (.r rfl) rfl)<|VO.n<|VC.seq<|VC.cond rfl (fun h12 => ?_) (fun h12 => ?_))
  · (exfalso; cases h12)
  ·
   refine VC.exit (VE.thenX (VE.thenX (VE.inX (VE.seqN<|VC.q (VO.a rfl rfl<|VO.n<|VC.ret (VE.s rfl rfl (fun w hw => ?_)))))))
   exact ⟨by simp only [resV]; rw [← hI] <;> rfl, hw.nil⟩
theorem IndexFunc_c (s : ByteArray) (w : World) :
 Calls Tryz.prog 90 #[.string s, .func (.func 75) #[] #[]] w fun e w' => e = .returned (.int .i64 (idxF pN s s.size 0)) ∧ St (bs w) [] w' := by
 refine enter (vs := [_,_]) (env := [(0,_), (1,_)]) Tryz.func90 rfl rfl rfl rfl ?_
 refine VC.q (VO.a rfl rfl<|VO.n<|VC.q (VO.m rfl rfl<|VO.m rfl rfl<|VO.l (LO.call (xs := [_,_,_]) (vs := [_,_,_]) C96 ⟨(.r rfl), (.r rfl), (.r rfl), trivial⟩ (fun w _ => indexFunc_c _ w)) rfl<|VO.a rfl rfl<|VO.n<|VC.ret (VE.s rfl rfl (fun w hw => ?_))))
 exact ⟨rfl, hw.nil⟩
theorem ContainsFunc_c (s : ByteArray) (w : World) :
 Calls Tryz.prog 74 #[.string s, .func (.func 75) #[] #[]] w fun e w' => e = .returned (.bool (decide (0 ≤ idxF pN s s.size 0))) ∧ St (bs w) [] w' := by
 refine enter (vs := [_,_]) (env := [(0,_), (1,_)]) Tryz.func74 rfl rfl rfl rfl ?_
 refine VC.q (VO.a rfl rfl<|VO.n<|VC.q (VO.m rfl rfl<|VO.m rfl rfl<|VO.l (LO.call (xs := [_,_]) (vs := [_,_]) C90 ⟨(.r rfl), (.r rfl), trivial⟩ (fun w _ => IndexFunc_c _ w)) rfl<|VO.l (LO.ge (.r rfl) (.r rfl)) rfl<|VO.a rfl rfl<|VO.n<|VC.ret (VE.s rfl rfl (fun w hw => ?_))))
 exact ⟨rfl, hw.nil⟩
theorem C74 : IsFn Tryz.prog 74 := ⟨_, Tryz.func74, by decide, rfl⟩
def byteAt (s : ByteArray) (j : Nat) : Nat := (s.data.toList.getD j 0).toNat
def nameB (s : ByteArray) : Bool := ((((decide (1 ≤ (s.size : Int)) && decide ((s.size : Int) ≤ 12)) && decide (97 ≤ (byteAt s 0 : Int))) && decide ((byteAt s 0 : Int) ≤ 122)) && (List.range s.size).all fun j => nameR (byteAt s j))
theorem nameB_iff {s : ByteArray} : nameB s = true ↔ (((1 ≤ (s.size : Int) ∧ (s.size : Int) ≤ 12) ∧ 97 ≤ (byteAt s 0 : Int)) ∧ (byteAt s 0 : Int) ≤ 122) ∧ ∀ j, j < s.size → nameR (byteAt s j) = true := by
  unfold nameB
  rw [Bool.and_eq_true, Bool.and_eq_true, Bool.and_eq_true, Bool.and_eq_true, List.all_eq_true]
  simp
theorem nameB_idx {s : ByteArray} : (!decide (0 ≤ idxF pN s s.size 0)) = (List.range s.size).all fun j => nameR (byteAt s j) := by
  have h := idxF_bytes (p := pN) (s := s) (fun r hr => pN_high r hr) (f := s.size) (q := 0) (by omega)
  rw [Bool.eq_iff_iff, List.all_eq_true]
  constructor
  · intro q j hj
    have h1 : idxF pN s s.size 0 < 0 := by simpa using q
    have := h.1 h1 j (Nat.zero_le _) (List.mem_range.1 hj)
    unfold pN at this
    cases k : nameR (byteAt s j) with
    | true => rfl
    | false => unfold byteAt at k; rw [k] at this; cases this
  · intro q
    have : idxF pN s s.size 0 < 0 := h.2 fun j _ hj => by
      have := q j (List.mem_range.2 hj)
      unfold byteAt at this
      unfold pN; rw [this]; rfl
    simpa using this
theorem nameB_no {s : ByteArray} (h : ¬ nameB s = true) : nameB s = false := by simpa using h
theorem LO.neE {P : Program} {β : Bs} {env : Env} {L : List Res} {d : Option Nat} {ty : TypeId} {pos : String} {aft : Array Edge} {g : Option (Nat × Bool)} {xT yT : Nat} {x y : Operand} {s : ByteArray} (hx : OV env x (.string s)) (hy : OV env y (.string ⟨#[]⟩)) : LO P β env L ⟨d, .binOp .neq xT x y yT, ty, pos, aft, g⟩ (.bool (decide (1 ≤ (s.size : Int)))) := by
  have h := LO.neS (P := P) (β := β) (L := L) (d := d) (ty := ty) (pos := pos) (aft := aft) (g := g) (xT := xT) (yT := yT) hx hy
  have e : (!(s.toList == (⟨#[]⟩ : ByteArray).toList)) = decide (1 ≤ (s.size : Int)) := by
    rw [ByteArray.toList_eq, ByteArray.toList_eq]
    have hs : s.data.toList.length = s.size := Array.length_toList
    cases q : s.data.toList with
    | nil => rw [q] at hs; simp at hs; simp [← hs]
    | cons b l => rw [q] at hs; simp at hs; simp; omega
  rw [e] at h
  exact h
theorem nameR_bad {b : Nat} (h : ((((b : Int) < 97) ∨ ((122 : Int) < b)) ∧ (((b : Int) < 48) ∨ ((57 : Int) < b))) ∧ ¬ (b : Int) = 95) (q : nameR b = true) : False := by
  unfold nameR at q
  simp at q
  omega
theorem nameR_no {b : Nat} (h : ¬ nameR b = true) : ((((b : Int) < 97) ∨ ((122 : Int) < b)) ∧ (((b : Int) < 48) ∨ ((57 : Int) < b))) ∧ ¬ (b : Int) = 95 := by
  unfold nameR at h
  simp at h
  omega
theorem name_step {s : ByteArray} {i : Nat} (hz : ∀ k, k < i → nameR (byteAt s k) = true) (h : ¬ ¬ nameR (byteAt s i) = true) : ∀ k, k < i + 1 → nameR (byteAt s k) = true := fun k hk => by
  by_cases q : k = i
  · subst q; exact Classical.not_not.1 h
  · exact hz k (by omega)
theorem nn {b : Bool} (h : ¬ ¬ b = true) : b = true := Classical.not_not.1 h
theorem Name_c (s : ByteArray) (w : World) :
 Calls Tryz.prog 56 #[.string s] w fun e w' => e = .returned (.bool (nameB s)) ∧ St (bs w) [] w' := by
 refine enter (vs := [_]) (env := [(0,_)]) Tryz.func56 rfl rfl rfl rfl ?_
 refine VC.q (VO.a rfl rfl<|VO.n<|VC.q (VO.m rfl rfl<|VO.l (LO.neE (.r rfl) (.r rfl)) rfl<|VO.m rfl rfl<|VO.gt rfl rfl (fun hg => LO.mv (.r rfl)) rfl<|VO.gt rfl rfl (fun hg => LO.lenS Tryz.underlying9 (.g hg rfl) rfl) rfl<|VO.gt rfl rfl (fun hg => LO.le (.g hg rfl) (.r rfl)) rfl<|VO.l (LO.pkA (.r rfl) rfl rfl (.r rfl)) rfl<|VO.m rfl rfl<|VO.gt rfl rfl (fun hg => LO.mv (.r rfl)) rfl<|VO.gt rfl rfl (fun hg => LO.ixS (j := 0) Tryz.underlying9 (.g hg rfl) (.r rfl) rfl (by have q := IsP.yes inferInstance hg; omega)) rfl<|VO.gt rfl rfl (fun hg => LO.ge (.g hg rfl) (.r rfl)) rfl<|VO.l (LO.pkA (.r rfl) rfl rfl (.r rfl)) rfl<|VO.m rfl rfl<|VO.gt rfl rfl (fun hg => LO.mv (.r rfl)) rfl<|VO.gt rfl rfl (fun hg => LO.ixS (j := 0) Tryz.underlying9 (.g hg rfl) (.r rfl) rfl (by have q := IsP.yes inferInstance hg; omega)) rfl<|VO.gt rfl rfl (fun hg => LO.le (.g hg rfl) (.r rfl)) rfl<|VO.l (LO.pkA (.r rfl) rfl rfl (.r rfl)) rfl<|VO.m rfl rfl<|VO.gt rfl rfl (fun hg => LO.mv (.r rfl)) rfl<|VO.gt rfl rfl (fun hg => LO.call (xs := [_,_]) (vs := [_,_]) C74 ⟨(.g hg rfl), (.r rfl), trivial⟩ (fun w _ => ContainsFunc_c _ w)) rfl<|VO.gt rfl rfl (fun hg => LO.not (.g hg rfl)) rfl<|VO.l (LO.pkA (.r rfl) rfl rfl (.r rfl)) rfl<|VO.a rfl rfl<|VO.n<|VC.ret (VE.s rfl rfl (fun w hw => ?_))))
 exact ⟨by simp only [resV]; rw [nameB_idx]; rfl, hw.nil⟩
theorem rName_c (s : ByteArray) (w : World) :
 Calls Tryz.prog 59 #[.string s] w fun e w' => e = .returned (.bool (nameB s)) ∧ St (bs w) [] w' := by
 refine enter (vs := [_]) (env := [(0,_)]) Tryz.func59 rfl rfl rfl rfl ?_
 refine VC.q (VO.a rfl rfl<|VO.n<|VC.seq<|VC.q (VO.m rfl rfl<|VO.l (LO.lenS Tryz.underlying9 (.r rfl) rfl) rfl<|VO.t rfl rfl rfl<|VO.m rfl rfl<|VO.gf rfl rfl (fun hg => LO.mv (.r rfl)) rfl<|VO.gf rfl rfl (fun hg => LO.lenS Tryz.underlying9 (.g hg rfl) rfl) rfl<|VO.gf rfl rfl (fun hg => LO.gt (.g hg rfl) (.r rfl)) rfl<|VO.l (LO.pkO (.r rfl) (.r rfl) rfl rfl) rfl<|VO.m rfl rfl<|VO.gf rfl rfl (fun hg => LO.mv (.r rfl)) rfl<|VO.gf rfl rfl (fun hg => LO.ixS (j := 0) Tryz.underlying9 (.g hg rfl) (.r rfl) rfl (by have q := IsP.yes inferInstance hg; omega)) rfl<|VO.gf rfl rfl (fun hg => LO.lt (.g hg rfl) (.r rfl)) rfl<|VO.l (LO.pkO (.r rfl) (.r rfl) rfl rfl) rfl<|VO.m rfl rfl<|VO.gf rfl rfl (fun hg => LO.mv (.r rfl)) rfl<|VO.gf rfl rfl (fun hg => LO.ixS (j := 0) Tryz.underlying9 (.g hg rfl) (.r rfl) rfl (by have q := IsP.yes inferInstance hg; omega)) rfl<|VO.gf rfl rfl (fun hg => LO.gt (.g hg rfl) (.r rfl)) rfl<|VO.l (LO.pkO (.r rfl) (.r rfl) rfl rfl) rfl<|VO.n<|VC.cond rfl (fun h22 => ?_) (fun h22 => ?_)))
 ·
  refine VC.q (VO.a rfl rfl<|VO.n<|VC.ret (VE.thenR (VE.s rfl rfl (fun w hw => ?_))))
  refine ⟨?_, hw.nil⟩
  simp only [resV]
  first | (rw [nameB_iff.2 ⟨⟨⟨by omega, by omega⟩, by omega⟩, fun j hj => hz j (by omega)⟩]) | (rw [nameB_no (fun q => by have := nameB_iff.1 q; unfold byteAt at this; omega)]) | (rw [nameB_no (fun q => nameR_bad h49 ((nameB_iff.1 q).2 i (by omega)))])
 ·
  have hsz : (1 ≤ s.size ∧ s.size ≤ 12) := by omega
  have hb0 : 97 ≤ (byteAt s 0 : Int) ∧ (byteAt s 0 : Int) ≤ 122 := by unfold byteAt; omega
  refine VC.skip (VE.seqN<|VC.seq<|VC.q (VO.a rfl rfl<|VO.n<|VC.block<|VC.loopK (α := Nat) 0 (fun gx => [(3, .int .i64 (gx : Nat))]) [(0,_)] (fun gx => []) (fun gx => gx ≤ s.size ∧ ∀ k, k < gx → nameR (byteAt s k) = true) (fun gx => s.size - gx) 0 (by exact ⟨Nat.zero_le _, fun k hk => by omega⟩) (.cons rfl (.cons rfl .nil)) (fun _ h => h) ?_))
  rintro i ⟨hi, hz⟩
  refine VC.seq<|VC.q (VO.m rfl rfl<|VO.m rfl rfl<|VO.l (LO.lenS Tryz.underlying9 (.r rfl) rfl) rfl<|VO.t rfl rfl rfl<|VO.n<|VC.cond rfl (fun h2 => ?_) (fun h2 => ?_))
  ·
   refine VC.skip (VE.seqN<|VC.seq<|VC.block<|VC.q (VO.m rfl rfl<|VO.m rfl rfl<|VO.l (LO.ixS (j := i) Tryz.underlying9 (.r rfl) (.r rfl) rfl (by omega)) rfl<|VO.a rfl rfl<|VO.n<|VC.q (VO.m rfl rfl<|VO.t rfl rfl rfl<|VO.m rfl rfl<|VO.gf rfl rfl (fun hg => LO.mv (.r rfl)) rfl<|VO.gf rfl rfl (fun hg => LO.gt (.g hg rfl) (.r rfl)) rfl<|VO.l (LO.pkO (.r rfl) (.r rfl) rfl rfl) rfl<|VO.m rfl rfl<|VO.gt rfl rfl (fun hg => LO.mv (.r rfl)) rfl<|VO.gt rfl rfl (fun hg => LO.lt (.g hg rfl) (.r rfl)) rfl<|VO.gt rfl rfl (fun hg => LO.mv (.g hg rfl)) rfl<|VO.lg rfl rfl (GD.nf _ _) (fun hg => LO.mv (.r rfl)) rfl<|VO.lg rfl rfl (GD.nf _ _) (fun hg => LO.gt (.g hg rfl) (.r rfl)) rfl<|VO.gt rfl rfl (fun hg => LO.pkO (.g hg rfl) (.r rfl) rfl (and_e hg)) rfl<|VO.l (LO.pkA (.r rfl) rfl rfl (.r rfl)) rfl<|VO.m rfl rfl<|VO.gt rfl rfl (fun hg => LO.mv (.r rfl)) rfl<|VO.gt rfl rfl (fun hg => LO.ne (.g hg rfl) (.r rfl)) rfl<|VO.l (LO.pkA (.r rfl) rfl rfl (.r rfl)) rfl<|VO.n<|VC.cond rfl (fun h49 => ?_) (fun h49 => ?_))))
   ·
    refine VC.q (VO.a rfl rfl<|VO.n<|VC.ret (VE.inR (VE.thenR (VE.thenR (VE.inR (VE.thenR (VE.s rfl rfl (fun w hw => ?_))))))))
    refine ⟨?_, hw.nil⟩
    simp only [resV]
    first | (rw [nameB_iff.2 ⟨⟨⟨by omega, by omega⟩, by omega⟩, fun j hj => hz j (by omega)⟩]) | (rw [nameB_no (fun q => by have := nameB_iff.1 q; unfold byteAt at this; omega)]) | (rw [nameB_no (fun q => nameR_bad h49 ((nameB_iff.1 q).2 i (by omega)))])
   ·
    refine VC.skip (VE.inN (VE.seqN<|VC.reg (VO.m rfl rfl<|VO.p rfl rfl (by omega) (by omega) rfl<|VO.a rfl rfl<|VO.nil<|VE.thenN fun a w ha hw => ⟨i + 1, ⟨by omega, name_step hz (fun q => h49 (nameR_no q))⟩, (by omega), ha.sub (.cons rfl (.cons rfl .nil)), hw⟩)))
  ·
   refine VC.exit (VE.thenX (VE.thenX (VE.inX (VE.seqN<|VC.q (VO.a rfl rfl<|VO.n<|VC.ret (VE.s rfl rfl (fun w hw => ?_)))))))
   refine ⟨?_, hw.nil⟩
   simp only [resV]
   first | (rw [nameB_iff.2 ⟨⟨⟨by omega, by omega⟩, by omega⟩, fun j hj => hz j (by omega)⟩]) | (rw [nameB_no (fun q => by have := nameB_iff.1 q; unfold byteAt at this; omega)]) | (rw [nameB_no (fun q => nameR_bad h49 ((nameB_iff.1 q).2 i (by omega)))])
theorem F74_1 : FieldAt Tryz.prog 74 1 1 := ⟨_,_, Tryz.underlying74, rfl, rfl, 0, by kernel_rfl⟩
theorem C31 : IsFn Tryz.prog 31 := ⟨_, Tryz.func31, by decide, rfl⟩
structure Reg where
  name : ByteArray
  pix : List Int
instance : Inhabited Reg := ⟨⟨ByteArray.empty, []⟩⟩
structure RG where
  r : Reg
  px : Option Addr
  cx : Nat
def RG.cells (x : RG) : List Value := [.string x.r.name, .slice x.px x.r.pix.length x.cx]
structure Regs (w : World) (p : Option Addr) (l : List RG) : Prop where
  rows : Go.SL.Rows w 2 p (l.map RG.cells)
  ok : ∀ x, x ∈ l → Ints w x.px x.r.pix ∧ x.r.pix.length < 1000000000000
theorem Regs.sm {w : World} {p : Option Addr} {l : List RG} (h : Regs w p l) : SlSome p l.length := Go.SL.Rows.some h.rows (by simp)
theorem Regs.keep {w0 w : World} {L : List Res} {p : Option Addr} {l : List RG} (h : Regs w0 p l) (hw : St (bs w0) L w) : Regs w p l := ⟨h.rows.keep w hw, fun x hx => ⟨(h.ok x hx).1.keep w hw, (h.ok x hx).2⟩⟩
theorem Regs.at {w0 : World} {p : Option Addr} {l : List RG} (h : Regs w0 p l) {L : List Res} {j : Nat} {x : RG} (hx : l[j]? = some x) : ∀ w, St (bs w0) L w → Cells w ⟨pb p, po p + j * 2, none⟩ x.cells :=
  fun w hw => (h.rows.keep w hw).cells j _ (by rw [List.getElem?_map, hx]; rfl)
structure Sp where
  g : Grid
  regs : List Reg
  lead : Int
  step : Int
  hold : Int
abbrev specV (g : Grid) (p : Option Addr) (n c : Nat) (a b d : Int) : Value := .agg #[.int .i64 g.x, .int .i64 g.y, .int .i64 g.size, .int .i64 g.wide, .int .i64 g.high, .slice p n c, .int .i64 a, .int .i64 b, .int .i64 d]
def pixE (g : Grid) (l : List Int) : Int := if l = [] then 18 else firstE (mayE g l) l.length
def metB (l : List Reg) (i : Nat) : ByteArray → Bool := fun s => (l.take i).any fun r => decide (s = r.name)
def regE (g : Grid) (l : List Reg) (i : Nat) : Int :=
  if ¬ nameB (l.getD i default).name = true then 10 else if metB l i (l.getD i default).name = true then 5 else pixE g (l.getD i default).pix
def rulesOk (s : Sp) : Prop := (0 ≤ s.lead ∧ s.lead ≤ 7200) ∧ (30 ≤ s.step ∧ s.step ≤ 3600) ∧ (0 ≤ s.hold ∧ s.hold ≤ 86400)
instance (s : Sp) : Decidable (rulesOk s) := by unfold rulesOk; exact inferInstance
def specE (s : Sp) : Int :=
  if ¬ gridOk s.g then 3 else if s.regs = [] then 18 else if 32 < s.regs.length then 9
  else if firstE (regE s.g s.regs) s.regs.length ≠ 0 then firstE (regE s.g s.regs) s.regs.length else if ¬ rulesOk s then 3 else 0
theorem pE1 {g : Grid} {l : List Int} (h : (l.length : Int) = 0) : 18 = pixE g l := (if_pos (List.length_eq_zero_iff.1 (by omega))).symm
theorem pE0 {g : Grid} {l : List Int} (h : ¬ (l.length : Int) = 0) : pixE g l = firstE (mayE g l) l.length := if_neg (fun q => h (by rw [q]; rfl))
theorem pE2 {g : Grid} {l : List Int} {j : Nat} {e : Int} (h : ¬ (l.length : Int) = 0) (hz : ∀ k, k < j → mayE g l k = 0) (hj : (j : Int) < l.length) (he : mayE g l j = e) (h0 : e ≠ 0) : e = pixE g l := by
  rw [pE0 h, firstE_at hz (by omega) (n := l.length) (by omega), he]
theorem pE3 {g : Grid} {l : List Int} {j : Nat} (h : ¬ (l.length : Int) = 0) (hz : ∀ k, k < j → mayE g l k = 0) (hj : ¬ (j : Int) < l.length) : 0 = pixE g l := by
  rw [pE0 h, firstE_zero (fun k hk => hz k (by omega))]
theorem met_step {l : List Reg} {j : Nat} (h : j < l.length) : metB l (j + 1) = insS (metB l j) (l.getD j default).name := by
  funext s
  unfold metB insS
  rw [List.take_add_one, List.getElem?_eq_getElem h, List.getD_eq_getElem?_getD, List.getElem?_eq_getElem h, List.any_append]
  simp only [Option.toList_some, List.any_cons, List.any_nil, Bool.or_false, Option.getD_some]
  rw [Bool.or_comm]
theorem met_zero (l : List Reg) : metB l 0 = fun _ => false := by funext s; simp [metB]
section
variable {s : Sp}
theorem sE1 (h : ¬ gridE s.g = 0) : gridE s.g = specE s := by
  unfold specE
  by_cases q : gridOk s.g
  · exact absurd (if_pos q) h
  · rw [if_pos q]; exact if_neg q
theorem sE2 (hg : gridOk s.g) (h : (s.regs.length : Int) = 0) : 18 = specE s := by
  unfold specE
  rw [if_neg (fun q => q hg), if_pos (List.length_eq_zero_iff.1 (by omega))]
theorem sE3 (hg : gridOk s.g) (h : ¬ (s.regs.length : Int) = 0) (k : (32 : Int) < s.regs.length) : 9 = specE s := by
  unfold specE
  rw [if_neg (fun q => q hg), if_neg (fun q => h (by rw [q]; rfl)), if_pos (by omega)]
theorem sE0 (hg : gridOk s.g) (h : ¬ (s.regs.length : Int) = 0) (k : ¬ (32 : Int) < s.regs.length) : specE s = if firstE (regE s.g s.regs) s.regs.length ≠ 0 then firstE (regE s.g s.regs) s.regs.length else if ¬ rulesOk s then 3 else 0 := by
  unfold specE
  rw [if_neg (fun q => q hg), if_neg (fun q => h (by rw [q]; rfl)), if_neg (by omega)]
theorem sE4 (hg : gridOk s.g) (h : ¬ (s.regs.length : Int) = 0) (k : ¬ (32 : Int) < s.regs.length) {j : Nat} {e : Int} (hz : ∀ k, k < j → regE s.g s.regs k = 0) (hj : (j : Int) < s.regs.length) (he : regE s.g s.regs j = e) (h0 : e ≠ 0) : e = specE s := by
  rw [sE0 hg h k, firstE_at hz (by omega) (n := s.regs.length) (by omega), he, if_pos h0]
theorem sE5 (hg : gridOk s.g) (h : ¬ (s.regs.length : Int) = 0) (k : ¬ (32 : Int) < s.regs.length) {j : Nat} (hz : ∀ k, k < j → regE s.g s.regs k = 0) (hj : ¬ (j : Int) < s.regs.length) (hr : ¬ rulesOk s) : 3 = specE s := by
  rw [sE0 hg h k, firstE_zero (fun k hk => hz k (by omega)), if_neg (by omega), if_pos hr]
theorem sE6 (hg : gridOk s.g) (h : ¬ (s.regs.length : Int) = 0) (k : ¬ (32 : Int) < s.regs.length) {j : Nat} (hz : ∀ k, k < j → regE s.g s.regs k = 0) (hj : ¬ (j : Int) < s.regs.length) (hr : rulesOk s) : 0 = specE s := by
  rw [sE0 hg h k, firstE_zero (fun k hk => hz k (by omega)), if_neg (by omega), if_neg (fun q => q hr)]
theorem regE1 {g : Grid} {l : List Reg} {j : Nat} (h : ¬ nameB (l.getD j default).name = true) : regE g l j = 10 := if_pos h
theorem regE2 {g : Grid} {l : List Reg} {j : Nat} (h : nameB (l.getD j default).name = true) (k : metB l j (l.getD j default).name = true) : regE g l j = 5 := by unfold regE; rw [if_neg (fun q => q h), if_pos k]
theorem regE3 {g : Grid} {l : List Reg} {j : Nat} (h : nameB (l.getD j default).name = true) (k : ¬ metB l j (l.getD j default).name = true) : regE g l j = pixE g (l.getD j default).pix := by unfold regE; rw [if_neg (fun q => q h), if_neg k]
end
theorem getD_r {l : List RG} {j : Nat} {x : RG} (hx : l[j]? = some x) : (l.map RG.r).getD j default = x.r := by
  rw [List.getD_eq_getElem?_getD, List.getElem?_map, hx]; rfl
theorem iwithin_c (n lo hi : Int) (w : World) :
 Calls Tryz.prog 31 #[.int .i64 n, .int .i64 lo, .int .i64 hi] w fun e w' => e = .returned (.bool (decide (lo ≤ n) && decide (n ≤ hi))) ∧ St (bs w) [] w' := by
 refine enter (vs := [_,_,_]) (env := [(0,_), (1,_), (2,_)]) Tryz.func31 rfl rfl rfl rfl ?_
 refine VC.q (VO.a rfl rfl<|VO.n<|VC.q (VO.m rfl rfl<|VO.m rfl rfl<|VO.l (LO.le (.r rfl) (.r rfl)) rfl<|VO.m rfl rfl<|VO.gt rfl rfl (fun hg => LO.mv (.r rfl)) rfl<|VO.gt rfl rfl (fun hg => LO.mv (.r rfl)) rfl<|VO.gt rfl rfl (fun hg => LO.le (.g hg rfl) (.g hg rfl)) rfl<|VO.l (LO.pkA (.r rfl) rfl rfl (.r rfl)) rfl<|VO.a rfl rfl<|VO.n<|VC.ret (VE.s rfl rfl (fun w hw => ?_))))
 exact ⟨rfl, hw.nil⟩
theorem rcheck_c (r : RG) (g : Grid) (w : World) (hg : gridOk g) (hl : Ints w r.px r.r.pix) (hn : r.r.pix.length < 1000000000000) :
 Calls Tryz.prog 57 #[.agg #[.string r.r.name, .slice r.px r.r.pix.length r.cx], gridV g] w fun e w' => e = .returned (.int .i64 (pixE g r.r.pix)) ∧ St (bs w) [] w' := by
 have har := area_bd hg
 refine enter (vs := [_,_]) (env := [(0,_), (1,_)]) Tryz.func57 rfl rfl rfl rfl ?_
 refine VC.q (VO.h rfl<|HO.box (C := #[_,_]) rfl rfl fun b1 => VO.h rfl<|HO.box (C := #[_,_,_,_,_]) rfl rfl fun b2 => VO.a rfl rfl<|VO.n<|VC.seq<|VC.q (VO.f (r := 1) F74_1 rfl rfl rfl<|VO.c 1 O72 rfl rfl ⟨_, rfl⟩ rfl<|VO.l (LO.len S72 (.r rfl) rfl) rfl<|VO.l (LO.eq (.r rfl) (.r rfl)) rfl<|VO.n<|VC.cond rfl (fun h1 => ?_) (fun h1 => ?_)))
 ·
  refine VC.q (VO.a rfl rfl<|VO.n<|VC.ret (VE.thenR (VE.s rfl rfl (fun w hw => ?_))))
  refine ⟨?_, hw.nil⟩
  simp only [resV]
  congr 2
  first | exact pE1 h1 | exact pE2 h1 hz h2 (by unfold mayE; rw [if_pos h3]) (by decide) | exact pE2 h1 hz h2 (by unfold mayE; rw [if_neg h3, if_pos (by omega)]) (by decide) | exact pE3 h1 hz h2
 ·
  refine VC.skip (VE.seqN<|VC.seq<|VC.q (VO.f (r := 1) F74_1 rfl rfl rfl<|VO.c 1 O72 rfl rfl ⟨_, rfl⟩ rfl<|VO.l (LO.len S72 (.r rfl) rfl) rfl<|VO.m rfl rfl<|VO.n<|VC.block<|VC.loopK (α := Nat) 0 (fun gx => [(14, .int .i64 (gx : Nat))]) [(2,_), (3,_), (12,_), (13,_)] (fun gx => []) (fun gx => gx ≤ r.r.pix.length ∧ ∀ k, k < gx → mayE g r.r.pix k = 0) (fun gx => r.r.pix.length - gx) 0 (by exact ⟨by omega, fun k hk => by omega⟩) (.c4 rfl rfl rfl rfl (.cons rfl .nil)) (fun _ h => h) ?_))
  rintro j ⟨hj, hz⟩
  refine VC.q (VO.t rfl rfl rfl<|VO.n<|VC.seq<|VC.cond rfl (fun h2 => ?_) (fun h2 => ?_))
  ·
   refine VC.skip (VE.seqN<|VC.seq<|VC.block<|VC.q (VO.m rfl rfl<|VO.l (LO.ixs S72 N3 hl.some (.r rfl) (.r rfl) rfl (by omega)) rfl<|VO.l (LO.ld O3 (.r rfl) (hl.at (j := j) (by omega))) rfl<|VO.a rfl rfl<|VO.a rfl rfl<|VO.n<|VC.block<|VC.q (VO.m rfl rfl<|VO.f (r := 3) F23_3 rfl rfl rfl<|VO.c 0 O3 rfl rfl ⟨_, rfl⟩ rfl<|VO.f (r := 4) F23_4 rfl rfl rfl<|VO.c 0 O3 rfl rfl ⟨_, rfl⟩ rfl<|VO.l (LO.mul (.r rfl) (.r rfl) (wi (by omega) (by omega))) rfl<|VO.l (LO.sub (.r rfl) (.r rfl) (wi (by omega) (by omega))) rfl<|VO.l (LO.call (xs := [_,_,_]) (vs := [_,_,_]) C31 ⟨(.r rfl), (.r rfl), (.r rfl), trivial⟩ (fun w _ => iwithin_c _ _ _ w)) rfl<|VO.l (LO.not (.r rfl)) rfl<|VO.a rfl rfl<|VO.n<|VC.cond rfl (fun h3 => ?_) (fun h3 => ?_))))
   ·
    refine VC.q (VO.a rfl rfl<|VO.n<|VC.ret (VE.inR (VE.inR (VE.thenR (VE.thenR (VE.inR (VE.thenR (VE.s rfl rfl (fun w hw => ?_)))))))))
    refine ⟨?_, hw.nil⟩
    simp only [resV]
    congr 2
    first | exact pE1 h1 | exact pE2 h1 hz h2 (by unfold mayE; rw [if_pos h3]) (by decide) | exact pE2 h1 hz h2 (by unfold mayE; rw [if_neg h3, if_pos (by omega)]) (by decide) | exact pE3 h1 hz h2
   ·
    refine VC.q (VO.m rfl rfl<|VO.l (LO.gt (.r rfl) (.r rfl)) rfl<|VO.m rfl rfl<|VO.gt rfl rfl (fun hg => LO.mv (.r rfl)) rfl<|VO.gt rfl rfl (fun hg => LO.fa (r := 1) F74_1 (.r rfl) rfl) rfl<|VO.gt rfl rfl (fun hg => LO.ld O72 (.g hg rfl) (cells_blk 1 rfl ⟨_, rfl⟩)) rfl<|VO.gt rfl rfl (fun hg => LO.mv (.r rfl)) rfl<|VO.gt rfl rfl (fun hg => LO.sub (.g hg rfl) (.r rfl) (wi (by omega) (by omega))) rfl<|VO.gt rfl rfl (fun hg => LO.ixs S72 N3 hl.some (.g hg rfl) (.g hg rfl) (by have := of_decide_eq_true hg; omega) (by omega)) rfl<|VO.gt rfl rfl (fun hg => LO.ld O3 (.g hg rfl) (hl.at (j := (j - 1)) (by omega))) rfl<|VO.gt rfl rfl (fun hg => LO.le (.g hg rfl) (.g hg rfl)) rfl<|VO.l (LO.pkA (.r rfl) rfl rfl (.r rfl)) rfl<|VO.a rfl rfl<|VO.n<|VC.cond rfl (fun h4 => ?_) (fun h4 => ?_))
    ·
     refine VC.q (VO.a rfl rfl<|VO.n<|VC.ret (VE.inR (VE.inR (VE.thenR (VE.thenR (VE.inR (VE.thenR (VE.s rfl rfl (fun w hw => ?_)))))))))
     refine ⟨?_, hw.nil⟩
     simp only [resV]
     congr 2
     first | exact pE1 h1 | exact pE2 h1 hz h2 (by unfold mayE; rw [if_pos h3]) (by decide) | exact pE2 h1 hz h2 (by unfold mayE; rw [if_neg h3, if_pos (by omega)]) (by decide) | exact pE3 h1 hz h2
    ·
     refine VC.skip (VE.inN (VE.inN (VE.seqN<|VC.reg (VO.p rfl rfl (by omega) (by omega) rfl<|VO.m rfl rfl<|VO.nil<|VE.thenN fun a w ha hw => ⟨j + 1, ⟨by omega, step_zero hz (mayE_zero h3 h4)⟩, (by omega), ha.sub (.c4 rfl rfl rfl rfl (.cons rfl .nil)), hw⟩))))
  ·
   refine VC.exit (VE.thenX (VE.thenX (VE.inX (VE.seqN<|VC.q (VO.a rfl rfl<|VO.n<|VC.ret (VE.s rfl rfl (fun w hw => ?_)))))))
   refine ⟨?_, hw.nil⟩
   simp only [resV]
   congr 2
   first | exact pE1 h1 | exact pE2 h1 hz h2 (by unfold mayE; rw [if_pos h3]) (by decide) | exact pE2 h1 hz h2 (by unfold mayE; rw [if_neg h3, if_pos (by omega)]) (by decide) | exact pE3 h1 hz h2
theorem F28_0 : FieldAt Tryz.prog 28 0 0 := ⟨_,_, Tryz.underlying28, rfl, rfl, 4, by kernel_rfl⟩
theorem F28_1 : FieldAt Tryz.prog 28 1 5 := ⟨_,_, Tryz.underlying28, rfl, rfl, 0, by kernel_rfl⟩
theorem O24 : IsOne Tryz.prog 24 := ⟨⟨_, Tryz.underlying24, rfl⟩, by kernel_rfl⟩
theorem S24 : IsSlice Tryz.prog 24 74 := Tryz.underlying24
theorem N74 : (Tryz.prog.info? 74).map (·.size) = some 2 := by kernel_rfl
theorem A74 : IsAgg Tryz.prog 74 2 := ⟨⟨_, Tryz.underlying74, rfl⟩, by kernel_rfl⟩
theorem Z74 : ZeroOf Tryz.prog 74 (.agg #[.string ByteArray.empty, .slice none 0 0]) := by unfold ZeroOf; kernel_rfl
theorem F74_0 : FieldAt Tryz.prog 74 0 0 := ⟨_,_, Tryz.underlying74, rfl, rfl, 0, by kernel_rfl⟩
theorem O9 : IsOne Tryz.prog 9 := ⟨⟨_, Tryz.underlying9, rfl⟩, by kernel_rfl⟩
theorem C56 : IsFn Tryz.prog 56 := ⟨_, Tryz.func56, by decide, rfl⟩
theorem M155 : IsSetS Tryz.prog 155 := ⟨9,4, Tryz.underlying155, Tryz.underlying9, by unfold ZeroOf; kernel_rfl⟩
theorem C57 : IsFn Tryz.prog 57 := ⟨_, Tryz.func57, by decide, rfl⟩
theorem F28_2 : FieldAt Tryz.prog 28 2 6 := ⟨_,_, Tryz.underlying28, rfl, rfl, 2, by kernel_rfl⟩
theorem F26_0 : FieldAt Tryz.prog 26 0 0 := ⟨_,_, Tryz.underlying26, rfl, rfl, 0, by kernel_rfl⟩
theorem F26_1 : FieldAt Tryz.prog 26 1 1 := ⟨_,_, Tryz.underlying26, rfl, rfl, 0, by kernel_rfl⟩
theorem F26_2 : FieldAt Tryz.prog 26 2 2 := ⟨_,_, Tryz.underlying26, rfl, rfl, 0, by kernel_rfl⟩
theorem Check_c (g : Grid) (l : List RG) (pl : Option Addr) (cl : Nat) (a b d : Int) (w : World) (hll : l.length < 1000000000000) (hl : Regs w pl l) :
 Calls Tryz.prog 26 #[specV g pl l.length cl a b d] w fun e w' => e = .returned (.int .i64 (specE ⟨g, l.map RG.r, a, b, d⟩)) ∧ St (bs w) [] w' := by
 refine enter (vs := [_]) (env := [(0,_)]) Tryz.func26 rfl rfl rfl rfl ?_
 refine VC.q (VO.h rfl<|HO.box (C := #[_,_,_,_,_,_,_,_,_]) rfl rfl fun b1 => VO.a rfl rfl<|VO.n<|VC.seq<|VC.q (VO.f (r := 0) F28_0 rfl rfl rfl<|VO.l (LO.lda (vs := [_,_,_,_,_]) A23 (.r rfl) (cells_blk 0 rfl ⟨_, rfl⟩) rfl) rfl<|VO.l (LO.call (xs := [_]) (vs := [_]) C55 ⟨(.r rfl), trivial⟩ (fun w _ => checkGrid_c g w)) rfl<|VO.a rfl rfl<|VO.n<|VC.q (VO.m rfl rfl<|VO.u rfl rfl rfl<|VO.n<|VC.cond rfl (fun h1 => ?_) (fun h1 => ?_))))
 ·
  refine VC.q (VO.m rfl rfl<|VO.a rfl rfl<|VO.n<|VC.ret (VE.thenR (VE.s rfl rfl (fun w hw => ?_))))
  refine ⟨?_, hw.nil⟩
  simp only [resV]
  congr 2
  have hlen : (l.map RG.r).length = l.length := List.length_map ..
  first | exact sE1 (s := ⟨g,_,a,b,d⟩) h1 | exact sE2 (s := ⟨g,_,a,b,d⟩) hgo (by simpa using h2) | exact sE3 (s := ⟨g,_,a,b,d⟩) hgo (by simpa using h2) (by simpa using h3) | exact sE4 (s := ⟨g,_,a,b,d⟩) hgo (by simpa using h2) (by simpa using h3) hz (by simpa using h4) (regE1 (by rw [hxd]; exact h5)) (by decide) | exact sE4 (s := ⟨g,_,a,b,d⟩) hgo (by simpa using h2) (by simpa using h3) hz (by simpa using h4) (regE2 (by rw [hxd]; exact h5') (by rw [hxd]; exact h6)) (by decide) | exact sE4 (s := ⟨g,_,a,b,d⟩) hgo (by simpa using h2) (by simpa using h3) hz (by simpa using h4) ((regE3 (by rw [hxd]; exact h5') (by rw [hxd]; exact h6)).trans (by rw [hxd])) h7 | exact sE5 (s := ⟨g,_,a,b,d⟩) hgo (by simpa using h2) (by simpa using h3) hz (by simpa using h4) (by unfold rulesOk; dsimp only; omega) | exact sE6 (s := ⟨g,_,a,b,d⟩) hgo (by simpa using h2) (by simpa using h3) hz (by simpa using h4) (by unfold rulesOk; dsimp only; omega)
 ·
  have hgo : gridOk g := gridOk_of h1
  refine VC.skip (VE.seqN<|VC.seq<|VC.block<|VC.q (VO.f (r := 5) F28_1 rfl rfl rfl<|VO.c 0 O24 rfl rfl ⟨_, rfl⟩ rfl<|VO.l (LO.len S24 (.r rfl) rfl) rfl<|VO.l (LO.eq (.r rfl) (.r rfl)) rfl<|VO.a rfl rfl<|VO.n<|VC.cond rfl (fun h2 => ?_) (fun h2 => ?_)))
  ·
   refine VC.q (VO.a rfl rfl<|VO.n<|VC.ret (VE.inR (VE.thenR (VE.s rfl rfl (fun w hw => ?_)))))
   refine ⟨?_, hw.nil⟩
   simp only [resV]
   congr 2
   have hlen : (l.map RG.r).length = l.length := List.length_map ..
   first | exact sE1 (s := ⟨g,_,a,b,d⟩) h1 | exact sE2 (s := ⟨g,_,a,b,d⟩) hgo (by simpa using h2) | exact sE3 (s := ⟨g,_,a,b,d⟩) hgo (by simpa using h2) (by simpa using h3) | exact sE4 (s := ⟨g,_,a,b,d⟩) hgo (by simpa using h2) (by simpa using h3) hz (by simpa using h4) (regE1 (by rw [hxd]; exact h5)) (by decide) | exact sE4 (s := ⟨g,_,a,b,d⟩) hgo (by simpa using h2) (by simpa using h3) hz (by simpa using h4) (regE2 (by rw [hxd]; exact h5') (by rw [hxd]; exact h6)) (by decide) | exact sE4 (s := ⟨g,_,a,b,d⟩) hgo (by simpa using h2) (by simpa using h3) hz (by simpa using h4) ((regE3 (by rw [hxd]; exact h5') (by rw [hxd]; exact h6)).trans (by rw [hxd])) h7 | exact sE5 (s := ⟨g,_,a,b,d⟩) hgo (by simpa using h2) (by simpa using h3) hz (by simpa using h4) (by unfold rulesOk; dsimp only; omega) | exact sE6 (s := ⟨g,_,a,b,d⟩) hgo (by simpa using h2) (by simpa using h3) hz (by simpa using h4) (by unfold rulesOk; dsimp only; omega)
  ·
   refine VC.q (VO.f (r := 5) F28_1 rfl rfl rfl<|VO.c 0 O24 rfl rfl ⟨_, rfl⟩ rfl<|VO.l (LO.len S24 (.r rfl) rfl) rfl<|VO.l (LO.gt (.r rfl) (.r rfl)) rfl<|VO.a rfl rfl<|VO.n<|VC.cond rfl (fun h3 => ?_) (fun h3 => ?_))
   ·
    refine VC.q (VO.a rfl rfl<|VO.n<|VC.ret (VE.inR (VE.thenR (VE.s rfl rfl (fun w hw => ?_)))))
    refine ⟨?_, hw.nil⟩
    simp only [resV]
    congr 2
    have hlen : (l.map RG.r).length = l.length := List.length_map ..
    first | exact sE1 (s := ⟨g,_,a,b,d⟩) h1 | exact sE2 (s := ⟨g,_,a,b,d⟩) hgo (by simpa using h2) | exact sE3 (s := ⟨g,_,a,b,d⟩) hgo (by simpa using h2) (by simpa using h3) | exact sE4 (s := ⟨g,_,a,b,d⟩) hgo (by simpa using h2) (by simpa using h3) hz (by simpa using h4) (regE1 (by rw [hxd]; exact h5)) (by decide) | exact sE4 (s := ⟨g,_,a,b,d⟩) hgo (by simpa using h2) (by simpa using h3) hz (by simpa using h4) (regE2 (by rw [hxd]; exact h5') (by rw [hxd]; exact h6)) (by decide) | exact sE4 (s := ⟨g,_,a,b,d⟩) hgo (by simpa using h2) (by simpa using h3) hz (by simpa using h4) ((regE3 (by rw [hxd]; exact h5') (by rw [hxd]; exact h6)).trans (by rw [hxd])) h7 | exact sE5 (s := ⟨g,_,a,b,d⟩) hgo (by simpa using h2) (by simpa using h3) hz (by simpa using h4) (by unfold rulesOk; dsimp only; omega) | exact sE6 (s := ⟨g,_,a,b,d⟩) hgo (by simpa using h2) (by simpa using h3) hz (by simpa using h4) (by unfold rulesOk; dsimp only; omega)
   ·
    refine VC.skip (VE.inN (VE.seqN<|VC.q (VO.h rfl<|HO.mksets fun b2 => VO.h rfl<|HO.lo (LO.as (.r rfl))<|VO.n<|VC.seq<|VC.q (VO.f (r := 5) F28_1 rfl rfl rfl<|VO.c 1 O24 rfl rfl ⟨_, rfl⟩ rfl<|VO.l (LO.len S24 (.r rfl) rfl) rfl<|VO.m rfl rfl<|VO.n<|VC.block<|VC.loopK (α := Nat) 1 (fun gx => [(28, .int .i64 (gx : Nat))]) [(1,_), (4,_), (26,_), (27,_)] (fun gx => [setRs b2 (metB (l.map RG.r) gx)]) (fun gx => gx ≤ l.length ∧ ∀ k, k < gx → regE g (l.map RG.r) k = 0) (fun gx => l.length - gx) 0 (by exact ⟨by omega, fun k hk => by omega⟩) (.c4 rfl rfl rfl rfl (.cons rfl .nil)) (fun w h => by rw [met_zero]; exact h) ?_))))
    rintro j ⟨hj, hz⟩
    refine VC.q (VO.t rfl rfl rfl<|VO.n<|VC.seq<|VC.cond rfl (fun h4 => ?_) (fun h4 => ?_))
    ·
     obtain ⟨x, hx⟩ : ∃ x, l[j]? = some x := ⟨_, List.getElem?_eq_getElem (by omega)⟩
     have hxo := hl.ok x (List.mem_of_getElem? hx)
     have hxd := getD_r hx
     refine VC.skip (VE.seqN<|VC.seq<|VC.block<|VC.q (VO.l (LO.ixs S24 N74 hl.sm (.r rfl) (.r rfl) rfl (by omega)) rfl<|VO.l (LO.lda (vs := [_,_]) A74 (.r rfl) (hl.at hx) rfl) rfl<|VO.h rfl<|HO.alloc (C := #[_,_]) Z74 rfl fun b3 => VO.h0<|HO.st 0 (vs := [_,_]) (C' := [_,_]) (L' := [_,_,_]) N74 rfl rfl rfl rfl rfl rfl rfl rfl<|VO.n<|VC.seq<|VC.block<|VC.q (VO.f (r := 0) F74_0 rfl rfl rfl<|VO.c 0 O9 rfl rfl ⟨_, rfl⟩ rfl<|VO.l (LO.call (xs := [_]) (vs := [_]) C56 ⟨(.r rfl), trivial⟩ (fun w _ => Name_c _ w)) rfl<|VO.l (LO.not (.r rfl)) rfl<|VO.a rfl rfl<|VO.n<|VC.cond rfl (fun h5 => ?_) (fun h5 => ?_))))
     ·
      refine VC.q (VO.a rfl rfl<|VO.n<|VC.ret (VE.inR (VE.thenR (VE.inR (VE.thenR (VE.thenR (VE.inR (VE.thenR (VE.s rfl rfl (fun w hw => ?_))))))))))
      refine ⟨?_, hw.nil⟩
      simp only [resV]
      congr 2
      have hlen : (l.map RG.r).length = l.length := List.length_map ..
      first | exact sE1 (s := ⟨g,_,a,b,d⟩) h1 | exact sE2 (s := ⟨g,_,a,b,d⟩) hgo (by simpa using h2) | exact sE3 (s := ⟨g,_,a,b,d⟩) hgo (by simpa using h2) (by simpa using h3) | exact sE4 (s := ⟨g,_,a,b,d⟩) hgo (by simpa using h2) (by simpa using h3) hz (by simpa using h4) (regE1 (by rw [hxd]; exact h5)) (by decide) | exact sE4 (s := ⟨g,_,a,b,d⟩) hgo (by simpa using h2) (by simpa using h3) hz (by simpa using h4) (regE2 (by rw [hxd]; exact h5') (by rw [hxd]; exact h6)) (by decide) | exact sE4 (s := ⟨g,_,a,b,d⟩) hgo (by simpa using h2) (by simpa using h3) hz (by simpa using h4) ((regE3 (by rw [hxd]; exact h5') (by rw [hxd]; exact h6)).trans (by rw [hxd])) h7 | exact sE5 (s := ⟨g,_,a,b,d⟩) hgo (by simpa using h2) (by simpa using h3) hz (by simpa using h4) (by unfold rulesOk; dsimp only; omega) | exact sE6 (s := ⟨g,_,a,b,d⟩) hgo (by simpa using h2) (by simpa using h3) hz (by simpa using h4) (by unfold rulesOk; dsimp only; omega)
     ·
      have h5' : nameB x.r.name = true := nn h5
      refine VC.q (VO.m rfl rfl<|VO.f (r := 0) F74_0 rfl rfl rfl<|VO.c 0 O9 rfl rfl ⟨_, rfl⟩ rfl<|VO.l (LO.lks M155 (.r rfl) (.r rfl) (fun _ hw => St.inv hw 1 _ rfl)) rfl<|VO.a rfl rfl<|VO.n<|VC.cond rfl (fun h6 => ?_) (fun h6 => ?_))
      ·
       refine VC.q (VO.a rfl rfl<|VO.n<|VC.ret (VE.inR (VE.thenR (VE.inR (VE.thenR (VE.thenR (VE.inR (VE.thenR (VE.s rfl rfl (fun w hw => ?_))))))))))
       refine ⟨?_, hw.nil⟩
       simp only [resV]
       congr 2
       have hlen : (l.map RG.r).length = l.length := List.length_map ..
       first | exact sE1 (s := ⟨g,_,a,b,d⟩) h1 | exact sE2 (s := ⟨g,_,a,b,d⟩) hgo (by simpa using h2) | exact sE3 (s := ⟨g,_,a,b,d⟩) hgo (by simpa using h2) (by simpa using h3) | exact sE4 (s := ⟨g,_,a,b,d⟩) hgo (by simpa using h2) (by simpa using h3) hz (by simpa using h4) (regE1 (by rw [hxd]; exact h5)) (by decide) | exact sE4 (s := ⟨g,_,a,b,d⟩) hgo (by simpa using h2) (by simpa using h3) hz (by simpa using h4) (regE2 (by rw [hxd]; exact h5') (by rw [hxd]; exact h6)) (by decide) | exact sE4 (s := ⟨g,_,a,b,d⟩) hgo (by simpa using h2) (by simpa using h3) hz (by simpa using h4) ((regE3 (by rw [hxd]; exact h5') (by rw [hxd]; exact h6)).trans (by rw [hxd])) h7 | exact sE5 (s := ⟨g,_,a,b,d⟩) hgo (by simpa using h2) (by simpa using h3) hz (by simpa using h4) (by unfold rulesOk; dsimp only; omega) | exact sE6 (s := ⟨g,_,a,b,d⟩) hgo (by simpa using h2) (by simpa using h3) hz (by simpa using h4) (by unfold rulesOk; dsimp only; omega)
      ·
       refine VC.skip (VE.inN (VE.seqN<|VC.q (VO.m rfl rfl<|VO.f (r := 0) F74_0 rfl rfl rfl<|VO.c 0 O9 rfl rfl ⟨_, rfl⟩ rfl<|VO.h0<|HO.mus 1 (fun R => [_, R,_]) M155 (.r rfl) (.r rfl) (.r rfl) rfl (fun _ => rfl)<|VO.n<|VC.q (VO.l (LO.lda (vs := [_,_]) A74 (.r rfl) (cells_blk 0 rfl ⟨_, rfl⟩) rfl) rfl<|VO.f (r := 0) F28_0 rfl rfl rfl<|VO.l (LO.lda (vs := [_,_,_,_,_]) A23 (.r rfl) (cells_blk 2 rfl ⟨_, rfl⟩) rfl) rfl<|VO.l (LO.call (xs := [_,_]) (vs := [_,_]) C57 ⟨(.r rfl), (.r rfl), trivial⟩ (fun w hw => rcheck_c x g w hgo (hxo.1.keep w hw) hxo.2)) rfl<|VO.a rfl rfl<|VO.n<|VC.q (VO.m rfl rfl<|VO.u rfl rfl rfl<|VO.n<|VC.cond rfl (fun h7 => ?_) (fun h7 => ?_))))))
       ·
        refine VC.q (VO.m rfl rfl<|VO.a rfl rfl<|VO.n<|VC.ret (VE.inR (VE.thenR (VE.thenR (VE.inR (VE.thenR (VE.s rfl rfl (fun w hw => ?_))))))))
        refine ⟨?_, hw.nil⟩
        simp only [resV]
        congr 2
        have hlen : (l.map RG.r).length = l.length := List.length_map ..
        first | exact sE1 (s := ⟨g,_,a,b,d⟩) h1 | exact sE2 (s := ⟨g,_,a,b,d⟩) hgo (by simpa using h2) | exact sE3 (s := ⟨g,_,a,b,d⟩) hgo (by simpa using h2) (by simpa using h3) | exact sE4 (s := ⟨g,_,a,b,d⟩) hgo (by simpa using h2) (by simpa using h3) hz (by simpa using h4) (regE1 (by rw [hxd]; exact h5)) (by decide) | exact sE4 (s := ⟨g,_,a,b,d⟩) hgo (by simpa using h2) (by simpa using h3) hz (by simpa using h4) (regE2 (by rw [hxd]; exact h5') (by rw [hxd]; exact h6)) (by decide) | exact sE4 (s := ⟨g,_,a,b,d⟩) hgo (by simpa using h2) (by simpa using h3) hz (by simpa using h4) ((regE3 (by rw [hxd]; exact h5') (by rw [hxd]; exact h6)).trans (by rw [hxd])) h7 | exact sE5 (s := ⟨g,_,a,b,d⟩) hgo (by simpa using h2) (by simpa using h3) hz (by simpa using h4) (by unfold rulesOk; dsimp only; omega) | exact sE6 (s := ⟨g,_,a,b,d⟩) hgo (by simpa using h2) (by simpa using h3) hz (by simpa using h4) (by unfold rulesOk; dsimp only; omega)
       ·
        refine VC.skip (VE.inN (VE.seqN<|VC.reg (VO.p rfl rfl (by omega) (by omega) rfl<|VO.m rfl rfl<|VO.nil<|VE.thenN fun a w ha hw => ⟨j + 1, ⟨by omega, step_zero hz ((regE3 (by rw [hxd]; exact h5') (by rw [hxd]; exact h6)).trans (by rw [hxd]; exact Classical.not_not.1 h7))⟩, (by omega), ha.sub (.c4 rfl rfl rfl rfl (.cons rfl .nil)), (by rw [met_step (by simp; omega), hxd]; exact hw.sel [1,2] rfl)⟩)))
    ·
     refine VC.exit (VE.thenX (VE.thenX (VE.inX (VE.seqN<|VC.seq<|VC.q (VO.f (r := 6) F28_2 rfl rfl rfl<|VO.f (r := 6) F26_0 rfl rfl rfl<|VO.c 1 O3 rfl rfl ⟨_, rfl⟩ rfl<|VO.l (LO.call (xs := [_,_,_]) (vs := [_,_,_]) C31 ⟨(.r rfl), (.r rfl), (.r rfl), trivial⟩ (fun w _ => iwithin_c _ _ _ w)) rfl<|VO.l (LO.not (.r rfl)) rfl<|VO.m rfl rfl<|VO.gf rfl rfl (fun hg => LO.fa (r := 6) F28_2 (.r rfl) rfl) rfl<|VO.gf rfl rfl (fun hg => LO.fa (r := 7) F26_1 (.g hg rfl) rfl) rfl<|VO.gf rfl rfl (fun hg => LO.ld O3 (.g hg rfl) (cells_blk 1 rfl ⟨_, rfl⟩)) rfl<|VO.gf rfl rfl (fun hg => LO.call (xs := [_,_,_]) (vs := [_,_,_]) C31 ⟨(.g hg rfl), (.r rfl), (.r rfl), trivial⟩ (fun w _ => iwithin_c _ _ _ w)) rfl<|VO.gf rfl rfl (fun hg => LO.not (.g hg rfl)) rfl<|VO.l (LO.pkO (.r rfl) (.r rfl) rfl rfl) rfl<|VO.m rfl rfl<|VO.gf rfl rfl (fun hg => LO.fa (r := 6) F28_2 (.r rfl) rfl) rfl<|VO.gf rfl rfl (fun hg => LO.fa (r := 8) F26_2 (.g hg rfl) rfl) rfl<|VO.gf rfl rfl (fun hg => LO.ld O3 (.g hg rfl) (cells_blk 1 rfl ⟨_, rfl⟩)) rfl<|VO.gf rfl rfl (fun hg => LO.call (xs := [_,_,_]) (vs := [_,_,_]) C31 ⟨(.g hg rfl), (.r rfl), (.r rfl), trivial⟩ (fun w _ => iwithin_c _ _ _ w)) rfl<|VO.gf rfl rfl (fun hg => LO.not (.g hg rfl)) rfl<|VO.l (LO.pkO (.r rfl) (.r rfl) rfl rfl) rfl<|VO.n<|VC.cond rfl (fun h8 => ?_) (fun h8 => ?_))))))
     ·
      refine VC.q (VO.a rfl rfl<|VO.n<|VC.ret (VE.thenR (VE.s rfl rfl (fun w hw => ?_))))
      refine ⟨?_, hw.nil⟩
      simp only [resV]
      congr 2
      have hlen : (l.map RG.r).length = l.length := List.length_map ..
      first | exact sE1 (s := ⟨g,_,a,b,d⟩) h1 | exact sE2 (s := ⟨g,_,a,b,d⟩) hgo (by simpa using h2) | exact sE3 (s := ⟨g,_,a,b,d⟩) hgo (by simpa using h2) (by simpa using h3) | exact sE4 (s := ⟨g,_,a,b,d⟩) hgo (by simpa using h2) (by simpa using h3) hz (by simpa using h4) (regE1 (by rw [hxd]; exact h5)) (by decide) | exact sE4 (s := ⟨g,_,a,b,d⟩) hgo (by simpa using h2) (by simpa using h3) hz (by simpa using h4) (regE2 (by rw [hxd]; exact h5') (by rw [hxd]; exact h6)) (by decide) | exact sE4 (s := ⟨g,_,a,b,d⟩) hgo (by simpa using h2) (by simpa using h3) hz (by simpa using h4) ((regE3 (by rw [hxd]; exact h5') (by rw [hxd]; exact h6)).trans (by rw [hxd])) h7 | exact sE5 (s := ⟨g,_,a,b,d⟩) hgo (by simpa using h2) (by simpa using h3) hz (by simpa using h4) (by unfold rulesOk; dsimp only; omega) | exact sE6 (s := ⟨g,_,a,b,d⟩) hgo (by simpa using h2) (by simpa using h3) hz (by simpa using h4) (by unfold rulesOk; dsimp only; omega)
     ·
      refine VC.skip (VE.seqN<|VC.q (VO.a rfl rfl<|VO.n<|VC.ret (VE.s rfl rfl (fun w hw => ?_))))
      refine ⟨?_, hw.nil⟩
      simp only [resV]
      congr 2
      have hlen : (l.map RG.r).length = l.length := List.length_map ..
      first | exact sE1 (s := ⟨g,_,a,b,d⟩) h1 | exact sE2 (s := ⟨g,_,a,b,d⟩) hgo (by simpa using h2) | exact sE3 (s := ⟨g,_,a,b,d⟩) hgo (by simpa using h2) (by simpa using h3) | exact sE4 (s := ⟨g,_,a,b,d⟩) hgo (by simpa using h2) (by simpa using h3) hz (by simpa using h4) (regE1 (by rw [hxd]; exact h5)) (by decide) | exact sE4 (s := ⟨g,_,a,b,d⟩) hgo (by simpa using h2) (by simpa using h3) hz (by simpa using h4) (regE2 (by rw [hxd]; exact h5') (by rw [hxd]; exact h6)) (by decide) | exact sE4 (s := ⟨g,_,a,b,d⟩) hgo (by simpa using h2) (by simpa using h3) hz (by simpa using h4) ((regE3 (by rw [hxd]; exact h5') (by rw [hxd]; exact h6)).trans (by rw [hxd])) h7 | exact sE5 (s := ⟨g,_,a,b,d⟩) hgo (by simpa using h2) (by simpa using h3) hz (by simpa using h4) (by unfold rulesOk; dsimp only; omega) | exact sE6 (s := ⟨g,_,a,b,d⟩) hgo (by simpa using h2) (by simpa using h3) hz (by simpa using h4) (by unfold rulesOk; dsimp only; omega)
theorem F42_0 : FieldAt Tryz.prog 42 0 0 := ⟨_,_, Tryz.underlying42, rfl, rfl, 4, by kernel_rfl⟩
theorem F42_1 : FieldAt Tryz.prog 42 1 5 := ⟨_,_, Tryz.underlying42, rfl, rfl, 0, by kernel_rfl⟩
theorem O39 : IsOne Tryz.prog 39 := ⟨⟨_, Tryz.underlying39, rfl⟩, by kernel_rfl⟩
theorem S39 : IsSlice Tryz.prog 39 100 := Tryz.underlying39
theorem N100 : (Tryz.prog.info? 100).map (·.size) = some 2 := by kernel_rfl
theorem A100 : IsAgg Tryz.prog 100 2 := ⟨⟨_, Tryz.underlying100, rfl⟩, by kernel_rfl⟩
theorem Z100 : ZeroOf Tryz.prog 100 (.agg #[.string ByteArray.empty, .slice none 0 0]) := by unfold ZeroOf; kernel_rfl
theorem F100_0 : FieldAt Tryz.prog 100 0 0 := ⟨_,_, Tryz.underlying100, rfl, rfl, 0, by kernel_rfl⟩
theorem C59 : IsFn Tryz.prog 59 := ⟨_, Tryz.func59, by decide, rfl⟩
theorem F100_1 : FieldAt Tryz.prog 100 1 1 := ⟨_,_, Tryz.underlying100, rfl, rfl, 0, by kernel_rfl⟩
theorem F42_2 : FieldAt Tryz.prog 42 2 6 := ⟨_,_, Tryz.underlying42, rfl, rfl, 2, by kernel_rfl⟩
theorem F40_0 : FieldAt Tryz.prog 40 0 0 := ⟨_,_, Tryz.underlying40, rfl, rfl, 0, by kernel_rfl⟩
theorem F40_1 : FieldAt Tryz.prog 40 1 1 := ⟨_,_, Tryz.underlying40, rfl, rfl, 0, by kernel_rfl⟩
theorem F40_2 : FieldAt Tryz.prog 40 2 2 := ⟨_,_, Tryz.underlying40, rfl, rfl, 0, by kernel_rfl⟩
theorem str_eq {s t : ByteArray} : (s.toList == t.toList) = true ↔ s = t := by
  rw [ByteArray.toList_eq, ByteArray.toList_eq]
  constructor
  · intro h
    have e : s.data.toList = t.data.toList := by simpa using h
    cases s; cases t
    congr 1
    exact Array.ext' e
  · intro h; subst h; simp
theorem met_yes {l : List RG} {x : RG} {k j : Nat} {s : ByteArray} (hx : l[k]? = some x) (hk : k < j) (h : (x.r.name.toList == s.toList) = true) : metB (l.map RG.r) j s = true := by
  unfold metB
  rw [List.any_eq_true]
  refine ⟨x.r, ?_, by simp [str_eq.1 h]⟩
  rw [List.mem_iff_getElem?]
  exact ⟨k, by rw [List.getElem?_take, if_pos hk, List.getElem?_map, hx]; rfl⟩
theorem met_no {l : List RG} {j : Nat} {s : ByteArray} (h : ∀ q, q < j → ∀ x, l[q]? = some x → ¬ (x.r.name.toList == s.toList) = true) : ¬ metB (l.map RG.r) j s = true := by
  intro q
  unfold metB at q
  rw [List.any_eq_true] at q
  obtain ⟨r, hr, e⟩ := q
  obtain ⟨i, hi⟩ := List.mem_iff_getElem?.1 hr
  rw [List.getElem?_take] at hi
  split at hi
  · rename_i q
    rw [List.getElem?_map] at hi
    cases hq : l[i]? with
    | none => rw [hq] at hi; cases hi
    | some x => rw [hq] at hi; cases hi; exact h i q x hq (str_eq.2 (Eq.symm (of_decide_eq_true e)))
  · cases hi
theorem name_next {l : List RG} {k : Nat} {x : RG} {s : ByteArray} (h : ∀ q, q < k → ∀ x, l[q]? = some x → ¬ (x.r.name.toList == s.toList) = true) (hx : l[k]? = some x) (h6 : ¬ (x.r.name.toList == s.toList) = true) : ∀ q, q < k + 1 → ∀ x, l[q]? = some x → ¬ (x.r.name.toList == s.toList) = true := fun q hq y hy => by
  by_cases e : q = k
  · subst e; rw [hx] at hy; cases hy; exact h6
  · exact h q (by omega) y hy
theorem rCheck_c (g : Grid) (l : List RG) (pl : Option Addr) (cl : Nat) (a b d : Int) (w : World) (hll : l.length < 1000000000000) (hl : Regs w pl l) :
 Calls Tryz.prog 28 #[specV g pl l.length cl a b d] w fun e w' => e = .returned (.int .i64 (specE ⟨g, l.map RG.r, a, b, d⟩)) ∧ St (bs w) [] w' := by
 refine enter (vs := [_]) (env := [(0,_)]) Tryz.func28 rfl rfl rfl rfl ?_
 refine VC.q (VO.h rfl<|HO.box (C := #[_,_,_,_,_,_,_,_,_]) rfl rfl fun b1 => VO.a rfl rfl<|VO.n<|VC.q (VO.f (r := 0) F42_0 rfl rfl rfl<|VO.l (LO.lda (vs := [_,_,_,_,_]) A23 (.r rfl) (cells_blk 0 rfl ⟨_, rfl⟩) rfl) rfl<|VO.l (LO.call (xs := [_]) (vs := [_]) C58 ⟨(.r rfl), trivial⟩ (fun w _ => rCheckGrid_c g w)) rfl<|VO.a rfl rfl<|VO.n<|VC.seq<|VC.q (VO.m rfl rfl<|VO.u rfl rfl rfl<|VO.n<|VC.cond rfl (fun h1 => ?_) (fun h1 => ?_))))
 ·
  refine VC.q (VO.m rfl rfl<|VO.a rfl rfl<|VO.n<|VC.ret (VE.thenR (VE.s rfl rfl (fun w hw => ?_))))
  refine ⟨?_, hw.nil⟩
  simp only [resV]
  congr 2
  have hlen : (l.map RG.r).length = l.length := List.length_map ..
  first | exact sE1 (s := ⟨g,_,a,b,d⟩) h1 | exact sE2 (s := ⟨g,_,a,b,d⟩) hgo (by simpa using h2) | exact sE3 (s := ⟨g,_,a,b,d⟩) hgo (by simpa using h2) (by simpa using h3) | exact sE4 (s := ⟨g,_,a,b,d⟩) hgo (by simpa using h2) (by simpa using h3) hz (by simpa using h4) (regE1 (by rw [hxd]; exact h5)) (by decide) | exact sE4 (s := ⟨g,_,a,b,d⟩) hgo (by simpa using h2) (by simpa using h3) hz (by simpa using h4) (regE2 (by rw [hxd]; exact h5) (by rw [hxd]; exact met_yes hy (by omega) h51)) (by decide) | exact sE4 (s := ⟨g,_,a,b,d⟩) hgo (by simpa using h2) (by simpa using h3) hz (by simpa using h4) ((regE3 (by rw [hxd]; exact h5) (by rw [hxd]; exact h6n)).trans (by rw [hxd]; exact (pE1 h55).symm)) (by decide) | exact sE4 (s := ⟨g,_,a,b,d⟩) hgo (by simpa using h2) (by simpa using h3) hz (by simpa using h4) ((regE3 (by rw [hxd]; exact h5) (by rw [hxd]; exact h6n)).trans (by rw [hxd]; exact (pE2 h55 hm h60 (by unfold mayE; rw [if_pos h77]) (by decide)).symm)) (by decide) | exact sE4 (s := ⟨g,_,a,b,d⟩) hgo (by simpa using h2) (by simpa using h3) hz (by simpa using h4) ((regE3 (by rw [hxd]; exact h5) (by rw [hxd]; exact h6n)).trans (by rw [hxd]; exact (pE2 h55 hm h60 (by unfold mayE; rw [if_neg h77, if_pos (by omega)]) (by decide)).symm)) (by decide) | exact sE5 (s := ⟨g,_,a,b,d⟩) hgo (by simpa using h2) (by simpa using h3) hz (by simpa using h4) (by unfold rulesOk; dsimp only; omega) | exact sE6 (s := ⟨g,_,a,b,d⟩) hgo (by simpa using h2) (by simpa using h3) hz (by simpa using h4) (by unfold rulesOk; dsimp only; omega)
 ·
  have hgo : gridOk g := gridOk_of h1
  have har := area_bd hgo
  refine VC.skip (VE.seqN<|VC.seq<|VC.q (VO.f (r := 5) F42_1 rfl rfl rfl<|VO.c 0 O39 rfl rfl ⟨_, rfl⟩ rfl<|VO.l (LO.len S39 (.r rfl) rfl) rfl<|VO.l (LO.eq (.r rfl) (.r rfl)) rfl<|VO.n<|VC.cond rfl (fun h2 => ?_) (fun h2 => ?_)))
  ·
   refine VC.q (VO.a rfl rfl<|VO.n<|VC.ret (VE.thenR (VE.s rfl rfl (fun w hw => ?_))))
   refine ⟨?_, hw.nil⟩
   simp only [resV]
   congr 2
   have hlen : (l.map RG.r).length = l.length := List.length_map ..
   first | exact sE1 (s := ⟨g,_,a,b,d⟩) h1 | exact sE2 (s := ⟨g,_,a,b,d⟩) hgo (by simpa using h2) | exact sE3 (s := ⟨g,_,a,b,d⟩) hgo (by simpa using h2) (by simpa using h3) | exact sE4 (s := ⟨g,_,a,b,d⟩) hgo (by simpa using h2) (by simpa using h3) hz (by simpa using h4) (regE1 (by rw [hxd]; exact h5)) (by decide) | exact sE4 (s := ⟨g,_,a,b,d⟩) hgo (by simpa using h2) (by simpa using h3) hz (by simpa using h4) (regE2 (by rw [hxd]; exact h5) (by rw [hxd]; exact met_yes hy (by omega) h51)) (by decide) | exact sE4 (s := ⟨g,_,a,b,d⟩) hgo (by simpa using h2) (by simpa using h3) hz (by simpa using h4) ((regE3 (by rw [hxd]; exact h5) (by rw [hxd]; exact h6n)).trans (by rw [hxd]; exact (pE1 h55).symm)) (by decide) | exact sE4 (s := ⟨g,_,a,b,d⟩) hgo (by simpa using h2) (by simpa using h3) hz (by simpa using h4) ((regE3 (by rw [hxd]; exact h5) (by rw [hxd]; exact h6n)).trans (by rw [hxd]; exact (pE2 h55 hm h60 (by unfold mayE; rw [if_pos h77]) (by decide)).symm)) (by decide) | exact sE4 (s := ⟨g,_,a,b,d⟩) hgo (by simpa using h2) (by simpa using h3) hz (by simpa using h4) ((regE3 (by rw [hxd]; exact h5) (by rw [hxd]; exact h6n)).trans (by rw [hxd]; exact (pE2 h55 hm h60 (by unfold mayE; rw [if_neg h77, if_pos (by omega)]) (by decide)).symm)) (by decide) | exact sE5 (s := ⟨g,_,a,b,d⟩) hgo (by simpa using h2) (by simpa using h3) hz (by simpa using h4) (by unfold rulesOk; dsimp only; omega) | exact sE6 (s := ⟨g,_,a,b,d⟩) hgo (by simpa using h2) (by simpa using h3) hz (by simpa using h4) (by unfold rulesOk; dsimp only; omega)
  ·
   refine VC.skip (VE.seqN<|VC.seq<|VC.q (VO.f (r := 5) F42_1 rfl rfl rfl<|VO.c 0 O39 rfl rfl ⟨_, rfl⟩ rfl<|VO.l (LO.len S39 (.r rfl) rfl) rfl<|VO.l (LO.gt (.r rfl) (.r rfl)) rfl<|VO.n<|VC.cond rfl (fun h3 => ?_) (fun h3 => ?_)))
   ·
    refine VC.q (VO.a rfl rfl<|VO.n<|VC.ret (VE.thenR (VE.s rfl rfl (fun w hw => ?_))))
    refine ⟨?_, hw.nil⟩
    simp only [resV]
    congr 2
    have hlen : (l.map RG.r).length = l.length := List.length_map ..
    first | exact sE1 (s := ⟨g,_,a,b,d⟩) h1 | exact sE2 (s := ⟨g,_,a,b,d⟩) hgo (by simpa using h2) | exact sE3 (s := ⟨g,_,a,b,d⟩) hgo (by simpa using h2) (by simpa using h3) | exact sE4 (s := ⟨g,_,a,b,d⟩) hgo (by simpa using h2) (by simpa using h3) hz (by simpa using h4) (regE1 (by rw [hxd]; exact h5)) (by decide) | exact sE4 (s := ⟨g,_,a,b,d⟩) hgo (by simpa using h2) (by simpa using h3) hz (by simpa using h4) (regE2 (by rw [hxd]; exact h5) (by rw [hxd]; exact met_yes hy (by omega) h51)) (by decide) | exact sE4 (s := ⟨g,_,a,b,d⟩) hgo (by simpa using h2) (by simpa using h3) hz (by simpa using h4) ((regE3 (by rw [hxd]; exact h5) (by rw [hxd]; exact h6n)).trans (by rw [hxd]; exact (pE1 h55).symm)) (by decide) | exact sE4 (s := ⟨g,_,a,b,d⟩) hgo (by simpa using h2) (by simpa using h3) hz (by simpa using h4) ((regE3 (by rw [hxd]; exact h5) (by rw [hxd]; exact h6n)).trans (by rw [hxd]; exact (pE2 h55 hm h60 (by unfold mayE; rw [if_pos h77]) (by decide)).symm)) (by decide) | exact sE4 (s := ⟨g,_,a,b,d⟩) hgo (by simpa using h2) (by simpa using h3) hz (by simpa using h4) ((regE3 (by rw [hxd]; exact h5) (by rw [hxd]; exact h6n)).trans (by rw [hxd]; exact (pE2 h55 hm h60 (by unfold mayE; rw [if_neg h77, if_pos (by omega)]) (by decide)).symm)) (by decide) | exact sE5 (s := ⟨g,_,a,b,d⟩) hgo (by simpa using h2) (by simpa using h3) hz (by simpa using h4) (by unfold rulesOk; dsimp only; omega) | exact sE6 (s := ⟨g,_,a,b,d⟩) hgo (by simpa using h2) (by simpa using h3) hz (by simpa using h4) (by unfold rulesOk; dsimp only; omega)
   ·
    refine VC.skip (VE.seqN<|VC.seq<|VC.q (VO.a rfl rfl<|VO.n<|VC.block<|VC.loopK (α := Nat) 0 (fun gx => [(4, .int .i64 (gx : Nat))]) [(1,_)] (fun gx => []) (fun gx => gx ≤ l.length ∧ ∀ k, k < gx → regE g (l.map RG.r) k = 0) (fun gx => l.length - gx) 0 (by exact ⟨by omega, fun k hk => by omega⟩) (.cons rfl (.cons rfl .nil)) (fun _ h => h) ?_))
    rintro j ⟨hj, hz⟩
    refine VC.seq<|VC.q (VO.m rfl rfl<|VO.f (r := 5) F42_1 rfl rfl rfl<|VO.c 0 O39 rfl rfl ⟨_, rfl⟩ rfl<|VO.l (LO.len S39 (.r rfl) rfl) rfl<|VO.t rfl rfl rfl<|VO.n<|VC.cond rfl (fun h4 => ?_) (fun h4 => ?_))
    ·
     obtain ⟨x, hx⟩ : ∃ x, l[j]? = some x := ⟨_, List.getElem?_eq_getElem (by omega)⟩
     have hxo := hl.ok x (List.mem_of_getElem? hx)
     have hxd := getD_r hx
     refine VC.skip (VE.seqN<|VC.seq<|VC.block<|VC.q (VO.f (r := 5) F42_1 rfl rfl rfl<|VO.c 0 O39 rfl rfl ⟨_, rfl⟩ rfl<|VO.m rfl rfl<|VO.l (LO.ixs S39 N100 hl.sm (.r rfl) (.r rfl) rfl (by omega)) rfl<|VO.l (LO.lda (vs := [_,_]) A100 (.r rfl) (fun w hw => cells_part (off := 0) ((hl.at hx) w hw) ⟨_, rfl⟩) rfl) rfl<|VO.h rfl<|HO.alloc (C := #[_,_]) Z100 rfl fun b2 => VO.h0<|HO.st 0 (vs := [_,_]) (C' := [_,_]) (L' := [_,_]) N100 rfl rfl rfl rfl rfl rfl rfl rfl<|VO.n<|VC.seq<|VC.q (VO.f (r := 0) F100_0 rfl rfl rfl<|VO.c 0 O9 rfl rfl ⟨_, rfl⟩ rfl<|VO.l (LO.call (xs := [_]) (vs := [_]) C59 ⟨(.r rfl), trivial⟩ (fun w _ => rName_c _ w)) rfl<|VO.l (LO.not (.r rfl)) rfl<|VO.n<|VC.cond rfl (fun h5 => ?_) (fun h5 => ?_))))
     ·
      refine VC.q (VO.a rfl rfl<|VO.n<|VC.ret (VE.thenR (VE.inR (VE.thenR (VE.thenR (VE.inR (VE.thenR (VE.s rfl rfl (fun w hw => ?_)))))))))
      refine ⟨?_, hw.nil⟩
      simp only [resV]
      congr 2
      have hlen : (l.map RG.r).length = l.length := List.length_map ..
      first | exact sE1 (s := ⟨g,_,a,b,d⟩) h1 | exact sE2 (s := ⟨g,_,a,b,d⟩) hgo (by simpa using h2) | exact sE3 (s := ⟨g,_,a,b,d⟩) hgo (by simpa using h2) (by simpa using h3) | exact sE4 (s := ⟨g,_,a,b,d⟩) hgo (by simpa using h2) (by simpa using h3) hz (by simpa using h4) (regE1 (by rw [hxd]; exact h5)) (by decide) | exact sE4 (s := ⟨g,_,a,b,d⟩) hgo (by simpa using h2) (by simpa using h3) hz (by simpa using h4) (regE2 (by rw [hxd]; exact h5) (by rw [hxd]; exact met_yes hy (by omega) h51)) (by decide) | exact sE4 (s := ⟨g,_,a,b,d⟩) hgo (by simpa using h2) (by simpa using h3) hz (by simpa using h4) ((regE3 (by rw [hxd]; exact h5) (by rw [hxd]; exact h6n)).trans (by rw [hxd]; exact (pE1 h55).symm)) (by decide) | exact sE4 (s := ⟨g,_,a,b,d⟩) hgo (by simpa using h2) (by simpa using h3) hz (by simpa using h4) ((regE3 (by rw [hxd]; exact h5) (by rw [hxd]; exact h6n)).trans (by rw [hxd]; exact (pE2 h55 hm h60 (by unfold mayE; rw [if_pos h77]) (by decide)).symm)) (by decide) | exact sE4 (s := ⟨g,_,a,b,d⟩) hgo (by simpa using h2) (by simpa using h3) hz (by simpa using h4) ((regE3 (by rw [hxd]; exact h5) (by rw [hxd]; exact h6n)).trans (by rw [hxd]; exact (pE2 h55 hm h60 (by unfold mayE; rw [if_neg h77, if_pos (by omega)]) (by decide)).symm)) (by decide) | exact sE5 (s := ⟨g,_,a,b,d⟩) hgo (by simpa using h2) (by simpa using h3) hz (by simpa using h4) (by unfold rulesOk; dsimp only; omega) | exact sE6 (s := ⟨g,_,a,b,d⟩) hgo (by simpa using h2) (by simpa using h3) hz (by simpa using h4) (by unfold rulesOk; dsimp only; omega)
     ·
      have h5 : nameB x.r.name = true := nn h5
      refine VC.skip (VE.seqN<|VC.seq<|VC.q (VO.a rfl rfl<|VO.n<|VC.block<|VC.loopK (α := Nat) 0 (fun gx => [(6, .int .i64 (gx : Nat))]) [(1,_), (4,_), (5,_)] (fun gx => []) (fun gx => gx ≤ j ∧ ∀ q, q < gx → ∀ y, l[q]? = some y → ¬ (y.r.name.toList == x.r.name.toList) = true) (fun gx => j - gx) 0 (by exact ⟨by omega, fun k hk => by omega⟩) (.c4 rfl rfl rfl rfl .nil) (fun _ h => h) ?_))
      rintro k ⟨hk, hn⟩
      refine VC.seq<|VC.q (VO.m rfl rfl<|VO.m rfl rfl<|VO.t rfl rfl rfl<|VO.n<|VC.cond rfl (fun h40 => ?_) (fun h40 => ?_))
      ·
       obtain ⟨y, hy⟩ : ∃ y, l[k]? = some y := ⟨_, List.getElem?_eq_getElem (by omega)⟩
       refine VC.skip (VE.seqN<|VC.seq<|VC.block<|VC.seq<|VC.draw mixed (LL.l (LO.fa (r := 5) F42_1 (.r rfl) rfl) rfl<|LL.l (LO.ld O39 (.r rfl) (cells_blk 1 rfl ⟨_, rfl⟩)) rfl<|LL.m rfl rfl<|LL.l (LO.ixs S39 N100 hl.sm (.r rfl) (.r rfl) rfl (by omega)) rfl<|LL.l (LO.fa F100_0 (.r rfl) rfl) rfl<|LL.l (LO.ld O9 (.r rfl) (fun w hw => cells_part (off := 0) ((hl.at hy) w hw) ⟨_, rfl⟩)) rfl<|LL.l (LO.fa (r := 0) F100_0 (.r rfl) rfl) rfl<|LL.l (LO.ld O9 (.r rfl) (cells_blk 0 rfl ⟨_, rfl⟩)) rfl<|LL.l (LO.eqS (.r rfl) (.r rfl)) rfl<|LL.nil) (by kernel_rfl)<|VE.seqN<|VC.cond rfl (fun h51 => ?_) (fun h51 => ?_))
       ·
        refine VC.q (VO.a rfl rfl<|VO.n<|VC.ret (VE.inR (VE.thenR (VE.thenR (VE.inR (VE.thenR (VE.inR (VE.thenR (VE.thenR (VE.inR (VE.thenR (VE.s rfl rfl (fun w hw => ?_)))))))))))))
        refine ⟨?_, hw.nil⟩
        simp only [resV]
        congr 2
        have hlen : (l.map RG.r).length = l.length := List.length_map ..
        first | exact sE1 (s := ⟨g,_,a,b,d⟩) h1 | exact sE2 (s := ⟨g,_,a,b,d⟩) hgo (by simpa using h2) | exact sE3 (s := ⟨g,_,a,b,d⟩) hgo (by simpa using h2) (by simpa using h3) | exact sE4 (s := ⟨g,_,a,b,d⟩) hgo (by simpa using h2) (by simpa using h3) hz (by simpa using h4) (regE1 (by rw [hxd]; exact h5)) (by decide) | exact sE4 (s := ⟨g,_,a,b,d⟩) hgo (by simpa using h2) (by simpa using h3) hz (by simpa using h4) (regE2 (by rw [hxd]; exact h5) (by rw [hxd]; exact met_yes hy (by omega) h51)) (by decide) | exact sE4 (s := ⟨g,_,a,b,d⟩) hgo (by simpa using h2) (by simpa using h3) hz (by simpa using h4) ((regE3 (by rw [hxd]; exact h5) (by rw [hxd]; exact h6n)).trans (by rw [hxd]; exact (pE1 h55).symm)) (by decide) | exact sE4 (s := ⟨g,_,a,b,d⟩) hgo (by simpa using h2) (by simpa using h3) hz (by simpa using h4) ((regE3 (by rw [hxd]; exact h5) (by rw [hxd]; exact h6n)).trans (by rw [hxd]; exact (pE2 h55 hm h60 (by unfold mayE; rw [if_pos h77]) (by decide)).symm)) (by decide) | exact sE4 (s := ⟨g,_,a,b,d⟩) hgo (by simpa using h2) (by simpa using h3) hz (by simpa using h4) ((regE3 (by rw [hxd]; exact h5) (by rw [hxd]; exact h6n)).trans (by rw [hxd]; exact (pE2 h55 hm h60 (by unfold mayE; rw [if_neg h77, if_pos (by omega)]) (by decide)).symm)) (by decide) | exact sE5 (s := ⟨g,_,a,b,d⟩) hgo (by simpa using h2) (by simpa using h3) hz (by simpa using h4) (by unfold rulesOk; dsimp only; omega) | exact sE6 (s := ⟨g,_,a,b,d⟩) hgo (by simpa using h2) (by simpa using h3) hz (by simpa using h4) (by unfold rulesOk; dsimp only; omega)
       ·
        refine VC.skip (VE.inN (VE.seqN<|VC.reg (VO.m rfl rfl<|VO.p rfl rfl (by omega) (by omega) rfl<|VO.a rfl rfl<|VO.nil<|VE.thenN fun a w ha hw => ⟨k + 1, ⟨by omega, name_next hn hy h51⟩, (by omega), ha.sub (.c4 rfl rfl rfl rfl .nil), hw⟩)))
      ·
       refine VC.exit (VE.thenX (VE.thenX (VE.inX (VE.seqN<|VC.seq<|VC.seq ?_))))
       have h6n : ¬ metB (l.map RG.r) j x.r.name = true := met_no (fun q hq => hn q (by omega))
       refine VC.reg (VO.f (r := 1) F100_1 rfl rfl rfl<|VO.c 0 O72 rfl rfl ⟨_, rfl⟩ rfl<|VO.l (LO.len S72 (.r rfl) rfl) rfl<|VO.l (LO.eq (.r rfl) (.r rfl)) rfl<|VO.n<|VC.cond rfl (fun h55 => ?_) (fun h55 => ?_))
       ·
        refine VC.q (VO.a rfl rfl<|VO.n<|VC.ret (VE.thenR (VE.inR (VE.thenR (VE.thenR (VE.inR (VE.thenR (VE.s rfl rfl (fun w hw => ?_)))))))))
        refine ⟨?_, hw.nil⟩
        simp only [resV]
        congr 2
        have hlen : (l.map RG.r).length = l.length := List.length_map ..
        first | exact sE1 (s := ⟨g,_,a,b,d⟩) h1 | exact sE2 (s := ⟨g,_,a,b,d⟩) hgo (by simpa using h2) | exact sE3 (s := ⟨g,_,a,b,d⟩) hgo (by simpa using h2) (by simpa using h3) | exact sE4 (s := ⟨g,_,a,b,d⟩) hgo (by simpa using h2) (by simpa using h3) hz (by simpa using h4) (regE1 (by rw [hxd]; exact h5)) (by decide) | exact sE4 (s := ⟨g,_,a,b,d⟩) hgo (by simpa using h2) (by simpa using h3) hz (by simpa using h4) (regE2 (by rw [hxd]; exact h5) (by rw [hxd]; exact met_yes hy (by omega) h51)) (by decide) | exact sE4 (s := ⟨g,_,a,b,d⟩) hgo (by simpa using h2) (by simpa using h3) hz (by simpa using h4) ((regE3 (by rw [hxd]; exact h5) (by rw [hxd]; exact h6n)).trans (by rw [hxd]; exact (pE1 h55).symm)) (by decide) | exact sE4 (s := ⟨g,_,a,b,d⟩) hgo (by simpa using h2) (by simpa using h3) hz (by simpa using h4) ((regE3 (by rw [hxd]; exact h5) (by rw [hxd]; exact h6n)).trans (by rw [hxd]; exact (pE2 h55 hm h60 (by unfold mayE; rw [if_pos h77]) (by decide)).symm)) (by decide) | exact sE4 (s := ⟨g,_,a,b,d⟩) hgo (by simpa using h2) (by simpa using h3) hz (by simpa using h4) ((regE3 (by rw [hxd]; exact h5) (by rw [hxd]; exact h6n)).trans (by rw [hxd]; exact (pE2 h55 hm h60 (by unfold mayE; rw [if_neg h77, if_pos (by omega)]) (by decide)).symm)) (by decide) | exact sE5 (s := ⟨g,_,a,b,d⟩) hgo (by simpa using h2) (by simpa using h3) hz (by simpa using h4) (by unfold rulesOk; dsimp only; omega) | exact sE6 (s := ⟨g,_,a,b,d⟩) hgo (by simpa using h2) (by simpa using h3) hz (by simpa using h4) (by unfold rulesOk; dsimp only; omega)
       ·
        refine VC.skip (VE.seqN<|VC.q (VO.a rfl rfl<|VO.n<|VC.block<|VC.loopK (α := Nat) 0 (fun gx => [(7, .int .i64 (gx : Nat))]) [(1,_), (4,_), (5,_)] (fun gx => []) (fun gx => gx ≤ x.r.pix.length ∧ ∀ k, k < gx → mayE g x.r.pix k = 0) (fun gx => x.r.pix.length - gx) 0 (by exact ⟨by omega, fun k hk => by omega⟩) (.c4 rfl rfl rfl rfl .nil) (fun _ h => h) ?_))
        rintro m ⟨hm0, hm⟩
        refine VC.seq<|VC.q (VO.m rfl rfl<|VO.f (r := 1) F100_1 rfl rfl rfl<|VO.c 0 O72 rfl rfl ⟨_, rfl⟩ rfl<|VO.l (LO.len S72 (.r rfl) rfl) rfl<|VO.t rfl rfl rfl<|VO.n<|VC.cond rfl (fun h60 => ?_) (fun h60 => ?_))
        ·
         refine VC.skip (VE.seqN<|VC.seq<|VC.block<|VC.seq<|VC.seq<|VC.draw mixed (LL.l (LO.fa (r := 1) F100_1 (.r rfl) rfl) rfl<|LL.l (LO.ld O72 (.r rfl) (cells_blk 0 rfl ⟨_, rfl⟩)) rfl<|LL.m rfl rfl<|LL.l (LO.ixs S72 N3 hxo.1.some (.r rfl) (.r rfl) rfl (by omega)) rfl<|LL.l (LO.ld O3 (.r rfl) (hxo.1.at (j := m) (by omega))) rfl<|LL.l (LO.fa (r := 0) F42_0 (.r rfl) rfl) rfl<|LL.l (LO.fa (r := 3) F23_3 (.r rfl) rfl) rfl<|LL.l (LO.ld O3 (.r rfl) (cells_blk 1 rfl ⟨_, rfl⟩)) rfl<|LL.l (LO.fa (r := 0) F42_0 (.r rfl) rfl) rfl<|LL.l (LO.fa (r := 4) F23_4 (.r rfl) rfl) rfl<|LL.l (LO.ld O3 (.r rfl) (cells_blk 1 rfl ⟨_, rfl⟩)) rfl<|LL.l (LO.mul (.r rfl) (.r rfl) (wi (by omega) (by omega))) rfl<|LL.l (LO.sub (.r rfl) (.r rfl) (wi (by omega) (by omega))) rfl<|LL.l (LO.call (xs := [_,_,_]) (vs := [_,_,_]) C34 ⟨(.r rfl), (.r rfl), (.r rfl), trivial⟩ (fun w _ => In_c _ _ _ w)) rfl<|LL.l (LO.not (.r rfl)) rfl<|LL.nil) (by kernel_rfl)<|VE.seqN<|VC.cond rfl (fun h77 => ?_) (fun h77 => ?_))
         ·
          refine VC.q (VO.a rfl rfl<|VO.n<|VC.ret (VE.thenR (VE.inR (VE.thenR (VE.thenR (VE.inR (VE.inR (VE.thenR (VE.thenR (VE.inR (VE.thenR (VE.s rfl rfl (fun w hw => ?_)))))))))))))
          refine ⟨?_, hw.nil⟩
          simp only [resV]
          congr 2
          have hlen : (l.map RG.r).length = l.length := List.length_map ..
          first | exact sE1 (s := ⟨g,_,a,b,d⟩) h1 | exact sE2 (s := ⟨g,_,a,b,d⟩) hgo (by simpa using h2) | exact sE3 (s := ⟨g,_,a,b,d⟩) hgo (by simpa using h2) (by simpa using h3) | exact sE4 (s := ⟨g,_,a,b,d⟩) hgo (by simpa using h2) (by simpa using h3) hz (by simpa using h4) (regE1 (by rw [hxd]; exact h5)) (by decide) | exact sE4 (s := ⟨g,_,a,b,d⟩) hgo (by simpa using h2) (by simpa using h3) hz (by simpa using h4) (regE2 (by rw [hxd]; exact h5) (by rw [hxd]; exact met_yes hy (by omega) h51)) (by decide) | exact sE4 (s := ⟨g,_,a,b,d⟩) hgo (by simpa using h2) (by simpa using h3) hz (by simpa using h4) ((regE3 (by rw [hxd]; exact h5) (by rw [hxd]; exact h6n)).trans (by rw [hxd]; exact (pE1 h55).symm)) (by decide) | exact sE4 (s := ⟨g,_,a,b,d⟩) hgo (by simpa using h2) (by simpa using h3) hz (by simpa using h4) ((regE3 (by rw [hxd]; exact h5) (by rw [hxd]; exact h6n)).trans (by rw [hxd]; exact (pE2 h55 hm h60 (by unfold mayE; rw [if_pos h77]) (by decide)).symm)) (by decide) | exact sE4 (s := ⟨g,_,a,b,d⟩) hgo (by simpa using h2) (by simpa using h3) hz (by simpa using h4) ((regE3 (by rw [hxd]; exact h5) (by rw [hxd]; exact h6n)).trans (by rw [hxd]; exact (pE2 h55 hm h60 (by unfold mayE; rw [if_neg h77, if_pos (by omega)]) (by decide)).symm)) (by decide) | exact sE5 (s := ⟨g,_,a,b,d⟩) hgo (by simpa using h2) (by simpa using h3) hz (by simpa using h4) (by unfold rulesOk; dsimp only; omega) | exact sE6 (s := ⟨g,_,a,b,d⟩) hgo (by simpa using h2) (by simpa using h3) hz (by simpa using h4) (by unfold rulesOk; dsimp only; omega)
         ·
          refine VC.skip (VE.seqN<|VC.seq<|VC.draw mixed (LL.m rfl rfl<|LL.l (LO.gt (.r rfl) (.r rfl)) rfl<|LL.m rfl rfl<|LL.gt rfl rfl (fun hg => LO.fa (r := 1) F100_1 (.r rfl) rfl) rfl<|LL.gt rfl rfl (fun hg => LO.ld O72 (.g hg rfl) (cells_blk 0 rfl ⟨_, rfl⟩)) rfl<|LL.gt rfl rfl (fun hg => LO.mv (.r rfl)) rfl<|LL.gt rfl rfl (fun hg => LO.ixs S72 N3 hxo.1.some (.g hg rfl) (.g hg rfl) rfl (by omega)) rfl<|LL.gt rfl rfl (fun hg => LO.ld O3 (.g hg rfl) (hxo.1.at (j := m) (by omega))) rfl<|LL.gt rfl rfl (fun hg => LO.fa (r := 1) F100_1 (.r rfl) rfl) rfl<|LL.gt rfl rfl (fun hg => LO.ld O72 (.g hg rfl) (cells_blk 0 rfl ⟨_, rfl⟩)) rfl<|LL.gt rfl rfl (fun hg => LO.mv (.r rfl)) rfl<|LL.gt rfl rfl (fun hg => LO.sub (.g hg rfl) (.r rfl) (wi (by omega) (by omega))) rfl<|LL.gt rfl rfl (fun hg => LO.ixs S72 N3 hxo.1.some (.g hg rfl) (.g hg rfl) (by have := of_decide_eq_true hg; omega) (by omega)) rfl<|LL.gt rfl rfl (fun hg => LO.ld O3 (.g hg rfl) (hxo.1.at (j := (m - 1)) (by omega))) rfl<|LL.gt rfl rfl (fun hg => LO.le (.g hg rfl) (.g hg rfl)) rfl<|LL.l (LO.pkA (.r rfl) rfl rfl (.r rfl)) rfl<|LL.nil) (by kernel_rfl)<|VE.seqN<|VC.cond rfl (fun h93 => ?_) (fun h93 => ?_))
          ·
           refine VC.q (VO.a rfl rfl<|VO.n<|VC.ret (VE.inR (VE.thenR (VE.thenR (VE.inR (VE.inR (VE.thenR (VE.thenR (VE.inR (VE.thenR (VE.s rfl rfl (fun w hw => ?_))))))))))))
           refine ⟨?_, hw.nil⟩
           simp only [resV]
           congr 2
           have hlen : (l.map RG.r).length = l.length := List.length_map ..
           first | exact sE1 (s := ⟨g,_,a,b,d⟩) h1 | exact sE2 (s := ⟨g,_,a,b,d⟩) hgo (by simpa using h2) | exact sE3 (s := ⟨g,_,a,b,d⟩) hgo (by simpa using h2) (by simpa using h3) | exact sE4 (s := ⟨g,_,a,b,d⟩) hgo (by simpa using h2) (by simpa using h3) hz (by simpa using h4) (regE1 (by rw [hxd]; exact h5)) (by decide) | exact sE4 (s := ⟨g,_,a,b,d⟩) hgo (by simpa using h2) (by simpa using h3) hz (by simpa using h4) (regE2 (by rw [hxd]; exact h5) (by rw [hxd]; exact met_yes hy (by omega) h51)) (by decide) | exact sE4 (s := ⟨g,_,a,b,d⟩) hgo (by simpa using h2) (by simpa using h3) hz (by simpa using h4) ((regE3 (by rw [hxd]; exact h5) (by rw [hxd]; exact h6n)).trans (by rw [hxd]; exact (pE1 h55).symm)) (by decide) | exact sE4 (s := ⟨g,_,a,b,d⟩) hgo (by simpa using h2) (by simpa using h3) hz (by simpa using h4) ((regE3 (by rw [hxd]; exact h5) (by rw [hxd]; exact h6n)).trans (by rw [hxd]; exact (pE2 h55 hm h60 (by unfold mayE; rw [if_pos h77]) (by decide)).symm)) (by decide) | exact sE4 (s := ⟨g,_,a,b,d⟩) hgo (by simpa using h2) (by simpa using h3) hz (by simpa using h4) ((regE3 (by rw [hxd]; exact h5) (by rw [hxd]; exact h6n)).trans (by rw [hxd]; exact (pE2 h55 hm h60 (by unfold mayE; rw [if_neg h77, if_pos (by omega)]) (by decide)).symm)) (by decide) | exact sE5 (s := ⟨g,_,a,b,d⟩) hgo (by simpa using h2) (by simpa using h3) hz (by simpa using h4) (by unfold rulesOk; dsimp only; omega) | exact sE6 (s := ⟨g,_,a,b,d⟩) hgo (by simpa using h2) (by simpa using h3) hz (by simpa using h4) (by unfold rulesOk; dsimp only; omega)
          ·
           refine VC.skip (VE.inN (VE.seqN<|VC.reg (VO.m rfl rfl<|VO.p rfl rfl (by omega) (by omega) rfl<|VO.a rfl rfl<|VO.nil<|VE.thenN fun a w ha hw => ⟨m + 1, ⟨by omega, step_zero hm (mayE_zero h77 h93)⟩, (by omega), ha.sub (.c4 rfl rfl rfl rfl .nil), hw⟩)))
        ·
         refine VC.exit (VE.thenX (VE.thenX (VE.inX (VE.inN (VE.seqN<|VC.reg (VO.m rfl rfl<|VO.p rfl rfl (by omega) (by omega) rfl<|VO.a rfl rfl<|VO.nil<|VE.thenN fun a w ha hw => ⟨j + 1, ⟨by omega, step_zero hz ((regE3 (by rw [hxd]; exact h5) (by rw [hxd]; exact h6n)).trans (by rw [hxd]; exact (pE3 h55 hm h60).symm))⟩, (by omega), ha.sub (.cons rfl (.cons rfl .nil)), hw.sel [1] rfl⟩))))))
    ·
     refine VC.exit (VE.thenX (VE.thenX (VE.inX (VE.seqN<|VC.seq<|VC.q (VO.f (r := 6) F42_2 rfl rfl rfl<|VO.f (r := 6) F40_0 rfl rfl rfl<|VO.c 0 O3 rfl rfl ⟨_, rfl⟩ rfl<|VO.l (LO.call (xs := [_,_,_]) (vs := [_,_,_]) C34 ⟨(.r rfl), (.r rfl), (.r rfl), trivial⟩ (fun w _ => In_c _ _ _ w)) rfl<|VO.l (LO.not (.r rfl)) rfl<|VO.m rfl rfl<|VO.gf rfl rfl (fun hg => LO.fa (r := 6) F42_2 (.r rfl) rfl) rfl<|VO.gf rfl rfl (fun hg => LO.fa (r := 7) F40_1 (.g hg rfl) rfl) rfl<|VO.gf rfl rfl (fun hg => LO.ld O3 (.g hg rfl) (cells_blk 0 rfl ⟨_, rfl⟩)) rfl<|VO.gf rfl rfl (fun hg => LO.call (xs := [_,_,_]) (vs := [_,_,_]) C34 ⟨(.g hg rfl), (.r rfl), (.r rfl), trivial⟩ (fun w _ => In_c _ _ _ w)) rfl<|VO.gf rfl rfl (fun hg => LO.not (.g hg rfl)) rfl<|VO.l (LO.pkO (.r rfl) (.r rfl) rfl rfl) rfl<|VO.m rfl rfl<|VO.gf rfl rfl (fun hg => LO.fa (r := 6) F42_2 (.r rfl) rfl) rfl<|VO.gf rfl rfl (fun hg => LO.fa (r := 8) F40_2 (.g hg rfl) rfl) rfl<|VO.gf rfl rfl (fun hg => LO.ld O3 (.g hg rfl) (cells_blk 0 rfl ⟨_, rfl⟩)) rfl<|VO.gf rfl rfl (fun hg => LO.call (xs := [_,_,_]) (vs := [_,_,_]) C34 ⟨(.g hg rfl), (.r rfl), (.r rfl), trivial⟩ (fun w _ => In_c _ _ _ w)) rfl<|VO.gf rfl rfl (fun hg => LO.not (.g hg rfl)) rfl<|VO.l (LO.pkO (.r rfl) (.r rfl) rfl rfl) rfl<|VO.n<|VC.cond rfl (fun h8 => ?_) (fun h8 => ?_))))))
     ·
      refine VC.q (VO.a rfl rfl<|VO.n<|VC.ret (VE.thenR (VE.s rfl rfl (fun w hw => ?_))))
      refine ⟨?_, hw.nil⟩
      simp only [resV]
      congr 2
      have hlen : (l.map RG.r).length = l.length := List.length_map ..
      first | exact sE1 (s := ⟨g,_,a,b,d⟩) h1 | exact sE2 (s := ⟨g,_,a,b,d⟩) hgo (by simpa using h2) | exact sE3 (s := ⟨g,_,a,b,d⟩) hgo (by simpa using h2) (by simpa using h3) | exact sE4 (s := ⟨g,_,a,b,d⟩) hgo (by simpa using h2) (by simpa using h3) hz (by simpa using h4) (regE1 (by rw [hxd]; exact h5)) (by decide) | exact sE4 (s := ⟨g,_,a,b,d⟩) hgo (by simpa using h2) (by simpa using h3) hz (by simpa using h4) (regE2 (by rw [hxd]; exact h5) (by rw [hxd]; exact met_yes hy (by omega) h51)) (by decide) | exact sE4 (s := ⟨g,_,a,b,d⟩) hgo (by simpa using h2) (by simpa using h3) hz (by simpa using h4) ((regE3 (by rw [hxd]; exact h5) (by rw [hxd]; exact h6n)).trans (by rw [hxd]; exact (pE1 h55).symm)) (by decide) | exact sE4 (s := ⟨g,_,a,b,d⟩) hgo (by simpa using h2) (by simpa using h3) hz (by simpa using h4) ((regE3 (by rw [hxd]; exact h5) (by rw [hxd]; exact h6n)).trans (by rw [hxd]; exact (pE2 h55 hm h60 (by unfold mayE; rw [if_pos h77]) (by decide)).symm)) (by decide) | exact sE4 (s := ⟨g,_,a,b,d⟩) hgo (by simpa using h2) (by simpa using h3) hz (by simpa using h4) ((regE3 (by rw [hxd]; exact h5) (by rw [hxd]; exact h6n)).trans (by rw [hxd]; exact (pE2 h55 hm h60 (by unfold mayE; rw [if_neg h77, if_pos (by omega)]) (by decide)).symm)) (by decide) | exact sE5 (s := ⟨g,_,a,b,d⟩) hgo (by simpa using h2) (by simpa using h3) hz (by simpa using h4) (by unfold rulesOk; dsimp only; omega) | exact sE6 (s := ⟨g,_,a,b,d⟩) hgo (by simpa using h2) (by simpa using h3) hz (by simpa using h4) (by unfold rulesOk; dsimp only; omega)
     ·
      refine VC.skip (VE.seqN<|VC.q (VO.a rfl rfl<|VO.n<|VC.ret (VE.s rfl rfl (fun w hw => ?_))))
      refine ⟨?_, hw.nil⟩
      simp only [resV]
      congr 2
      have hlen : (l.map RG.r).length = l.length := List.length_map ..
      first | exact sE1 (s := ⟨g,_,a,b,d⟩) h1 | exact sE2 (s := ⟨g,_,a,b,d⟩) hgo (by simpa using h2) | exact sE3 (s := ⟨g,_,a,b,d⟩) hgo (by simpa using h2) (by simpa using h3) | exact sE4 (s := ⟨g,_,a,b,d⟩) hgo (by simpa using h2) (by simpa using h3) hz (by simpa using h4) (regE1 (by rw [hxd]; exact h5)) (by decide) | exact sE4 (s := ⟨g,_,a,b,d⟩) hgo (by simpa using h2) (by simpa using h3) hz (by simpa using h4) (regE2 (by rw [hxd]; exact h5) (by rw [hxd]; exact met_yes hy (by omega) h51)) (by decide) | exact sE4 (s := ⟨g,_,a,b,d⟩) hgo (by simpa using h2) (by simpa using h3) hz (by simpa using h4) ((regE3 (by rw [hxd]; exact h5) (by rw [hxd]; exact h6n)).trans (by rw [hxd]; exact (pE1 h55).symm)) (by decide) | exact sE4 (s := ⟨g,_,a,b,d⟩) hgo (by simpa using h2) (by simpa using h3) hz (by simpa using h4) ((regE3 (by rw [hxd]; exact h5) (by rw [hxd]; exact h6n)).trans (by rw [hxd]; exact (pE2 h55 hm h60 (by unfold mayE; rw [if_pos h77]) (by decide)).symm)) (by decide) | exact sE4 (s := ⟨g,_,a,b,d⟩) hgo (by simpa using h2) (by simpa using h3) hz (by simpa using h4) ((regE3 (by rw [hxd]; exact h5) (by rw [hxd]; exact h6n)).trans (by rw [hxd]; exact (pE2 h55 hm h60 (by unfold mayE; rw [if_neg h77, if_pos (by omega)]) (by decide)).symm)) (by decide) | exact sE5 (s := ⟨g,_,a,b,d⟩) hgo (by simpa using h2) (by simpa using h3) hz (by simpa using h4) (by unfold rulesOk; dsimp only; omega) | exact sE6 (s := ⟨g,_,a,b,d⟩) hgo (by simpa using h2) (by simpa using h3) hz (by simpa using h4) (by unfold rulesOk; dsimp only; omega)
theorem C63 : IsFn Tryz.prog 63 := ⟨_, Tryz.func63, by decide, rfl⟩
theorem S113 : IsSlice Tryz.prog 113 72 := Tryz.underlying113
theorem Z72 : ZeroOf Tryz.prog 72 (.slice none 0 0) := by unfold ZeroOf; kernel_rfl
theorem N72 : (Tryz.prog.info? 72).map (·.size) = some 1 := by kernel_rfl
theorem I72 : EInfo Tryz.prog 72 1 24 (.slice none 0 0) := ⟨by kernel_rfl, by kernel_rfl, by unfold ZeroOf; kernel_rfl, rfl, by decide⟩
abbrev iC (n : Int) : List Value := [.int .i64 n]
abbrev IRow := RowA Int
def zI : IRow := RowA.z
def lsI (rs : List IRow) : List (List Int) := rs.map (·.l)
theorem lsI_len {rs : List IRow} : (lsI rs).length = rs.length := List.length_map ..
theorem lsI_get {rs : List IRow} (i : Nat) : (lsI rs).getD i [] = (rs.getD i zI).l := by
  unfold lsI
  rw [List.getD_eq_getElem?_getD, List.getD_eq_getElem?_getD, List.getElem?_map]
  cases rs[i]? <;> rfl
theorem lsI_app {xs ys : List IRow} : lsI (xs ++ ys) = lsI xs ++ lsI ys := List.map_append ..
theorem getD_some {α : Type} {l : List α} {d : α} {j : Nat} (hj : j < l.length) : l[j]? = some (l.getD j d) := by
  rw [List.getD_eq_getElem?_getD, List.getElem?_eq_getElem hj]; rfl
theorem irow_at {w : World} {p : Option Addr} {rs : List IRow} (h : RR 1 iC w p rs) {i : Nat} (hi : i < rs.length) : (rs.getD i zI).l.length ≤ (rs.getD i zI).c ∧ RO 1 iC w (rs.getD i zI).p (rs.getD i zI).l := h.2 _ (getD_mem (d := zI) hi)
structure Thr where
  lv : Int
  ld : Int
  px : Int
abbrev thrV (t : Thr) : Value := .agg #[.int .i64 t.lv, .int .i64 t.ld, .int .i64 t.px]
def thrP (l : List Int) (x : Int) (pix : List Int) (a : Thr) : Nat → Thr
  | 0 => a
  | k + 1 => if (thrP l x pix a k).lv < l.getD (pix.getD k 0).toNat 0 then ⟨l.getD (pix.getD k 0).toNat 0, x, pix.getD k 0⟩ else thrP l x pix a k
def thrL (ls : List (List Int)) (pix : List Int) (b : Int) : Nat → Thr
  | 0 => ⟨0, -1, -1⟩
  | i + 1 => thrP (ls.getD i []) (i * b) pix (thrL ls pix b i) pix.length
def thr (ls : List (List Int)) (pix : List Int) (b : Int) : Thr := thrL ls pix b ls.length
theorem thrP_y {l pix : List Int} {x v : Int} {a t : Thr} {k : Nat} (h : t = thrP l x pix a k) (hv : v = l.getD (pix.getD k 0).toNat 0) (hk : t.lv < v) : Thr.mk v x (pix.getD k 0) = thrP l x pix a (k + 1) := by
  subst h hv; unfold thrP; rw [if_pos hk]
theorem thrP_n {l pix : List Int} {x v : Int} {a t : Thr} {k : Nat} (h : t = thrP l x pix a k) (hv : v = l.getD (pix.getD k 0).toNat 0) (hk : ¬ t.lv < v) : t = thrP l x pix a (k + 1) := by
  subst h hv
  conv => rhs; unfold thrP
  rw [if_neg hk]
def lookN (a b : Int) : Nat := (a / b).toNat + 1
def lookE (g : Grid) (l : List Cloud) : Int := atE g l 0
def lookI (g : Grid) (l : List Cloud) (b : Int) (n : Nat) : List (List Int) := (List.range n).map fun k : Nat => atL g l (k * b)
theorem lookI_len {g : Grid} {l : List Cloud} {b : Int} {n : Nat} : (lookI g l b n).length = n := by simp [lookI]
theorem lookI_add {g : Grid} {l : List Cloud} {b : Int} {n : Nat} : lookI g l b (n + 1) = lookI g l b n ++ [atL g l (n * b)] := by unfold lookI; rw [List.range_succ, List.map_append]; rfl
def lookL (g : Grid) (l : List Cloud) (a b : Int) : List (List Int) := if lookE g l ≠ 0 then [] else lookI g l b (lookN a b)
theorem look_lt {a b : Int} {i : Nat} (ha : 0 ≤ a) (hb : 30 ≤ b) : (i : Int) * b ≤ a ↔ i < lookN a b := by
  unfold lookN
  have h := Int.le_ediv_iff_mul_le (a := (i : Int)) (b := a) (c := b) (by omega)
  have h0 : 0 ≤ a / b := Int.ediv_nonneg ha (by omega)
  constructor
  · intro q; have := h.2 q; omega
  · intro q; exact h.1 (by omega)
theorem look_bd {a b : Int} {i : Nat} (ha : 0 ≤ a) (ha2 : a ≤ 7200) (hb : 30 ≤ b) (hb2 : b ≤ 3600) (hi : i ≤ lookN a b) : 0 ≤ (i : Int) * b ∧ (i : Int) * b ≤ 10800 ∧ i ≤ 241 := by
  have h0 : 0 ≤ a / b := Int.ediv_nonneg ha (by omega)
  have h1 : b * (a / b) ≤ a := Int.mul_ediv_self_le (by omega)
  have h2 : (i : Int) ≤ a / b + 1 := by unfold lookN at hi; omega
  have h3 : (i : Int) * b ≤ (a / b + 1) * b := Int.mul_le_mul_of_nonneg_right h2 (by omega)
  have h4 : (a / b + 1) * b = b * (a / b) + b := by rw [Int.add_mul, Int.one_mul, Int.mul_comm]
  have h5 : 30 * (a / b) ≤ b * (a / b) := Int.mul_le_mul_of_nonneg_right hb h0
  refine ⟨Int.mul_nonneg (by omega) (by omega), by omega, by omega⟩
theorem atE_lead {g : Grid} {l : List Cloud} {t : Int} (h1 : 0 ≤ t) (h2 : t ≤ 7200) : atE g l t = lookE g l := by
  unfold lookE atE
  simp [h1, h2]
theorem atL_len {g : Grid} {l : List Cloud} {t : Int} (h : atE g l t = 0) : (atL g l t).length = (g.wide * g.high).toNat := by
  unfold atL; rw [if_neg (by omega)]; simp
theorem look_err {g : Grid} {l : List Cloud} {a b e : Int} {w w' : World} {L : List Res} (he : e = lookE g l) (h0 : ¬ e = 0) (hw : St (bs w) L w') :
    ∃ x : (Option Addr × Nat) × List IRow, lsI x.2 = lookL g l a b ∧ Ending.returned (.tuple #[.slice none 0 0, .int .i64 e]) = .returned (.tuple #[.slice x.1.1 x.2.length x.1.2, .int .i64 (lookE g l)]) ∧ St (bs w) [own 72 1 x.1.1 x.1.2 (x.2.map rowC), bagR 3 1 iC x.2] w' :=
  ⟨((none, 0), []), by unfold lookL; rw [if_pos (by rw [← he]; exact h0)]; rfl, by rw [he]; rfl, (hw.nil.bagRNil 3 1 iC).ownNil 72 1⟩
theorem look_c (g : Grid) (rp : Option Addr) (rn rc : Nat) (a b d : Int) (l : List CP) (pl : Option Addr) (cl : Nat) (w : World) (ha : 0 ≤ a) (ha2 : a ≤ 7200) (hb : 30 ≤ b) (hb2 : b ≤ 3600) (hll : l.length < 1000000000000) (hl : Clouds w pl l) :
 Calls Tryz.prog 36 #[specV g rp rn rc a b d, .slice pl l.length cl] w fun e w' => ∃ x : (Option Addr × Nat) × List IRow, lsI x.2 = lookL g (l.map CP.c) a b ∧ e = .returned (.tuple #[.slice x.1.1 x.2.length x.1.2, .int .i64 (lookE g (l.map CP.c))]) ∧ St (bs w) [own 72 1 x.1.1 x.1.2 (x.2.map rowC), bagR 3 1 iC x.2] w' := by
 refine enter (vs := [_,_]) (env := [(0,_), (1,_)]) Tryz.func36 rfl rfl rfl rfl ?_
 refine VC.q (VO.h rfl<|HO.box (C := #[_,_,_,_,_,_,_,_,_]) rfl rfl fun b1 => VO.a rfl rfl<|VO.a rfl rfl<|VO.n<|VC.q (VO.a rfl rfl<|VO.n<|VC.seq<|VC.q (VO.a rfl rfl<|VO.n<|VC.block<|VC.loopK (α := Nat × (List IRow) × (Option Addr) × Nat) 0 (fun gx => [(6, .slice gx.2.2.1 gx.2.1.length gx.2.2.2), (7, .int .i64 ((gx.1 : Int) * b))]) [(1,_), (2,_)] (fun gx => [own 72 1 gx.2.2.1 gx.2.2.2 (gx.2.1.map rowC), bagR 3 1 iC gx.2.1]) (fun gx => gx.1 ≤ lookN a b ∧ lsI gx.2.1 = lookI g (l.map CP.c) b gx.1 ∧ (0 < gx.1 → lookE g (l.map CP.c) = 0)) (fun gx => lookN a b - gx.1) (0, [], none, 0) (by exact ⟨Nat.zero_le _, rfl, fun h => absurd h (by omega)⟩) (.cons rfl (.cons (congrArg (fun z => some (Value.int .i64 z)) (Int.zero_mul b).symm) (.cons rfl (.cons rfl .nil)))) (fun _ h => ((h.bagRNil 3 1 iC).ownNil 72 1)) ?_)))
 rintro ⟨i, xs, px, cx⟩ ⟨hi, hX, hz⟩
 show VC _ _ _ _ _ ([(6, .slice px xs.length cx), (7, .int .i64 ((i : Int) * b))] ++ _) ([own 72 1 px cx (xs.map rowC), bagR 3 1 iC xs] ++ _) _ _
 dsimp only at hi hX hz
 have hxl : xs.length = i := by rw [← lsI_len, hX, lookI_len]
 refine VC.seq<|VC.seq ?_
 have hbd0 := look_bd ha ha2 hb hb2 hi
 refine VC.reg (VO.m rfl rfl<|VO.f (r := 6) F28_2 rfl rfl rfl<|VO.f (r := 6) F26_0 rfl rfl rfl<|VO.c 2 O3 rfl rfl ⟨_, rfl⟩ rfl<|VO.l (LO.le (.r rfl) (.r rfl)) rfl<|VO.n<|VC.cond rfl (fun h14 => ?_) (fun h14 => ?_))
 ·
  have hi2 := (look_lt ha hb).1 h14
  have hbd := look_bd ha ha2 hb hb2 hi
  have hae := atE_lead (g := g) (l := l.map CP.c) (t := (i : Int) * b) hbd.1 (by omega)
  refine VC.skip (VE.seqN<|VC.seq<|VC.block<|VC.q (VO.f (r := 0) F28_0 rfl rfl rfl<|VO.l (LO.lda (vs := [_,_,_,_,_]) A23 (.r rfl) (cells_blk 2 rfl ⟨_, rfl⟩) rfl) rfl<|VO.m rfl rfl<|VO.m rfl rfl<|VO.h rfl<|HO.callx (xs := [_,_,_]) (vs := [_,_,_]) C63 ⟨(.r rfl), (.r rfl), (.r rfl), trivial⟩ (fun w hw => At_c g l pl cl ((i : Int) * b) w hll ⟨hl.rows.keep w hw, fun x hx => ⟨(hl.ok x hx).1.keep w hw, (hl.ok x hx).2.1.keep w hw, (hl.ok x hx).2.2⟩⟩) fun q _ => VO.h rfl<|HO.lo (LO.mv (.r rfl))<|VO.h rfl<|HO.lo (LO.ex (.r rfl) rfl)<|VO.h rfl<|HO.lo (LO.ex (.r rfl) rfl)<|VO.h rfl<|HO.lo (LO.as (.r rfl))<|VO.h rfl<|HO.lo (LO.as (.r rfl))<|VO.n<|VC.seq<|VC.q (VO.m rfl rfl<|VO.u rfl rfl rfl<|VO.n<|VC.cond rfl (fun h29 => ?_) (fun h29 => ?_))))
  ·
   refine VC.q (VO.m rfl rfl<|VO.a rfl rfl<|VO.a rfl rfl<|VO.n<|VC.ret (VE.thenR (VE.inR (VE.thenR (VE.thenR (VE.inR (VE.thenR (VE.res (vs := [_,_]) rfl ⟨rfl, rfl, trivial⟩ (fun w hw => ?_)))))))))
   first | exact look_err hae h29 hw | exact ⟨((px, cx), xs), by have h0 := hz (by unfold lookN at hi3; omega); unfold lookL; rw [if_neg (by omega), hX, hi3], by rw [hz (by unfold lookN at hi3; omega)]; rfl, hw.sel [0,1] rfl⟩
  ·
   refine VC.skip (VE.seqN<|VC.reg (VO.m rfl rfl<|VO.m rfl rfl<|VO.h rfl<|HO.bs (ps := [(_,_)]) (vs := [(_,_)]) (Z := [_]) (C := [_]) S113 Z72 N72 ⟨(.r rfl), trivial⟩ rfl rfl rfl rfl ⟨_, [_], [_], rfl, rfl, rfl, rfl, rfl⟩ fun b5 => VO.h rfl<|HO.appT ((⟨q.1, q.2, atL g (l.map CP.c) ((i : Int) * b)⟩ : IRow)) 2 0 (fun R => [_,_, R,_,_]) S113 S113 I72 (.r rfl) (.r rfl) rfl rfl rfl rfl rfl rfl rfl (fun _ => rfl) rfl (by omega) fun p3 c3 => VO.h rfl<|HO.lo (LO.as (.r rfl))<|VO.nil<|VE.inN (VE.seqN<|VC.reg (VO.m rfl rfl<|VO.f (r := 6) F28_2 rfl rfl rfl<|VO.f (r := 7) F26_1 rfl rfl rfl<|VO.c 4 O3 rfl rfl ⟨_, rfl⟩ rfl<|VO.p rfl rfl (by omega) (by omega) rfl<|VO.a rfl rfl<|VO.nil<|VE.thenN fun a w ha hw => ⟨(i + 1, xs ++ [(⟨q.1, q.2, atL g (l.map CP.c) ((i : Int) * b)⟩ : IRow)], p3, c3), ⟨by dsimp only; omega, by dsimp only; rw [lsI_app, hX, lookI_add]; rfl, fun _ => by rw [← hae]; exact Classical.not_not.1 h29⟩, (by dsimp only; omega), ha.sub (.cons rfl (.cons (congrArg (fun z => some (Value.int .i64 z)) (by show (i : Int) * b + b = ((i + 1 : Nat) : Int) * b; rw [Int.natCast_succ, Int.add_mul, Int.one_mul])) (.cons rfl (.cons rfl .nil)))), ((hw.sel [1,3,2,4] rfl).bagRIn (x := (⟨q.1, q.2, atL g (l.map CP.c) ((i : Int) * b)⟩ : IRow))).sel [1,0,2] rfl⟩))))
 ·
  have hi3 : i = lookN a b := by have := (look_lt (i := i) ha hb).2; omega
  refine VC.exit (VE.thenX (VE.thenX (VE.inX (VE.seqN<|VC.q (VO.m rfl rfl<|VO.a rfl rfl<|VO.a rfl rfl<|VO.n<|VC.ret (VE.res (vs := [_,_]) rfl ⟨rfl, rfl, trivial⟩ (fun w hw => ?_)))))))
  first | exact look_err hae h29 hw | exact ⟨((px, cx), xs), by have h0 := hz (by unfold lookN at hi3; omega); unfold lookL; rw [if_neg (by omega), hX, hi3], by rw [hz (by unfold lookN at hi3; omega)]; rfl, hw.sel [0,1] rfl⟩
theorem Z124 : ZeroOf Tryz.prog 124 (.agg #[.int .i64 0, .int .i64 0, .int .i64 0]) := by unfold ZeroOf; kernel_rfl
theorem B124 : Builds Tryz.prog 124 [(0,1), (1,1), (2,1)] [.int .i64 0, .int .i64 0, .int .i64 0] := Builds.mk fun _ => by kernel_rfl
theorem N124 : (Tryz.prog.info? 124).map (·.size) = some 3 := by kernel_rfl
theorem F124_0 : FieldAt Tryz.prog 124 0 0 := ⟨_,_, Tryz.underlying124, rfl, rfl, 0, by kernel_rfl⟩
theorem A124 : IsAgg Tryz.prog 124 3 := ⟨⟨_, Tryz.underlying124, rfl⟩, by kernel_rfl⟩
theorem thrL_step {ls : List (List Int)} {pix : List Int} {b : Int} {i : Nat} {t u : Thr} (ht : t = thrL ls pix b i) (hu : u = thrP (ls.getD i []) (i * b) pix t pix.length) : u = thrL ls pix b (i + 1) := by
  subst ht; exact hu
theorem mul_small {i : Nat} {b : Int} (hi : i ≤ 1000) (hb : 0 ≤ b) (hb2 : b ≤ 3600) : 0 ≤ (i : Int) * b ∧ (i : Int) * b ≤ 3600000 := by
  refine ⟨Int.mul_nonneg (by omega) hb, ?_⟩
  have : (i : Int) * b ≤ 1000 * b := Int.mul_le_mul_of_nonneg_right (by omega) hb
  omega
def PixIn (pix : List Int) (rs : List IRow) : Prop := ∃ n : Nat, (∀ k, k < pix.length → 0 ≤ pix.getD k 0 ∧ pix.getD k 0 < n) ∧ ∀ i, i < rs.length → (rs.getD i zI).l.length = n
theorem look_pix {g : Grid} {l : List Cloud} {a b : Int} {rs : List IRow} {pix : List Int} (ha : 0 ≤ a) (ha2 : a ≤ 7200) (hb : 30 ≤ b) (hb2 : b ≤ 3600) (h : lsI rs = lookL g l a b) (h0 : lookE g l = 0) (hp : pixE g pix = 0) (hg : gridOk g) : PixIn pix rs := by
  have h1 : lsI rs = lookI g l b (lookN a b) := by rw [h]; unfold lookL; rw [if_neg (by omega)]
  have hN : rs.length = lookN a b := by rw [← lsI_len, h1, lookI_len]
  refine ⟨(g.wide * g.high).toNat, fun k hk => ?_, fun i hi => ?_⟩
  · have e : pix.getD k 0 = pix[k] := by rw [List.getD_eq_getElem?_getD, List.getElem?_eq_getElem hk]; rfl
    have h2 : firstE (mayE g pix) pix.length = 0 := by
      unfold pixE at hp
      split at hp
      · omega
      · exact hp
    have h3 := firstE_eq h2 k hk
    unfold mayE at h3
    have := area_bd hg
    split at h3
    · omega
    · omega
  · rw [← lsI_get, h1]
    have hbd := look_bd (i := i) ha ha2 hb hb2 (by omega)
    have e : (lookI g l b (lookN a b)).getD i [] = atL g l (i * b) := by
      unfold lookI
      rw [List.getD_eq_getElem?_getD, List.getElem?_map, List.getElem?_range (by omega)]; rfl
    rw [e]
    have hlt := (look_lt (i := i) ha hb).2 (by omega)
    exact atL_len (by rw [atE_lead hbd.1 (by omega)]; exact h0)
theorem specOk {s : Sp} (h : specE s = 0) : gridOk s.g ∧ s.regs.length ≤ 32 ∧ 0 < s.regs.length ∧ (∀ i, i < s.regs.length → pixE s.g (s.regs.getD i default).pix = 0) ∧ rulesOk s := by
  unfold specE at h
  split at h
  · omega
  · rename_i q1
    have q1 := Classical.not_not.1 q1
    split at h
    · omega
    · rename_i q2
      split at h
      · omega
      · split at h
        · omega
        · rename_i q4
          have q4 := Classical.not_not.1 q4
          split at h
          · omega
          · rename_i q5
            have q5 := Classical.not_not.1 q5
            have hl : 0 < s.regs.length := List.length_pos_iff.2 q2
            refine ⟨q1, by omega, hl, fun i hi => ?_, q5⟩
            have := firstE_eq q4 i hi
            unfold regE at this
            split at this
            · omega
            · split at this
              · omega
              · exact this
section
variable {s : Sp} {i : Int} {l : List Cloud}
end
theorem threat_c (r : RG) (rs : List IRow) (p : Option Addr) (c : Nat) (b : Int) (w : World) (hl : Ints w r.px r.r.pix) (hn : r.r.pix.length < 1000000000000) (hs : RR 1 iC w p rs) (hrn : rs.length ≤ 241) (hb : 0 ≤ b) (hb2 : b ≤ 3600) (hpi : PixIn r.r.pix rs) :
 Calls Tryz.prog 40 #[.agg #[.string r.r.name, .slice r.px r.r.pix.length r.cx], .slice p rs.length c, .int .i64 b] w fun e w' => e = .returned (thrV (thr (lsI rs) r.r.pix b)) ∧ St (bs w) [] w' := by
 obtain ⟨n, hpx, hrw⟩ := hpi
 refine enter (vs := [_,_,_]) (env := [(0,_), (1,_), (2,_)]) Tryz.func40 rfl rfl rfl rfl ?_
 refine VC.q (VO.h rfl<|HO.box (C := #[_,_]) rfl rfl fun b1 => VO.h rfl<|HO.alloc (C := #[_,_,_]) Z124 rfl fun b2 => VO.n<|VC.q (VO.l (LO.bd (ps := [(_,_), (_,_), (_,_)]) (vs := [(_,_), (_,_), (_,_)]) (C := [_,_,_]) B124  ⟨(.r rfl), (.r rfl), (.r rfl), trivial⟩ rfl ⟨_, [_], [_,_,_], rfl, rfl, rfl, rfl, ⟨_, [_], [_,_,_], rfl, rfl, rfl, rfl, ⟨_, [_], [_,_,_], rfl, rfl, rfl, rfl, rfl⟩⟩⟩) rfl<|VO.h rfl<|HO.alloc (C := #[_,_,_]) Z124 rfl fun b3 => VO.h0<|HO.st 0 (vs := [_,_,_]) (C' := [_,_,_]) (L' := [_,_,_]) N124 rfl rfl rfl rfl rfl rfl rfl rfl<|VO.n<|VC.seq<|VC.q (VO.m rfl rfl<|VO.l (LO.len S113 (.r rfl) rfl) rfl<|VO.m rfl rfl<|VO.n<|VC.block<|VC.loopK (α := Nat × Thr) 1 (fun gx => [(16, .int .i64 (gx.1 : Nat))]) [(2,_), (3,_), (6,_), (7,_), (14,_), (15,_)] (fun gx => [blk b3 (.cells #[.int .i64 gx.2.lv, .int .i64 gx.2.ld, .int .i64 gx.2.px] 124)]) (fun gx => gx.1 ≤ rs.length ∧ gx.2 = thrL (lsI rs) r.r.pix b gx.1) (fun gx => rs.length - gx.1) (0, Thr.mk 0 (-1) (-1)) (by exact ⟨Nat.zero_le _, rfl⟩) (.c4 rfl rfl rfl rfl (.cons rfl (.cons rfl (.cons rfl .nil)))) (fun _ h => h) ?_)))
 rintro ⟨i, t⟩ ⟨hi, ht⟩
 show VC _ _ _ _ _ ([(16, .int .i64 (i : Nat))] ++ _) ([blk b3 (.cells #[.int .i64 t.lv, .int .i64 t.ld, .int .i64 t.px] 124)] ++ _) _ _
 dsimp only at hi ht
 refine VC.q (VO.t rfl rfl rfl<|VO.n<|VC.seq<|VC.cond rfl (fun h17 => ?_) (fun h17 => ?_))
 ·
  have hrow := irow_at hs (i := i) (by omega)
  have hri := hrw i (by omega)
  have hib := mul_small (i := i) (b := b) (by omega) hb hb2
  refine VC.skip (VE.seqN<|VC.seq<|VC.block<|VC.q (VO.m rfl rfl<|VO.l (LO.ixs S113 N72 hs.1.sm (.r rfl) (.r rfl) rfl (by omega)) rfl<|VO.l (LO.ld O72 (.r rfl) (fun w hw => cells_part (off := 0) ((hs.1.at zI (j := i) (by omega)) w hw) ⟨_, rfl⟩)) rfl<|VO.a rfl rfl<|VO.a rfl rfl<|VO.n<|VC.q (VO.f (r := 1) F74_1 rfl rfl rfl<|VO.c 2 O72 rfl rfl ⟨_, rfl⟩ rfl<|VO.l (LO.len S72 (.r rfl) rfl) rfl<|VO.m rfl rfl<|VO.n<|VC.block<|VC.loopK (α := Nat × Thr) 1 (fun gx => [(24, .int .i64 (gx.1 : Nat))]) [(2,_), (3,_), (6,_), (7,_), (8,_), (9,_), (14,_), (15,_), (16,_), (22,_), (23,_)] (fun gx => [blk b3 (.cells #[.int .i64 gx.2.lv, .int .i64 gx.2.ld, .int .i64 gx.2.px] 124)]) (fun gx => gx.1 ≤ r.r.pix.length ∧ gx.2 = thrP (rs.getD i zI).l ((i : Int) * b) r.r.pix t gx.1) (fun gx => r.r.pix.length - gx.1) (0, t) (by exact ⟨Nat.zero_le _, rfl⟩) (.c4 rfl rfl rfl rfl (.c4 rfl rfl rfl rfl (.c4 rfl rfl rfl rfl .nil))) (fun _ h => h) ?_)))
  rintro ⟨k, u⟩ ⟨hk, hu⟩
  show VC _ _ _ _ _ ([(24, .int .i64 (k : Nat))] ++ _) ([blk b3 (.cells #[.int .i64 u.lv, .int .i64 u.ld, .int .i64 u.px] 124)] ++ _) _ _
  dsimp only at hk hu
  refine VC.q (VO.t rfl rfl rfl<|VO.n<|VC.seq<|VC.cond rfl (fun h25 => ?_) (fun h25 => ?_))
  ·
   have hpk := hpx k (by omega)
   refine VC.skip (VE.seqN<|VC.seq<|VC.block<|VC.q (VO.l (LO.ixs S72 N3 hl.some (.r rfl) (.r rfl) rfl (by omega)) rfl<|VO.l (LO.ld O3 (.r rfl) (fun w hw => cells_part (off := 0) ((hl.at (j := k) (by omega)) w hw) ⟨_, rfl⟩)) rfl<|VO.a rfl rfl<|VO.n<|VC.q (VO.m rfl rfl<|VO.m rfl rfl<|VO.l (LO.ixs S72 N3 hrow.2.sm (.r rfl) (.r rfl) (Int.toNat_of_nonneg (by omega)).symm (by omega)) rfl<|VO.l (LO.ld O3 (.r rfl) (fun w hw => cells_part (off := 0) ((hrow.2.at 0 (j := (r.r.pix.getD k 0).toNat) (by omega)) w hw) ⟨_, rfl⟩)) rfl<|VO.a rfl rfl<|VO.n<|VC.q (VO.m rfl rfl<|VO.f (r := 0) F124_0 rfl rfl rfl<|VO.c 0 O3 rfl rfl ⟨_, rfl⟩ rfl<|VO.l (LO.gt (.r rfl) (.r rfl)) rfl<|VO.n<|VC.cond rfl (fun h35 => ?_) (fun h35 => ?_)))))
   ·
    refine VC.reg (VO.m rfl rfl<|VO.m rfl rfl<|VO.m rfl rfl<|VO.l (LO.mul (.r rfl) (.r rfl) (wi (by omega) (by omega))) rfl<|VO.m rfl rfl<|VO.l (LO.bd (ps := [(_,_), (_,_), (_,_)]) (vs := [(_,_), (_,_), (_,_)]) (C := [_,_,_]) B124  ⟨(.r rfl), (.r rfl), (.r rfl), trivial⟩ rfl ⟨_, [_], [_,_,_], rfl, rfl, rfl, rfl, ⟨_, [_], [_,_,_], rfl, rfl, rfl, rfl, ⟨_, [_], [_,_,_], rfl, rfl, rfl, rfl, rfl⟩⟩⟩) rfl<|VO.h0<|HO.st 0 (vs := [_,_,_]) (C' := [_,_,_]) (L' := [_,_,_]) N124 rfl rfl rfl rfl rfl rfl rfl rfl<|VO.nil<|VE.inN (VE.seqN<|VC.reg (VO.p rfl rfl (by omega) (by omega) rfl<|VO.m rfl rfl<|VO.nil<|VE.thenN fun a w ha hw => ⟨(k + 1, Thr.mk ((rs.getD i zI).l.getD (r.r.pix.getD k 0).toNat 0) ((i : Int) * b) (r.r.pix.getD k 0)), ⟨by dsimp only; omega, thrP_y hu rfl (by omega)⟩, (by dsimp only; omega), ha.sub (.c4 rfl rfl rfl rfl (.c4 rfl rfl rfl rfl (.c4 rfl rfl rfl rfl .nil))), hw⟩)))
   ·
    refine VC.skip (VE.inN (VE.seqN<|VC.reg (VO.p rfl rfl (by omega) (by omega) rfl<|VO.m rfl rfl<|VO.nil<|VE.thenN fun a w ha hw => ⟨(k + 1, u), ⟨by dsimp only; omega, thrP_n hu rfl (by omega)⟩, (by dsimp only; omega), ha.sub (.c4 rfl rfl rfl rfl (.c4 rfl rfl rfl rfl (.c4 rfl rfl rfl rfl .nil))), hw⟩)))
  ·
   refine VC.exit (VE.thenX (VE.thenX (VE.inX (VE.inN (VE.seqN<|VC.reg (VO.p rfl rfl (by omega) (by omega) rfl<|VO.m rfl rfl<|VO.nil<|VE.thenN fun a w ha hw => ⟨(i + 1, u), ⟨by dsimp only; omega, thrL_step ht (by rw [lsI_get, show r.r.pix.length = k by omega]; exact hu)⟩, (by dsimp only; omega), ha.sub (.c4 rfl rfl rfl rfl (.cons rfl (.cons rfl (.cons rfl .nil)))), hw⟩))))))
 ·
  refine VC.exit (VE.thenX (VE.thenX (VE.inX (VE.seqN<|VC.q (VO.l (LO.lda (vs := [_,_,_]) A124 (.r rfl) (cells_blk 0 rfl ⟨_, rfl⟩) rfl) rfl<|VO.h0<|HO.st 1 (vs := [_,_,_]) (C' := [_,_,_]) (L' := [_,_,_]) N124 rfl rfl rfl rfl rfl rfl rfl rfl<|VO.n<|VC.ret (VE.res (vs := [_]) rfl ⟨RV.agg (vs := [_,_,_]) A124 rfl (cells_blk 1 rfl ⟨_, rfl⟩) rfl, trivial⟩ (fun w hw => ?_)))))))
  refine ⟨?_, hw.nil⟩
  have hi2 : i = rs.length := by omega
  simp only [resV]
  unfold thr
  rw [lsI_len, ← hi2, ← ht]
theorem B168 : Builds Tryz.prog 168 [(0,1), (1,1), (2,1)] [.int .i64 0, .int .i64 0, .int .i64 0] := Builds.mk fun _ => by kernel_rfl
theorem S131 : IsSlice Tryz.prog 131 168 := Tryz.underlying131
theorem Z168 : ZeroOf Tryz.prog 168 (.agg #[.int .i64 0, .int .i64 0, .int .i64 0]) := by unfold ZeroOf; kernel_rfl
theorem N168 : (Tryz.prog.info? 168).map (·.size) = some 3 := by kernel_rfl
theorem I168 : EInfo Tryz.prog 168 3 24 (.agg #[.int .i64 0, .int .i64 0, .int .i64 0]) := ⟨by kernel_rfl, by kernel_rfl, by unfold ZeroOf; kernel_rfl, rfl, by decide⟩
theorem C41 : IsFn Tryz.prog 41 := ⟨_, Tryz.func41, by decide, rfl⟩
theorem F168_0 : FieldAt Tryz.prog 168 0 0 := ⟨_,_, Tryz.underlying168, rfl, rfl, 0, by kernel_rfl⟩
def zT : Thr := ⟨0, -1, -1⟩
def thrC (t : Thr) : List Value := [.int .i64 t.lv, .int .i64 t.ld, .int .i64 t.px]
theorem pix_in {g : Grid} {pix : List Int} (hp : pixE g pix = 0) {k : Nat} (hk : k < pix.length) : 0 ≤ pix.getD k 0 ∧ pix.getD k 0 ≤ g.wide * g.high - 1 := by
  have h2 : firstE (mayE g pix) pix.length = 0 := by
    unfold pixE at hp
    split at hp
    · omega
    · exact hp
  have h3 := firstE_eq h2 k hk
  unfold mayE at h3
  split at h3
  · omega
  · rename_i q; exact Classical.not_not.1 q
theorem lookL_get {g : Grid} {l : List Cloud} {a b : Int} {i : Nat} (h0 : lookE g l = 0) (hi : i < lookN a b) : (lookL g l a b).getD i [] = atL g l (i * b) := by
  unfold lookL
  rw [if_neg (by omega)]
  unfold lookI
  rw [List.getD_eq_getElem?_getD, List.getElem?_map, List.getElem?_range hi]; rfl
theorem lookL_len {g : Grid} {l : List Cloud} {a b : Int} (h0 : lookE g l = 0) : (lookL g l a b).length = lookN a b := by
  unfold lookL
  rw [if_neg (by omega), lookI_len]
def ThrAt (ls : List (List Int)) (b : Int) (rs : List Reg) (i : Nat) (ys : List Thr) : Prop := ys.length = rs.length ∧ ∀ q, q < rs.length → ys.getD q zT = thrL ls (rs.getD q default).pix b i
theorem getD_rep {n q : Nat} {z : Thr} : (List.replicate n z).getD q z = z := by
  rw [List.getD_eq_getElem?_getD, List.getElem?_replicate]; split <;> rfl
theorem thrAt_zero {ls : List (List Int)} {b : Int} {rs : List Reg} {n : Nat} (hn : n = rs.length) : ThrAt ls b rs 0 (List.replicate n zT) := ⟨by simp [hn], fun q hq => getD_rep⟩
theorem getD_set_eq {ys : List Thr} {m : Nat} {t : Thr} (h : m < ys.length) : (ys.set m t).getD m zT = t := by
  rw [List.getD_eq_getElem?_getD, List.getElem?_set, if_pos rfl, if_pos h]; rfl
theorem getD_set_ne {ys : List Thr} {m q : Nat} {t : Thr} (h : q ≠ m) : (ys.set m t).getD q zT = ys.getD q zT := by
  rw [List.getD_eq_getElem?_getD, List.getD_eq_getElem?_getD, List.getElem?_set, if_neg (Ne.symm h)]
theorem thrAt_eq {ls : List (List Int)} {b : Int} {rs : List Reg} {ys : List Thr} (h : ThrAt ls b rs ls.length ys) : ys = rs.map fun r => thr ls r.pix b := by
  refine List.ext_getElem? fun q => ?_
  by_cases hq : q < rs.length
  · rw [getD_some (d := zT) (by rw [h.1]; exact hq), h.2 q hq, List.getElem?_map, getD_some (d := default) hq]; rfl
  · rw [List.getElem?_eq_none (by rw [h.1]; omega), List.getElem?_eq_none (by rw [List.length_map]; omega)]
theorem thrs_step {ls : List (List Int)} {b : Int} {l : List RG} {x : RG} {m i k : Nat} {zs us : List Thr} {s : List Int} (h1 : ∀ q, q < m → zs.getD q zT = thrL ls ((l.map RG.r).getD q default).pix b (i + 1)) (h2 : ∀ q, m ≤ q → q < l.length → zs.getD q zT = thrL ls ((l.map RG.r).getD q default).pix b i)
    (u1 : us.getD m zT = thrP s ((i : Int) * b) x.r.pix (zs.getD m zT) k) (u2 : ∀ q, q ≠ m → us.getD q zT = zs.getD q zT) (hx : (l.map RG.r).getD m default = x.r) (hs : ls.getD i [] = s) (hm : m < l.length) (hk : k ≤ x.r.pix.length) (hk2 : ¬ (k : Int) < x.r.pix.length) : ∀ q, q < m + 1 → us.getD q zT = thrL ls ((l.map RG.r).getD q default).pix b (i + 1) := fun q hq => by
  by_cases e : q = m
  · subst e
    rw [u1, hx, h2 q (Nat.le_refl _) hm, hx, show k = x.r.pix.length by omega, ← hs]; rfl
  · rw [u2 q e]; exact h1 q (by omega)
theorem threats_c (g : Grid) (l : List RG) (pl : Option Addr) (cl : Nat) (a b d : Int) (m : List CP) (pm : Option Addr) (cm : Nat) (w : World) (hN : l.length ≤ 32) (hl : Regs w pl l) (hr1 : 0 ≤ a) (hr2 : a ≤ 7200) (hr3 : 30 ≤ b) (hr4 : b ≤ 3600) (hgo : gridOk g) (hpx : ∀ i, i < (l.map RG.r).length → pixE g ((l.map RG.r).getD i default).pix = 0) (h0 : lookE g (m.map CP.c) = 0) (hcn : m.length < 1000000000000) (hcl : Clouds w pm m) :
 Calls Tryz.prog 44 #[specV g pl l.length cl a b d, .slice pm m.length cm] w fun e w' => ∃ x : (Option Addr × Nat) × List Thr, x.2 = ((l.map RG.r).map fun r => thr (lookL g (m.map CP.c) a b) r.pix b) ∧ e = .returned (.slice x.1.1 x.2.length x.1.2) ∧ St (bs w) [own 168 3 x.1.1 x.1.2 (x.2.map thrC)] w' := by
 have har := area_bd hgo
 refine enter (vs := [_,_]) (env := [(0,_), (1,_)]) Tryz.func44 rfl rfl rfl rfl ?_
 refine VC.q (VO.h rfl<|HO.box (C := #[_,_,_,_,_,_,_,_,_]) rfl rfl fun b1 => VO.a rfl rfl<|VO.n<|VC.q (VO.a rfl rfl<|VO.n<|VC.seq<|VC.q (VO.a rfl rfl<|VO.n<|VC.block<|VC.loopK (α := Nat × (List Thr) × (Option Addr) × Nat) 0 (fun gx => [(5, .slice gx.2.2.1 gx.2.1.length gx.2.2.2), (6, .int .i64 (gx.1 : Nat))]) [(1,_), (2,_)] (fun gx => [own 168 3 gx.2.2.1 gx.2.2.2 (gx.2.1.map thrC)]) (fun gx => gx.1 ≤ l.length ∧ gx.2.1 = List.replicate gx.1 zT) (fun gx => l.length - gx.1) (0, [], none, 0) (by exact ⟨Nat.zero_le _, rfl⟩) (.c4 rfl rfl rfl rfl .nil) (fun _ h => (h.ownNil 168 3)) ?_)))
 rintro ⟨j, xs, po_, co_⟩ ⟨hj, hxs⟩
 show VC _ _ _ _ _ ([(5, .slice po_ xs.length co_), (6, .int .i64 (j : Nat))] ++ _) ([own 168 3 po_ co_ (xs.map thrC)] ++ _) _ _
 dsimp only at hj hxs
 have hxl : xs.length = j := by rw [hxs]; simp
 refine VC.seq<|VC.q (VO.m rfl rfl<|VO.f (r := 5) F42_1 rfl rfl rfl<|VO.c 1 O39 rfl rfl ⟨_, rfl⟩ rfl<|VO.l (LO.len S39 (.r rfl) rfl) rfl<|VO.t rfl rfl rfl<|VO.n<|VC.cond rfl (fun h17 => ?_) (fun h17 => ?_))
 ·
  refine VC.skip (VE.seqN<|VC.seq<|VC.block<|VC.reg (VO.m rfl rfl<|VO.l (LO.bd (ps := [(_,_), (_,_)]) (vs := [(_,_), (_,_)]) (C := [_,_,_]) B168  ⟨(.r rfl), (.r rfl), trivial⟩ rfl ⟨_, [_], [_,_,_], rfl, rfl, rfl, rfl, ⟨_, [_], [_,_,_], rfl, rfl, rfl, rfl, rfl⟩⟩) rfl<|VO.h rfl<|HO.bs (ps := [(_,_)]) (vs := [(_,_)]) (Z := [_,_,_]) (C := [_,_,_]) S131 Z168 N168 ⟨(.r rfl), trivial⟩ rfl rfl rfl rfl ⟨_, [_,_,_], [_,_,_], rfl, rfl, rfl, rfl, rfl⟩ fun b3 => VO.h rfl<|HO.appT (zT) 1 0 (fun R => [_, R,_]) S131 S131 I168 (.r rfl) (.r rfl) rfl rfl rfl rfl rfl rfl rfl (fun _ => rfl) rfl (by omega) fun p3 c3 => VO.h rfl<|HO.lo (LO.as (.r rfl))<|VO.nil<|VE.inN (VE.seqN<|VC.reg (VO.m rfl rfl<|VO.p rfl rfl (by omega) (by omega) rfl<|VO.a rfl rfl<|VO.nil<|VE.thenN fun a w ha hw => ⟨(j + 1, xs ++ [zT], p3, c3), ⟨by dsimp only; omega, by dsimp only; rw [List.replicate_succ', hxs]⟩, (by dsimp only; omega), ha.sub (.c4 rfl rfl rfl rfl .nil), hw.sel [1,2] rfl⟩))))
 ·
  refine VC.exit (VE.thenX (VE.thenX (VE.inX (VE.seqN<|VC.seq<|VC.seq ?_))))
  have hj0 : j = l.length := by omega
  refine VC.reg (VO.a rfl rfl<|VO.n<|VC.block<|VC.loopK (α := Nat × (List Thr)) 1 (fun gx => [(7, .int .i64 ((gx.1 : Int) * b))]) [(1,_), (2,_), (5,_)] (fun gx => [own 168 3 po_ co_ (gx.2.map thrC)]) (fun gx => gx.1 ≤ lookN a b ∧ ThrAt (lookL g (m.map CP.c) a b) b (l.map RG.r) gx.1 gx.2) (fun gx => lookN a b - gx.1) (0, xs) (by exact ⟨Nat.zero_le _, by rw [hxs]; exact thrAt_zero (by rw [List.length_map]; exact hj0)⟩) (.cons (congrArg (fun z => some (Value.int .i64 z)) (Int.zero_mul b).symm) (.cons rfl (.cons rfl (.cons rfl .nil)))) (fun _ h => h) ?_)
  rintro ⟨i, ys⟩ ⟨hi, hY⟩
  show VC _ _ _ _ _ ([(7, .int .i64 ((i : Int) * b))] ++ _) ([own 168 3 po_ co_ (ys.map thrC)] ++ _) _ _
  dsimp only at hi hY
  have hyl := hY.1
  rw [List.length_map] at hyl
  refine VC.seq<|VC.seq ?_
  have hbd0 := look_bd hr1 hr2 hr3 hr4 hi
  refine VC.reg (VO.m rfl rfl<|VO.f (r := 6) F42_2 rfl rfl rfl<|VO.f (r := 6) F40_0 rfl rfl rfl<|VO.c 1 O3 rfl rfl ⟨_, rfl⟩ rfl<|VO.l (LO.le (.r rfl) (.r rfl)) rfl<|VO.n<|VC.cond rfl (fun h28 => ?_) (fun h28 => ?_))
  ·
   have hi2 := (look_lt hr1 hr3).1 h28
   have hbd := look_bd hr1 hr2 hr3 hr4 hi
   have hae : atE g (m.map CP.c) ((i : Int) * b) = 0 := (atE_lead hbd.1 (by omega)).trans h0
   have hal := atL_len hae
   have hlg := lookL_get (a := a) h0 hi2
   refine VC.skip (VE.seqN<|VC.seq<|VC.block<|VC.q (VO.f (r := 0) F42_0 rfl rfl rfl<|VO.l (LO.lda (vs := [_,_,_,_,_]) A23 (.r rfl) (cells_blk 1 rfl ⟨_, rfl⟩) rfl) rfl<|VO.m rfl rfl<|VO.m rfl rfl<|VO.h rfl<|HO.callx (xs := [_,_,_]) (vs := [_,_,_]) C41 ⟨(.r rfl), (.r rfl), (.r rfl), trivial⟩ (fun w hw => rAt_c g m pm cm ((i : Int) * b) w hcn ⟨hcl.rows.keep w hw, fun x hx => ⟨(hcl.ok x hx).1.keep w hw, (hcl.ok x hx).2.1.keep w hw, (hcl.ok x hx).2.2⟩⟩) fun q _ => VO.h rfl<|HO.lo (LO.mv (.r rfl))<|VO.h rfl<|HO.lo (LO.ex (.r rfl) rfl)<|VO.h rfl<|HO.lo (LO.ex (.r rfl) rfl)<|VO.h rfl<|HO.lo (LO.as (.r rfl))<|VO.h rfl<|HO.lo (LO.as (.r rfl))<|VO.n<|VC.q (VO.a rfl rfl<|VO.n<|VC.block<|VC.perm [1,0,2] rfl<|VC.loopK (α := Nat × (List Thr)) 1 (fun gx => [(10, .int .i64 (gx.1 : Nat))]) [(1,_), (2,_), (5,_), (7,_), (8,_)] (fun gx => [own 168 3 po_ co_ (gx.2.map thrC)]) (fun gx => gx.1 ≤ l.length ∧ gx.2.length = l.length ∧ (∀ q, q < gx.1 → gx.2.getD q zT = thrL (lookL g (m.map CP.c) a b) ((l.map RG.r).getD q default).pix b (i + 1)) ∧ (∀ q, gx.1 ≤ q → q < l.length → gx.2.getD q zT = thrL (lookL g (m.map CP.c) a b) ((l.map RG.r).getD q default).pix b i)) (fun gx => l.length - gx.1) (0, ys) (by exact ⟨Nat.zero_le _, hyl, fun q hq => absurd hq (by omega), fun q _ hq => hY.2 q (by rw [List.length_map]; exact hq)⟩) (.c4 rfl rfl rfl rfl (.cons rfl (.cons rfl .nil))) (fun _ h => h) ?_)))
   rintro ⟨m_, zs⟩ ⟨hm, hzl, hZ1, hZ2⟩
   show VC _ _ _ _ _ ([(10, .int .i64 (m_ : Nat))] ++ _) ([own 168 3 po_ co_ (zs.map thrC)] ++ _) _ _
   dsimp only at hm hzl hZ1 hZ2
   refine VC.seq<|VC.q (VO.m rfl rfl<|VO.f (r := 5) F42_1 rfl rfl rfl<|VO.c 2 O39 rfl rfl ⟨_, rfl⟩ rfl<|VO.l (LO.len S39 (.r rfl) rfl) rfl<|VO.t rfl rfl rfl<|VO.n<|VC.cond rfl (fun h46 => ?_) (fun h46 => ?_))
   ·
    obtain ⟨x, hx⟩ : ∃ x, l[m_]? = some x := ⟨_, List.getElem?_eq_getElem (by omega)⟩
    have hxo := hl.ok x (List.mem_of_getElem? hx)
    have hxd := getD_r hx
    have hpi := hpx m_ (by rw [List.length_map]; omega)
    rw [hxd] at hpi
    refine VC.skip (VE.seqN<|VC.seq<|VC.block<|VC.q (VO.a rfl rfl<|VO.n<|VC.block<|VC.loopK (α := Nat × (List Thr)) 1 (fun gx => [(11, .int .i64 (gx.1 : Nat))]) [(1,_), (2,_), (5,_), (7,_), (8,_), (10,_)] (fun gx => [own 168 3 po_ co_ (gx.2.map thrC)]) (fun gx => gx.1 ≤ x.r.pix.length ∧ gx.2.length = l.length ∧ gx.2.getD m_ zT = thrP (atL g (m.map CP.c) ((i : Int) * b)) ((i : Int) * b) x.r.pix (zs.getD m_ zT) gx.1 ∧ (∀ q, q ≠ m_ → gx.2.getD q zT = zs.getD q zT)) (fun gx => x.r.pix.length - gx.1) (0, zs) (by exact ⟨Nat.zero_le _, hzl, rfl, fun _ _ => rfl⟩) (.c4 rfl rfl rfl rfl (.cons rfl (.cons rfl (.cons rfl .nil)))) (fun _ h => h) ?_))
    rintro ⟨k, us⟩ ⟨hk, hul, hu1, hu2⟩
    show VC _ _ _ _ _ ([(11, .int .i64 (k : Nat))] ++ _) ([own 168 3 po_ co_ (us.map thrC)] ++ _) _ _
    dsimp only at hk hul hu1 hu2
    refine VC.seq<|VC.q (VO.m rfl rfl<|VO.f (r := 5) F42_1 rfl rfl rfl<|VO.c 2 O39 rfl rfl ⟨_, rfl⟩ rfl<|VO.m rfl rfl<|VO.l (LO.ixs S39 N100 hl.sm (.r rfl) (.r rfl) rfl (by omega)) rfl<|VO.f F100_1 rfl rfl rfl<|VO.l (LO.ld O72 (.r rfl) (fun w hw => cells_part (off := 1) ((hl.at hx) w hw) ⟨_, rfl⟩)) rfl<|VO.l (LO.len S72 (.r rfl) rfl) rfl<|VO.t rfl rfl rfl<|VO.n<|VC.cond rfl (fun h57 => ?_) (fun h57 => ?_))
    ·
     have hpk := pix_in hpi (k := k) (by omega)
     refine VC.skip (VE.seqN<|VC.seq<|VC.block<|VC.q (VO.f (r := 5) F42_1 rfl rfl rfl<|VO.c 2 O39 rfl rfl ⟨_, rfl⟩ rfl<|VO.m rfl rfl<|VO.l (LO.ixs S39 N100 hl.sm (.r rfl) (.r rfl) rfl (by omega)) rfl<|VO.f F100_1 rfl rfl rfl<|VO.l (LO.ld O72 (.r rfl) (fun w hw => cells_part (off := 1) ((hl.at hx) w hw) ⟨_, rfl⟩)) rfl<|VO.m rfl rfl<|VO.l (LO.ixs S72 N3 hxo.1.some (.r rfl) (.r rfl) rfl (by omega)) rfl<|VO.l (LO.ld O3 (.r rfl) (fun w hw => cells_part (off := 0) ((hxo.1.at (j := k) (by omega)) w hw) ⟨_, rfl⟩)) rfl<|VO.a rfl rfl<|VO.n<|VC.seq<|VC.draw mixed (LL.m rfl rfl<|LL.m rfl rfl<|LL.l (LO.ixo S72 N3 (fun _ hw => (own_rows hw 1 rfl).some (by simp)) (.r rfl) (.r rfl) (Int.toNat_of_nonneg (by omega)).symm (by omega)) rfl<|LL.l (LO.ld O3 (.r rfl) (fun w hw => cells_part (off := 0) (own_cell hw 1 rfl (getD_some (d := (0 : Int)) (by omega))) ⟨_, rfl⟩)) rfl<|LL.m rfl rfl<|LL.m rfl rfl<|LL.l (LO.ixo S131 N168 (fun _ hw => (own_rows hw 0 rfl).some (by rw [List.length_map]; omega)) (.r rfl) (.r rfl) rfl (by omega)) rfl<|LL.l (LO.fa F168_0 (.r rfl) rfl) rfl<|LL.l (LO.ld O3 (.r rfl) (fun w hw => cells_part (off := 0) (own_cell hw 0 rfl (getD_some (d := zT) (by omega))) ⟨_, rfl⟩)) rfl<|LL.l (LO.gt (.r rfl) (.r rfl)) rfl<|LL.nil) (by kernel_rfl)<|VE.seqN<|VC.cond rfl (fun h78 => ?_) (fun h78 => ?_)))
     ·
      refine VC.reg (VO.m rfl rfl<|VO.m rfl rfl<|VO.m rfl rfl<|VO.m rfl rfl<|VO.l (LO.ixo S72 N3 (fun _ hw => (own_rows hw 1 rfl).some (by simp)) (.r rfl) (.r rfl) (Int.toNat_of_nonneg (by omega)).symm (by omega)) rfl<|VO.l (LO.ld O3 (.r rfl) (fun w hw => cells_part (off := 0) (own_cell hw 1 rfl (getD_some (d := (0 : Int)) (by omega))) ⟨_, rfl⟩)) rfl<|VO.m rfl rfl<|VO.m rfl rfl<|VO.l (LO.bd (ps := [(_,_), (_,_), (_,_)]) (vs := [(_,_), (_,_), (_,_)]) (C := [_,_,_]) B168  ⟨(.r rfl), (.r rfl), (.r rfl), trivial⟩ rfl ⟨_, [_], [_,_,_], rfl, rfl, rfl, rfl, ⟨_, [_], [_,_,_], rfl, rfl, rfl, rfl, ⟨_, [_], [_,_,_], rfl, rfl, rfl, rfl, rfl⟩⟩⟩) rfl<|VO.l (LO.ixo S131 N168 (fun _ hw => (own_rows hw 0 rfl).some (by rw [List.length_map]; omega)) (.r rfl) (.r rfl) rfl (by omega)) rfl<|VO.h0<|HO.sto 0 (fun R => [R,_,_]) (o := 0) (vs := [_,_,_]) N168 (.r rfl) (.r rfl) rfl (by rw [List.getElem?_map, getD_some (d := zT) (by omega)]; rfl) rfl rfl (Nat.le_of_ble_eq_true rfl) rfl (fun _ => rfl)<|VO.nil<|VE.inN (VE.seqN<|VC.reg (VO.m rfl rfl<|VO.p rfl rfl (by omega) (by omega) rfl<|VO.a rfl rfl<|VO.nil<|VE.thenN fun a w ha hw => ⟨(k + 1, us.set m_ (Thr.mk ((atL g (m.map CP.c) ((i : Int) * b)).getD (x.r.pix.getD k 0).toNat 0) ((i : Int) * b) (x.r.pix.getD k 0))), ⟨by dsimp only; omega, by dsimp only; rw [List.length_set]; exact hul, by dsimp only; rw [getD_set_eq (by omega)]; exact thrP_y hu1 rfl h78, fun q hq => by dsimp only; rw [getD_set_ne hq]; exact hu2 q hq⟩, (by dsimp only; omega), ha.sub (.c4 rfl rfl rfl rfl (.cons rfl (.cons rfl (.cons rfl .nil)))), (by first | exact hw | (rw [List.map_set]; exact hw))⟩)))
     ·
      refine VC.skip (VE.inN (VE.seqN<|VC.reg (VO.m rfl rfl<|VO.p rfl rfl (by omega) (by omega) rfl<|VO.a rfl rfl<|VO.nil<|VE.thenN fun a w ha hw => ⟨(k + 1, us), ⟨by dsimp only; omega, hul, thrP_n hu1 rfl h78, hu2⟩, (by dsimp only; omega), ha.sub (.c4 rfl rfl rfl rfl (.cons rfl (.cons rfl (.cons rfl .nil)))), (by first | exact hw | (rw [List.map_set]; exact hw))⟩)))
    ·
     refine VC.exit (VE.thenX (VE.thenX (VE.inX (VE.inN (VE.seqN<|VC.reg (VO.m rfl rfl<|VO.p rfl rfl (by omega) (by omega) rfl<|VO.a rfl rfl<|VO.nil<|VE.thenN fun a w ha hw => ⟨(m_ + 1, us), ⟨by dsimp only; omega, by dsimp only; exact hul, fun q hq => thrs_step hZ1 hZ2 hu1 hu2 hxd hlg (by omega) (by omega) (by omega) q hq, fun q hq hq2 => by rw [hu2 q (by omega)]; exact hZ2 q (by omega) hq2⟩, (by dsimp only; omega), ha.sub (.c4 rfl rfl rfl rfl (.cons rfl (.cons rfl .nil))), hw⟩))))))
   ·
    refine VC.exit (VE.thenX (VE.thenX (VE.inX (VE.inN (VE.seqN<|VC.reg (VO.m rfl rfl<|VO.f (r := 6) F42_2 rfl rfl rfl<|VO.f (r := 7) F40_1 rfl rfl rfl<|VO.c 2 O3 rfl rfl ⟨_, rfl⟩ rfl<|VO.p rfl rfl (by omega) (by omega) rfl<|VO.a rfl rfl<|VO.nil<|VE.thenN fun a w ha hw => ⟨(i + 1, zs), ⟨by dsimp only; omega, ⟨by rw [List.length_map]; exact hzl, fun q hq => hZ1 q (by rw [List.length_map] at hq; omega)⟩⟩, (by dsimp only; omega), ha.sub (.cons (congrArg (fun z => some (Value.int .i64 z)) (by show (i : Int) * b + b = ((i + 1 : Nat) : Int) * b; rw [Int.natCast_succ, Int.add_mul, Int.one_mul])) (.cons rfl (.cons rfl (.cons rfl .nil)))), hw.sel [0,2] rfl⟩))))))
  ·
   have hi3 : i = lookN a b := by have := (look_lt (i := i) hr1 hr3).2; omega
   refine VC.exit (VE.thenX (VE.thenX (VE.inX (VE.seqN<|VC.q (VO.m rfl rfl<|VO.a rfl rfl<|VO.n<|VC.ret (VE.s rfl rfl (fun w hw => ?_)))))))
   exact ⟨((po_, co_), ys), thrAt_eq (by rw [lookL_len h0, ← hi3]; exact hY), by dsimp only; rw [show ys.length = xs.length by rw [hyl, hxl, hj0]]; rfl, hw.sel [0] rfl⟩
theorem F162_0 : FieldAt Tryz.prog 162 0 0 := ⟨_,_, Tryz.underlying162, rfl, rfl, 0, by kernel_rfl⟩
theorem S95 : IsSlice Tryz.prog 95 162 := Tryz.underlying95
theorem N162 : (Tryz.prog.info? 162).map (·.size) = some 2 := by kernel_rfl
theorem A162 : IsAgg Tryz.prog 162 2 := ⟨⟨_, Tryz.underlying162, rfl⟩, by kernel_rfl⟩
theorem C65 : IsFn Tryz.prog 65 := ⟨_, Tryz.func65, by decide, rfl⟩
theorem C84 : IsFn Tryz.prog 84 := ⟨_, Tryz.func84, by decide, rfl⟩
theorem Z162 : ZeroOf Tryz.prog 162 (.agg #[.int .i64 0, .int .i64 0]) := by unfold ZeroOf; kernel_rfl
structure Rch where
  t : Int
  lv : Int
def zRch : Rch := ⟨0,0⟩
def rchC (x : Rch) : List Value := [.int .i64 x.t, .int .i64 x.lv]
def oldR (T H : Int) (x : Rch) : Bool := decide (x.t < T - H)
def ixR (f : Rch → Bool) (l : List Rch) : Int := if l.findIdx f < l.length then (l.findIdx f : Int) else -1
theorem ixR_none {f : Rch → Bool} {l : List Rch} (h : ∀ k, k < l.length → f (l.getD k zRch) = false) : ixR f l = -1 := by
  have : l.findIdx f = l.length := List.findIdx_eq_length.2 fun x hx => by
    obtain ⟨k, hk, e⟩ := List.getElem_of_mem hx
    have := h k hk
    rw [List.getD_eq_getElem?_getD, List.getElem?_eq_getElem hk] at this
    rw [← e]; exact this
  unfold ixR; rw [if_neg (by omega)]
theorem ixR_some {f : Rch → Bool} {l : List Rch} {j : Nat} (hj : j < l.length) (h : ∀ k, k < j → f (l.getD k zRch) = false) (hf : f (l.getD j zRch) = true) : ixR f l = j := by
  have : l.findIdx f = j := (List.findIdx_eq hj).2 ⟨by rw [List.getD_eq_getElem?_getD, List.getElem?_eq_getElem hj] at hf; exact hf, fun k hk => by
    have := h k hk
    rw [List.getD_eq_getElem?_getD, List.getElem?_eq_getElem (by omega)] at this; exact this⟩
  unfold ixR; rw [if_pos (by omega), this]
theorem filter_all {f : Rch → Bool} {l : List Rch} (h : ∀ x, x ∈ l → f x = false) : l.filter (fun x => !f x) = l := List.filter_eq_self.2 fun x hx => by rw [h x hx]; rfl
theorem ixR_spec {f : Rch → Bool} {l : List Rch} (h : ¬ ixR f l = -1) : ∃ i : Nat, ixR f l = i ∧ i < l.length ∧ l.take i = (l.take (i + 1)).filter (fun x => !f x) := by
  unfold ixR at h ⊢
  split at h
  · rename_i q
    rw [if_pos q]
    refine ⟨l.findIdx f, rfl, q, ?_⟩
    have h2 := (List.findIdx_eq q).1 rfl
    have hall : ∀ x, x ∈ l.take (l.findIdx f) → f x = false := fun x hx => by
      obtain ⟨k, hk, e⟩ := List.getElem_of_mem hx
      rw [List.length_take] at hk
      rw [← e, List.getElem_take]
      exact h2.2 k (by omega)
    rw [List.take_add_one, List.getElem?_eq_getElem q, List.filter_append, filter_all hall]
    simp [h2.1]
  · exact absurd rfl h
theorem ixR_self {f : Rch → Bool} {l : List Rch} (h : ixR f l = -1) : l.filter (fun x => !f x) = l := by
  unfold ixR at h
  split at h
  · omega
  · refine filter_all fun x hx => ?_
    have : l.findIdx f = l.length := by have := List.findIdx_le_length (p := f) (xs := l); omega
    exact List.findIdx_eq_length.1 this x hx
def keepR (T H : Int) (l : List Rch) : List Rch := l.filter fun x => !oldR T H x
theorem del_keep {f : Rch → Bool} {l ys : List Rch} {i j : Nat} (hi : i ≤ j) (hj : j < l.length) (hl : ys.length = l.length) (h1 : ys.take i = (l.take j).filter (fun x => !f x)) (h2 : ys.drop j = l.drop j) (hf : ¬ f (ys.getD j zRch) = true) :
    (ys.set i (ys.getD j zRch)).take (i + 1) = (l.take (j + 1)).filter (fun x => !f x) ∧ (ys.set i (ys.getD j zRch)).drop (j + 1) = l.drop (j + 1) := by
  have e : ys.getD j zRch = l.getD j zRch := by
    rw [List.getD_eq_getElem?_getD, List.getD_eq_getElem?_getD]
    have := congrArg (fun z => z[0]?) h2
    simp only [List.getElem?_drop, Nat.add_zero] at this
    rw [this]
  constructor
  · rw [List.take_add_one, List.take_set_of_le (Nat.le_refl _), h1, List.getElem?_set, if_pos rfl, if_pos (by omega), List.take_add_one, List.filter_append, getD_some (l := l) (d := zRch) hj]
    congr 1
    rw [e] at hf ⊢
    generalize l.getD j zRch = v at hf ⊢
    simp [hf]
  · rw [List.drop_set_of_lt (by omega)]
    have := congrArg (fun z => z.drop 1) h2
    simpa [List.drop_drop, Nat.add_comm] using this
theorem del_drop {f : Rch → Bool} {l ys : List Rch} {i j : Nat} (hj : j < l.length) (hl : ys.length = l.length) (h1 : ys.take i = (l.take j).filter (fun x => !f x)) (h2 : ys.drop j = l.drop j) (hf : f (ys.getD j zRch) = true) :
    ys.take i = (l.take (j + 1)).filter (fun x => !f x) ∧ ys.drop (j + 1) = l.drop (j + 1) := by
  have e : ys.getD j zRch = l.getD j zRch := by
    rw [List.getD_eq_getElem?_getD, List.getD_eq_getElem?_getD]
    have := congrArg (fun z => z[0]?) h2
    simp only [List.getElem?_drop, Nat.add_zero] at this
    rw [this]
  constructor
  · rw [List.take_add_one, List.filter_append, getD_some (l := l) (d := zRch) hj, h1]
    rw [e] at hf
    generalize l.getD j zRch = v at hf ⊢
    simp [hf]
  · have := congrArg (fun z => z.drop 1) h2
    simpa [List.drop_drop, Nat.add_comm] using this
theorem del_end {f : Rch → Bool} {l ys : List Rch} {i j : Nat} (hj : j = l.length) (h1 : ys.take i = (l.take j).filter (fun x => !f x)) : ys.take i = l.filter fun x => !f x := by
  subst hj; rwa [List.take_length] at h1
theorem tooOld_c (x : Rch) (T H : Int) (b7 b8 : Nat) (w : World) (h7 : Cells w ⟨b7,0, none⟩ [.int .i64 T]) (h8 : Cells w ⟨b8,0, none⟩ [.int .i64 H]) (hT1 : 0 ≤ T) (hT2 : T ≤ 1000000000000) (hH1 : 0 ≤ H) (hH2 : H ≤ 1000000) :
 Calls Tryz.prog 65 #[.agg (rchC x).toArray, .pointer (some ⟨b7,0, none⟩), .pointer (some ⟨b8,0, none⟩)] w fun e w' => e = .returned (.bool (oldR T H x)) ∧ St (bs w) [] w' := by
 refine enter (vs := [_,_,_]) (env := [(0,_), (1,_), (2,_)]) Tryz.func65 rfl rfl rfl rfl ?_
 refine VC.q (VO.h rfl<|HO.box (C := #[_,_]) rfl rfl fun b1 => VO.a rfl rfl<|VO.n<|VC.q (VO.f (r := 0) F162_0 rfl rfl rfl<|VO.c 0 O3 rfl rfl ⟨_, rfl⟩ rfl<|VO.l (LO.ld O3 (.r rfl) (cells_keep (sub_cells (off := 0) h7 ⟨_, rfl⟩))) rfl<|VO.l (LO.ld O3 (.r rfl) (cells_keep (sub_cells (off := 0) h8 ⟨_, rfl⟩))) rfl<|VO.l (LO.sub (.r rfl) (.r rfl) (wi (by omega) (by omega))) rfl<|VO.t rfl rfl rfl<|VO.a rfl rfl<|VO.n<|VC.ret (VE.s rfl rfl (fun w hw => ?_))))
 exact ⟨rfl, hw.nil⟩
theorem IndexFunc_r (l : List Rch) (p : Option Addr) (c : Nat) (T H : Int) (b7 b8 : Nat) (w : World) (hn : l.length < 1000000000000) (hl : RO 2 rchC w p l) (h7 : Cells w ⟨b7,0, none⟩ [.int .i64 T]) (h8 : Cells w ⟨b8,0, none⟩ [.int .i64 H]) (hT1 : 0 ≤ T) (hT2 : T ≤ 1000000000000) (hH1 : 0 ≤ H) (hH2 : H ≤ 1000000) :
 Calls Tryz.prog 84 #[.slice p l.length c, .func (.func 65) #[] #[.pointer (some ⟨b7,0, none⟩), .pointer (some ⟨b8,0, none⟩)]] w fun e w' => e = .returned (.int .i64 (ixR (oldR T H) l)) ∧ St (bs w) [] w' := by
 refine enter (vs := [_,_]) (env := [(0,_), (1,_)]) Tryz.func84 rfl rfl rfl rfl ?_
 refine VC.q (VO.a rfl rfl<|VO.n<|VC.seq<|VC.q (VO.m rfl rfl<|VO.l (LO.len S95 (.r rfl) rfl) rfl<|VO.m rfl rfl<|VO.n<|VC.block<|VC.loopK (α := Nat) 0 (fun gx => [(8, .int .i64 (gx : Nat))]) [(0,_), (1,_), (7,_)] (fun gx => []) (fun gx => gx ≤ l.length ∧ ∀ k, k < gx → oldR T H (l.getD k zRch) = false) (fun gx => l.length - gx) 0 (by exact ⟨Nat.zero_le _, fun k hk => by omega⟩) (.c4 rfl rfl rfl rfl .nil) (fun _ h => h) ?_))
 rintro j ⟨hj, hz⟩
 refine VC.q (VO.t rfl rfl rfl<|VO.n<|VC.seq<|VC.cond rfl (fun h9 => ?_) (fun h9 => ?_))
 ·
  refine VC.skip (VE.seqN<|VC.seq<|VC.block<|VC.q (VO.m rfl rfl<|VO.a rfl rfl<|VO.n<|VC.q (VO.m rfl rfl<|VO.m rfl rfl<|VO.m rfl rfl<|VO.l (LO.ixs S95 N162 hl.sm (.r rfl) (.r rfl) rfl (by omega)) rfl<|VO.l (LO.lda (vs := [_,_]) A162 (.r rfl) (fun w hw => cells_part (off := 0) ((hl.at zRch (j := j) (by omega)) w hw) ⟨_, rfl⟩) rfl) rfl<|VO.l (LO.callv (first := []) (cap := [_,_]) (xs := [_]) (vs := [_]) (.r rfl) C65 ⟨(.r rfl), trivial⟩ (fun w hw => tooOld_c (l.getD j zRch) T H b7 b8 w (cells_keep h7 w hw) (cells_keep h8 w hw) hT1 hT2 hH1 hH2)) rfl<|VO.n<|VC.cond rfl (fun h16 => ?_) (fun h16 => ?_))))
  ·
   refine VC.q (VO.m rfl rfl<|VO.a rfl rfl<|VO.n<|VC.ret (VE.inR (VE.thenR (VE.thenR (VE.inR (VE.thenR (VE.s rfl rfl (fun w hw => ?_))))))))
   refine ⟨?_, hw.nil⟩
   simp only [resV]
   first | rw [ixR_some (by omega) hz h16] | rw [ixR_none (fun k hk => hz k (by omega))]
  ·
   refine VC.skip (VE.inN (VE.seqN<|VC.reg (VO.p rfl rfl (by omega) (by omega) rfl<|VO.m rfl rfl<|VO.nil<|VE.thenN fun a w ha hw => ⟨j + 1, ⟨by omega, fun k hk => by by_cases q : k = j; (· subst q; simpa using h16); (· exact hz k (by omega))⟩, (by omega), ha.sub (.c4 rfl rfl rfl rfl .nil), hw⟩)))
 ·
  refine VC.exit (VE.thenX (VE.thenX (VE.inX (VE.seqN<|VC.q (VO.a rfl rfl<|VO.n<|VC.ret (VE.s rfl rfl (fun w hw => ?_)))))))
  refine ⟨?_, hw.nil⟩
  simp only [resV]
  first | rw [ixR_some (by omega) hz h16] | rw [ixR_none (fun k hk => hz k (by omega))]
theorem DeleteFunc_c (l : List Rch) (p : Option Addr) (c : Nat) (T H : Int) (b7 b8 : Nat) (w : World) (hn : l.length < 1000000000000) (hh : Has w [own 162 2 p c (l.map rchC), blk b7 (.cells #[.int .i64 T] 3), blk b8 (.cells #[.int .i64 H] 3)]) (hT1 : 0 ≤ T) (hT2 : T ≤ 1000000000000) (hH1 : 0 ≤ H) (hH2 : H ≤ 1000000) :
 Calls Tryz.prog 64 #[.slice p l.length c, .func (.func 65) #[] #[.pointer (some ⟨b7,0, none⟩), .pointer (some ⟨b8,0, none⟩)]] w fun e w' => ∃ x : Unit, True ∧ e = .returned (.slice p (keepR T H l).length c) ∧ St ⟨w, fpL [own 162 2 p c (l.map rchC), blk b7 (.cells #[.int .i64 T] 3), blk b8 (.cells #[.int .i64 H] 3)]⟩ [own 162 2 p c ((keepR T H l).map rchC), blk b7 (.cells #[.int .i64 T] 3), blk b8 (.cells #[.int .i64 H] 3)] w' := by
 have hlc : l.length ≤ c := by have := (St.inv hh 0 _ rfl).1; rwa [List.length_map] at this
 refine enterO (vs := [_,_]) (env := [(0,_), (1,_)]) hh.enter Tryz.func64 rfl rfl rfl rfl ?_
 refine VC.q (VO.a rfl rfl<|VO.n<|VC.q (VO.m rfl rfl<|VO.m rfl rfl<|VO.l (LO.call (xs := [_,_]) (vs := [_,_]) C84 ⟨(.r rfl), (.r rfl), trivial⟩ (fun w hw => IndexFunc_r l p c T H b7 b8 w hn (RO.of_own hw 0 rfl) (cells_at hw 1 rfl ⟨_, rfl⟩) (cells_at hw 2 rfl ⟨_, rfl⟩) hT1 hT2 hH1 hH2)) rfl<|VO.a rfl rfl<|VO.n<|VC.seq<|VC.q (VO.m rfl rfl<|VO.l (LO.eq (.r rfl) (.r rfl)) rfl<|VO.n<|VC.cond rfl (fun h12 => ?_) (fun h12 => ?_))))
 ·
  refine VC.q (VO.m rfl rfl<|VO.a rfl rfl<|VO.n<|VC.ret (VE.thenR (VE.s rfl rfl (fun w hw => ?_))))
  first | exact ⟨(), trivial, by unfold keepR; rw [ixR_self h12]; rfl, by unfold keepR; rw [ixR_self h12]; exact hw.sel [0,1,2] rfl⟩ | (have hE := del_end (f := oldR T H) (by omega) hy1; exact ⟨(), trivial, by unfold keepR; rw [← hE, List.length_take, Nat.min_eq_left (by omega)]; rfl, by unfold keepR; rw [← hE, List.map_take]; exact hw.sel [0,1,2] rfl⟩)
 ·
  obtain ⟨i0, hi0, hil, hit⟩ := ixR_spec h12
  refine VC.skip (VE.seqN<|VC.seq<|VC.q (VO.m rfl rfl<|VO.p rfl rfl (by omega) (by omega) rfl<|VO.a rfl rfl<|VO.n<|VC.block<|VC.loopK (α := Nat × Nat × (List Rch)) 1 (fun gx => [(5, .int .i64 (gx.1 : Nat)), (6, .int .i64 (gx.2.1 : Nat))]) [(0,_), (1,_)] (fun gx => [own 162 2 p c (gx.2.2.map rchC)]) (fun gx => gx.1 < gx.2.1 ∧ gx.2.1 ≤ l.length ∧ gx.2.2.length = l.length ∧ gx.2.2.take gx.1 = (l.take gx.2.1).filter (fun x => !oldR T H x) ∧ gx.2.2.drop gx.2.1 = l.drop gx.2.1) (fun gx => l.length - gx.2.1) (i0, i0 + 1, l) (by exact ⟨Nat.lt_succ_self _, hil, rfl, hit, rfl⟩) (.cons (congrArg (fun z => some (Value.int .i64 z)) hi0) (.cons (congrArg (fun z => some (Value.int .i64 z)) (by rw [hi0]; rfl)) (.cons rfl (.cons rfl .nil)))) (fun _ h => h) ?_))
  rintro ⟨i, j, ys⟩ ⟨hij, hj, hyl, hy1, hy2⟩
  show VC _ _ _ _ _ ([(5, .int .i64 (i : Nat)), (6, .int .i64 (j : Nat))] ++ _) ([own 162 2 p c (ys.map rchC)] ++ _) _ _
  dsimp only at hij hj hyl hy1 hy2
  refine VC.seq<|VC.q (VO.m rfl rfl<|VO.m rfl rfl<|VO.l (LO.len S95 (.r rfl) rfl) rfl<|VO.t rfl rfl rfl<|VO.n<|VC.cond rfl (fun h19 => ?_) (fun h19 => ?_))
  ·
   refine VC.skip (VE.seqN<|VC.seq<|VC.block<|VC.q (VO.m rfl rfl<|VO.m rfl rfl<|VO.l (LO.ixo S95 N162 (fun _ hw => (own_rows hw 0 rfl).some (by rw [List.length_map]; omega)) (.r rfl) (.r rfl) rfl (by omega)) rfl<|VO.l (LO.lda (vs := [_,_]) A162 (.r rfl) (fun w hw => cells_part (off := 0) (own_cell hw 0 rfl (getD_some (d := zRch) (by omega))) ⟨_, rfl⟩) rfl) rfl<|VO.h rfl<|HO.alloc (C := #[_,_]) Z162 rfl fun b4 => VO.h0<|HO.st 0 (vs := [_,_]) (C' := [_,_]) (L' := [_,_,_,_]) N162 rfl rfl rfl rfl rfl rfl rfl rfl<|VO.n<|VC.q (VO.m rfl rfl<|VO.l (LO.lda (vs := [_,_]) A162 (.r rfl) (cells_blk 0 rfl ⟨_, rfl⟩) rfl) rfl<|VO.l (LO.callv (first := []) (cap := [_,_]) (xs := [_]) (vs := [_]) (.r rfl) C65 ⟨(.r rfl), trivial⟩ (fun w hw => tooOld_c (ys.getD j zRch) T H b7 b8 w (cells_at hw 2 rfl ⟨_, rfl⟩) (cells_at hw 3 rfl ⟨_, rfl⟩) hT1 hT2 hH1 hH2)) rfl<|VO.l (LO.not (.r rfl)) rfl<|VO.n<|VC.cond rfl (fun h29 => ?_) (fun h29 => ?_))))
   ·
    refine VC.q (VO.m rfl rfl<|VO.m rfl rfl<|VO.l (LO.lda (vs := [_,_]) A162 (.r rfl) (cells_blk 0 rfl ⟨_, rfl⟩) rfl) rfl<|VO.l (LO.ixo S95 N162 (fun _ hw => (own_rows hw 1 rfl).some (by rw [List.length_map]; omega)) (.r rfl) (.r rfl) rfl (by omega)) rfl<|VO.h0<|HO.sto 1 (fun R => [_, R,_,_]) (o := 0) (vs := [_,_]) N162 (.r rfl) (.r rfl) rfl (by rw [List.getElem?_map, getD_some (d := zRch) (by omega)]; rfl) rfl rfl (Nat.le_of_ble_eq_true rfl) rfl (fun _ => rfl)<|VO.n<|VC.reg (VO.m rfl rfl<|VO.p rfl rfl (by omega) (by omega) rfl<|VO.a rfl rfl<|VO.nil<|VE.inN (VE.seqN<|VC.reg (VO.m rfl rfl<|VO.p rfl rfl (by omega) (by omega) rfl<|VO.a rfl rfl<|VO.nil<|VE.thenN fun a w ha hw => ⟨(i + 1, j + 1, ys.set i (ys.getD j zRch)), (by have q := del_keep (f := oldR T H) (Nat.le_of_lt hij) (by omega) hyl hy1 hy2 h29; exact ⟨by dsimp only; omega, by dsimp only; omega, by dsimp only; rw [List.length_set]; exact hyl, q.1, q.2⟩), (by dsimp only; omega), ha.sub (.c4 rfl rfl rfl rfl .nil), (by first | exact hw.sel [1,2,3] rfl | (rw [List.map_set]; exact hw.sel [1,2,3] rfl) | (rw [List.map_set]; exact hw))⟩))))
   ·
    refine VC.skip (VE.inN (VE.seqN<|VC.reg (VO.m rfl rfl<|VO.p rfl rfl (by omega) (by omega) rfl<|VO.a rfl rfl<|VO.nil<|VE.thenN fun a w ha hw => ⟨(i, j + 1, ys), (by have q := del_drop (f := oldR T H) (by omega) hyl hy1 hy2 (by simpa using h29); exact ⟨by dsimp only; omega, by dsimp only; omega, hyl, q.1, q.2⟩), (by dsimp only; omega), ha.sub (.c4 rfl rfl rfl rfl .nil), (by first | exact hw.sel [1,2,3] rfl | (rw [List.map_set]; exact hw.sel [1,2,3] rfl) | (rw [List.map_set]; exact hw))⟩)))
  ·
   refine VC.exit (VE.thenX (VE.thenX (VE.inX (VE.seqN<|VC.q (VO.m rfl rfl<|VO.m rfl rfl<|VO.l (LO.sl (l := i) S95 N162 (.r rfl) (.r rfl) rfl (by omega)) rfl<|VO.h0<|HO.clr 0 i (fun R => [R,_,_]) S95 Z162 rfl rfl (.r rfl) rfl (by rw [List.length_map]; omega) (by rw [List.length_map]; omega) rfl (fun _ => rfl)<|VO.n<|VC.q (VO.m rfl rfl<|VO.m rfl rfl<|VO.l (LO.slH (k := i) S95 N162 (.r rfl) (.r rfl) rfl (by omega)) rfl<|VO.a rfl rfl<|VO.n<|VC.ret (VE.s rfl rfl (fun w hw => ?_))))))))
   first | exact ⟨(), trivial, by unfold keepR; rw [ixR_self h12]; rfl, by unfold keepR; rw [ixR_self h12]; exact hw.sel [0,1,2] rfl⟩ | (have hE := del_end (f := oldR T H) (by omega) hy1; exact ⟨(), trivial, by unfold keepR; rw [← hE, List.length_take, Nat.min_eq_left (by omega)]; rfl, by unfold keepR; rw [← hE, List.map_take]; exact hw.sel [0,1,2] rfl⟩)
end Go.Proofs.YtdjflomhaljljaaGreat
