/-
  DERIVED: THE SHELF's CONTRACTS AT THIS DUMP, IN PLAIN WORDS (tools/lay-plain.mjs out of 'TryShelf.lean', which tools/lay-shelf.mjs wrote): THE SAME DECLARATIONS UNDER THE SAME NAMES: 'import', 'namespace', 'open', 'def', 'theorem' AND NOTHING ELSE: no command of the shelf's: FOR A HAND-IN. Each laying: the table of numbers ('.._ren') and one theorem, a field a fact of the dump's own or the kernel's comparison; each contract: ONE APPLICATION.
  slices.Sort on a slice of ints that the call owns.
  slices.Repeat at a list of one number.
  The parts of a set of pixels, by the program.
  Areas: plain.
  Areas, by the program.
  Areas and Joined, by the program.
  Gap, by the program.
-/
import Derived.Test.YtgemekpofpoopaaKHIS03
import Derived.Shelf.Small.Bits
import Derived.Shelf.Small.Wraps
import Derived.Shelf.Strconv.Itoa0
import Derived.Shelf.Bits.Mul64
import Derived.Ground.Names2Prog
import Derived.Shelf.Slices.Clone
import Derived.Shelf.Slices.SearchI
import Derived.Shelf.Slices.In.SortNone
import Derived.Ground.SlgnProg
import Derived.Shelf.SlicesE.Clone
import Derived.Ground.SlgmProg
import Derived.Shelf.SortM.Plain
import Derived.Test.YtgemekpofpoopaaProg

set_option linter.unusedSimpArgs false
namespace Go.Proofs
open Go.Shelf
def Try.lays212_ren : Go.Shelf.Ren := ⟨fun | 212 => 106 | 263 => 127 | 264 => 128 | n => n, fun | 46 => 182 | 51 => 212 | 146 => 213 | 53 => 215 | 148 => 216 | n => n, fun | n => n⟩
theorem Try.lays212 : Go.Proofs.Lays.n212 Try.prog Try.lays212_ren := {
  mixed := by kernel_rfl
  f212 := Try.func106.trans (congrArg some (by kernel_rfl))
  f263 := Try.func127.trans (congrArg some (by kernel_rfl))
  f264 := Try.func128.trans (congrArg some (by kernel_rfl))
  t46 := Try.underlying182
  a46 := Try.isAgg182
  z46 := Try.sizeOf182
  v46 := Try.zeroValue182
  t51 := Try.underlying212
  a51 := Try.isAgg212
  z51 := Try.sizeOf212
  v51 := Try.zeroValue212
  t53 := Try.underlying215
  a53 := Try.isAgg215
  z53 := Try.sizeOf215
  v53 := Try.zeroValue215
  t146 := Try.underlying213
  a146 := Try.isAgg213
  z146 := Try.sizeOf213
  v146 := Try.zeroValue213
  t148 := Try.underlying216
  a148 := Try.isAgg216
  z148 := Try.sizeOf216
  v148 := Try.zeroValue216 }
open Go.RowKit Go.Lib in
/-- math/bits.Mul: "Mul returns the full-width product of x and y": on a machine of 64 bits: Mul64's. (LAID: no walk: one application.) -/
theorem Try.bits_Mul (x y : Nat) (hx : x < 18446744073709551616) (hy : y < 18446744073709551616) (w : World) :
    Calls Try.prog 106 #[.int .u64 x, .int .u64 y] w fun e w' => e = .returned (.tuple #[.int .u64 ((x * y / 18446744073709551616 : Nat) : Int), .int .u64 ((x * y % 18446744073709551616 : Nat) : Int)]) ∧ w' = w := Any.bits_Mul Try.lays212 x y hx hy w
def Try.lays189_ren : Go.Shelf.Ren := ⟨fun | 189 => 104 | 125 => 126 | 257 => 125 | 128 => 143 | 129 => 144 | 294 => 134 | 295 => 135 | 296 => 136 | 297 => 137 | 298 => 138 | 299 => 139 | 216 => 140 | 300 => 141 | 301 => 142 | 328 => 147 | 329 => 148 | 330 => 149 | 331 => 150 | 332 => 151 | 215 => 152 | 343 => 153 | n => n, fun | 28 => 40 | 3 => 3 | 46 => 182 | 0 => 0 | 51 => 212 | 53 => 215 | 4 => 4 | 183 => 224 | 182 => 223 | 131 => 167 | 5 => 5 | 9 => 9 | 218 => 233 | 222 => 237 | 228 => 239 | 229 => 240 | n => n, fun | n => n⟩
theorem Try.lays189 : Go.Proofs.Lays.n189 Try.prog Try.lays189_ren := {
  mixed := by kernel_rfl
  f125 := Try.func126.trans (congrArg some (by kernel_rfl))
  f128 := Try.func143.trans (congrArg some (by kernel_rfl))
  f129 := Try.func144.trans (congrArg some (by kernel_rfl))
  f189 := Try.func104.trans (congrArg some (by kernel_rfl))
  f215 := Try.func152.trans (congrArg some (by kernel_rfl))
  f216 := Try.func140.trans (congrArg some (by kernel_rfl))
  f257 := Try.func125.trans (congrArg some (by kernel_rfl))
  f294 := Try.func134.trans (congrArg some (by kernel_rfl))
  f295 := Try.func135.trans (congrArg some (by kernel_rfl))
  f296 := Try.func136.trans (congrArg some (by kernel_rfl))
  f297 := Try.func137.trans (congrArg some (by kernel_rfl))
  f298 := Try.func138.trans (congrArg some (by kernel_rfl))
  f299 := Try.func139.trans (congrArg some (by kernel_rfl))
  f300 := Try.func141.trans (congrArg some (by kernel_rfl))
  f301 := Try.func142.trans (congrArg some (by kernel_rfl))
  f328 := Try.func147.trans (congrArg some (by kernel_rfl))
  f329 := Try.func148.trans (congrArg some (by kernel_rfl))
  f330 := Try.func149.trans (congrArg some (by kernel_rfl))
  f331 := Try.func150.trans (congrArg some (by kernel_rfl))
  f332 := Try.func151.trans (congrArg some (by kernel_rfl))
  f343 := Try.func153.trans (congrArg some (by kernel_rfl))
  t0 := Try.underlying0
  a0 := Try.isAgg0
  z0 := Try.sizeOf0
  v0 := Try.zeroValue0
  t3 := Try.underlying3
  a3 := Try.isAgg3
  z3 := Try.sizeOf3
  v3 := Try.zeroValue3
  t4 := Try.underlying4
  a4 := Try.isAgg4
  z4 := Try.sizeOf4
  v4 := Try.zeroValue4
  t5 := Try.underlying5
  a5 := Try.isAgg5
  z5 := Try.sizeOf5
  v5 := Try.zeroValue5
  t9 := Try.underlying9
  a9 := Try.isAgg9
  z9 := Try.sizeOf9
  v9 := Try.zeroValue9
  t28 := Try.underlying40
  a28 := Try.isAgg40
  z28 := Try.sizeOf40
  v28 := Try.zeroValue40
  t46 := Try.underlying182
  a46 := Try.isAgg182
  z46 := Try.sizeOf182
  v46 := Try.zeroValue182
  t51 := Try.underlying212
  a51 := Try.isAgg212
  z51 := Try.sizeOf212
  v51 := Try.zeroValue212
  t53 := Try.underlying215
  a53 := Try.isAgg215
  z53 := Try.sizeOf215
  v53 := Try.zeroValue215
  t131 := Try.underlying167
  a131 := Try.isAgg167
  z131 := Try.sizeOf167
  v131 := Try.zeroValue167
  t182 := Try.underlying223
  a182 := Try.isAgg223
  z182 := Try.sizeOf223
  v182 := Try.zeroValue223
  t183 := Try.underlying224
  a183 := Try.isAgg224
  z183 := Try.sizeOf224
  v183 := Try.zeroValue224
  t218 := Try.underlying233
  a218 := Try.isAgg233
  z218 := Try.sizeOf233
  v218 := Try.zeroValue233
  t222 := Try.underlying237
  a222 := Try.isAgg237
  z222 := Try.sizeOf237
  v222 := Try.zeroValue237
  t228 := Try.underlying239
  a228 := Try.isAgg239
  z228 := Try.sizeOf239
  v228 := Try.zeroValue239
  t229 := Try.underlying240
  a229 := Try.isAgg240
  z229 := Try.sizeOf240
  v229 := Try.zeroValue240 }
open Go.RowKit Go.Sort in
/-- .. and plain. (LAID: no walk: one application.) -/
theorem Try.slices_Sort_int_none (p : Option Addr) (cap : Nat) (w : World) :
    Calls Try.prog 104 #[.slice p 0 cap] w fun e w' => e = .returned (.tuple #[]) ∧ w' = w := Any.slices_Sort_int_none Try.lays189 p cap w
def Try.laysSlM5_f104_ren : Go.Shelf.Ren := ⟨fun | 5 => 104 | 8 => 126 | 7 => 125 | 19 => 143 | 20 => 144 | 10 => 134 | 11 => 135 | 12 => 136 | 13 => 137 | 14 => 138 | 15 => 139 | 16 => 140 | 17 => 141 | 18 => 142 | 30 => 147 | 31 => 148 | 32 => 149 | 33 => 150 | 34 => 151 | 35 => 152 | 40 => 153 | n => n, fun | 23 => 40 | 25 => 3 | 3 => 3 | 32 => 182 | 22 => 40 | 0 => 0 | 44 => 212 | 46 => 215 | 4 => 4 | 36 => 224 | 35 => 223 | 41 => 167 | 5 => 5 | 9 => 9 | 53 => 233 | 57 => 237 | 63 => 239 | 64 => 240 | n => n, fun | n => n⟩
theorem Try.laysSlM5_f104 : Go.Proofs.SlLaysM.n5 Try.prog Try.laysSlM5_f104_ren := {
  mixed := by kernel_rfl
  f5 := ⟨Try.f104.name, by decide, Try.func104.trans (congrArg some (by kernel_rfl))⟩
  f7 := ⟨Try.f125.name, by decide, Try.func125.trans (congrArg some (by kernel_rfl))⟩
  f8 := Try.func126.trans (congrArg some (by kernel_rfl))
  f10 := ⟨Try.f134.name, by decide, Try.func134.trans (congrArg some (by kernel_rfl))⟩
  f11 := ⟨Try.f135.name, by decide, Try.func135.trans (congrArg some (by kernel_rfl))⟩
  f12 := ⟨Try.f136.name, by decide, Try.func136.trans (congrArg some (by kernel_rfl))⟩
  f13 := ⟨Try.f137.name, by decide, Try.func137.trans (congrArg some (by kernel_rfl))⟩
  f14 := ⟨Try.f138.name, by decide, Try.func138.trans (congrArg some (by kernel_rfl))⟩
  f15 := ⟨Try.f139.name, by decide, Try.func139.trans (congrArg some (by kernel_rfl))⟩
  f16 := ⟨Try.f140.name, by decide, Try.func140.trans (congrArg some (by kernel_rfl))⟩
  f17 := ⟨Try.f141.name, by decide, Try.func141.trans (congrArg some (by kernel_rfl))⟩
  f18 := ⟨Try.f142.name, by decide, Try.func142.trans (congrArg some (by kernel_rfl))⟩
  f19 := Try.func143.trans (congrArg some (by kernel_rfl))
  f20 := Try.func144.trans (congrArg some (by kernel_rfl))
  f30 := ⟨Try.f147.name, by decide, Try.func147.trans (congrArg some (by kernel_rfl))⟩
  f31 := Try.func148.trans (congrArg some (by kernel_rfl))
  f32 := Try.func149.trans (congrArg some (by kernel_rfl))
  f33 := ⟨Try.f150.name, by decide, Try.func150.trans (congrArg some (by kernel_rfl))⟩
  f34 := ⟨Try.f151.name, by decide, Try.func151.trans (congrArg some (by kernel_rfl))⟩
  f35 := ⟨Try.f152.name, by decide, Try.func152.trans (congrArg some (by kernel_rfl))⟩
  f40 := ⟨Try.f153.name, by decide, Try.func153.trans (congrArg some (by kernel_rfl))⟩
  t0 := Try.underlying0
  a0 := Try.isAgg0
  z0 := Try.sizeOf0
  v0 := Try.zeroValue0
  t3 := Try.underlying3
  a3 := Try.isAgg3
  z3 := Try.sizeOf3
  v3 := Try.zeroValue3
  t4 := Try.underlying4
  a4 := Try.isAgg4
  z4 := Try.sizeOf4
  v4 := Try.zeroValue4
  t5 := Try.underlying5
  a5 := Try.isAgg5
  z5 := Try.sizeOf5
  v5 := Try.zeroValue5
  t9 := Try.underlying9
  a9 := Try.isAgg9
  z9 := Try.sizeOf9
  v9 := Try.zeroValue9
  t22 := Try.underlying40
  a22 := Try.isAgg40
  z22 := Try.sizeOf40
  v22 := Try.zeroValue40
  t23 := Try.underlying40
  a23 := Try.isAgg40
  z23 := Try.sizeOf40
  v23 := Try.zeroValue40
  t25 := Try.underlying3
  a25 := Try.isAgg3
  z25 := Try.sizeOf3
  v25 := Try.zeroValue3
  t32 := Try.underlying182
  a32 := Try.isAgg182
  z32 := Try.sizeOf182
  v32 := Try.zeroValue182
  t35 := Try.underlying223
  a35 := Try.isAgg223
  z35 := Try.sizeOf223
  v35 := Try.zeroValue223
  t36 := Try.underlying224
  a36 := Try.isAgg224
  z36 := Try.sizeOf224
  v36 := Try.zeroValue224
  t41 := Try.underlying167
  a41 := Try.isAgg167
  z41 := Try.sizeOf167
  v41 := Try.zeroValue167
  t44 := Try.underlying212
  a44 := Try.isAgg212
  z44 := Try.sizeOf212
  v44 := Try.zeroValue212
  t46 := Try.underlying215
  a46 := Try.isAgg215
  z46 := Try.sizeOf215
  v46 := Try.zeroValue215
  t53 := Try.underlying233
  a53 := Try.isAgg233
  z53 := Try.sizeOf233
  v53 := Try.zeroValue233
  t57 := Try.underlying237
  a57 := Try.isAgg237
  z57 := Try.sizeOf237
  v57 := Try.zeroValue237
  t63 := Try.underlying239
  a63 := Try.isAgg239
  z63 := Try.sizeOf239
  v63 := Try.zeroValue239
  t64 := Try.underlying240
  a64 := Try.isAgg240
  z64 := Try.sizeOf240
  v64 := Try.zeroValue240 }
open Go.Sort Go.RowKit in
theorem Try.slices_Sort_int (blk off cap : Nat) (zs : List Int) (w : World) (hH : Holds (Value.int .i64) w blk off zs.toArray) (hblk : blk < w.heap.size) (hsz : zs.length < 4611686018427387904) :
    Calls Try.prog 104 #[.slice (some ⟨blk, off, none⟩) zs.length cap] w fun e w' =>
      e = .returned (.tuple #[]) ∧ ∃ n os, w' = grow (putRow (Value.int .i64) (Sort.ahead w n) blk off (zs.mergeSort fun x y => decide (x ≤ y)).toArray) os := AnyM.slices_Sort_int Try.laysSlM5_f104 blk off cap zs w hH hblk hsz
end Go.Proofs

namespace Go.SL
set_option linter.unusedVariables false
set_option linter.unusedSimpArgs false
open Go.RowKit Go.Sort
section
variable {P : Program} {β : Bs} {L : List Res}

theorem flat_ints (l : List Int) : (l.map fun n => [Value.int .i64 n]).flatten = l.map (Value.int .i64) := by
  induction l with
  | nil => rfl
  | cons x l ih => simp [ih]

theorem holds_own {w : World} {E cap : Nat} {a : Addr} {l : List Int} (h : (own E 1 (some a) cap (l.map fun n => [.int .i64 n])).inv w) : Holds (Value.int .i64) w a.block 0 l.toArray ∧ a = ⟨a.block, 0, none⟩ := by
  obtain ⟨h1, h2, h3, h4⟩ := h
  obtain ⟨g1, g2, C, spare, g3, g4, g5⟩ := h4 a rfl
  have ea : a = ⟨a.block, 0, none⟩ := by cases a; simp_all
  refine ⟨fun j hj => ?_, ea⟩
  rw [List.size_toArray] at hj
  refine ⟨?_, frozen_of_row w a.block _ C E g3⟩
  rw [flat_ints] at g4
  have : C.toList[0 + j]? = some (.int .i64 l[j]) := by
    rw [g4, Nat.zero_add, List.getElem?_append_left (by simpa using hj), List.getElem?_map, List.getElem?_eq_getElem hj]; rfl
  simp only [World.cell?, g3, Option.isSome_none, Bool.false_eq_true, if_false]
  rw [← Array.getElem?_toList, this]
  congr 2
  rw [getElem!_pos _ _ (by simpa using hj)]
  simp

/-- The row of an owned slice is turned in place; behind it new blocks may lie. -/
theorem own_put {w w' : World} {E cap b n : Nat} {l m : List Int} {os : Array Obj} (h : (own E 1 (some ⟨b, 0, none⟩) cap (l.map fun n => [.int .i64 n])).inv w) (hb : b < w.heap.size) (hm : m.length = l.length)
    (hw : w' = grow (putRow (Value.int .i64) (Sort.ahead w n) b 0 m.toArray) os) : St ⟨w, (own E 1 (some ⟨b, 0, none⟩) cap (l.map fun n => [.int .i64 n])).fp⟩ [own E 1 (some ⟨b, 0, none⟩) cap (m.map fun n => [.int .i64 n])] w' := by
  obtain ⟨h1, h2, h3, h4⟩ := h
  obtain ⟨g1, g2, C, spare, g3, g4, g5⟩ := h4 _ rfl
  rw [flat_ints] at g4
  have hsz : (putRow (Value.int .i64) (Sort.ahead w n) b 0 m.toArray).heap.size = w.heap.size := by rw [size_putRow]; rfl
  have hlen : l.length ≤ C.size := by
    have : C.toList.length = C.size := Array.length_toList
    rw [← this, g4]; simp
  have hnew : w'.heap[b]? = some (.cells (putCells (Value.int .i64) 0 m.toArray C) E (0,0)) := by
    rw [hw, heap_grow_old _ _ (by rw [hsz]; exact hb)]
    have : (Sort.ahead w n).heap = w.heap := rfl
    simp only [putRow, mapBlock, this, Array.getElem?_modify, g3, if_true, Option.map_some, onCells]
  have hC : (putCells (Value.int .i64) 0 m.toArray C).toList = m.map (Value.int .i64) ++ spare := by
    refine List.ext_getElem? fun k => ?_
    have e1 : (putCells (Value.int .i64) 0 m.toArray C).toList[k]? = C.toList[k]?.map fun x => if k < m.length then .int .i64 (m.toArray[k]!) else x := by
      unfold putCells
      simp [Array.getElem?_mapIdx]
    rw [e1, g4]
    by_cases hk : k < m.length
    · rw [List.getElem?_append_left (by simp; omega), List.getElem?_append_left (by simpa using hk), List.getElem?_map, List.getElem?_map, List.getElem?_eq_getElem hk, List.getElem?_eq_getElem (show k < l.length by omega)]
      simp [hk]
    · rw [List.getElem?_append_right (by simp; omega), List.getElem?_append_right (by simpa using hk)]
      simp only [List.length_map, hm]
      rw [hm] at hk
      cases spare[k - l.length]? with
      | none => rfl
      | some v => simp only [Option.map_some]; rw [if_neg hk]
  have hfr : ∀ k, k < w.heap.size → k ≠ b → w'.heap[k]? = w.heap[k]? := by
    intro k hk hne
    rw [hw, heap_grow_old _ _ (by rw [hsz]; exact hk)]
    have : (Sort.ahead w n).heap = w.heap := rfl
    simp only [putRow, mapBlock, this, Array.getElem?_modify]
    rw [if_neg (Ne.symm hne)]
  refine ⟨by rw [hw]; rfl, by rw [hw]; rfl, by rw [hw]; rfl, by rw [hw, size_grow, hsz]; exact Nat.le_add_right _ _, ?_, ?_, ?_, ?_⟩
  · intro k hk hO
    exact hfr k hk (fun e => hO ⟨by simp, e⟩)
  · intro i r hr
    cases i with
    | zero =>
      cases hr
      refine ⟨by simp [hm] at h1 ⊢; exact h1, by intro r hr; obtain ⟨x,_, rfl⟩ := List.mem_map.1 hr; rfl, fun q => (by cases q), fun a q => ?_⟩
      cases q
      refine ⟨rfl, rfl,_, spare, hnew, by rw [flat_ints]; exact hC, ?_⟩
      rw [← g5]; simp [putCells]
    | succ i => simp at hr
  · intro i r hr k hk
    cases i with
    | zero =>
      cases hr
      have e : k = b := hk.2
      subst e
      refine ⟨.inl ⟨by simp, rfl⟩, ?_⟩
      rw [hw, size_grow, hsz]; exact Nat.lt_of_lt_of_le hb (Nat.le_add_right _ _)
    | succ i => simp at hr
  · intro i j r s hij hr hs
    cases i with
    | zero => cases j with | zero => exact absurd rfl hij | succ j => simp at hs
    | succ i => simp at hr

/-- A slice that is owned is cut to fewer elements: the rest is spare. -/
theorem St.ownCut {w : World} {E z cap : Nat} {p : Option Addr} {l m : List (List Value)} (hw : St β L w) (i : Nat) (hi : L[i]? = some (own E z p cap (l ++ m))) : St β (L.set i (own E z p cap l)) w := by
  refine hw.conv i hi (fun k hk => hk) ?_
  obtain ⟨h1, h2, h3, h4⟩ := hw.inv i _ hi
  refine ⟨by simp at h1; omega, fun r hr => h2 r (by simp [hr]), fun q => ⟨by have := (h3 q).1; simp at this; exact this.1, (h3 q).2⟩, fun a ha => ?_⟩
  obtain ⟨g1, g2, C, spare, g3, g4, g5⟩ := h4 a ha
  exact ⟨g1, g2, C, m.flatten ++ spare, g3, by rw [g4]; simp, g5⟩
end
end Go.SL
namespace Go.Proofs.Ytgemekpofpoopaa
open Go.SL Go.Proofs Go.Cast Go.Sort
set_option linter.unusedVariables false
def intC (n : Int) : List Value := [.int .i64 n]
def sortL (l : List Int) : List Int := l.mergeSort fun x y => decide (x ≤ y)
theorem sortL_len (l : List Int) : (sortL l).length = l.length := List.length_mergeSort ..
/-- slices.Sort at a slice of ints that is owned. -/
theorem Sort_h {β : Bs} {L : List Res} {w : World} {p : Option Addr} {cap : Nat} {l : List Int} (i : Nat) (hw : St β L w) (hi : L[i]? = some (own 3 1 p cap (l.map intC))) (hl : l.length < 4611686018427387904) :
    Calls Try.prog 104 #[.slice p l.length cap] w fun e w' => ∃ x : Unit, True ∧ e = .returned (.tuple #[]) ∧ St ⟨w, (own 3 1 p cap (l.map intC)).fp⟩ [own 3 1 p cap ((sortL l).map intC)] w' := by
  have hinv := hw.inv i _ hi
  have hrng := hw.rng i _ hi
  cases p with
  | none =>
    have h0 : l = [] := by simpa using (hinv.2.2.1 rfl).1
    subst h0
    refine (Try.slices_Sort_int_none none cap w).mono fun e w' ⟨h1, h2⟩ => ⟨(), trivial, h1, ?_⟩
    subst h2
    rw [show sortL [] = [] from by simp [sortL]]
    exact St.one hinv (fun k hk => (hrng k hk).2)
  | some a =>
    obtain ⟨hH, ea⟩ := holds_own hinv
    have hb : a.block < w.heap.size := (hrng a.block ⟨by simp, rfl⟩).2
    rw [ea] at hinv ⊢
    refine (Try.slices_Sort_int a.block 0 cap l w hH hb hl).mono fun e w' ⟨h1, n, os, h2⟩ => ⟨(), trivial, h1, ?_⟩
    exact own_put (m := sortL l) hinv hb (sortL_len l) h2
end Go.Proofs.Ytgemekpofpoopaa
namespace Go.Proofs.Ytgemekpofpoopaa
open Go.SL Go.Proofs Go.Cast Go.Cell
set_option linter.unusedVariables false
def sortN (l : List Nat) : List Nat := (sortL (l.map Int.ofNat)).map Int.toNat
theorem sortL_perm (l : List Int) : (sortL l).Perm l := List.mergeSort_perm _ _
theorem sortL_sorted (l : List Int) : (sortL l).Pairwise (· ≤ ·) := by
  have := List.pairwise_mergeSort (le := fun x y : Int => decide (x ≤ y)) (fun a b c h1 h2 => by simp at *; omega) (fun a b => by simp; omega) l
  exact this.imp (fun h => by simpa using h)
theorem sortN_perm (l : List Nat) : (sortN l).Perm l := by
  have h := (sortL_perm (l.map Int.ofNat)).map Int.toNat
  rw [List.map_map] at h
  have e : (Int.toNat ∘ Int.ofNat) = id := by funext x; rfl
  rw [e, List.map_id] at h
  exact h
theorem sortN_sorted (l : List Nat) : (sortN l).Pairwise (· ≤ ·) := by
  unfold sortN
  refine List.pairwise_map.2 ((sortL_sorted _).imp fun h => by omega)
theorem sortN_len (l : List Nat) : (sortN l).length = l.length := (sortN_perm l).length_eq
theorem sortN_cells (l : List Nat) : (sortN l).map nC = (sortL (l.map Int.ofNat)).map intC := by
  unfold sortN
  rw [List.map_map]
  refine List.map_congr_left fun x hx => ?_
  obtain ⟨y,_, rfl⟩ := List.mem_map.1 ((sortL_perm _).mem_iff.1 hx)
  rfl
theorem nat_cells (l : List Nat) : l.map nC = (l.map Int.ofNat).map intC := by rw [List.map_map]; rfl
/-- slices.Sort at a slice of pixels that is owned. -/
theorem SortN_h {β : Bs} {L : List Res} {w : World} {p : Option Addr} {cap : Nat} {l : List Nat} (i : Nat) (hw : St β L w) (hi : L[i]? = some (own 3 1 p cap (l.map nC))) (hl : l.length < 4611686018427387904) :
    Calls Try.prog 104 #[.slice p l.length cap] w fun e w' => ∃ x : Unit, True ∧ e = .returned (.tuple #[]) ∧ St ⟨w, (own 3 1 p cap (l.map nC)).fp⟩ [own 3 1 p cap ((sortN l).map nC)] w' := by
  rw [nat_cells] at hi
  have h := Sort_h (l := l.map Int.ofNat) i hw hi (by rw [List.length_map]; exact hl)
  rw [List.length_map] at h
  rw [sortN_cells, nat_cells]
  exact h
/-- Numbers that ascend strictly, of the same numbers as a list without doubles, are that list, sorted. -/
theorem sortN_eq {l m : List Nat} (hm : m.Pairwise (· < ·)) (hl : l.Nodup) (h : ∀ x, x ∈ l ↔ x ∈ m) : sortN l = m := by
  refine asc_ext ?_ hm fun x => by rw [(sortN_perm l).mem_iff]; exact h x
  have h1 := sortN_sorted l
  have h2 : (sortN l).Nodup := (sortN_perm l).nodup_iff.2 hl
  refine (List.Pairwise.and h1 h2).imp fun ⟨a, b⟩ => Nat.lt_of_le_of_ne a b
end Go.Proofs.Ytgemekpofpoopaa

namespace Go.Proofs.Ytgemekpofpoopaa
open Go.SL Go.Proofs Go.Cast Go.Cell
set_option linter.unusedVariables false

theorem S40 : IsSlice Try.prog 40 3 := Try.underlying40
theorem C106 : IsFn Try.prog 106 := ⟨_, Try.func106, by decide, rfl⟩
theorem N3 : (Try.prog.info? 3).map (·.size) = some 1 := by kernel_rfl
theorem I3 : EInfo Try.prog 3 1 8 (.int .i64 0) := ⟨by kernel_rfl, by kernel_rfl, by unfold ZeroOf; kernel_rfl, rfl, by decide⟩


/-- Cells of which the first ones are filled. -/
def repC (v : Int) (n k : Nat) : List Value := List.replicate k (.int .i64 v) ++ List.replicate (n - k) (.int .i64 0)
theorem rep_len {v : Int} {n k : Nat} (h : k ≤ n) : (repC v n k).length = n := by unfold repC; simp; omega
theorem rep_flat (v : Int) (n : Nat) : (List.replicate n (Value.int .i64 0).cells.toList).flatten = repC v n 0 := by
  unfold repC
  show (List.replicate n [Value.int .i64 0]).flatten = _
  induction n with
  | zero => rfl
  | succ n ih => rw [List.replicate_succ, List.flatten_cons, ih]; simp [List.replicate_succ]
theorem rep_fill {v : Int} {n k m : Nat} (h : k + m ≤ n) : (repC v n k).take k ++ List.replicate m (.int .i64 v) ++ (repC v n k).drop (k + m) = repC v n (k + m) := by
  unfold repC
  rw [List.take_left' (by simp), List.drop_append, List.drop_eq_nil_of_le (by simp), List.nil_append, List.length_replicate, List.drop_replicate, show n - k - (k + m - k) = n - (k + m) by omega, List.replicate_append_replicate]
theorem rep_get {v : Int} {n k j : Nat} {x : Value} (h : j < k) : (repC v n k)[j]? = some (.int .i64 v) := by
  unfold repC
  rw [List.getElem?_append_left (by simpa using h), List.getElem?_replicate, if_pos h]
theorem add_blk {b o j : Nat} : (⟨b, o, none⟩ : Addr).add j = ⟨b, o + j, none⟩ := by unfold Addr.add; split <;> simp_all
theorem blk_cell {β : Bs} {L : List Res} {w : World} {b E i : Nat} {C : List Value} (hw : St β L w) (hi : L[i]? = some (blk b (.cells C.toArray E))) {j : Nat} {x : Value} (h : C[j]? = some x) : w.cell? ⟨b, j, none⟩ = some x := by
  have := hw.inv i _ hi
  have hh : w.heap[b]? = some (.cells C.toArray E (0,0)) := this
  simp only [World.cell?, hh, Option.isSome_none, Bool.false_eq_true, if_false]
  simpa using h
theorem St.blkOwnN {β : Bs} {L : List Res} {w : World} {b n : Nat} {v : Int} (i : Nat) (hw : St β L w) (hi : L[i]? = some (blk b (.cells (repC v n n).toArray 3))) : St β (L.set i (own 3 1 (some ⟨b, 0, none⟩) n ((List.replicate n v).map iC))) w := by
  have key : ∀ m : Nat, (List.replicate m (iC v)).flatten = List.replicate m (Value.int .i64 v) := fun m => by
    induction m with
    | zero => rfl
    | succ m ih => rw [List.replicate_succ, List.flatten_cons, ih]; rfl
  have e : ((List.replicate n v).map iC).flatten = repC v n n := by
    unfold repC
    rw [Nat.sub_self, List.replicate_zero, List.append_nil, List.map_replicate]
    exact key n
  exact hw.conv i hi (fun k hk => hk.2) ⟨by simp, fun r hr => by obtain ⟨x,_, rfl⟩ := List.mem_map.1 hr; rfl, fun q => (by cases q), fun a ha => by
    cases ha
    exact ⟨rfl, rfl, (repC v n n).toArray, [], hw.inv i _ hi, by rw [e]; simp, by rw [List.size_toArray, rep_len (Nat.le_refl _), Nat.mul_one]⟩⟩
theorem one_cs {v : Int} {n : Nat} : (List.replicate (min 1 n) (Value.int .i64 v)).length = Nat.min 1 n := List.length_replicate ..
theorem wu {e : Int} (h1 : 0 ≤ e) (h2 : e ≤ 18446744073709551615) : IntKind.wrap .u64 e = e := IntWalk.u64_in _ ⟨h1, h2⟩

theorem rd_one {w0 w : World} {a0 : Addr} {v : Int} {n : Nat} {L : List Res} (hv : Ints w0 (some a0) [v]) (hw : St (bs w0) L w) {j : Nat} {x : Value} (hx : (List.replicate (min 1 n) (Value.int .i64 v))[j]? = some x) : w.cell? (a0.add j) = some x := by
  obtain ⟨hj, e⟩ := List.getElem?_eq_some_iff.1 hx
  rw [List.length_replicate] at hj
  rw [List.getElem_replicate] at e
  have hj0 : j = 0 := by omega
  subst hj0
  have h1 := hv.at (j := 0) (by simp) w hw 0 (.int .i64 v) rfl
  have ha := hv.some (by simp)
  rw [← e]
  have e2 : (⟨pb (some a0), po (some a0) + 0 * 1, none⟩ : Addr) = a0 := by
    rw [Nat.zero_mul, Nat.add_zero]; exact (Option.some.inj ha).symm
  rw [e2] at h1
  exact h1
theorem rd_rep {β : Bs} {L : List Res} {w : World} {b i n k m : Nat} {v : Int} (hw : St β L w) (hi : L[i]? = some (blk b (.cells (repC v n k).toArray 3))) {j : Nat} {x : Value} (hx : (List.replicate (min k m) (Value.int .i64 v))[j]? = some x) : w.cell? ((⟨b, 0, none⟩ : Addr).add j) = some x := by
  obtain ⟨hj, e⟩ := List.getElem?_eq_some_iff.1 hx
  rw [List.length_replicate] at hj
  rw [List.getElem_replicate] at e
  rw [← e, add_blk, Nat.zero_add]
  exact blk_cell hw hi (rep_get (by omega) (x := x))
theorem mul_c (n : Nat) (w : World) (hn : n ≤ 4096) : Calls Try.prog 106 #[.int .u64 ((1 : Nat) : Int), .int .u64 (n : Int)] w fun e w' => e = .returned (.tuple #[.int .u64 0, .int .u64 (n : Int)]) ∧ St (bs w) [] w' := by
  refine (Try.bits_Mul 1 n (by omega) (by omega) w).mono ?_
  rintro e w' ⟨rfl, rfl⟩
  refine ⟨?_, St.refl _⟩
  rw [Nat.one_mul, Nat.div_eq_of_lt (by omega), Nat.mod_eq_of_lt (by omega)]
  rfl

set_option maxRecDepth 20000 in
theorem Repeat_c (v : Int) (a0 : Addr) (cv n : Nat) (w : World) (hv : Ints w (some a0) [v]) (hn : n ≤ 4096) :
  Calls Try.prog 69 #[.slice (some a0) 1 cv, .int .i64 (n : Int)] w fun e w' => ∃ x : Option Addr × Nat, True ∧ e = .returned (.slice x.1 n x.2) ∧ St (bs w) [own 3 1 x.1 x.2 ((List.replicate n v).map iC)] w' := by
  refine enter (vs := [_,_]) (env := [(0,_), (1,_)]) Try.func69 rfl rfl rfl rfl ?_
  refine VC.seq ?_
  refine VC.reg (VO.l (LO.as (.r rfl)) rfl<|VO.nil ?_)
  refine VE.seqN ?_
  refine VC.seq ?_
  refine VC.seq ?_
  refine VC.reg (VO.l (LO.mv (.r rfl)) rfl<|VO.l (LO.lt (.r rfl) (.r rfl)) rfl<|VO.nil ?_)
  refine VE.seqN ?_
  refine VC.cond rfl (fun h10 => ?_) (fun h10 => ?_)
  ·
    (exfalso; omega)
  ·
    refine VC.skip (VE.seqN ?_)
    refine VC.seq ?_
    refine VC.reg (VO.l (LO.mv (.r rfl)) rfl<|VO.l (LO.len S40 (.r rfl) rfl) rfl<|VO.l (LO.cv ⟨_, Try.underlying3⟩ Try.underlying182 (.r rfl) (wu (by omega) (by omega))) rfl<|VO.l (LO.mv (.r rfl)) rfl<|VO.l (LO.cv ⟨_, Try.underlying3⟩ Try.underlying182 (.r rfl) (wu (by omega) (by omega))) rfl<|VO.l (LO.call (xs := [_,_]) (vs := [_,_]) C106 ⟨(.r rfl), (.r rfl), trivial⟩ (fun w hw => mul_c n w hn)) rfl<|VO.l (LO.mv (.r rfl)) rfl<|VO.l (LO.ex (.r rfl) rfl) rfl<|VO.l (LO.ex (.r rfl) rfl) rfl<|VO.l (LO.as (.r rfl)) rfl<|VO.l (LO.as (.r rfl)) rfl<|VO.nil ?_)
    refine VE.seqN ?_
    refine VC.seq ?_
    refine VC.seq ?_
    refine VC.reg (VO.l (LO.mv (.r rfl)) rfl<|VO.l (LO.gt (.r rfl) (.r rfl)) rfl<|VO.l (LO.mv (.r rfl)) rfl<|VO.lg rfl rfl (GD.f _) (fun hg => LO.mv (.r rfl)) rfl<|VO.lg rfl rfl (GD.f _) (fun hg => LO.gt (.g hg rfl) (.r rfl)) rfl<|VO.l (LO.pkO (.r rfl) (.r rfl) rfl rfl) rfl<|VO.nil ?_)
    refine VE.seqN ?_
    refine VC.cond rfl (fun h26 => ?_) (fun h26 => ?_)
    ·
      (exfalso; omega)
    ·
      refine VC.skip (VE.seqN ?_)
      refine VC.seq ?_
      refine VC.reg (VO.l (LO.mv (.r rfl)) rfl<|VO.l (LO.cv ⟨_, Try.underlying182⟩ Try.underlying3 (.r rfl) (wi (by omega) (by omega))) rfl<|VO.h rfl<|HO.mksB (n := n) S40 I3 (.r rfl) (.r rfl) rfl (by decide) (by omega) (by omega) fun b1 => VO.h rfl<|HO.lo (LO.as (.r rfl))<|VO.nil ?_)
      rw [rep_flat v]
      refine VE.seqN ?_
      refine VC.seq ?_
      refine VC.reg (VO.l (LO.mv (.r rfl)) rfl<|VO.l (LO.mv (.r rfl)) rfl<|VO.h rfl<|HO.cpy 0 (fun R => [R]) (C' := (repC v n (min 1 n)).toArray) (cs := List.replicate (min 1 n) (.int .i64 v)) S40 N3 (.r rfl) (.r rfl) rfl one_cs (fun w2 hw2 j x hx => rd_one hv hw2 hx) (by rw [List.length_replicate, List.size_toArray, rep_len (Nat.zero_le _)]; omega) (fun x hx => by rw [(List.mem_replicate.1 hx).2]; rfl) (by rw [List.toList_toArray, List.length_replicate]; have z := rep_fill (v := v) (n := n) (k := 0) (m := min 1 n) (by omega); rw [Nat.zero_add] at z ⊢; rw [z]) (fun _ => rfl)<|VO.h rfl<|HO.lo (LO.as (.r rfl))<|VO.nil ?_)
      rw [List.length_replicate]
      refine VE.seqN ?_
      refine VC.seq ?_
      refine VC.block ?_
      refine VC.loopK (α := Nat) 1 (fun gx => [(8, .int .i64 (gx : Nat))]) [(7,_)] (fun gx => [blk b1 (.cells (repC v n gx).toArray 3)]) (fun gx => gx ≤ n ∧ (0 < n → 0 < gx)) (fun gx => n - gx) (min 1 n) (by omega) (.cons rfl (.cons rfl .nil)) (fun _ h => h) ?_
      rintro k hk
      refine VC.seq ?_
      refine VC.seq ?_
      refine VC.reg (VO.l (LO.mv (.r rfl)) rfl<|VO.l (LO.mv (.r rfl)) rfl<|VO.l (LO.len S40 (.r rfl) rfl) rfl<|VO.l (LO.lt (.r rfl) (.r rfl)) rfl<|VO.nil ?_)
      refine VE.seqN ?_
      refine VC.cond rfl (fun h37 => ?_) (fun h37 => ?_)
      ·
        refine VC.skip (VE.seqN ?_)
        refine VC.block ?_
        refine VC.drawH [[0], [], [], []] [some 1, some 0, some 0, some 0, some 0, some 0, some 0, none, none, none] mixed (by kernel_rfl) rfl (LX.l (fun _ hJ => LO.mv (.r rfl)) rfl<|LX.l (fun _ hJ => LO.mv (.r rfl)) rfl<|LX.l (fun _ hJ => LO.mv (.r rfl)) rfl<|LX.l (fun _ hJ => LO.eqv (LO.sl (l := k) S40 N3 (.r rfl) (.r rfl) rfl (by omega)) (by rw [slFrom_lt (by omega)])) rfl<|LX.l (fun _ hJ => LO.mv (.r rfl)) rfl<|LX.l (fun _ hJ => LO.mv (.r rfl)) rfl<|LX.l (fun _ hJ => LO.slH (k := k) S40 N3 (.r rfl) (.r rfl) rfl (by omega)) rfl<|LX.s<|LX.s<|LX.s<|LX.nil) (HX.s<|HX.s<|HX.s<|HX.s<|HX.s<|HX.s<|HX.s<|HX.h rfl<|HO.cpy 0 (fun R => [R]) (C' := (repC v n (k + min k (n - k))).toArray) (cs := List.replicate (min k (n - k)) (.int .i64 v)) S40 N3 (.r rfl) (.r rfl) rfl (List.length_replicate ..) (fun w2 hw2 j x hx => rd_rep (i := 0) (n := n) hw2 rfl hx) (by rw [List.length_replicate, List.size_toArray, rep_len hk.1]; omega) (fun x hx => by rw [(List.mem_replicate.1 hx).2]; rfl) (by rw [List.toList_toArray, List.length_replicate, rep_fill (by omega)]) (fun _ => rfl)<|⟨fun _ hw => hw.sel [] rfl, HX.h rfl<|HO.lo (LO.add (.r rfl) (.r rfl) (wi (by rw [List.length_replicate]; omega) (by rw [List.length_replicate]; omega)))<|⟨fun _ hw => hw.sel [] rfl, HX.h rfl<|HO.lo (LO.as (.r rfl))<|⟨fun _ hw => hw.sel [] rfl, HX.nil ?_⟩⟩⟩)
        refine VE.inN ?_
        refine VE.thenN fun a w ha hw => ⟨k + min k (n - k), (by omega), (by omega), ha.sub (.cons (congrArg (fun z => some (Value.int .i64 z)) (by rw [List.length_replicate]; omega)) (.cons rfl .nil)), hw⟩
      ·
        have hkn : k = n := by omega
        subst hkn
        refine VC.exit (VE.thenX (VE.thenX (VE.inX (VE.seqN ?_))))
        refine VC.seq ?_
        refine VC.reg (VO.l (LO.mv (.r rfl)) rfl<|VO.l (LO.as (.r rfl)) rfl<|VO.nil ?_)
        refine VE.seqN ?_
        refine VC.ret (VE.res (vs := [_]) rfl ⟨rfl, trivial⟩ (fun w hw => ?_))
        exact ⟨(some ⟨b1,0, none⟩,_), trivial, rfl, St.blkOwnN 0 hw rfl⟩

end Go.Proofs.Ytgemekpofpoopaa

namespace Go.Proofs.Ytgemekpofpoopaa
open Go.SL Go.Proofs Go.Cast Go.Cell
set_option linter.unusedVariables false

theorem C107 : IsFn Try.prog 107 := ⟨_, Try.func107, by decide, rfl⟩
theorem C71 : IsFn Try.prog 71 := ⟨_, Try.func71, by decide, rfl⟩
theorem Z3 : ZeroOf Try.prog 3 (.int .i64 0) := by unfold ZeroOf; kernel_rfl
theorem C69 : IsFn Try.prog 69 := ⟨_, Try.func69, by decide, rfl⟩
theorem Z40 : ZeroOf Try.prog 40 (.slice none 0 0) := by unfold ZeroOf; kernel_rfl
theorem N40 : (Try.prog.info? 40).map (·.size) = some 1 := by kernel_rfl
theorem O40 : IsOne Try.prog 40 := ⟨⟨_, Try.underlying40, rfl⟩, by kernel_rfl⟩
theorem O139 : IsOne Try.prog 139 := ⟨⟨_, Try.underlying139, rfl⟩, by kernel_rfl⟩
theorem S41 : IsSlice Try.prog 41 40 := Try.underlying41
theorem C104 : IsFn Try.prog 104 := ⟨_, Try.func104, by decide, rfl⟩
theorem I40 : EInfo Try.prog 40 1 24 (.slice none 0 0) := ⟨by kernel_rfl, by kernel_rfl, by unfold ZeroOf; kernel_rfl, rfl, by decide⟩


theorem cells_inv {w : World} {b : Nat} {C : Array Value} {E : TypeId} (h : (blk b (.cells C E)).inv w) : Cells w ⟨b, 0, none⟩ C.toList := by
  intro j v hj
  rw [add_blk, Nat.zero_add]
  have hb : w.heap[b]? = some (.cells C E) := h
  simp only [World.cell?, hb, Option.isSome_none, Bool.false_eq_true, if_false]
  simpa using hj
theorem ints_blk {β : Bs} {L : List Res} {w : World} {b : Nat} {v : Int} (i : Nat) (hw : St β L w) (hi : L[i]? = some (blk b (.cells #[.int .i64 v] 3))) : Ints w (some ⟨b, 0, none⟩) [v] := by
  have h : w.heap[b]? = some (.cells #[.int .i64 v] 3 (0,0)) := hw.inv i _ hi
  refine ⟨fun j r hr => ?_, fun q => (by cases q), fun _ a ha => (by cases ha; rfl)⟩
  cases j with
  | succ j => simp at hr
  | zero =>
    simp at hr; subst hr
    intro k x hk
    cases k with
    | succ k => simp at hk
    | zero =>
      simp at hk; subst hk
      show World.cell? w ((⟨b, 0 + 0 * 1, none⟩ : Addr).add 0) = _
      rw [add_blk]
      simp only [World.cell?, h, Option.isSome_none, Bool.false_eq_true, if_false]
      rfl
theorem St.blkOwn1 {β : Bs} {L : List Res} {w : World} {E b : Nat} {v : List Value} {z : Nat} (i : Nat) (hz : v.length = z) (hi : L[i]? = some (blk b (.cells v.toArray E))) (hw : St β L w) : St β (L.set i (own E z (some ⟨b, 0, none⟩) 1 [v])) w :=
  hw.conv i hi (fun k hk => hk.2) ⟨by simp, fun r hr => by simp at hr; subst hr; exact hz, fun q => (by cases q), fun a ha => by
    cases ha
    exact ⟨rfl, rfl, v.toArray, [], hw.inv i _ hi, by simp, by simp [hz]⟩⟩
structure PtY where
  rs : List (RowA Nat)
  p : Option Addr
  c : Nat
  po : Option Addr
  co : Nat
/-- For each pixel the number of its part, or -1. -/
def ofL (W H : Nat) (S : Nat → Bool) : List Int := (List.range (W * H)).map (idxL (partsL W H S))
theorem ofA_end {W H : Nat} {S : Nat → Bool} : ofA W H S (W * H) [] = ofL W H S := by
  unfold ofA ofL partsL
  refine List.map_congr_left fun q _ => ?_
  unfold ofV; rw [if_neg (by simp)]
theorem rs_len {rs : List (RowA Nat)} {ls : List (List Nat)} (h : rs.map RowA.l = ls) : (rs.length : Int) = (ls.length : Int) := by rw [← h, List.length_map]
theorem parts_len {W H : Nat} {S : Nat → Bool} : ∀ {p}, (partsTo W H S p).length ≤ p
  | 0 => by simp [partsTo]
  | p + 1 => by
    have := parts_len (W := W) (H := H) (S := S) (p := p)
    rw [partsTo]; split
    · rw [List.length_append]; simp; omega
    · omega

set_option maxRecDepth 20000 in
set_option maxHeartbeats 8000000 in
theorem parts_c (g : Grid) (fq : FuncId) (sv : List Value) (S : Nat → Bool) (w : World) (hg : gridOk g) (hfq : IsFn Try.prog fq) (hq : ∀ {L : List Res} (w2 : World) (p : Nat), p < gW g * gH g → St (bs w) L w2 → Calls Try.prog fq (sv ++ [Value.int .i64 (p : Int)] ++ []).toArray w2 fun e w' => e = .returned (.bool (S p)) ∧ St (bs w2) [] w') :
  Calls Try.prog 62 #[gridV g, .func (.func fq) sv.toArray #[]] w fun e w' => ∃ y : PtY, y.rs.map RowA.l = partsL (gW g) (gH g) S ∧ e = .returned (.tuple #[.slice y.p y.rs.length y.c, .slice y.po (gW g * gH g) y.co]) ∧ St (bs w) [own 40 1 y.p y.c (y.rs.map rowC), bagR 3 1 nC y.rs, own 3 1 y.po y.co ((ofL (gW g) (gH g) S).map iC)] w' := by
  have har := area_le hg
  obtain ⟨hW, hH, hW1, hW2, hH1, hH2⟩ := gWi hg
  have hbd := area_n hg
  obtain ⟨W_, hW_⟩ : ∃ n, n = gW g * gH g := ⟨_, rfl⟩
  refine enter (vs := [_,_]) (env := [(0,_), (1,_)]) Try.func62 rfl rfl rfl rfl ?_
  refine VC.seq ?_
  refine VC.dm0 ?_
  refine VC.reg (VO.h rfl<|HO.box (C := #[_,_,_,_,_]) rfl rfl fun b2 => VO.h rfl<|HO.box (C := #[_]) rfl rfl fun b3 => VO.l (LO.as (.r rfl)) rfl<|VO.l (LO.as (.r rfl)) rfl<|VO.nil ?_)
  refine VE.seqN ?_
  refine VC.seq ?_
  refine VC.reg (VO.l (LO.as (.r rfl)) rfl<|VO.nil ?_)
  refine VE.seqN ?_
  refine VC.seq ?_
  refine VC.reg (VO.h rfl<|HO.bs (ps := [(_,_)]) (vs := [(_,_)]) (Z := [_]) (C := [_]) S40 Z3 N3 ⟨(.r rfl), trivial⟩ rfl rfl rfl rfl ⟨_, [_], [_], rfl, rfl, rfl, rfl, rfl⟩ fun b4 => VO.l (LO.fa (r := 3) F23_3 (.r rfl) rfl) rfl<|VO.l (LO.ld O3 (.r rfl) (fun _ hw => cells_at hw 2 rfl ⟨_, rfl⟩)) rfl<|VO.l (LO.fa (r := 4) F23_4 (.r rfl) rfl) rfl<|VO.l (LO.ld O3 (.r rfl) (fun _ hw => cells_at hw 2 rfl ⟨_, rfl⟩)) rfl<|VO.l (LO.eqv (LO.mul (.r rfl) (.r rfl) (wi (by omega) (by omega))) (congrArg (Value.int .i64) hbd.symm)) rfl<|VO.h rfl<|HO.callx (xs := [_,_]) (vs := [_,_]) C69 ⟨(.r rfl), (.r rfl), trivial⟩ (fun w hw => Repeat_c (-1) _ 1 (gW g * gH g) w (ints_blk 0 hw rfl) har) fun x _ => VO.h rfl<|HO.alloc (C := #[_]) Z40 rfl fun b6 => VO.h0<|HO.st 0 (vs := [_]) (C' := [_]) (L' := [_,_,_,_,_,_]) N40 rfl rfl rfl rfl rfl rfl rfl rfl<|VO.nil ?_)
  rw [ofA_zero (S := S)]
  refine VE.seqN ?_
  refine VC.seq ?_
  refine VC.seq ?_
  refine VC.reg (VO.l (LO.ld O40 (.r rfl) (fun _ hw => cells_at hw 0 rfl ⟨_, rfl⟩)) rfl<|VO.l (LO.len S40 (.r rfl) rfl) rfl<|VO.l (LO.mv (.r rfl)) rfl<|VO.nil ?_)
  refine VE.seqN ?_
  refine VC.block ?_
  refine VC.perm [1,5,0,2,3,4] rfl ?_
  refine VC.loopD (α := Nat × (List (RowA Nat)) × (Option Addr) × Nat × (List Nat)) 2 (fun gx => [(6, .slice gx.2.2.1 gx.2.1.length gx.2.2.2.1), (22, .int .i64 (gx.1 : Nat))]) [(2,_), (3,_), (7,_), (21,_)] (fun gx => [own 3 1 x.1 x.2 ((ofA (gW g) (gH g) S gx.1 []).map iC), own 40 1 gx.2.2.1 gx.2.2.2.1 (gx.2.1.map rowC), bagR 3 1 nC gx.2.1, Db gx.2.2.2.2]) (fun gx => gx.2.2.2.2) (fun gx => gx.1 ≤ gW g * gH g ∧ gx.2.1.map RowA.l = partsTo (gW g) (gH g) S gx.1) (fun gx => gW g * gH g - gx.1) (0, [], none, 0, []) rfl (by exact ⟨Nat.zero_le _, rfl⟩) (.cons rfl (.cons rfl (.cons rfl (.cons rfl (.cons rfl (.cons rfl .nil)))))) (fun _ h => (((h.bagRNil 3 1 nC).ownNil 40 1)).sel [2,0,1,3,4,5,6,7] rfl) ?_
  rintro ⟨p, rs, pr, cr, Ds⟩ ⟨hpn, hrs⟩
  show VC _ _ _ _ _ ([(6, .slice pr rs.length cr), (22, .int .i64 (p : Nat))] ++ _) ([own 3 1 x.1 x.2 ((ofA (gW g) (gH g) S p []).map iC), own 40 1 pr cr (rs.map rowC), bagR 3 1 nC rs, Db Ds] ++ _) _ _
  dsimp only at hpn hrs
  have hrl := rs_len hrs
  have hpl := parts_len (W := gW g) (H := gH g) (S := S) (p := p)
  refine VC.seq ?_
  refine VC.reg (VO.l (LO.lt (.r rfl) (.r rfl)) rfl<|VO.nil ?_)
  refine VE.seqN ?_
  refine VC.seq ?_
  refine VC.cond rfl (fun h23 => ?_) (fun h23 => ?_)
  ·
    refine VC.skip (VE.seqN ?_)
    refine VC.seq ?_
    refine VC.block ?_
    refine VC.seq ?_
    refine VC.reg (VO.l (LO.mv (.r rfl)) rfl<|VO.l (LO.as (.r rfl)) rfl<|VO.nil ?_)
    refine VE.seqN ?_
    refine VC.seq ?_
    refine VC.seq ?_
    refine VC.reg (VO.l (LO.ld O40 (.r rfl) (fun _ hw => cells_at hw 4 rfl ⟨_, rfl⟩)) rfl<|VO.l (LO.mv (.r rfl)) rfl<|VO.l (LO.ixo S40 N3 (fun _ hw => (own_rows hw 0 rfl).some (by rw [List.length_map, ofA_len])) (.r rfl) (.r rfl) rfl (by omega)) rfl<|VO.l (LO.ld O3 (.r rfl) (fun w hw => cells_part (off := 0) (own_cell hw 0 rfl (ofA_get (by omega))) ⟨_, rfl⟩)) rfl<|VO.l (LO.ge (.r rfl) (.r rfl)) rfl<|VO.l (LO.mv (.r rfl)) rfl<|VO.lg rfl rfl (GD.f _) (fun hg => LO.ld O139 (.r rfl) (fun _ hw => cells_at hw 6 rfl ⟨_, rfl⟩)) rfl<|VO.lg rfl rfl (GD.f _) (fun hg => LO.mv (.r rfl)) rfl<|VO.lg rfl rfl (GD.f _) (fun hg => LO.callv (first := sv) (cap := []) (xs := [_]) (vs := [_]) (.g hg rfl) hfq ⟨.g hg rfl, trivial⟩ (fun w2 hw2 => hq w2 p (by omega) (hw2))) rfl<|VO.lg rfl rfl (GD.f _) (fun hg => LO.not (.g hg rfl)) rfl<|VO.l (LO.pkO (.r rfl) (.r rfl) rfl rfl) rfl<|VO.nil ?_)
    refine VE.seqN ?_
    refine VC.cond rfl (fun h35 => ?_) (fun h35 => ?_)
    ·
      have hold := of_old (W := gW g) (H := gH g) (S := S) (p := p) (by omega) (by simpa using h35)
      refine VC.exit (VE.thenX (VE.inX (VE.seqN ?_)))
      refine VC.reg (VO.l (LO.add (.r rfl) (.r rfl) (wi (by omega) (by omega))) rfl<|VO.l (LO.mv (.r rfl)) rfl<|VO.nil ?_)
      rw [← ofA_old hold]
      refine VE.thenN fun a w ha hw => ⟨(p + 1, rs, pr, cr, Ds), ⟨by dsimp only; omega, by dsimp only; rw [hold]; exact hrs⟩, (by dsimp only; omega), ha.sub (.cons rfl (.cons rfl (.cons rfl (.cons rfl (.cons rfl (.cons rfl .nil)))))), (by exact selK (L1 := [_,_,_,_,_,_,_,_]) [0,1,2,3,4,5,6,7] rfl rfl _ hw)⟩
    ·
      have h35b : ¬ 0 ≤ ofV (gW g) (gH g) S p [] p ∧ S p = true := by simpa using h35
      have hnew := of_new h35b.1
      refine VC.skip (VE.seqN ?_)
      refine VC.seq ?_
      refine VC.reg (VO.l (LO.mv (.r rfl)) rfl<|VO.l (LO.len S41 (.r rfl) rfl) rfl<|VO.h rfl<|HO.alloc (C := #[_]) Z3 rfl fun b10 => VO.h0<|HO.st 0 (vs := [_]) (C' := [_]) (L' := [_,_,_,_,_,_,_,_,_]) N3 rfl rfl rfl rfl rfl rfl rfl rfl<|VO.nil ?_)
      refine VE.seqN ?_
      refine VC.seq ?_
      refine VC.reg (VO.l (LO.mv (.r rfl)) rfl<|VO.h rfl<|HO.bs (ps := [(_,_)]) (vs := [(_,_)]) (Z := [_]) (C := [_]) S40 Z3 N3 ⟨(.r rfl), trivial⟩ rfl rfl rfl rfl ⟨_, [_], [_], rfl, rfl, rfl, rfl, rfl⟩ fun b12 => VO.h rfl<|HO.alloc (C := #[_]) Z40 rfl fun b13 => VO.h0<|HO.st 0 (vs := [_]) (C' := [_]) (L' := [_,_,_,_,_,_,_,_,_,_,_]) N40 rfl rfl rfl rfl rfl rfl rfl rfl<|VO.nil ?_)
      refine VE.seqN ?_
      refine VC.seq ?_
      refine VC.res (fun w hw => St.blkOwn1 (v := nC p) (z := 1) 1 rfl rfl hw) ?_
      show VC _ _ _ _ _ _ [_, own 3 1 (some ⟨b12,0, none⟩) 1 ([p].map nC),_,_,_,_,_,_,_,_,_] _ _
      refine VC.reg (VO.l (LO.ld O40 (.r rfl) (fun _ hw => cells_at hw 7 rfl ⟨_, rfl⟩)) rfl<|VO.l (LO.mv (.r rfl)) rfl<|VO.l (LO.ld O3 (.r rfl) (fun _ hw => cells_at hw 2 rfl ⟨_, rfl⟩)) rfl<|VO.l (LO.ixo S40 N3 (fun _ hw => (own_rows hw 3 rfl).some (by rw [List.length_map, ofA_len])) (.r rfl) (.r rfl) rfl (by omega)) rfl<|VO.h0<|HO.stm 3 (fun R => [_,_,_, R,_,_,_,_,_,_,_]) (((rs.length : Nat) : Int)) (vs := [_]) N3 (.r rfl) (.r rfl) rfl (by rw [ofA_len]; omega) rfl rfl rfl rfl rfl (fun _ => rfl)<|VO.nil ?_)
      rw [hrl, ofA_set (by omega)]
      refine VE.seqN ?_
      refine VC.seq ?_
      refine VC.seq ?_
      refine VC.reg (VO.l (LO.as (.r rfl)) rfl<|VO.nil ?_)
      refine VE.seqN ?_
      refine VC.block ?_
      refine VC.perm [0,1,3,6,2,4,5,7,8,9,10] rfl ?_
      refine VC.loopD (α := Nat × (List Nat) × (Option Addr) × Nat × (List Nat)) 4 (fun gx => [(11, .int .i64 (gx.1 : Nat))]) [(2,_), (3,_), (6,_), (7,_), (9,_), (10,_), (21,_), (22,_)] (fun gx => [blk b13 (.cells #[.slice gx.2.2.1 gx.2.1.length gx.2.2.2.1] 40), own 3 1 gx.2.2.1 gx.2.2.2.1 (gx.2.1.map nC), own 3 1 x.1 x.2 ((ofA (gW g) (gH g) S p gx.2.1).map iC), Db gx.2.2.2.2]) (fun gx => gx.2.2.2.2) (fun gx => WL (gW g) (gH g) S p gx.2.1 gx.1) (fun gx => gW g * gH g - gx.1) (0, [p], (some ⟨b12,0, none⟩), 1, Ds) rfl (by exact WL.one (by omega) h35b.2) (.cons rfl (.cons rfl (.cons rfl (.cons rfl (.cons rfl (.cons rfl (.cons rfl (.cons rfl (.cons rfl .nil))))))))) (fun _ h => h) ?_
      rintro ⟨i, l, lp, lc, Ds2⟩ hwl
      show VC _ _ _ _ _ ([(11, .int .i64 (i : Nat))] ++ _) ([blk b13 (.cells #[.slice lp l.length lc] 40), own 3 1 lp lc (l.map nC), own 3 1 x.1 x.2 ((ofA (gW g) (gH g) S p l).map iC), Db Ds2] ++ _) _ _
      dsimp only at hwl
      have hwll := hwl.len
      refine VC.seq ?_
      refine VC.seq ?_
      refine VC.reg (VO.l (LO.mv (.r rfl)) rfl<|VO.l (LO.ld O40 (.r rfl) (fun _ hw => cells_at hw 0 rfl ⟨_, rfl⟩)) rfl<|VO.l (LO.len S40 (.r rfl) rfl) rfl<|VO.l (LO.lt (.r rfl) (.r rfl)) rfl<|VO.nil ?_)
      refine VE.seqN ?_
      refine VC.cond rfl (fun h47 => ?_) (fun h47 => ?_)
      ·
        obtain ⟨q, hqi⟩ : ∃ q, l[i]? = some q := ⟨_, List.getElem?_eq_getElem (by omega)⟩
        have hqm := hwl.mem q (List.mem_of_getElem? hqi)
        refine VC.skip (VE.seqN ?_)
        refine VC.seq ?_
        refine VC.block ?_
        refine VC.seq ?_
        refine VC.drawH [[0,1,2,3,4,5,6,7,8,9,10], [0,1,2,3,4,5,6,7,8,9,10]] [some 0, some 0, some 0, some 0, some 0, none] mixed (by kernel_rfl) rfl (LX.l (fun _ hJ => LO.lda (vs := [_,_,_,_,_]) A23 (.r rfl) (fun _ hw => cells_at (hJ _ hw) 10 rfl ⟨_, rfl⟩) rfl) rfl<|LX.l (fun _ hJ => LO.ld O40 (.r rfl) (fun _ hw => cells_at (hJ _ hw) 0 rfl ⟨_, rfl⟩)) rfl<|LX.l (fun _ hJ => LO.mv (.r rfl)) rfl<|LX.l (fun _ hJ => LO.ixo S40 N3 (fun _ hw => (own_rows (hJ _ hw) 1 rfl).some (by rw [List.length_map])) (.r rfl) (.r rfl) rfl (by omega)) rfl<|LX.l (fun _ hJ => LO.ld O3 (.r rfl) (fun w hw => cells_part (off := 0) (own_cell (hJ _ hw) 1 rfl hqi) ⟨_, rfl⟩)) rfl<|LX.s<|LX.nil) (HX.s<|HX.s<|HX.s<|HX.s<|HX.s<|HX.h rfl<|HO.callx (xs := [_,_]) (vs := [_,_]) C71 ⟨(.r rfl), (.r rfl), trivial⟩ (fun w hw => around_c g q w) fun ya _ => ⟨selJ (L1 := [_,_,_,_,_,_,_,_,_,_,_]) [2,3,4,5,6,7,8,9,10,11,12] rfl rfl rfl, HX.nil ?_⟩)
        refine VE.seqN ?_
        refine VC.block ?_
        refine VC.rangeFuncC (α := (List Nat) × (Option Addr) × Nat) [_,_,_,_,_,_,_,_,_] (fun gx => [blk b13 (.cells #[.slice gx.2.1 gx.1.length gx.2.2] 40), own 3 1 gx.2.1 gx.2.2 (gx.1.map nC), own 3 1 x.1 x.2 ((ofA (gW g) (gH g) S p gx.1).map iC)]) (fun n_ gx => WN (gW g) (gH g) S p l q n_ gx.1) (fun _ _ _ => False) (l, lp, lc) (fun vs => [(3, .pointer (some ⟨b3,0, none⟩)), (7, .pointer (some ⟨b6,0, none⟩)), (9, .pointer (some ⟨b10,0, none⟩)), (10, .pointer (some ⟨b13,0, none⟩)), (12, vs.getD 0 (.int .i64 0))]) rfl C107 (around_seq g q ya.1 ya.2 hg hqm.1) (selK [2,3,4,0,1,6,7,8,9,10,11,12,5] rfl rfl) (WN.zero hwl) (fun vs hv => by obtain ⟨n,_, rfl⟩ := List.mem_map.1 hv; rfl) (by decide) (fun n x w _ h => ⟨cells_inv (h 3 _ rfl), cells_inv (h 4 _ rfl)⟩) ?_ ?_ ?_ (fun _ _ _ _ _ h => h.elim)
        ·
          rintro n_ ⟨l2, lp2, lc2⟩ vs l_ T w1 hI hxs hst
          obtain ⟨r, hr, rfl⟩ : ∃ r, (nb (gW g) (gH g) q)[n_]? = some r ∧ nC r = vs := by rw [List.getElem?_map] at hxs; cases hz : (nb (gW g) (gH g) q)[n_]? with | none => (rw [hz] at hxs; cases hxs) | some r => (rw [hz] at hxs; exact ⟨r, rfl, Option.some.inj hxs⟩)
          have hwn : WN (gW g) (gH g) S p l q n_ l2 := hI
          have hrl := nb_lt hqm.1 (List.mem_of_getElem? hr)
          show VC _ _ _ _ _ _ ([blk b13 (.cells #[.slice lp2 l2.length lc2] 40), own 3 1 lp2 lc2 (l2.map nC), own 3 1 x.1 x.2 ((ofA (gW g) (gH g) S p l2).map iC),_,_,_,_,_,_,_,_,_] ++ T) _ _
          refine VC.reg (VO.l (LO.as (.r rfl)) rfl<|VO.nil ?_)
          exact fun a w ha hw => ⟨rfl, ha.sub (.cons rfl (.cons rfl (.cons rfl (.cons rfl (.cons rfl .nil))))), hw⟩
        ·
          rintro n_ ⟨l2, lp2, lc2⟩ vs l_ T w1 hI hxs hst
          obtain ⟨r, hr, rfl⟩ : ∃ r, (nb (gW g) (gH g) q)[n_]? = some r ∧ nC r = vs := by rw [List.getElem?_map] at hxs; cases hz : (nb (gW g) (gH g) q)[n_]? with | none => (rw [hz] at hxs; cases hxs) | some r => (rw [hz] at hxs; exact ⟨r, rfl, Option.some.inj hxs⟩)
          have hwn : WN (gW g) (gH g) S p l q n_ l2 := hI
          have hrl := nb_lt hqm.1 (List.mem_of_getElem? hr)
          show VC _ _ _ _ _ _ ([blk b13 (.cells #[.slice lp2 l2.length lc2] 40), own 3 1 lp2 lc2 (l2.map nC), own 3 1 x.1 x.2 ((ofA (gW g) (gH g) S p l2).map iC),_,_,_,_,_,_,_,_,_] ++ T) _ _
          refine VC.block ?_
          refine VC.seq ?_
          refine VC.reg (VO.l (LO.ld O40 (.r rfl) (fun _ hw => cells_at hw 8 rfl ⟨_, rfl⟩)) rfl<|VO.l (LO.mv (.r rfl)) rfl<|VO.l (LO.ixo S40 N3 (fun _ hw => (own_rows hw 2 rfl).some (by rw [List.length_map, ofA_len])) (.r rfl) (.r rfl) rfl (by omega)) rfl<|VO.l (LO.ld O3 (.r rfl) (fun w hw => cells_part (off := 0) (own_cell hw 2 rfl (ofA_get (by omega))) ⟨_, rfl⟩)) rfl<|VO.l (LO.lt (.r rfl) (.r rfl)) rfl<|VO.l (LO.mv (.r rfl)) rfl<|VO.lg rfl rfl (GD.t _) (fun hg => LO.ld O139 (.r rfl) (fun _ hw => cells_at hw 10 rfl ⟨_, rfl⟩)) rfl<|VO.lg rfl rfl (GD.t _) (fun hg => LO.mv (.r rfl)) rfl<|VO.lg rfl rfl (GD.t _) (fun hg => LO.callv (first := sv) (cap := []) (xs := [_]) (vs := [_]) (.g hg rfl) hfq ⟨.g hg rfl, trivial⟩ (fun w2 hw2 => hq w2 r (hrl) (hst.back hw2))) rfl<|VO.l (LO.pkA (.r rfl) rfl rfl (.r rfl)) rfl<|VO.nil ?_)
          refine VE.seqN ?_
          refine VC.cond rfl (fun h66 => ?_) (fun h66 => ?_)
          ·
            have h66b : ofV (gW g) (gH g) S p l2 r < 0 ∧ S r = true := by simpa using h66
            refine VC.seq ?_
            refine VC.reg (VO.l (LO.ld O40 (.r rfl) (fun _ hw => cells_at hw 8 rfl ⟨_, rfl⟩)) rfl<|VO.l (LO.mv (.r rfl)) rfl<|VO.l (LO.ld O3 (.r rfl) (fun _ hw => cells_at hw 5 rfl ⟨_, rfl⟩)) rfl<|VO.l (LO.ixo S40 N3 (fun _ hw => (own_rows hw 2 rfl).some (by rw [List.length_map, ofA_len])) (.r rfl) (.r rfl) rfl (by omega)) rfl<|VO.h0<|HO.stm 2 (fun R => [_,_, R,_,_,_,_,_,_,_,_,_] ++ T) (((partsTo (gW g) (gH g) S p).length : Int)) (vs := [_]) N3 (.r rfl) (.r rfl) rfl (by rw [ofA_len]; omega) rfl rfl rfl rfl rfl (fun _ => rfl)<|VO.nil ?_)
            rw [ofA_set hrl]
            refine VE.seqN ?_
            refine VC.reg (VO.l (LO.ld O40 (.r rfl) (fun _ hw => cells_at hw 0 rfl ⟨_, rfl⟩)) rfl<|VO.l (LO.mv (.r rfl)) rfl<|VO.h rfl<|HO.bs (ps := [(_,_)]) (vs := [(_,_)]) (Z := [_]) (C := [_]) S40 Z3 N3 ⟨(.r rfl), trivial⟩ rfl rfl rfl rfl ⟨_, [_], [_], rfl, rfl, rfl, rfl, rfl⟩ fun b46 => VO.h rfl<|HO.appT (r) 2 0 (fun R => [_,_, R,_,_,_,_,_,_,_,_,_,_] ++ T) S40 S40 I3 (.r rfl) (.r rfl) rfl rfl rfl rfl rfl rfl rfl (fun _ => rfl) rfl (by have := hwn.len; omega) fun p3 c3 => VO.h0<|HO.st 1 (vs := [_]) (C' := [_]) N40 rfl rfl rfl rfl rfl rfl rfl rfl<|VO.nil ?_)
            refine VE.inN ?_
            exact fun a w ha hw => ⟨(l2 ++ [r], p3, c3), hwn.take hwl hqi hr ((of_neg hwn hwl (by omega) hqi hr hnew h66b.2).1 h66b.1) h66b.2, selKT (L := [_,_,_,_,_,_,_,_,_,_,_,_,_]) (L1 := [_,_,_,_,_,_,_,_,_,_,_,_]) (L2 := []) (X := T) [1,2,3,4,5,6,7,8,9,10,11,12] rfl rfl rfl w hw⟩
          ·
            have h66b : ¬ (ofV (gW g) (gH g) S p l2 r < 0 ∧ S r = true) := by simpa using h66
            refine VC.skip (VE.inN ?_)
            exact fun a w ha hw => ⟨(l2, lp2, lc2), hwn.skip hr (fun hs => Classical.byContradiction fun hx => h66b ⟨(of_neg hwn hwl (by omega) hqi hr hnew hs).2 hx, hs⟩), selKT (L := [_,_,_,_,_,_,_,_,_,_,_,_]) (L1 := [_,_,_,_,_,_,_,_,_,_,_,_]) (L2 := []) (X := T) [0,1,2,3,4,5,6,7,8,9,10,11] rfl rfl rfl w hw⟩
        ·
          rintro D_ ⟨l2, lp2, lc2⟩ hI
          have hwl2 := WN.done (show WN (gW g) (gH g) S p l q _ l2 from hI) hwl hqi (by rw [List.length_map]; exact Nat.le_refl _)
          show VE _ _ _ _ [blk b13 (.cells #[.slice lp2 l2.length lc2] 40), own 3 1 lp2 lc2 (l2.map nC), own 3 1 x.1 x.2 ((ofA (gW g) (gH g) S p l2).map iC),_,_,_,_,_,_,_,_,_,_] _ _
          refine VE.inN (VE.inN (VE.seqN ?_))
          refine VC.reg (VO.l (LO.mv (.r rfl)) rfl<|VO.l (LO.add (.r rfl) (.r rfl) (wi (by omega) (by omega))) rfl<|VO.l (LO.as (.r rfl)) rfl<|VO.nil ?_)
          refine VE.thenN fun a w ha hw => ⟨(i + 1, l2, lp2, lc2, D_ :: Ds2), hwl2, (by dsimp only; omega), ha.sub (.cons rfl (.cons rfl (.cons rfl (.cons rfl (.cons rfl (.cons rfl (.cons rfl (.cons rfl (.cons rfl .nil))))))))), hw.sel [0,1,2,12,5,6,7,8,9,10,11] rfl⟩
      ·
        have hil : i = l.length := by have := hwl.le; omega
        subst hil
        have hfull := hwl.full (by omega) h35b.2
        have hsort : sortN l = compL (gW g) (gH g) S p := sortN_eq (compL_sorted (by omega)) hwl.nod hfull
        have hlen : l.length = (compL (gW g) (gH g) S p).length := by rw [← hsort, sortN_len]
        refine VC.exit (VE.thenX (VE.thenX (VE.inX (VE.seqN ?_))))
        refine VC.seq ?_
        refine VC.reg (VO.l (LO.ld O40 (.r rfl) (fun _ hw => cells_at hw 0 rfl ⟨_, rfl⟩)) rfl<|VO.h rfl<|HO.callh (first := []) (cap := []) (xs := [_]) (vs := [_]) 1 (fun R => [_, R,_,_,_,_,_,_,_,_,_]) rfl (.r rfl) C104 ⟨(.r rfl), trivial⟩ (fun _ => rfl) (fun w hw => SortN_h 1 hw rfl (by omega)) fun _u _ => VO.nil ?_)
        rw [hsort, hlen]
        refine VE.seqN ?_
        refine VC.reg (VO.l (LO.mv (.r rfl)) rfl<|VO.l (LO.ld O40 (.r rfl) (fun _ hw => cells_at hw 0 rfl ⟨_, rfl⟩)) rfl<|VO.h rfl<|HO.bs (ps := [(_,_)]) (vs := [(_,_)]) (Z := [_]) (C := [_]) S41 Z40 N40 ⟨(.r rfl), trivial⟩ rfl rfl rfl rfl ⟨_, [_], [_], rfl, rfl, rfl, rfl, rfl⟩ fun b62 => VO.h rfl<|HO.appT ((⟨lp, lc, compL (gW g) (gH g) S p⟩ : RowA Nat)) 6 0 (fun R => [_,_,_,_,_,_, R,_,_,_,_,_]) S41 S41 I40 (.r rfl) (.r rfl) rfl rfl rfl rfl rfl rfl rfl (fun _ => rfl) rfl (by omega) fun p3 c3 => VO.h rfl<|HO.lo (LO.as (.r rfl))<|VO.nil ?_)
        refine VE.inN (VE.seqN ?_)
        refine VC.reg (VO.l (LO.add (.r rfl) (.r rfl) (wi (by omega) (by omega))) rfl<|VO.l (LO.mv (.r rfl)) rfl<|VO.nil ?_)
        rw [ofA_next (by omega) h35b.2 hnew hfull]
        refine VE.thenN fun a w ha hw => ⟨(p + 1, rs ++ [⟨lp, lc, compL (gW g) (gH g) S p⟩], p3, c3, Ds2), ⟨by dsimp only; omega, by dsimp only; rw [List.map_append, hrs, partsTo_new h35b.2 hnew]; rfl⟩, (by dsimp only; omega), ha.sub (.cons (congrArg (fun n => some (Value.slice p3 n c3)) (by rw [List.length_append]; try rfl)) (.cons rfl (.cons rfl (.cons rfl (.cons rfl (.cons rfl .nil)))))), (by exact selK (L1 := [_,_,_,_,_,_,_,_]) [1,2,0,3,4,5,6,7] rfl rfl _ (St.bagRIn (E := 3) (z := 1) (f := nC) (x := ⟨lp, lc, compL (gW g) (gH g) S p⟩) (selK (L1 := [_,_,_,_,_,_,_,_,_]) [2,7,3,6,4,8,9,10,11] rfl rfl _ hw)))⟩
  ·
    refine VC.exit (VE.thenX (VE.thenX (VE.inX (VE.seqN ?_))))
    refine VC.seq ?_
    refine VC.draw mixed (LL.l (LO.mv (.r rfl)) rfl<|LL.l (LO.ld O40 (.r rfl) (fun _ hw => cells_at hw 4 rfl ⟨_, rfl⟩)) rfl<|LL.l (LO.as (.r rfl)) rfl<|LL.l (LO.as (.r rfl)) rfl<|LL.nil) (by kernel_rfl) ?_
    refine VE.seqN ?_
    refine VC.ret (VE.resDm (vs := [_,_]) (A := [_,_,_,_,_,_,_]) rfl (selK [3,0,1,2,4,5,6,7] rfl rfl) ⟨rfl, rfl, trivial⟩ (fun w hw => ?_))
    have hpn : p = gW g * gH g := by omega
    subst hpn
    rw [ofA_end] at hw
    exact ⟨⟨rs, pr, cr, x.1, x.2⟩, hrs, rfl, selK [1,2,0] rfl rfl _ hw⟩

end Go.Proofs.Ytgemekpofpoopaa

namespace Go.Proofs.Ytgemekpofpoopaa
open Go.SL Go.Proofs Go.Cast Go.Cell
set_option linter.unusedVariables false
/-- The frame and the sum of an area. -/
structure ArS where
  xl : Int
  xh : Int
  yl : Int
  yh : Int
  sl : Int
  sh : Int
  deriving DecidableEq
def iniS (W : Nat) (l : List Nat) : ArS := ⟨(l.headD 0 % W : Nat), (l.headD 0 % W : Nat), (l.headD 0 / W : Nat), (l.headD 0 / W : Nat), 0,0⟩
def stepS (W : Nat) (vs : List Span) (lv : Int) (s : ArS) (p : Nat) : ArS :=
  ⟨min s.xl (p % W : Nat), max s.xh (p % W : Nat), min s.yl (p / W : Nat), max s.yh (p / W : Nat), if inB vs lv p = true then s.sl + (vs.getD p ⟨0,0⟩).lo else s.sl, s.sh + (vs.getD p ⟨0,0⟩).hi⟩
def sumS (W : Nat) (vs : List Span) (lv : Int) (l : List Nat) : ArS := l.foldl (stepS W vs lv) (iniS W l)
def sumTo (W : Nat) (vs : List Span) (lv : Int) (l : List Nat) (k : Nat) : ArS := (l.take k).foldl (stepS W vs lv) (iniS W l)
theorem sumTo_zero {W : Nat} {vs : List Span} {lv : Int} {l : List Nat} : sumTo W vs lv l 0 = iniS W l := rfl
theorem sumTo_all {W : Nat} {vs : List Span} {lv : Int} {l : List Nat} : sumTo W vs lv l l.length = sumS W vs lv l := by unfold sumTo sumS; rw [List.take_length]
theorem sumTo_succ {W : Nat} {vs : List Span} {lv : Int} {l : List Nat} {k p : Nat} (h : l[k]? = some p) : sumTo W vs lv l (k + 1) = stepS W vs lv (sumTo W vs lv l k) p := by
  unfold sumTo
  rw [List.take_add_one, h]
  show List.foldl _ _ (l.take k ++ [p]) = _
  rw [List.foldl_append]
  rfl
/-- Sums are bounded. -/
theorem sumTo_bd {W : Nat} {vs : List Span} {lv : Int} {l : List Nat} (hok : ∀ j, j < vs.length → spanOk 1073741824 (vs.getD j ⟨0,0⟩)) (hl : ∀ p, p ∈ l → p < vs.length) : ∀ k, k ≤ l.length → (0 ≤ (sumTo W vs lv l k).sl ∧ (sumTo W vs lv l k).sl ≤ 1073741824 * k) ∧ (0 ≤ (sumTo W vs lv l k).sh ∧ (sumTo W vs lv l k).sh ≤ 1073741824 * k)
  | 0,_ => by rw [sumTo_zero]; exact ⟨⟨Int.le_refl _, by simp [iniS]⟩, ⟨Int.le_refl _, by simp [iniS]⟩⟩
  | k + 1, hk => by
    have ih := sumTo_bd hok hl (W := W) (lv := lv) k (by omega)
    have hp : l[k]? = some l[k] := List.getElem?_eq_getElem (by omega)
    rw [sumTo_succ hp]
    have hs := hok l[k] (hl _ (List.getElem_mem _))
    unfold spanOk at hs
    unfold stepS
    dsimp only
    constructor
    · split <;> omega
    · omega
/-- An area. -/
structure AreaM where
  px : List Nat
  ks : List (List Nat)
  s : ArS
def areaM (W H : Nat) (vs : List Span) (lv : Int) (l : List Nat) : AreaM := ⟨l, (partsL W H (inB vs lv)).filter (fun k => decide (k.headD 0 ∈ l)), sumS W vs lv l⟩
def areasM (W H : Nat) (vs : List Span) (lv : Int) : List AreaM := (partsL W H (mayB vs lv)).map (areaM W H vs lv)
/-- An area as it lies there. -/
structure AreaR where
  px : RowA Nat
  kp : Option Addr
  kc : Nat
  kr : List (RowA Nat)
  s : ArS
def AreaR.cells (a : AreaR) : List Value := [.slice a.px.p a.px.l.length a.px.c, .slice a.kp a.kr.length a.kc, .int .i64 a.s.xl, .int .i64 a.s.xh, .int .i64 a.s.yl, .int .i64 a.s.yh, .int .i64 a.s.sl, .int .i64 a.s.sh]
def AreaR.m (a : AreaR) : AreaM := ⟨a.px.l, a.kr.map RowA.l, a.s⟩
def AreaR.kR (a : AreaR) : Res := own 40 1 a.kp a.kc (a.kr.map rowC)
def arZ : AreaR := ⟨⟨none, 0, []⟩, none, 0, [], ⟨0,0,0,0,0,0⟩⟩
def areaOf (W : Nat) (vs : List Span) (lv : Int) (r : RowA Nat) : AreaR := ⟨r, none, 0, [], sumS W vs lv r.l⟩
/-- The list of areas of which the first ones are made. -/
def arsTo (W : Nat) (vs : List Span) (lv : Int) (rs : List (RowA Nat)) (i : Nat) : List AreaR := (rs.take i).map (areaOf W vs lv) ++ List.replicate (rs.length - i) arZ
theorem arsTo_zero {W : Nat} {vs : List Span} {lv : Int} {rs : List (RowA Nat)} : List.replicate rs.length arZ = arsTo W vs lv rs 0 := by unfold arsTo; simp
theorem arsTo_len {W : Nat} {vs : List Span} {lv : Int} {rs : List (RowA Nat)} {i : Nat} (h : i ≤ rs.length) : (arsTo W vs lv rs i).length = rs.length := by unfold arsTo; simp; omega
theorem arsTo_set {W : Nat} {vs : List Span} {lv : Int} {rs : List (RowA Nat)} {i : Nat} {r : RowA Nat} (h : rs[i]? = some r) : (arsTo W vs lv rs i).set i (areaOf W vs lv r) = arsTo W vs lv rs (i + 1) := by
  have hi := (List.getElem?_eq_some_iff.1 h).1
  unfold arsTo
  have hl : ((rs.take i).map (areaOf W vs lv)).length = i := by simp; omega
  rw [List.set_append_right _ _ (by omega), hl, Nat.sub_self, show rs.length - i = (rs.length - (i + 1)) + 1 by omega, List.replicate_succ, List.set_cons_zero, List.take_add_one, h, List.map_append, List.append_assoc]
  rfl
theorem arsTo_all {W : Nat} {vs : List Span} {lv : Int} {rs : List (RowA Nat)} : arsTo W vs lv rs rs.length = rs.map (areaOf W vs lv) := by unfold arsTo; simp
/-- What holds while kernels are added. -/
structure KInv (W : Nat) (vs : List Span) (lv : Int) (rs ks : List (RowA Nat)) (j : Nat) (l : List AreaR) : Prop where
  px : l.map AreaR.px = rs
  s : ∀ a, a ∈ l → a.s = sumS W vs lv a.px.l
  kr : ∀ a, a ∈ l → a.kr = (ks.take j).filter fun k => decide (k.l.headD 0 ∈ a.px.l)
theorem KInv.zero {W : Nat} {vs : List Span} {lv : Int} {rs ks : List (RowA Nat)} : KInv W vs lv rs ks 0 (rs.map (areaOf W vs lv)) := by
  refine ⟨by rw [List.map_map]; exact List.map_id _, fun a ha => ?_, fun a ha => ?_⟩
  · obtain ⟨r,_, rfl⟩ := List.mem_map.1 ha; rfl
  · obtain ⟨r,_, rfl⟩ := List.mem_map.1 ha; rfl
theorem KInv.len {W : Nat} {vs : List Span} {lv : Int} {rs ks : List (RowA Nat)} {j : Nat} {l : List AreaR} (h : KInv W vs lv rs ks j l) : l.length = rs.length := by rw [← h.px, List.length_map]
theorem KInv.add {W : Nat} {vs : List Span} {lv : Int} {rs ks : List (RowA Nat)} {j ix : Nat} {l : List AreaR} {k : RowA Nat} {a : AreaR} {p : Option Addr} {c : Nat} (h : KInv W vs lv rs ks j l) (hk : ks[j]? = some k) (ha : l[ix]? = some a) (hin : k.l.headD 0 ∈ a.px.l)
    (hap : (rs.map RowA.l).Pairwise fun a b => ∀ x, x ∈ a → x ∉ b) : KInv W vs lv rs ks (j + 1) (l.set ix { a with kp := p, kc := c, kr := a.kr ++ [k] }) := by
  have hl := (List.getElem?_eq_some_iff.1 ha).1
  have htk : ks.take (j + 1) = ks.take j ++ [k] := by rw [List.take_add_one, hk]; rfl
  have hset : ∀ b, b ∈ l.set ix { a with kp := p, kc := c, kr := a.kr ++ [k] } → b = { a with kp := p, kc := c, kr := a.kr ++ [k] } ∨ ∃ i, i ≠ ix ∧ l[i]? = some b := fun b hb => by
    obtain ⟨i, hi⟩ := List.mem_iff_getElem?.1 hb
    rw [List.getElem?_set] at hi
    by_cases e : ix = i
    · rw [if_pos e, if_pos (by omega)] at hi; exact .inl (Option.some.inj hi).symm
    · rw [if_neg e] at hi; exact .inr ⟨i, fun z => e z.symm, hi⟩
  have pxs : ∀ {i : Nat} {b : AreaR}, l[i]? = some b → (rs.map RowA.l)[i]? = some b.px.l := fun {i b} hb => by rw [← h.px, List.map_map, List.getElem?_map, hb]; rfl
  refine ⟨?_, fun b hb => ?_, fun b hb => ?_⟩
  · rw [List.map_set]
    have e : AreaR.px { a with kp := p, kc := c, kr := a.kr ++ [k] } = a.px := rfl
    rw [e, ← h.px]
    apply List.ext_getElem?
    intro n
    rw [List.getElem?_set]
    split
    · rename_i q; subst q
      rw [if_pos (by rw [List.length_map]; exact hl), List.getElem?_map, ha]; rfl
    · rfl
  · rcases hset b hb with rfl | ⟨i,_, hi⟩
    · exact h.s a (List.mem_of_getElem? ha)
    · exact h.s b (List.mem_of_getElem? hi)
  · rw [htk, List.filter_append]
    rcases hset b hb with rfl | ⟨i, hne, hi⟩
    · show a.kr ++ [k] = _
      rw [List.filter_cons, if_pos (by simpa using hin), List.filter_nil, h.kr a (List.mem_of_getElem? ha)]
    · have hno : k.l.headD 0 ∉ b.px.l := by
        have h1 := pxs ha
        have h2 := pxs hi
        obtain ⟨g1, e1⟩ := List.getElem?_eq_some_iff.1 h1
        obtain ⟨g2, e2⟩ := List.getElem?_eq_some_iff.1 h2
        have h3 := List.pairwise_iff_getElem.1 hap
        intro hx
        rcases Nat.lt_or_gt_of_ne hne with z | z
        · exact h3 i ix g2 g1 z _ (by rw [e2]; exact hx) (by rw [e1]; exact hin)
        · exact h3 ix i g1 g2 z _ (by rw [e1]; exact hin) (by rw [e2]; exact hx)
      rw [List.filter_cons, if_neg (by simpa using hno), List.filter_nil, List.append_nil]
      exact h.kr b (List.mem_of_getElem? hi)
theorem KInv.done {W H : Nat} {vs : List Span} {lv : Int} {rs ks : List (RowA Nat)} {l : List AreaR} (h : KInv W vs lv rs ks ks.length l) (hr : rs.map RowA.l = partsL W H (mayB vs lv)) (hk : ks.map RowA.l = partsL W H (inB vs lv)) : l.map AreaR.m = areasM W H vs lv := by
  unfold areasM
  rw [← hr, ← h.px, List.map_map, List.map_map]
  refine List.map_congr_left fun a ha => ?_
  show AreaR.m a = areaM W H vs lv a.px.l
  unfold AreaR.m areaM
  have h1 := h.kr a ha
  rw [List.take_length] at h1
  have h2 : a.kr.map RowA.l = (partsL W H (inB vs lv)).filter (fun k => decide (k.headD 0 ∈ a.px.l)) := by
    rw [h1, ← hk, List.filter_map]; rfl
  rw [h2, h.s a ha]
/-- A kernel's first pixel lies in an area. -/
theorem kern_ix {W H : Nat} {vs : List Span} {lv : Int} {rs ks : List (RowA Nat)} {j : Nat} {k : RowA Nat} (hok : ∀ j, j < W * H → spanOk 1073741824 (vs.getD j ⟨0,0⟩)) (hr : rs.map RowA.l = partsL W H (mayB vs lv)) (hk : ks.map RowA.l = partsL W H (inB vs lv)) (h : ks[j]? = some k) :
    0 < k.l.length ∧ k.l.getD 0 0 < W * H ∧ k.l.getD 0 0 = k.l.headD 0 ∧ ∃ ix : Nat, (ofL W H (mayB vs lv))[k.l.getD 0 0]? = some (ix : Int) ∧ ix < rs.length ∧ ∀ r, rs[ix]? = some r → k.l.headD 0 ∈ r.l := by
  have h1 : k.l ∈ partsL W H (inB vs lv) := by rw [← hk]; exact List.mem_map_of_mem (List.mem_of_getElem? h)
  obtain ⟨p, hp, hs, e⟩ := mem_partsTo (p := W * H) h1
  have hne : k.l ≠ [] := by rw [e]; exact compL_ne hp
  have hh : k.l.getD 0 0 = k.l.headD 0 := by cases k.l with | nil => rfl | cons a l => rfl
  have hm := headD_mem hne
  obtain ⟨h2, h3,_,_⟩ := parts_cn (Nat.le_refl _) h1 hm
  have hmay : mayB vs lv (k.l.headD 0) = true := by
    have := hok _ h3
    unfold spanOk at this
    unfold inB at h2
    unfold mayB
    simp only [decide_eq_true_eq] at *
    omega
  obtain ⟨l, h4, h5⟩ := parts_all (Nat.le_refl _) h3 hmay
  obtain ⟨ix, hix⟩ := List.mem_iff_getElem?.1 h4
  have hix2 : (partsL W H (mayB vs lv))[ix]? = some l := hix
  have hlt : ix < rs.length := by
    have := (List.getElem?_eq_some_iff.1 hix2).1
    rw [← hr, List.length_map] at this; exact this
  refine ⟨by cases hq : k.l with | nil => exact absurd hq hne | cons a l => simp, by rw [hh]; exact h3, hh, ix, ?_, hlt, fun r hrr => ?_⟩
  · rw [hh]
    unfold ofL
    rw [List.getElem?_map, List.getElem?_range h3]
    have := idx_at (parts_apart (Nat.le_refl _)) hix h5
    exact congrArg some this
  · have : (rs.map RowA.l)[ix]? = some r.l := by rw [List.getElem?_map, hrr]; rfl
    rw [hr, hix2] at this
    cases this
    exact h5
/-- The bytes of a store. -/
theorem ar_set {l : List AreaR} {ix c : Nat} {p : Option Addr} {a : AreaR} {k : RowA Nat} (ha : l[ix]? = some a) : (l.map AreaR.cells).set ix ((AreaR.cells a).take 1 ++ [.slice p (a.kr ++ [k]).length c] ++ (AreaR.cells a).drop (1 + [Value.slice p (a.kr ++ [k]).length c].length)) = (l.set ix { a with kp := p, kc := c, kr := a.kr ++ [k] }).map AreaR.cells := by
  rw [List.map_set]
  rfl
end Go.Proofs.Ytgemekpofpoopaa

namespace Go.Proofs.Ytgemekpofpoopaa
open Go.SL Go.Proofs Go.Cast Go.Cell
set_option linter.unusedVariables false

theorem C64 : IsFn Try.prog 64 := ⟨_, Try.func64, by decide, rfl⟩
theorem C63 : IsFn Try.prog 63 := ⟨_, Try.func63, by decide, rfl⟩
theorem Z23 : ZeroOf Try.prog 23 (.agg #[.int .i64 0, .int .i64 0, .int .i64 0, .int .i64 0, .int .i64 0]) := by unfold ZeroOf; kernel_rfl
theorem N23 : (Try.prog.info? 23).map (·.size) = some 5 := by kernel_rfl
theorem C62 : IsFn Try.prog 62 := ⟨_, Try.func62, by decide, rfl⟩
theorem S29 : IsSlice Try.prog 29 73 := Try.underlying29
theorem I73 : EInfo Try.prog 73 8 96 (.agg #[.slice none 0 0, .slice none 0 0, .int .i64 0, .int .i64 0, .int .i64 0, .int .i64 0, .int .i64 0, .int .i64 0]) := ⟨by kernel_rfl, by kernel_rfl, by unfold ZeroOf; kernel_rfl, rfl, by decide⟩
theorem B73 : Builds Try.prog 73 [(0,1), (1,1), (2,2), (4,2), (6,2)] [.slice none 0 0, .slice none 0 0, .int .i64 0, .int .i64 0, .int .i64 0, .int .i64 0, .int .i64 0, .int .i64 0] := Builds.mk fun _ => by kernel_rfl
theorem Z73 : ZeroOf Try.prog 73 (.agg #[.slice none 0 0, .slice none 0 0, .int .i64 0, .int .i64 0, .int .i64 0, .int .i64 0, .int .i64 0, .int .i64 0]) := by unfold ZeroOf; kernel_rfl
theorem N73 : (Try.prog.info? 73).map (·.size) = some 8 := by kernel_rfl
theorem F73_2 : FieldAt Try.prog 73 2 2 := ⟨_,_, Try.underlying73, rfl, rfl, 1, by kernel_rfl⟩
theorem C101 : IsFn Try.prog 101 := ⟨_, Try.func101, by decide, rfl⟩
theorem F73_3 : FieldAt Try.prog 73 3 4 := ⟨_,_, Try.underlying73, rfl, rfl, 1, by kernel_rfl⟩
theorem F73_4 : FieldAt Try.prog 73 4 6 := ⟨_,_, Try.underlying73, rfl, rfl, 1, by kernel_rfl⟩
theorem A73 : IsAgg Try.prog 73 8 := ⟨⟨_, Try.underlying73, rfl⟩, by kernel_rfl⟩
theorem F73_1 : FieldAt Try.prog 73 1 1 := ⟨_,_, Try.underlying73, rfl, rfl, 0, by kernel_rfl⟩
theorem O41 : IsOne Try.prog 41 := ⟨⟨_, Try.underlying41, rfl⟩, by kernel_rfl⟩
theorem N41 : (Try.prog.info? 41).map (·.size) = some 1 := by kernel_rfl


structure ArY where
  l : List AreaR
  p : Option Addr
  c : Nat
  rs : List (RowA Nat)
  pr : Option Addr
  cr : Nat
  ks : List (RowA Nat)
  pk : Option Addr
  ck : Nat
  po : Option Addr
  co : Nat
  o2 : List Int
  p2 : Option Addr
  c2 : Nat
/-- What areas own. -/
def ArY.R (y : ArY) (of : List Int) : List Res := [own 73 8 y.p y.c (y.l.map AreaR.cells), bagD (y.l.map AreaR.kR), own 40 1 y.pk y.ck (y.ks.map rowC), bagR 3 1 nC y.ks, own 3 1 y.p2 y.c2 (y.o2.map iC), own 40 1 y.pr y.cr (y.rs.map rowC), bagR 3 1 nC y.rs, own 3 1 y.po y.co (of.map iC)]
structure ArP (W H : Nat) (vs : List Span) (lv : Int) (y : ArY) : Prop where
  m : y.l.map AreaR.m = areasM W H vs lv
  px : y.l.map AreaR.px = y.rs
  kr : ∀ a, a ∈ y.l → ∀ k, k ∈ a.kr → k ∈ y.ks
theorem RR.row {α : Type} {z : Nat} {f : α → List Value} {w : World} {p : Option Addr} {rs : List (RowA α)} {i : Nat} {r : RowA α} (h : RR z f w p rs) (hr : rs[i]? = some r) : RO z f w r.p r.l := (h.2 r (List.mem_of_getElem? hr)).2
theorem RR.cell {α : Type} {z : Nat} {f : α → List Value} {w : World} {p : Option Addr} {rs : List (RowA α)} {i : Nat} {r : RowA α} (h : RR z f w p rs) (hr : rs[i]? = some r) : Cells w ⟨pb p, po p + i * 1, none⟩ (rowC r) := h.1.cells i _ (by rw [List.getElem?_map, hr]; rfl)
theorem RO.cel {α : Type} {z : Nat} {f : α → List Value} {w : World} {p : Option Addr} {l : List α} {i : Nat} {r : α} (h : RO z f w p l) (hr : l[i]? = some r) : Cells w ⟨pb p, po p + i * z, none⟩ (f r) := h.cells i _ (by rw [List.getElem?_map, hr]; rfl)

theorem ofL_len {W H : Nat} {S : Nat → Bool} : (ofL W H S).length = W * H := by unfold ofL; simp
theorem map_get {α β : Type} {f : α → β} {l : List α} {i : Nat} {a : α} (h : l[i]? = some a) : (l.map f)[i]? = some (f a) := by rw [List.getElem?_map, h]; rfl
theorem bag_none {β : Bs} {L : List Res} {w : World} {W : Nat} {vs : List Span} {lv : Int} {rs : List (RowA Nat)} (h : St β L w) : St β (bagD ((rs.map (areaOf W vs lv)).map AreaR.kR) :: L) w := by
  have key : ∀ r, r ∈ (rs.map (areaOf W vs lv)).map AreaR.kR → (∀ k, ¬ r.fp k) ∧ r.inv w := fun r hr => by
    obtain ⟨a, ha, rfl⟩ := List.mem_map.1 hr
    obtain ⟨x,_, rfl⟩ := List.mem_map.1 ha
    exact ⟨fun k hk => hk.1 rfl, ⟨by simp [areaOf], fun r hr => by simp [areaOf] at hr, fun _ => ⟨by simp [areaOf], rfl⟩, fun a ha => by cases ha⟩⟩
  refine St.bagD (st_mk h.os h.tape h.output h.size h.fr (fun r hr => ?_) (fun r hr k hk => ?_) ?_)
  · rcases List.mem_append.1 hr with q | q
    · exact (key r q).2
    · exact h.mem q
  · rcases List.mem_append.1 hr with q | q
    · exact absurd hk ((key r q).1 k)
    · exact h.rngM q k hk
  · refine List.pairwise_append.2 ⟨?_, h.pw, fun r hr s hs k hk => absurd hk ((key r hr).1 k)⟩
    have : ∀ r, r ∈ (rs.map (areaOf W vs lv)).map AreaR.kR → ∀ k, ¬ r.fp k := fun r hr => (key r hr).1
    exact List.pairwise_iff_getElem.2 fun i j hi hj _ k hk => absurd hk (this _ (List.getElem_mem hi) k)
theorem divb {g : Grid} (h : gridOk g) {p : Nat} (hp : p < gW g * gH g) : (0 : Int) ≤ ((p / gW g : Nat) : Int) ∧ ((p / gW g : Nat) : Int) ≤ 64 := by
  have h1 := row_lt hp
  have h2 := (gWi h).2.2.2.2.2
  exact ⟨Int.natCast_nonneg _, by have : p / gW g ≤ 64 := by omega
                                  exact_mod_cast this⟩

/-- A part that was found has pixels, all of the grid. -/
theorem part_facts {W H : Nat} {S : Nat → Bool} {rs : List (RowA Nat)} {i : Nat} {r : RowA Nat} (h : rs.map RowA.l = partsL W H S) (hr : rs[i]? = some r) : ∃ p0, r.l[0]? = some p0 ∧ p0 < W * H ∧ (0 < r.l.length ∧ r.l.length ≤ W * H ∧ r.l.headD 0 = p0) ∧ ∀ p, p ∈ r.l → p < W * H := by
  have h1 : r.l ∈ partsL W H S := by rw [← h]; exact List.mem_map_of_mem (List.mem_of_getElem? hr)
  obtain ⟨p, hp, hs, e⟩ := mem_partsTo (p := W * H) h1
  have hne : r.l ≠ [] := by rw [e]; exact compL_ne hp
  have hall : ∀ q, q ∈ r.l → q < W * H := fun q hq => by rw [e] at hq; exact compL_lt hp hq
  have hlen : r.l.length ≤ W * H := by
    have hn : r.l.Nodup := by rw [e]; exact (compL_sorted hp).imp fun h => Nat.ne_of_lt h
    have := length_le_of_subset (m := List.range (W * H)) hn (fun x hx => List.mem_range.2 (hall x hx))
    simpa using this
  cases hq : r.l with
  | nil => exact absurd hq hne
  | cons a l =>
    rw [hq] at hall hlen
    exact ⟨a, rfl, hall a (by simp), ⟨by simp, hlen, rfl⟩, hall⟩

set_option maxRecDepth 20000 in
set_option maxHeartbeats 8000000 in
theorem areas_c (g : Grid) (vs : List Span) (pv : Option Addr) (cv : Nat) (lv : Int) (w : World) (hg : gridOk g) (hlen : (vs.length : Int) = g.wide * g.high) (hok : ∀ j, j < vs.length → spanOk 1073741824 (vs.getD j ⟨0,0⟩)) (hv : Spans w pv vs) :
  Calls Try.prog 58 #[sheetV g pv vs.length cv lv] w fun e w' => ∃ y : ArY, ArP (gW g) (gH g) vs lv y ∧ e = .returned (.tuple #[.slice y.p y.l.length y.c, .slice y.po (gW g * gH g) y.co]) ∧ St (bs w) (y.R (ofL (gW g) (gH g) (mayB vs lv))) w' := by
  have har := area_le hg
  obtain ⟨hW, hH, hW1, hW2, hH1, hH2⟩ := gWi hg
  have hvl : vs.length = gW g * gH g := len_n hg hlen
  refine enter (vs := [_]) (env := [(0,_)]) Try.func58 rfl rfl rfl rfl ?_
  refine VC.seq ?_
  refine VC.reg (VO.h rfl<|HO.box (C := #[_,_,_,_,_,_,_]) rfl rfl fun b1 => VO.l (LO.as (.r rfl)) rfl<|VO.l (LO.as (.r rfl)) rfl<|VO.nil ?_)
  refine VE.seqN ?_
  refine VC.seq ?_
  refine VC.reg (VO.l (LO.fa (r := 0) F128_0 (.r rfl) rfl) rfl<|VO.l (LO.fa (r := 0) F26_0 (.r rfl) rfl) rfl<|VO.l (LO.lda (vs := [_,_,_,_,_]) A23 (.r rfl) (fun _ hw => cells_at hw 0 rfl ⟨_, rfl⟩) rfl) rfl<|VO.h rfl<|HO.alloc (C := #[_,_,_,_,_]) Z23 rfl fun b2 => VO.h0<|HO.st 0 (vs := [_,_,_,_,_]) (C' := [_,_,_,_,_]) (L' := [_,_]) N23 rfl rfl rfl rfl rfl rfl rfl rfl<|VO.nil ?_)
  refine VE.seqN ?_
  refine VC.seq ?_
  refine VC.reg (VO.l (LO.lda (vs := [_,_,_,_,_]) A23 (.r rfl) (fun _ hw => cells_at hw 0 rfl ⟨_, rfl⟩) rfl) rfl<|VO.l (LO.lda (vs := [_,_,_,_,_,_,_]) A128 (.r rfl) (fun _ hw => cells_at hw 1 rfl ⟨_, rfl⟩) rfl) rfl<|VO.l (LO.mf2 (first := [_]) (cap := []) ⟨(.r rfl), trivial⟩ trivial) rfl<|VO.h rfl<|HO.callx (xs := [_,_]) (vs := [_,_]) C62 ⟨(.r rfl), (.r rfl), trivial⟩ (fun w hw => parts_c g 64 [sheetV g pv vs.length cv lv] (mayB vs lv) w hg C64 (fun w2 p hp hw2 => may_c g vs pv cv lv p w2 ((hv.keep w hw).keep w2 hw2) (by omega))) fun y1 hy1 => VO.h rfl<|HO.lo (LO.mv (.r rfl))<|VO.h rfl<|HO.lo (LO.ex (.r rfl) rfl)<|VO.h rfl<|HO.lo (LO.ex (.r rfl) rfl)<|VO.h rfl<|HO.lo (LO.as (.r rfl))<|VO.h rfl<|HO.lo (LO.as (.r rfl))<|VO.nil ?_)
  obtain ⟨hyl, hyc⟩ : y1.rs.length ≤ gW g * gH g ∧ True := ⟨by have := congrArg List.length hy1; rw [List.length_map] at this; rw [this]; exact parts_len, trivial⟩
  refine VE.seqN ?_
  refine VC.seq ?_
  refine VC.rebase fun w1 hst1 => ?_
  have hRR : RR 1 nC w1 y1.p y1.rs := RR.of_own hst1 0 1 rfl rfl
  have hOF : RO 1 iC w1 y1.po (ofL (gW g) (gH g) (mayB vs lv)) := RO.of_own hst1 2 rfl
  have hsh : Cells w1 ⟨b1,0, none⟩ [.int .i64 g.x, .int .i64 g.y, .int .i64 g.size, .int .i64 g.wide, .int .i64 g.high, .slice pv vs.length cv, .int .i64 lv] := cells_inv (hst1.inv 4 _ rfl)
  have hgr : Cells w1 ⟨b2,0, none⟩ (gridC g) := cells_inv (hst1.inv 3 _ rfl)
  have hv1 := hv.keep w1 hst1
  have hofs : SlSome y1.po (gW g * gH g) := by have z := RO.sm hOF; rw [ofL_len] at z; exact z
  refine VC.reg (VO.l (LO.mv (.r rfl)) rfl<|VO.l (LO.len S41 (.r rfl) rfl) rfl<|VO.h rfl<|HO.mksM (f := AreaR.cells) (z0 := arZ) (n := y1.rs.length) rfl S29 I73 (.r rfl) (.r rfl) rfl (by decide) (by omega) (by omega) fun b7 => VO.h rfl<|HO.lo (LO.as (.r rfl))<|VO.nil ?_)
  rw [arsTo_zero (W := gW g) (vs := vs) (lv := lv)]
  refine VE.seqN ?_
  refine VC.seq ?_
  refine VC.seq ?_
  refine VC.reg (VO.l (LO.mv (.r rfl)) rfl<|VO.l (LO.len S41 (.r rfl) rfl) rfl<|VO.l (LO.mv (.r rfl)) rfl<|VO.nil ?_)
  refine VE.seqN ?_
  refine VC.block ?_
  refine VC.loopK (α := Nat) 1 (fun gx => [(35, .int .i64 (gx : Nat))]) [(1,_), (4,_), (6,_), (7,_), (33,_), (34,_)] (fun gx => [own 73 8 (some ⟨b7,0, none⟩) y1.rs.length ((arsTo (gW g) vs lv y1.rs gx).map AreaR.cells)]) (fun gx => gx ≤ y1.rs.length) (fun gx => y1.rs.length - gx) 0 (by exact Nat.zero_le _) (.cons rfl (.cons rfl (.cons rfl (.cons rfl (.cons rfl (.cons rfl (.cons rfl .nil))))))) (fun _ h => h) ?_
  rintro i hi
  refine VC.seq ?_
  refine VC.reg (VO.l (LO.lt (.r rfl) (.r rfl)) rfl<|VO.nil ?_)
  refine VE.seqN ?_
  refine VC.seq ?_
  refine VC.cond rfl (fun h36 => ?_) (fun h36 => ?_)
  ·
    obtain ⟨r, hr⟩ : ∃ r, y1.rs[i]? = some r := ⟨_, List.getElem?_eq_getElem (by omega)⟩
    have hpx := RR.row hRR hr
    obtain ⟨p0, hp0, hp0l, ⟨hrl1, hrl2, rfl⟩, hrm⟩ := part_facts hy1 hr
    refine VC.skip (VE.seqN ?_)
    refine VC.seq ?_
    refine VC.block ?_
    refine VC.seq ?_
    refine VC.reg (VO.l (LO.mv (.r rfl)) rfl<|VO.l (LO.ixs S41 N40 hRR.1.sm (.r rfl) (.r rfl) rfl (by omega)) rfl<|VO.l (LO.ld O40 (.r rfl) (fun w hw => cells_part (off := 0) ((fun w3 h3 => RR.cell (RR.keep hRR w3 h3) hr) w hw) ⟨_, rfl⟩)) rfl<|VO.l (LO.as (.r rfl)) rfl<|VO.l (LO.as (.r rfl)) rfl<|VO.nil ?_)
    refine VE.seqN ?_
    refine VC.seq ?_
    refine VC.draw mixed (LL.l (LO.mv (.r rfl)) rfl<|LL.l (LO.ixs S40 N3 hpx.sm (.r rfl) (.r rfl) (j := 0) rfl (by omega)) rfl<|LL.l (LO.ld O3 (.r rfl) (fun w hw => cells_part (off := 0) ((fun w3 h3 => RO.cel (RO.keep hpx w3 h3) hp0) w hw) ⟨_, rfl⟩)) rfl<|LL.l (LO.fa (r := 3) F23_3 (.r rfl) rfl) rfl<|LL.l (LO.ld O3 (.r rfl) (cells_keep (sub_cells (off := 3) hgr ⟨_, rfl⟩))) rfl<|LL.l (LO.eqv (LO.rem (.r rfl) (.r rfl) (by omega)) (congrArg (Value.int .i64) (mod_n hg _))) rfl<|LL.l (LO.mv (.r rfl)) rfl<|LL.l (LO.ixs S40 N3 hpx.sm (.r rfl) (.r rfl) (j := 0) rfl (by omega)) rfl<|LL.l (LO.ld O3 (.r rfl) (fun w hw => cells_part (off := 0) ((fun w3 h3 => RO.cel (RO.keep hpx w3 h3) hp0) w hw) ⟨_, rfl⟩)) rfl<|LL.l (LO.fa (r := 3) F23_3 (.r rfl) rfl) rfl<|LL.l (LO.ld O3 (.r rfl) (cells_keep (sub_cells (off := 3) hgr ⟨_, rfl⟩))) rfl<|LL.l (LO.eqv (LO.quo (.r rfl) (.r rfl) (by omega) (wi (by rw [div_n hg]; have := divb hg (p := (r.l.headD 0)) (by omega); omega) (by rw [div_n hg]; have := divb hg (p := (r.l.headD 0)) (by omega); omega))) (congrArg (Value.int .i64) (div_n hg (r.l.headD 0)))) rfl<|LL.l (LO.as (.r rfl)) rfl<|LL.l (LO.as (.r rfl)) rfl<|LL.nil) (by kernel_rfl) ?_
    refine VE.seqN ?_
    refine VC.seq ?_
    refine VC.reg (VO.l (LO.mv (.r rfl)) rfl<|VO.l (LO.mv (.r rfl)) rfl<|VO.l (LO.mv (.r rfl)) rfl<|VO.l (LO.bd (ps := [(_,_), (_,_)]) (vs := [(_,_), (_,_)]) (C := [_,_]) B71  ⟨(.r rfl), (.r rfl), trivial⟩ rfl ⟨_, [_], [_,_], rfl, rfl, rfl, rfl, ⟨_, [_], [_,_], rfl, rfl, rfl, rfl, rfl⟩⟩) rfl<|VO.l (LO.mv (.r rfl)) rfl<|VO.l (LO.mv (.r rfl)) rfl<|VO.l (LO.bd (ps := [(_,_), (_,_)]) (vs := [(_,_), (_,_)]) (C := [_,_]) B71  ⟨(.r rfl), (.r rfl), trivial⟩ rfl ⟨_, [_], [_,_], rfl, rfl, rfl, rfl, ⟨_, [_], [_,_], rfl, rfl, rfl, rfl, rfl⟩⟩) rfl<|VO.l (LO.bd (ps := [(_,_), (_,_), (_,_)]) (vs := [(_,_), (_,_), (_,_)]) (C := [_,_,_,_,_,_,_,_]) B73  ⟨(.r rfl), (.r rfl), (.r rfl), trivial⟩ rfl ⟨_, [_], [_,_,_,_,_,_,_,_], rfl, rfl, rfl, rfl, ⟨_, [_,_], [_,_,_,_,_,_,_,_], rfl, rfl, rfl, rfl, ⟨_, [_,_], [_,_,_,_,_,_,_,_], rfl, rfl, rfl, rfl, rfl⟩⟩⟩) rfl<|VO.h rfl<|HO.alloc (C := #[_,_,_,_,_,_,_,_]) Z73 rfl fun b8 => VO.h0<|HO.st 0 (vs := [_,_,_,_,_,_,_,_]) (C' := [_,_,_,_,_,_,_,_]) (L' := [_,_]) N73 rfl rfl rfl rfl rfl rfl rfl rfl<|VO.nil ?_)
    refine VE.seqN ?_
    refine VC.seq ?_
    refine VC.seq ?_
    refine VC.reg (VO.l (LO.mv (.r rfl)) rfl<|VO.l (LO.len S40 (.r rfl) rfl) rfl<|VO.l (LO.mv (.r rfl)) rfl<|VO.nil ?_)
    refine VE.seqN ?_
    refine VC.block ?_
    refine VC.loopK (α := Nat) 1 (fun gx => [(62, .int .i64 (gx : Nat))]) [(1,_), (4,_), (6,_), (7,_), (8,_), (12,_), (33,_), (34,_), (35,_), (60,_), (61,_)] (fun gx => [blk b8 (.cells #[.slice r.p r.l.length r.c, .slice none 0 0, .int .i64 (sumTo (gW g) vs lv r.l gx).xl, .int .i64 (sumTo (gW g) vs lv r.l gx).xh, .int .i64 (sumTo (gW g) vs lv r.l gx).yl, .int .i64 (sumTo (gW g) vs lv r.l gx).yh, .int .i64 (sumTo (gW g) vs lv r.l gx).sl, .int .i64 (sumTo (gW g) vs lv r.l gx).sh] 73)]) (fun gx => gx ≤ r.l.length) (fun gx => r.l.length - gx) 0 (by exact Nat.zero_le _) (.cons rfl (.cons rfl (.cons rfl (.cons rfl (.cons rfl (.cons rfl (.cons rfl (.cons rfl (.cons rfl (.cons rfl (.cons rfl (.cons rfl .nil)))))))))))) (fun _ h => h) ?_
    rintro k hk
    refine VC.seq ?_
    refine VC.reg (VO.l (LO.lt (.r rfl) (.r rfl)) rfl<|VO.nil ?_)
    refine VE.seqN ?_
    refine VC.seq ?_
    refine VC.cond rfl (fun h63 => ?_) (fun h63 => ?_)
    ·
      obtain ⟨p, hpk⟩ : ∃ p, r.l[k]? = some p := ⟨_, List.getElem?_eq_getElem (by omega)⟩
      have hpm := hrm p (List.mem_of_getElem? hpk)
      have hspn := hok p (by omega)
      unfold spanOk at hspn
      have hbd := sumTo_bd (W := gW g) (vs := vs) (lv := lv) (l := r.l) hok (fun q hq => by have := hrm q hq; omega) k (by omega)
      refine VC.skip (VE.seqN ?_)
      refine VC.seq ?_
      refine VC.block ?_
      refine VC.seq ?_
      refine VC.reg (VO.l (LO.ixs S40 N3 hpx.sm (.r rfl) (.r rfl) rfl (by omega)) rfl<|VO.l (LO.ld O3 (.r rfl) (fun w hw => cells_part (off := 0) ((fun w3 h3 => RO.cel (RO.keep hpx w3 h3) hpk) w hw) ⟨_, rfl⟩)) rfl<|VO.l (LO.as (.r rfl)) rfl<|VO.nil ?_)
      refine VE.seqN ?_
      refine VC.seq ?_
      refine VC.drawH [[0,1], [1], [1]] [some 0, some 0, some 0, some 0, some 0, some 0, some 0, some 0, some 0, some 0, some 0, some 0, some 0, some 0, some 0, none, some 1, none] mixed (by kernel_rfl) rfl (LX.l (fun _ hJ => LO.fa (r := 2) F73_2 (.r rfl) rfl) rfl<|LX.l (fun _ hJ => LO.lda (vs := [_,_]) A71 (.r rfl) (fun _ hw => cells_at (hJ _ hw) 0 rfl ⟨_, rfl⟩) rfl) rfl<|LX.l (fun _ hJ => LO.mv (.r rfl)) rfl<|LX.l (fun _ hJ => LO.fa (r := 3) F23_3 (.r rfl) rfl) rfl<|LX.l (fun _ hJ => LO.ld O3 (.r rfl) (cells_keep (sub_cells (off := 3) hgr ⟨_, rfl⟩))) rfl<|LX.l (fun _ hJ => LO.eqv (LO.rem (.r rfl) (.r rfl) (by omega)) (congrArg (Value.int .i64) (mod_n hg p))) rfl<|LX.l (fun _ hJ => LO.call (xs := [_,_]) (vs := [_,_]) C101 ⟨(.r rfl), (.r rfl), trivial⟩ (fun w _ => hull_c _ _ _ w)) rfl<|LX.l (fun _ hJ => LO.fa (r := 4) F73_3 (.r rfl) rfl) rfl<|LX.l (fun _ hJ => LO.lda (vs := [_,_]) A71 (.r rfl) (fun _ hw => cells_at (hJ _ hw) 0 rfl ⟨_, rfl⟩) rfl) rfl<|LX.l (fun _ hJ => LO.mv (.r rfl)) rfl<|LX.l (fun _ hJ => LO.fa (r := 3) F23_3 (.r rfl) rfl) rfl<|LX.l (fun _ hJ => LO.ld O3 (.r rfl) (cells_keep (sub_cells (off := 3) hgr ⟨_, rfl⟩))) rfl<|LX.l (fun _ hJ => LO.eqv (LO.quo (.r rfl) (.r rfl) (by omega) (wi (by rw [div_n hg]; have := divb hg (p := p) (by omega); omega) (by rw [div_n hg]; have := divb hg (p := p) (by omega); omega))) (congrArg (Value.int .i64) (div_n hg p))) rfl<|LX.l (fun _ hJ => LO.call (xs := [_,_]) (vs := [_,_]) C101 ⟨(.r rfl), (.r rfl), trivial⟩ (fun w _ => hull_c _ _ _ w)) rfl<|LX.l (fun _ hJ => LO.fa (r := 2) F73_2 (.r rfl) rfl) rfl<|LX.s<|LX.l (fun _ hJ => LO.fa (r := 4) F73_3 (.r rfl) rfl) rfl<|LX.s<|LX.nil) (HX.s<|HX.s<|HX.s<|HX.s<|HX.s<|HX.s<|HX.s<|HX.s<|HX.s<|HX.s<|HX.s<|HX.s<|HX.s<|HX.s<|HX.s<|HX.h0<|HO.st 0 (vs := [_,_]) (C' := [_,_,_,_,_,_,_,_]) (L' := [_,_]) N71 rfl rfl rfl rfl rfl rfl rfl rfl<|⟨fun _ hw => hw.sel [1] rfl, HX.s<|HX.h0<|HO.st 0 (vs := [_,_]) (C' := [_,_,_,_,_,_,_,_]) (L' := [_,_]) N71 rfl rfl rfl rfl rfl rfl rfl rfl<|⟨fun _ hw => hw.sel [1] rfl, HX.nil ?_⟩⟩)
      refine VE.seqN ?_
      refine VC.seq ?_
      refine VC.drawH [[0,1], [1]] [some 0, some 0, some 0, some 0, some 0, some 0, some 0, some 0, some 0, some 0, some 0, some 0, some 0, none] mixed (by kernel_rfl) rfl (LX.l (fun _ hJ => LO.fa (r := 6) F73_4 (.r rfl) rfl) rfl<|LX.l (fun _ hJ => LO.fa (r := 7) F71_1 (.r rfl) rfl) rfl<|LX.l (fun _ hJ => LO.ld O3 (.r rfl) (fun _ hw => cells_at (hJ _ hw) 0 rfl ⟨_, rfl⟩)) rfl<|LX.l (fun _ hJ => LO.fa (r := 0) F128_0 (.r rfl) rfl) rfl<|LX.l (fun _ hJ => LO.fa (r := 5) F26_1 (.r rfl) rfl) rfl<|LX.l (fun _ hJ => LO.ld O24 (.r rfl) (cells_keep (sub_cells (off := 5) hsh ⟨_, rfl⟩))) rfl<|LX.l (fun _ hJ => LO.mv (.r rfl)) rfl<|LX.l (fun _ hJ => LO.ixs S24 N71 hv1.some (.r rfl) (.r rfl) rfl (by omega)) rfl<|LX.l (fun _ hJ => LO.fa F71_1 (.r rfl) rfl) rfl<|LX.l (fun _ hJ => LO.ld O3 (.r rfl) (fun w hw => cells_part (off := 1) ((hv1.at (j := p) (by omega)) w (hJ _ hw)) ⟨_, rfl⟩)) rfl<|LX.l (fun _ hJ => LO.add (.r rfl) (.r rfl) (wi (by omega) (by omega))) rfl<|LX.l (fun _ hJ => LO.fa (r := 6) F73_4 (.r rfl) rfl) rfl<|LX.l (fun _ hJ => LO.fa (r := 7) F71_1 (.r rfl) rfl) rfl<|LX.s<|LX.nil) (HX.s<|HX.s<|HX.s<|HX.s<|HX.s<|HX.s<|HX.s<|HX.s<|HX.s<|HX.s<|HX.s<|HX.s<|HX.s<|HX.h0<|HO.st 0 (vs := [_]) (C' := [_,_,_,_,_,_,_,_]) (L' := [_,_]) N3 rfl rfl rfl rfl rfl rfl rfl rfl<|⟨fun _ hw => hw.sel [1] rfl, HX.nil ?_⟩)
      refine VE.seqN ?_
      refine VC.seq ?_
      refine VC.reg (VO.l (LO.lda (vs := [_,_,_,_,_,_,_]) A128 (.r rfl) (cells_keep (sub_cells (off := 0) hsh ⟨_, rfl⟩)) rfl) rfl<|VO.l (LO.mv (.r rfl)) rfl<|VO.l (LO.call (xs := [_,_]) (vs := [_,_]) C63 ⟨(.r rfl), (.r rfl), trivial⟩ (fun w hw => in_c g vs pv cv lv p w (hv1.keep w hw) (by omega))) rfl<|VO.nil ?_)
      refine VE.seqN ?_
      refine VC.cond rfl (fun h97 => ?_) (fun h97 => ?_)
      ·
        refine VC.drawH [[0,1], [1]] [some 0, some 0, some 0, some 0, some 0, some 0, some 0, some 0, some 0, some 0, some 0, some 0, some 0, none] mixed (by kernel_rfl) rfl (LX.l (fun _ hJ => LO.fa (r := 6) F73_4 (.r rfl) rfl) rfl<|LX.l (fun _ hJ => LO.fa (r := 6) F71_0 (.r rfl) rfl) rfl<|LX.l (fun _ hJ => LO.ld O3 (.r rfl) (fun _ hw => cells_at (hJ _ hw) 0 rfl ⟨_, rfl⟩)) rfl<|LX.l (fun _ hJ => LO.fa (r := 0) F128_0 (.r rfl) rfl) rfl<|LX.l (fun _ hJ => LO.fa (r := 5) F26_1 (.r rfl) rfl) rfl<|LX.l (fun _ hJ => LO.ld O24 (.r rfl) (cells_keep (sub_cells (off := 5) hsh ⟨_, rfl⟩))) rfl<|LX.l (fun _ hJ => LO.mv (.r rfl)) rfl<|LX.l (fun _ hJ => LO.ixs S24 N71 hv1.some (.r rfl) (.r rfl) rfl (by omega)) rfl<|LX.l (fun _ hJ => LO.fa F71_0 (.r rfl) rfl) rfl<|LX.l (fun _ hJ => LO.ld O3 (.r rfl) (fun w hw => cells_part (off := 0) ((hv1.at (j := p) (by omega)) w (hJ _ hw)) ⟨_, rfl⟩)) rfl<|LX.l (fun _ hJ => LO.add (.r rfl) (.r rfl) (wi (by omega) (by omega))) rfl<|LX.l (fun _ hJ => LO.fa (r := 6) F73_4 (.r rfl) rfl) rfl<|LX.l (fun _ hJ => LO.fa (r := 6) F71_0 (.r rfl) rfl) rfl<|LX.s<|LX.nil) (HX.s<|HX.s<|HX.s<|HX.s<|HX.s<|HX.s<|HX.s<|HX.s<|HX.s<|HX.s<|HX.s<|HX.s<|HX.s<|HX.h0<|HO.st 0 (vs := [_]) (C' := [_,_,_,_,_,_,_,_]) (L' := [_,_]) N3 rfl rfl rfl rfl rfl rfl rfl rfl<|⟨fun _ hw => hw.sel [1] rfl, HX.nil ?_⟩)
        refine VE.inN (VE.seqN ?_)
        refine VC.reg (VO.l (LO.add (.r rfl) (.r rfl) (wi (by omega) (by omega))) rfl<|VO.l (LO.mv (.r rfl)) rfl<|VO.nil ?_)
        have hsc := sumTo_succ (W := gW g) (vs := vs) (lv := lv) hpk
        refine VE.thenN fun a w ha hw => ⟨k + 1, (by omega), (by omega), ha.sub (.cons rfl (.cons rfl (.cons rfl (.cons rfl (.cons rfl (.cons rfl (.cons rfl (.cons rfl (.cons rfl (.cons rfl (.cons rfl (.cons rfl .nil)))))))))))), (by rw [hsc]; first | exact hw | (unfold stepS; dsimp only; rw [if_pos h97]; exact hw) | (unfold stepS; dsimp only; rw [if_neg h97]; exact hw))⟩
      ·
        refine VC.skip (VE.inN (VE.seqN ?_))
        refine VC.reg (VO.l (LO.add (.r rfl) (.r rfl) (wi (by omega) (by omega))) rfl<|VO.l (LO.mv (.r rfl)) rfl<|VO.nil ?_)
        have hsc := sumTo_succ (W := gW g) (vs := vs) (lv := lv) hpk
        refine VE.thenN fun a w ha hw => ⟨k + 1, (by omega), (by omega), ha.sub (.cons rfl (.cons rfl (.cons rfl (.cons rfl (.cons rfl (.cons rfl (.cons rfl (.cons rfl (.cons rfl (.cons rfl (.cons rfl (.cons rfl .nil)))))))))))), (by rw [hsc]; first | exact hw | (unfold stepS; dsimp only; rw [if_pos h97]; exact hw) | (unfold stepS; dsimp only; rw [if_neg h97]; exact hw))⟩
    ·
      have hke : k = r.l.length := by omega
      subst hke
      rw [sumTo_all]
      refine VC.exit (VE.thenX (VE.thenX (VE.inX (VE.seqN ?_))))
      refine VC.reg (VO.l (LO.mv (.r rfl)) rfl<|VO.l (LO.mv (.r rfl)) rfl<|VO.l (LO.lda (vs := [_,_,_,_,_,_,_,_]) A73 (.r rfl) (fun _ hw => cells_at hw 0 rfl ⟨_, rfl⟩) rfl) rfl<|VO.l (LO.ixo S29 N73 (fun _ hw => (own_rows hw 1 rfl).some (by rw [List.length_map]; first | (rw [arsTo_len (by omega)]) | (exact hki.len.symm))) (.r rfl) (.r rfl) rfl (by omega)) rfl<|VO.h0<|HO.stm 1 (fun R => [_, R]) ((areaOf (gW g) vs lv r)) (vs := [_,_,_,_,_,_,_,_]) N73 (.r rfl) (.r rfl) rfl (by rw [arsTo_len (by omega)]; omega) rfl rfl rfl rfl rfl (fun _ => rfl)<|VO.nil ?_)
      rw [arsTo_set hr]
      refine VE.inN (VE.seqN ?_)
      refine VC.reg (VO.l (LO.add (.r rfl) (.r rfl) (wi (by omega) (by omega))) rfl<|VO.l (LO.mv (.r rfl)) rfl<|VO.nil ?_)
      refine VE.thenN fun a w ha hw => ⟨i + 1, (by omega), (by omega), ha.sub (.cons rfl (.cons rfl (.cons rfl (.cons rfl (.cons rfl (.cons rfl (.cons rfl .nil))))))), hw.sel [1] rfl⟩
  ·
    have hie : i = y1.rs.length := by omega
    subst hie
    rw [arsTo_all]
    refine VC.exit (VE.thenX (VE.thenX (VE.inX (VE.seqN ?_))))
    refine VC.seq ?_
    refine VC.reg (VO.l (LO.lda (vs := [_,_,_,_,_]) A23 (.r rfl) (cells_keep (sub_cells (off := 0) hgr ⟨_, rfl⟩)) rfl) rfl<|VO.l (LO.lda (vs := [_,_,_,_,_,_,_]) A128 (.r rfl) (cells_keep (sub_cells (off := 0) hsh ⟨_, rfl⟩)) rfl) rfl<|VO.l (LO.mf2 (first := [_]) (cap := []) ⟨(.r rfl), trivial⟩ trivial) rfl<|VO.h rfl<|HO.callx (xs := [_,_]) (vs := [_,_]) C62 ⟨(.r rfl), (.r rfl), trivial⟩ (fun w hw => parts_c g 63 [sheetV g pv vs.length cv lv] (inB vs lv) w hg C63 (fun w2 p hp hw2 => in_c g vs pv cv lv p w2 ((hv1.keep w hw).keep w2 hw2) (by omega))) fun y2 hy2 => VO.h rfl<|HO.lo (LO.mv (.r rfl))<|VO.h rfl<|HO.lo (LO.ex (.r rfl) rfl)<|VO.h rfl<|HO.lo (LO.ex (.r rfl) rfl)<|VO.h rfl<|HO.lo (LO.as (.r rfl))<|VO.h rfl<|HO.lo (LO.as (.r rfl))<|VO.nil ?_)
    have hyl2 : y2.rs.length ≤ gW g * gH g := by have := congrArg List.length hy2; rw [List.length_map] at this; rw [this]; exact parts_len
    refine VE.seqN ?_
    refine VC.seq ?_
    refine VC.seq ?_
    refine VC.res (L' := [own 73 8 (some ⟨b7,0, none⟩) y1.rs.length ((y1.rs.map (areaOf (gW g) vs lv)).map AreaR.cells)] ++ [_,_,_]) (selK [3,0,1,2] rfl rfl) ?_
    refine VC.rebaseO fun w2 hst2 => ?_
    have hofk : ∀ {L : List Res} {w3 : World}, St ⟨w2, fpL [own 73 8 (some ⟨b7,0, none⟩) y1.rs.length ((y1.rs.map (areaOf (gW g) vs lv)).map AreaR.cells)]⟩ L w3 → RO 1 iC w3 y1.po (ofL (gW g) (gH g) (mayB vs lv)) := fun h => RO.keep hOF _ (St.fz hst2 h)
    have hkk : ∀ {L : List Res} {w3 : World}, St ⟨w2, fpL [own 73 8 (some ⟨b7,0, none⟩) y1.rs.length ((y1.rs.map (areaOf (gW g) vs lv)).map AreaR.cells)]⟩ L w3 → RR 1 nC w3 y2.p y2.rs := fun h => RR.of_own (St.rightOf (St.fz hst2 h)) 0 1 rfl rfl
    have hks : RR 1 nC w2 y2.p y2.rs := RR.of_own (St.rightOf hst2) 0 1 rfl rfl
    refine VC.res (fun w hw => bag_none (W := gW g) (vs := vs) (lv := lv) (rs := y1.rs) hw) ?_
    show VC _ _ _ _ _ _ [bagD ((y1.rs.map (areaOf (gW g) vs lv)).map AreaR.kR), own 73 8 (some ⟨b7,0, none⟩) y1.rs.length ((y1.rs.map (areaOf (gW g) vs lv)).map AreaR.cells)] _ _
    refine VC.reg (VO.l (LO.mv (.r rfl)) rfl<|VO.l (LO.len S41 (.r rfl) rfl) rfl<|VO.l (LO.mv (.r rfl)) rfl<|VO.nil ?_)
    refine VE.seqN ?_
    refine VC.block ?_
    refine VC.perm [1,0] rfl ?_
    refine VC.loopK (α := Nat × (List AreaR)) 2 (fun gx => [(126, .int .i64 (gx.1 : Nat))]) [(6,_), (7,_), (124,_), (125,_)] (fun gx => [own 73 8 (some ⟨b7,0, none⟩) y1.rs.length (gx.2.map AreaR.cells), bagD (gx.2.map AreaR.kR)]) (fun gx => gx.1 ≤ y2.rs.length ∧ KInv (gW g) vs lv y1.rs y2.rs gx.1 gx.2) (fun gx => y2.rs.length - gx.1) (0, (y1.rs.map (areaOf (gW g) vs lv))) (by exact ⟨Nat.zero_le _, KInv.zero⟩) (.cons rfl (.cons rfl (.cons rfl (.cons rfl (.cons rfl .nil))))) (fun _ h => h) ?_
    rintro ⟨j, l⟩ ⟨hj, hki⟩
    show VC _ _ _ _ _ ([(126, .int .i64 (j : Nat))] ++ _) ([own 73 8 (some ⟨b7,0, none⟩) y1.rs.length (l.map AreaR.cells), bagD (l.map AreaR.kR)] ++ _) _ _
    dsimp only at hj hki
    refine VC.seq ?_
    refine VC.reg (VO.l (LO.lt (.r rfl) (.r rfl)) rfl<|VO.nil ?_)
    refine VE.seqN ?_
    refine VC.seq ?_
    refine VC.cond rfl (fun h127 => ?_) (fun h127 => ?_)
    ·
      obtain ⟨kr, hk⟩ : ∃ kr, y2.rs[j]? = some kr := ⟨_, List.getElem?_eq_getElem (by omega)⟩
      obtain ⟨hk1, hk2, hk3, ix, hix, hixl, hixm⟩ := kern_ix (rs := y1.rs) (vs := vs) (lv := lv) (fun j hj => hok j (by omega)) hy1 hy2 hk
      have hk0 : kr.l[0]? = some (kr.l.getD 0 0) := by rw [List.getD_eq_getElem?_getD, List.getElem?_eq_getElem hk1]; rfl
      obtain ⟨aa, haa⟩ : ∃ a, l[ix]? = some a := ⟨_, List.getElem?_eq_getElem (by rw [hki.len]; exact hixl)⟩
      have hain : kr.l.headD 0 ∈ aa.px.l := hixm aa.px (by rw [← hki.px, List.getElem?_map, haa]; rfl)
      have hk4 : aa.kr.length ≤ j := by rw [hki.kr aa (List.mem_of_getElem? haa)]; exact Nat.le_trans (List.length_filter_le _ _) (by rw [List.length_take]; omega)
      refine VC.skip (VE.seqN ?_)
      refine VC.seq ?_
      refine VC.block ?_
      refine VC.seq ?_
      refine VC.reg (VO.l (LO.ixs S41 N40 hks.1.sm (.r rfl) (.r rfl) rfl (by omega)) rfl<|VO.l (LO.ld O40 (.r rfl) (fun w hw => cells_part (off := 0) ((fun w3 h3 => RR.cell (hkk h3) hk) w hw) ⟨_, rfl⟩)) rfl<|VO.l (LO.as (.r rfl)) rfl<|VO.nil ?_)
      refine VE.seqN ?_
      refine VC.seq ?_
      refine VC.reg (VO.l (LO.mv (.r rfl)) rfl<|VO.l (LO.mv (.r rfl)) rfl<|VO.l (LO.mv (.r rfl)) rfl<|VO.l (LO.ixs S40 N3 (RR.row hks hk).sm (.r rfl) (.r rfl) (j := 0) rfl hk1) rfl<|VO.l (LO.ld O3 (.r rfl) (fun w hw => cells_part (off := 0) ((fun w3 h3 => RO.cel (RR.row (hkk h3) hk) hk0) w hw) ⟨_, rfl⟩)) rfl<|VO.l (LO.ixs S40 N3 hofs (.r rfl) (.r rfl) rfl hk2) rfl<|VO.l (LO.ld O3 (.r rfl) (fun w hw => cells_part (off := 0) ((fun w3 h3 => RO.cel (hofk h3) hix) w hw) ⟨_, rfl⟩)) rfl<|VO.l (LO.ixo S29 N73 (fun _ hw => (own_rows hw 0 rfl).some (by rw [List.length_map]; first | (rw [arsTo_len (by omega)]) | (exact hki.len.symm))) (.r rfl) (.r rfl) rfl hixl) rfl<|VO.l (LO.as (.r rfl)) rfl<|VO.nil ?_)
      refine VE.seqN ?_
      refine VC.res (L' := AreaR.kR aa :: bagD ((l.eraseIdx ix).map AreaR.kR) :: [_]) (fun w hw => St.focusAt (f := AreaR.kR) (selK [1,0] rfl rfl w hw) haa) ?_
      show VC _ _ _ _ _ _ (own 40 1 aa.kp aa.kc (aa.kr.map rowC) :: _) _ _
      refine VC.reg (VO.l (LO.mv (.r rfl)) rfl<|VO.l (LO.mv (.r rfl)) rfl<|VO.l (LO.nc (.r rfl)) rfl<|VO.l (LO.fa F73_1 (.r rfl) rfl) rfl<|VO.l (LO.ld O41 (.r rfl) (fun w hw => cells_part (off := 1) (own_cell hw 2 rfl haa) ⟨_, rfl⟩)) rfl<|VO.l (LO.mv (.r rfl)) rfl<|VO.h rfl<|HO.bs (ps := [(_,_)]) (vs := [(_,_)]) (Z := [_]) (C := [_]) S41 Z40 N40 ⟨(.r rfl), trivial⟩ rfl rfl rfl rfl ⟨_, [_], [_], rfl, rfl, rfl, rfl, rfl⟩ fun b23 => VO.h rfl<|HO.appT (kr) 1 0 (fun R => [_, R,_,_]) S41 S41 I40 (.r rfl) (.r rfl) rfl rfl rfl rfl rfl rfl rfl (fun _ => rfl) rfl (by have := hk4; omega) fun p7 c7 => VO.l (LO.nc (.r rfl)) rfl<|VO.l (LO.fa F73_1 (.r rfl) rfl) rfl<|VO.h0<|HO.sto 3 (fun R => [_,_,_, R]) (o := 1) (vs := [_]) N41 (.r rfl) (.r rfl) rfl (map_get haa) rfl rfl (Nat.le_of_ble_eq_true rfl) rfl (fun _ => rfl)<|VO.nil ?_)
      refine VE.inN (VE.seqN ?_)
      refine VC.reg (VO.l (LO.add (.r rfl) (.r rfl) (wi (by omega) (by omega))) rfl<|VO.l (LO.mv (.r rfl)) rfl<|VO.nil ?_)
      rw [ar_set haa]
      refine VE.thenN fun a w ha hw => ⟨(j + 1, l.set ix { aa with kp := p7, kc := c7, kr := aa.kr ++ [kr] }), ⟨by dsimp only; omega, hki.add hk haa hain (by rw [hy1]; exact parts_apart (Nat.le_refl _))⟩, (by dsimp only; omega), ha.sub (.cons rfl (.cons rfl (.cons rfl (.cons rfl (.cons rfl .nil))))), (by exact selK (L1 := [_,_]) [1,0] rfl rfl _ (St.unfocusAt (f := AreaR.kR) (a := { aa with kp := p7, kc := c7, kr := aa.kr ++ [kr] }) (i := ix) (selK (L1 := AreaR.kR { aa with kp := p7, kc := c7, kr := aa.kr ++ [kr] } :: [_,_]) [1,2,3] rfl rfl _ hw) (by rw [hki.len]; exact hixl)))⟩
    ·
      have hje : j = y2.rs.length := by omega
      subst hje
      refine VC.exit (VE.thenX (VE.thenX (VE.inX (VE.seqN ?_))))
      refine VC.seq ?_
      refine VC.reg (VO.l (LO.mv (.r rfl)) rfl<|VO.l (LO.mv (.r rfl)) rfl<|VO.l (LO.as (.r rfl)) rfl<|VO.l (LO.as (.r rfl)) rfl<|VO.nil ?_)
      refine VE.seqN ?_
      refine VC.ret (VE.res (vs := [_,_]) rfl ⟨rfl, rfl, trivial⟩ (fun w hw => ?_))
      have hE := hki.done hy1 hy2
      have hpxE := hki.px
      have hkrE : ∀ a, a ∈ l → ∀ k, k ∈ a.kr → k ∈ y2.rs := fun a ha k hk => by rw [hki.kr a ha] at hk; exact List.mem_of_mem_take (List.mem_filter.1 hk).1
      have hf := hst1.call (St.fz hst2 (selK (L1 := [_,_]) [0,1] rfl rfl _ hw))
      have hll : y1.rs.length = l.length := hki.len.symm
      exact ⟨⟨l, some ⟨b7,0, none⟩, y1.rs.length, y1.rs, y1.p, y1.c, y2.rs, y2.p, y2.c, y1.po, y1.co, ofL (gW g) (gH g) (inB vs lv), y2.po, y2.co⟩, ⟨hE, hpxE, hkrE⟩, by rw [← hll]; rfl, selK [0,1,2,3,4,5,6,7] rfl rfl _ hf⟩

end Go.Proofs.Ytgemekpofpoopaa

namespace Go.Proofs.Ytgemekpofpoopaa
open Go.SL Go.Proofs Go.Cast Go.Cell
set_option linter.unusedVariables false

theorem C57 : IsFn Try.prog 57 := ⟨_, Try.func57, by decide, rfl⟩
theorem C58 : IsFn Try.prog 58 := ⟨_, Try.func58, by decide, rfl⟩
theorem C61 : IsFn Try.prog 61 := ⟨_, Try.func61, by decide, rfl⟩


def pixE (g : Grid) (vs : List Span) (lv p q : Int) : Int := if openE g vs lv ≠ 0 then openE g vs lv else if min p q < 0 ∨ (vs.length : Int) ≤ max p q then 4 else 0
theorem pixOk {g : Grid} {vs : List Span} {lv p q : Int} (h : pixE g vs lv p q = 0) : openE g vs lv = 0 ∧ ∃ a b : Nat, p = a ∧ q = b ∧ a < vs.length ∧ b < vs.length := by
  unfold pixE at h
  split at h
  · rename_i z; exact absurd h z
  · rename_i z
    split at h
    · omega
    · rename_i y
      exact ⟨Classical.not_not.1 z, p.toNat, q.toNat, by omega, by omega, by omega, by omega⟩
/-- Whether two pixels are joined. -/
def joinV (W H : Nat) (vs : List Span) (lv : Int) (p q : Nat) : Int :=
  if 0 ≤ idxL (partsL W H (inB vs lv)) p ∧ idxL (partsL W H (inB vs lv)) p = idxL (partsL W H (inB vs lv)) q then 1 else if idxL (partsL W H (mayB vs lv)) p < 0 ∨ ¬ idxL (partsL W H (mayB vs lv)) p = idxL (partsL W H (mayB vs lv)) q then 2 else 3
theorem ofL_get {W H : Nat} {S : Nat → Bool} {q : Nat} (h : q < W * H) : (ofL W H S)[q]? = some (idxL (partsL W H S) q) := by unfold ofL; rw [List.getElem?_map, List.getElem?_range h]; rfl
theorem jv1 {W H : Nat} {vs : List Span} {lv : Int} {p q : Nat} (h : 0 ≤ idxL (partsL W H (inB vs lv)) p ∧ idxL (partsL W H (inB vs lv)) p = idxL (partsL W H (inB vs lv)) q) : 1 = joinV W H vs lv p q := (if_pos h).symm
theorem jv2 {W H : Nat} {vs : List Span} {lv : Int} {p q : Nat} (h : ¬ (0 ≤ idxL (partsL W H (inB vs lv)) p ∧ idxL (partsL W H (inB vs lv)) p = idxL (partsL W H (inB vs lv)) q)) (k : idxL (partsL W H (mayB vs lv)) p < 0 ∨ ¬ idxL (partsL W H (mayB vs lv)) p = idxL (partsL W H (mayB vs lv)) q) : 2 = joinV W H vs lv p q := by unfold joinV; rw [if_neg h, if_pos k]
theorem jv3 {W H : Nat} {vs : List Span} {lv : Int} {p q : Nat} (h : ¬ (0 ≤ idxL (partsL W H (inB vs lv)) p ∧ idxL (partsL W H (inB vs lv)) p = idxL (partsL W H (inB vs lv)) q)) (k : ¬ (idxL (partsL W H (mayB vs lv)) p < 0 ∨ ¬ idxL (partsL W H (mayB vs lv)) p = idxL (partsL W H (mayB vs lv)) q)) : 3 = joinV W H vs lv p q := by unfold joinV; rw [if_neg h, if_neg k]

set_option maxRecDepth 20000 in
theorem Areas_ok (g : Grid) (vs : List Span) (pv : Option Addr) (cv : Nat) (lv : Int) (w : World) (hv : Spans w pv vs) (hok : openE g vs lv = 0) :
  Calls Try.prog 17 #[fieldV g pv vs.length cv, .int .i64 lv] w fun e w' => ∃ y : ArY, ArP (gW g) (gH g) vs lv y ∧ e = .returned (.tuple #[.slice y.p y.l.length y.c, .int .i64 0]) ∧ St (bs w) (y.R (ofL (gW g) (gH g) (mayB vs lv))) w' := by
  obtain ⟨hg, hlen, hok2, hlv1, hlv2⟩ := openOk hok
  have hvl : vs.length = gW g * gH g := len_n hg hlen
  refine enter (vs := [_,_]) (env := [(0,_), (1,_)]) Try.func17 rfl rfl rfl rfl ?_
  refine VC.seq ?_
  refine VC.reg (VO.h rfl<|HO.box (C := #[_,_,_,_,_,_]) rfl rfl fun b1 => VO.l (LO.as (.r rfl)) rfl<|VO.l (LO.as (.r rfl)) rfl<|VO.nil ?_)
  refine VE.seqN ?_
  refine VC.seq ?_
  refine VC.reg (VO.l (LO.lda (vs := [_,_,_,_,_,_]) A26 (.r rfl) (fun _ hw => cells_at hw 0 rfl ⟨_, rfl⟩) rfl) rfl<|VO.l (LO.mv (.r rfl)) rfl<|VO.l (LO.call (xs := [_,_]) (vs := [_,_]) C57 ⟨(.r rfl), (.r rfl), trivial⟩ (fun w hw => opened_ok g vs pv cv lv w (hv.keep w hw) hok)) rfl<|VO.l (LO.mv (.r rfl)) rfl<|VO.l (LO.ex (.r rfl) rfl) rfl<|VO.l (LO.ex (.r rfl) rfl) rfl<|VO.h rfl<|HO.alloc (C := #[_,_,_,_,_,_,_]) Z128 rfl fun b2 => VO.h0<|HO.st 0 (vs := [_,_,_,_,_,_,_]) (C' := [_,_,_,_,_,_,_]) (L' := [_,_]) N128 rfl rfl rfl rfl rfl rfl rfl rfl<|VO.l (LO.as (.r rfl)) rfl<|VO.nil ?_)
  refine VE.seqN ?_
  refine VC.seq ?_
  refine VC.seq ?_
  refine VC.reg (VO.l (LO.mv (.r rfl)) rfl<|VO.l (LO.ne (.r rfl) (.r rfl)) rfl<|VO.nil ?_)
  refine VE.seqN ?_
  refine VC.cond rfl (fun h17 => ?_) (fun h17 => ?_)
  ·
    (exfalso; exact h17 rfl)
  ·
    refine VC.skip (VE.seqN ?_)
    refine VC.seq ?_
    refine VC.reg (VO.l (LO.lda (vs := [_,_,_,_,_,_,_]) A128 (.r rfl) (fun _ hw => cells_at hw 0 rfl ⟨_, rfl⟩) rfl) rfl<|VO.h rfl<|HO.callx (xs := [_]) (vs := [_]) C58 ⟨(.r rfl), trivial⟩ (fun w hw => areas_c g vs pv cv lv w hg hlen hok2 (hv.keep w hw)) fun y hy => VO.h rfl<|HO.lo (LO.mv (.r rfl))<|VO.h rfl<|HO.lo (LO.ex (.r rfl) rfl)<|VO.h rfl<|HO.lo (LO.ex (.r rfl) rfl)<|VO.h rfl<|HO.lo (LO.as (.r rfl))<|VO.h rfl<|HO.lo (LO.as (.r rfl))<|VO.nil ?_)
    refine VE.seqN ?_
    refine VC.seq ?_
    refine VC.reg (VO.l (LO.mv (.r rfl)) rfl<|VO.l (LO.as (.r rfl)) rfl<|VO.l (LO.as (.r rfl)) rfl<|VO.nil ?_)
    refine VE.seqN ?_
    refine VC.ret (VE.res (vs := [_,_]) rfl ⟨rfl, rfl, trivial⟩ (fun w hw => ?_))
    exact ⟨y, hy, rfl, selK [0,1,2,3,4,5,6,7] rfl rfl _ hw⟩

set_option maxRecDepth 20000 in
theorem Areas_e (g : Grid) (vs : List Span) (pv : Option Addr) (cv : Nat) (lv : Int) (w : World) (hv : Spans w pv vs) (hne : openE g vs lv ≠ 0) :
  Calls Try.prog 17 #[fieldV g pv vs.length cv, .int .i64 lv] w fun e w' => e = .returned (.tuple #[.slice none 0 0, .int .i64 (openE g vs lv)]) ∧ St (bs w) [] w' := by
  refine enter (vs := [_,_]) (env := [(0,_), (1,_)]) Try.func17 rfl rfl rfl rfl ?_
  refine VC.seq ?_
  refine VC.reg (VO.h rfl<|HO.box (C := #[_,_,_,_,_,_]) rfl rfl fun b1 => VO.l (LO.as (.r rfl)) rfl<|VO.l (LO.as (.r rfl)) rfl<|VO.nil ?_)
  refine VE.seqN ?_
  refine VC.seq ?_
  refine VC.reg (VO.l (LO.lda (vs := [_,_,_,_,_,_]) A26 (.r rfl) (fun _ hw => cells_at hw 0 rfl ⟨_, rfl⟩) rfl) rfl<|VO.l (LO.mv (.r rfl)) rfl<|VO.l (LO.call (xs := [_,_]) (vs := [_,_]) C57 ⟨(.r rfl), (.r rfl), trivial⟩ (fun w hw => opened_e g vs pv cv lv w (hv.keep w hw) hne)) rfl<|VO.l (LO.mv (.r rfl)) rfl<|VO.l (LO.ex (.r rfl) rfl) rfl<|VO.l (LO.ex (.r rfl) rfl) rfl<|VO.h rfl<|HO.alloc (C := #[_,_,_,_,_,_,_]) Z128 rfl fun b2 => VO.h0<|HO.st 0 (vs := [_,_,_,_,_,_,_]) (C' := [_,_,_,_,_,_,_]) (L' := [_,_]) N128 rfl rfl rfl rfl rfl rfl rfl rfl<|VO.l (LO.as (.r rfl)) rfl<|VO.nil ?_)
  refine VE.seqN ?_
  refine VC.seq ?_
  refine VC.seq ?_
  refine VC.reg (VO.l (LO.mv (.r rfl)) rfl<|VO.l (LO.ne (.r rfl) (.r rfl)) rfl<|VO.nil ?_)
  refine VE.seqN ?_
  refine VC.cond rfl (fun h17 => ?_) (fun h17 => ?_)
  ·
    refine VC.seq ?_
    refine VC.reg (VO.l (LO.mv (.r rfl)) rfl<|VO.l (LO.as (.r rfl)) rfl<|VO.l (LO.as (.r rfl)) rfl<|VO.nil ?_)
    refine VE.seqN ?_
    refine VC.ret (VE.thenR (VE.res (vs := [_,_]) rfl ⟨rfl, rfl, trivial⟩ (fun w hw => ?_)))
    exact ⟨rfl, hw.nil⟩
  ·
    (exfalso; exact hne (Classical.not_not.1 h17))

set_option maxRecDepth 20000 in
theorem pixels_ok (g : Grid) (vs : List Span) (pv : Option Addr) (cv : Nat) (lv p q : Int) (w : World) (hv : Spans w pv vs) (hpx : pixE g vs lv p q = 0) :
  Calls Try.prog 61 #[fieldV g pv vs.length cv, .int .i64 lv, .int .i64 p, .int .i64 q] w fun e w' => e = .returned (.tuple #[sheetV g pv vs.length cv lv, .int .i64 0]) ∧ St (bs w) [] w' := by
  obtain ⟨hok, a, b, rfl, rfl, ha, hb⟩ := pixOk hpx
  refine enter (vs := [_,_,_,_]) (env := [(0,_), (1,_), (2,_), (3,_)]) Try.func61 rfl rfl rfl rfl ?_
  refine VC.seq ?_
  refine VC.reg (VO.h rfl<|HO.box (C := #[_,_,_,_,_,_]) rfl rfl fun b1 => VO.h rfl<|HO.alloc (C := #[_,_,_,_,_,_,_]) Z128 rfl fun b2 => VO.l (LO.as (.r rfl)) rfl<|VO.nil ?_)
  refine VE.seqN ?_
  refine VC.seq ?_
  refine VC.reg (VO.l (LO.lda (vs := [_,_,_,_,_,_]) A26 (.r rfl) (fun _ hw => cells_at hw 1 rfl ⟨_, rfl⟩) rfl) rfl<|VO.l (LO.mv (.r rfl)) rfl<|VO.l (LO.call (xs := [_,_]) (vs := [_,_]) C57 ⟨(.r rfl), (.r rfl), trivial⟩ (fun w hw => opened_ok g vs pv cv lv w (hv.keep w hw) hok)) rfl<|VO.l (LO.mv (.r rfl)) rfl<|VO.l (LO.ex (.r rfl) rfl) rfl<|VO.l (LO.ex (.r rfl) rfl) rfl<|VO.h rfl<|HO.alloc (C := #[_,_,_,_,_,_,_]) Z128 rfl fun b3 => VO.h0<|HO.st 0 (vs := [_,_,_,_,_,_,_]) (C' := [_,_,_,_,_,_,_]) (L' := [_,_,_]) N128 rfl rfl rfl rfl rfl rfl rfl rfl<|VO.l (LO.as (.r rfl)) rfl<|VO.nil ?_)
  refine VE.seqN ?_
  refine VC.seq ?_
  refine VC.seq ?_
  refine VC.reg (VO.l (LO.mv (.r rfl)) rfl<|VO.l (LO.eq (.r rfl) (.r rfl)) rfl<|VO.l (LO.mv (.r rfl)) rfl<|VO.lg rfl rfl (GD.t _) (fun hg => LO.mv (.r rfl)) rfl<|VO.lg rfl rfl (GD.t _) (fun hg => LO.mv (.r rfl)) rfl<|VO.lg rfl rfl (GD.t _) (fun hg => LO.min (.g hg rfl) (.g hg rfl)) rfl<|VO.lg rfl rfl (GD.t _) (fun hg => LO.lt (.g hg rfl) (.r rfl)) rfl<|VO.lg rfl rfl (GD.t _) (fun hg => LO.mv (.g hg rfl)) rfl<|VO.lg rfl rfl (GD.nf _ _) (fun hg => LO.mv (.r rfl)) rfl<|VO.lg rfl rfl (GD.nf _ _) (fun hg => LO.mv (.r rfl)) rfl<|VO.lg rfl rfl (GD.nf _ _) (fun hg => LO.max (.g hg rfl) (.g hg rfl)) rfl<|VO.lg rfl rfl (GD.nf _ _) (fun hg => LO.fa (r := 5) F26_1 (.r rfl) rfl) rfl<|VO.lg rfl rfl (GD.nf _ _) (fun hg => LO.ld O24 (.g hg rfl) (fun _ hw => cells_at hw 2 rfl ⟨_, rfl⟩)) rfl<|VO.lg rfl rfl (GD.nf _ _) (fun hg => LO.len S24 (.g hg rfl) rfl) rfl<|VO.lg rfl rfl (GD.nf _ _) (fun hg => LO.ge (.g hg rfl) (.g hg rfl)) rfl<|VO.lg rfl rfl (GD.t _) (fun hg => LO.pkO (.g hg rfl) (.r rfl) rfl (and_e hg)) rfl<|VO.l (LO.pkA (.r rfl) rfl rfl (.r rfl)) rfl<|VO.nil ?_)
  refine VE.seqN ?_
  refine VC.cond rfl (fun h34 => ?_) (fun h34 => ?_)
  ·
    (exfalso; (have h := h34.2; omega))
  ·
    refine VC.skip (VE.seqN ?_)
    refine VC.seq ?_
    refine VC.reg (VO.l (LO.lda (vs := [_,_,_,_,_,_,_]) A128 (.r rfl) (fun _ hw => cells_at hw 0 rfl ⟨_, rfl⟩) rfl) rfl<|VO.l (LO.mv (.r rfl)) rfl<|VO.h0<|HO.st 1 (vs := [_,_,_,_,_,_,_]) (C' := [_,_,_,_,_,_,_]) (L' := [_,_,_]) N128 rfl rfl rfl rfl rfl rfl rfl rfl<|VO.l (LO.as (.r rfl)) rfl<|VO.nil ?_)
    refine VE.seqN ?_
    refine VC.ret (VE.res (vs := [_,_]) rfl ⟨RV.agg (vs := [_,_,_,_,_,_,_]) A128 rfl (cells_blk 1 rfl ⟨_, rfl⟩) rfl, rfl, trivial⟩ (fun w hw => ?_))
    exact ⟨rfl, hw.nil⟩

set_option maxRecDepth 20000 in
set_option maxHeartbeats 4000000 in
theorem Joined_ok (g : Grid) (vs : List Span) (pv : Option Addr) (cv : Nat) (lv : Int) (p q : Nat) (w : World) (hv : Spans w pv vs) (hpx : pixE g vs lv p q = 0) :
  Calls Try.prog 20 #[fieldV g pv vs.length cv, .int .i64 lv, .int .i64 (p : Int), .int .i64 (q : Int)] w fun e w' => e = .returned (.tuple #[.int .i64 (joinV (gW g) (gH g) vs lv p q), .int .i64 0]) ∧ St (bs w) [] w' := by
  obtain ⟨hok, a, b, ea, eb, ha, hb⟩ := pixOk hpx
  have hp : p < vs.length := by omega
  have hq : q < vs.length := by omega
  obtain ⟨hg, hlen, hok2, hlv1, hlv2⟩ := openOk hok
  have hvl : vs.length = gW g * gH g := len_n hg hlen
  refine enter (vs := [_,_,_,_]) (env := [(0,_), (1,_), (2,_), (3,_)]) Try.func20 rfl rfl rfl rfl ?_
  refine VC.seq ?_
  refine VC.reg (VO.h rfl<|HO.box (C := #[_,_,_,_,_,_]) rfl rfl fun b1 => VO.l (LO.as (.r rfl)) rfl<|VO.l (LO.as (.r rfl)) rfl<|VO.nil ?_)
  refine VE.seqN ?_
  refine VC.seq ?_
  refine VC.reg (VO.l (LO.lda (vs := [_,_,_,_,_,_]) A26 (.r rfl) (fun _ hw => cells_at hw 0 rfl ⟨_, rfl⟩) rfl) rfl<|VO.l (LO.mv (.r rfl)) rfl<|VO.l (LO.mv (.r rfl)) rfl<|VO.l (LO.mv (.r rfl)) rfl<|VO.l (LO.call (xs := [_,_,_,_]) (vs := [_,_,_,_]) C61 ⟨(.r rfl), (.r rfl), (.r rfl), (.r rfl), trivial⟩ (fun w hw => pixels_ok g vs pv cv lv _ _ w (hv.keep w hw) hpx)) rfl<|VO.l (LO.mv (.r rfl)) rfl<|VO.l (LO.ex (.r rfl) rfl) rfl<|VO.l (LO.ex (.r rfl) rfl) rfl<|VO.h rfl<|HO.alloc (C := #[_,_,_,_,_,_,_]) Z128 rfl fun b2 => VO.h0<|HO.st 0 (vs := [_,_,_,_,_,_,_]) (C' := [_,_,_,_,_,_,_]) (L' := [_,_]) N128 rfl rfl rfl rfl rfl rfl rfl rfl<|VO.l (LO.as (.r rfl)) rfl<|VO.nil ?_)
  refine VE.seqN ?_
  refine VC.seq ?_
  refine VC.seq ?_
  refine VC.reg (VO.l (LO.mv (.r rfl)) rfl<|VO.l (LO.ne (.r rfl) (.r rfl)) rfl<|VO.nil ?_)
  refine VE.seqN ?_
  refine VC.cond rfl (fun h25 => ?_) (fun h25 => ?_)
  ·
    (exfalso; exact h25 rfl)
  ·
    refine VC.skip (VE.seqN ?_)
    refine VC.seq ?_
    refine VC.reg (VO.l (LO.fa (r := 0) F26_0 (.r rfl) rfl) rfl<|VO.l (LO.lda (vs := [_,_,_,_,_]) A23 (.r rfl) (fun _ hw => cells_at hw 1 rfl ⟨_, rfl⟩) rfl) rfl<|VO.l (LO.lda (vs := [_,_,_,_,_,_,_]) A128 (.r rfl) (fun _ hw => cells_at hw 0 rfl ⟨_, rfl⟩) rfl) rfl<|VO.l (LO.mf2 (first := [_]) (cap := []) ⟨(.r rfl), trivial⟩ trivial) rfl<|VO.h rfl<|HO.callx (xs := [_,_]) (vs := [_,_]) C62 ⟨(.r rfl), (.r rfl), trivial⟩ (fun w hw => parts_c g 63 [sheetV g pv vs.length cv lv] (inB vs lv) w hg C63 (fun w2 p hp hw2 => in_c g vs pv cv lv p w2 ((hv.keep w hw).keep w2 hw2) (by omega))) fun y1 hy1 => VO.h rfl<|HO.lo (LO.mv (.r rfl))<|VO.h rfl<|HO.lo (LO.ex (.r rfl) rfl)<|VO.h rfl<|HO.lo (LO.ex (.r rfl) rfl)<|VO.h rfl<|HO.lo (LO.as (.r rfl))<|VO.h rfl<|HO.lo (LO.as (.r rfl))<|VO.nil ?_)
    refine VE.seqN ?_
    refine VC.seq ?_
    refine VC.reg (VO.l (LO.fa (r := 0) F26_0 (.r rfl) rfl) rfl<|VO.l (LO.lda (vs := [_,_,_,_,_]) A23 (.r rfl) (fun _ hw => cells_at hw 4 rfl ⟨_, rfl⟩) rfl) rfl<|VO.l (LO.lda (vs := [_,_,_,_,_,_,_]) A128 (.r rfl) (fun _ hw => cells_at hw 3 rfl ⟨_, rfl⟩) rfl) rfl<|VO.l (LO.mf2 (first := [_]) (cap := []) ⟨(.r rfl), trivial⟩ trivial) rfl<|VO.h rfl<|HO.callx (xs := [_,_]) (vs := [_,_]) C62 ⟨(.r rfl), (.r rfl), trivial⟩ (fun w hw => parts_c g 64 [sheetV g pv vs.length cv lv] (mayB vs lv) w hg C64 (fun w2 p hp hw2 => may_c g vs pv cv lv p w2 ((hv.keep w hw).keep w2 hw2) (by omega))) fun y2 hy2 => VO.h rfl<|HO.lo (LO.mv (.r rfl))<|VO.h rfl<|HO.lo (LO.ex (.r rfl) rfl)<|VO.h rfl<|HO.lo (LO.ex (.r rfl) rfl)<|VO.h rfl<|HO.lo (LO.as (.r rfl))<|VO.h rfl<|HO.lo (LO.as (.r rfl))<|VO.nil ?_)
    refine VE.seqN ?_
    refine VC.seq ?_
    refine VC.block ?_
    refine VC.seq ?_
    refine VC.rebase fun w1 hst1 => ?_
    have hK : RO 1 iC w1 y1.po (ofL (gW g) (gH g) (inB vs lv)) := RO.of_own hst1 5 rfl
    have hA : RO 1 iC w1 y2.po (ofL (gW g) (gH g) (mayB vs lv)) := RO.of_own hst1 2 rfl
    have hKs : SlSome y1.po (gW g * gH g) := by have z := RO.sm hK; rw [ofL_len] at z; exact z
    have hAs : SlSome y2.po (gW g * gH g) := by have z := RO.sm hA; rw [ofL_len] at z; exact z
    refine VC.draw mixed (LL.l (LO.mv (.r rfl)) rfl<|LL.l (LO.mv (.r rfl)) rfl<|LL.l (LO.ixs S40 N3 hKs (.r rfl) (.r rfl) rfl (by omega)) rfl<|LL.l (LO.ld O3 (.r rfl) (fun w hw => cells_part (off := 0) ((fun w3 h3 => RO.cel (RO.keep hK w3 h3) (ofL_get (q := p) (by omega))) w hw) ⟨_, rfl⟩)) rfl<|LL.l (LO.ge (.r rfl) (.r rfl)) rfl<|LL.l (LO.mv (.r rfl)) rfl<|LL.lg rfl rfl (GD.t _) (fun hg => LO.mv (.r rfl)) rfl<|LL.lg rfl rfl (GD.t _) (fun hg => LO.mv (.r rfl)) rfl<|LL.lg rfl rfl (GD.t _) (fun hg => LO.ixs S40 N3 hKs (.g hg rfl) (.g hg rfl) rfl (by omega)) rfl<|LL.lg rfl rfl (GD.t _) (fun hg => LO.ld O3 (.g hg rfl) (fun w hw => cells_part (off := 0) ((fun w3 h3 => RO.cel (RO.keep hK w3 h3) (ofL_get (q := p) (by omega))) w hw) ⟨_, rfl⟩)) rfl<|LL.lg rfl rfl (GD.t _) (fun hg => LO.mv (.r rfl)) rfl<|LL.lg rfl rfl (GD.t _) (fun hg => LO.mv (.r rfl)) rfl<|LL.lg rfl rfl (GD.t _) (fun hg => LO.ixs S40 N3 hKs (.g hg rfl) (.g hg rfl) rfl (by omega)) rfl<|LL.lg rfl rfl (GD.t _) (fun hg => LO.ld O3 (.g hg rfl) (fun w hw => cells_part (off := 0) ((fun w3 h3 => RO.cel (RO.keep hK w3 h3) (ofL_get (q := q) (by omega))) w hw) ⟨_, rfl⟩)) rfl<|LL.lg rfl rfl (GD.t _) (fun hg => LO.eq (.g hg rfl) (.g hg rfl)) rfl<|LL.l (LO.pkA (.r rfl) rfl rfl (.r rfl)) rfl<|LL.l (LO.as (.r rfl)) rfl<|LL.nil) (by kernel_rfl) ?_
    refine VE.seqN ?_
    refine VC.cond rfl (fun h43 => ?_) (fun h43 => ?_)
    ·
      refine VC.seq ?_
      refine VC.reg (VO.l (LO.as (.r rfl)) rfl<|VO.l (LO.as (.r rfl)) rfl<|VO.nil ?_)
      refine VE.seqN ?_
      refine VC.ret (VE.inR (VE.thenR (VE.res (vs := [_,_]) rfl ⟨rfl, rfl, trivial⟩ (fun w hw => ?_))))
      refine ⟨?_, St.based hst1 hw⟩
      refine congrArg (fun z => Ending.returned (.tuple #[.int .i64 z, .int .i64 0])) ?_
      first | exact jv1 (by simpa using h43) | exact jv2 (by simpa using h43) (by simpa using h60) | exact jv3 (by simpa using h43) (by simpa using h60)
    ·
      refine VC.seq ?_
      refine VC.draw mixed (LL.l (LO.mv (.r rfl)) rfl<|LL.l (LO.mv (.r rfl)) rfl<|LL.l (LO.ixs S40 N3 hAs (.r rfl) (.r rfl) rfl (by omega)) rfl<|LL.l (LO.ld O3 (.r rfl) (fun w hw => cells_part (off := 0) ((fun w3 h3 => RO.cel (RO.keep hA w3 h3) (ofL_get (q := p) (by omega))) w hw) ⟨_, rfl⟩)) rfl<|LL.l (LO.lt (.r rfl) (.r rfl)) rfl<|LL.l (LO.mv (.r rfl)) rfl<|LL.lg rfl rfl (GD.f _) (fun hg => LO.mv (.r rfl)) rfl<|LL.lg rfl rfl (GD.f _) (fun hg => LO.mv (.r rfl)) rfl<|LL.lg rfl rfl (GD.f _) (fun hg => LO.ixs S40 N3 hAs (.g hg rfl) (.g hg rfl) rfl (by omega)) rfl<|LL.lg rfl rfl (GD.f _) (fun hg => LO.ld O3 (.g hg rfl) (fun w hw => cells_part (off := 0) ((fun w3 h3 => RO.cel (RO.keep hA w3 h3) (ofL_get (q := p) (by omega))) w hw) ⟨_, rfl⟩)) rfl<|LL.lg rfl rfl (GD.f _) (fun hg => LO.mv (.r rfl)) rfl<|LL.lg rfl rfl (GD.f _) (fun hg => LO.mv (.r rfl)) rfl<|LL.lg rfl rfl (GD.f _) (fun hg => LO.ixs S40 N3 hAs (.g hg rfl) (.g hg rfl) rfl (by omega)) rfl<|LL.lg rfl rfl (GD.f _) (fun hg => LO.ld O3 (.g hg rfl) (fun w hw => cells_part (off := 0) ((fun w3 h3 => RO.cel (RO.keep hA w3 h3) (ofL_get (q := q) (by omega))) w hw) ⟨_, rfl⟩)) rfl<|LL.lg rfl rfl (GD.f _) (fun hg => LO.ne (.g hg rfl) (.g hg rfl)) rfl<|LL.l (LO.pkO (.r rfl) (.r rfl) rfl rfl) rfl<|LL.l (LO.as (.r rfl)) rfl<|LL.nil) (by kernel_rfl) ?_
      refine VE.seqN ?_
      refine VC.cond rfl (fun h60 => ?_) (fun h60 => ?_)
      ·
        refine VC.seq ?_
        refine VC.reg (VO.l (LO.as (.r rfl)) rfl<|VO.l (LO.as (.r rfl)) rfl<|VO.nil ?_)
        refine VE.seqN ?_
        refine VC.ret (VE.inR (VE.thenR (VE.res (vs := [_,_]) rfl ⟨rfl, rfl, trivial⟩ (fun w hw => ?_))))
        refine ⟨?_, St.based hst1 hw⟩
        refine congrArg (fun z => Ending.returned (.tuple #[.int .i64 z, .int .i64 0])) ?_
        first | exact jv1 (by simpa using h43) | exact jv2 (by simpa using h43) (by simpa using h60) | exact jv3 (by simpa using h43) (by simpa using h60)
      ·
        refine VC.skip (VE.inN (VE.seqN ?_))
        refine VC.seq ?_
        refine VC.reg (VO.l (LO.as (.r rfl)) rfl<|VO.l (LO.as (.r rfl)) rfl<|VO.nil ?_)
        refine VE.seqN ?_
        refine VC.ret (VE.res (vs := [_,_]) rfl ⟨rfl, rfl, trivial⟩ (fun w hw => ?_))
        refine ⟨?_, St.based hst1 hw⟩
        refine congrArg (fun z => Ending.returned (.tuple #[.int .i64 z, .int .i64 0])) ?_
        first | exact jv1 (by simpa using h43) | exact jv2 (by simpa using h43) (by simpa using h60) | exact jv3 (by simpa using h43) (by simpa using h60)

end Go.Proofs.Ytgemekpofpoopaa

namespace Go.Proofs.Ytgemekpofpoopaa
open Go.SL Go.Proofs Go.Cast Go.Cell
set_option linter.unusedVariables false

theorem C70 : IsFn Try.prog 70 := ⟨_, Try.func70, by decide, rfl⟩
theorem Z145 : ZeroOf Try.prog 145 (.nilFunc) := by unfold ZeroOf; kernel_rfl
theorem N145 : (Try.prog.info? 145).map (·.size) = some 1 := by kernel_rfl
theorem O145 : IsOne Try.prog 145 := ⟨⟨_, Try.underlying145, rfl⟩, by kernel_rfl⟩


def addNow (vs : List Span) (lv : Int) (l : List Nat) (p : Nat) : List Nat := if inB vs lv p = true then l ++ [p] else l
def addNxt (vs : List Span) (lv : Int) (l : List Nat) (p : Nat) : List Nat := if inB vs lv p = true then l else l ++ [p]
def cst (vs : List Span) (lv : Int) (p : Nat) : Nat := if inB vs lv p = true then 0 else 1
abbrev gapR (bn : Nat) (pn : Option Addr) (cn : Nat) (now : List Nat) (bx : Nat) (px : Option Addr) (cx : Nat) (nxt : List Nat) : List Res := [blk bn (.cells #[.slice pn now.length cn] 40), own 3 1 pn cn (now.map nC), blk bx (.cells #[.slice px nxt.length cx] 40), own 3 1 px cx (nxt.map nC)]
theorem addNow_t {vs : List Span} {lv : Int} {l : List Nat} {p : Nat} (h : inB vs lv p = true) : l ++ [p] = addNow vs lv l p ∧ l = addNxt vs lv l p := ⟨(if_pos h).symm, (if_pos h).symm⟩
theorem addNow_f {vs : List Span} {lv : Int} {l : List Nat} {p : Nat} (h : ¬ inB vs lv p = true) : l = addNow vs lv l p ∧ l ++ [p] = addNxt vs lv l p := ⟨(if_neg h).symm, (if_neg h).symm⟩
theorem add_len {vs : List Span} {lv : Int} {now nxt : List Nat} {p : Nat} : (addNow vs lv now p).length + (addNxt vs lv nxt p).length = now.length + nxt.length + 1 := by
  unfold addNow addNxt; split <;> simp <;> omega
theorem addNow_le {vs : List Span} {lv : Int} {l : List Nat} {p : Nat} : (addNow vs lv l p).length ≤ l.length + 1 := by unfold addNow; split <;> simp
structure GapY where
  pn : Option Addr
  cn : Nat
  px : Option Addr
  cx : Nat
def muG (n : Nat) (ls : List Int) (k : Nat) : Nat := 2 * unset ls + (if k = 0 then 0 else 1) + (if n = 0 then 2 else 0)
/-- At the head of a round. -/
def GH (W H : Nat) (M : Nat → Bool) (C : Nat → Nat) (p n : Nat) (ls : List Int) (now next : List Nat) : Prop := (n = 0 ∧ GI W H M C p 0 ls now next X0) ∨ (0 < n ∧ now = [] ∧ GI W H M C p (n - 1) ls [] next X0)
theorem gi_init {W H : Nat} {vs : List Span} {lv : Int} {p : Nat} (hp : p < W * H) (hM : mayB vs lv p = true) : GI W H (mayB vs lv) (cst vs lv) p 0 (List.replicate (W * H) (-1)) (addNow vs lv [] p) (addNxt vs lv [] p) X0 := by
  unfold addNow addNxt
  by_cases h : inB vs lv p = true
  · rw [if_pos h, if_pos h]; exact GI.init0 hp hM (if_pos h)
  · rw [if_neg h, if_neg h]; exact GI.init1 hp hM (if_neg h)
theorem GI.nbAdd {W H : Nat} {vs : List Span} {lv : Int} {p n r k t : Nat} {ls : List Int} {now next : List Nat} (h : GI W H (mayB vs lv) (cst vs lv) p n ls now next (XN W H r k)) (hb : 5 * unset ls + now.length + next.length + 1 ≤ 5 * (W * H) + 1) (hr : r < W * H) (hrd : ls.getD r (-1) = n) (ht : (nb W H r)[k]? = some t) (hM : mayB vs lv t = true) :
    GI W H (mayB vs lv) (cst vs lv) p n ls (addNow vs lv now t) (addNxt vs lv next t) (XN W H r (k + 1)) := by
  unfold addNow addNxt
  by_cases q : inB vs lv t = true
  · rw [if_pos q, if_pos q]; exact h.nbNow hb hr hrd ht hM (if_pos q)
  · rw [if_neg q, if_neg q]; exact h.nbNext hb hr hrd ht hM (if_neg q)
theorem getD_n {ls : List Int} {j : Nat} (h : j < ls.length) : ls[j]? = some (ls.getD j (-1)) := by rw [List.getD_eq_getElem?_getD, List.getElem?_eq_getElem h]; rfl
theorem last_get {l : List Nat} {r : Nat} : (l ++ [r])[l.length]? = some r := by rw [List.getElem?_append_right (Nat.le_refl _), Nat.sub_self]; rfl
theorem nb_le4 {W H p : Nat} : (nb W H p).length ≤ 4 := by
  rw [nb_len]
  have : ∀ b : Bool, b.toNat ≤ 1 := fun b => by cases b <;> decide
  have h1 := this (decide (0 < p / W)); have h2 := this (decide (0 < p % W)); have h3 := this (decide (p % W + 1 < W)); have h4 := this (decide (p / W + 1 < H))
  omega
theorem own_cap {β : Bs} {L : List Res} {w : World} (hw : St β L w) (i : Nat) {E z cap : Nat} {p : Option Addr} {rows : List (List Value)} (hi : L[i]? = some (own E z p cap rows)) : rows.length ≤ cap := (hw.inv i _ hi).1

theorem gh_pos {W H : Nat} {M : Nat → Bool} {C : Nat → Nat} {p n : Nat} {ls : List Int} {now next : List Nat} (hn : 0 < n) (h : GH W H M C p n ls now next) : 0 < n ∧ now = [] ∧ GI W H M C p (n - 1) ls [] next X0 := by
  rcases h with ⟨h,_⟩ | h
  · omega
  · exact h
theorem gh_zero {W H : Nat} {M : Nat → Bool} {C : Nat → Nat} {p : Nat} {ls : List Int} {now next : List Nat} (h : GH W H M C p 0 ls now next) : GI W H M C p 0 ls now next X0 := by
  rcases h with ⟨_, h⟩ | ⟨h,_⟩
  · exact h
  · omega
theorem gh_len {W H : Nat} {M : Nat → Bool} {C : Nat → Nat} {p n : Nat} {ls : List Int} {now next : List Nat} (h : GH W H M C p n ls now next) : ls.length = W * H := by
  rcases h with ⟨_, h⟩ | ⟨_,_, h⟩ <;> exact h.len
theorem gh_bd {W H : Nat} {M : Nat → Bool} {C : Nat → Nat} {p n : Nat} {ls : List Int} {now next : List Nat} (h : GH W H M C p n ls now next) : 5 * unset ls + now.length + next.length ≤ 5 * (W * H) + 1 := by
  rcases h with ⟨_, h⟩ | ⟨_, rfl, h⟩ <;> exact h.bd
theorem gh_end {W H : Nat} {M : Nat → Bool} {C : Nat → Nat} {p n : Nat} {ls : List Int} {now next : List Nat} (h : GH W H M C p n ls now next) (hk : now.length + next.length = 0) : GI W H M C p (n - 1) ls [] [] X0 := by
  have h1 : now = [] := List.eq_nil_of_length_eq_zero (by omega)
  have h2 : next = [] := List.eq_nil_of_length_eq_zero (by omega)
  subst h1; subst h2
  rcases h with ⟨rfl, h⟩ | ⟨_,_, h⟩ <;> exact h
theorem gh_mu {W H : Nat} {M : Nat → Bool} {C : Nat → Nat} {p n : Nat} {ls ls2 : List Int} {now next next2 : List Nat} (h : GH W H M C p n ls now next) (hpr : unset ls2 < unset ls ∨ n = 0 ∨ next2 = []) (hle : unset ls2 ≤ unset ls) (hk : (0 : Int) < (now.length : Int) + (next.length : Int)) : muG (n + 1) ls2 next2.length < muG n ls (now.length + next.length) := by
  unfold muG
  rw [if_neg (by omega : ¬ now.length + next.length = 0), if_neg (by omega : ¬ n + 1 = 0)]
  rcases hpr with z | z | z
  · split <;> split <;> omega
  · subst z; rw [if_pos rfl]; split <;> omega
  · subst z; simp; split <;> omega
theorem snoc_of {l : List Nat} (h : 0 < l.length) : ∃ i r, l = i ++ [r] := by
  rcases List.eq_nil_or_concat l with q | ⟨i, r, q⟩
  · subst q; simp at h
  · exact ⟨i, r, by rw [q, List.concat_eq_append]⟩
theorem Gp.src {W H : Nat} {M : Nat → Bool} {C : Nat → Nat} {p n q : Nat} (h : Gp W H M C p n q) : M p = true := by induction h with | start h => exact h | step _ _ _ ih => exact ih

set_option maxRecDepth 20000 in
theorem add_c (g : Grid) (vs : List Span) (pv : Option Addr) (cv : Nat) (lv : Int) (p n : Nat) (now nxt : List Nat) (pn : Option Addr) (cn : Nat) (px : Option Addr) (cx bs_ bn bx : Nat) (w : World) (hh : Has w (gapR bn pn cn now bx px cx nxt)) (hsc : ∀ {L : List Res} {v : World}, St ⟨w, fpL (gapR bn pn cn now bx px cx nxt)⟩ L v → Cells v ⟨bs_, 0, none⟩ [.int .i64 g.x, .int .i64 g.y, .int .i64 g.size, .int .i64 g.wide, .int .i64 g.high, .slice pv vs.length cv, .int .i64 lv] ∧ Spans v pv vs) (hp : p < vs.length) (hb : now.length ≤ 1000000 ∧ nxt.length ≤ 1000000) :
  Calls Try.prog 70 #[.int .i64 (p : Int), .int .i64 (n : Int), .pointer (some ⟨bs_, 0, none⟩), .pointer (some ⟨bn, 0, none⟩), .pointer (some ⟨bx, 0, none⟩)] w fun e w' => ∃ y : GapY, True ∧ e = .returned (.tuple #[]) ∧ St ⟨w, fpL (gapR bn pn cn now bx px cx nxt)⟩ (gapR bn y.pn y.cn (addNow vs lv now p) bx y.px y.cx (addNxt vs lv nxt p)) w' := by
  refine enterO (vs := [_,_,_,_,_]) (env := [(0,_), (1,_), (2,_), (3,_), (4,_)]) hh.enter Try.func70 rfl rfl rfl rfl ?_
  refine VC.seq ?_
  refine VC.seq ?_
  refine VC.reg (VO.l (LO.lda (vs := [_,_,_,_,_,_,_]) A128 (.r rfl) (fun _ hw => sub_cells (off := 0) (hsc hw).1 ⟨_, rfl⟩) rfl) rfl<|VO.l (LO.mv (.r rfl)) rfl<|VO.l (LO.call (xs := [_,_]) (vs := [_,_]) C63 ⟨(.r rfl), (.r rfl), trivial⟩ (fun w2 hw => in_c g vs pv cv lv p w2 (hsc hw).2 hp)) rfl<|VO.nil ?_)
  refine VE.seqN ?_
  refine VC.cond rfl (fun h9 => ?_) (fun h9 => ?_)
  ·
    refine VC.seq ?_
    refine VC.reg (VO.l (LO.ld O40 (.r rfl) (fun _ hw => cells_at hw 0 rfl ⟨_, rfl⟩)) rfl<|VO.l (LO.mv (.r rfl)) rfl<|VO.h rfl<|HO.bs (ps := [(_,_)]) (vs := [(_,_)]) (Z := [_]) (C := [_]) S40 Z3 N3 ⟨(.r rfl), trivial⟩ rfl rfl rfl rfl ⟨_, [_], [_], rfl, rfl, rfl, rfl, rfl⟩ fun b5 => VO.h rfl<|HO.appT (p) 2 0 (fun R => [_,_, R,_,_]) S40 S40 I3 (.r rfl) (.r rfl) rfl rfl rfl rfl rfl rfl rfl (fun _ => rfl) rfl (by omega) fun p3 c3 => VO.h0<|HO.st 1 (vs := [_]) (C' := [_]) (L' := [_,_,_,_,_]) N40 rfl rfl rfl rfl rfl rfl rfl rfl<|VO.nil ?_)
    refine VE.seqN ?_
    refine VC.ret (VE.thenR (VE.res (vs := []) rfl trivial (fun w hw => ?_)))
    have e1 := (addNow_t (l := now) h9).1
    have e2 := (addNow_t (l := nxt) h9).2
    rw [← e1, ← e2]
    exact ⟨⟨p3, c3, px, cx⟩, trivial, rfl, selK [1,2,3,4] rfl rfl _ hw⟩
  ·
    refine VC.skip (VE.seqN ?_)
    refine VC.reg (VO.l (LO.ld O40 (.r rfl) (fun _ hw => cells_at hw 2 rfl ⟨_, rfl⟩)) rfl<|VO.l (LO.mv (.r rfl)) rfl<|VO.h rfl<|HO.bs (ps := [(_,_)]) (vs := [(_,_)]) (Z := [_]) (C := [_]) S40 Z3 N3 ⟨(.r rfl), trivial⟩ rfl rfl rfl rfl ⟨_, [_], [_], rfl, rfl, rfl, rfl, rfl⟩ fun b7 => VO.h rfl<|HO.appT (p) 4 0 (fun R => [_,_,_,_, R]) S40 S40 I3 (.r rfl) (.r rfl) rfl rfl rfl rfl rfl rfl rfl (fun _ => rfl) rfl (by omega) fun p3 c3 => VO.h0<|HO.st 3 (vs := [_]) (C' := [_]) (L' := [_,_,_,_,_]) N40 rfl rfl rfl rfl rfl rfl rfl rfl<|VO.nil ?_)
    refine VE.resN (vs := []) rfl trivial (fun w hw => ?_)
    have e1 := (addNow_f (l := now) h9).1
    have e2 := (addNow_f (l := nxt) h9).2
    rw [← e1, ← e2]
    exact ⟨⟨pn, cn, p3, c3⟩, trivial, rfl, selK [1,2,3,4] rfl rfl _ hw⟩

set_option maxRecDepth 20000 in
set_option maxHeartbeats 16000000 in
theorem Gap_ok (g : Grid) (vs : List Span) (pv : Option Addr) (cv : Nat) (lv : Int) (p q : Nat) (w : World) (hv : Spans w pv vs) (hpx : pixE g vs lv p q = 0) :
  Calls Try.prog 22 #[fieldV g pv vs.length cv, .int .i64 lv, .int .i64 (p : Int), .int .i64 (q : Int)] w fun e w' => ∃ z : Int, IsGap (gW g) (gH g) (mayB vs lv) (cst vs lv) p q z ∧ e = .returned (.tuple #[.int .i64 z, .int .i64 0]) ∧ St (bs w) [] w' := by
  obtain ⟨hok, a, b, ea, eb, ha, hb⟩ := pixOk hpx
  have hp : p < vs.length := by omega
  have hq : q < vs.length := by omega
  obtain ⟨hg, hlen, hok2, hlv1, hlv2⟩ := openOk hok
  have hvl : vs.length = gW g * gH g := len_n hg hlen
  have har := area_le hg
  obtain ⟨hW, hH, hW1, hW2, hH1, hH2⟩ := gWi hg
  refine enter (vs := [_,_,_,_]) (env := [(0,_), (1,_), (2,_), (3,_)]) Try.func22 rfl rfl rfl rfl ?_
  refine VC.seq ?_
  refine VC.reg (VO.h rfl<|HO.box (C := #[_,_,_,_,_,_]) rfl rfl fun b1 => VO.l (LO.as (.r rfl)) rfl<|VO.l (LO.as (.r rfl)) rfl<|VO.nil ?_)
  refine VE.seqN ?_
  refine VC.seq ?_
  refine VC.reg (VO.l (LO.lda (vs := [_,_,_,_,_,_]) A26 (.r rfl) (fun _ hw => cells_at hw 0 rfl ⟨_, rfl⟩) rfl) rfl<|VO.l (LO.mv (.r rfl)) rfl<|VO.l (LO.mv (.r rfl)) rfl<|VO.l (LO.mv (.r rfl)) rfl<|VO.l (LO.call (xs := [_,_,_,_]) (vs := [_,_,_,_]) C61 ⟨(.r rfl), (.r rfl), (.r rfl), (.r rfl), trivial⟩ (fun w hw => pixels_ok g vs pv cv lv _ _ w (hv.keep w hw) hpx)) rfl<|VO.l (LO.mv (.r rfl)) rfl<|VO.l (LO.ex (.r rfl) rfl) rfl<|VO.l (LO.ex (.r rfl) rfl) rfl<|VO.h rfl<|HO.alloc (C := #[_,_,_,_,_,_,_]) Z128 rfl fun b2 => VO.h0<|HO.st 0 (vs := [_,_,_,_,_,_,_]) (C' := [_,_,_,_,_,_,_]) (L' := [_,_]) N128 rfl rfl rfl rfl rfl rfl rfl rfl<|VO.l (LO.as (.r rfl)) rfl<|VO.nil ?_)
  refine VE.seqN ?_
  refine VC.seq ?_
  refine VC.block ?_
  refine VC.seq ?_
  refine VC.reg (VO.l (LO.mv (.r rfl)) rfl<|VO.l (LO.ne (.r rfl) (.r rfl)) rfl<|VO.l (LO.as (.r rfl)) rfl<|VO.nil ?_)
  refine VE.seqN ?_
  refine VC.cond rfl (fun h27 => ?_) (fun h27 => ?_)
  ·
    (exfalso; exact h27 rfl)
  ·
    refine VC.seq ?_
    refine VC.reg (VO.l (LO.lda (vs := [_,_,_,_,_,_,_]) A128 (.r rfl) (fun _ hw => cells_at hw 0 rfl ⟨_, rfl⟩) rfl) rfl<|VO.l (LO.mv (.r rfl)) rfl<|VO.l (LO.call (xs := [_,_]) (vs := [_,_]) C64 ⟨(.r rfl), (.r rfl), trivial⟩ (fun w hw => may_c g vs pv cv lv p w (hv.keep w hw) hp)) rfl<|VO.l (LO.not (.r rfl)) rfl<|VO.l (LO.as (.r rfl)) rfl<|VO.nil ?_)
    refine VE.seqN ?_
    refine VC.cond rfl (fun h31 => ?_) (fun h31 => ?_)
    ·
      refine VC.seq ?_
      refine VC.reg (VO.l (LO.as (.r rfl)) rfl<|VO.l (LO.as (.r rfl)) rfl<|VO.nil ?_)
      refine VE.seqN ?_
      refine VC.ret (VE.inR (VE.thenR (VE.res (vs := [_,_]) rfl ⟨rfl, rfl, trivial⟩ (fun w hw => ?_))))
      first | exact ⟨-1, .inl ⟨rfl, fun n hg => (by have z := Gp.src hg; simp_all)⟩, rfl, hw.nil⟩ | exact ⟨_, (gh_end hG0 (by omega)).gap (by omega) (by omega), rfl, St.based hst1 hw⟩
    ·
      have hM : mayB vs lv p = true := by simpa using h31
      refine VC.skip (VE.inN (VE.seqN ?_))
      refine VC.seq ?_
      refine VC.rebase fun w1 hst1 => ?_
      have hfl : Cells w1 ⟨b1,0, none⟩ [.int .i64 g.x, .int .i64 g.y, .int .i64 g.size, .int .i64 g.wide, .int .i64 g.high, .slice pv vs.length cv] := cells_inv (hst1.inv 1 _ rfl)
      have hsh : Cells w1 ⟨b2,0, none⟩ [.int .i64 g.x, .int .i64 g.y, .int .i64 g.size, .int .i64 g.wide, .int .i64 g.high, .slice pv vs.length cv, .int .i64 lv] := cells_inv (hst1.inv 0 _ rfl)
      have hv1 := hv.keep w1 hst1
      refine VC.reg (VO.h rfl<|HO.bs (ps := [(_,_)]) (vs := [(_,_)]) (Z := [_]) (C := [_]) S40 Z3 N3 ⟨(.r rfl), trivial⟩ rfl rfl rfl rfl ⟨_, [_], [_], rfl, rfl, rfl, rfl, rfl⟩ fun b4 => VO.l (LO.fa (r := 5) F26_1 (.r rfl) rfl) rfl<|VO.l (LO.ld O24 (.r rfl) (cells_keep (sub_cells (off := 5) hfl ⟨_, rfl⟩))) rfl<|VO.l (LO.len S24 (.r rfl) rfl) rfl<|VO.h rfl<|HO.callx (xs := [_,_]) (vs := [_,_]) C69 ⟨(.r rfl), (.r rfl), trivial⟩ (fun w hw => Repeat_c (-1) _ 1 vs.length w (ints_blk 0 hw rfl) (by omega)) fun x _ => VO.h rfl<|HO.alloc (C := #[_]) Z40 rfl fun b6 => VO.h0<|HO.st 0 (vs := [_]) (C' := [_]) (L' := [_,_,_]) N40 rfl rfl rfl rfl rfl rfl rfl rfl<|VO.nil ?_)
      rw [show List.replicate vs.length (-1 : Int) = List.replicate (gW g * gH g) (-1) from by rw [hvl]]
      refine VE.seqN ?_
      refine VC.seq ?_
      refine VC.dm0 ?_
      refine VC.reg (VO.h rfl<|HO.alloc (C := #[_]) Z40 rfl fun b9 => VO.h rfl<|HO.alloc (C := #[_]) Z40 rfl fun b10 => VO.nil ?_)
      refine VE.seqN ?_
      refine VC.seq ?_
      refine VC.reg (VO.h rfl<|HO.lo (LO.mf (cap := [_,_,_]) ⟨(.r rfl), (.r rfl), (.r rfl), trivial⟩)<|VO.h rfl<|HO.alloc (C := #[_]) Z145 rfl fun b11 => VO.h0<|HO.st 0 (vs := [_]) (C' := [_]) (L' := [_,_,_,_,_,_,_]) N145 rfl rfl rfl rfl rfl rfl rfl rfl<|VO.nil ?_)
      refine VE.seqN ?_
      refine VC.seq ?_
      refine VC.res (fun w hw => (hw.ownNil 3 1).ownNil 3 1) ?_
      show VC _ _ _ _ _ _ (own 3 1 none 0 (([] : List Nat).map nC) :: own 3 1 none 0 (([] : List Nat).map nC) :: _) _ _
      refine VC.reg (VO.l (LO.ld O145 (.r rfl) (fun _ hw => cells_at hw 2 rfl ⟨_, rfl⟩)) rfl<|VO.l (LO.mv (.r rfl)) rfl<|VO.h rfl<|HO.callP (first := []) (cap := [_,_,_]) (xs := [_,_]) (vs := [_,_]) [_,_,_,_] [_,_,_,_,_] (selK (L1 := [_,_,_,_] ++ [_,_,_,_,_]) [4,0,3,1,2,5,6,7,8] rfl rfl) (.r rfl) C70 ⟨(.r rfl), (.r rfl), trivial⟩ (fun w hw hh => add_c g vs pv cv lv p _ [] [] none 0 none 0 b2 b9 b10 w hh (fun hs => ⟨cells_keep hsh _ (St.fz (R := gapR b9 none 0 [] b10 none 0 []) (rest := [_,_,_,_,_]) (selK [4,0,3,1,2,5,6,7,8] rfl rfl _ hw) hs), hv1.keep _ (St.fz (R := gapR b9 none 0 [] b10 none 0 []) (rest := [_,_,_,_,_]) (selK [4,0,3,1,2,5,6,7,8] rfl rfl _ hw) hs)⟩) (hp) (by decide)) fun y1 _ => VO.nil ?_)
      refine VE.seqN ?_
      refine VC.seq ?_
      refine VC.seq ?_
      refine VC.reg (VO.h rfl<|HO.alloc (C := #[_]) Z3 rfl fun b21 => VO.h0<|HO.st 0 (vs := [_]) (C' := [_]) (L' := [_,_,_,_,_,_,_,_,_,_]) N3 rfl rfl rfl rfl rfl rfl rfl rfl<|VO.nil ?_)
      refine VE.seqN ?_
      refine VC.block ?_
      refine VC.perm [8,1,2,3,4,0,6,5,7,9] rfl ?_
      refine VC.loopD (α := Nat × (List Int) × (List Nat) × (List Nat) × (Option Addr) × Nat × (Option Addr) × Nat × Nat × (List Nat)) 7 (fun gx => [(16, .pointer (some ⟨gx.2.2.2.2.2.2.2.2.1,0, none⟩))]) [(3,_), (4,_), (10,_), (12,_), (13,_), (14,_), (15,_)] (fun gx => [own 3 1 x.1 x.2 (gx.2.1.map iC), blk b9 (.cells #[.slice gx.2.2.2.2.1 gx.2.2.1.length gx.2.2.2.2.2.1] 40), own 3 1 gx.2.2.2.2.1 gx.2.2.2.2.2.1 (gx.2.2.1.map nC), blk b10 (.cells #[.slice gx.2.2.2.2.2.2.1 gx.2.2.2.1.length gx.2.2.2.2.2.2.2.1] 40), own 3 1 gx.2.2.2.2.2.2.1 gx.2.2.2.2.2.2.2.1 (gx.2.2.2.1.map nC), blk gx.2.2.2.2.2.2.2.2.1 (.cells #[.int .i64 (gx.1 : Int)] 3), Db gx.2.2.2.2.2.2.2.2.2]) (fun gx => gx.2.2.2.2.2.2.2.2.2) (fun gx => GH (gW g) (gH g) (mayB vs lv) (cst vs lv) p gx.1 gx.2.1 gx.2.2.1 gx.2.2.2.1 ∧ gx.1 + muG gx.1 gx.2.1 (gx.2.2.1.length + gx.2.2.2.1.length) ≤ 2 * (gW g * gH g) + 3) (fun gx => muG gx.1 gx.2.1 (gx.2.2.1.length + gx.2.2.2.1.length)) (0, (List.replicate (gW g * gH g) (-1)), (addNow vs lv [] p), (addNxt vs lv [] p), y1.pn, y1.cn, y1.px, y1.cx, b21, []) rfl (by exact ⟨.inl ⟨rfl, gi_init (by omega) hM⟩, by unfold muG; rw [unset_rep]; dsimp only; split <;> split <;> omega⟩) (.cons rfl (.cons rfl (.cons rfl (.cons rfl (.cons rfl (.cons rfl (.cons rfl (.cons rfl .nil)))))))) (fun _ h => h) ?_
      rintro ⟨n, ls, now, next, pn, cn, px, cx, bn, Ds⟩ ⟨hG0, hmu⟩
      show VC _ _ _ _ _ ([(16, .pointer (some ⟨bn, 0, none⟩))] ++ _) ([own 3 1 x.1 x.2 (ls.map iC), blk b9 (.cells #[.slice pn now.length cn] 40), own 3 1 pn cn (now.map nC), blk b10 (.cells #[.slice px next.length cx] 40), own 3 1 px cx (next.map nC), blk bn (.cells #[.int .i64 (n : Int)] 3), Db Ds] ++ _) _ _
      dsimp only at hG0 hmu
      have hll := gh_len hG0
      have hnb : n ≤ 2 * (gW g * gH g) + 3 := by omega
      have hbd0 := gh_bd hG0
      refine VC.seq ?_
      refine VC.seq ?_
      refine VC.reg (VO.l (LO.ld O40 (.r rfl) (fun _ hw => cells_at hw 1 rfl ⟨_, rfl⟩)) rfl<|VO.l (LO.len S40 (.r rfl) rfl) rfl<|VO.l (LO.ld O40 (.r rfl) (fun _ hw => cells_at hw 3 rfl ⟨_, rfl⟩)) rfl<|VO.l (LO.len S40 (.r rfl) rfl) rfl<|VO.l (LO.add (.r rfl) (.r rfl) (wi (by omega) (by omega))) rfl<|VO.l (LO.gt (.r rfl) (.r rfl)) rfl<|VO.nil ?_)
      refine VE.seqN ?_
      refine VC.cond rfl (fun h50 => ?_) (fun h50 => ?_)
      ·
        refine VC.skip (VE.seqN ?_)
        refine VC.seq ?_
        refine VC.block ?_
        refine VC.seq ?_
        refine VC.seq ?_
        refine VC.reg (VO.l (LO.ld O3 (.r rfl) (fun _ hw => cells_at hw 5 rfl ⟨_, rfl⟩)) rfl<|VO.l (LO.gt (.r rfl) (.r rfl)) rfl<|VO.nil ?_)
        refine VE.seqN ?_
        refine VC.cond rfl (fun h54 => ?_) (fun h54 => ?_)
        ·
          obtain ⟨hn1, hn2, hG⟩ := gh_pos (by omega) hG0
          subst hn2
          have hGs := hG.swap
          rw [show n - 1 + 1 = n by omega] at hGs
          refine VC.reg (VO.l (LO.ld O40 (.r rfl) (fun _ hw => cells_at hw 3 rfl ⟨_, rfl⟩)) rfl<|VO.h0<|HO.st 1 (vs := [_]) (C' := [_]) (L' := [_,_,_,_,_,_,_,_,_,_]) N40 rfl rfl rfl rfl rfl rfl rfl rfl<|VO.h0<|HO.st 3 (vs := [_]) (C' := [_]) (L' := [_,_,_,_,_,_,_,_,_,_]) N40 rfl rfl rfl rfl rfl rfl rfl rfl<|VO.nil ?_)
          refine VE.seqN ?_
          refine VC.block ?_
          refine VC.res (fun w hw => hw.ownNil 3 1) ?_
          show VC _ _ _ _ _ _ (own 3 1 none 0 (([] : List Nat).map nC) :: _) _ _
          refine VC.perm [1,2,5,4,0,7,3,6,8,9,10] rfl ?_
          refine VC.loopD (α := (List Int) × (List Nat) × (List Nat) × (Option Addr) × Nat × (Option Addr) × Nat × (List Nat)) 6 (fun gx => []) [(3,_), (4,_), (10,_), (12,_), (13,_), (14,_), (15,_), (16,_)] (fun gx => [own 3 1 x.1 x.2 (gx.1.map iC), blk b9 (.cells #[.slice gx.2.2.2.1 gx.2.1.length gx.2.2.2.2.1] 40), own 3 1 gx.2.2.2.1 gx.2.2.2.2.1 (gx.2.1.map nC), blk b10 (.cells #[.slice gx.2.2.2.2.2.1 gx.2.2.1.length gx.2.2.2.2.2.2.1] 40), own 3 1 gx.2.2.2.2.2.1 gx.2.2.2.2.2.2.1 (gx.2.2.1.map nC), Db gx.2.2.2.2.2.2.2]) (fun gx => gx.2.2.2.2.2.2.2) (fun gx => GI (gW g) (gH g) (mayB vs lv) (cst vs lv) p n gx.1 gx.2.1 gx.2.2.1 X0 ∧ unset gx.1 ≤ unset ls ∧ (unset gx.1 < unset ls ∨ n = 0 ∨ gx.2.2.1 = [])) (fun gx => 5 * unset gx.1 + gx.2.1.length) (ls, next, [], px, cx, none, 0, Ds) rfl (by exact ⟨hGs, Nat.le_refl _, by first | exact .inr (.inl hn0) | exact .inr (.inr rfl)⟩) (.cons rfl (.cons rfl (.cons rfl (.cons rfl (.cons rfl (.cons rfl (.cons rfl (.cons rfl .nil)))))))) (fun _ h => h) ?_
          rintro ⟨ls2, now2, next2, pn2, cn2, px2, cx2, Ds2⟩ ⟨hG2, hle, hpr⟩
          show VC _ _ _ _ _ ([] ++ _) ([own 3 1 x.1 x.2 (ls2.map iC), blk b9 (.cells #[.slice pn2 now2.length cn2] 40), own 3 1 pn2 cn2 (now2.map nC), blk b10 (.cells #[.slice px2 next2.length cx2] 40), own 3 1 px2 cx2 (next2.map nC), Db Ds2] ++ _) _ _
          dsimp only at hG2 hle hpr
          have hll2 := hG2.len
          have hbd2 := hG2.bd
          refine VC.seq ?_
          refine VC.seq ?_
          refine VC.reg (VO.l (LO.ld O40 (.r rfl) (fun _ hw => cells_at hw 1 rfl ⟨_, rfl⟩)) rfl<|VO.l (LO.len S40 (.r rfl) rfl) rfl<|VO.l (LO.gt (.r rfl) (.r rfl)) rfl<|VO.nil ?_)
          refine VE.seqN ?_
          refine VC.cond rfl (fun h58 => ?_) (fun h58 => ?_)
          ·
            obtain ⟨ini, r, hnr⟩ := snoc_of (l := now2) (by omega)
            subst hnr
            have hrm := hG2.now_ r (by simp)
            have hil : (ini ++ [r]).length = ini.length + 1 := by simp
            refine VC.skip (VE.seqN ?_)
            refine VC.block ?_
            refine VC.seq ?_
            refine VC.pur (fun w hw => own_cap hw 2 rfl) fun hcap => ?_
            rw [List.length_map, List.length_append, List.length_singleton] at hcap
            refine VC.reg (VO.l (LO.ld O40 (.r rfl) (fun _ hw => cells_at hw 1 rfl ⟨_, rfl⟩)) rfl<|VO.l (LO.ld O40 (.r rfl) (fun _ hw => cells_at hw 1 rfl ⟨_, rfl⟩)) rfl<|VO.l (LO.len S40 (.r rfl) rfl) rfl<|VO.l (LO.sub (.r rfl) (.r rfl) (wi (by rw [List.length_append, List.length_singleton]; omega) (by rw [List.length_append, List.length_singleton]; omega))) rfl<|VO.l (LO.ixo S40 N3 (fun _ hw => (own_rows hw 2 rfl).some (by rw [List.length_map])) (.r rfl) (.r rfl) (j := ini.length) (by rw [List.length_append, List.length_singleton]; omega) (by rw [List.length_append, List.length_singleton]; omega)) rfl<|VO.l (LO.ld O3 (.r rfl) (fun w hw => cells_part (off := 0) (own_cell hw 2 rfl last_get) ⟨_, rfl⟩)) rfl<|VO.l (LO.as (.r rfl)) rfl<|VO.nil ?_)
            refine VE.seqN ?_
            refine VC.seq ?_
            refine VC.reg (VO.l (LO.ld O40 (.r rfl) (fun _ hw => cells_at hw 1 rfl ⟨_, rfl⟩)) rfl<|VO.l (LO.ld O40 (.r rfl) (fun _ hw => cells_at hw 1 rfl ⟨_, rfl⟩)) rfl<|VO.l (LO.len S40 (.r rfl) rfl) rfl<|VO.l (LO.sub (.r rfl) (.r rfl) (wi (by rw [List.length_append, List.length_singleton]; omega) (by rw [List.length_append, List.length_singleton]; omega))) rfl<|VO.l (LO.slH (k := ini.length) S40 N3 (.r rfl) (.r rfl) (by rw [List.length_append, List.length_singleton]; omega) (by omega)) rfl<|VO.h0<|HO.st 1 (vs := [_]) (C' := [_]) (L' := [_,_,_,_,_,_,_,_,_,_,_]) N40 rfl rfl rfl rfl rfl rfl rfl rfl<|VO.nil ?_)
            refine VE.seqN ?_
            refine VC.seq ?_
            refine VC.seq ?_
            rw [List.map_append]
            refine VC.res (fun w hw => St.ownCut hw 2 rfl) ?_
            show VC _ _ _ _ _ _ [_,_, own 3 1 pn2 cn2 (ini.map nC),_,_,_,_,_,_,_,_] _ _
            refine VC.reg (VO.l (LO.ld O40 (.r rfl) (fun _ hw => cells_at hw 9 rfl ⟨_, rfl⟩)) rfl<|VO.l (LO.mv (.r rfl)) rfl<|VO.l (LO.ixo S40 N3 (fun _ hw => (own_rows hw 0 rfl).some (by rw [List.length_map]; omega)) (.r rfl) (.r rfl) rfl (by omega)) rfl<|VO.l (LO.ld O3 (.r rfl) (fun w hw => cells_part (off := 0) (own_cell hw 0 rfl (getD_n (by omega))) ⟨_, rfl⟩)) rfl<|VO.l (LO.ge (.r rfl) (.r rfl)) rfl<|VO.nil ?_)
            refine VE.seqN ?_
            refine VC.cond rfl (fun h74 => ?_) (fun h74 => ?_)
            ·
              have hGk := hG2.skip h74
              refine VC.exit (VE.thenX (VE.inX ?_))
              refine VE.thenN fun a w ha hw => ⟨(ls2, ini, next2, pn2, cn2, px2, cx2, Ds2), ⟨hGk, hle, hpr⟩, (by dsimp only; rw [List.length_append, List.length_singleton]; omega), ha.sub (.cons rfl (.cons rfl (.cons rfl (.cons rfl (.cons rfl (.cons rfl (.cons rfl (.cons rfl .nil)))))))), hw⟩
            ·
              have hrn : ls2.getD r (-1) < 0 := by omega
              obtain ⟨hGp, hU⟩ := hG2.put hrn
              have hbd := hG2.bd
              rw [List.length_append, List.length_singleton] at hbd
              have hls3 := hGp.len
              refine VC.skip (VE.seqN ?_)
              refine VC.seq ?_
              refine VC.reg (VO.l (LO.ld O40 (.r rfl) (fun _ hw => cells_at hw 9 rfl ⟨_, rfl⟩)) rfl<|VO.l (LO.mv (.r rfl)) rfl<|VO.l (LO.ld O3 (.r rfl) (fun _ hw => cells_at hw 7 rfl ⟨_, rfl⟩)) rfl<|VO.l (LO.ixo S40 N3 (fun _ hw => (own_rows hw 0 rfl).some (by rw [List.length_map]; omega)) (.r rfl) (.r rfl) rfl (by omega)) rfl<|VO.h0<|HO.stm 0 (fun R => [R,_,_,_,_,_,_,_,_,_,_]) (((n : Nat) : Int)) (vs := [_]) N3 (.r rfl) (.r rfl) rfl (by omega) rfl rfl rfl rfl rfl (fun _ => rfl)<|VO.nil ?_)
              refine VE.seqN ?_
              refine VC.seq ?_
              refine VC.reg (VO.l (LO.fa (r := 0) F26_0 (.r rfl) rfl) rfl<|VO.l (LO.lda (vs := [_,_,_,_,_]) A23 (.r rfl) (cells_keep (sub_cells (off := 0) hfl ⟨_, rfl⟩)) rfl) rfl<|VO.l (LO.mv (.r rfl)) rfl<|VO.h rfl<|HO.callx (xs := [_,_]) (vs := [_,_]) C71 ⟨(.r rfl), (.r rfl), trivial⟩ (fun w hw => around_c g r w) fun ya _ => VO.nil ?_)
              refine VE.seqN ?_
              refine VC.block ?_
              refine VC.rangeFuncC (α := (List Nat) × (List Nat) × (Option Addr) × Nat × (Option Addr) × Nat) [_,_,_,_,_,_,_,_] (fun gx => [blk b9 (.cells #[.slice gx.2.2.1 gx.1.length gx.2.2.2.1] 40), own 3 1 gx.2.2.1 gx.2.2.2.1 (gx.1.map nC), blk b10 (.cells #[.slice gx.2.2.2.2.1 gx.2.1.length gx.2.2.2.2.2] 40), own 3 1 gx.2.2.2.2.1 gx.2.2.2.2.2 (gx.2.1.map nC)]) (fun n_ gx => GI (gW g) (gH g) (mayB vs lv) (cst vs lv) p n (ls2.set r ((n : Nat) : Int)) gx.1 gx.2.1 (XN (gW g) (gH g) r n_) ∧ gx.1.length + gx.2.1.length ≤ ini.length + next2.length + n_ ∧ gx.1.length ≤ ini.length + n_) (fun _ _ _ => False) (ini, next2, pn2, cn2, px2, cx2) (fun vs => [(10, .pointer (some ⟨b2,0, none⟩)), (12, .pointer (some ⟨b6,0, none⟩)), (15, .pointer (some ⟨b11,0, none⟩)), (16, .pointer (some ⟨bn, 0, none⟩)), (18, vs.getD 0 (.int .i64 0))]) rfl C107 (around_seq g r ya.1 ya.2 hg hrm.1) (selK [3,4,5,6,0,1,2,8,9,10,11,12,7] rfl rfl) (⟨hGp, by dsimp only; omega, by dsimp only; omega⟩) (fun vs hv => by obtain ⟨n,_, rfl⟩ := List.mem_map.1 hv; rfl) (by decide) (fun n x w _ h => ⟨cells_inv (h 4 _ rfl), cells_inv (h 5 _ rfl)⟩) ?_ ?_ ?_ (fun _ _ _ _ _ h => h.elim)
              ·
                rintro n_ ⟨now3, next3, pn3, cn3, px3, cx3⟩ vs__ l_ T w1 hI hxs hst
                obtain ⟨t, ht, rfl⟩ : ∃ r_, (nb (gW g) (gH g) r)[n_]? = some r_ ∧ nC r_ = vs__ := by rw [List.getElem?_map] at hxs; cases hz : (nb (gW g) (gH g) r)[n_]? with | none => (rw [hz] at hxs; cases hxs) | some r => (rw [hz] at hxs; exact ⟨r, rfl, Option.some.inj hxs⟩)
                obtain ⟨hG3, hb3, hb5⟩ := hI
                dsimp only at hG3 hb3 hb5
                have htl := nb_lt hrm.1 (List.mem_of_getElem? ht)
                have hn4 : n_ < 4 := Nat.lt_of_lt_of_le (List.getElem?_eq_some_iff.1 ht).1 nb_le4
                have hrr : (ls2.set r ((n : Nat) : Int)).getD r (-1) = n := by rw [getD_set (by omega), if_pos rfl]
                show VC _ _ _ _ _ _ ([blk b9 (.cells #[.slice pn3 now3.length cn3] 40), own 3 1 pn3 cn3 (now3.map nC), blk b10 (.cells #[.slice px3 next3.length cx3] 40), own 3 1 px3 cx3 (next3.map nC),_,_,_,_,_,_,_,_] ++ T) _ _
                refine VC.reg (VO.l (LO.as (.r rfl)) rfl<|VO.nil ?_)
                exact fun a w ha hw => ⟨rfl, ha.sub (.cons rfl (.cons rfl (.cons rfl (.cons rfl (.cons rfl .nil))))), hw⟩
              ·
                rintro n_ ⟨now3, next3, pn3, cn3, px3, cx3⟩ vs__ l_ T w1 hI hxs hst
                obtain ⟨t, ht, rfl⟩ : ∃ r_, (nb (gW g) (gH g) r)[n_]? = some r_ ∧ nC r_ = vs__ := by rw [List.getElem?_map] at hxs; cases hz : (nb (gW g) (gH g) r)[n_]? with | none => (rw [hz] at hxs; cases hxs) | some r => (rw [hz] at hxs; exact ⟨r, rfl, Option.some.inj hxs⟩)
                obtain ⟨hG3, hb3, hb5⟩ := hI
                dsimp only at hG3 hb3 hb5
                have htl := nb_lt hrm.1 (List.mem_of_getElem? ht)
                have hn4 : n_ < 4 := Nat.lt_of_lt_of_le (List.getElem?_eq_some_iff.1 ht).1 nb_le4
                have hrr : (ls2.set r ((n : Nat) : Int)).getD r (-1) = n := by rw [getD_set (by omega), if_pos rfl]
                show VC _ _ _ _ _ _ ([blk b9 (.cells #[.slice pn3 now3.length cn3] 40), own 3 1 pn3 cn3 (now3.map nC), blk b10 (.cells #[.slice px3 next3.length cx3] 40), own 3 1 px3 cx3 (next3.map nC),_,_,_,_,_,_,_,_] ++ T) _ _
                refine VC.block ?_
                refine VC.seq ?_
                refine VC.reg (VO.l (LO.lda (vs := [_,_,_,_,_,_,_]) A128 (.r rfl) (fun _ hw => sub_cells (off := 0) (cells_keep hsh _ (hst.back hw)) ⟨_, rfl⟩) rfl) rfl<|VO.l (LO.mv (.r rfl)) rfl<|VO.l (LO.call (xs := [_,_]) (vs := [_,_]) C64 ⟨(.r rfl), (.r rfl), trivial⟩ (fun w2 hw2 => may_c g vs pv cv lv t w2 (hv1.keep _ (hst.back hw2)) (by omega))) rfl<|VO.l (LO.mv (.r rfl)) rfl<|VO.lg rfl rfl (GD.t _) (fun hg => LO.ld O40 (.r rfl) (fun _ hw => cells_at hw 10 rfl ⟨_, rfl⟩)) rfl<|VO.lg rfl rfl (GD.t _) (fun hg => LO.mv (.r rfl)) rfl<|VO.lg rfl rfl (GD.t _) (fun hg => LO.ixo S40 N3 (fun _ hw => (own_rows hw 6 rfl).some (by rw [List.length_map]; omega)) (.g hg rfl) (.g hg rfl) rfl (by omega)) rfl<|VO.lg rfl rfl (GD.t _) (fun hg => LO.ld O3 (.g hg rfl) (fun w hw => cells_part (off := 0) (own_cell hw 6 rfl (getD_n (by omega))) ⟨_, rfl⟩)) rfl<|VO.lg rfl rfl (GD.t _) (fun hg => LO.lt (.g hg rfl) (.r rfl)) rfl<|VO.l (LO.pkA (.r rfl) rfl rfl (.r rfl)) rfl<|VO.nil ?_)
                refine VE.seqN ?_
                refine VC.cond rfl (fun h93 => ?_) (fun h93 => ?_)
                ·
                  have h93b : mayB vs lv t = true ∧ (ls2.set r ((n : Nat) : Int)).getD t (-1) < 0 := by simpa using h93
                  refine VC.reg (VO.l (LO.ld O145 (.r rfl) (fun _ hw => cells_at hw 9 rfl ⟨_, rfl⟩)) rfl<|VO.l (LO.mv (.r rfl)) rfl<|VO.l (LO.ld O3 (.r rfl) (fun _ hw => cells_at hw 8 rfl ⟨_, rfl⟩)) rfl<|VO.h rfl<|HO.callP (first := []) (cap := [_,_,_]) (xs := [_,_]) (vs := [_,_]) [_,_,_,_] ([_,_,_,_,_,_,_,_] ++ T) (selKT (L := [_,_,_,_,_,_,_,_,_,_,_,_]) (L1 := [_,_,_,_]) (L2 := [_,_,_,_,_,_,_,_]) (X := T) [0,1,2,3,4,5,6,7,8,9,10,11] rfl rfl rfl) (.r rfl) C70 ⟨(.r rfl), (.r rfl), trivial⟩ (fun w hw hh => add_c g vs pv cv lv t _ now3 next3 pn3 cn3 px3 cx3 b2 b9 b10 w hh (fun hs => ⟨cells_keep hsh _ (hst.back (St.fz (R := gapR b9 pn3 cn3 now3 b10 px3 cx3 next3) (rest := [_,_,_,_,_,_,_,_] ++ T) (selKT (L := [_,_,_,_,_,_,_,_,_,_,_,_]) (L1 := [_,_,_,_]) (L2 := [_,_,_,_,_,_,_,_]) (X := T) [0,1,2,3,4,5,6,7,8,9,10,11] rfl rfl rfl _ hw) hs)), hv1.keep _ (hst.back (St.fz (R := gapR b9 pn3 cn3 now3 b10 px3 cx3 next3) (rest := [_,_,_,_,_,_,_,_] ++ T) (selKT (L := [_,_,_,_,_,_,_,_,_,_,_,_]) (L1 := [_,_,_,_]) (L2 := [_,_,_,_,_,_,_,_]) (X := T) [0,1,2,3,4,5,6,7,8,9,10,11] rfl rfl rfl _ hw) hs))⟩) (by omega) (by omega)) fun y3 _ => VO.nil ?_)
                  refine VE.inN ?_
                  exact fun a w ha hw => ⟨(addNow vs lv now3 t, addNxt vs lv next3 t, y3.pn, y3.cn, y3.px, y3.cx), ⟨GI.nbAdd hG3 (by omega) hrm.1 hrr ht h93b.1, by have := add_len (vs := vs) (lv := lv) (now := now3) (nxt := next3) (p := t); dsimp only; omega, by have := addNow_le (vs := vs) (lv := lv) (l := now3) (p := t); dsimp only; omega⟩, selKT (L := [_,_,_,_,_,_,_,_,_,_,_,_]) (L1 := [_,_,_,_,_,_,_,_,_,_,_,_]) (L2 := []) (X := T) [0,1,2,3,4,5,6,7,8,9,10,11] rfl rfl rfl w hw⟩
                ·
                  have h93b : ¬ (mayB vs lv t = true ∧ (ls2.set r ((n : Nat) : Int)).getD t (-1) < 0) := by simpa using h93
                  refine VC.skip (VE.inN ?_)
                  exact fun a w ha hw => ⟨(now3, next3, pn3, cn3, px3, cx3), ⟨hG3.nbSkip hrm.1 hrr ht h93b, by dsimp only; omega, by dsimp only; omega⟩, selKT (L := [_,_,_,_,_,_,_,_,_,_,_,_]) (L1 := [_,_,_,_,_,_,_,_,_,_,_,_]) (L2 := []) (X := T) [0,1,2,3,4,5,6,7,8,9,10,11] rfl rfl rfl w hw⟩
              ·
                rintro D_ ⟨now3, next3, pn3, cn3, px3, cx3⟩ hI
                obtain ⟨hG3, hb3, hb5⟩ := hI
                dsimp only at hG3 hb3 hb5
                have hnl : ((nb (gW g) (gH g) r).map nC).length ≤ 4 := by rw [List.length_map]; exact nb_le4
                have hGd := hG3.nbDone (by rw [List.length_map]; exact Nat.le_refl _)
                have hb4 := hGd.bd
                show VE _ _ _ _ [blk b9 (.cells #[.slice pn3 now3.length cn3] 40), own 3 1 pn3 cn3 (now3.map nC), blk b10 (.cells #[.slice px3 next3.length cx3] 40), own 3 1 px3 cx3 (next3.map nC),_,_,_,_,_,_,_,_,_] _ _
                refine VE.inN (VE.inN ?_)
                refine VE.thenN fun a w ha hw => ⟨((ls2.set r ((n : Nat) : Int)), now3, next3, pn3, cn3, px3, cx3, D_ :: Ds2), ⟨hGd, by dsimp only; omega, .inl (by dsimp only; omega)⟩, (by dsimp only; rw [List.length_append, List.length_singleton]; omega), ha.sub (.cons rfl (.cons rfl (.cons rfl (.cons rfl (.cons rfl (.cons rfl (.cons rfl (.cons rfl .nil)))))))), hw.sel [6,0,1,2,3,12,7,8,9,10,11] rfl⟩
          ·
            have hnow : now2 = [] := List.eq_nil_of_length_eq_zero (by omega)
            subst hnow
            refine VC.exit (VE.thenX (VE.thenX (VE.inX (VE.inN (VE.seqN ?_)))))
            refine VC.seq ?_
            refine VC.seq ?_
            refine VC.reg (VO.l (LO.ld O3 (.r rfl) (fun _ hw => cells_at hw 7 rfl ⟨_, rfl⟩)) rfl<|VO.nil ?_)
            refine VE.seqN ?_
            refine VC.reg (VO.h rfl<|HO.alloc (C := #[_]) Z3 rfl fun b76 => VO.h0<|HO.st 0 (vs := [_]) (C' := [_]) (L' := [_,_,_,_,_,_,_,_,_,_,_,_]) N3 rfl rfl rfl rfl rfl rfl rfl rfl<|VO.nil ?_)
            refine VE.seqN ?_
            refine VC.reg (VO.l (LO.ld O3 (.r rfl) (fun _ hw => cells_at hw 0 rfl ⟨_, rfl⟩)) rfl<|VO.l (LO.add (.r rfl) (.r rfl) (wi (by omega) (by omega))) rfl<|VO.h0<|HO.st 0 (vs := [_]) (C' := [_]) (L' := [_,_,_,_,_,_,_,_,_,_,_,_]) N3 rfl rfl rfl rfl rfl rfl rfl rfl<|VO.nil ?_)
            refine VE.thenN fun a w ha hw => ⟨(n + 1, ls2, [], next2, pn2, cn2, px2, cx2, b76, Ds2), ⟨.inr ⟨Nat.succ_pos _, rfl, by rw [Nat.add_sub_cancel]; exact hG2⟩, by have hm_ := gh_mu hG0 hpr hle h50; dsimp only; simp only [List.length_nil, Nat.zero_add] at hm_ hmu ⊢; omega⟩, (by have hm_ := gh_mu hG0 hpr hle h50; dsimp only; simp only [List.length_nil, Nat.zero_add] at hm_ hmu ⊢; omega), ha.sub (.cons rfl (.cons rfl (.cons rfl (.cons rfl (.cons rfl (.cons rfl (.cons rfl (.cons rfl .nil)))))))), hw.sel [1,2,3,4,5,0,6,9,10,11] rfl⟩
        ·
          have hn0 : n = 0 := by omega
          have hGs : GI (gW g) (gH g) (mayB vs lv) (cst vs lv) p n ls now next X0 := by have z := hG0; rw [hn0] at z ⊢; exact gh_zero z
          refine VC.skip (VE.seqN ?_)
          refine VC.block ?_
          refine VC.perm [0,1,2,3,4,6,5,7,8,9] rfl ?_
          refine VC.loopD (α := (List Int) × (List Nat) × (List Nat) × (Option Addr) × Nat × (Option Addr) × Nat × (List Nat)) 6 (fun gx => []) [(3,_), (4,_), (10,_), (12,_), (13,_), (14,_), (15,_), (16,_)] (fun gx => [own 3 1 x.1 x.2 (gx.1.map iC), blk b9 (.cells #[.slice gx.2.2.2.1 gx.2.1.length gx.2.2.2.2.1] 40), own 3 1 gx.2.2.2.1 gx.2.2.2.2.1 (gx.2.1.map nC), blk b10 (.cells #[.slice gx.2.2.2.2.2.1 gx.2.2.1.length gx.2.2.2.2.2.2.1] 40), own 3 1 gx.2.2.2.2.2.1 gx.2.2.2.2.2.2.1 (gx.2.2.1.map nC), Db gx.2.2.2.2.2.2.2]) (fun gx => gx.2.2.2.2.2.2.2) (fun gx => GI (gW g) (gH g) (mayB vs lv) (cst vs lv) p n gx.1 gx.2.1 gx.2.2.1 X0 ∧ unset gx.1 ≤ unset ls ∧ (unset gx.1 < unset ls ∨ n = 0 ∨ gx.2.2.1 = [])) (fun gx => 5 * unset gx.1 + gx.2.1.length) (ls, now, next, pn, cn, px, cx, Ds) rfl (by exact ⟨hGs, Nat.le_refl _, by first | exact .inr (.inl hn0) | exact .inr (.inr rfl)⟩) (.cons rfl (.cons rfl (.cons rfl (.cons rfl (.cons rfl (.cons rfl (.cons rfl (.cons rfl .nil)))))))) (fun _ h => h) ?_
          rintro ⟨ls2, now2, next2, pn2, cn2, px2, cx2, Ds2⟩ ⟨hG2, hle, hpr⟩
          show VC _ _ _ _ _ ([] ++ _) ([own 3 1 x.1 x.2 (ls2.map iC), blk b9 (.cells #[.slice pn2 now2.length cn2] 40), own 3 1 pn2 cn2 (now2.map nC), blk b10 (.cells #[.slice px2 next2.length cx2] 40), own 3 1 px2 cx2 (next2.map nC), Db Ds2] ++ _) _ _
          dsimp only at hG2 hle hpr
          have hll2 := hG2.len
          have hbd2 := hG2.bd
          refine VC.seq ?_
          refine VC.seq ?_
          refine VC.reg (VO.l (LO.ld O40 (.r rfl) (fun _ hw => cells_at hw 1 rfl ⟨_, rfl⟩)) rfl<|VO.l (LO.len S40 (.r rfl) rfl) rfl<|VO.l (LO.gt (.r rfl) (.r rfl)) rfl<|VO.nil ?_)
          refine VE.seqN ?_
          refine VC.cond rfl (fun h58 => ?_) (fun h58 => ?_)
          ·
            obtain ⟨ini, r, hnr⟩ := snoc_of (l := now2) (by omega)
            subst hnr
            have hrm := hG2.now_ r (by simp)
            have hil : (ini ++ [r]).length = ini.length + 1 := by simp
            refine VC.skip (VE.seqN ?_)
            refine VC.block ?_
            refine VC.seq ?_
            refine VC.pur (fun w hw => own_cap hw 2 rfl) fun hcap => ?_
            rw [List.length_map, List.length_append, List.length_singleton] at hcap
            refine VC.reg (VO.l (LO.ld O40 (.r rfl) (fun _ hw => cells_at hw 1 rfl ⟨_, rfl⟩)) rfl<|VO.l (LO.ld O40 (.r rfl) (fun _ hw => cells_at hw 1 rfl ⟨_, rfl⟩)) rfl<|VO.l (LO.len S40 (.r rfl) rfl) rfl<|VO.l (LO.sub (.r rfl) (.r rfl) (wi (by rw [List.length_append, List.length_singleton]; omega) (by rw [List.length_append, List.length_singleton]; omega))) rfl<|VO.l (LO.ixo S40 N3 (fun _ hw => (own_rows hw 2 rfl).some (by rw [List.length_map])) (.r rfl) (.r rfl) (j := ini.length) (by rw [List.length_append, List.length_singleton]; omega) (by rw [List.length_append, List.length_singleton]; omega)) rfl<|VO.l (LO.ld O3 (.r rfl) (fun w hw => cells_part (off := 0) (own_cell hw 2 rfl last_get) ⟨_, rfl⟩)) rfl<|VO.l (LO.as (.r rfl)) rfl<|VO.nil ?_)
            refine VE.seqN ?_
            refine VC.seq ?_
            refine VC.reg (VO.l (LO.ld O40 (.r rfl) (fun _ hw => cells_at hw 1 rfl ⟨_, rfl⟩)) rfl<|VO.l (LO.ld O40 (.r rfl) (fun _ hw => cells_at hw 1 rfl ⟨_, rfl⟩)) rfl<|VO.l (LO.len S40 (.r rfl) rfl) rfl<|VO.l (LO.sub (.r rfl) (.r rfl) (wi (by rw [List.length_append, List.length_singleton]; omega) (by rw [List.length_append, List.length_singleton]; omega))) rfl<|VO.l (LO.slH (k := ini.length) S40 N3 (.r rfl) (.r rfl) (by rw [List.length_append, List.length_singleton]; omega) (by omega)) rfl<|VO.h0<|HO.st 1 (vs := [_]) (C' := [_]) (L' := [_,_,_,_,_,_,_,_,_,_]) N40 rfl rfl rfl rfl rfl rfl rfl rfl<|VO.nil ?_)
            refine VE.seqN ?_
            refine VC.seq ?_
            refine VC.seq ?_
            rw [List.map_append]
            refine VC.res (fun w hw => St.ownCut hw 2 rfl) ?_
            show VC _ _ _ _ _ _ [_,_, own 3 1 pn2 cn2 (ini.map nC),_,_,_,_,_,_,_] _ _
            refine VC.reg (VO.l (LO.ld O40 (.r rfl) (fun _ hw => cells_at hw 8 rfl ⟨_, rfl⟩)) rfl<|VO.l (LO.mv (.r rfl)) rfl<|VO.l (LO.ixo S40 N3 (fun _ hw => (own_rows hw 0 rfl).some (by rw [List.length_map]; omega)) (.r rfl) (.r rfl) rfl (by omega)) rfl<|VO.l (LO.ld O3 (.r rfl) (fun w hw => cells_part (off := 0) (own_cell hw 0 rfl (getD_n (by omega))) ⟨_, rfl⟩)) rfl<|VO.l (LO.ge (.r rfl) (.r rfl)) rfl<|VO.nil ?_)
            refine VE.seqN ?_
            refine VC.cond rfl (fun h74 => ?_) (fun h74 => ?_)
            ·
              have hGk := hG2.skip h74
              refine VC.exit (VE.thenX (VE.inX ?_))
              refine VE.thenN fun a w ha hw => ⟨(ls2, ini, next2, pn2, cn2, px2, cx2, Ds2), ⟨hGk, hle, hpr⟩, (by dsimp only; rw [List.length_append, List.length_singleton]; omega), ha.sub (.cons rfl (.cons rfl (.cons rfl (.cons rfl (.cons rfl (.cons rfl (.cons rfl (.cons rfl .nil)))))))), hw⟩
            ·
              have hrn : ls2.getD r (-1) < 0 := by omega
              obtain ⟨hGp, hU⟩ := hG2.put hrn
              have hbd := hG2.bd
              rw [List.length_append, List.length_singleton] at hbd
              have hls3 := hGp.len
              refine VC.skip (VE.seqN ?_)
              refine VC.seq ?_
              refine VC.reg (VO.l (LO.ld O40 (.r rfl) (fun _ hw => cells_at hw 8 rfl ⟨_, rfl⟩)) rfl<|VO.l (LO.mv (.r rfl)) rfl<|VO.l (LO.ld O3 (.r rfl) (fun _ hw => cells_at hw 6 rfl ⟨_, rfl⟩)) rfl<|VO.l (LO.ixo S40 N3 (fun _ hw => (own_rows hw 0 rfl).some (by rw [List.length_map]; omega)) (.r rfl) (.r rfl) rfl (by omega)) rfl<|VO.h0<|HO.stm 0 (fun R => [R,_,_,_,_,_,_,_,_,_]) (((n : Nat) : Int)) (vs := [_]) N3 (.r rfl) (.r rfl) rfl (by omega) rfl rfl rfl rfl rfl (fun _ => rfl)<|VO.nil ?_)
              refine VE.seqN ?_
              refine VC.seq ?_
              refine VC.reg (VO.l (LO.fa (r := 0) F26_0 (.r rfl) rfl) rfl<|VO.l (LO.lda (vs := [_,_,_,_,_]) A23 (.r rfl) (cells_keep (sub_cells (off := 0) hfl ⟨_, rfl⟩)) rfl) rfl<|VO.l (LO.mv (.r rfl)) rfl<|VO.h rfl<|HO.callx (xs := [_,_]) (vs := [_,_]) C71 ⟨(.r rfl), (.r rfl), trivial⟩ (fun w hw => around_c g r w) fun ya _ => VO.nil ?_)
              refine VE.seqN ?_
              refine VC.block ?_
              refine VC.rangeFuncC (α := (List Nat) × (List Nat) × (Option Addr) × Nat × (Option Addr) × Nat) [_,_,_,_,_,_,_] (fun gx => [blk b9 (.cells #[.slice gx.2.2.1 gx.1.length gx.2.2.2.1] 40), own 3 1 gx.2.2.1 gx.2.2.2.1 (gx.1.map nC), blk b10 (.cells #[.slice gx.2.2.2.2.1 gx.2.1.length gx.2.2.2.2.2] 40), own 3 1 gx.2.2.2.2.1 gx.2.2.2.2.2 (gx.2.1.map nC)]) (fun n_ gx => GI (gW g) (gH g) (mayB vs lv) (cst vs lv) p n (ls2.set r ((n : Nat) : Int)) gx.1 gx.2.1 (XN (gW g) (gH g) r n_) ∧ gx.1.length + gx.2.1.length ≤ ini.length + next2.length + n_ ∧ gx.1.length ≤ ini.length + n_) (fun _ _ _ => False) (ini, next2, pn2, cn2, px2, cx2) (fun vs => [(10, .pointer (some ⟨b2,0, none⟩)), (12, .pointer (some ⟨b6,0, none⟩)), (15, .pointer (some ⟨b11,0, none⟩)), (16, .pointer (some ⟨bn, 0, none⟩)), (18, vs.getD 0 (.int .i64 0))]) rfl C107 (around_seq g r ya.1 ya.2 hg hrm.1) (selK [3,4,5,6,0,1,2,8,9,10,11,7] rfl rfl) (⟨hGp, by dsimp only; omega, by dsimp only; omega⟩) (fun vs hv => by obtain ⟨n,_, rfl⟩ := List.mem_map.1 hv; rfl) (by decide) (fun n x w _ h => ⟨cells_inv (h 4 _ rfl), cells_inv (h 5 _ rfl)⟩) ?_ ?_ ?_ (fun _ _ _ _ _ h => h.elim)
              ·
                rintro n_ ⟨now3, next3, pn3, cn3, px3, cx3⟩ vs__ l_ T w1 hI hxs hst
                obtain ⟨t, ht, rfl⟩ : ∃ r_, (nb (gW g) (gH g) r)[n_]? = some r_ ∧ nC r_ = vs__ := by rw [List.getElem?_map] at hxs; cases hz : (nb (gW g) (gH g) r)[n_]? with | none => (rw [hz] at hxs; cases hxs) | some r => (rw [hz] at hxs; exact ⟨r, rfl, Option.some.inj hxs⟩)
                obtain ⟨hG3, hb3, hb5⟩ := hI
                dsimp only at hG3 hb3 hb5
                have htl := nb_lt hrm.1 (List.mem_of_getElem? ht)
                have hn4 : n_ < 4 := Nat.lt_of_lt_of_le (List.getElem?_eq_some_iff.1 ht).1 nb_le4
                have hrr : (ls2.set r ((n : Nat) : Int)).getD r (-1) = n := by rw [getD_set (by omega), if_pos rfl]
                show VC _ _ _ _ _ _ ([blk b9 (.cells #[.slice pn3 now3.length cn3] 40), own 3 1 pn3 cn3 (now3.map nC), blk b10 (.cells #[.slice px3 next3.length cx3] 40), own 3 1 px3 cx3 (next3.map nC),_,_,_,_,_,_,_] ++ T) _ _
                refine VC.reg (VO.l (LO.as (.r rfl)) rfl<|VO.nil ?_)
                exact fun a w ha hw => ⟨rfl, ha.sub (.cons rfl (.cons rfl (.cons rfl (.cons rfl (.cons rfl .nil))))), hw⟩
              ·
                rintro n_ ⟨now3, next3, pn3, cn3, px3, cx3⟩ vs__ l_ T w1 hI hxs hst
                obtain ⟨t, ht, rfl⟩ : ∃ r_, (nb (gW g) (gH g) r)[n_]? = some r_ ∧ nC r_ = vs__ := by rw [List.getElem?_map] at hxs; cases hz : (nb (gW g) (gH g) r)[n_]? with | none => (rw [hz] at hxs; cases hxs) | some r => (rw [hz] at hxs; exact ⟨r, rfl, Option.some.inj hxs⟩)
                obtain ⟨hG3, hb3, hb5⟩ := hI
                dsimp only at hG3 hb3 hb5
                have htl := nb_lt hrm.1 (List.mem_of_getElem? ht)
                have hn4 : n_ < 4 := Nat.lt_of_lt_of_le (List.getElem?_eq_some_iff.1 ht).1 nb_le4
                have hrr : (ls2.set r ((n : Nat) : Int)).getD r (-1) = n := by rw [getD_set (by omega), if_pos rfl]
                show VC _ _ _ _ _ _ ([blk b9 (.cells #[.slice pn3 now3.length cn3] 40), own 3 1 pn3 cn3 (now3.map nC), blk b10 (.cells #[.slice px3 next3.length cx3] 40), own 3 1 px3 cx3 (next3.map nC),_,_,_,_,_,_,_] ++ T) _ _
                refine VC.block ?_
                refine VC.seq ?_
                refine VC.reg (VO.l (LO.lda (vs := [_,_,_,_,_,_,_]) A128 (.r rfl) (fun _ hw => sub_cells (off := 0) (cells_keep hsh _ (hst.back hw)) ⟨_, rfl⟩) rfl) rfl<|VO.l (LO.mv (.r rfl)) rfl<|VO.l (LO.call (xs := [_,_]) (vs := [_,_]) C64 ⟨(.r rfl), (.r rfl), trivial⟩ (fun w2 hw2 => may_c g vs pv cv lv t w2 (hv1.keep _ (hst.back hw2)) (by omega))) rfl<|VO.l (LO.mv (.r rfl)) rfl<|VO.lg rfl rfl (GD.t _) (fun hg => LO.ld O40 (.r rfl) (fun _ hw => cells_at hw 9 rfl ⟨_, rfl⟩)) rfl<|VO.lg rfl rfl (GD.t _) (fun hg => LO.mv (.r rfl)) rfl<|VO.lg rfl rfl (GD.t _) (fun hg => LO.ixo S40 N3 (fun _ hw => (own_rows hw 6 rfl).some (by rw [List.length_map]; omega)) (.g hg rfl) (.g hg rfl) rfl (by omega)) rfl<|VO.lg rfl rfl (GD.t _) (fun hg => LO.ld O3 (.g hg rfl) (fun w hw => cells_part (off := 0) (own_cell hw 6 rfl (getD_n (by omega))) ⟨_, rfl⟩)) rfl<|VO.lg rfl rfl (GD.t _) (fun hg => LO.lt (.g hg rfl) (.r rfl)) rfl<|VO.l (LO.pkA (.r rfl) rfl rfl (.r rfl)) rfl<|VO.nil ?_)
                refine VE.seqN ?_
                refine VC.cond rfl (fun h93 => ?_) (fun h93 => ?_)
                ·
                  have h93b : mayB vs lv t = true ∧ (ls2.set r ((n : Nat) : Int)).getD t (-1) < 0 := by simpa using h93
                  refine VC.reg (VO.l (LO.ld O145 (.r rfl) (fun _ hw => cells_at hw 8 rfl ⟨_, rfl⟩)) rfl<|VO.l (LO.mv (.r rfl)) rfl<|VO.l (LO.ld O3 (.r rfl) (fun _ hw => cells_at hw 7 rfl ⟨_, rfl⟩)) rfl<|VO.h rfl<|HO.callP (first := []) (cap := [_,_,_]) (xs := [_,_]) (vs := [_,_]) [_,_,_,_] ([_,_,_,_,_,_,_] ++ T) (selKT (L := [_,_,_,_,_,_,_,_,_,_,_]) (L1 := [_,_,_,_]) (L2 := [_,_,_,_,_,_,_]) (X := T) [0,1,2,3,4,5,6,7,8,9,10] rfl rfl rfl) (.r rfl) C70 ⟨(.r rfl), (.r rfl), trivial⟩ (fun w hw hh => add_c g vs pv cv lv t _ now3 next3 pn3 cn3 px3 cx3 b2 b9 b10 w hh (fun hs => ⟨cells_keep hsh _ (hst.back (St.fz (R := gapR b9 pn3 cn3 now3 b10 px3 cx3 next3) (rest := [_,_,_,_,_,_,_] ++ T) (selKT (L := [_,_,_,_,_,_,_,_,_,_,_]) (L1 := [_,_,_,_]) (L2 := [_,_,_,_,_,_,_]) (X := T) [0,1,2,3,4,5,6,7,8,9,10] rfl rfl rfl _ hw) hs)), hv1.keep _ (hst.back (St.fz (R := gapR b9 pn3 cn3 now3 b10 px3 cx3 next3) (rest := [_,_,_,_,_,_,_] ++ T) (selKT (L := [_,_,_,_,_,_,_,_,_,_,_]) (L1 := [_,_,_,_]) (L2 := [_,_,_,_,_,_,_]) (X := T) [0,1,2,3,4,5,6,7,8,9,10] rfl rfl rfl _ hw) hs))⟩) (by omega) (by omega)) fun y3 _ => VO.nil ?_)
                  refine VE.inN ?_
                  exact fun a w ha hw => ⟨(addNow vs lv now3 t, addNxt vs lv next3 t, y3.pn, y3.cn, y3.px, y3.cx), ⟨GI.nbAdd hG3 (by omega) hrm.1 hrr ht h93b.1, by have := add_len (vs := vs) (lv := lv) (now := now3) (nxt := next3) (p := t); dsimp only; omega, by have := addNow_le (vs := vs) (lv := lv) (l := now3) (p := t); dsimp only; omega⟩, selKT (L := [_,_,_,_,_,_,_,_,_,_,_]) (L1 := [_,_,_,_,_,_,_,_,_,_,_]) (L2 := []) (X := T) [0,1,2,3,4,5,6,7,8,9,10] rfl rfl rfl w hw⟩
                ·
                  have h93b : ¬ (mayB vs lv t = true ∧ (ls2.set r ((n : Nat) : Int)).getD t (-1) < 0) := by simpa using h93
                  refine VC.skip (VE.inN ?_)
                  exact fun a w ha hw => ⟨(now3, next3, pn3, cn3, px3, cx3), ⟨hG3.nbSkip hrm.1 hrr ht h93b, by dsimp only; omega, by dsimp only; omega⟩, selKT (L := [_,_,_,_,_,_,_,_,_,_,_]) (L1 := [_,_,_,_,_,_,_,_,_,_,_]) (L2 := []) (X := T) [0,1,2,3,4,5,6,7,8,9,10] rfl rfl rfl w hw⟩
              ·
                rintro D_ ⟨now3, next3, pn3, cn3, px3, cx3⟩ hI
                obtain ⟨hG3, hb3, hb5⟩ := hI
                dsimp only at hG3 hb3 hb5
                have hnl : ((nb (gW g) (gH g) r).map nC).length ≤ 4 := by rw [List.length_map]; exact nb_le4
                have hGd := hG3.nbDone (by rw [List.length_map]; exact Nat.le_refl _)
                have hb4 := hGd.bd
                show VE _ _ _ _ [blk b9 (.cells #[.slice pn3 now3.length cn3] 40), own 3 1 pn3 cn3 (now3.map nC), blk b10 (.cells #[.slice px3 next3.length cx3] 40), own 3 1 px3 cx3 (next3.map nC),_,_,_,_,_,_,_,_] _ _
                refine VE.inN (VE.inN ?_)
                refine VE.thenN fun a w ha hw => ⟨((ls2.set r ((n : Nat) : Int)), now3, next3, pn3, cn3, px3, cx3, D_ :: Ds2), ⟨hGd, by dsimp only; omega, .inl (by dsimp only; omega)⟩, (by dsimp only; rw [List.length_append, List.length_singleton]; omega), ha.sub (.cons rfl (.cons rfl (.cons rfl (.cons rfl (.cons rfl (.cons rfl (.cons rfl (.cons rfl .nil)))))))), hw.sel [6,0,1,2,3,11,7,8,9,10] rfl⟩
          ·
            have hnow : now2 = [] := List.eq_nil_of_length_eq_zero (by omega)
            subst hnow
            refine VC.exit (VE.thenX (VE.thenX (VE.inX (VE.inN (VE.seqN ?_)))))
            refine VC.seq ?_
            refine VC.seq ?_
            refine VC.reg (VO.l (LO.ld O3 (.r rfl) (fun _ hw => cells_at hw 6 rfl ⟨_, rfl⟩)) rfl<|VO.nil ?_)
            refine VE.seqN ?_
            refine VC.reg (VO.h rfl<|HO.alloc (C := #[_]) Z3 rfl fun b122 => VO.h0<|HO.st 0 (vs := [_]) (C' := [_]) (L' := [_,_,_,_,_,_,_,_,_,_,_]) N3 rfl rfl rfl rfl rfl rfl rfl rfl<|VO.nil ?_)
            refine VE.seqN ?_
            refine VC.reg (VO.l (LO.ld O3 (.r rfl) (fun _ hw => cells_at hw 0 rfl ⟨_, rfl⟩)) rfl<|VO.l (LO.add (.r rfl) (.r rfl) (wi (by omega) (by omega))) rfl<|VO.h0<|HO.st 0 (vs := [_]) (C' := [_]) (L' := [_,_,_,_,_,_,_,_,_,_,_]) N3 rfl rfl rfl rfl rfl rfl rfl rfl<|VO.nil ?_)
            refine VE.thenN fun a w ha hw => ⟨(n + 1, ls2, [], next2, pn2, cn2, px2, cx2, b122, Ds2), ⟨.inr ⟨Nat.succ_pos _, rfl, by rw [Nat.add_sub_cancel]; exact hG2⟩, by have hm_ := gh_mu hG0 hpr hle h50; dsimp only; simp only [List.length_nil, Nat.zero_add] at hm_ hmu ⊢; omega⟩, (by have hm_ := gh_mu hG0 hpr hle h50; dsimp only; simp only [List.length_nil, Nat.zero_add] at hm_ hmu ⊢; omega), ha.sub (.cons rfl (.cons rfl (.cons rfl (.cons rfl (.cons rfl (.cons rfl (.cons rfl (.cons rfl .nil)))))))), hw.sel [1,2,3,4,5,0,6,8,9,10] rfl⟩
      ·
        refine VC.exit (VE.thenX (VE.thenX (VE.inX (VE.seqN ?_))))
        refine VC.seq ?_
        refine VC.reg (VO.l (LO.ld O40 (.r rfl) (fun _ hw => cells_at hw 8 rfl ⟨_, rfl⟩)) rfl<|VO.l (LO.mv (.r rfl)) rfl<|VO.l (LO.ixo S40 N3 (fun _ hw => (own_rows hw 0 rfl).some (by rw [List.length_map]; omega)) (.r rfl) (.r rfl) rfl (by omega)) rfl<|VO.l (LO.ld O3 (.r rfl) (fun w hw => cells_part (off := 0) (own_cell hw 0 rfl (getD_n (by omega))) ⟨_, rfl⟩)) rfl<|VO.l (LO.as (.r rfl)) rfl<|VO.l (LO.as (.r rfl)) rfl<|VO.nil ?_)
        refine VE.seqN ?_
        refine VC.ret (VE.resDm (vs := [_,_]) (A := [_,_,_,_,_,_,_,_,_]) rfl (selK [6,0,1,2,3,4,5,7,8,9] rfl rfl) ⟨rfl, rfl, trivial⟩ (fun w hw => ?_))
        first | exact ⟨-1, .inl ⟨rfl, fun n hg => (by have z := Gp.src hg; simp_all)⟩, rfl, hw.nil⟩ | exact ⟨_, (gh_end hG0 (by omega)).gap (by omega) (by omega), rfl, St.based hst1 hw⟩

end Go.Proofs.Ytgemekpofpoopaa
