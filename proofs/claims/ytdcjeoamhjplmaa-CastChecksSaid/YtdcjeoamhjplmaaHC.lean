/-
  maps.Keys, slices.Sorted, slices.Clone and slices.Grow at the types of this seat.
-/
import Derived.Test.YtdcjeoamhjplmaaHB
import Derived.Test.YtdcjeoamhjplmaaHD
set_option linter.unusedVariables false
set_option linter.unusedSimpArgs false
namespace Go.Proofs
open Go.RowKit Go.Maps Go.Sort Go.Shelf
theorem Try.sortsA (m : Nat) : AnyZI.SortsIn Try.prog Try.sortedA_ren Fence.wide m :=
  ⟨fun blk off cap ss W hH hblk hsz => callsIn_wide.2 (Try.slices_Sort_int blk off cap ss W hH hblk hsz),
   fun p cap W => callsIn_wide.2 (Try.slices_Sort_int_none p cap W)⟩
theorem Try.keysCalls (mb : Option Nat) (W : World) : Calls Try.prog 79 #[.map mb] W fun e w' => e = .returned (.func (.func 93) #[] #[.pointer (some ⟨W.heap.size, 0, none⟩)]) ∧ w' = W.alloc (.cells #[.map mb] 118) :=
  (callsIn_wide (n := 5)).1 (AnyZI.keys_in Try.keysA Fence.wide 5 trivial rfl mb W)
theorem Try.sortedCalls {H : Type} (k b nn : Nat) (D0 : DataW H) (R : Value → Option (DataW H × List MemPlace)) (w : World) (hk : w.heap[k]? = some (.cells #[.map (some b)] 118 (0, 0))) (hown : w.ownsMap Try.prog 3 R b nn D0) (hmax : Maps.size D0 ≤ maxLen) (hbytes : Maps.size D0 * 8 ≤ 140737488355328) :
    Calls Try.prog 78 #[.func (.func 93) #[] #[.pointer (some ⟨k, 0, none⟩)]] w fun e w' => ∃ (v : Value) (ss : List Int), e = .returned v ∧ ss.Perm (intKeys D0) ∧
      w'.ownsRow w.heap.size 3 1 v ss.length ((ss.mergeSort (fun x y => decide (x ≤ y))).map encZ) ∧ (v = .slice none 0 0 ↔ ss = []) ∧ Below w.heap.size w w' := by
  refine (callsIn_wide (n := 6)).1 ?_
  have hkl : k < w.heap.size := (Array.getElem?_eq_some_iff.1 hk).1
  have hseq : SeqGives Fence.wide 3 Try.prog 93 #[.pointer (some ⟨k, 0, none⟩)] encZ (fun ss => ss.Perm (intKeys D0)) (Maps.size D0) w :=
    AnyZI.keys_gives (ρ := Try.keysA_ren) { Try.keysA with } Fence.wide _ trivial rfl (by omega) k b nn D0 _ hkl (by simp [World.cell?, hk]) hown
  have cS := AnyZI.sorted_in Try.sortedA Fence.wide 6 trivial trivial trivial trivial rfl (by omega) (Try.sortsA _) (enters_of Try.func92 (by kernel_rfl) rfl) 93 #[.pointer (some ⟨k, 0, none⟩)] trivial (enters_of Try.func93 (by kernel_rfl) rfl) _ _ hmax hbytes _ hseq
  exact cS
end Go.Proofs
namespace Go.Proofs.Ytdcjeoamhjplmaa
open Go.SL Go.Proofs Go.Cast Go.Sort Go.Maps
theorem own_of_row {w w' : World} {E z : Nat} {v : Value} {n : Nat} {l : List (List Value)} (hz : ∀ r ∈ l, r.length = z) (hl : l.length = n) (h : w'.ownsRow w.heap.size E z v n l.flatten) (hb : Go.RowKit.Below w.heap.size w w') :
    ∃ (p : Option Addr) (c : Nat), v = .slice p n c ∧ St (bs w) [own E z p c l] w' := by
  obtain ⟨h1, h2⟩ := h
  have hpre : ∀ k, k < w.heap.size → w'.heap[k]? = w.heap[k]? := hb.block
  rcases h2 with ⟨e, e0⟩ | ⟨g, cap, cur, e, hg, hc, hn, hm, hs, ht⟩
  · have el : l = [] := List.length_eq_zero_iff.1 (by omega)
    subst el; subst e0
    refine ⟨none, 0, e, hb.os, hb.tape, hb.output, hb.size, fun k hk _ => hpre k hk, ?_, ?_, ?_⟩
    · intro i r hr
      cases i with
      | zero => cases hr; exact ⟨by simp, by simp, fun _ => ⟨rfl, rfl⟩, fun a q => (by cases q)⟩
      | succ i => simp at hr
    · intro i r hr k hk
      cases i with
      | zero => cases hr; exact absurd rfl hk.1
      | succ i => simp at hr
    · intro i j r s hij hr hs
      cases i with
      | zero => cases j with | zero => exact absurd rfl hij | succ j => simp at hs
      | succ i => simp at hr
  · refine ⟨some ⟨g, 0, none⟩, cap, e, hb.os, hb.tape, hb.output, hb.size, fun k hk _ => hpre k hk, ?_, ?_, ?_⟩
    · intro i r hr
      cases i with
      | zero =>
        cases hr
        refine ⟨by omega, hz, fun q => (by cases q), fun a q => ?_⟩
        cases q
        refine ⟨rfl, rfl, cur, cur.toList.drop (n * z), hc, ?_, hs⟩
        rw [← ht, List.take_append_drop]
      | succ i => simp at hr
    · intro i r hr k hk
      cases i with
      | zero =>
        cases hr
        have e : k = g := hk.2
        subst e
        exact ⟨.inr hg, (Array.getElem?_eq_some_iff.1 hc).1⟩
      | succ i => simp at hr
    · intro i j r s hij hr hs
      cases i with
      | zero => cases j with | zero => exact absurd rfl hij | succ j => simp at hs
      | succ i => simp at hr

theorem row_ints (l : List Int) : (l.map intC).flatten = l.map encZ := flat_ints l
theorem intC_len (l : List Int) : ∀ r ∈ l.map intC, r.length = 1 := fun r hr => by obtain ⟨x, _, rfl⟩ := List.mem_map.1 hr; rfl
/-- maps.Keys. -/
theorem Keys_h (mb : Option Nat) (w : World) : Calls Try.prog 79 #[.map mb] w fun e w' => ∃ k : Nat, True ∧ e = .returned (.func (.func 93) #[] #[.pointer (some ⟨k, 0, none⟩)]) ∧ St (bs w) [blk k (.cells #[.map mb] 118)] w' :=
  (Try.keysCalls mb w).mono fun e w' ⟨h1, h2⟩ => ⟨w.heap.size, trivial, h1, by subst h2; exact (St.refl w).alloc _⟩
/-- Ascending, and what it holds. -/
def AscOf (S : Int → Bool) (l : List Int) : Prop := l.Pairwise (· < ·) ∧ ∀ n, n ∈ l ↔ S n = true
def keyI (e : MapEntry) : Int := match e.key with | .int _ n => n | _ => 0
theorem asc_sort {S : Int → Bool} {l : List Int} (hn : l.Nodup) (hm : ∀ n, n ∈ l ↔ S n = true) : AscOf S (l.mergeSort fun x y => decide (x ≤ y)) := by
  have tr : ∀ a b c : Int, decide (a ≤ b) = true → decide (b ≤ c) = true → decide (a ≤ c) = true := fun a b c h1 h2 => by simp only [decide_eq_true_eq] at *; omega
  have to : ∀ a b : Int, (decide (a ≤ b) || decide (b ≤ a)) = true := fun a b => by simp only [Bool.or_eq_true, decide_eq_true_eq]; omega
  have hp := List.mergeSort_perm l fun x y => decide (x ≤ y)
  have h1 := List.pairwise_mergeSort tr to l
  have h2 : (l.mergeSort fun x y => decide (x ≤ y)).Nodup := hp.nodup_iff.2 hn
  refine ⟨?_, fun n => by rw [hp.mem_iff]; exact hm n⟩
  refine (List.pairwise_and_iff.2 ⟨h1, h2⟩).imp fun {a b} h => ?_
  have h3 := h.1; have h4 := h.2
  simp only [decide_eq_true_eq] at h3
  omega
/-- slices.Sorted of the keys of a set. -/
theorem Sorted_h (k b : Nat) (m : List Int) (w : World) (hk : w.heap[k]? = some (.cells #[.map (some b)] 118 (0, 0))) (hb : (setR b (memB m)).inv w) (hm : ∀ n, n ∈ m → -9223372036854775808 ≤ n ∧ n ≤ 9223372036854775807) (hl : m.length ≤ 1000000000000) :
    Calls Try.prog 78 #[.func (.func 93) #[] #[.pointer (some ⟨k, 0, none⟩)]] w fun e w' => ∃ x : Option Addr × Nat × List Int, (AscOf (memB m) x.2.2 ∧ x.2.2.length ≤ m.length) ∧ e = .returned (.slice x.1 x.2.2.length x.2.1) ∧ St (bs w) [own 3 1 x.1 x.2.1 (x.2.2.map intC)] w' := by
  obtain ⟨es, clock, h1, hS, hst⟩ := hb
  have hkey : ∀ e, e ∈ es.toList → ∃ n, e.key = .int .i64 n ∧ memB m n = true := fun e he => by obtain ⟨n, e1, _, e2⟩ := hS.ent e he; exact ⟨n, e1, e2⟩
  have hin : ∀ n, memB m n = true → n ∈ m := fun n h => by simpa [memB] using h
  have hu : Try.prog.underlying 3 = some (.int .i64) := Try.underlying3
  have hko : ∀ n, memB m n = true → keyOf Try.prog 3 (.int .i64 n) = some (.int .i64 n) := fun n h => by
    have := hm n (hin n h)
    have hwf : (Lit.int .i64 n).wf = true := by simp only [Lit.wf, Bool.and_eq_true, decide_eq_true_eq]; exact this
    simp [keyOf, hu, mapKey, hwf]
  let R : Value → Option (DataW Unit × List MemPlace) := fun _ => some (.nil, [])
  have hrd : ∀ e, e ∈ es.toList → Go.WideElems.rd Try.prog 3 R e = some (.int .i64 (keyI e), .nil) := fun e he => by
    obtain ⟨n, e1, e2⟩ := hkey e he
    simp [Go.WideElems.rd, e1, hko n e2, R, keyI]
  have hndk : (es.toList.map (·.key)).Nodup := List.pairwise_map.2 hS.nod
  have hki : ∀ e, e ∈ es.toList → e.key = .int .i64 (keyI e) := fun e he => by obtain ⟨n, e1, _⟩ := hkey e he; simp [keyI, e1]
  have hnd : (es.toList.map keyI).Nodup := List.pairwise_map.2 (hS.nod.imp_of_mem fun {a b} ha hb hne e => hne (by rw [hki a ha, hki b hb, e]))
  have hmem : ∀ n, n ∈ es.toList.map keyI ↔ memB m n = true := fun n => by
    rw [List.mem_map]
    constructor
    · rintro ⟨e, he, rfl⟩
      obtain ⟨q, e1, e2⟩ := hkey e he
      simpa [keyI, e1] using e2
    · intro h
      obtain ⟨e, he, e1⟩ := hS.mem n h
      refine ⟨e, he, ?_⟩
      have e2 := hki e he
      rw [e1] at e2
      exact (intV_inj (a := n) (b := keyI e) e2).symm
  have hlen : es.size ≤ m.length := by
    have h3 : ((es.toList.map keyI).length) ≤ m.length := List.Nodup.length_le_of_subset hnd (fun n h => hin n ((hmem n).1 h))
    simpa using h3
  have F : Go.WideElems.Fit Try.prog 3 R es clock := ⟨by simp only [maxLen]; omega, ⟨hst.2, hst.1, hndk⟩, fun e he => ⟨_, hrd e he⟩⟩
  have hown := World.ownsMap_of_fit (R := R) h1 F (fun _ _ _ h => h)
  have hsz : Maps.size (DataW.map ((es.toList.map (Go.WideElems.rg Try.prog 3 R)).foldr DataW.insert [])) = es.size := by simp [Maps.size, length_sorted]
  refine (Try.sortedCalls k b es.size _ R w hk hown (by rw [hsz]; simp only [maxLen]; omega) (by rw [hsz]; omega)).mono fun e w' ⟨v, ss, h2, h3, h4, _, h5⟩ => ?_
  have hp : ss.Perm (es.toList.map keyI) := by
    refine h3.trans ?_
    show (List.map (fun p : Lit × DataW Unit => Go.intOf p.1) ((es.toList.map (Go.WideElems.rg Try.prog 3 R)).foldr DataW.insert [])).Perm _
    refine ((Go.WideShapes.sorted_perm _).map _).trans ?_
    rw [List.map_map]
    refine List.Perm.of_eq (List.map_congr_left fun e he => ?_)
    simp [Go.WideElems.rg_of (hrd e he), Go.intOf]
  have hA := asc_sort (S := memB m) (hp.nodup_iff.2 hnd) (fun n => by rw [hp.mem_iff]; exact hmem n)
  have hL : (ss.mergeSort fun x y => decide (x ≤ y)).length = ss.length := List.length_mergeSort ..
  obtain ⟨p, c, e1, e2⟩ := own_of_row (l := (ss.mergeSort fun x y => decide (x ≤ y)).map intC) (intC_len _) (by rw [List.length_map, hL]) (by rw [row_ints]; exact h4) h5
  refine ⟨(p, c, _), ⟨hA, ?_⟩, by rw [hL, h2, e1], e2⟩
  show (ss.mergeSort fun x y => decide (x ≤ y)).length ≤ _
  rw [hL, hp.length_eq]; simpa using hlen
/-- slices.Clone of ints that are read. -/
theorem Clone_h (p : Option Addr) (l : List Int) (c : Nat) (w : World) (hn : l.length < 1000000000000) (hl : Ints w p l) :
    Calls Try.prog 81 #[.slice p l.length c] w fun e w' => ∃ x : Option Addr × Nat, True ∧ e = .returned (.slice x.1 l.length x.2) ∧ St (bs w) [own 3 1 x.1 x.2 (l.map intC)] w' := by
  cases p with
  | none =>
    have e0 : l = [] := by
      have := hl.some
      cases l with
      | nil => rfl
      | cons a l => exact absurd (this (by simp)) (by simp)
    subst e0
    refine (Try.slices_Clone_int_nil _ c w).mono fun e w' ⟨h1, h2⟩ => ?_
    subst h2
    obtain ⟨p, c, e1, e2⟩ := own_of_row (E := 3) (z := 1) (w := w') (w' := w') (v := .slice none 0 0) (n := 0) (l := []) (by simp) rfl ⟨by simp, .inl ⟨rfl, rfl⟩⟩ (Go.RowKit.Below.refl _ _)
    exact ⟨(p, c), trivial, by rw [h1, e1]; rfl, e2⟩
  | some a =>
    have fin : ∀ {e : Ending} {w' : World}, (∃ v', e = .returned v' ∧ w'.ownsRow w.heap.size 3 1 v' l.length (l.map encZ) ∧ v' ≠ .slice none 0 0 ∧ Go.RowKit.Below w.heap.size w w') →
        ∃ x : Option Addr × Nat, True ∧ e = .returned (.slice x.1 l.length x.2) ∧ St (bs w) [own 3 1 x.1 x.2 (l.map intC)] w' := by
      rintro e w' ⟨v, h1, h2, _, h3⟩
      obtain ⟨p, c, e1, e2⟩ := own_of_row (n := l.length) (l := l.map intC) (intC_len _) (by simp) (by rw [row_ints]; exact h2) h3
      exact ⟨(p, c), trivial, by rw [h1, e1], e2⟩
    cases l with
    | nil => exact (Try.slices_Clone_int_zero a c w).mono fun e w' h => fin h
    | cons x l =>
      have ea := hl.some (by simp)
      injection ea with ea
      rw [ea]
      refine (Try.slices_Clone_int _ _ (x :: l).length c (x :: l) w (Nat.le_refl _) (by omega) fun j hj => ?_).mono fun e w' h => fin (by rw [List.take_length] at h; exact h)
      have h1 := (hl.at hj w (St.refl w)) 0 _ rfl
      simpa [Addr.add] using h1
/-- slices.Grow of nil. -/
theorem Grow_h (n : Nat) (w : World) (hn : n < 1000000000000) :
    Calls Try.prog 94 #[.slice none 0 0, .int .i64 n] w fun e w' => ∃ x : Option Addr × Nat, True ∧ e = .returned (.slice x.1 0 x.2) ∧ St (bs w) [own 3 1 x.1 x.2 []] w' := by
  have hinf : (Try.prog.info? 3).map (fun i => (i.size, i.bytes)) = some (1, 8) := by kernel_rfl
  have hinz : (Try.prog.info? 3).bind (·.zero) = some (.int .i64 0) := by kernel_rfl
  obtain ⟨i0, hi, he⟩ := Option.map_eq_some_iff.1 hinf
  rw [hi] at hinz
  injection he with hs hb
  rcases Nat.eq_zero_or_pos n with h0 | h0
  · subst h0
    refine (Any8.slices_Grow_room Try.growA none 0 0 0 w (by omega) (by omega) (by omega) (by omega)).mono fun e w' ⟨h1, h2⟩ => ?_
    subst h2
    obtain ⟨p, c, e1, e2⟩ := own_of_row (E := 3) (z := 1) (w := w') (w' := w') (v := .slice none 0 0) (n := 0) (l := []) (by simp) rfl ⟨by simp, .inl ⟨rfl, rfl⟩⟩ (Go.RowKit.Below.refl _ _)
    exact ⟨(p, c), trivial, by rw [h1, e1], e2⟩
  · refine (Any8.slices_Grow_grow Try.growA i0 (.int .i64 0) hi hinz (by omega) none 0 0 n [] w (by omega) (by omega) (by rw [hb]; omega) (by omega) (by simp) (fun _ => rfl) (fun a h => by cases h)).mono fun e w' ⟨h1, h2⟩ => ?_
    have hg := grownCap_ge w (0 + n) 0 3
    refine ⟨(some ⟨w.heap.size, 0, none⟩, grownCap w (0 + n) 0 3), trivial, h1, ?_⟩
    subst h2
    have hw := ((St.refl w).drew (w.drawn + 1) : St (bs w) [] w.drew).alloc (.cells ((#[] : Array Value) ++ Builtin.zeroCells (Value.int .i64 0).cells (0 + n - 0) ++ Builtin.zeroCells (Value.int .i64 0).cells (grownCap w (0 + n) 0 3 - (0 + n))) 3)
    refine hw.conv 0 (r' := own 3 1 (some ⟨w.heap.size, 0, none⟩) (grownCap w (0 + n) 0 3) []) rfl (fun k hk => hk.2) ⟨by simp, by simp, fun q => (by cases q), fun a ha => ?_⟩
    cases ha
    refine ⟨rfl, rfl, _, _, hw.inv 0 _ rfl, by simp; rfl, ?_⟩
    simp only [Array.size_append, zeroCells_size]
    have hc : (Value.int .i64 0).cells.size = 1 := rfl
    rw [hc]
    simp only [Nat.zero_add] at hg ⊢
    simp
    omega
end Go.Proofs.Ytdcjeoamhjplmaa
