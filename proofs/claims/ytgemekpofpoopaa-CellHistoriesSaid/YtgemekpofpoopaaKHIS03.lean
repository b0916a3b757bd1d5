/-
  Slices of the call's own that begin behind the first cell of their block.
  Histories: parents and children, ancestors, and how many there are: plain.
  Keys that are arrays of two ints. No program stands in this text.
-/
import Derived.Test.YtgemekpofpoopaaKHIS02

set_option linter.unusedSimpArgs false
namespace Go.SL
set_option linter.unusedVariables false
set_option linter.unusedSimpArgs false
open Go.RowKit
section
variable {P : Program} {ro : Option Nat} {β : Bs} {N : Nat} {ds : List Deferred} {env : Env} {L : List Res} {Q : Exit → Act → World → Prop}
variable {ty : TypeId} {pos : String} {aft : Array Edge}
def ownO (E z : Nat) (p : Option Addr) (cap : Nat) (rows : List (List Value)) : Res where
  fp := fun k => p ≠ none ∧ k = pb p
  inv := fun w => rows.length ≤ cap ∧ (∀ r ∈ rows, r.length = z) ∧ (p = none → rows = [] ∧ cap = 0) ∧ (∀ a, p = some a → a.spot = none ∧ ∃ C pre spare, w.heap[a.block]? = some (.cells C E (0,0)) ∧ pre.length = a.off ∧ C.toList = pre ++ rows.flatten ++ spare ∧ a.off + cap * z ≤ C.size)
  loc := fun {w w'} h ⟨h1, h2, h3, h4⟩ => ⟨h1, h2, h3, fun a ha => by
    obtain ⟨g1, C, pre, s, g3, g4⟩ := h4 a ha
    refine ⟨g1, C, pre, s, ?_, g4⟩
    rw [h a.block ⟨by rw [ha]; simp, by rw [ha]; rfl⟩]; exact g3⟩
theorem addO {a : Addr} (h2 : a.spot = none) (n : Nat) : a.add n = ⟨a.block, a.off + n, none⟩ := by
  obtain ⟨b, o, s⟩ := a
  simp only at h2
  subst h2
  unfold Addr.add; split <;> simp_all
theorem ownO_rows {w : World} (hw : St β L w) (i : Nat) {E z : Nat} {p : Option Addr} {cap : Nat} {rows : List (List Value)} (hi : L[i]? = some (ownO E z p cap rows)) : Go.SL.Rows w z p rows := by
  obtain ⟨h1, h2, h3, h4⟩ := hw.inv i _ hi
  refine ⟨?_, fun hp => (h3 hp).1, fun _ a ha => (h4 a ha).1⟩
  intro j r hr k v hv
  cases p with
  | none => rw [(h3 rfl).1] at hr; simp at hr
  | some a =>
    obtain ⟨g2, C, pre, s, g3, g1, g4, g5⟩ := h4 a rfl
    have hadd : (⟨pb (some a), po (some a) + j * z, none⟩ : Addr).add k = ⟨a.block, a.off + (j * z + k), none⟩ := by
      unfold Addr.add pb po; split <;> simp_all <;> omega
    rw [hadd]
    simp only [World.cell?, g3, Option.isSome_none, Bool.false_eq_true, if_false]
    have hfr := flatten_row h2 hr hv
    have hlt : j * z + k < rows.flatten.length := by
      rcases Nat.lt_or_ge (j * z + k) rows.flatten.length with q | q
      · exact q
      · rw [List.getElem?_eq_none q] at hfr; cases hfr
    have : C.toList[a.off + (j * z + k)]? = some v := by
      rw [g4, List.getElem?_append_left (by rw [List.length_append]; omega), List.getElem?_append_right (by omega), show a.off + (j * z + k) - pre.length = j * z + k by omega]
      exact hfr
    simpa using this
theorem St.toO {w : World} (hw : St β L w) (i : Nat) {E z cap : Nat} {p : Option Addr} {rows : List (List Value)} (hi : L[i]? = some (own E z p cap rows)) : St β (L.set i (ownO E z p cap rows)) w := by
  obtain ⟨h1, h2, h3, h4⟩ := hw.inv i _ hi
  exact hw.conv i hi (fun k hk => hk) ⟨h1, h2, h3, fun a ha => by
    obtain ⟨g1, g2, C, s, g3, g4, g5⟩ := h4 a ha
    exact ⟨g2, C, [], s, g3, by rw [g1]; rfl, by simpa using g4, by omega⟩⟩
/-- The slice behind the first element. -/
theorem St.dropO {w : World} (hw : St β L w) (i : Nat) {E z cap : Nat} {p : Option Addr} {r : List Value} {rows : List (List Value)} (hi : L[i]? = some (ownO E z p cap (r :: rows))) : St β (L.set i (ownO E z (slFrom p cap 1 z) (cap - 1) rows)) w := by
  obtain ⟨h1, h2, h3, h4⟩ := hw.inv i _ hi
  have hr : r.length = z := h2 r (by simp)
  have h2' : ∀ r ∈ rows, r.length = z := fun r hr => h2 r (by simp [hr])
  simp only [List.length_cons] at h1
  cases p with
  | none => exact absurd (h3 rfl).1 (by simp)
  | some a =>
    obtain ⟨g2, C, pre, s, g3, g1, g4, g5⟩ := h4 a rfl
    unfold slFrom
    by_cases q : cap = 1
    · have e : rows = [] := List.length_eq_zero_iff.1 (by omega)
      subst e
      rw [if_pos q]
      exact hw.conv i hi (fun k hk => hk) ⟨by simp, by simp, fun z => (by cases z), fun b hb => by
        cases hb
        exact ⟨g2, C, pre, r ++ s, g3, g1, by rw [g4]; simp, by rw [q]; omega⟩⟩
    · rw [if_neg q]
      refine hw.conv i hi (fun k hk => ⟨by simp, ?_⟩) ⟨by omega, h2', fun z => (by cases z), fun b hb => ?_⟩
      · have := hk.2
        rw [this]
        show (a.add (1 * z)).block = a.block
        rw [addO g2]
      · have hb : a.add (1 * z) = b := Option.some.inj hb
        rw [addO g2] at hb
        subst hb
        refine ⟨rfl, C, pre ++ r, s, g3, by show (pre ++ r).length = a.off + 1 * z; rw [List.length_append, hr, g1]; omega, by rw [g4]; simp, ?_⟩
        have : (cap - 1) * z + z = cap * z := by rw [← Nat.succ_mul, show (cap - 1).succ = cap by omega]
        show a.off + 1 * z + (cap - 1) * z ≤ C.size
        omega

/-- Some elements are appended to a slice that is owned. -/
theorem run_appendO {w : World} (hw : St β L w) (i : Nat) {T T' ty E z by_ : Nat} {zero : Value} {p q : Option Addr} {cap c2 : Nat} {rows rs : List (List Value)} (hT : IsSlice P T E) (hT' : IsSlice P T' E) (hE : EInfo P E z by_ zero)
    (hi : L[i]? = some (ownO E z p cap rows)) (hq : Go.SL.Rows w z q rs) (hr : ∀ r ∈ rs, r.length = z) (h1 : ∀ r ∈ rs, allOne r = true) (hn : (2 * (rows.length + rs.length) + 768) * by_ ≤ 281474976710656) {aT : Array TypeId} (ha0 : aT[0]? = some T) (ha1 : aT[1]? = some T') :
    ∃ p' cap' w', (Builtin.append_ aT ty #[.slice p rows.length cap, .slice q rs.length c2]).run P w = .ok (.slice p' (rows.length + rs.length) cap') w' ∧ St β (L.set i (ownO E z p' cap' (rows ++ rs))) w' ∧ (rs ≠ [] → p' ≠ none) ∧ (p ≠ none → p' ≠ none) := by
  obtain ⟨hz, hby, hze, hzz, hb0⟩ := hE
  obtain ⟨o1, o2, o3, o4⟩ := hw.inv i _ hi
  obtain ⟨ti, hti, htb⟩ := run_bytes hby w
  have hnew : (Builtin.firstCells z rs.length (.slice q rs.length c2)).run P w = .ok rs.flatten.toArray w := first_rows hq hr
  have hhas : ∀ r' ∈ rows ++ rs, r'.length = z := by
    intro r' hr'
    rcases List.mem_append.1 hr' with q | q
    · exact o2 r' q
    · exact hr r' q
  have hu' : (underlying T').run P w = .ok (.slice E) w := run_underlying hT' w
  have hu : (underlying T).run P w = .ok (.slice E) w := run_underlying hT w
  have hone : ∀ u ∈ rs.flatten, u.oneCell' = true := by
    intro u hu
    obtain ⟨r, hr', hu'⟩ := List.mem_flatten.1 hu
    exact allOne_spec (h1 r hr') u hu'
  have hni : ¬ ((rows.length + rs.length : Nat) : Int) > IntKind.i64.max := by
    have : rows.length + rs.length ≤ 281474976710656 := by
      have : (2 * (rows.length + rs.length) + 768) * 1 ≤ (2 * (rows.length + rs.length) + 768) * by_ := Nat.mul_le_mul_left _ hb0
      omega
    have hm : IntKind.i64.max = 9223372036854775807 := rfl
    rw [hm]
    omega
  have hlt : i < L.length := by
    rcases Nat.lt_or_ge i L.length with h' | h'
    · exact h'
    · simp [List.getElem?_eq_none h'] at hi
  have hfl := flatten_len o2
  have hfl2 := flatten_len hr
  by_cases hc : rows.length + rs.length ≤ cap
  · -- there is room
    cases p with
    | none =>
      have h3 := o3 rfl
      have e1 : rows = [] := h3.1
      have e2 : rs = [] := by
        have : rs.length = 0 := by omega
        exact List.length_eq_zero_iff.1 this
      subst e1; subst e2
      have e3 : cap = 0 := h3.2
      subst e3
      refine ⟨none, 0, w, ?_, ?_, by simp, by simp⟩
      · have : (Builtin.firstCells z 0 (.slice q 0 c2)).run P w = .ok #[] w := by simpa using hnew
        simp [Builtin.append_, ha0, ha1, hu, hu', run_size hz, Builtin.lenOf, this]
      · have e : L.set i (ownO E z none 0 ([] ++ [])) = L := by
          have e0 : ownO E z none 0 ([] ++ []) = ownO E z none 0 [] := rfl
          rw [e0]
          refine List.ext_getElem? fun k => ?_
          by_cases ek : k = i
          · subst ek; rw [List.getElem?_set_self hlt, hi]
          · rw [List.getElem?_set_ne (Ne.symm ek)]
        rw [e]; exact hw
    | some a =>
      obtain ⟨g2, C, pre, spare, g3, g1, g4, g5⟩ := o4 a rfl
      have hadd : a.add (rows.length * z) = ⟨a.block, a.off + rows.length * z, none⟩ := addO g2 _
      have hfit : a.off + rows.length * z + rs.flatten.length ≤ C.size := by
        rw [hfl2]
        have := Nat.mul_le_mul_right z hc
        rw [Nat.add_mul] at this; omega
      have hst := run_storeCells_at P a.block (a.off + rows.length * z) E rs.flatten 0 C w g3 (by simpa using hfit) hone
      simp only [Nat.add_zero] at hst
      refine ⟨some a, cap, w.setRow a.block (C.toList.take (a.off + rows.length * z) ++ rs.flatten ++ C.toList.drop (a.off + rows.length * z + rs.flatten.length)).toArray, ?_, ?_, by simp, by simp⟩
      · simp only [Builtin.append_, ha0, ha1, Sem.run_bind, List.getElem?_toArray, List.getElem?_cons_zero, List.getElem?_cons_succ, hu, hu', run_size hz, Builtin.lenOf, Result.andThen_ok, Sem.run_pure, Bool.false_eq_true, if_false, Bool.not_false, if_true, hc, hnew, hadd, hst]
      · have hw1 := hw.conv i (r' := blk a.block (.cells C E)) hi (fun k hk => ⟨by simp, hk⟩) g3
        have hi1 : (L.set i (blk a.block (.cells C E)))[i]? = some (blk a.block (.cells C E)) := by simp [hlt]
        have hw2 := hw1.setRow (C' := (C.toList.take (a.off + rows.length * z) ++ rs.flatten ++ C.toList.drop (a.off + rows.length * z + rs.flatten.length)).toArray) hi1
        rw [List.set_set] at hw2
        have hi2 : (L.set i (blk a.block (.cells (C.toList.take (a.off + rows.length * z) ++ rs.flatten ++ C.toList.drop (a.off + rows.length * z + rs.flatten.length)).toArray E)))[i]? = some (blk a.block (.cells (C.toList.take (a.off + rows.length * z) ++ rs.flatten ++ C.toList.drop (a.off + rows.length * z + rs.flatten.length)).toArray E)) := by simp [hlt]
        have hfin : (ownO E z (some a) cap (rows ++ rs)).inv (w.setRow a.block (C.toList.take (a.off + rows.length * z) ++ rs.flatten ++ C.toList.drop (a.off + rows.length * z + rs.flatten.length)).toArray) := by
          refine ⟨by simp; omega, hhas, fun h => (by cases h), fun a' ha' => ?_⟩
          cases ha'
          refine ⟨g2,_, pre, C.toList.drop (a.off + rows.length * z + rs.flatten.length), hw2.inv i _ hi2, g1, ?_, ?_⟩
          · have : C.toList.take (a.off + rows.length * z) = pre ++ rows.flatten := by rw [g4, List.take_append_of_le_length (by rw [List.length_append]; omega), List.take_of_length_le (by rw [List.length_append]; omega)]
            simp [this]
          · have := hfit
            simp only [List.size_toArray, List.length_append, List.length_take, List.length_drop, Array.length_toList]
            omega
        have hw3 := hw2.conv (r' := ownO E z (some a) cap (rows ++ rs)) i hi2 (fun k hk => hk.2) hfin
        rwa [List.set_set] at hw3
  · -- a new array
    have hcap : ¬ rows.length + rs.length ≤ cap := hc
    have hncap : ¬ (Builtin.nextslicecap (rows.length + rs.length) cap * ti.bytes > 2 ^ 48) := by
      have h2 := nextcap_le (need := rows.length + rs.length) (cap := cap) (by omega)
      have h3 := Nat.mul_le_mul_right by_ h2
      rw [htb]; omega
    generalize hcc : Question.cut (.appendCap (rows.length + rs.length) cap E) (w.tape w.drawn (.appendCap (rows.length + rs.length) cap E)) = cap'
    have hge : rows.length + rs.length ≤ cap' := by rw [← hcc]; simp [Question.cut]
    have hrows : Go.SL.Rows w z p rows := ownO_rows hw i hi
    have hold : (Builtin.firstCells z rows.length (.slice p rows.length cap)).run P w.drew = .ok rows.flatten.toArray w.drew := first_rows (rows_drew hrows) o2
    have hnew' : (Builtin.firstCells z rs.length (.slice q rs.length c2)).run P w.drew = .ok rs.flatten.toArray w.drew := first_rows (rows_drew hq) hr
    have hti' : (typeInfo E).run P w.drew = .ok ti w.drew := by
      cases hq : P.info? E with
      | none => simp [typeInfo, hq] at hti
      | some i => simp [typeInfo, hq] at hti ⊢; exact hti
    refine ⟨some ⟨w.heap.size, 0, none⟩, cap', (World.alloc w.drew (.cells (rows.flatten.toArray ++ rs.flatten.toArray ++ Builtin.zeroCells zero.cells (cap' - (rows.length + rs.length))) E)), ?_, ?_, by simp, by simp⟩
    · have hb1 : ti.bytes ≠ 0 := by omega
      have hncap' : ¬ (281474976710656 < Builtin.nextslicecap (rows.length + rs.length) cap * ti.bytes) := by omega
      simp [Builtin.append_, ha0, ha1, hu, hu', run_size hz, Builtin.lenOf, hcap, hti, hb1, hncap', Question.forced, hcc, hti', hold, hnew', run_zero hze, newRow]
      congr 2
      apply Array.ext'
      simp
    · have hw' := (hw.drew (w.drawn + 1) : St β L w.drew).alloc (.cells (rows.flatten.toArray ++ rs.flatten.toArray ++ Builtin.zeroCells zero.cells (cap' - (rows.length + rs.length))) E)
      have hm : St β (L.set i (blk w.heap.size (.cells (rows.flatten.toArray ++ rs.flatten.toArray ++ Builtin.zeroCells zero.cells (cap' - (rows.length + rs.length))) E))) (World.alloc w.drew (.cells (rows.flatten.toArray ++ rs.flatten.toArray ++ Builtin.zeroCells zero.cells (cap' - (rows.length + rs.length))) E)) := by
        refine hw'.map (fun k => if k = i then 0 else k + 1) ?_ ?_
        · intro a b hab _ _
          by_cases e1 : a = i <;> by_cases e2 : b = i <;> simp [e1, e2] <;> omega
        · intro k s hs
          right
          by_cases e : k = i
          · subst e; simp [hlt] at hs; simp [hs]
          · rw [List.getElem?_set_ne (Ne.symm e)] at hs
            simp [e, hs]
      have hi2 : (L.set i (blk w.heap.size (.cells (rows.flatten.toArray ++ rs.flatten.toArray ++ Builtin.zeroCells zero.cells (cap' - (rows.length + rs.length))) E)))[i]? = some (blk w.heap.size (.cells (rows.flatten.toArray ++ rs.flatten.toArray ++ Builtin.zeroCells zero.cells (cap' - (rows.length + rs.length))) E)) := by simp [hlt]
      have hfin : (ownO E z (some ⟨w.heap.size, 0, none⟩) cap' (rows ++ rs)).inv (World.alloc w.drew (.cells (rows.flatten.toArray ++ rs.flatten.toArray ++ Builtin.zeroCells zero.cells (cap' - (rows.length + rs.length))) E)) := by
        refine ⟨by simp; omega, hhas, fun h => (by cases h), fun a' ha' => ?_⟩
        cases ha'
        refine ⟨rfl,_, [], (Builtin.zeroCells zero.cells (cap' - (rows.length + rs.length))).toList, hm.inv i _ hi2, rfl, by simp, ?_⟩
        refine Nat.le_of_eq (Eq.symm ?_)
        rw [Nat.zero_add]
        simp only [Array.size_append, List.size_toArray, hfl, hfl2, zeroCells_size, hzz]
        rw [← Nat.add_mul, ← Nat.add_mul]
        congr 1; omega
      have := hm.conv (r' := ownO E z (some ⟨w.heap.size, 0, none⟩) cap' (rows ++ rs)) i hi2 (fun k hk => hk.2) hfin
      rwa [List.set_set] at this

variable {dd : Option Nat}
/-- append(x, y...), x owned, y read. -/
theorem HO.appO {α : Type} {f : α → List Value} {l m : List α} (i : Nat) (LF : Res → List Res) {K : Value → List Res → Prop} {x y : Operand} {T T' E z by_ : Nat} {aT : Array TypeId} {zero : Value} {p q : Option Addr} {n n2 cap c2 : Nat} (hT : IsSlice P T E) (hT' : IsSlice P T' E) (hE : EInfo P E z by_ zero) (hx : OV env x (.slice p n cap)) (hy : OV env y (.slice q n2 c2))
    (hi : L[i]? = some (ownO E z p cap (l.map f))) (hq : ∀ w, St β L w → Go.SL.Rows w z q (m.map f)) (hz : ∀ a, (f a).length = z) (h1 : ∀ a, allOne (f a) = true) (ha0 : aT[0]? = some T) (ha1 : aT[1]? = some T') (hL : ∀ R : Res, L.set i R = LF R) (hn : n = l.length) (hn2 : n2 = m.length) (hs : (2 * (n + n2) + 768) * by_ ≤ 281474976710656)
    (k : ∀ p' cap', (m ≠ [] ∨ p ≠ none → p' ≠ none) → K (.slice p' (n + n2) cap') (LF (ownO E z p' cap' ((l ++ m).map f)))) : HO P β env L ⟨dd, .call ⟨.builtin .append, #[x, y], aT⟩, ty, pos, aft, none⟩ K := by
  intro a w h hw
  subst hn; subst hn2
  obtain ⟨p', cap', w', h2, h3, h4, h5⟩ := run_appendO (ty := ty) (c2 := c2) hw i hT hT' hE hi (hq w hw) (by intro r hr; obtain ⟨b,_, rfl⟩ := List.mem_map.1 hr; exact hz b) (by intro r hr; obtain ⟨b,_, rfl⟩ := List.mem_map.1 hr; exact h1 b) (by simpa using hs) ha0 ha1
  refine .inl ⟨_, w',_,_, ?_, .inl rfl, k p' cap' (fun q => q.elim (fun e => h4 (by simpa using e)) h5), ?_⟩
  · have ex : a.eval x = .slice p l.length cap := by obtain ⟨u, hu, e⟩ := hx; subst e; exact h x (by simp [Op.operands, Call.operands]) _ hu
    have ey : a.eval y = .slice q m.length c2 := by obtain ⟨u, hu, e⟩ := hy; subst e; exact h y (by simp [Op.operands, Call.operands]) _ hu
    simp only [List.length_map] at h2
    simp [execOp, resolve, invoke, builtin, ex, ey, h2]
  · rw [List.map_append, ← hL]; exact h3
end
end Go.SL

namespace Go.Proofs.Ytgemekpofpoopaa
open Go.SL Go.Cell
set_option linter.unusedVariables false
section
variable {E : List (List EvM)} {Ms : List Nat} {tk : List TkM} {of : Nat × Nat → Option Nat} {t s : TkM} {k p c n i j : Nat}
/-- The events in front of each map but the first one fit its areas and those of the map before. -/
structure GoodAll (E : List (List EvM)) (Ms : List Nat) : Prop where
  g : ∀ n, n + 1 < Ms.length → GoodEv (Ms.getD n 0) (Ms.getD (n + 1) 0) (E.getD (n + 1) [])
theorem TInv.pos (h : TInv E Ms tk of) (ht : t ∈ tk) : 0 < t.ar.length ∧ t.fr + t.ar.length ≤ Ms.length ∧ t.fr < Ms.length := by
  have := h.q.base.pos t ht
  unfold TkM.up at this
  omega
theorem TInv.head (h : TInv E Ms tk of) (ht : t ∈ tk) : t.ar[0]? = some (t.ar.headD 0) ∧ t.ar.headD 0 < Ms.getD t.fr 0 := by
  have h1 := head_at (h.pos ht).1
  exact ⟨h1, h.q.rng t ht 0 _ h1⟩
theorem TInv.lastA (h : TInv E Ms tk of) (ht : t ∈ tk) {n : Nat} (hn : t.up = n + 1) : t.ar[n - t.fr]? = some t.last ∧ t.fr ≤ n ∧ t.last < Ms.getD n 0 := by
  have h1 := h.pos ht
  have h2 := tk_last h1.1
  unfold TkM.up at hn
  have e : t.ar.length - 1 = n - t.fr := by omega
  rw [e] at h2
  refine ⟨h2, by omega, ?_⟩
  have h3 := h.q.rng t ht _ _ h2
  rwa [show t.fr + (n - t.fr) = n by omega] at h3
theorem TInv.all (h : TInv E Ms tk of) (hn : n < Ms.length) (hi : i < Ms.getD n 0) : ∃ k t, of (n, i) = some k ∧ tk[k]? = some t ∧ t.fr ≤ n ∧ t.ar[n - t.fr]? = some i := by
  obtain ⟨k, hk⟩ := h.q.tot n i hn hi (by
    by_cases e : n + 1 < Ms.length
    · exact .inl e
    · have : n = Ms.length - 1 := by omega
      subst this; exact .inr (.inl hi))
  obtain ⟨t, h1, h2, h3⟩ := (h.q.base.ofi n i k).1 hk
  exact ⟨k, t, hk, h1, h2, h3⟩
theorem TInv.at_ (h : TInv E Ms tk of) (ht : tk[k]? = some t) {a : Nat} (ha : t.ar[j]? = some a) : of (t.fr + j, a) = some k ∧ t.fr + j < Ms.length ∧ a < Ms.getD (t.fr + j) 0 := by
  have hm := List.mem_of_getElem? ht
  have h1 := (List.getElem?_eq_some_iff.1 ha).1
  have h2 := h.pos hm
  exact ⟨(h.q.base.ofi _ _ _).2 ⟨t, ht, by omega, by rw [show t.fr + j - t.fr = j by omega]; exact ha⟩, by omega, h.q.rng t hm j a ha⟩
theorem kind2 {a b : Nat} : kindM a b = 2 ↔ a = 0 := by unfold kindM; split <;> rename_i h <;> (try split) <;> (try split) <;> (try split) <;> simp_all
theorem kind3 {a b : Nat} (ha : a ≠ 0) : kindM a b = 3 ↔ b = 0 := by unfold kindM; rw [if_neg ha]; split <;> rename_i h <;> (try split) <;> (try split) <;> simp_all
theorem zT_at {k : Nat} (h : tk[k]? = some t) : tk.getD k zT = t := getD_of h
theorem len_at {k : Nat} (h : tk[k]? = some t) : k < tk.length := (List.getElem?_eq_some_iff.1 h).1
theorem at_ex {k : Nat} (h : k < tk.length) : ∃ t, tk[k]? = some t := ⟨_, List.getElem?_eq_getElem h⟩
theorem mem_pa (h : TInv E Ms tk of) (ht : tk[k]? = some t) : p ∈ t.pa ↔ ∃ s, tk[p]? = some s ∧ lnkT E s t = true := by
  rw [h.q.pa k t ht, List.mem_filter, List.mem_range]
  constructor
  · rintro ⟨h1, h2⟩
    obtain ⟨s, hs⟩ := at_ex h1
    exact ⟨s, hs, by rw [zT_at hs] at h2; exact h2⟩
  · rintro ⟨s, hs, h2⟩
    exact ⟨len_at hs, by rw [zT_at hs]; exact h2⟩
theorem mem_ch (h : TInv E Ms tk of) (ht : tk[k]? = some t) : c ∈ t.ch ↔ ∃ s, tk[c]? = some s ∧ lnkT E t s = true := by
  rw [h.q.ch k t ht, List.mem_filter, List.mem_range]
  constructor
  · rintro ⟨h1, h2⟩
    obtain ⟨s, hs⟩ := at_ex h1
    exact ⟨s, hs, by rw [zT_at hs] at h2; exact h2⟩
  · rintro ⟨s, hs, h2⟩
    exact ⟨len_at hs, by rw [zT_at hs]; exact h2⟩
theorem lnk_iff {x y : TkM} : lnkT E x y = true ↔ x.up = y.fr ∧ 0 < y.fr ∧ x.last ∈ (bef (E.getD y.fr []) (y.ar.headD 0)).f := by unfold lnkT; rw [decide_eq_true_eq]
theorem nil_iff {l : List Nat} : l = [] ↔ ∀ x, x ∉ l := List.eq_nil_iff_forall_not_mem
/-- A history has no parents just if it began with the first map or with a birth. -/
theorem bg_pa (h : TInv E Ms tk of) (hG : GoodAll E Ms) (ht : tk[k]? = some t) : (t.bg = 1 ∨ t.bg = 2) ↔ t.pa = [] := by
  have hm := List.mem_of_getElem? ht
  have hp := h.pos hm
  rcases h.q.bg t hm with ⟨h0, h1⟩ | ⟨h0, h1, h2⟩
  · refine ⟨fun _ => nil_iff.2 fun p hpm => ?_, fun _ => .inl h1⟩
    obtain ⟨s, hs, hl⟩ := (mem_pa h ht).1 hpm
    have := (lnk_iff.1 hl).2.1
    omega
  · obtain ⟨n, hn⟩ : ∃ n, t.fr = n + 1 := ⟨t.fr - 1, by omega⟩
    have hg := hG.g n (by omega)
    rw [← hn] at hg
    obtain ⟨_, hh⟩ := h.head hm
    obtain ⟨he, hj⟩ := hg.bef_mem hh
    have hk := (hg.kd _ he).1
    rw [← h1] at hk
    have hr := kind_rng (bef (E.getD t.fr []) (t.ar.headD 0)).f.length (bef (E.getD t.fr []) (t.ar.headD 0)).t.length
    have hb : (t.bg = 1 ∨ t.bg = 2) ↔ (bef (E.getD t.fr []) (t.ar.headD 0)).f = [] := by
      rw [hk]
      constructor
      · rintro (z | z)
        · omega
        · exact List.eq_nil_of_length_eq_zero (kind2.1 z)
      · intro z; exact .inr (kind2.2 (by rw [z]; rfl))
    rw [hb]
    constructor
    · intro z
      refine nil_iff.2 fun p hpm => ?_
      obtain ⟨s, hs, hl⟩ := (mem_pa h ht).1 hpm
      have := (lnk_iff.1 hl).2.2
      rw [z] at this; cases this
    · intro z
      refine nil_iff.2 fun i hi => ?_
      have hin := (hg.fs _ he).2 i hi
      obtain ⟨k', t', h3, h4, h5, h6⟩ := h.all (n := n) (by omega) hin
      have hm' := List.mem_of_getElem? h4
      have hp' := h.pos hm'
      have h7 := (List.getElem?_eq_some_iff.1 h6).1
      have hup : t'.up = n + 1 := by
        unfold TkM.up
        refine Classical.byContradiction fun q => ?_
        obtain ⟨b, hb⟩ : ∃ b, t'.ar[n - t'.fr + 1]? = some b := ⟨_, List.getElem?_eq_getElem (by omega)⟩
        have hst := (h.q.step t' hm' _ _ _ h6 hb).1
        rw [show t'.fr + (n - t'.fr) + 1 = t.fr by omega, hg.beh_eq he hi, ← h1] at hst
        exact h2 hst
      have hla : t'.last = i := by
        have := (h.lastA hm' hup).1
        rw [h6] at this; exact (Option.some.inj this).symm
      have : k' ∈ t.pa := (mem_pa h ht).2 ⟨t', h4, lnk_iff.2 ⟨by omega, h0, by rw [hla]; exact hi⟩⟩
      rw [z] at this; cases this
theorem en_zero (h : TInv E Ms tk of) (hG : GoodAll E Ms) (ht : t ∈ tk) : t.en = 0 ↔ t.up = Ms.length := by
  have hp := h.pos ht
  obtain ⟨h1,_⟩ := h.q.en t ht
  constructor
  · intro z
    refine Classical.byContradiction fun q => ?_
    rw [if_neg q, ] at h1
    obtain ⟨n, hn⟩ : ∃ n, t.up = n + 1 := ⟨t.up - 1, by unfold TkM.up; omega⟩
    have hlt : n + 1 < Ms.length := by rw [← hn]; unfold TkM.up at q ⊢; omega
    have hg := hG.g n hlt
    obtain ⟨_,_, hl⟩ := h.lastA ht hn
    obtain ⟨he, hi⟩ := hg.beh_mem hl
    have hk := (hg.kd _ he).1
    have hr := kind_rng (beh (E.getD (n + 1) []) t.last).f.length (beh (E.getD (n + 1) []) t.last).t.length
    rw [hn] at h1
    omega
  · intro z; rw [h1, if_pos z]
/-- A history has no children just if it goes on to the last map or ends. -/
theorem en_ch (h : TInv E Ms tk of) (hG : GoodAll E Ms) (ht : tk[k]? = some t) : (t.en = 0 ∨ t.en = 3) ↔ t.ch = [] := by
  have hm := List.mem_of_getElem? ht
  have hp := h.pos hm
  obtain ⟨h1, h2⟩ := h.q.en t hm
  by_cases hu : t.up = Ms.length
  · rw [if_pos hu] at h1
    refine ⟨fun _ => nil_iff.2 fun c hc => ?_, fun _ => .inl h1⟩
    obtain ⟨s, hs, hl⟩ := (mem_ch h ht).1 hc
    have h3 := (lnk_iff.1 hl).1
    have h4 := h.pos (List.mem_of_getElem? hs)
    omega
  · rw [if_neg hu] at h1
    obtain ⟨n, hn⟩ : ∃ n, t.up = n + 1 := ⟨t.up - 1, by unfold TkM.up; omega⟩
    have hlt : n + 1 < Ms.length := by rw [← hn]; unfold TkM.up at hu ⊢; omega
    have hg := hG.g n hlt
    obtain ⟨_,_, hl⟩ := h.lastA hm hn
    obtain ⟨he, hi⟩ := hg.beh_mem hl
    have hk := (hg.kd _ he).1
    have hr := kind_rng (beh (E.getD (n + 1) []) t.last).f.length (beh (E.getD (n + 1) []) t.last).t.length
    rw [hn] at h1
    rw [← h1] at hk
    have hf : (beh (E.getD (n + 1) []) t.last).f.length ≠ 0 := fun z => by rw [List.eq_nil_of_length_eq_zero z] at hi; cases hi
    have hb : (t.en = 0 ∨ t.en = 3) ↔ (beh (E.getD (n + 1) []) t.last).t = [] := by
      rw [hk]
      constructor
      · rintro (z | z)
        · omega
        · exact List.eq_nil_of_length_eq_zero ((kind3 hf).1 z)
      · intro z; exact .inr ((kind3 hf).2 (by rw [z]; rfl))
    rw [hb]
    constructor
    · intro z
      refine nil_iff.2 fun c hc => ?_
      obtain ⟨s, hs, hlk⟩ := (mem_ch h ht).1 hc
      obtain ⟨g1, g2, g3⟩ := lnk_iff.1 hlk
      have hms := List.mem_of_getElem? hs
      obtain ⟨_, hh⟩ := h.head hms
      rw [← g1, hn] at hh g3
      obtain ⟨he2, hj2⟩ := hg.bef_mem hh
      have := hg.uniqF he he2 hi g3
      rw [← this, z] at hj2; cases hj2
    · intro z
      refine nil_iff.2 fun j hj => ?_
      have hjn := (hg.ts _ he).2 j hj
      obtain ⟨k', t', h3, h4, h5, h6⟩ := h.all (n := n + 1) hlt hjn
      have hm' := List.mem_of_getElem? h4
      have hp' := h.pos hm'
      have h7 := (List.getElem?_eq_some_iff.1 h6).1
      have hfr : t'.fr = n + 1 := by
        refine Classical.byContradiction fun q => ?_
        obtain ⟨a, ha⟩ : ∃ a, t'.ar[n - t'.fr]? = some a := ⟨_, List.getElem?_eq_getElem (by omega)⟩
        have hst := h.q.step t' hm' (n - t'.fr) a j ha (by rw [show n - t'.fr + 1 = n + 1 - t'.fr by omega]; exact h6)
        rw [show t'.fr + (n - t'.fr) + 1 = n + 1 by omega] at hst
        have hra := h.q.rng t' hm' _ _ ha
        rw [show t'.fr + (n - t'.fr) = n by omega] at hra
        obtain ⟨he3,_⟩ := hg.beh_mem hra
        have := hg.uniqT he3 he (j := j) (by rw [hst.2]; simp) hj
        rw [this, ← h1] at hst
        exact h2 hst.1
      have hhd : t'.ar.headD 0 = j := by
        have := (h.head hm').1
        rw [hfr, Nat.sub_self, this] at h6
        exact Option.some.inj h6
      have : k' ∈ t.ch := (mem_ch h ht).2 ⟨t', h4, lnk_iff.2 ⟨by omega, by omega, by rw [hfr, hhd, hg.bef_eq he hj]; exact hi⟩⟩
      rw [z] at this; cases this
theorem lnk_lt (h : TInv E Ms tk of) (hs : tk[p]? = some s) (ht : tk[k]? = some t) (hl : lnkT E s t = true) : p < k := by
  have h1 := (lnk_iff.1 hl).1
  have h2 := h.pos (List.mem_of_getElem? hs)
  have h3 := h.pos (List.mem_of_getElem? ht)
  unfold TkM.up at h1
  obtain ⟨g1, e1⟩ := List.getElem?_eq_some_iff.1 hs
  obtain ⟨g2, e2⟩ := List.getElem?_eq_some_iff.1 ht
  refine Classical.byContradiction fun q => ?_
  rcases Nat.lt_or_eq_of_le (Nat.not_lt.1 q) with z | z
  · have := List.pairwise_iff_getElem.1 h.q.ord k p g2 g1 z
    rw [e1, e2] at this
    omega
  · subst z
    rw [hs] at ht
    have := Option.some.inj ht
    subst this; omega
theorem pa_facts (h : TInv E Ms tk of) (ht : tk[k]? = some t) (hp : p ∈ t.pa) : p < k ∧ ∃ s, tk[p]? = some s ∧ k ∈ s.ch ∧ s.fr + s.ar.length = t.fr := by
  obtain ⟨s, hs, hl⟩ := (mem_pa h ht).1 hp
  exact ⟨lnk_lt h hs ht hl, s, hs, (mem_ch h hs).2 ⟨t, ht, hl⟩, (lnk_iff.1 hl).1⟩
theorem ch_facts (h : TInv E Ms tk of) (ht : tk[k]? = some t) (hc : c ∈ t.ch) : k < c ∧ ∃ s, tk[c]? = some s ∧ k ∈ s.pa := by
  obtain ⟨s, hs, hl⟩ := (mem_ch h ht).1 hc
  exact ⟨lnk_lt h ht hs hl, s, hs, (mem_pa h hs).2 ⟨t, ht, hl⟩⟩
/-! ### Ancestors and descendants -/
/-- What a history leads to, in one step or more. -/
inductive Rch (nx : Nat → List Nat) (a : Nat) : Nat → Prop
  | base {b} : b ∈ nx a → Rch nx a b
  | step {b c} : Rch nx a b → c ∈ nx b → Rch nx a c
theorem Rch.cons {nx : Nat → List Nat} {a b c : Nat} (h : b ∈ nx a) (k : Rch nx b c) : Rch nx a c := by
  induction k with
  | base h2 => exact .step (.base h) h2
  | step _ h2 ih => exact .step ih h2
def nxP (tk : List TkM) (k : Nat) : List Nat := (tk.getD k zT).pa
def nxC (tk : List TkM) (k : Nat) : List Nat := (tk.getD k zT).ch
theorem nx_none {k : Nat} (h : tk.length ≤ k) : tk.getD k zT = zT := by rw [List.getD_eq_getElem?_getD, List.getElem?_eq_none h]; rfl
theorem mem_nxP (h : TInv E Ms tk of) (hp : p ∈ nxP tk k) : p < k ∧ k < tk.length ∧ k ∈ nxC tk p := by
  by_cases hk : k < tk.length
  · obtain ⟨t, ht⟩ := at_ex hk
    unfold nxP at hp
    rw [zT_at ht] at hp
    obtain ⟨h1, s, hs, h2,_⟩ := pa_facts h ht hp
    exact ⟨h1, hk, by unfold nxC; rw [zT_at hs]; exact h2⟩
  · unfold nxP at hp; rw [nx_none (by omega)] at hp; cases hp
theorem mem_nxC (h : TInv E Ms tk of) (hp : c ∈ nxC tk k) : k < c ∧ c < tk.length ∧ k ∈ nxP tk c := by
  by_cases hk : k < tk.length
  · obtain ⟨t, ht⟩ := at_ex hk
    unfold nxC at hp
    rw [zT_at ht] at hp
    obtain ⟨h1, s, hs, h2⟩ := ch_facts h ht hp
    exact ⟨h1, len_at hs, by unfold nxP; rw [zT_at hs]; exact h2⟩
  · unfold nxC at hp; rw [nx_none (by omega)] at hp; cases hp
theorem past_lt (h : TInv E Ms tk of) (hr : Rch (nxP tk) k p) : p < k ∧ Rch (nxC tk) p k := by
  induction hr with
  | base h1 => have := mem_nxP h h1; exact ⟨this.1, .base this.2.2⟩
  | step _ h1 ih => have := mem_nxP h h1; exact ⟨by omega, .cons this.2.2 ih.2⟩
theorem future_lt (h : TInv E Ms tk of) (hr : Rch (nxC tk) k c) : k < c ∧ c < tk.length := by
  induction hr with
  | base h1 => have := mem_nxC h h1; exact ⟨this.1, this.2.1⟩
  | step _ h1 ih => have := mem_nxC h h1; exact ⟨by omega, this.2.1⟩
/-- What is met, and what is still to be looked at. -/
structure RL (nx : Nat → List Nat) (n a : Nat) (met : Nat → Bool) (todo : List Nat) : Prop where
  m : ∀ x, met x = true → Rch nx a x
  t : ∀ x, x ∈ todo → Rch nx a x
  a : ∀ x, x ∈ nx a → met x = true ∨ x ∈ todo
  c : ∀ x, met x = true → ∀ y, y ∈ nx x → met y = true ∨ y ∈ todo
/-- How much is still to be looked at. -/
def rlB (nx : Nat → List Nat) (n : Nat) (met : Nat → Bool) : Nat := (((List.range n).filter fun k => !met k).map fun k => (nx k).length).sum
def setM (met : Nat → Bool) (x : Nat) : Nat → Bool := fun y => decide (x = y) || met y
theorem RL.zero {nx : Nat → List Nat} {n a : Nat} : RL nx n a (fun _ => false) (nx a) := ⟨fun x h => (by cases h), fun x h => .base h, fun x h => .inr h, fun x h => (by cases h)⟩
theorem RL.old {nx : Nat → List Nat} {n a x : Nat} {met : Nat → Bool} {todo : List Nat} (h : RL nx n a met (x :: todo)) (hx : met x = true) : RL nx n a met todo := by
  refine ⟨h.m, fun y hy => h.t y (List.mem_cons_of_mem _ hy), fun y hy => ?_, fun y hy z hz => ?_⟩
  · rcases h.a y hy with q | q
    · exact .inl q
    · rcases List.mem_cons.1 q with rfl | q
      · exact .inl hx
      · exact .inr q
  · rcases h.c y hy z hz with q | q
    · exact .inl q
    · rcases List.mem_cons.1 q with rfl | q
      · exact .inl hx
      · exact .inr q
theorem RL.new {nx : Nat → List Nat} {n a x : Nat} {met : Nat → Bool} {todo : List Nat} (h : RL nx n a met (x :: todo)) : RL nx n a (setM met x) (todo ++ nx x) := by
  have hx := h.t x (List.mem_cons_self)
  have key : ∀ y, met y = true ∨ y ∈ x :: todo → setM met x y = true ∨ y ∈ todo ++ nx x := fun y q => by
    unfold setM
    rcases q with q | q
    · exact .inl (by rw [q]; simp)
    · rcases List.mem_cons.1 q with rfl | q
      · exact .inl (by simp)
      · exact .inr (List.mem_append_left _ q)
  refine ⟨fun y hy => ?_, fun y hy => ?_, fun y hy => key y (h.a y hy), fun y hy z hz => ?_⟩
  · unfold setM at hy
    by_cases e : x = y
    · subst e; exact hx
    · rw [decide_eq_false e] at hy; exact h.m y (by simpa using hy)
  · rcases List.mem_append.1 hy with q | q
    · exact h.t y (List.mem_cons_of_mem _ q)
    · exact .step hx q
  · unfold setM at hy
    by_cases e : x = y
    · subst e; exact .inr (List.mem_append_right _ hz)
    · rw [decide_eq_false e] at hy; exact key z (h.c y (by simpa using hy) z hz)
theorem sum_split {n x : Nat} {f : Nat → Nat} {met : Nat → Bool} (hm : met x = false) : ∀ {l : List Nat}, l.Nodup → x ∈ l → ((l.filter fun k => !met k).map f).sum = f x + ((l.filter fun k => !(setM met x k)).map f).sum
  | [],_, h => by cases h
  | y :: l, hn, h => by
    obtain ⟨h1, h2⟩ := List.nodup_cons.1 hn
    by_cases e : x = y
    · subst e
      have hsame : (l.filter fun k => !(setM met x k)) = l.filter fun k => !met k := List.filter_congr fun z hz => by
        unfold setM
        rw [decide_eq_false (show ¬ x = z from fun q => h1 (by rw [q]; exact hz))]; simp
      rw [List.filter_cons, if_pos (by rw [hm]; rfl), List.filter_cons, if_neg (by unfold setM; simp), hsame]
      simp
    · have hxl : x ∈ l := by rcases List.mem_cons.1 h with z | z
                             · exact absurd z e
                             · exact z
      have ih := sum_split (n := n) (f := f) hm h2 hxl
      have hy : setM met x y = met y := by unfold setM; rw [decide_eq_false e]; simp
      rw [List.filter_cons, List.filter_cons, hy]
      split
      · rw [List.map_cons, List.map_cons, List.sum_cons, List.sum_cons, ih]; omega
      · exact ih
theorem rl_new {nx : Nat → List Nat} {n x : Nat} {met : Nat → Bool} (hx : x < n) (hm : met x = false) : rlB nx n met = (nx x).length + rlB nx n (setM met x) := by
  unfold rlB
  exact sum_split (n := n) (f := fun k => (nx k).length) hm List.nodup_range (List.mem_range.2 hx)
theorem RL.done {nx : Nat → List Nat} {n a x : Nat} {met : Nat → Bool} (h : RL nx n a met []) : met x = true ↔ Rch nx a x := by
  refine ⟨h.m x, fun hr => ?_⟩
  induction hr with
  | base h1 => rcases h.a _ h1 with q | q
               · exact q
               · cases q
  | step _ h1 ih => rcases h.c _ ih _ h1 with q | q
                    · exact q
                    · cases q
/-! ### How many there are -/
theorem births_len {N : Nat} {evs : List EvM} {s : List TkM × (Nat × Nat → Option Nat)} : ∀ {k}, (birthsM N evs s k).1.length = s.1.length + ((List.range k).filter (newB N evs)).length
  | 0 => by simp [birthsM]
  | k + 1 => by
    have ih := births_len (N := N) (evs := evs) (s := s) (k := k)
    rw [birthsM, birthM, List.range_succ, List.filter_append, List.filter_cons]
    split
    · rw [addCh_len, List.length_append, ih]; simp; omega
    · rw [ih]; simp
theorem nodup_flat {α : Type} {f : α → List Nat} : ∀ {l : List α}, (∀ a, a ∈ l → (f a).Nodup) → l.Pairwise (fun a b => ∀ x, x ∈ f a → x ∉ f b) → (l.flatMap f).Nodup
  | [],_,_ => by simp
  | a :: l, h1, h2 => by
    obtain ⟨h3, h4⟩ := List.pairwise_cons.1 h2
    rw [List.flatMap_cons]
    refine List.nodup_append.2 ⟨h1 a (by simp), nodup_flat (fun b hb => h1 b (by simp [hb])) h4, fun x hx y hy e => ?_⟩
    subst e
    obtain ⟨b, hb, hxb⟩ := List.mem_flatMap.1 hy
    exact h3 b hb x hx hxb
theorem len_flat {α : Type} {f : α → List Nat} : ∀ {l : List α}, (l.flatMap f).length = (l.map fun a => (f a).length).sum
  | [] => rfl
  | a :: l => by rw [List.flatMap_cons, List.length_append, len_flat, List.map_cons, List.sum_cons]
theorem nodup_of_lt {l : List Nat} (h : l.Pairwise (· < ·)) : l.Nodup := h.imp fun h => Nat.ne_of_lt h
theorem len_same {l m : List Nat} (hl : l.Nodup) (hm : m.Nodup) (h : ∀ x, x ∈ l ↔ x ∈ m) : l.length = m.length :=
  Nat.le_antisymm (length_le_of_subset hl fun x hx => (h x).1 hx) (length_le_of_subset hm fun x hx => (h x).2 hx)
theorem GoodEv.sumF {n m : Nat} {es : List EvM} (h : GoodEv n m es) : (es.map fun e => e.f.length).sum = n := by
  rw [← len_flat]
  have := len_same (l := es.flatMap EvM.f) (m := List.range n) (nodup_flat (fun e he => nodup_of_lt (h.fs e he).1) (h.apart.imp fun q => q.1)) List.nodup_range fun x => by
    rw [List.mem_flatMap, List.mem_range]
    exact ⟨fun ⟨e, he, hx⟩ => (h.fs e he).2 x hx, fun hx => h.allF x hx⟩
  simpa using this
theorem GoodEv.sumT {n m : Nat} {es : List EvM} (h : GoodEv n m es) : (es.map fun e => e.t.length).sum = m := by
  rw [← len_flat]
  have := len_same (l := es.flatMap EvM.t) (m := List.range m) (nodup_flat (fun e he => nodup_of_lt (h.ts e he).1) (h.apart.imp fun q => q.2)) List.nodup_range fun x => by
    rw [List.mem_flatMap, List.mem_range]
    exact ⟨fun ⟨e, he, hx⟩ => (h.ts e he).2 x hx, fun hx => h.allT x hx⟩
  simpa using this
/-- The areas that begin a history, event by event. -/
def bgnE (es : List EvM) : Nat := (es.map fun e => if e.kd = 4 then 0 else e.t.length).sum
theorem GoodEv.newT {n m N : Nat} {es : List EvM} (h : GoodEv n m es) (hN : N ≠ 0) : ((List.range m).filter (newB N es)).length = bgnE es := by
  have e1 : bgnE es = (es.flatMap fun e => if e.kd = 4 then [] else e.t).length := by
    rw [len_flat]; unfold bgnE
    refine congrArg List.sum (List.map_congr_left fun e _ => ?_)
    split <;> rfl
  rw [e1]
  refine len_same (List.nodup_range.filter _) (nodup_flat (fun e he => ?_) (h.apart.imp fun {a b} q x hx => ?_)) fun x => ?_
  · split
    · exact List.nodup_nil
    · exact nodup_of_lt (h.ts e he).1
  · split at hx
    · cases hx
    · split
      · simp
      · exact q.2 x hx
  · rw [List.mem_filter, List.mem_range, List.mem_flatMap]
    constructor
    · rintro ⟨h1, h2⟩
      unfold newB at h2
      have h2 := (of_decide_eq_true h2).resolve_left hN
      obtain ⟨he, hj⟩ := h.bef_mem h1
      exact ⟨_, he, by rw [if_neg h2]; exact hj⟩
    · rintro ⟨e, he, hx⟩
      split at hx
      · cases hx
      · rename_i q
        refine ⟨(h.ts e he).2 x hx, ?_⟩
        unfold newB
        rw [h.bef_eq he hx]
        exact decide_eq_true (.inr q)
theorem first_new {m : Nat} : ((List.range m).filter (newB 0 [])).length = m := by
  have : (List.range m).filter (newB 0 []) = List.range m := List.filter_eq_self.2 fun x _ => by unfold newB; simp
  rw [this]; simp
/-- All areas of all maps. -/
def prs (Ms : List Nat) : List (Int × Int) := (List.range Ms.length).flatMap fun n => (List.range (Ms.getD n 0)).map fun i : Nat => ((n : Int), (i : Int))
theorem prs_len : (prs Ms).length = Ms.sum := by
  unfold prs
  rw [List.length_flatMap]
  have : ∀ l : List Nat, ((List.range l.length).map fun n => ((List.range (l.getD n 0)).map fun i : Nat => ((n : Int), (i : Int))).length).sum = l.sum := fun l => by
    have e : (List.range l.length).map (fun n => ((List.range (l.getD n 0)).map fun i : Nat => ((n : Int), (i : Int))).length) = l := by
      refine List.ext_getElem? fun k => ?_
      rw [List.getElem?_map]
      by_cases hk : k < l.length
      · rw [List.getElem?_range hk, List.getElem?_eq_getElem hk]
        simp [List.getD_eq_getElem?_getD, hk]
      · rw [List.getElem?_eq_none (by simpa using hk), List.getElem?_eq_none (by omega)]; rfl
    rw [e]
  exact this Ms
theorem mem_prs {a : Int × Int} : a ∈ prs Ms ↔ ∃ n i : Nat, n < Ms.length ∧ i < Ms.getD n 0 ∧ a = ((n : Int), (i : Int)) := by
  unfold prs
  rw [List.mem_flatMap]
  constructor
  · rintro ⟨n, hn, hx⟩
    obtain ⟨i, hi, rfl⟩ := List.mem_map.1 hx
    exact ⟨n, i, List.mem_range.1 hn, List.mem_range.1 hi, rfl⟩
  · rintro ⟨n, i, hn, hi, rfl⟩
    exact ⟨n, List.mem_range.2 hn, List.mem_map.2 ⟨i, List.mem_range.2 hi, rfl⟩⟩
theorem nodup_flatG {α β : Type} {f : α → List β} : ∀ {l : List α}, (∀ a, a ∈ l → (f a).Nodup) → l.Pairwise (fun a b => ∀ x, x ∈ f a → x ∉ f b) → (l.flatMap f).Nodup
  | [],_,_ => by simp
  | a :: l, h1, h2 => by
    obtain ⟨h3, h4⟩ := List.pairwise_cons.1 h2
    rw [List.flatMap_cons]
    refine List.nodup_append.2 ⟨h1 a (by simp), nodup_flatG (fun b hb => h1 b (by simp [hb])) h4, fun x hx y hy e => ?_⟩
    subst e
    obtain ⟨b, hb, hxb⟩ := List.mem_flatMap.1 hy
    exact h3 b hb x hx hxb
theorem prs_nodup : (prs Ms).Nodup := by
  refine nodup_flatG (fun n _ => ?_) (List.nodup_range.imp fun {a b} (hab : a ≠ b) x hx hy => ?_)
  · refine List.Pairwise.map _ (fun a b (hab : a ≠ b) e => hab ?_) List.nodup_range
    have := congrArg Prod.snd e
    have : (a : Int) = (b : Int) := this
    omega
  · obtain ⟨i,_, rfl⟩ := List.mem_map.1 hx
    obtain ⟨j,_, e⟩ := List.mem_map.1 hy
    have := congrArg Prod.fst e
    have : (b : Int) = (a : Int) := this
    exact hab (by omega)
end
end Go.Proofs.Ytgemekpofpoopaa

namespace Go.SL
set_option linter.unusedVariables false
open Go.RowKit
section
variable {P : Program}
abbrev pairI (x : Int × Int) : Value := pairV intV intV x
theorem pairI_inj {a b : Int × Int} (h : pairI a = pairI b) : a = b := by
  have e := Array.toList_inj.2 (Value.agg.inj h)
  simp at e
  exact Prod.ext (intV_inj e.1) (intV_inj e.2)
theorem findNow_array {n E : Nat} {k : Value} {es : List MapEntry} {i : Nat} : Instr.findNow (.array n E) k es i = if es = [] then some none else none := by
  cases es with
  | nil => rfl
  | cons e es => simp [Instr.findNow, Instr.sameNow]
theorem key_arr2 {K E : TypeId} (hK : Arr2 P K E) : KeyE P K pairI where
  inj := pairI_inj
  chk := fun e n x w => by
    obtain ⟨hu, h1, ⟨i, hi⟩, hz,_, hE⟩ := hK
    have hs : ∀ w : World, (sizeOf E).run P w = .ok 1 w := fun w => run_size (by have z := hz; unfold Program.cellsOf at z; rw [hi] at z ⊢; simpa using z) w
    unfold Instr.checkKey
    simp only [Sem.run_bind, run_underlying hu, Result.andThen_ok]
    rw [Std.Legacy.Range.forIn_eq_forIn_range']
    simp only [Std.Legacy.Range.size, List.range', List.forIn_cons, List.forIn_nil, Sem.run_bind, hs, Result.andThen_ok, Nat.zero_mul]
    rw [part_one h1 (v := intV x.1) rfl, Result.andThen_ok, show intV x.1 = .int .i64 x.1 from rfl, checkKey_int hE e n _ w]
    simp only [Result.andThen_ok, Sem.run_pure, Sem.run_bind, hs]
    rw [part_one h1 (v := intV x.2) rfl, Result.andThen_ok, show intV x.2 = .int .i64 x.2 from rfl, checkKey_int hE e n _ w]
    rfl
  find := fun n es w h => by
    have heq : ∀ (a b : Int × Int) (w : World), (Op.equal K (pairI a) (pairI b)).run P w = .ok (decide (a = b)) w := fun a b w => by
      have z := eqArr2 hK a.1 a.2 b.1 b.2 9998 w
      have e : decide (a = b) = decide ([a.1, a.2] = [b.1, b.2]) := decide_eq_decide.2 ⟨fun h => by rw [h], fun h => by
        simp at h
        exact Prod.ext h.1 h.2⟩
      rw [e]; exact z
    obtain ⟨hu,_⟩ := hK
    simp only [Instr.findKey, Sem.run_bind, run_underlying hu, Result.andThen_ok, findNow_array]
    by_cases q : es = []
    · subst q; exact .inr ⟨rfl, by simp⟩
    · rw [if_neg q]
      rcases findAsking_run pairI_inj heq n w es 0 h with ⟨j, e, h1, h2, h3, h4⟩ | ⟨h1, h2⟩
      · exact .inl ⟨j, e, h1, by simpa using h3, h4⟩
      · exact .inr ⟨h1, h2⟩
  bits := fun x => by simp [Instr.sameBits, intV]
end
end Go.SL
