/-
  append of several elements: what is appended lies anywhere (own, old, or in part of what is appended to).
-/
import Derived.Test.YtdcjeoamhjplmaaSX
namespace Go.SL
set_option linter.unusedVariables false
set_option linter.unusedSimpArgs false
open Go.RowKit
section
variable {P : Program} {ro : Option Nat} {β : Bs} {N : Nat} {ds : List Deferred} {env : Env} {L : List Res} {Q : Exit → Act → World → Prop}
variable {ty : TypeId} {pos : String} {aft : Array Edge}

theorem rows_flat {w : World} {z : Nat} {q : Option Addr} {rs : List (List Value)} (h : Go.SL.Rows w z q rs) (hz : ∀ r ∈ rs, r.length = z) (k : Nat) (v : Value) (hk : rs.flatten[k]? = some v) : w.cell? ((⟨pb q, po q, none⟩ : Addr).add k) = some v := by
  have hz0 : 0 < z := by
    rcases Nat.eq_zero_or_pos z with e | e
    · have : rs.flatten.length = 0 := by rw [flatten_len hz, e, Nat.mul_zero]
      rw [List.getElem?_eq_none (by omega)] at hk; cases hk
    · exact e
  have hkl : k < rs.flatten.length := by
    rcases Nat.lt_or_ge k rs.flatten.length with e | e
    · exact e
    · rw [List.getElem?_eq_none e] at hk; cases hk
  rw [flatten_len hz] at hkl
  have hj : k / z < rs.length := Nat.div_lt_of_lt_mul (by rw [Nat.mul_comm]; exact hkl)
  have hm : k % z < z := Nat.mod_lt _ hz0
  have hr := List.getElem?_eq_getElem hj
  have hrz : rs[k / z].length = z := hz _ (List.getElem_mem hj)
  have hv := List.getElem?_eq_getElem (l := rs[k / z]) (i := k % z) (by omega)
  have e := flatten_row hz hr hv
  have hdm : k / z * z + k % z = k := by have := Nat.div_add_mod k z; rw [Nat.mul_comm] at this; exact this
  rw [hdm, hk] at e
  cases e
  have := h.cells _ _ hr _ _ hv
  have e1 : (⟨pb q, po q + k / z * z, none⟩ : Addr).add (k % z) = ⟨pb q, po q + k, none⟩ := by
    rw [show po q + k = po q + k / z * z + k % z by omega]
    unfold Addr.add; split <;> simp_all
  have e2 : (⟨pb q, po q, none⟩ : Addr).add k = ⟨pb q, po q + k, none⟩ := by
    unfold Addr.add; split <;> simp_all
  rw [e1] at this; rw [e2]; exact this

theorem first_rows {w : World} {z : Nat} {q : Option Addr} {rs : List (List Value)} {c : Nat} (h : Go.SL.Rows w z q rs) (hz : ∀ r ∈ rs, r.length = z) : (Builtin.firstCells z rs.length (.slice q rs.length c)).run P w = .ok rs.flatten.toArray w := by
  cases q with
  | none => have := h.nil rfl; subst this; simp [Builtin.firstCells]
  | some a =>
    by_cases hne : rs = []
    · subst hne
      have := run_loadCells_list (P := P) w a [] (fun k v hk => by simp at hk)
      simpa [Builtin.firstCells] using this
    · have hs := h.spot hne a rfl
      have ea : a = ⟨pb (some a), po (some a), none⟩ := by cases a; simp_all [pb, po]
      have := run_loadCells_list (P := P) w a rs.flatten (fun k v hk => by rw [ea]; exact rows_flat h hz k v hk)
      simp only [Builtin.firstCells, ← flatten_len hz]
      exact this

theorem St.drewn {w : World} (hw : St β L w) : St β L w.drew := hw.drew (w.drawn + 1)
theorem rows_drew {w : World} {z : Nat} {q : Option Addr} {rs : List (List Value)} (h : Go.SL.Rows w z q rs) : Go.SL.Rows w.drew z q rs := ⟨h.cells, h.nil, h.spot⟩

/-- Some elements are appended to a slice that is owned. -/
theorem run_appendN {w : World} (hw : St β L w) (i : Nat) {T T' ty E z by_ : Nat} {zero : Value} {p q : Option Addr} {cap c2 : Nat} {rows rs : List (List Value)} (hT : IsSlice P T E) (hT' : IsSlice P T' E) (hE : EInfo P E z by_ zero)
    (hi : L[i]? = some (own E z p cap rows)) (hq : Go.SL.Rows w z q rs) (hr : ∀ r ∈ rs, r.length = z) (h1 : ∀ r ∈ rs, allOne r = true) (hn : (2 * (rows.length + rs.length) + 768) * by_ ≤ 281474976710656) {aT : Array TypeId} (ha0 : aT[0]? = some T) (ha1 : aT[1]? = some T') :
    ∃ p' cap' w', (Builtin.append_ aT ty #[.slice p rows.length cap, .slice q rs.length c2]).run P w = .ok (.slice p' (rows.length + rs.length) cap') w' ∧ St β (L.set i (own E z p' cap' (rows ++ rs))) w' ∧ (rs ≠ [] → p' ≠ none) ∧ (p ≠ none → p' ≠ none) := by
  obtain ⟨hz, hby, hze, hzz, hb0⟩ := hE
  obtain ⟨o1, o2, o3, o4⟩ := hw.inv i _ hi
  obtain ⟨ti, hti, htb⟩ := run_bytes hby w
  have hnew : (Builtin.firstCells z rs.length (.slice q rs.length c2)).run P w = .ok rs.flatten.toArray w := first_rows hq hr
  have hhas : ∀ r' ∈ rows ++ rs, r'.length = z := by
    intro r' hr'
    rcases List.mem_append.1 hr' with q | q
    · exact o2 r' q
    · exact hr r' q
  have hu' : (underlying T').run P w = .ok (.slice E) w := run_underlying hT' w
  have hu : (underlying T).run P w = .ok (.slice E) w := run_underlying hT w
  have hone : ∀ u ∈ rs.flatten, u.oneCell' = true := by
    intro u hu
    obtain ⟨r, hr', hu'⟩ := List.mem_flatten.1 hu
    exact allOne_spec (h1 r hr') u hu'
  have hni : ¬ ((rows.length + rs.length : Nat) : Int) > IntKind.i64.max := by
    have : rows.length + rs.length ≤ 281474976710656 := by
      have : (2 * (rows.length + rs.length) + 768) * 1 ≤ (2 * (rows.length + rs.length) + 768) * by_ := Nat.mul_le_mul_left _ hb0
      omega
    have hm : IntKind.i64.max = 9223372036854775807 := rfl
    rw [hm]
    omega
  have hlt : i < L.length := by
    rcases Nat.lt_or_ge i L.length with h' | h'
    · exact h'
    · simp [List.getElem?_eq_none h'] at hi
  have hfl := flatten_len o2
  have hfl2 := flatten_len hr
  by_cases hc : rows.length + rs.length ≤ cap
  · -- there is room
    cases p with
    | none =>
      have h3 := o3 rfl
      have e1 : rows = [] := h3.1
      have e2 : rs = [] := by
        have : rs.length = 0 := by omega
        exact List.length_eq_zero_iff.1 this
      subst e1; subst e2
      have e3 : cap = 0 := h3.2
      subst e3
      refine ⟨none, 0, w, ?_, ?_, by simp, by simp⟩
      · have : (Builtin.firstCells z 0 (.slice q 0 c2)).run P w = .ok #[] w := by simpa using hnew
        simp [Builtin.append_, ha0, ha1, hu, hu', run_size hz, Builtin.lenOf, this]
      · have e : L.set i (own E z none 0 ([] ++ [])) = L := by
          have e0 : own E z none 0 ([] ++ []) = own E z none 0 [] := rfl
          rw [e0]
          refine List.ext_getElem? fun k => ?_
          by_cases ek : k = i
          · subst ek; rw [List.getElem?_set_self hlt, hi]
          · rw [List.getElem?_set_ne (Ne.symm ek)]
        rw [e]; exact hw
    | some a =>
      obtain ⟨g1, g2, C, spare, g3, g4, g5⟩ := o4 a rfl
      have hadd : a.add (rows.length * z) = ⟨a.block, rows.length * z, none⟩ := add0 g1 g2 _
      have hfit : rows.length * z + rs.flatten.length ≤ C.size := by
        rw [g5, hfl2]
        have := Nat.mul_le_mul_right z hc
        rw [Nat.add_mul] at this; omega
      have hst := run_storeCells_at P a.block (rows.length * z) E rs.flatten 0 C w g3 (by simpa using hfit) hone
      simp only [Nat.add_zero] at hst
      refine ⟨some a, cap, w.setRow a.block (C.toList.take (rows.length * z) ++ rs.flatten ++ C.toList.drop (rows.length * z + rs.flatten.length)).toArray, ?_, ?_, by simp, by simp⟩
      · simp only [Builtin.append_, ha0, ha1, Sem.run_bind, List.getElem?_toArray, List.getElem?_cons_zero, List.getElem?_cons_succ, hu, hu', run_size hz, Builtin.lenOf, Result.andThen_ok, Sem.run_pure, Bool.false_eq_true, if_false, Bool.not_false, if_true, hc, hnew, hadd, hst]
      · have hw1 := hw.conv i (r' := blk a.block (.cells C E)) hi (fun k hk => ⟨by simp, hk⟩) g3
        have hi1 : (L.set i (blk a.block (.cells C E)))[i]? = some (blk a.block (.cells C E)) := by simp [hlt]
        have hw2 := hw1.setRow (C' := (C.toList.take (rows.length * z) ++ rs.flatten ++ C.toList.drop (rows.length * z + rs.flatten.length)).toArray) hi1
        rw [List.set_set] at hw2
        have hi2 : (L.set i (blk a.block (.cells (C.toList.take (rows.length * z) ++ rs.flatten ++ C.toList.drop (rows.length * z + rs.flatten.length)).toArray E)))[i]? = some (blk a.block (.cells (C.toList.take (rows.length * z) ++ rs.flatten ++ C.toList.drop (rows.length * z + rs.flatten.length)).toArray E)) := by simp [hlt]
        have hfin : (own E z (some a) cap (rows ++ rs)).inv (w.setRow a.block (C.toList.take (rows.length * z) ++ rs.flatten ++ C.toList.drop (rows.length * z + rs.flatten.length)).toArray) := by
          refine ⟨by simp; omega, hhas, fun h => (by cases h), fun a' ha' => ?_⟩
          cases ha'
          refine ⟨g1, g2, _, C.toList.drop (rows.length * z + rs.flatten.length), hw2.inv i _ hi2, ?_, ?_⟩
          · have : C.toList.take (rows.length * z) = rows.flatten := by rw [g4, List.take_append_of_le_length (by omega), List.take_of_length_le (by omega)]
            simp [this]
          · have := hfit
            simp only [List.size_toArray, List.length_append, List.length_take, List.length_drop, Array.length_toList]
            rw [← g5]; omega
        have hw3 := hw2.conv (r' := own E z (some a) cap (rows ++ rs)) i hi2 (fun k hk => hk.2) hfin
        rwa [List.set_set] at hw3
  · -- a new array
    have hcap : ¬ rows.length + rs.length ≤ cap := hc
    have hncap : ¬ (Builtin.nextslicecap (rows.length + rs.length) cap * ti.bytes > 2 ^ 48) := by
      have h2 := nextcap_le (need := rows.length + rs.length) (cap := cap) (by omega)
      have h3 := Nat.mul_le_mul_right by_ h2
      rw [htb]; omega
    generalize hcc : Question.cut (.appendCap (rows.length + rs.length) cap E) (w.tape w.drawn (.appendCap (rows.length + rs.length) cap E)) = cap'
    have hge : rows.length + rs.length ≤ cap' := by rw [← hcc]; simp [Question.cut]
    have hrows : Go.SL.Rows w z p rows := own_rows hw i hi
    have hold : (Builtin.firstCells z rows.length (.slice p rows.length cap)).run P w.drew = .ok rows.flatten.toArray w.drew := first_rows (rows_drew hrows) o2
    have hnew' : (Builtin.firstCells z rs.length (.slice q rs.length c2)).run P w.drew = .ok rs.flatten.toArray w.drew := first_rows (rows_drew hq) hr
    have hti' : (typeInfo E).run P w.drew = .ok ti w.drew := by
      cases hq : P.info? E with
      | none => simp [typeInfo, hq] at hti
      | some i => simp [typeInfo, hq] at hti ⊢; exact hti
    refine ⟨some ⟨w.heap.size, 0, none⟩, cap', (World.alloc w.drew (.cells (rows.flatten.toArray ++ rs.flatten.toArray ++ Builtin.zeroCells zero.cells (cap' - (rows.length + rs.length))) E)), ?_, ?_, by simp, by simp⟩
    · have hb1 : ti.bytes ≠ 0 := by omega
      have hncap' : ¬ (281474976710656 < Builtin.nextslicecap (rows.length + rs.length) cap * ti.bytes) := by omega
      simp [Builtin.append_, ha0, ha1, hu, hu', run_size hz, Builtin.lenOf, hcap, hti, hb1, hncap', Question.forced, hcc, hti', hold, hnew', run_zero hze, newRow]
      congr 2
      apply Array.ext'
      simp
    · have hw' := (hw.drew (w.drawn + 1) : St β L w.drew).alloc (.cells (rows.flatten.toArray ++ rs.flatten.toArray ++ Builtin.zeroCells zero.cells (cap' - (rows.length + rs.length))) E)
      have hm : St β (L.set i (blk w.heap.size (.cells (rows.flatten.toArray ++ rs.flatten.toArray ++ Builtin.zeroCells zero.cells (cap' - (rows.length + rs.length))) E))) (World.alloc w.drew (.cells (rows.flatten.toArray ++ rs.flatten.toArray ++ Builtin.zeroCells zero.cells (cap' - (rows.length + rs.length))) E)) := by
        refine hw'.map (fun k => if k = i then 0 else k + 1) ?_ ?_
        · intro a b hab _ _
          by_cases e1 : a = i <;> by_cases e2 : b = i <;> simp [e1, e2] <;> omega
        · intro k s hs
          right
          by_cases e : k = i
          · subst e; simp [hlt] at hs; simp [hs]
          · rw [List.getElem?_set_ne (Ne.symm e)] at hs
            simp [e, hs]
      have hi2 : (L.set i (blk w.heap.size (.cells (rows.flatten.toArray ++ rs.flatten.toArray ++ Builtin.zeroCells zero.cells (cap' - (rows.length + rs.length))) E)))[i]? = some (blk w.heap.size (.cells (rows.flatten.toArray ++ rs.flatten.toArray ++ Builtin.zeroCells zero.cells (cap' - (rows.length + rs.length))) E)) := by simp [hlt]
      have hfin : (own E z (some ⟨w.heap.size, 0, none⟩) cap' (rows ++ rs)).inv (World.alloc w.drew (.cells (rows.flatten.toArray ++ rs.flatten.toArray ++ Builtin.zeroCells zero.cells (cap' - (rows.length + rs.length))) E)) := by
        refine ⟨by simp; omega, hhas, fun h => (by cases h), fun a' ha' => ?_⟩
        cases ha'
        refine ⟨rfl, rfl, _, (Builtin.zeroCells zero.cells (cap' - (rows.length + rs.length))).toList, hm.inv i _ hi2, by simp, ?_⟩
        simp only [Array.size_append, List.size_toArray, hfl, hfl2, zeroCells_size, hzz]
        rw [← Nat.add_mul, ← Nat.add_mul]
        congr 1; omega
      have := hm.conv (r' := own E z (some ⟨w.heap.size, 0, none⟩) cap' (rows ++ rs)) i hi2 (fun k hk => hk.2) hfin
      rwa [List.set_set] at this

variable {dd : Option Nat}
/-- append(x, y...), x owned, y read. -/
theorem HO.appN {α : Type} {f : α → List Value} {l m : List α} (i : Nat) (LF : Res → List Res) {K : Value → List Res → Prop} {x y : Operand} {T T' E z by_ : Nat} {aT : Array TypeId} {zero : Value} {p q : Option Addr} {n n2 cap c2 : Nat} (hT : IsSlice P T E) (hT' : IsSlice P T' E) (hE : EInfo P E z by_ zero) (hx : OV env x (.slice p n cap)) (hy : OV env y (.slice q n2 c2))
    (hi : L[i]? = some (own E z p cap (l.map f))) (hq : ∀ w, St β L w → Go.SL.Rows w z q (m.map f)) (hz : ∀ a, (f a).length = z) (h1 : ∀ a, allOne (f a) = true) (ha0 : aT[0]? = some T) (ha1 : aT[1]? = some T') (hL : ∀ R : Res, L.set i R = LF R) (hn : n = l.length) (hn2 : n2 = m.length) (hs : (2 * (n + n2) + 768) * by_ ≤ 281474976710656)
    (k : ∀ p' cap', (m ≠ [] ∨ p ≠ none → p' ≠ none) → K (.slice p' (n + n2) cap') (LF (own E z p' cap' ((l ++ m).map f)))) : HO P β env L ⟨dd, .call ⟨.builtin .append, #[x, y], aT⟩, ty, pos, aft, none⟩ K := by
  intro a w h hw
  subst hn; subst hn2
  obtain ⟨p', cap', w', h2, h3, h4, h5⟩ := run_appendN (ty := ty) (c2 := c2) hw i hT hT' hE hi (hq w hw) (by intro r hr; obtain ⟨b, _, rfl⟩ := List.mem_map.1 hr; exact hz b) (by intro r hr; obtain ⟨b, _, rfl⟩ := List.mem_map.1 hr; exact h1 b) (by simpa using hs) ha0 ha1
  refine .inl ⟨_, w', _, _, ?_, .inl rfl, k p' cap' (fun q => q.elim (fun e => h4 (by simpa using e)) h5), ?_⟩
  · have ex : a.eval x = .slice p l.length cap := by obtain ⟨u, hu, e⟩ := hx; subst e; exact h x (by simp [Op.operands, Call.operands]) _ hu
    have ey : a.eval y = .slice q m.length c2 := by obtain ⟨u, hu, e⟩ := hy; subst e; exact h y (by simp [Op.operands, Call.operands]) _ hu
    simp only [List.length_map] at h2
    simp [execOp, resolve, invoke, builtin, ex, ey, h2]
  · rw [List.map_append, ← hL]; exact h3
end
end Go.SL
