/-
  The document's sorted numbers.
-/
import Derived.Test.YtdcjeoamhjplmaaWV
namespace Go.Proofs.Ytdcjeoamhjplmaa
open Go.SL Go.Proofs Go.Cast
set_option linter.unusedVariables false



/-- The numbers so far, ascending, are the least ones. -/
def AscTo (m xs : List Int) : Prop := xs.Pairwise (· < ·) ∧ (∀ n, n ∈ xs → n ∈ m) ∧ ∀ n, n ∈ m → n ∉ xs → ∀ k, k ∈ xs → k < n
def lastI (xs : List Int) : Int := xs.getD (xs.length - 1) 0
def gtB (xs : List Int) (n : Int) : Bool := decide (xs.length = 0) || decide (lastI xs < n)
def lstF (xs : List Int) (q : Bool × Int) (n : Int) : Bool × Int := if gtB xs n && (!q.1 || decide (n < q.2)) then (true, n) else q
def lst (m xs : List Int) : Bool × Int := m.foldl (lstF xs) (false, 0)
theorem gtP {xs : List Int} {q : Bool × Int} {n : Int} : (((xs.length : Int) = 0 ∨ xs.getD (xs.length - 1) 0 < n) ∧ (¬ q.1 = true ∨ n < q.2)) ↔ (gtB xs n && (!q.1 || decide (n < q.2))) = true := by
  have h : ((xs.length : Int) = 0) ↔ xs.length = 0 := by omega
  unfold gtB lastI
  simp only [Bool.and_eq_true, Bool.or_eq_true, decide_eq_true_eq, Bool.not_eq_true', Bool.not_eq_true, h]
theorem lstF_t {xs : List Int} {q : Bool × Int} {n : Int} (h : (gtB xs n && (!q.1 || decide (n < q.2))) = true) : lstF xs q n = (true, n) := if_pos h
theorem lstF_f {xs : List Int} {q : Bool × Int} {n : Int} (h : ¬ (gtB xs n && (!q.1 || decide (n < q.2))) = true) : lstF xs q n = q := if_neg h
theorem fold_spec (xs : List Int) : ∀ (m : List Int) (q : Bool × Int), (q.1 = true → gtB xs q.2 = true) →
    let r := m.foldl (lstF xs) q
    (r.1 = false → q.1 = false ∧ ∀ n, n ∈ m → gtB xs n = false) ∧ (r.1 = true → gtB xs r.2 = true ∧ (r.2 ∈ m ∨ q.1 = true ∧ r.2 = q.2) ∧ (∀ n, n ∈ m → gtB xs n = true → r.2 ≤ n) ∧ (q.1 = true → r.2 ≤ q.2))
  | [], q, hq => ⟨fun h => ⟨h, by simp⟩, fun h => ⟨hq h, .inr ⟨h, rfl⟩, by simp, fun _ => Int.le_refl _⟩⟩
  | n :: m, q, hq => by
    by_cases c : (gtB xs n && (!q.1 || decide (n < q.2))) = true
    · have c2 := c
      simp only [Bool.and_eq_true] at c2
      have ih := fold_spec xs m (true, n) (fun _ => c2.1)
      show (((n :: m).foldl (lstF xs) q).1 = false → _) ∧ _
      rw [List.foldl_cons, lstF_t c]
      refine ⟨fun h => ?_, fun h => ?_⟩
      · have := (ih.1 h).1; cases this
      · obtain ⟨a, b, d, e⟩ := ih.2 h
        have e := e rfl
        dsimp only at e
        refine ⟨a, .inl ?_, fun k hk hg => ?_, fun hq1 => ?_⟩
        · rcases b with b | ⟨_, b⟩
          · exact List.mem_cons_of_mem _ b
          · rw [b]; exact List.mem_cons_self
        · rcases List.mem_cons.1 hk with rfl | hk
          · exact e
          · exact d k hk hg
        · have := c2.2
          rw [hq1] at this
          simp at this
          omega
    · have ih := fold_spec xs m q hq
      show (((n :: m).foldl (lstF xs) q).1 = false → _) ∧ _
      rw [List.foldl_cons, lstF_f c]
      refine ⟨fun h => ?_, fun h => ?_⟩
      · obtain ⟨a, b⟩ := ih.1 h
        refine ⟨a, fun k hk => ?_⟩
        rcases List.mem_cons.1 hk with rfl | hk
        · rw [a] at c; simpa using c
        · exact b k hk
      · obtain ⟨a, b, d, e⟩ := ih.2 h
        refine ⟨a, ?_, fun k hk hg => ?_, e⟩
        · rcases b with b | b
          · exact .inl (List.mem_cons_of_mem _ b)
          · exact .inr b
        · rcases List.mem_cons.1 hk with rfl | hk
          · rw [hg] at c
            simp only [Bool.true_and, Bool.or_eq_true, not_or, Bool.not_eq_true', decide_eq_true_eq] at c
            have := e (by simpa using c.1)
            omega
          · exact d k hk hg
theorem lastI_mem {xs : List Int} (h : xs.length ≠ 0) : lastI xs ∈ xs := by
  unfold lastI
  rw [List.getD_eq_getElem?_getD, List.getElem?_eq_getElem (by omega)]
  exact List.getElem_mem _
theorem lastI_max {xs : List Int} (h : xs.Pairwise (· < ·)) {n : Int} (hn : n ∈ xs) : n ≤ lastI xs := by
  obtain ⟨i, hi, rfl⟩ := List.getElem_of_mem hn
  unfold lastI
  rw [List.getD_eq_getElem?_getD, List.getElem?_eq_getElem (show xs.length - 1 < xs.length by omega)]
  show xs[i] ≤ xs[xs.length - 1]
  rcases Nat.lt_or_ge i (xs.length - 1) with q | q
  · exact Int.le_of_lt (List.pairwise_iff_getElem.1 h i _ _ _ q)
  · have : i = xs.length - 1 := by omega
    subst this; exact Int.le_refl _
theorem gtB_iff {m xs : List Int} (h : AscTo m xs) {n : Int} (hn : n ∈ m) : gtB xs n = true ↔ n ∉ xs := by
  unfold gtB
  simp only [Bool.or_eq_true, decide_eq_true_eq]
  constructor
  · rintro (e | e) q
    · rw [List.length_eq_zero_iff.1 e] at q; cases q
    · have := lastI_max h.1 q; omega
  · intro q
    by_cases e : xs.length = 0
    · exact .inl e
    · exact .inr (h.2.2 n hn q _ (lastI_mem e))
theorem ascTo_nil (m : List Int) : AscTo m [] := ⟨List.Pairwise.nil, by simp, by simp⟩
theorem ascTo_end {m xs : List Int} (h : AscTo m xs) (q : (lst m xs).1 = false) : AscOf (memB m) xs := by
  refine ⟨h.1, fun n => ?_⟩
  have hs := ((fold_spec xs m (false, 0) (by simp)).1 q).2
  simp only [memB, decide_eq_true_eq]
  constructor
  · exact h.2.1 n
  · intro hn
    have := hs n hn
    by_cases k : n ∈ xs
    · exact k
    · rw [(gtB_iff h hn).2 k] at this; cases this
theorem ascTo_step {m xs : List Int} (h : AscTo m xs) (q : (lst m xs).1 = true) : AscTo m (xs ++ [(lst m xs).2]) := by
  obtain ⟨a, b, d, _⟩ := (fold_spec xs m (false, 0) (by simp)).2 q
  have hm : (lst m xs).2 ∈ m := by rcases b with b | ⟨b, _⟩; exact b; cases b
  have hx := (gtB_iff h hm).1 a
  refine ⟨List.pairwise_append.2 ⟨h.1, by simp, fun k hk n hn => ?_⟩, fun n hn => ?_, fun n hn hnx k hk => ?_⟩
  · rw [List.mem_singleton] at hn; subst hn; exact h.2.2 _ hm hx k hk
  · rcases List.mem_append.1 hn with hn | hn
    · exact h.2.1 n hn
    · rw [List.mem_singleton] at hn; subst hn; exact hm
  · have h1 : n ∉ xs := fun t => hnx (List.mem_append_left _ t)
    have h2 : n ≠ (lst m xs).2 := fun t => hnx (List.mem_append_right _ (by simp [t]))
    rcases List.mem_append.1 hk with hk | hk
    · exact h.2.2 n hn h1 k hk
    · rw [List.mem_singleton] at hk; subst hk
      have h3 : (lst m xs).2 ≤ n := d n hn ((gtB_iff h hn).2 h1)
      omega
theorem ascTo_len {m xs : List Int} (h : AscTo m xs) : xs.length ≤ m.length := List.Nodup.length_le_of_subset (h.1.imp fun {a b} hab => by omega) h.2.1
theorem asc_eq : ∀ {l k : List Int}, l.Pairwise (· < ·) → k.Pairwise (· < ·) → (∀ n, n ∈ l ↔ n ∈ k) → l = k
  | [], [], _, _, _ => rfl
  | [], y :: k, _, _, h => by have := (h y).2 (by simp); cases this
  | x :: l, [], _, _, h => by have := (h x).1 (by simp); cases this
  | x :: l, y :: k, h1, h2, h => by
    have h1 := List.pairwise_cons.1 h1
    have h2 := List.pairwise_cons.1 h2
    have e : x = y := by
      rcases List.mem_cons.1 ((h x).1 (by simp)) with e | e
      · exact e
      · rcases List.mem_cons.1 ((h y).2 (by simp)) with f | f
        · exact f.symm
        · have := h1.1 y f; have := h2.1 x e; omega
    subst e
    congr 1
    refine asc_eq h1.2 h2.2 fun n => ⟨fun hn => ?_, fun hn => ?_⟩
    · rcases List.mem_cons.1 ((h n).1 (List.mem_cons_of_mem _ hn)) with e | e
      · have := h1.1 n hn; omega
      · exact e
    · rcases List.mem_cons.1 ((h n).2 (List.mem_cons_of_mem _ hn)) with e | e
      · have := h2.1 n hn; omega
      · exact e
theorem getD_some {α : Type} {l : List α} {d : α} {j : Nat} (h : j < l.length) : l[j]? = some (l.getD j d) := by rw [List.getD_eq_getElem?_getD, List.getElem?_eq_getElem h]; rfl
theorem len_pos {n : Nat} (h : (!decide ((n : Int) = 0)) = true) : 0 < n := by simp only [Bool.not_eq_true', decide_eq_false_iff_not] at h; omega
theorem len_sub {n : Nat} (h : (!decide ((n : Int) = 0)) = true) : (n : Int) - 1 = ((n - 1 : Nat) : Int) := by have := len_pos h; omega
theorem take_getI {l : List Int} {j : Nat} (h : j < l.length) : l.take (j + 1) = l.take j ++ [l.getD j 0] := by
  rw [List.take_add_one, List.getElem?_eq_getElem h, List.getD_eq_getElem?_getD, List.getElem?_eq_getElem h]; rfl

set_option maxRecDepth 20000 in
theorem rsorted_c (rs : List IRow) (p : Option Addr) (c : Nat) (w : World) (hn : rs.length ≤ 50) (hb : ∀ x ∈ rs, x.l.length ≤ 50) (hl : IRows w p rs) :
  Calls Try.prog 82 #[.slice p rs.length c] w fun e w' => ∃ x : Option Addr × Nat × List Int, (AscOf (memB (catI rs)) x.2.2 ∧ x.2.2.length ≤ (catI rs).length) ∧ e = .returned (.slice x.1 x.2.2.length x.2.1) ∧ St (bs w) [own 3 1 x.1 x.2.1 (x.2.2.map intC)] w' := by
  have hcl := catI_len hb
  refine enter (vs := [_]) (env := [(0, _)]) Try.func82 rfl rfl rfl rfl ?_
  refine VC.seq ?_
  refine VC.reg (VO.l (LO.as (.r rfl)) rfl <| VO.nil ?_)
  refine VE.seqN ?_
  refine VC.seq ?_
  refine VC.reg (VO.l (LO.as (.r rfl)) rfl <| VO.nil ?_)
  refine VE.seqN ?_
  refine VC.block ?_
  refine VC.loopK (α := (List Int) × (Option Addr) × Nat) 0 (fun gx => [(3, .slice gx.2.1 gx.1.length gx.2.2)]) [(0, _)] (fun gx => [own 3 1 gx.2.1 gx.2.2 (gx.1.map intC)]) (fun gx => AscTo (catI rs) gx.1) (fun gx => (catI rs).length - gx.1.length) ([], none, 0) (by exact ascTo_nil _) (.cons rfl (.cons rfl .nil)) (fun _ h => (h.ownNil 3 1)) ?_
  rintro ⟨xs, px, cx⟩ hA
  show VC _ _ _ _ _ ([(3, .slice px xs.length cx)] ++ _) ([own 3 1 px cx (xs.map intC)] ++ _) _ _
  dsimp only at hA
  have hxl := ascTo_len hA
  refine VC.block ?_
  refine VC.seq ?_
  refine VC.reg (VO.l (LO.as (.r rfl)) rfl <| VO.l (LO.as (.r rfl)) rfl <| VO.nil ?_)
  refine VE.seqN ?_
  refine VC.seq ?_
  refine VC.seq ?_
  refine VC.reg (VO.l (LO.as (.r rfl)) rfl <| VO.nil ?_)
  refine VE.seqN ?_
  refine VC.block ?_
  refine VC.loopK (α := Nat × (Bool × Int)) 0 (fun gx => [(4, .int .i64 gx.2.2), (5, .bool gx.2.1), (6, .int .i64 (gx.1 : Nat))]) [(0, _), (3, _)] (fun gx => []) (fun gx => gx.1 ≤ rs.length ∧ gx.2 = lst (catI (rs.take gx.1)) xs) (fun gx => rs.length - gx.1) (0, (false, 0)) (by exact ⟨Nat.zero_le _, rfl⟩) (.cons rfl (.cons rfl (.cons rfl (.cons rfl (.cons rfl .nil))))) (fun _ h => h) ?_
  rintro ⟨i, st⟩ ⟨hi, hS⟩
  show VC _ _ _ _ _ ([(4, .int .i64 st.2), (5, .bool st.1), (6, .int .i64 (i : Nat))] ++ _) ([] ++ _) _ _
  dsimp only at hi hS
  refine VC.seq ?_
  refine VC.seq ?_
  refine VC.reg (VO.l (LO.mv (.r rfl)) rfl <| VO.l (LO.mv (.r rfl)) rfl <| VO.l (LO.len S104 (.r rfl) rfl) rfl <| VO.l (LO.lt (.r rfl) (.r rfl)) rfl <| VO.nil ?_)
  refine VE.seqN ?_
  refine VC.cond rfl (fun h12 => ?_) (fun h12 => ?_)
  ·
    refine VC.skip (VE.seqN ?_)
    refine VC.seq ?_
    refine VC.block ?_
    refine VC.seq ?_
    have hrow := irow_at hl (i := i) (by omega)
    have hrl := hb _ (irow_mem (i := i) (by omega))
    refine VC.reg (VO.l (LO.as (.r rfl)) rfl <| VO.nil ?_)
    refine VE.seqN ?_
    refine VC.block ?_
    refine VC.loopK (α := Nat × (Bool × Int)) 0 (fun gx => [(4, .int .i64 gx.2.2), (5, .bool gx.2.1), (7, .int .i64 (gx.1 : Nat))]) [(0, _), (3, _), (6, _)] (fun gx => []) (fun gx => gx.1 ≤ (rs.getD i zI).l.length ∧ gx.2 = ((rs.getD i zI).l.take gx.1).foldl (lstF xs) st) (fun gx => (rs.getD i zI).l.length - gx.1) (0, st) (by exact ⟨Nat.zero_le _, rfl⟩) (.cons rfl (.cons rfl (.cons rfl (.cons rfl (.cons rfl (.cons rfl .nil)))))) (fun _ h => h) ?_
    rintro ⟨j, tt⟩ ⟨hj, hTT⟩
    show VC _ _ _ _ _ ([(4, .int .i64 tt.2), (5, .bool tt.1), (7, .int .i64 (j : Nat))] ++ _) ([] ++ _) _ _
    dsimp only at hj hTT
    refine VC.seq ?_
    refine VC.seq ?_
    refine VC.reg (VO.l (LO.mv (.r rfl)) rfl <| VO.l (LO.mv (.r rfl)) rfl <| VO.l (LO.mv (.r rfl)) rfl <| VO.l (LO.ixs S104 N28 hl.1.sm (.r rfl) (.r rfl) rfl (by omega)) rfl <| VO.l (LO.ld O28 (.r rfl) (fun w hw => cells_part (off := 0) ((hl.1.at zI (j := i) (by omega)) w hw) ⟨_, rfl⟩)) rfl <| VO.l (LO.len S28 (.r rfl) rfl) rfl <| VO.l (LO.lt (.r rfl) (.r rfl)) rfl <| VO.nil ?_)
    refine VE.seqN ?_
    refine VC.cond rfl (fun h21 => ?_) (fun h21 => ?_)
    ·
      refine VC.skip (VE.seqN ?_)
      refine VC.seq ?_
      refine VC.block ?_
      refine VC.seq ?_
      refine VC.reg (VO.l (LO.mv (.r rfl)) rfl <| VO.l (LO.mv (.r rfl)) rfl <| VO.l (LO.ixs S104 N28 hl.1.sm (.r rfl) (.r rfl) rfl (by omega)) rfl <| VO.l (LO.ld O28 (.r rfl) (fun w hw => cells_part (off := 0) ((hl.1.at zI (j := i) (by omega)) w hw) ⟨_, rfl⟩)) rfl <| VO.l (LO.mv (.r rfl)) rfl <| VO.l (LO.ixs S28 N3 hrow.2.some (.r rfl) (.r rfl) rfl (by omega)) rfl <| VO.l (LO.ld O3 (.r rfl) (hrow.2.at (j := j) (by omega))) rfl <| VO.l (LO.as (.r rfl)) rfl <| VO.nil ?_)
      refine VE.seqN ?_
      refine VC.seq ?_
      refine VC.reg (VO.l (LO.mv (.r rfl)) rfl <| VO.l (LO.len S28 (.r rfl) rfl) rfl <| VO.l (LO.eq (.r rfl) (.r rfl)) rfl <| VO.l (LO.mv (.r rfl)) rfl <| VO.lg rfl rfl (GD.f _) (fun hg => LO.mv (.r rfl)) rfl <| VO.lg rfl rfl (GD.f _) (fun hg => LO.mv (.r rfl)) rfl <| VO.lg rfl rfl (GD.f _) (fun hg => LO.mv (.r rfl)) rfl <| VO.lg rfl rfl (GD.f _) (fun hg => LO.len S28 (.g hg rfl) rfl) rfl <| VO.lg rfl rfl (GD.f _) (fun hg => LO.sub (.g hg rfl) (.r rfl) (wi (by omega) (by omega))) rfl <| VO.lg rfl rfl (GD.f _) (fun hg => LO.ixo S28 N3 (fun _ hw => (own_rows hw 0 rfl).some (by simp)) (.g hg rfl) (.g hg rfl) (len_sub hg) (by have := len_pos hg; omega)) rfl <| VO.lg rfl rfl (GD.f _) (fun hg => LO.ld O3 (.g hg rfl) (fun w hw => cells_part (off := 0) (own_cell hw 0 rfl (getD_some (d := 0) (by have := len_pos hg; omega))) ⟨_, rfl⟩)) rfl <| VO.lg rfl rfl (GD.f _) (fun hg => LO.gt (.g hg rfl) (.g hg rfl)) rfl <| VO.l (LO.pkO (.r rfl) (.r rfl) rfl rfl) rfl <| VO.l (LO.mv (.r rfl)) rfl <| VO.lg rfl rfl (GD.t _) (fun hg => LO.mv (.r rfl)) rfl <| VO.lg rfl rfl (GD.t _) (fun hg => LO.not (.g hg rfl)) rfl <| VO.lg rfl rfl (GD.t _) (fun hg => LO.mv (.g hg rfl)) rfl <| VO.lg rfl rfl (GD.nf _ _) (fun hg => LO.mv (.r rfl)) rfl <| VO.lg rfl rfl (GD.nf _ _) (fun hg => LO.mv (.r rfl)) rfl <| VO.lg rfl rfl (GD.nf _ _) (fun hg => LO.lt (.g hg rfl) (.g hg rfl)) rfl <| VO.lg rfl rfl (GD.t _) (fun hg => LO.pkO (.g hg rfl) (.r rfl) rfl (and_e hg)) rfl <| VO.l (LO.pkA (.r rfl) rfl rfl (.r rfl)) rfl <| VO.nil ?_)
      refine VE.seqN ?_
      refine VC.cond rfl (fun h52 => ?_) (fun h52 => ?_)
      ·
        refine VC.reg (VO.l (LO.mv (.r rfl)) rfl <| VO.l (LO.as (.r rfl)) rfl <| VO.l (LO.as (.r rfl)) rfl <| VO.nil ?_)
        refine VE.inN (VE.seqN ?_)
        refine VC.reg (VO.l (LO.mv (.r rfl)) rfl <| VO.l (LO.add (.r rfl) (.r rfl) (wi (by omega) (by omega))) rfl <| VO.l (LO.as (.r rfl)) rfl <| VO.nil ?_)
        refine VE.thenN fun a w ha hw => ⟨(j + 1, (true, (rs.getD i zI).l.getD j 0)), ⟨by dsimp only; omega, by dsimp only; rw [take_getI (by omega), List.foldl_append, ← hTT]; first | exact (lstF_t (gtP.1 h52)).symm | exact (lstF_f (fun q => h52 (gtP.2 q))).symm⟩, (by dsimp only; omega), ha.sub (.cons rfl (.cons rfl (.cons rfl (.cons rfl (.cons rfl (.cons rfl .nil)))))), hw⟩
      ·
        refine VC.skip (VE.inN (VE.seqN ?_))
        refine VC.reg (VO.l (LO.mv (.r rfl)) rfl <| VO.l (LO.add (.r rfl) (.r rfl) (wi (by omega) (by omega))) rfl <| VO.l (LO.as (.r rfl)) rfl <| VO.nil ?_)
        refine VE.thenN fun a w ha hw => ⟨(j + 1, tt), ⟨by dsimp only; omega, by dsimp only; rw [take_getI (by omega), List.foldl_append, ← hTT]; first | exact (lstF_t (gtP.1 h52)).symm | exact (lstF_f (fun q => h52 (gtP.2 q))).symm⟩, (by dsimp only; omega), ha.sub (.cons rfl (.cons rfl (.cons rfl (.cons rfl (.cons rfl (.cons rfl .nil)))))), hw⟩
    ·
      refine VC.exit (VE.thenX (VE.thenX (VE.inX (VE.inN (VE.seqN ?_)))))
      refine VC.reg (VO.l (LO.mv (.r rfl)) rfl <| VO.l (LO.add (.r rfl) (.r rfl) (wi (by omega) (by omega))) rfl <| VO.l (LO.as (.r rfl)) rfl <| VO.nil ?_)
      refine VE.thenN fun a w ha hw => ⟨(i + 1, tt), ⟨by dsimp only; omega, by dsimp only; rw [hTT, show (rs.getD i zI).l.take j = (rs.getD i zI).l from List.take_of_length_le (by omega), catI_step (by omega), hS]; unfold lst; rw [List.foldl_append]⟩, (by dsimp only; omega), ha.sub (.cons rfl (.cons rfl (.cons rfl (.cons rfl (.cons rfl .nil))))), hw⟩
  ·
    refine VC.exit (VE.thenX (VE.thenX (VE.inX (VE.seqN ?_))))
    refine VC.seq ?_
    refine VC.seq ?_
    refine VC.reg (VO.l (LO.mv (.r rfl)) rfl <| VO.l (LO.not (.r rfl)) rfl <| VO.nil ?_)
    refine VE.seqN ?_
    refine VC.cond rfl (fun h55 => ?_) (fun h55 => ?_)
    ·
      have hS2 : st = lst (catI rs) xs := by rw [hS, List.take_of_length_le (by omega)]
      have hT : (lst (catI rs) xs).1 = false := by rw [← hS2]; simpa using h55
      refine VC.seq ?_
      refine VC.reg (VO.l (LO.mv (.r rfl)) rfl <| VO.l (LO.as (.r rfl)) rfl <| VO.nil ?_)
      refine VE.seqN ?_
      refine VC.ret (VE.thenR (VE.inR (VE.thenR (VE.inR (VE.res (vs := [_]) rfl ⟨rfl, trivial⟩ (fun w hw => ?_))))))
      exact ⟨(px, cx, xs), ⟨ascTo_end hA hT, hxl⟩, rfl, hw.sel [0] rfl⟩
    ·
      have hS2 : st = lst (catI rs) xs := by rw [hS, List.take_of_length_le (by omega)]
      have hT : (lst (catI rs) xs).1 = true := by rw [← hS2]; simpa using h55
      refine VC.skip (VE.seqN ?_)
      refine VC.reg (VO.l (LO.mv (.r rfl)) rfl <| VO.l (LO.mv (.r rfl)) rfl <| VO.h rfl <| HO.bs (ps := [(_, _)]) (vs := [(_, _)]) (Z := [_]) (C := [_]) S28 Z3 N3 ⟨(.r rfl), trivial⟩ rfl rfl rfl rfl ⟨_, [_], [_], rfl, rfl, rfl, rfl, rfl⟩ fun b2 => VO.h rfl <| HO.appT (st.2) 1 0 (fun R => [_, R]) S28 S28 I3 (.r rfl) (.r rfl) rfl rfl rfl rfl rfl rfl rfl (fun _ => rfl) rfl (by omega) fun p3 c3 => VO.h rfl <| HO.lo (LO.as (.r rfl)) <| VO.nil ?_)
      refine VE.inN ?_
      refine VE.thenN fun a w ha hw => ⟨(xs ++ [st.2], _, _), (by dsimp only; rw [hS2]; exact ascTo_step hA hT), (by dsimp only; have := ascTo_len (ascTo_step hA hT); rw [List.length_append] at this ⊢; simp only [List.length_singleton] at this ⊢; omega), ha.sub (.cons rfl (.cons rfl .nil)), hw.sel [1] rfl⟩

end Go.Proofs.Ytdcjeoamhjplmaa
