/-
  Flows that fit.
-/
import Derived.Test.YtdcjeoamhjplmaaWR
namespace Go.Proofs.Ytdcjeoamhjplmaa
open Go.SL Go.Proofs Go.Cast
set_option linter.unusedVariables false

theorem C42 : IsFn Try.prog 42 := ⟨_, Try.func42, by decide, rfl⟩


def liesB (a b : Flow) : Bool := ((decide (b.a ≤ a.a) && decide (a.b ≤ b.b)) && decide (b.c ≤ a.c)) && decide (a.d ≤ b.d)
theorem lies_iff {a b : Flow} : liesB a b = true ↔ (b.a ≤ a.a ∧ a.b ≤ b.b) ∧ b.c ≤ a.c ∧ a.d ≤ b.d := by
  unfold liesB; simp only [Bool.and_eq_true, decide_eq_true_eq]; exact ⟨fun h => ⟨h.1.1, h.1.2, h.2⟩, fun h => ⟨⟨h.1, h.2.1⟩, h.2.2⟩⟩
theorem tm33 (x : Int) : -32 ≤ x.tmod 33 ∧ x.tmod 33 ≤ 32 := by
  rcases Int.le_total 0 x with h | h
  · have := tmod_pos h (n := 33) (by decide); omega
  · have := tmod_pos (a := -x) (n := 33) (by omega) (by decide)
    rw [Int.neg_tmod] at this; omega
theorem k2_bd {k p b : Int} (h : k = 1 ∨ k = 2) (h1 : -b ≤ p) (h2 : p ≤ b) : -2 * b ≤ k * p ∧ k * p ≤ 2 * b := by
  rcases h with rfl | rfl <;> omega
theorem k2_pos {k p : Int} (h : k = 1 ∨ k = 2) (h1 : 1 ≤ p) : 1 ≤ k * p := by
  rcases h with rfl | rfl <;> omega
theorem rush_k {k p n : Int} (h : k = 1 ∨ k = 2) : rushLo (k * p) (k * n) 0 = rushLo p n 0 ∧ rushHi (k * p) (k * n) 0 = rushHi p n 0 := by
  rcases h with rfl | rfl
  · simp
  · unfold rushLo rushHi
    have e1 : 1000 * (1000 * (2 * p) - 0) = 2 * (1000 * (1000 * p - 0)) := by omega
    have e2 : -(1000 * (1000 * (2 * p) + 0)) = 2 * -(1000 * (1000 * p + 0)) := by omega
    rw [e1, e2, Int.mul_ediv_mul_of_pos _ _ (by decide), Int.mul_ediv_mul_of_pos _ _ (by decide)]
    exact ⟨rfl, rfl⟩
theorem fit_k {k px py n : Int} (h : k = 1 ∨ k = 2) (h1 : -32 ≤ px) (h2 : px ≤ 32) (h3 : -32 ≤ py) (h4 : py ≤ 32) (h5 : 1 ≤ n) (h6 : n ≤ 40000) : fitE (k * px) (k * px) (k * py) (k * py) (k * n) 0 = fitE px px py py n 0 ∧ ¬ (¬ fitE px px py py n 0 = 0 ∧ ¬ fitE px px py py n 0 = 26) ∧ fitR (k * px) (k * px) (k * py) (k * py) (k * n) 0 = fitR px px py py n 0 ∧ (fitE px px py py n 0 = 0 → flowOk (fitR px px py py n 0)) := by
  have a1 := k2_bd h (p := px) (b := 32) h1 h2
  have a2 := k2_bd h (p := py) (b := 32) h3 h4
  have a3 := k2_bd h (p := n) (b := 40000) (by omega) h6
  have a4 := k2_pos h h5
  have o1 : fitOk (k * px) (k * px) (k * py) (k * py) (k * n) 0 := by unfold fitOk; omega
  have o2 : fitOk px px py py n 0 := by unfold fitOk; omega
  have eF : fitF (k * px) (k * px) (k * py) (k * py) (k * n) 0 = fitF px px py py n 0 := by
    unfold fitF; rw [(rush_k h (p := px)).1, (rush_k h (p := px)).2, (rush_k h (p := py)).1, (rush_k h (p := py)).2]
  have eE : fitE (k * px) (k * px) (k * py) (k * py) (k * n) 0 = fitE px px py py n 0 := by
    have x1 : fitE (k * px) (k * px) (k * py) (k * py) (k * n) 0 = if ¬ flowOk (fitF (k * px) (k * px) (k * py) (k * py) (k * n) 0) then 26 else 0 := if_neg (fun q => q o1)
    have x2 : fitE px px py py n 0 = if ¬ flowOk (fitF px px py py n 0) then 26 else 0 := if_neg (fun q => q o2)
    rw [x1, x2, eF]
  refine ⟨eE, ?_, ?_, ?_⟩
  · unfold fitE; rw [if_neg (fun q => q o2)]; split <;> simp
  · unfold fitR; rw [eE, eF]
  · intro e
    unfold fitR; rw [if_pos e]
    unfold fitE at e
    rw [if_neg (fun q => q o2)] at e
    split at e
    · omega
    · rename_i q; exact Classical.not_not.1 q
theorem flowsTwo {w : World} {x y : Flow} {s : Nat} (h : Cells w ⟨s, 0, none⟩ (Flow.cells x ++ Flow.cells y)) : Flows w (some ⟨s, 0, none⟩) [x, y] := by
  refine ⟨?_, fun q => (by cases q), fun _ a q => (by cases q; rfl)⟩
  intro j r hr
  match j, hr with
  | 0, hr => cases hr; exact fun i v hv => h i v (by rw [List.getElem?_append_left (by have := (List.getElem?_eq_some_iff.1 hv).1; exact this)]; exact hv)
  | 1, hr =>
    cases hr
    intro i v hv
    have := h (4 + i) v (by rw [List.getElem?_append_right (by simp [Flow.cells])]; simpa [Flow.cells] using hv)
    unfold Addr.add at *
    simp only [pb, po] at *
    split <;> simp_all
  | j + 2, hr => simp at hr
section
variable {l : List Flow} {i j : Nat}
theorem meet_two {x y : Flow} (h : x = y) (k : flowOk x) : meetE [x, y] = 0 := by
  subst h
  have e0 : flowsE [x, x] = 0 := by
    unfold flowsE
    rw [if_neg (by simp), if_neg (by simp)]
    refine firstE_zero fun j hj => ?_
    have : [x, x].getD j zF = x := by
      match j, hj with
      | 0, _ => rfl
      | 1, _ => rfl
      | j + 2, hj => simp at hj; omega
    rw [this]; exact flowE_iff.2 k
  unfold meetE
  rw [if_neg (fun q => q e0)]
  have : allF meetF [x, x] = x := by show meetF x x = x; exact meet_self x
  rw [this, if_pos (flowE_iff.2 k)]
theorem firstE_rng {f : Nat → Int} (h : ∀ k, f k = 0 ∨ f k = 3) : ∀ n, firstE f n = 0 ∨ firstE f n = 3 := by
  intro n
  by_cases q : firstE f n = 0
  · exact .inl q
  · refine .inr ?_
    have : ∃ i, i < n ∧ (∀ k, k < i → f k = 0) ∧ f i ≠ 0 := Classical.byContradiction fun r => q (firstE_zero (by
      intro k
      induction k using Nat.strongRecOn with
      | ind k ih => intro hk; exact Classical.byContradiction fun s => r ⟨k, hk, fun m hm => ih m hm (by omega), s⟩))
    obtain ⟨i, h1, h2, h3⟩ := this
    rw [firstE_at h2 h3 h1]
    rcases h i with s | s
    · exact absurd s h3
    · exact s
theorem flowsE_rng (l : List Flow) : ¬ flowsE l = 14 := by
  unfold flowsE
  split
  · decide
  · split
    · decide
    · have := firstE_rng (f := fun k => flowE (l.getD k zF)) (fun k => by unfold flowE; split <;> simp) l.length
      omega
theorem meet_14 (h : meetE l = 14) : ∃ i j : Nat, flowsE l = 0 ∧ meetP l = (((i : Nat) : Int), ((j : Nat) : Int)) ∧ Confl l i j := by
  have h0 : flowsE l = 0 := Classical.byContradiction fun q => by
    unfold meetE at h; rw [if_pos q] at h; exact flowsE_rng l h
  have hn : ¬ flowE (allF meetF l) = 0 := fun q => by
    unfold meetE at h; rw [if_neg (fun r => r h0), if_pos q] at h; omega
  have hx : ∃ q : Nat × Nat, FirstC l q.1 q.2 := by
    have hc : ∃ a b, Confl l a b := Classical.byContradiction fun r => hn ((helly h0).2 (fun a b s => r ⟨a, b, s⟩))
    have min1 : ∃ a, (∃ b, Confl l a b) ∧ ∀ a', a' < a → ¬ ∃ b, Confl l a' b := by
      obtain ⟨a, ha⟩ := hc
      induction a using Nat.strongRecOn with
      | ind a ih =>
        by_cases q : ∃ a', a' < a ∧ ∃ b, Confl l a' b
        · obtain ⟨a', h1, h2⟩ := q; exact ih a' h1 h2
        · exact ⟨a, ha, fun a' h1 h2 => q ⟨a', h1, h2⟩⟩
    obtain ⟨a, ⟨b, hb⟩, ha⟩ := min1
    have min2 : ∃ b, Confl l a b ∧ ∀ b', b' < b → ¬ Confl l a b' := by
      induction b using Nat.strongRecOn with
      | ind b ih =>
        by_cases q : ∃ b', b' < b ∧ Confl l a b'
        · obtain ⟨b', h1, h2⟩ := q; exact ih b' h1 h2
        · exact ⟨b, hb, fun b' h1 h2 => q ⟨b', h1, h2⟩⟩
    obtain ⟨b, hb, hb'⟩ := min2
    exact ⟨(a, b), hb, fun a' b' h1 h2 => ha a' h1 ⟨b', h2⟩, hb'⟩
  obtain ⟨q, hq⟩ := hx
  exact ⟨q.1, q.2, h0, meetP_at h0 hq, hq.1⟩
theorem meet_n14 (h : ¬ meetE l = 14) : meetE l = flowsE l := by
  unfold meetE at *
  by_cases q : ¬ flowsE l = 0
  · rw [if_pos q]
  · rw [if_neg q] at *
    by_cases r : flowE (allF meetF l) = 0
    · rw [if_pos r]; exact (Classical.not_not.1 q).symm
    · rw [if_neg r] at h; exact absurd rfl h
theorem pair_bad (hF : 0 < l.length ∧ l.length ≤ 64 ∧ ∀ k, k < l.length → flowOk (l.getD k zF)) (h : Confl l i j) : (((l.getD j zF).b < (l.getD i zF).a ∨ (l.getD i zF).b < (l.getD j zF).a) ∨ (l.getD j zF).d < (l.getD i zF).c) ∨ (l.getD i zF).d < (l.getD j zF).c := by
  have p := hF.2.2 i (by have := h.1; have := h.2.1; omega)
  have q := hF.2.2 j h.2.1
  have r := (bad_iff hF (by have := h.1; have := h.2.1; omega) h.2.1).2 h.2.2
  unfold flowOk at p q
  omega
theorem meetV_0 (h : meetE l = 0) : meetV l = allF meetF l := if_pos h
theorem hullR_0 (h : flowsE l = 0) : hullR l = allF hullF l := if_pos h
theorem fold_hull (m : List Flow) : ∀ f : Flow, (∀ x, x ∈ f :: m → (m.foldl hullF f).a ≤ x.a ∧ x.b ≤ (m.foldl hullF f).b ∧ (m.foldl hullF f).c ≤ x.c ∧ x.d ≤ (m.foldl hullF f).d) ∧ (∀ o : Flow, (∀ x, x ∈ f :: m → liesB x o = true) → liesB (m.foldl hullF f) o = true) := by
  induction m with
  | nil => intro f; refine ⟨by simp, fun o h => h f (by simp)⟩
  | cons y m ih =>
    intro f
    obtain ⟨h0, h1⟩ := ih (hullF f y)
    rw [List.foldl_cons]
    have hf := h0 (hullF f y) (by simp)
    have m1 : (hullF f y).a = min f.a y.a := rfl
    have m2 : (hullF f y).b = max f.b y.b := rfl
    have m3 : (hullF f y).c = min f.c y.c := rfl
    have m4 : (hullF f y).d = max f.d y.d := rfl
    refine ⟨fun x hx => ?_, fun o h => h1 o fun x hx => ?_⟩
    · rcases List.mem_cons.1 hx with q | q
      · subst q; omega
      · rcases List.mem_cons.1 q with q | q
        · subst q; omega
        · exact h0 x (by simp [q])
    · rcases List.mem_cons.1 hx with q | q
      · subst q
        have a := lies_iff.1 (h f (by simp))
        have b := lies_iff.1 (h y (by simp))
        exact lies_iff.2 (by omega)
      · exact h x (by simp [q])
theorem lies_meet (h0 : flowsE l = 0) (hm : meetE l = 0) (hi : i < l.length) : liesB (meetV l) (l.getD i zF) = true := by
  have h := (fold_meet (l.drop 1) (l.getD 0 zF)).1 (l.getD i zF) (by rw [cons_eq (flows_ok h0).1]; exact getD_mem' hi)
  rw [meetV_0 hm]; unfold allF
  exact lies_iff.2 (by omega)
theorem lies_hull (h0 : flowsE l = 0) (hi : i < l.length) : liesB (l.getD i zF) (hullR l) = true := by
  have h := (fold_hull (l.drop 1) (l.getD 0 zF)).1 (l.getD i zF) (by rw [cons_eq (flows_ok h0).1]; exact getD_mem' hi)
  rw [hullR_0 h0]; unfold allF
  exact lies_iff.2 (by omega)
theorem in_meet {o : Flow} (h0 : flowsE l = 0) (hm : meetE l = 0) (h : ∀ k, k < l.length → liesB o (l.getD k zF) = true) : liesB o (meetV l) = true := by
  have hl := (flows_ok h0).1
  obtain ⟨_, ⟨xa, ha, ea⟩, ⟨xb, hb, eb⟩, ⟨xc, hc, ec⟩, ⟨xd, hd, ed⟩⟩ := fold_meet (l.drop 1) (l.getD 0 zF)
  rw [cons_eq hl] at ha hb hc hd
  obtain ⟨ia, hia, rfl⟩ := mem_getD ha
  obtain ⟨ib, hib, rfl⟩ := mem_getD hb
  obtain ⟨ic, hic, rfl⟩ := mem_getD hc
  obtain ⟨id, hid, rfl⟩ := mem_getD hd
  have fa := lies_iff.1 (h _ hia)
  have fb := lies_iff.1 (h _ hib)
  have fc := lies_iff.1 (h _ hic)
  have fd := lies_iff.1 (h _ hid)
  rw [meetV_0 hm]; unfold allF
  exact lies_iff.2 (by omega)
theorem hull_in {o : Flow} (h0 : flowsE l = 0) (h : ∀ k, k < l.length → liesB (l.getD k zF) o = true) : liesB (hullR l) o = true := by
  rw [hullR_0 h0]; unfold allF
  refine (fold_hull (l.drop 1) (l.getD 0 zF)).2 o fun x hx => ?_
  rw [cons_eq (flows_ok h0).1] at hx
  obtain ⟨k, hk, rfl⟩ := mem_getD hx
  exact h k hk
theorem wid_ok {f : Flow} {ch sec : Int} (hf : flowOk f) (h1 : 0 ≤ ch) (h2 : ch ≤ 100000) (h3 : 0 ≤ sec) (h4 : sec ≤ 86400) : widE f ch sec = 0 ∧ liesB f (widR f ch sec) = true := by
  have e : widE f ch sec = 0 := by unfold widE; rw [if_neg (fun q => q (flowE_iff.2 hf)), if_neg (fun q => q ⟨⟨h1, h2⟩, h3, h4⟩)]
  refine ⟨e, ?_⟩
  have hm := mulw h1 h2 h3 h4
  have hw := mulwd hm.1 hm.2
  unfold widR; rw [if_pos e]
  unfold flowOk at hf
  refine lies_iff.2 ?_
  unfold widF widW
  dsimp only
  omega
theorem fit_in {o : Flow} {b : Bool} (h : b = true → ∀ k, k < i → liesB o (l.getD k zF) = true) : (b && liesB o (l.getD i zF)) = true → ∀ k, k < i + 1 → liesB o (l.getD k zF) = true := fun q k hk => by
  rw [Bool.and_eq_true] at q
  rcases Nat.lt_succ_iff_lt_or_eq.1 hk with r | r
  · exact h q.1 k r
  · subst r; exact q.2
theorem fit_out {o : Flow} {b : Bool} (h : b = true → ∀ k, k < i → liesB (l.getD k zF) o = true) : (b && liesB (l.getD i zF) o) = true → ∀ k, k < i + 1 → liesB (l.getD k zF) o = true := fun q k hk => by
  rw [Bool.and_eq_true] at q
  rcases Nat.lt_succ_iff_lt_or_eq.1 hk with r | r
  · exact h q.1 k r
  · subst r; exact q.2
end
theorem fits_end1 {a b c d e f g h : Int} (q : ((b < a ∨ d < c) ∨ f < e) ∨ h < g) : Ending.returned (.bool ((((decide (b < a) || decide (d < c)) || decide (f < e)) || decide (h < g)) && true)) = .returned (.bool true) := by
  congr 2
  simp only [Bool.and_true, Bool.or_eq_true, decide_eq_true_eq]; exact q
theorem fits_end2 {a b c d : Bool} (h : a = true → b = true) (k : c = true → d = true) : Ending.returned (.bool (((!a || b) && (!c || d)) && true)) = .returned (.bool true) := by
  cases a <;> cases b <;> cases c <;> cases d <;> simp_all

set_option maxRecDepth 20000 in
theorem lies_c (a b : Flow) (w : World) :
  Calls Try.prog 42 #[flowV a, flowV b] w fun e w' => e = .returned (.bool (liesB a b)) ∧ St (bs w) [] w' := by
  refine enter (vs := [_, _]) (env := [(0, _), (1, _)]) Try.func42 rfl rfl rfl rfl ?_
  refine VC.seq ?_
  refine VC.reg (VO.h rfl <| HO.box (C := #[_, _, _, _]) rfl rfl fun b1 => VO.h rfl <| HO.box (C := #[_, _, _, _]) rfl rfl fun b2 => VO.l (LO.as (.r rfl)) rfl <| VO.nil ?_)
  refine VE.seqN ?_
  refine VC.seq ?_
  refine VC.reg (VO.l (LO.fa (r := 0) F32_0 (.r rfl) rfl) rfl <| VO.l (LO.fa (r := 0) F30_0 (.r rfl) rfl) rfl <| VO.l (LO.ld O3 (.r rfl) (fun _ hw => cells_at hw 0 rfl ⟨_, rfl⟩)) rfl <| VO.l (LO.fa (r := 0) F32_0 (.r rfl) rfl) rfl <| VO.l (LO.fa (r := 0) F30_0 (.r rfl) rfl) rfl <| VO.l (LO.ld O3 (.r rfl) (fun _ hw => cells_at hw 1 rfl ⟨_, rfl⟩)) rfl <| VO.l (LO.le (.r rfl) (.r rfl)) rfl <| VO.l (LO.mv (.r rfl)) rfl <| VO.lg rfl rfl (GD.t _) (fun hg => LO.fa (r := 0) F32_0 (.r rfl) rfl) rfl <| VO.lg rfl rfl (GD.t _) (fun hg => LO.fa (r := 1) F30_1 (.g hg rfl) rfl) rfl <| VO.lg rfl rfl (GD.t _) (fun hg => LO.ld O3 (.g hg rfl) (fun _ hw => cells_at hw 1 rfl ⟨_, rfl⟩)) rfl <| VO.lg rfl rfl (GD.t _) (fun hg => LO.fa (r := 0) F32_0 (.r rfl) rfl) rfl <| VO.lg rfl rfl (GD.t _) (fun hg => LO.fa (r := 1) F30_1 (.g hg rfl) rfl) rfl <| VO.lg rfl rfl (GD.t _) (fun hg => LO.ld O3 (.g hg rfl) (fun _ hw => cells_at hw 0 rfl ⟨_, rfl⟩)) rfl <| VO.lg rfl rfl (GD.t _) (fun hg => LO.le (.g hg rfl) (.g hg rfl)) rfl <| VO.l (LO.pkA (.r rfl) rfl rfl (.r rfl)) rfl <| VO.l (LO.mv (.r rfl)) rfl <| VO.lg rfl rfl (GD.t _) (fun hg => LO.fa (r := 2) F32_1 (.r rfl) rfl) rfl <| VO.lg rfl rfl (GD.t _) (fun hg => LO.fa (r := 2) F30_0 (.g hg rfl) rfl) rfl <| VO.lg rfl rfl (GD.t _) (fun hg => LO.ld O3 (.g hg rfl) (fun _ hw => cells_at hw 0 rfl ⟨_, rfl⟩)) rfl <| VO.lg rfl rfl (GD.t _) (fun hg => LO.fa (r := 2) F32_1 (.r rfl) rfl) rfl <| VO.lg rfl rfl (GD.t _) (fun hg => LO.fa (r := 2) F30_0 (.g hg rfl) rfl) rfl <| VO.lg rfl rfl (GD.t _) (fun hg => LO.ld O3 (.g hg rfl) (fun _ hw => cells_at hw 1 rfl ⟨_, rfl⟩)) rfl <| VO.lg rfl rfl (GD.t _) (fun hg => LO.le (.g hg rfl) (.g hg rfl)) rfl <| VO.l (LO.pkA (.r rfl) rfl rfl (.r rfl)) rfl <| VO.l (LO.mv (.r rfl)) rfl <| VO.lg rfl rfl (GD.t _) (fun hg => LO.fa (r := 2) F32_1 (.r rfl) rfl) rfl <| VO.lg rfl rfl (GD.t _) (fun hg => LO.fa (r := 3) F30_1 (.g hg rfl) rfl) rfl <| VO.lg rfl rfl (GD.t _) (fun hg => LO.ld O3 (.g hg rfl) (fun _ hw => cells_at hw 1 rfl ⟨_, rfl⟩)) rfl <| VO.lg rfl rfl (GD.t _) (fun hg => LO.fa (r := 2) F32_1 (.r rfl) rfl) rfl <| VO.lg rfl rfl (GD.t _) (fun hg => LO.fa (r := 3) F30_1 (.g hg rfl) rfl) rfl <| VO.lg rfl rfl (GD.t _) (fun hg => LO.ld O3 (.g hg rfl) (fun _ hw => cells_at hw 0 rfl ⟨_, rfl⟩)) rfl <| VO.lg rfl rfl (GD.t _) (fun hg => LO.le (.g hg rfl) (.g hg rfl)) rfl <| VO.l (LO.pkA (.r rfl) rfl rfl (.r rfl)) rfl <| VO.l (LO.as (.r rfl)) rfl <| VO.nil ?_)
  refine VE.seqN ?_
  refine VC.ret (VE.res (vs := [_]) rfl ⟨rfl, trivial⟩ (fun w hw => ?_))
  exact ⟨rfl, hw.nil⟩

set_option maxRecDepth 20000 in
theorem CastFits_c (x y sec tm : Int) (p : Option Addr) (l : List Flow) (c : Nat) (o : Flow) (w : World) (hx1 : -128 ≤ x) (hx2 : x ≤ 127) (hy1 : -128 ≤ y) (hy2 : y ≤ 127) (hs1 : 0 ≤ sec) (hs2 : sec ≤ 65535) (ht1 : 0 ≤ tm) (ht2 : tm ≤ 255) (hl : Flows w p l) (hc : l.length ≤ c) :
  Calls Try.prog 11 #[.int .i8 x, .int .i8 y, .int .u16 sec, .int .u8 tm, .slice p l.length c, flowV o] w fun e w' => e = .returned (.bool true) ∧ St (bs w) [] w' := by
  have hpx := tm33 x
  have hpy := tm33 y
  have hns := tmod_pos hs1 (n := 40000) (by decide)
  have htm := tmod_pos ht1 (n := 2) (by decide)
  have hK : (1 + tm.tmod 2) = 1 ∨ (1 + tm.tmod 2) = 2 := by omega
  have hKx := k2_bd hK (p := (x.tmod 33)) (b := 32) (by omega) (by omega)
  have hKy := k2_bd hK (p := (y.tmod 33)) (b := 32) (by omega) (by omega)
  have hKn := k2_bd hK (p := (1 + sec.tmod 40000)) (b := 40000) (by omega) (by omega)
  have hKn1 := k2_pos hK (p := (1 + sec.tmod 40000)) (by omega)
  have hfe := fit_k (px := (x.tmod 33)) (py := (y.tmod 33)) (n := (1 + sec.tmod 40000)) hK (by omega) (by omega) (by omega) (by omega) (by omega) (by omega)
  refine enter (vs := [_, _, _, _, _, _]) (env := [(0, _), (1, _), (2, _), (3, _), (4, _), (5, _)]) Try.func11 rfl rfl rfl rfl ?_
  refine VC.seq ?_
  refine VC.reg (VO.h rfl <| HO.box (C := #[_, _, _, _]) rfl rfl fun b1 => VO.l (LO.as (.r rfl)) rfl <| VO.nil ?_)
  refine VE.seqN ?_
  refine VC.seq ?_
  refine VC.seq ?_
  refine VC.reg (VO.l (LO.mv (.r rfl)) rfl <| VO.l (LO.len S80 (.r rfl) rfl) rfl <| VO.l (LO.gt (.r rfl) (.r rfl)) rfl <| VO.nil ?_)
  refine VE.seqN ?_
  refine VC.cond rfl (fun h1 => ?_) (fun h1 => ?_)
  ·
    refine VC.seq ?_
    refine VC.reg (VO.l (LO.call (xs := []) (vs := []) C14 trivial (fun w _ => works_c w)) rfl <| VO.l (LO.as (.r rfl)) rfl <| VO.nil ?_)
    refine VE.seqN ?_
    refine VC.ret (VE.thenR (VE.res (vs := [_]) rfl ⟨rfl, trivial⟩ (fun w hw => ?_)))
    first | exact ⟨rfl, hw.nil⟩ | exact ⟨fits_end1 (pair_bad hF hFC), hw.nil⟩ | exact ⟨fits_end2 (fun q => in_meet h0 hm0 (fun k hk => hbi q k (by omega))) (fun q => hull_in h0 (fun k hk => hbo q k (by omega))), hw.nil⟩
  ·
    refine VC.skip (VE.seqN ?_)
    refine VC.seq ?_
    refine VC.reg (VO.l (LO.mv (.r rfl)) rfl <| VO.l (LO.cv ⟨_, Try.underlying47⟩ Try.underlying3 (.r rfl) (wi (by omega) (by omega))) rfl <| VO.l (LO.rem (.r rfl) (.r rfl) (by omega)) rfl <| VO.l (LO.add (.r rfl) (.r rfl) (wi (by omega) (by omega))) rfl <| VO.l (LO.mv (.r rfl)) rfl <| VO.l (LO.cv ⟨_, Try.underlying5⟩ Try.underlying3 (.r rfl) (wi (by omega) (by omega))) rfl <| VO.l (LO.rem (.r rfl) (.r rfl) (by omega)) rfl <| VO.l (LO.add (.r rfl) (.r rfl) (wi (by omega) (by omega))) rfl <| VO.l (LO.as (.r rfl)) rfl <| VO.l (LO.as (.r rfl)) rfl <| VO.nil ?_)
    refine VE.seqN ?_
    refine VC.seq ?_
    refine VC.reg (VO.l (LO.mv (.r rfl)) rfl <| VO.l (LO.cv ⟨_, Try.underlying99⟩ Try.underlying3 (.r rfl) (wi (by omega) (by omega))) rfl <| VO.l (LO.rem (.r rfl) (.r rfl) (by omega)) rfl <| VO.l (LO.mv (.r rfl)) rfl <| VO.l (LO.cv ⟨_, Try.underlying99⟩ Try.underlying3 (.r rfl) (wi (by omega) (by omega))) rfl <| VO.l (LO.rem (.r rfl) (.r rfl) (by omega)) rfl <| VO.l (LO.as (.r rfl)) rfl <| VO.l (LO.as (.r rfl)) rfl <| VO.nil ?_)
    refine VE.seqN ?_
    refine VC.seq ?_
    refine VC.reg (VO.l (LO.mv (.r rfl)) rfl <| VO.l (LO.call (xs := [_]) (vs := [_]) C30 ⟨(.r rfl), trivial⟩ (fun w _ => point_c _ w)) rfl <| VO.l (LO.mv (.r rfl)) rfl <| VO.l (LO.call (xs := [_]) (vs := [_]) C30 ⟨(.r rfl), trivial⟩ (fun w _ => point_c _ w)) rfl <| VO.l (LO.mv (.r rfl)) rfl <| VO.l (LO.call (xs := [_, _, _, _]) (vs := [_, _, _, _]) C31 ⟨(.r rfl), (.r rfl), (.r rfl), (.r rfl), trivial⟩ (fun w _ => Fit_c _ _ _ _ _ _ w)) rfl <| VO.l (LO.mv (.r rfl)) rfl <| VO.l (LO.ex (.r rfl) rfl) rfl <| VO.l (LO.ex (.r rfl) rfl) rfl <| VO.h rfl <| HO.alloc (C := #[_, _, _, _]) Z32 rfl fun b2 => VO.h0 <| HO.st 0 (vs := [_, _, _, _]) (C' := [_, _, _, _]) (L' := [_, _]) N32 rfl rfl rfl rfl rfl rfl rfl rfl <| VO.l (LO.as (.r rfl)) rfl <| VO.nil ?_)
    refine VE.seqN ?_
    refine VC.seq ?_
    refine VC.reg (VO.l (LO.mv (.r rfl)) rfl <| VO.l (LO.mv (.r rfl)) rfl <| VO.l (LO.mul (.r rfl) (.r rfl) (wi (by omega) (by omega))) rfl <| VO.l (LO.call (xs := [_]) (vs := [_]) C30 ⟨(.r rfl), trivial⟩ (fun w _ => point_c _ w)) rfl <| VO.l (LO.mv (.r rfl)) rfl <| VO.l (LO.mv (.r rfl)) rfl <| VO.l (LO.mul (.r rfl) (.r rfl) (wi (by omega) (by omega))) rfl <| VO.l (LO.call (xs := [_]) (vs := [_]) C30 ⟨(.r rfl), trivial⟩ (fun w _ => point_c _ w)) rfl <| VO.l (LO.mv (.r rfl)) rfl <| VO.l (LO.mv (.r rfl)) rfl <| VO.l (LO.mul (.r rfl) (.r rfl) (wi (by omega) (by omega))) rfl <| VO.l (LO.call (xs := [_, _, _, _]) (vs := [_, _, _, _]) C31 ⟨(.r rfl), (.r rfl), (.r rfl), (.r rfl), trivial⟩ (fun w _ => Fit_c _ _ _ _ _ _ w)) rfl <| VO.l (LO.mv (.r rfl)) rfl <| VO.l (LO.ex (.r rfl) rfl) rfl <| VO.l (LO.ex (.r rfl) rfl) rfl <| VO.h rfl <| HO.alloc (C := #[_, _, _, _]) Z32 rfl fun b4 => VO.h0 <| HO.st 0 (vs := [_, _, _, _]) (C' := [_, _, _, _]) (L' := [_, _, _]) N32 rfl rfl rfl rfl rfl rfl rfl rfl <| VO.l (LO.as (.r rfl)) rfl <| VO.nil ?_)
    refine VE.seqN ?_
    refine VC.weak (env' := [(4, _), (11, _), (13, _), (14, _), (17, _), (18, _), (19, _), (20, _)]) (.cons rfl (.cons rfl (.cons rfl (.cons rfl (.cons rfl (.cons rfl (.cons rfl (.cons rfl .nil)))))))) (fun _ h => h) ?_
    refine VC.seq ?_
    refine VC.seq ?_
    refine VC.reg (VO.l (LO.mv (.r rfl)) rfl <| VO.l (LO.mv (.r rfl)) rfl <| VO.l (LO.ne (.r rfl) (.r rfl)) rfl <| VO.l (LO.mv (.r rfl)) rfl <| VO.lg rfl rfl (GD.f _) (fun hg => LO.mv (.r rfl)) rfl <| VO.lg rfl rfl (GD.f _) (fun hg => LO.ne (.g hg rfl) (.r rfl)) rfl <| VO.lg rfl rfl (GD.f _) (fun hg => LO.mv (.g hg rfl)) rfl <| VO.lg rfl rfl (GD.nt _ _) (fun hg => LO.mv (.r rfl)) rfl <| VO.lg rfl rfl (GD.nt _ _) (fun hg => LO.ne (.g hg rfl) (.r rfl)) rfl <| VO.lg rfl rfl (GD.f _) (fun hg => LO.pkA (.g hg rfl) rfl (and_e hg) (.r rfl)) rfl <| VO.l (LO.pkO (.r rfl) (.r rfl) rfl rfl) rfl <| VO.l (LO.mv (.r rfl)) rfl <| VO.lg rfl rfl (GD.f _) (fun hg => LO.mv (.r rfl)) rfl <| VO.lg rfl rfl (GD.f _) (fun hg => LO.eq (.g hg rfl) (.r rfl)) rfl <| VO.lg rfl rfl (GD.f _) (fun hg => LO.mv (.g hg rfl)) rfl <| VO.lg rfl rfl (GD.nt _ _) (fun hg => LO.lda (vs := [_, _, _, _]) A32 (.r rfl) (fun _ hw => cells_at hw 1 rfl ⟨_, rfl⟩) rfl) rfl <| VO.lg rfl rfl (GD.nt _ _) (fun hg => LO.lda (vs := [_, _, _, _]) A32 (.r rfl) (fun _ hw => cells_at hw 0 rfl ⟨_, rfl⟩) rfl) rfl <| VO.lg rfl rfl (GD.nt _ _) (fun hg => LO.nes («as» := fI (fitR (x.tmod 33) (x.tmod 33) (y.tmod 33) (y.tmod 33) (1 + sec.tmod 40000) 0)) (bs := fI (fitR ((1 + tm.tmod 2) * (x.tmod 33)) ((1 + tm.tmod 2) * (x.tmod 33)) ((1 + tm.tmod 2) * (y.tmod 33)) ((1 + tm.tmod 2) * (y.tmod 33)) ((1 + tm.tmod 2) * (1 + sec.tmod 40000)) 0)) E32 (.g hg rfl) (.g hg rfl) rfl rfl) rfl <| VO.lg rfl rfl (GD.f _) (fun hg => LO.pkA (.g hg rfl) rfl (and_e hg) (.r rfl)) rfl <| VO.l (LO.pkO (.r rfl) (.r rfl) rfl rfl) rfl <| VO.nil ?_)
    refine VE.seqN ?_
    refine VC.cond rfl (fun h2 => ?_) (fun h2 => ?_)
    ·
      (exfalso; (rcases h2 with (q | q) | q; exact q hfe.1.symm; exact hfe.2.1 q; exact q.2 (congrArg fI hfe.2.2.1.symm)))
    ·
      refine VC.skip (VE.seqN ?_)
      refine VC.seq ?_
      refine VC.seq ?_
      refine VC.reg (VO.l (LO.mv (.r rfl)) rfl <| VO.l (LO.eq (.r rfl) (.r rfl)) rfl <| VO.nil ?_)
      refine VE.seqN ?_
      refine VC.cond rfl (fun h3 => ?_) (fun h3 => ?_)
      ·
        have hME := meet_two hfe.2.2.1.symm (hfe.2.2.2 h3)
        refine VC.seq ?_
        refine VC.reg (VO.l (LO.lda (vs := [_, _, _, _]) A32 (.r rfl) (fun _ hw => cells_at hw 1 rfl ⟨_, rfl⟩) rfl) rfl <| VO.l (LO.lda (vs := [_, _, _, _]) A32 (.r rfl) (fun _ hw => cells_at hw 0 rfl ⟨_, rfl⟩) rfl) rfl <| VO.h rfl <| HO.bs (ps := [(_, _), (_, _)]) (vs := [(_, _), (_, _)]) (Z := [_, _, _, _, _, _, _, _]) (C := [_, _, _, _, _, _, _, _]) S80 Z32 N32 ⟨(.r rfl), (.r rfl), trivial⟩ rfl rfl rfl rfl ⟨_, [_, _, _, _], [_, _, _, _, _, _, _, _], rfl, rfl, rfl, rfl, ⟨_, [_, _, _, _], [_, _, _, _, _, _, _, _], rfl, rfl, rfl, rfl, rfl⟩⟩ fun b6 => VO.h rfl <| HO.lo (LO.call (xs := [_]) (vs := [_]) C38 ⟨(.r rfl), trivial⟩ (fun w hw => Meet_c (some ⟨_, 0, none⟩) [fitR (x.tmod 33) (x.tmod 33) (y.tmod 33) (y.tmod 33) (1 + sec.tmod 40000) 0, fitR ((1 + tm.tmod 2) * (x.tmod 33)) ((1 + tm.tmod 2) * (x.tmod 33)) ((1 + tm.tmod 2) * (y.tmod 33)) ((1 + tm.tmod 2) * (y.tmod 33)) ((1 + tm.tmod 2) * (1 + sec.tmod 40000)) 0] 2 w (flowsTwo (cells_at hw 0 rfl ⟨[], rfl⟩)) (Nat.le_refl 2))) <| VO.h rfl <| HO.lo (LO.mv (.r rfl)) <| VO.h rfl <| HO.lo (LO.ex (.r rfl) rfl) <| VO.h rfl <| HO.lo (LO.ex (.r rfl) rfl) <| VO.h rfl <| HO.lo (LO.ex (.r rfl) rfl) <| VO.h rfl <| HO.alloc (C := #[_, _, _, _]) Z32 rfl fun b7 => VO.h rfl <| HO.alloc (C := #[_, _]) Z91 rfl fun b8 => VO.h0 <| HO.st 1 (vs := [_, _, _, _]) (C' := [_, _, _, _]) (L' := [_, _, _, _, _, _]) N32 rfl rfl rfl rfl rfl rfl rfl rfl <| VO.h0 <| HO.st 0 (vs := [_, _]) (C' := [_, _]) (L' := [_, _, _, _, _, _]) N91 rfl rfl rfl rfl rfl rfl rfl rfl <| VO.h rfl <| HO.lo (LO.as (.r rfl)) <| VO.nil ?_)
        refine VE.seqN ?_
        refine VC.weak (env' := [(4, _), (11, _), (13, _), (14, _), (17, _), (23, _)]) (.cons rfl (.cons rfl (.cons rfl (.cons rfl (.cons rfl (.cons rfl .nil)))))) (fun _ h => h) ?_
        refine VC.seq ?_
        refine VC.reg (VO.l (LO.mv (.r rfl)) rfl <| VO.l (LO.ne (.r rfl) (.r rfl)) rfl <| VO.nil ?_)
        refine VE.seqN ?_
        refine VC.cond rfl (fun h4 => ?_) (fun h4 => ?_)
        ·
          (exfalso; (exact h4 hME))
        ·
          refine VC.skip (VE.seqN ?_)
          refine VC.seq ?_
          refine VC.reg (VO.l (LO.mv (.r rfl)) rfl <| VO.l (LO.call (xs := [_]) (vs := [_]) C38 ⟨(.r rfl), trivial⟩ (fun w hw => Meet_c p l c w (hl.keep w hw) hc)) rfl <| VO.l (LO.mv (.r rfl)) rfl <| VO.l (LO.ex (.r rfl) rfl) rfl <| VO.l (LO.ex (.r rfl) rfl) rfl <| VO.l (LO.ex (.r rfl) rfl) rfl <| VO.h rfl <| HO.alloc (C := #[_, _]) Z91 rfl fun b11 => VO.h0 <| HO.st 5 (vs := [_, _, _, _]) (C' := [_, _, _, _]) (L' := [_, _, _, _, _, _, _]) N32 rfl rfl rfl rfl rfl rfl rfl rfl <| VO.h0 <| HO.st 0 (vs := [_, _]) (C' := [_, _]) (L' := [_, _, _, _, _, _, _]) N91 rfl rfl rfl rfl rfl rfl rfl rfl <| VO.l (LO.as (.r rfl)) rfl <| VO.nil ?_)
          refine VE.seqN ?_
          refine VC.seq ?_
          refine VC.reg (VO.l (LO.mv (.r rfl)) rfl <| VO.l (LO.call (xs := [_]) (vs := [_]) C40 ⟨(.r rfl), trivial⟩ (fun w hw => Hull_c p l c w (hl.keep w hw) hc)) rfl <| VO.l (LO.mv (.r rfl)) rfl <| VO.l (LO.ex (.r rfl) rfl) rfl <| VO.l (LO.ex (.r rfl) rfl) rfl <| VO.h rfl <| HO.alloc (C := #[_, _, _, _]) Z32 rfl fun b14 => VO.h0 <| HO.st 0 (vs := [_, _, _, _]) (C' := [_, _, _, _]) (L' := [_, _, _, _, _, _, _, _]) N32 rfl rfl rfl rfl rfl rfl rfl rfl <| VO.l (LO.as (.r rfl)) rfl <| VO.nil ?_)
          refine VE.seqN ?_
          refine VC.seq ?_
          refine VC.seq ?_
          refine VC.reg (VO.l (LO.mv (.r rfl)) rfl <| VO.l (LO.eq (.r rfl) (.r rfl)) rfl <| VO.nil ?_)
          refine VE.seqN ?_
          refine VC.cond rfl (fun h5 => ?_) (fun h5 => ?_)
          ·
            obtain ⟨ci, cj, h0, hP, hFC⟩ := meet_14 h5
            have hFC1 := hFC.1
            have hFC2 := hFC.2.1
            have hP1 : (meetP l).1 = (ci : Nat) := congrArg Prod.fst hP
            have hP2 : (meetP l).2 = (cj : Nat) := congrArg Prod.snd hP
            have hF := flows_ok h0
            refine VC.seq ?_
            refine VC.seq ?_
            refine VC.reg (VO.l (LO.mv (.r rfl)) rfl <| VO.l (LO.ne (.r rfl) (.r rfl)) rfl <| VO.l (LO.mv (.r rfl)) rfl <| VO.lg rfl rfl (GD.f _) (fun hg => LO.ixa (j := 0) (r := 0) Try.underlying91 N3 (.r rfl) (.r rfl) rfl (by decide) rfl) rfl <| VO.lg rfl rfl (GD.f _) (fun hg => LO.ld O3 (.g hg rfl) (fun _ hw => cells_at hw 1 rfl ⟨_, rfl⟩)) rfl <| VO.lg rfl rfl (GD.f _) (fun hg => LO.lt (.g hg rfl) (.r rfl)) rfl <| VO.l (LO.pkO (.r rfl) (.r rfl) rfl rfl) rfl <| VO.l (LO.mv (.r rfl)) rfl <| VO.lg rfl rfl (GD.f _) (fun hg => LO.ixa (j := 0) (r := 0) Try.underlying91 N3 (.r rfl) (.r rfl) rfl (by decide) rfl) rfl <| VO.lg rfl rfl (GD.f _) (fun hg => LO.ld O3 (.g hg rfl) (fun _ hw => cells_at hw 1 rfl ⟨_, rfl⟩)) rfl <| VO.lg rfl rfl (GD.f _) (fun hg => LO.ixa (j := 1) (r := 1) Try.underlying91 N3 (.r rfl) (.r rfl) rfl (by decide) rfl) rfl <| VO.lg rfl rfl (GD.f _) (fun hg => LO.ld O3 (.g hg rfl) (fun _ hw => cells_at hw 1 rfl ⟨_, rfl⟩)) rfl <| VO.lg rfl rfl (GD.f _) (fun hg => LO.ge (.g hg rfl) (.g hg rfl)) rfl <| VO.l (LO.pkO (.r rfl) (.r rfl) rfl rfl) rfl <| VO.l (LO.mv (.r rfl)) rfl <| VO.lg rfl rfl (GD.f _) (fun hg => LO.ixa (j := 1) (r := 1) Try.underlying91 N3 (.r rfl) (.r rfl) rfl (by decide) rfl) rfl <| VO.lg rfl rfl (GD.f _) (fun hg => LO.ld O3 (.g hg rfl) (fun _ hw => cells_at hw 1 rfl ⟨_, rfl⟩)) rfl <| VO.lg rfl rfl (GD.f _) (fun hg => LO.mv (.r rfl)) rfl <| VO.lg rfl rfl (GD.f _) (fun hg => LO.len S80 (.g hg rfl) rfl) rfl <| VO.lg rfl rfl (GD.f _) (fun hg => LO.ge (.g hg rfl) (.g hg rfl)) rfl <| VO.l (LO.pkO (.r rfl) (.r rfl) rfl rfl) rfl <| VO.nil ?_)
            refine VE.seqN ?_
            refine VC.weak (env' := [(4, _), (24, _), (140, _)]) (.cons rfl (.cons rfl (.cons rfl .nil))) (fun _ h => h) ?_
            refine VC.cond rfl (fun h6 => ?_) (fun h6 => ?_)
            ·
              (exfalso; (rcases h6 with ((q | q) | q) | q; exact q h0; omega; omega; omega))
            ·
              refine VC.skip (VE.seqN ?_)
              refine VC.seq ?_
              refine VC.drawB [⟨10, 26, fun b => .pointer (some ⟨b, 0, none⟩), 32, #[.int .i64 0, .int .i64 0, .int .i64 0, .int .i64 0]⟩, ⟨11, 27, fun b => .pointer (some ⟨b, 0, none⟩), 32, #[.int .i64 0, .int .i64 0, .int .i64 0, .int .i64 0]⟩] [[0, 1, 2, 3, 4, 5, 6, 7], [0, 1, 2, 3, 4, 5, 6, 7], [0, 1, 2, 3, 4, 5, 6, 7], [0, 1, 2, 3, 4, 5, 6, 7], [0, 1, 2, 3, 4, 5, 6, 7]] [some 2, some 2, some 2, some 2, some 2, some 3, some 3, some 3, some 3, some 3, none, none, none, none] mixed (by kernel_rfl) rfl (LX.l (fun _ hJ => LO.mv (.r rfl)) rfl <| LX.l (fun _ hJ => LO.ixa (j := 0) (r := 0) Try.underlying91 N3 (.r rfl) (.r rfl) rfl (by decide) rfl) rfl <| LX.l (fun _ hJ => LO.ld O3 (.r rfl) (fun _ hw => cells_at (hJ _ hw) 1 rfl ⟨_, rfl⟩)) rfl <| LX.l (fun _ hJ => LO.ixs S80 N32 hl.some (.r rfl) (.r rfl) (congrArg Prod.fst hP) (by omega)) rfl <| LX.l (fun _ hJ => LO.lda (vs := [_, _, _, _]) A32 (.r rfl) (fun w hw => cells_part (off := 0) ((hl.at (j := ci) (by omega)) w (hJ _ hw)) ⟨_, rfl⟩) rfl) rfl <| LX.l (fun _ hJ => LO.mv (.r rfl)) rfl <| LX.l (fun _ hJ => LO.ixa (j := 1) (r := 1) Try.underlying91 N3 (.r rfl) (.r rfl) rfl (by decide) rfl) rfl <| LX.l (fun _ hJ => LO.ld O3 (.r rfl) (fun _ hw => cells_at (hJ _ hw) 1 rfl ⟨_, rfl⟩)) rfl <| LX.l (fun _ hJ => LO.ixs S80 N32 hl.some (.r rfl) (.r rfl) (congrArg Prod.snd hP) (by omega)) rfl <| LX.l (fun _ hJ => LO.lda (vs := [_, _, _, _]) A32 (.r rfl) (fun w hw => cells_part (off := 0) ((hl.at (j := cj) (by omega)) w (hJ _ hw)) ⟨_, rfl⟩) rfl) rfl <| LX.s <| LX.s <| LX.s <| LX.s <| LX.nil) (⟨⟨rfl, _, rfl, FO.alloc Z32 rfl⟩, ⟨⟨rfl, _, rfl, FO.alloc Z32 rfl⟩, trivial⟩⟩) (HY.s <| HY.s <| HY.s <| HY.s <| HY.s <| HY.s <| HY.s <| HY.s <| HY.s <| HY.s <| HY.f rfl fun b20 => ⟨selJ (L1 := [_, _, _, _, _, _, _, _]) [1, 2, 3, 4, 5, 6, 7, 8] rfl rfl rfl, HY.f rfl fun b21 => ⟨selJ (L1 := [_, _, _, _, _, _, _, _]) [2, 3, 4, 5, 6, 7, 8, 9] rfl rfl rfl, HY.h0 rfl fun X => HO.st 1 (vs := [_, _, _, _]) (C' := [_, _, _, _]) (L' := [_, _, _, _, _, _, _, _, _, _] ++ X) N32 rfl rfl rfl rfl rfl rfl rfl rfl <| ⟨[_, _, _, _, _, _, _, _, _, _], rfl, selJ (L1 := [_, _, _, _, _, _, _, _]) [2, 3, 4, 5, 6, 7, 8, 9] rfl rfl rfl, HY.h0 rfl fun X => HO.st 0 (vs := [_, _, _, _]) (C' := [_, _, _, _]) (L' := [_, _, _, _, _, _, _, _, _, _] ++ X) N32 rfl rfl rfl rfl rfl rfl rfl rfl <| ⟨[_, _, _, _, _, _, _, _, _, _], rfl, selJ (L1 := [_, _, _, _, _, _, _, _]) [2, 3, 4, 5, 6, 7, 8, 9] rfl rfl rfl, HY.nil ?_⟩⟩⟩⟩)
              refine VE.seqN ?_
              refine VC.seq ?_
              refine VC.reg (VO.l (LO.fa (r := 0) F32_0 (.r rfl) rfl) rfl <| VO.l (LO.fa (r := 0) F30_0 (.r rfl) rfl) rfl <| VO.l (LO.ld O3 (.r rfl) (fun _ hw => cells_at hw 1 rfl ⟨_, rfl⟩)) rfl <| VO.l (LO.fa (r := 0) F32_0 (.r rfl) rfl) rfl <| VO.l (LO.fa (r := 1) F30_1 (.r rfl) rfl) rfl <| VO.l (LO.ld O3 (.r rfl) (fun _ hw => cells_at hw 0 rfl ⟨_, rfl⟩)) rfl <| VO.l (LO.gt (.r rfl) (.r rfl)) rfl <| VO.l (LO.mv (.r rfl)) rfl <| VO.lg rfl rfl (GD.f _) (fun hg => LO.fa (r := 0) F32_0 (.r rfl) rfl) rfl <| VO.lg rfl rfl (GD.f _) (fun hg => LO.fa (r := 0) F30_0 (.g hg rfl) rfl) rfl <| VO.lg rfl rfl (GD.f _) (fun hg => LO.ld O3 (.g hg rfl) (fun _ hw => cells_at hw 0 rfl ⟨_, rfl⟩)) rfl <| VO.lg rfl rfl (GD.f _) (fun hg => LO.fa (r := 0) F32_0 (.r rfl) rfl) rfl <| VO.lg rfl rfl (GD.f _) (fun hg => LO.fa (r := 1) F30_1 (.g hg rfl) rfl) rfl <| VO.lg rfl rfl (GD.f _) (fun hg => LO.ld O3 (.g hg rfl) (fun _ hw => cells_at hw 1 rfl ⟨_, rfl⟩)) rfl <| VO.lg rfl rfl (GD.f _) (fun hg => LO.gt (.g hg rfl) (.g hg rfl)) rfl <| VO.l (LO.pkO (.r rfl) (.r rfl) rfl rfl) rfl <| VO.l (LO.mv (.r rfl)) rfl <| VO.lg rfl rfl (GD.f _) (fun hg => LO.fa (r := 2) F32_1 (.r rfl) rfl) rfl <| VO.lg rfl rfl (GD.f _) (fun hg => LO.fa (r := 2) F30_0 (.g hg rfl) rfl) rfl <| VO.lg rfl rfl (GD.f _) (fun hg => LO.ld O3 (.g hg rfl) (fun _ hw => cells_at hw 1 rfl ⟨_, rfl⟩)) rfl <| VO.lg rfl rfl (GD.f _) (fun hg => LO.fa (r := 2) F32_1 (.r rfl) rfl) rfl <| VO.lg rfl rfl (GD.f _) (fun hg => LO.fa (r := 3) F30_1 (.g hg rfl) rfl) rfl <| VO.lg rfl rfl (GD.f _) (fun hg => LO.ld O3 (.g hg rfl) (fun _ hw => cells_at hw 0 rfl ⟨_, rfl⟩)) rfl <| VO.lg rfl rfl (GD.f _) (fun hg => LO.gt (.g hg rfl) (.g hg rfl)) rfl <| VO.l (LO.pkO (.r rfl) (.r rfl) rfl rfl) rfl <| VO.l (LO.mv (.r rfl)) rfl <| VO.lg rfl rfl (GD.f _) (fun hg => LO.fa (r := 2) F32_1 (.r rfl) rfl) rfl <| VO.lg rfl rfl (GD.f _) (fun hg => LO.fa (r := 2) F30_0 (.g hg rfl) rfl) rfl <| VO.lg rfl rfl (GD.f _) (fun hg => LO.ld O3 (.g hg rfl) (fun _ hw => cells_at hw 0 rfl ⟨_, rfl⟩)) rfl <| VO.lg rfl rfl (GD.f _) (fun hg => LO.fa (r := 2) F32_1 (.r rfl) rfl) rfl <| VO.lg rfl rfl (GD.f _) (fun hg => LO.fa (r := 3) F30_1 (.g hg rfl) rfl) rfl <| VO.lg rfl rfl (GD.f _) (fun hg => LO.ld O3 (.g hg rfl) (fun _ hw => cells_at hw 1 rfl ⟨_, rfl⟩)) rfl <| VO.lg rfl rfl (GD.f _) (fun hg => LO.gt (.g hg rfl) (.g hg rfl)) rfl <| VO.l (LO.pkO (.r rfl) (.r rfl) rfl rfl) rfl <| VO.l (LO.mv (.r rfl)) rfl <| VO.lg rfl rfl (GD.t _) (fun hg => LO.call (xs := []) (vs := []) C14 trivial (fun w _ => works_c w)) rfl <| VO.l (LO.pkA (.r rfl) rfl rfl (.r rfl)) rfl <| VO.l (LO.as (.r rfl)) rfl <| VO.nil ?_)
              refine VE.seqN ?_
              refine VC.weak (env' := [(12, _)]) (.cons rfl .nil) (fun _ h => h) ?_
              refine VC.ret (VE.thenR (VE.res (vs := [_]) rfl ⟨rfl, trivial⟩ (fun w hw => ?_)))
              first | exact ⟨rfl, hw.nil⟩ | exact ⟨fits_end1 (pair_bad hF hFC), hw.nil⟩ | exact ⟨fits_end2 (fun q => in_meet h0 hm0 (fun k hk => hbi q k (by omega))) (fun q => hull_in h0 (fun k hk => hbo q k (by omega))), hw.nil⟩
          ·
            refine VC.skip (VE.seqN ?_)
            refine VC.seq ?_
            refine VC.seq ?_
            refine VC.reg (VO.l (LO.mv (.r rfl)) rfl <| VO.l (LO.mv (.r rfl)) rfl <| VO.l (LO.ne (.r rfl) (.r rfl)) rfl <| VO.nil ?_)
            refine VE.seqN ?_
            refine VC.cond rfl (fun h7 => ?_) (fun h7 => ?_)
            ·
              (exfalso; (exact h7 (meet_n14 h5)))
            ·
              refine VC.skip (VE.seqN ?_)
              refine VC.seq ?_
              refine VC.seq ?_
              refine VC.reg (VO.l (LO.mv (.r rfl)) rfl <| VO.l (LO.ne (.r rfl) (.r rfl)) rfl <| VO.nil ?_)
              refine VE.seqN ?_
              refine VC.cond rfl (fun h8 => ?_) (fun h8 => ?_)
              ·
                refine VC.seq ?_
                refine VC.reg (VO.l (LO.call (xs := []) (vs := []) C14 trivial (fun w _ => works_c w)) rfl <| VO.l (LO.as (.r rfl)) rfl <| VO.nil ?_)
                refine VE.seqN ?_
                refine VC.ret (VE.thenR (VE.res (vs := [_]) rfl ⟨rfl, trivial⟩ (fun w hw => ?_)))
                first | exact ⟨rfl, hw.nil⟩ | exact ⟨fits_end1 (pair_bad hF hFC), hw.nil⟩ | exact ⟨fits_end2 (fun q => in_meet h0 hm0 (fun k hk => hbi q k (by omega))) (fun q => hull_in h0 (fun k hk => hbo q k (by omega))), hw.nil⟩
              ·
                have hm0 : meetE l = 0 := Classical.not_not.1 h8
                have h0 : flowsE l = 0 := (meet_n14 h5).symm.trans hm0
                have hF := flows_ok h0
                refine VC.skip (VE.seqN ?_)
                refine VC.seq ?_
                refine VC.draw mixed (LL.l (LO.lda (vs := [_, _, _, _]) A32 (.r rfl) (fun _ hw => cells_at hw 7 rfl ⟨_, rfl⟩) rfl) rfl <| LL.l (LO.call (xs := [_]) (vs := [_]) C34 ⟨(.r rfl), trivial⟩ (fun w _ => checkFlow_c o w)) rfl <| LL.l (LO.eq (.r rfl) (.r rfl)) rfl <| LL.l (LO.lda (vs := [_, _, _, _]) A32 (.r rfl) (fun _ hw => cells_at hw 7 rfl ⟨_, rfl⟩) rfl) rfl <| LL.l (LO.call (xs := [_]) (vs := [_]) C34 ⟨(.r rfl), trivial⟩ (fun w _ => checkFlow_c o w)) rfl <| LL.l (LO.eq (.r rfl) (.r rfl)) rfl <| LL.l (LO.as (.r rfl)) rfl <| LL.l (LO.as (.r rfl)) rfl <| LL.nil) (by kernel_rfl) ?_
                refine VE.seqN ?_
                refine VC.seq ?_
                refine VC.seq ?_
                refine VC.reg (VO.l (LO.as (.r rfl)) rfl <| VO.nil ?_)
                refine VE.seqN ?_
                refine VC.block ?_
                refine VC.loopK (α := Nat × Bool × Bool) 0 (fun gx => [(28, .bool gx.2.1), (29, .bool gx.2.2), (30, .int .i64 (gx.1 : Nat))]) [(4, _), (11, _), (13, _), (14, _), (17, _), (25, _)] (fun gx => []) (fun gx => gx.1 ≤ l.length ∧ (gx.2.1 = true → ∀ k, k < gx.1 → liesB o (l.getD k zF) = true) ∧ (gx.2.2 = true → ∀ k, k < gx.1 → liesB (l.getD k zF) o = true)) (fun gx => l.length - gx.1) (0, _, _) (by exact ⟨Nat.zero_le _, fun _ k hk => absurd hk (Nat.not_lt_zero k), fun _ k hk => absurd hk (Nat.not_lt_zero k)⟩) (.cons rfl (.cons rfl (.cons rfl (.cons rfl (.cons rfl (.cons rfl (.cons rfl (.cons rfl (.cons rfl .nil))))))))) (fun _ h => h) ?_
                rintro ⟨i, bi, bo⟩ ⟨hi, hbi, hbo⟩
                show VC _ _ _ _ _ ([(28, .bool bi), (29, .bool bo), (30, .int .i64 (i : Nat))] ++ _) ([] ++ _) _ _
                have hi : i ≤ l.length := hi
                have hbi : bi = true → ∀ k, k < i → liesB o (l.getD k zF) = true := hbi
                have hbo : bo = true → ∀ k, k < i → liesB (l.getD k zF) o = true := hbo
                refine VC.seq ?_
                refine VC.seq ?_
                refine VC.reg (VO.l (LO.mv (.r rfl)) rfl <| VO.l (LO.mv (.r rfl)) rfl <| VO.l (LO.len S80 (.r rfl) rfl) rfl <| VO.l (LO.lt (.r rfl) (.r rfl)) rfl <| VO.nil ?_)
                refine VE.seqN ?_
                refine VC.cond rfl (fun h9 => ?_) (fun h9 => ?_)
                ·
                  have hil : i < l.length := by omega
                  refine VC.skip (VE.seqN ?_)
                  refine VC.seq ?_
                  refine VC.block ?_
                  refine VC.seq ?_
                  refine VC.seq ?_
                  refine VC.draw mixed (LL.l (LO.lda (vs := [_, _, _, _]) A32 (.r rfl) (fun _ hw => cells_at hw 6 rfl ⟨_, rfl⟩) rfl) rfl <| LL.l (LO.mv (.r rfl)) rfl <| LL.l (LO.mv (.r rfl)) rfl <| LL.l (LO.ixs S80 N32 hl.some (.r rfl) (.r rfl) rfl (by omega)) rfl <| LL.l (LO.lda (vs := [_, _, _, _]) A32 (.r rfl) (fun w hw => cells_part (off := 0) ((hl.at (j := i) (by omega)) w hw) ⟨_, rfl⟩) rfl) rfl <| LL.l (LO.call (xs := [_, _]) (vs := [_, _]) C42 ⟨(.r rfl), (.r rfl), trivial⟩ (fun w _ => lies_c (meetV l) (l.getD i zF) w)) rfl <| LL.l (LO.not (.r rfl)) rfl <| LL.l (LO.mv (.r rfl)) rfl <| LL.lg rfl rfl (GD.f _) (fun hg => LO.mv (.r rfl)) rfl <| LL.lg rfl rfl (GD.f _) (fun hg => LO.mv (.r rfl)) rfl <| LL.lg rfl rfl (GD.f _) (fun hg => LO.ixs S80 N32 hl.some (.g hg rfl) (.g hg rfl) rfl (by omega)) rfl <| LL.lg rfl rfl (GD.f _) (fun hg => LO.lda (vs := [_, _, _, _]) A32 (.g hg rfl) (fun w hw => cells_part (off := 0) ((hl.at (j := i) (by omega)) w hw) ⟨_, rfl⟩) rfl) rfl <| LL.lg rfl rfl (GD.f _) (fun hg => LO.lda (vs := [_, _, _, _]) A32 (.r rfl) (fun _ hw => cells_at hw 0 rfl ⟨_, rfl⟩) rfl) rfl <| LL.lg rfl rfl (GD.f _) (fun hg => LO.call (xs := [_, _]) (vs := [_, _]) C42 ⟨(.g hg rfl), (.g hg rfl), trivial⟩ (fun w _ => lies_c (l.getD i zF) (hullR l) w)) rfl <| LL.lg rfl rfl (GD.f _) (fun hg => LO.not (.g hg rfl)) rfl <| LL.l (LO.pkO (.r rfl) (.r rfl) rfl rfl) rfl <| LL.nil) (by kernel_rfl) ?_
                  refine VE.seqN ?_
                  refine VC.cond rfl (fun h10 => ?_) (fun h10 => ?_)
                  ·
                    (exfalso; (rcases h10 with q | q; exact q (lies_meet h0 hm0 hil); exact q (lies_hull h0 hil)))
                  ·
                    refine VC.skip (VE.seqN ?_)
                    refine VC.seq ?_
                    refine VC.draw mixed (LL.l (LO.mv (.r rfl)) rfl <| LL.l (LO.mv (.r rfl)) rfl <| LL.lg rfl rfl (GD.t _) (fun hg => LO.lda (vs := [_, _, _, _]) A32 (.r rfl) (fun _ hw => cells_at hw 7 rfl ⟨_, rfl⟩) rfl) rfl <| LL.lg rfl rfl (GD.t _) (fun hg => LO.mv (.r rfl)) rfl <| LL.lg rfl rfl (GD.t _) (fun hg => LO.mv (.r rfl)) rfl <| LL.lg rfl rfl (GD.t _) (fun hg => LO.ixs S80 N32 hl.some (.g hg rfl) (.g hg rfl) rfl (by omega)) rfl <| LL.lg rfl rfl (GD.t _) (fun hg => LO.lda (vs := [_, _, _, _]) A32 (.g hg rfl) (fun w hw => cells_part (off := 0) ((hl.at (j := i) (by omega)) w hw) ⟨_, rfl⟩) rfl) rfl <| LL.lg rfl rfl (GD.t _) (fun hg => LO.call (xs := [_, _]) (vs := [_, _]) C42 ⟨(.g hg rfl), (.g hg rfl), trivial⟩ (fun w _ => lies_c o (l.getD i zF) w)) rfl <| LL.l (LO.pkA (.r rfl) rfl rfl (.r rfl)) rfl <| LL.l (LO.as (.r rfl)) rfl <| LL.nil) (by kernel_rfl) ?_
                    refine VE.seqN ?_
                    refine VC.seq ?_
                    refine VC.draw mixed (LL.l (LO.mv (.r rfl)) rfl <| LL.l (LO.mv (.r rfl)) rfl <| LL.lg rfl rfl (GD.t _) (fun hg => LO.mv (.r rfl)) rfl <| LL.lg rfl rfl (GD.t _) (fun hg => LO.mv (.r rfl)) rfl <| LL.lg rfl rfl (GD.t _) (fun hg => LO.ixs S80 N32 hl.some (.g hg rfl) (.g hg rfl) rfl (by omega)) rfl <| LL.lg rfl rfl (GD.t _) (fun hg => LO.lda (vs := [_, _, _, _]) A32 (.g hg rfl) (fun w hw => cells_part (off := 0) ((hl.at (j := i) (by omega)) w hw) ⟨_, rfl⟩) rfl) rfl <| LL.lg rfl rfl (GD.t _) (fun hg => LO.lda (vs := [_, _, _, _]) A32 (.r rfl) (fun _ hw => cells_at hw 7 rfl ⟨_, rfl⟩) rfl) rfl <| LL.lg rfl rfl (GD.t _) (fun hg => LO.call (xs := [_, _]) (vs := [_, _]) C42 ⟨(.g hg rfl), (.g hg rfl), trivial⟩ (fun w _ => lies_c (l.getD i zF) o w)) rfl <| LL.l (LO.pkA (.r rfl) rfl rfl (.r rfl)) rfl <| LL.l (LO.as (.r rfl)) rfl <| LL.nil) (by kernel_rfl) ?_
                    refine VE.seqN ?_
                    refine VC.weak (env' := [(4, _), (11, _), (13, _), (14, _), (17, _), (25, _), (28, _), (29, _), (30, _)]) (.cons rfl (.cons rfl (.cons rfl (.cons rfl (.cons rfl (.cons rfl (.cons rfl (.cons rfl (.cons rfl .nil))))))))) (fun _ h => h) ?_
                    refine VC.seq ?_
                    refine VC.reg (VO.l (LO.mv (.r rfl)) rfl <| VO.l (LO.mv (.r rfl)) rfl <| VO.l (LO.ixs S80 N32 hl.some (.r rfl) (.r rfl) rfl (by omega)) rfl <| VO.l (LO.lda (vs := [_, _, _, _]) A32 (.r rfl) (fun w hw => cells_part (off := 0) ((hl.at (j := i) (by omega)) w hw) ⟨_, rfl⟩) rfl) rfl <| VO.l (LO.mv (.r rfl)) rfl <| VO.l (LO.mv (.r rfl)) rfl <| VO.l (LO.call (xs := [_, _, _]) (vs := [_, _, _]) C36 ⟨(.r rfl), (.r rfl), (.r rfl), trivial⟩ (fun w _ => Widen_c (l.getD i zF) (1 + tm.tmod 2) (1 + sec.tmod 40000) w)) rfl <| VO.l (LO.mv (.r rfl)) rfl <| VO.l (LO.ex (.r rfl) rfl) rfl <| VO.l (LO.ex (.r rfl) rfl) rfl <| VO.h rfl <| HO.alloc (C := #[_, _, _, _]) Z32 rfl fun b24 => VO.h0 <| HO.st 0 (vs := [_, _, _, _]) (C' := [_, _, _, _]) (L' := [_, _, _, _, _, _, _, _, _]) N32 rfl rfl rfl rfl rfl rfl rfl rfl <| VO.l (LO.as (.r rfl)) rfl <| VO.nil ?_)
                    refine VE.seqN ?_
                    refine VC.seq ?_
                    refine VC.draw mixed (LL.l (LO.mv (.r rfl)) rfl <| LL.l (LO.ne (.r rfl) (.r rfl)) rfl <| LL.l (LO.mv (.r rfl)) rfl <| LL.lg rfl rfl (GD.f _) (fun hg => LO.mv (.r rfl)) rfl <| LL.lg rfl rfl (GD.f _) (fun hg => LO.mv (.r rfl)) rfl <| LL.lg rfl rfl (GD.f _) (fun hg => LO.ixs S80 N32 hl.some (.g hg rfl) (.g hg rfl) rfl (by omega)) rfl <| LL.lg rfl rfl (GD.f _) (fun hg => LO.lda (vs := [_, _, _, _]) A32 (.g hg rfl) (fun w hw => cells_part (off := 0) ((hl.at (j := i) (by omega)) w hw) ⟨_, rfl⟩) rfl) rfl <| LL.lg rfl rfl (GD.f _) (fun hg => LO.lda (vs := [_, _, _, _]) A32 (.r rfl) (fun _ hw => cells_at hw 0 rfl ⟨_, rfl⟩) rfl) rfl <| LL.lg rfl rfl (GD.f _) (fun hg => LO.call (xs := [_, _]) (vs := [_, _]) C42 ⟨(.g hg rfl), (.g hg rfl), trivial⟩ (fun w _ => lies_c (l.getD i zF) (widR (l.getD i zF) (1 + tm.tmod 2) (1 + sec.tmod 40000)) w)) rfl <| LL.lg rfl rfl (GD.f _) (fun hg => LO.not (.g hg rfl)) rfl <| LL.l (LO.pkO (.r rfl) (.r rfl) rfl rfl) rfl <| LL.nil) (by kernel_rfl) ?_
                    refine VE.seqN ?_
                    refine VC.cond rfl (fun h11 => ?_) (fun h11 => ?_)
                    ·
                      (exfalso; (have hw := wid_ok (hF.2.2 i hil) (ch := (1 + tm.tmod 2)) (sec := (1 + sec.tmod 40000)) (by omega) (by omega) (by omega) (by omega); rcases h11 with q | q; exact q hw.1; exact q hw.2))
                    ·
                      refine VC.skip (VE.inN (VE.seqN ?_))
                      refine VC.reg (VO.l (LO.mv (.r rfl)) rfl <| VO.l (LO.add (.r rfl) (.r rfl) (wi (by omega) (by omega))) rfl <| VO.l (LO.as (.r rfl)) rfl <| VO.nil ?_)
                      refine VE.thenN fun a w ha hw => ⟨(i + 1, _, _), ⟨by dsimp only; omega, fit_in hbi, fit_out hbo⟩, (by dsimp only; omega), ha.sub (.cons rfl (.cons rfl (.cons rfl (.cons rfl (.cons rfl (.cons rfl (.cons rfl (.cons rfl (.cons rfl .nil))))))))), hw.sel [1, 2, 3, 4, 5, 6, 7, 8] rfl⟩
                ·
                  refine VC.exit (VE.thenX (VE.thenX (VE.inX (VE.seqN ?_))))
                  refine VC.seq ?_
                  refine VC.reg (VO.l (LO.mv (.r rfl)) rfl <| VO.l (LO.not (.r rfl)) rfl <| VO.l (LO.mv (.r rfl)) rfl <| VO.lg rfl rfl (GD.f _) (fun hg => LO.lda (vs := [_, _, _, _]) A32 (.r rfl) (fun _ hw => cells_at hw 7 rfl ⟨_, rfl⟩) rfl) rfl <| VO.lg rfl rfl (GD.f _) (fun hg => LO.lda (vs := [_, _, _, _]) A32 (.r rfl) (fun _ hw => cells_at hw 6 rfl ⟨_, rfl⟩) rfl) rfl <| VO.lg rfl rfl (GD.f _) (fun hg => LO.call (xs := [_, _]) (vs := [_, _]) C42 ⟨(.g hg rfl), (.g hg rfl), trivial⟩ (fun w _ => lies_c o (meetV l) w)) rfl <| VO.l (LO.pkO (.r rfl) (.r rfl) rfl rfl) rfl <| VO.l (LO.mv (.r rfl)) rfl <| VO.lg rfl rfl (GD.t _) (fun hg => LO.mv (.r rfl)) rfl <| VO.lg rfl rfl (GD.t _) (fun hg => LO.not (.g hg rfl)) rfl <| VO.lg rfl rfl (GD.t _) (fun hg => LO.mv (.g hg rfl)) rfl <| VO.lg rfl rfl (GD.nf _ _) (fun hg => LO.lda (vs := [_, _, _, _]) A32 (.r rfl) (fun _ hw => cells_at hw 0 rfl ⟨_, rfl⟩) rfl) rfl <| VO.lg rfl rfl (GD.nf _ _) (fun hg => LO.lda (vs := [_, _, _, _]) A32 (.r rfl) (fun _ hw => cells_at hw 7 rfl ⟨_, rfl⟩) rfl) rfl <| VO.lg rfl rfl (GD.nf _ _) (fun hg => LO.call (xs := [_, _]) (vs := [_, _]) C42 ⟨(.g hg rfl), (.g hg rfl), trivial⟩ (fun w _ => lies_c (hullR l) o w)) rfl <| VO.lg rfl rfl (GD.t _) (fun hg => LO.pkO (.g hg rfl) (.r rfl) rfl (and_e hg)) rfl <| VO.l (LO.pkA (.r rfl) rfl rfl (.r rfl)) rfl <| VO.l (LO.mv (.r rfl)) rfl <| VO.lg rfl rfl (GD.t _) (fun hg => LO.call (xs := []) (vs := []) C14 trivial (fun w _ => works_c w)) rfl <| VO.l (LO.pkA (.r rfl) rfl rfl (.r rfl)) rfl <| VO.l (LO.as (.r rfl)) rfl <| VO.nil ?_)
                  refine VE.seqN ?_
                  refine VC.ret (VE.res (vs := [_]) rfl ⟨rfl, trivial⟩ (fun w hw => ?_))
                  first | exact ⟨rfl, hw.nil⟩ | exact ⟨fits_end1 (pair_bad hF hFC), hw.nil⟩ | exact ⟨fits_end2 (fun q => in_meet h0 hm0 (fun k hk => hbi q k (by omega))) (fun q => hull_in h0 (fun k hk => hbo q k (by omega))), hw.nil⟩
      ·
        refine VC.skip (VE.seqN ?_)
        refine VC.seq ?_
        refine VC.reg (VO.l (LO.mv (.r rfl)) rfl <| VO.l (LO.call (xs := [_]) (vs := [_]) C38 ⟨(.r rfl), trivial⟩ (fun w hw => Meet_c p l c w (hl.keep w hw) hc)) rfl <| VO.l (LO.mv (.r rfl)) rfl <| VO.l (LO.ex (.r rfl) rfl) rfl <| VO.l (LO.ex (.r rfl) rfl) rfl <| VO.l (LO.ex (.r rfl) rfl) rfl <| VO.h rfl <| HO.alloc (C := #[_, _]) Z91 rfl fun b26 => VO.h0 <| HO.st 2 (vs := [_, _, _, _]) (C' := [_, _, _, _]) (L' := [_, _, _, _]) N32 rfl rfl rfl rfl rfl rfl rfl rfl <| VO.h0 <| HO.st 0 (vs := [_, _]) (C' := [_, _]) (L' := [_, _, _, _]) N91 rfl rfl rfl rfl rfl rfl rfl rfl <| VO.l (LO.as (.r rfl)) rfl <| VO.nil ?_)
        refine VE.seqN ?_
        refine VC.seq ?_
        refine VC.reg (VO.l (LO.mv (.r rfl)) rfl <| VO.l (LO.call (xs := [_]) (vs := [_]) C40 ⟨(.r rfl), trivial⟩ (fun w hw => Hull_c p l c w (hl.keep w hw) hc)) rfl <| VO.l (LO.mv (.r rfl)) rfl <| VO.l (LO.ex (.r rfl) rfl) rfl <| VO.l (LO.ex (.r rfl) rfl) rfl <| VO.h rfl <| HO.alloc (C := #[_, _, _, _]) Z32 rfl fun b29 => VO.h0 <| HO.st 0 (vs := [_, _, _, _]) (C' := [_, _, _, _]) (L' := [_, _, _, _, _]) N32 rfl rfl rfl rfl rfl rfl rfl rfl <| VO.l (LO.as (.r rfl)) rfl <| VO.nil ?_)
        refine VE.seqN ?_
        refine VC.weak (env' := [(4, _), (11, _), (13, _), (14, _), (17, _), (18, _), (20, _), (24, _), (25, _)]) (.cons rfl (.cons rfl (.cons rfl (.cons rfl (.cons rfl (.cons rfl (.cons rfl (.cons rfl (.cons rfl .nil))))))))) (fun _ h => h) ?_
        refine VC.seq ?_
        refine VC.seq ?_
        refine VC.reg (VO.l (LO.mv (.r rfl)) rfl <| VO.l (LO.eq (.r rfl) (.r rfl)) rfl <| VO.nil ?_)
        refine VE.seqN ?_
        refine VC.cond rfl (fun h5 => ?_) (fun h5 => ?_)
        ·
          obtain ⟨ci, cj, h0, hP, hFC⟩ := meet_14 h5
          have hFC1 := hFC.1
          have hFC2 := hFC.2.1
          have hP1 : (meetP l).1 = (ci : Nat) := congrArg Prod.fst hP
          have hP2 : (meetP l).2 = (cj : Nat) := congrArg Prod.snd hP
          have hF := flows_ok h0
          refine VC.seq ?_
          refine VC.seq ?_
          refine VC.reg (VO.l (LO.mv (.r rfl)) rfl <| VO.l (LO.ne (.r rfl) (.r rfl)) rfl <| VO.l (LO.mv (.r rfl)) rfl <| VO.lg rfl rfl (GD.f _) (fun hg => LO.ixa (j := 0) (r := 0) Try.underlying91 N3 (.r rfl) (.r rfl) rfl (by decide) rfl) rfl <| VO.lg rfl rfl (GD.f _) (fun hg => LO.ld O3 (.g hg rfl) (fun _ hw => cells_at hw 1 rfl ⟨_, rfl⟩)) rfl <| VO.lg rfl rfl (GD.f _) (fun hg => LO.lt (.g hg rfl) (.r rfl)) rfl <| VO.l (LO.pkO (.r rfl) (.r rfl) rfl rfl) rfl <| VO.l (LO.mv (.r rfl)) rfl <| VO.lg rfl rfl (GD.f _) (fun hg => LO.ixa (j := 0) (r := 0) Try.underlying91 N3 (.r rfl) (.r rfl) rfl (by decide) rfl) rfl <| VO.lg rfl rfl (GD.f _) (fun hg => LO.ld O3 (.g hg rfl) (fun _ hw => cells_at hw 1 rfl ⟨_, rfl⟩)) rfl <| VO.lg rfl rfl (GD.f _) (fun hg => LO.ixa (j := 1) (r := 1) Try.underlying91 N3 (.r rfl) (.r rfl) rfl (by decide) rfl) rfl <| VO.lg rfl rfl (GD.f _) (fun hg => LO.ld O3 (.g hg rfl) (fun _ hw => cells_at hw 1 rfl ⟨_, rfl⟩)) rfl <| VO.lg rfl rfl (GD.f _) (fun hg => LO.ge (.g hg rfl) (.g hg rfl)) rfl <| VO.l (LO.pkO (.r rfl) (.r rfl) rfl rfl) rfl <| VO.l (LO.mv (.r rfl)) rfl <| VO.lg rfl rfl (GD.f _) (fun hg => LO.ixa (j := 1) (r := 1) Try.underlying91 N3 (.r rfl) (.r rfl) rfl (by decide) rfl) rfl <| VO.lg rfl rfl (GD.f _) (fun hg => LO.ld O3 (.g hg rfl) (fun _ hw => cells_at hw 1 rfl ⟨_, rfl⟩)) rfl <| VO.lg rfl rfl (GD.f _) (fun hg => LO.mv (.r rfl)) rfl <| VO.lg rfl rfl (GD.f _) (fun hg => LO.len S80 (.g hg rfl) rfl) rfl <| VO.lg rfl rfl (GD.f _) (fun hg => LO.ge (.g hg rfl) (.g hg rfl)) rfl <| VO.l (LO.pkO (.r rfl) (.r rfl) rfl rfl) rfl <| VO.nil ?_)
          refine VE.seqN ?_
          refine VC.cond rfl (fun h6 => ?_) (fun h6 => ?_)
          ·
            (exfalso; (rcases h6 with ((q | q) | q) | q; exact q h0; omega; omega; omega))
          ·
            refine VC.skip (VE.seqN ?_)
            refine VC.seq ?_
            refine VC.drawB [⟨10, 26, fun b => .pointer (some ⟨b, 0, none⟩), 32, #[.int .i64 0, .int .i64 0, .int .i64 0, .int .i64 0]⟩, ⟨11, 27, fun b => .pointer (some ⟨b, 0, none⟩), 32, #[.int .i64 0, .int .i64 0, .int .i64 0, .int .i64 0]⟩] [[0, 1, 2, 3, 4], [0, 1, 2, 3, 4], [0, 1, 2, 3, 4], [0, 1, 2, 3, 4], [0, 1, 2, 3, 4]] [some 2, some 2, some 2, some 2, some 2, some 3, some 3, some 3, some 3, some 3, none, none, none, none] mixed (by kernel_rfl) rfl (LX.l (fun _ hJ => LO.mv (.r rfl)) rfl <| LX.l (fun _ hJ => LO.ixa (j := 0) (r := 0) Try.underlying91 N3 (.r rfl) (.r rfl) rfl (by decide) rfl) rfl <| LX.l (fun _ hJ => LO.ld O3 (.r rfl) (fun _ hw => cells_at (hJ _ hw) 1 rfl ⟨_, rfl⟩)) rfl <| LX.l (fun _ hJ => LO.ixs S80 N32 hl.some (.r rfl) (.r rfl) (congrArg Prod.fst hP) (by omega)) rfl <| LX.l (fun _ hJ => LO.lda (vs := [_, _, _, _]) A32 (.r rfl) (fun w hw => cells_part (off := 0) ((hl.at (j := ci) (by omega)) w (hJ _ hw)) ⟨_, rfl⟩) rfl) rfl <| LX.l (fun _ hJ => LO.mv (.r rfl)) rfl <| LX.l (fun _ hJ => LO.ixa (j := 1) (r := 1) Try.underlying91 N3 (.r rfl) (.r rfl) rfl (by decide) rfl) rfl <| LX.l (fun _ hJ => LO.ld O3 (.r rfl) (fun _ hw => cells_at (hJ _ hw) 1 rfl ⟨_, rfl⟩)) rfl <| LX.l (fun _ hJ => LO.ixs S80 N32 hl.some (.r rfl) (.r rfl) (congrArg Prod.snd hP) (by omega)) rfl <| LX.l (fun _ hJ => LO.lda (vs := [_, _, _, _]) A32 (.r rfl) (fun w hw => cells_part (off := 0) ((hl.at (j := cj) (by omega)) w (hJ _ hw)) ⟨_, rfl⟩) rfl) rfl <| LX.s <| LX.s <| LX.s <| LX.s <| LX.nil) (⟨⟨rfl, _, rfl, FO.alloc Z32 rfl⟩, ⟨⟨rfl, _, rfl, FO.alloc Z32 rfl⟩, trivial⟩⟩) (HY.s <| HY.s <| HY.s <| HY.s <| HY.s <| HY.s <| HY.s <| HY.s <| HY.s <| HY.s <| HY.f rfl fun b35 => ⟨selJ (L1 := [_, _, _, _, _]) [1, 2, 3, 4, 5] rfl rfl rfl, HY.f rfl fun b36 => ⟨selJ (L1 := [_, _, _, _, _]) [2, 3, 4, 5, 6] rfl rfl rfl, HY.h0 rfl fun X => HO.st 1 (vs := [_, _, _, _]) (C' := [_, _, _, _]) (L' := [_, _, _, _, _, _, _] ++ X) N32 rfl rfl rfl rfl rfl rfl rfl rfl <| ⟨[_, _, _, _, _, _, _], rfl, selJ (L1 := [_, _, _, _, _]) [2, 3, 4, 5, 6] rfl rfl rfl, HY.h0 rfl fun X => HO.st 0 (vs := [_, _, _, _]) (C' := [_, _, _, _]) (L' := [_, _, _, _, _, _, _] ++ X) N32 rfl rfl rfl rfl rfl rfl rfl rfl <| ⟨[_, _, _, _, _, _, _], rfl, selJ (L1 := [_, _, _, _, _]) [2, 3, 4, 5, 6] rfl rfl rfl, HY.nil ?_⟩⟩⟩⟩)
            refine VE.seqN ?_
            refine VC.weak (env' := [(26, _), (27, _)]) (.cons rfl (.cons rfl .nil)) (fun _ h => h) ?_
            refine VC.seq ?_
            refine VC.reg (VO.l (LO.fa (r := 0) F32_0 (.r rfl) rfl) rfl <| VO.l (LO.fa (r := 0) F30_0 (.r rfl) rfl) rfl <| VO.l (LO.ld O3 (.r rfl) (fun _ hw => cells_at hw 1 rfl ⟨_, rfl⟩)) rfl <| VO.l (LO.fa (r := 0) F32_0 (.r rfl) rfl) rfl <| VO.l (LO.fa (r := 1) F30_1 (.r rfl) rfl) rfl <| VO.l (LO.ld O3 (.r rfl) (fun _ hw => cells_at hw 0 rfl ⟨_, rfl⟩)) rfl <| VO.l (LO.gt (.r rfl) (.r rfl)) rfl <| VO.l (LO.mv (.r rfl)) rfl <| VO.lg rfl rfl (GD.f _) (fun hg => LO.fa (r := 0) F32_0 (.r rfl) rfl) rfl <| VO.lg rfl rfl (GD.f _) (fun hg => LO.fa (r := 0) F30_0 (.g hg rfl) rfl) rfl <| VO.lg rfl rfl (GD.f _) (fun hg => LO.ld O3 (.g hg rfl) (fun _ hw => cells_at hw 0 rfl ⟨_, rfl⟩)) rfl <| VO.lg rfl rfl (GD.f _) (fun hg => LO.fa (r := 0) F32_0 (.r rfl) rfl) rfl <| VO.lg rfl rfl (GD.f _) (fun hg => LO.fa (r := 1) F30_1 (.g hg rfl) rfl) rfl <| VO.lg rfl rfl (GD.f _) (fun hg => LO.ld O3 (.g hg rfl) (fun _ hw => cells_at hw 1 rfl ⟨_, rfl⟩)) rfl <| VO.lg rfl rfl (GD.f _) (fun hg => LO.gt (.g hg rfl) (.g hg rfl)) rfl <| VO.l (LO.pkO (.r rfl) (.r rfl) rfl rfl) rfl <| VO.l (LO.mv (.r rfl)) rfl <| VO.lg rfl rfl (GD.f _) (fun hg => LO.fa (r := 2) F32_1 (.r rfl) rfl) rfl <| VO.lg rfl rfl (GD.f _) (fun hg => LO.fa (r := 2) F30_0 (.g hg rfl) rfl) rfl <| VO.lg rfl rfl (GD.f _) (fun hg => LO.ld O3 (.g hg rfl) (fun _ hw => cells_at hw 1 rfl ⟨_, rfl⟩)) rfl <| VO.lg rfl rfl (GD.f _) (fun hg => LO.fa (r := 2) F32_1 (.r rfl) rfl) rfl <| VO.lg rfl rfl (GD.f _) (fun hg => LO.fa (r := 3) F30_1 (.g hg rfl) rfl) rfl <| VO.lg rfl rfl (GD.f _) (fun hg => LO.ld O3 (.g hg rfl) (fun _ hw => cells_at hw 0 rfl ⟨_, rfl⟩)) rfl <| VO.lg rfl rfl (GD.f _) (fun hg => LO.gt (.g hg rfl) (.g hg rfl)) rfl <| VO.l (LO.pkO (.r rfl) (.r rfl) rfl rfl) rfl <| VO.l (LO.mv (.r rfl)) rfl <| VO.lg rfl rfl (GD.f _) (fun hg => LO.fa (r := 2) F32_1 (.r rfl) rfl) rfl <| VO.lg rfl rfl (GD.f _) (fun hg => LO.fa (r := 2) F30_0 (.g hg rfl) rfl) rfl <| VO.lg rfl rfl (GD.f _) (fun hg => LO.ld O3 (.g hg rfl) (fun _ hw => cells_at hw 0 rfl ⟨_, rfl⟩)) rfl <| VO.lg rfl rfl (GD.f _) (fun hg => LO.fa (r := 2) F32_1 (.r rfl) rfl) rfl <| VO.lg rfl rfl (GD.f _) (fun hg => LO.fa (r := 3) F30_1 (.g hg rfl) rfl) rfl <| VO.lg rfl rfl (GD.f _) (fun hg => LO.ld O3 (.g hg rfl) (fun _ hw => cells_at hw 1 rfl ⟨_, rfl⟩)) rfl <| VO.lg rfl rfl (GD.f _) (fun hg => LO.gt (.g hg rfl) (.g hg rfl)) rfl <| VO.l (LO.pkO (.r rfl) (.r rfl) rfl rfl) rfl <| VO.l (LO.mv (.r rfl)) rfl <| VO.lg rfl rfl (GD.t _) (fun hg => LO.call (xs := []) (vs := []) C14 trivial (fun w _ => works_c w)) rfl <| VO.l (LO.pkA (.r rfl) rfl rfl (.r rfl)) rfl <| VO.l (LO.as (.r rfl)) rfl <| VO.nil ?_)
            refine VE.seqN ?_
            refine VC.ret (VE.thenR (VE.res (vs := [_]) rfl ⟨rfl, trivial⟩ (fun w hw => ?_)))
            first | exact ⟨rfl, hw.nil⟩ | exact ⟨fits_end1 (pair_bad hF hFC), hw.nil⟩ | exact ⟨fits_end2 (fun q => in_meet h0 hm0 (fun k hk => hbi q k (by omega))) (fun q => hull_in h0 (fun k hk => hbo q k (by omega))), hw.nil⟩
        ·
          refine VC.skip (VE.seqN ?_)
          refine VC.seq ?_
          refine VC.seq ?_
          refine VC.reg (VO.l (LO.mv (.r rfl)) rfl <| VO.l (LO.mv (.r rfl)) rfl <| VO.l (LO.ne (.r rfl) (.r rfl)) rfl <| VO.nil ?_)
          refine VE.seqN ?_
          refine VC.cond rfl (fun h7 => ?_) (fun h7 => ?_)
          ·
            (exfalso; (exact h7 (meet_n14 h5)))
          ·
            refine VC.skip (VE.seqN ?_)
            refine VC.seq ?_
            refine VC.seq ?_
            refine VC.reg (VO.l (LO.mv (.r rfl)) rfl <| VO.l (LO.ne (.r rfl) (.r rfl)) rfl <| VO.nil ?_)
            refine VE.seqN ?_
            refine VC.cond rfl (fun h8 => ?_) (fun h8 => ?_)
            ·
              refine VC.seq ?_
              refine VC.reg (VO.l (LO.call (xs := []) (vs := []) C14 trivial (fun w _ => works_c w)) rfl <| VO.l (LO.as (.r rfl)) rfl <| VO.nil ?_)
              refine VE.seqN ?_
              refine VC.ret (VE.thenR (VE.res (vs := [_]) rfl ⟨rfl, trivial⟩ (fun w hw => ?_)))
              first | exact ⟨rfl, hw.nil⟩ | exact ⟨fits_end1 (pair_bad hF hFC), hw.nil⟩ | exact ⟨fits_end2 (fun q => in_meet h0 hm0 (fun k hk => hbi q k (by omega))) (fun q => hull_in h0 (fun k hk => hbo q k (by omega))), hw.nil⟩
            ·
              have hm0 : meetE l = 0 := Classical.not_not.1 h8
              have h0 : flowsE l = 0 := (meet_n14 h5).symm.trans hm0
              have hF := flows_ok h0
              refine VC.skip (VE.seqN ?_)
              refine VC.seq ?_
              refine VC.draw mixed (LL.l (LO.lda (vs := [_, _, _, _]) A32 (.r rfl) (fun _ hw => cells_at hw 4 rfl ⟨_, rfl⟩) rfl) rfl <| LL.l (LO.call (xs := [_]) (vs := [_]) C34 ⟨(.r rfl), trivial⟩ (fun w _ => checkFlow_c o w)) rfl <| LL.l (LO.eq (.r rfl) (.r rfl)) rfl <| LL.l (LO.lda (vs := [_, _, _, _]) A32 (.r rfl) (fun _ hw => cells_at hw 4 rfl ⟨_, rfl⟩) rfl) rfl <| LL.l (LO.call (xs := [_]) (vs := [_]) C34 ⟨(.r rfl), trivial⟩ (fun w _ => checkFlow_c o w)) rfl <| LL.l (LO.eq (.r rfl) (.r rfl)) rfl <| LL.l (LO.as (.r rfl)) rfl <| LL.l (LO.as (.r rfl)) rfl <| LL.nil) (by kernel_rfl) ?_
              refine VE.seqN ?_
              refine VC.seq ?_
              refine VC.seq ?_
              refine VC.reg (VO.l (LO.as (.r rfl)) rfl <| VO.nil ?_)
              refine VE.seqN ?_
              refine VC.block ?_
              refine VC.loopK (α := Nat × Bool × Bool) 0 (fun gx => [(28, .bool gx.2.1), (29, .bool gx.2.2), (30, .int .i64 (gx.1 : Nat))]) [(4, _), (11, _), (13, _), (14, _), (17, _), (25, _)] (fun gx => []) (fun gx => gx.1 ≤ l.length ∧ (gx.2.1 = true → ∀ k, k < gx.1 → liesB o (l.getD k zF) = true) ∧ (gx.2.2 = true → ∀ k, k < gx.1 → liesB (l.getD k zF) o = true)) (fun gx => l.length - gx.1) (0, _, _) (by exact ⟨Nat.zero_le _, fun _ k hk => absurd hk (Nat.not_lt_zero k), fun _ k hk => absurd hk (Nat.not_lt_zero k)⟩) (.cons rfl (.cons rfl (.cons rfl (.cons rfl (.cons rfl (.cons rfl (.cons rfl (.cons rfl (.cons rfl .nil))))))))) (fun _ h => h) ?_
              rintro ⟨i, bi, bo⟩ ⟨hi, hbi, hbo⟩
              show VC _ _ _ _ _ ([(28, .bool bi), (29, .bool bo), (30, .int .i64 (i : Nat))] ++ _) ([] ++ _) _ _
              have hi : i ≤ l.length := hi
              have hbi : bi = true → ∀ k, k < i → liesB o (l.getD k zF) = true := hbi
              have hbo : bo = true → ∀ k, k < i → liesB (l.getD k zF) o = true := hbo
              refine VC.seq ?_
              refine VC.seq ?_
              refine VC.reg (VO.l (LO.mv (.r rfl)) rfl <| VO.l (LO.mv (.r rfl)) rfl <| VO.l (LO.len S80 (.r rfl) rfl) rfl <| VO.l (LO.lt (.r rfl) (.r rfl)) rfl <| VO.nil ?_)
              refine VE.seqN ?_
              refine VC.cond rfl (fun h9 => ?_) (fun h9 => ?_)
              ·
                have hil : i < l.length := by omega
                refine VC.skip (VE.seqN ?_)
                refine VC.seq ?_
                refine VC.block ?_
                refine VC.seq ?_
                refine VC.seq ?_
                refine VC.draw mixed (LL.l (LO.lda (vs := [_, _, _, _]) A32 (.r rfl) (fun _ hw => cells_at hw 3 rfl ⟨_, rfl⟩) rfl) rfl <| LL.l (LO.mv (.r rfl)) rfl <| LL.l (LO.mv (.r rfl)) rfl <| LL.l (LO.ixs S80 N32 hl.some (.r rfl) (.r rfl) rfl (by omega)) rfl <| LL.l (LO.lda (vs := [_, _, _, _]) A32 (.r rfl) (fun w hw => cells_part (off := 0) ((hl.at (j := i) (by omega)) w hw) ⟨_, rfl⟩) rfl) rfl <| LL.l (LO.call (xs := [_, _]) (vs := [_, _]) C42 ⟨(.r rfl), (.r rfl), trivial⟩ (fun w _ => lies_c (meetV l) (l.getD i zF) w)) rfl <| LL.l (LO.not (.r rfl)) rfl <| LL.l (LO.mv (.r rfl)) rfl <| LL.lg rfl rfl (GD.f _) (fun hg => LO.mv (.r rfl)) rfl <| LL.lg rfl rfl (GD.f _) (fun hg => LO.mv (.r rfl)) rfl <| LL.lg rfl rfl (GD.f _) (fun hg => LO.ixs S80 N32 hl.some (.g hg rfl) (.g hg rfl) rfl (by omega)) rfl <| LL.lg rfl rfl (GD.f _) (fun hg => LO.lda (vs := [_, _, _, _]) A32 (.g hg rfl) (fun w hw => cells_part (off := 0) ((hl.at (j := i) (by omega)) w hw) ⟨_, rfl⟩) rfl) rfl <| LL.lg rfl rfl (GD.f _) (fun hg => LO.lda (vs := [_, _, _, _]) A32 (.r rfl) (fun _ hw => cells_at hw 0 rfl ⟨_, rfl⟩) rfl) rfl <| LL.lg rfl rfl (GD.f _) (fun hg => LO.call (xs := [_, _]) (vs := [_, _]) C42 ⟨(.g hg rfl), (.g hg rfl), trivial⟩ (fun w _ => lies_c (l.getD i zF) (hullR l) w)) rfl <| LL.lg rfl rfl (GD.f _) (fun hg => LO.not (.g hg rfl)) rfl <| LL.l (LO.pkO (.r rfl) (.r rfl) rfl rfl) rfl <| LL.nil) (by kernel_rfl) ?_
                refine VE.seqN ?_
                refine VC.cond rfl (fun h10 => ?_) (fun h10 => ?_)
                ·
                  (exfalso; (rcases h10 with q | q; exact q (lies_meet h0 hm0 hil); exact q (lies_hull h0 hil)))
                ·
                  refine VC.skip (VE.seqN ?_)
                  refine VC.seq ?_
                  refine VC.draw mixed (LL.l (LO.mv (.r rfl)) rfl <| LL.l (LO.mv (.r rfl)) rfl <| LL.lg rfl rfl (GD.t _) (fun hg => LO.lda (vs := [_, _, _, _]) A32 (.r rfl) (fun _ hw => cells_at hw 4 rfl ⟨_, rfl⟩) rfl) rfl <| LL.lg rfl rfl (GD.t _) (fun hg => LO.mv (.r rfl)) rfl <| LL.lg rfl rfl (GD.t _) (fun hg => LO.mv (.r rfl)) rfl <| LL.lg rfl rfl (GD.t _) (fun hg => LO.ixs S80 N32 hl.some (.g hg rfl) (.g hg rfl) rfl (by omega)) rfl <| LL.lg rfl rfl (GD.t _) (fun hg => LO.lda (vs := [_, _, _, _]) A32 (.g hg rfl) (fun w hw => cells_part (off := 0) ((hl.at (j := i) (by omega)) w hw) ⟨_, rfl⟩) rfl) rfl <| LL.lg rfl rfl (GD.t _) (fun hg => LO.call (xs := [_, _]) (vs := [_, _]) C42 ⟨(.g hg rfl), (.g hg rfl), trivial⟩ (fun w _ => lies_c o (l.getD i zF) w)) rfl <| LL.l (LO.pkA (.r rfl) rfl rfl (.r rfl)) rfl <| LL.l (LO.as (.r rfl)) rfl <| LL.nil) (by kernel_rfl) ?_
                  refine VE.seqN ?_
                  refine VC.seq ?_
                  refine VC.draw mixed (LL.l (LO.mv (.r rfl)) rfl <| LL.l (LO.mv (.r rfl)) rfl <| LL.lg rfl rfl (GD.t _) (fun hg => LO.mv (.r rfl)) rfl <| LL.lg rfl rfl (GD.t _) (fun hg => LO.mv (.r rfl)) rfl <| LL.lg rfl rfl (GD.t _) (fun hg => LO.ixs S80 N32 hl.some (.g hg rfl) (.g hg rfl) rfl (by omega)) rfl <| LL.lg rfl rfl (GD.t _) (fun hg => LO.lda (vs := [_, _, _, _]) A32 (.g hg rfl) (fun w hw => cells_part (off := 0) ((hl.at (j := i) (by omega)) w hw) ⟨_, rfl⟩) rfl) rfl <| LL.lg rfl rfl (GD.t _) (fun hg => LO.lda (vs := [_, _, _, _]) A32 (.r rfl) (fun _ hw => cells_at hw 4 rfl ⟨_, rfl⟩) rfl) rfl <| LL.lg rfl rfl (GD.t _) (fun hg => LO.call (xs := [_, _]) (vs := [_, _]) C42 ⟨(.g hg rfl), (.g hg rfl), trivial⟩ (fun w _ => lies_c (l.getD i zF) o w)) rfl <| LL.l (LO.pkA (.r rfl) rfl rfl (.r rfl)) rfl <| LL.l (LO.as (.r rfl)) rfl <| LL.nil) (by kernel_rfl) ?_
                  refine VE.seqN ?_
                  refine VC.weak (env' := [(4, _), (11, _), (13, _), (14, _), (17, _), (25, _), (28, _), (29, _), (30, _)]) (.cons rfl (.cons rfl (.cons rfl (.cons rfl (.cons rfl (.cons rfl (.cons rfl (.cons rfl (.cons rfl .nil))))))))) (fun _ h => h) ?_
                  refine VC.seq ?_
                  refine VC.reg (VO.l (LO.mv (.r rfl)) rfl <| VO.l (LO.mv (.r rfl)) rfl <| VO.l (LO.ixs S80 N32 hl.some (.r rfl) (.r rfl) rfl (by omega)) rfl <| VO.l (LO.lda (vs := [_, _, _, _]) A32 (.r rfl) (fun w hw => cells_part (off := 0) ((hl.at (j := i) (by omega)) w hw) ⟨_, rfl⟩) rfl) rfl <| VO.l (LO.mv (.r rfl)) rfl <| VO.l (LO.mv (.r rfl)) rfl <| VO.l (LO.call (xs := [_, _, _]) (vs := [_, _, _]) C36 ⟨(.r rfl), (.r rfl), (.r rfl), trivial⟩ (fun w _ => Widen_c (l.getD i zF) (1 + tm.tmod 2) (1 + sec.tmod 40000) w)) rfl <| VO.l (LO.mv (.r rfl)) rfl <| VO.l (LO.ex (.r rfl) rfl) rfl <| VO.l (LO.ex (.r rfl) rfl) rfl <| VO.h rfl <| HO.alloc (C := #[_, _, _, _]) Z32 rfl fun b39 => VO.h0 <| HO.st 0 (vs := [_, _, _, _]) (C' := [_, _, _, _]) (L' := [_, _, _, _, _, _]) N32 rfl rfl rfl rfl rfl rfl rfl rfl <| VO.l (LO.as (.r rfl)) rfl <| VO.nil ?_)
                  refine VE.seqN ?_
                  refine VC.seq ?_
                  refine VC.draw mixed (LL.l (LO.mv (.r rfl)) rfl <| LL.l (LO.ne (.r rfl) (.r rfl)) rfl <| LL.l (LO.mv (.r rfl)) rfl <| LL.lg rfl rfl (GD.f _) (fun hg => LO.mv (.r rfl)) rfl <| LL.lg rfl rfl (GD.f _) (fun hg => LO.mv (.r rfl)) rfl <| LL.lg rfl rfl (GD.f _) (fun hg => LO.ixs S80 N32 hl.some (.g hg rfl) (.g hg rfl) rfl (by omega)) rfl <| LL.lg rfl rfl (GD.f _) (fun hg => LO.lda (vs := [_, _, _, _]) A32 (.g hg rfl) (fun w hw => cells_part (off := 0) ((hl.at (j := i) (by omega)) w hw) ⟨_, rfl⟩) rfl) rfl <| LL.lg rfl rfl (GD.f _) (fun hg => LO.lda (vs := [_, _, _, _]) A32 (.r rfl) (fun _ hw => cells_at hw 0 rfl ⟨_, rfl⟩) rfl) rfl <| LL.lg rfl rfl (GD.f _) (fun hg => LO.call (xs := [_, _]) (vs := [_, _]) C42 ⟨(.g hg rfl), (.g hg rfl), trivial⟩ (fun w _ => lies_c (l.getD i zF) (widR (l.getD i zF) (1 + tm.tmod 2) (1 + sec.tmod 40000)) w)) rfl <| LL.lg rfl rfl (GD.f _) (fun hg => LO.not (.g hg rfl)) rfl <| LL.l (LO.pkO (.r rfl) (.r rfl) rfl rfl) rfl <| LL.nil) (by kernel_rfl) ?_
                  refine VE.seqN ?_
                  refine VC.cond rfl (fun h11 => ?_) (fun h11 => ?_)
                  ·
                    (exfalso; (have hw := wid_ok (hF.2.2 i hil) (ch := (1 + tm.tmod 2)) (sec := (1 + sec.tmod 40000)) (by omega) (by omega) (by omega) (by omega); rcases h11 with q | q; exact q hw.1; exact q hw.2))
                  ·
                    refine VC.skip (VE.inN (VE.seqN ?_))
                    refine VC.reg (VO.l (LO.mv (.r rfl)) rfl <| VO.l (LO.add (.r rfl) (.r rfl) (wi (by omega) (by omega))) rfl <| VO.l (LO.as (.r rfl)) rfl <| VO.nil ?_)
                    refine VE.thenN fun a w ha hw => ⟨(i + 1, _, _), ⟨by dsimp only; omega, fit_in hbi, fit_out hbo⟩, (by dsimp only; omega), ha.sub (.cons rfl (.cons rfl (.cons rfl (.cons rfl (.cons rfl (.cons rfl (.cons rfl (.cons rfl (.cons rfl .nil))))))))), hw.sel [1, 2, 3, 4, 5] rfl⟩
              ·
                refine VC.exit (VE.thenX (VE.thenX (VE.inX (VE.seqN ?_))))
                refine VC.seq ?_
                refine VC.reg (VO.l (LO.mv (.r rfl)) rfl <| VO.l (LO.not (.r rfl)) rfl <| VO.l (LO.mv (.r rfl)) rfl <| VO.lg rfl rfl (GD.f _) (fun hg => LO.lda (vs := [_, _, _, _]) A32 (.r rfl) (fun _ hw => cells_at hw 4 rfl ⟨_, rfl⟩) rfl) rfl <| VO.lg rfl rfl (GD.f _) (fun hg => LO.lda (vs := [_, _, _, _]) A32 (.r rfl) (fun _ hw => cells_at hw 3 rfl ⟨_, rfl⟩) rfl) rfl <| VO.lg rfl rfl (GD.f _) (fun hg => LO.call (xs := [_, _]) (vs := [_, _]) C42 ⟨(.g hg rfl), (.g hg rfl), trivial⟩ (fun w _ => lies_c o (meetV l) w)) rfl <| VO.l (LO.pkO (.r rfl) (.r rfl) rfl rfl) rfl <| VO.l (LO.mv (.r rfl)) rfl <| VO.lg rfl rfl (GD.t _) (fun hg => LO.mv (.r rfl)) rfl <| VO.lg rfl rfl (GD.t _) (fun hg => LO.not (.g hg rfl)) rfl <| VO.lg rfl rfl (GD.t _) (fun hg => LO.mv (.g hg rfl)) rfl <| VO.lg rfl rfl (GD.nf _ _) (fun hg => LO.lda (vs := [_, _, _, _]) A32 (.r rfl) (fun _ hw => cells_at hw 0 rfl ⟨_, rfl⟩) rfl) rfl <| VO.lg rfl rfl (GD.nf _ _) (fun hg => LO.lda (vs := [_, _, _, _]) A32 (.r rfl) (fun _ hw => cells_at hw 4 rfl ⟨_, rfl⟩) rfl) rfl <| VO.lg rfl rfl (GD.nf _ _) (fun hg => LO.call (xs := [_, _]) (vs := [_, _]) C42 ⟨(.g hg rfl), (.g hg rfl), trivial⟩ (fun w _ => lies_c (hullR l) o w)) rfl <| VO.lg rfl rfl (GD.t _) (fun hg => LO.pkO (.g hg rfl) (.r rfl) rfl (and_e hg)) rfl <| VO.l (LO.pkA (.r rfl) rfl rfl (.r rfl)) rfl <| VO.l (LO.mv (.r rfl)) rfl <| VO.lg rfl rfl (GD.t _) (fun hg => LO.call (xs := []) (vs := []) C14 trivial (fun w _ => works_c w)) rfl <| VO.l (LO.pkA (.r rfl) rfl rfl (.r rfl)) rfl <| VO.l (LO.as (.r rfl)) rfl <| VO.nil ?_)
                refine VE.seqN ?_
                refine VC.ret (VE.res (vs := [_]) rfl ⟨rfl, trivial⟩ (fun w hw => ?_))
                first | exact ⟨rfl, hw.nil⟩ | exact ⟨fits_end1 (pair_bad hF hFC), hw.nil⟩ | exact ⟨fits_end2 (fun q => in_meet h0 hm0 (fun k hk => hbi q k (by omega))) (fun q => hull_in h0 (fun k hk => hbo q k (by omega))), hw.nil⟩

end Go.Proofs.Ytdcjeoamhjplmaa
