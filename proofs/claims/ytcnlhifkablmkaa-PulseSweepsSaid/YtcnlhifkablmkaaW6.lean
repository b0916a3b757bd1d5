/-
  Sums, shares and steps of the program.
-/
import Derived.Test.YtcnlhifkablmkaaW5
namespace Go.Proofs.Ytcnlhifkablmkaa
open Go.SL Go.Proofs Go.Pulse
set_option linter.unusedVariables false

theorem C88 : IsFn Try.prog 88 := ⟨_, Try.func88, by decide, rfl⟩
theorem S28 : IsSlice Try.prog 28 44 := Try.underlying28
theorem N44 : (Try.prog.info? 44).map (·.size) = some 4 := by kernel_rfl
theorem A44 : IsAgg Try.prog 44 4 := ⟨⟨_, Try.underlying44, rfl⟩, by kernel_rfl⟩
theorem Z44 : ZeroOf Try.prog 44 (.agg #[.int .i64 0, .int .i64 0, .int .i64 0, .int .i64 0]) := by unfold ZeroOf; kernel_rfl
theorem F44_0 : FieldAt Try.prog 44 0 0 := ⟨_, _, Try.underlying44, rfl, rfl, 0, by kernel_rfl⟩
theorem F44_2 : FieldAt Try.prog 44 2 2 := ⟨_, _, Try.underlying44, rfl, rfl, 0, by kernel_rfl⟩
theorem O28 : IsOne Try.prog 28 := ⟨⟨_, Try.underlying28, rfl⟩, by kernel_rfl⟩
theorem F44_1 : FieldAt Try.prog 44 1 1 := ⟨_, _, Try.underlying44, rfl, rfl, 0, by kernel_rfl⟩


theorem ro_keepO {α : Type} {z : Nat} {f : α → List Value} {β : Bs} {p : Option Addr} {l : List α} {L : List Res} (hO : l ≠ [] → ¬ β.O (pb p)) (h : RO z f β.w p l) : ∀ w, St β L w → RO z f w p l := fun w hw => by
  refine ⟨fun j r hr => ?_, h.nil, h.spot⟩
  refine cells_keepO (hO ?_) (Go.SL.Rows.cells h j r hr) w hw
  intro e; rw [e] at hr; simp at hr
theorem ro_drop {α : Type} {z : Nat} {f : α → List Value} {w : World} {p : Option Addr} {l : List α} {k c : Nat} (h : RO z f w p l) (hk : k ≤ l.length) (hc : l.length ≤ c) : RO z f w (slFrom p c k z) (l.drop k) := by
  have := rows_drop (k := k) (c := c) h (by simpa using hk) (by simpa using hc)
  unfold RO; rw [List.map_drop]; exact this
theorem drop_here {α : Type} {z : Nat} {f : α → List Value} {w : World} {p : Option Addr} {l : List α} {k c : Nat} {d : α} (h : RO z f w p l) (hk : k ≤ l.length) (hc : l.length ≤ c) {j : Nat} (hj : k + j < l.length) : Cells w ⟨pb (slFrom p c k z), po (slFrom p c k z) + j * z, none⟩ (f (l.getD (j + k) d)) := by
  have h1 := (ro_drop h hk hc).here d (j := j) (by rw [List.length_drop]; omega)
  rw [show (l.drop k).getD j d = l.getD (j + k) d by rw [List.getD_eq_getElem?_getD, List.getD_eq_getElem?_getD, List.getElem?_drop, Nat.add_comm]] at h1
  exact h1
theorem max_bd {a m : Int} (h1 : 0 ≤ a) (h2 : a ≤ 1023) (h3 : -64 ≤ m) (h4 : m ≤ 64) : 0 ≤ max 0 (a + m) ∧ max 0 (a + m) ≤ 1087 := by omega
theorem prod_bd {x y A B : Int} (h1 : 0 ≤ x) (h2 : x ≤ A) (h3 : 0 ≤ y) (h4 : y ≤ B) : 0 ≤ x * y ∧ x * y ≤ A * B := by
  refine ⟨Int.mul_nonneg h1 h3, ?_⟩
  exact Int.le_trans (Int.mul_le_mul_of_nonneg_right h2 h3) (Int.mul_le_mul_of_nonneg_left h4 (Int.le_trans h1 h2))
theorem sq_bd {a c m : Int} (h1 : 0 ≤ a) (h2 : a ≤ 1023) (h5 : 0 ≤ c) (h6 : c ≤ 1023) (h3 : -64 ≤ m) (h4 : m ≤ 64) : 0 ≤ max 0 (a + m) * max 0 (c + m) ∧ max 0 (a + m) * max 0 (c + m) ≤ 1181569 := by
  have q1 := max_bd h1 h2 h3 h4
  have q2 := max_bd h5 h6 h3 h4
  exact prod_bd (A := 1087) (B := 1087) q1.1 q1.2 q2.1 q2.2
theorem sum_bd {α : Type} {f : α → Int} {B : Int} : ∀ {l : List α}, (∀ x ∈ l, 0 ≤ f x ∧ f x ≤ B) → 0 ≤ (l.map f).sum ∧ (l.map f).sum ≤ B * (l.length : Int)
  | [], _ => by simp
  | x :: l, h => by
    have h1 := h x (by simp)
    have h2 := sum_bd (f := f) (B := B) (l := l) (fun y hy => h y (by simp [hy]))
    simp only [List.map_cons, List.sum_cons, List.length_cons]
    rw [show ((l.length + 1 : Nat) : Int) = (l.length : Int) + 1 by omega, Int.mul_add, Int.mul_one]
    omega
theorem sum_step {α : Type} {f : α → Int} {l : List α} {d : α} {j : Nat} (hj : j < l.length) : ((l.take (j + 1)).map f).sum = ((l.take j).map f).sum + f (l.getD j d) := by
  rw [take_at (getD_some (d := d) hj), List.map_append, List.sum_append]; simp
section
variable {m : Int} {l : List Sample}
theorem sumH_bd (h3 : -64 ≤ m) (h4 : m ≤ 64) (hs : ∀ x ∈ l, smpOk x) : 0 ≤ sumH m l ∧ sumH m l ≤ 1181569 * (l.length : Int) := sum_bd (fun x hx => by
  have q := hs x hx
  unfold smpOk at q
  exact sq_bd (by omega) (by omega) (by omega) (by omega) h3 h4)
theorem sumV_bd (h3 : -64 ≤ m) (h4 : m ≤ 64) (hs : ∀ x ∈ l, smpOk x) : 0 ≤ sumV m l ∧ sumV m l ≤ 1181569 * (l.length : Int) := sum_bd (fun x hx => by
  have q := hs x hx
  unfold smpOk at q
  exact sq_bd (by omega) (by omega) (by omega) (by omega) h3 h4)
theorem sumX_bd (h3 : -64 ≤ m) (h4 : m ≤ 64) (hs : ∀ x ∈ l, smpOk x) : 0 ≤ sumX m l ∧ sumX m l ≤ 1181569 * (l.length : Int) := sum_bd (fun x hx => by
  have q := hs x hx
  unfold smpOk at q
  exact sq_bd (by omega) (by omega) (by omega) (by omega) h3 h4)
theorem sumH_step {j : Nat} (hj : j < l.length) : sumH m (l.take (j + 1)) = sumH m (l.take j) + max 0 ((l.getD j zSm).h + m) * max 0 ((l.getD j zSm).h + m) := sum_step hj
theorem sumV_step {j : Nat} (hj : j < l.length) : sumV m (l.take (j + 1)) = sumV m (l.take j) + max 0 ((l.getD j zSm).v + m) * max 0 ((l.getD j zSm).v + m) := sum_step hj
theorem sumX_step {j : Nat} (hj : j < l.length) : sumX m (l.take (j + 1)) = sumX m (l.take j) + max 0 ((l.getD j zSm).h + m) * max 0 ((l.getD j zSm).v + m) := sum_step hj
end
theorem tdiv_nat (n : Nat) : ((n : Int)).tdiv 2 = ((n / 2 : Nat) : Int) := by rw [Int.tdiv_eq_ediv_of_nonneg (by omega)]; omega
def pairC (q : Int × Int) : List Value := [.int .i64 q.1, .int .i64 q.2]
def stQ (kind : Int) (l : List Sample) (m : Nat) : List (Int × Int) := ((List.range m).filter fun i => decide (stW kind l.length i ≠ 2)).map fun i => (stW kind l.length i, stD l i)
def stepCap (t : Train) (l : List Sample) (p : Option Addr) (c b d : Nat) (w : World) : Prop := Cells w ⟨b, 0, none⟩ [.slice p l.length c] ∧ Cells w ⟨d, 0, none⟩ [.int .i64 t.lam, .int .i64 t.kind, .int .i64 t.first, .int .i64 t.second, .int .i64 t.count] ∧ Smps w p l
section
variable {k v : Int} {l : List Sample} {i n : Nat}
theorem stW1 (h : k = 1) : stW k n i = 0 ∧ (0 : Int) ≠ 2 := ⟨if_pos h, by decide⟩
theorem stW2a (h : k = 2) (h2 : n / 2 ≤ i) : stW k n i = 1 ∧ (1 : Int) ≠ 2 := ⟨by unfold stW; rw [if_neg (by omega), if_pos h, if_neg (by omega), if_pos h2], by decide⟩
theorem stW2b (h : k = 2) (h2 : ¬ n / 2 ≤ i) (h3 : ¬ i + 1 = n / 2) : stW k n i = 0 ∧ (0 : Int) ≠ 2 := ⟨by unfold stW; rw [if_neg (by omega), if_pos h, if_neg h3, if_neg h2], by decide⟩
theorem stW3 (h : ¬ k = 1) (h2 : ¬ k = 2) (h3 : k = 3) : stW k n i = ((i : Int)).tmod 2 ∧ ((i : Int)).tmod 2 ≠ 2 := by
  rw [Int.tmod_eq_emod_of_nonneg (by omega)]
  refine ⟨?_, by omega⟩
  unfold stW; rw [if_neg h, if_neg h2]; omega
theorem stQ_yes (h : stW k l.length i = v ∧ v ≠ 2) : (stQ k l (i + 1)).length = (stQ k l i).length + 1 := by
  unfold stQ; rw [List.range_succ, List.filter_append, List.map_append]
  simp [h.1, h.2]
theorem stQ_no (h : k = 2) (h2 : i + 1 = l.length / 2) : (stQ k l (i + 1)).length = (stQ k l i).length := by
  have e : stW k l.length i = 2 := by unfold stW; rw [if_neg (by omega), if_pos h, if_pos h2]
  unfold stQ; rw [List.range_succ, List.filter_append, List.map_append]
  simp [e]
theorem stQ_pre {m : Nat} (h : i ≤ m) : ∃ r, stQ k l m = stQ k l i ++ r := by
  induction m with
  | zero => exact ⟨[], by rw [show i = 0 by omega]; simp⟩
  | succ m ih =>
    rcases Nat.lt_or_ge m i with q | q
    · exact ⟨[], by rw [show i = m + 1 by omega]; simp⟩
    · obtain ⟨r, hr⟩ := ih q
      refine ⟨r ++ ((List.filter (fun i => decide (stW k l.length i ≠ 2)) [m]).map fun i => (stW k l.length i, stD l i)), ?_⟩
      rw [← List.append_assoc, ← hr]
      unfold stQ; rw [List.range_succ, List.filter_append, List.map_append]
theorem stQ_at' {m : Nat} (hm : i < m) (h : stW k l.length i = v ∧ v ≠ 2) : (stQ k l m)[(stQ k l i).length]? = some (v, stD l i) := by
  obtain ⟨r, hr⟩ := stQ_pre (k := k) (l := l) (i := i + 1) (m := m) (by omega)
  have e : stQ k l (i + 1) = stQ k l i ++ [(v, stD l i)] := by
    unfold stQ; rw [List.range_succ, List.filter_append, List.map_append]
    simp [h.1, h.2]
  rw [hr, e, List.append_assoc]
  simp
theorem stQ_at (hm : i < l.length - 1) (hk : k = 1 ∨ k = 2 ∨ k = 3) (h : stW k l.length i = v ∧ v ≠ 2) : ((stQ k l (l.length - 1)).map pairC)[(stQ k l i).length]? = some [.int .i64 v, .int .i64 (stD l i)] := by
  rw [List.getElem?_map, stQ_at' hm h]; rfl
theorem stQ_lt (hm : i < l.length - 1) (h : stW k l.length i = v ∧ v ≠ 2) : (stQ k l i).length + 1 ≤ (stQ k l (l.length - 1)).length := by
  have := stQ_at' hm h
  have := (List.getElem?_eq_some_iff.1 this).1
  omega
end

set_option maxRecDepth 20000 in
theorem of_c (b : Nat) (l : List Sample) (p : Option Addr) (c : Nat) (m : Int) (w : World) (hm1 : -64 ≤ m) (hm2 : m ≤ 64) (hn : l.length ≤ 64) (hs : ∀ x ∈ l, smpOk x) (hl : Smps w p l) (hne : l ≠ [] → pb p ≠ b) (hi0 : (blk b (.cells #[.int .i64 0, .int .i64 0, .int .i64 0] 122)).inv w) (hf0 : ∀ k, (blk b (.cells #[.int .i64 0, .int .i64 0, .int .i64 0] 122)).fp k → k < w.heap.size) :
  Calls Try.prog 74 #[.pointer (some ⟨b, 0, none⟩), .slice p l.length c, .int .i64 m] w fun e w' => e = .returned (.tuple #[]) ∧ St ⟨w, (blk b (.cells #[.int .i64 0, .int .i64 0, .int .i64 0] 122)).fp⟩ [blk b (.cells #[.int .i64 (sumH m l), .int .i64 (sumV m l), .int .i64 (sumX m l)] 122)] w' := by
  have hk : ∀ L w2, St ⟨w, (blk b (.cells #[.int .i64 0, .int .i64 0, .int .i64 0] 122)).fp⟩ L w2 → Smps w2 p l := fun L w2 h2 => ro_keepO (β := ⟨w, (blk b (.cells #[.int .i64 0, .int .i64 0, .int .i64 0] 122)).fp⟩) (by intro h3; exact hne h3) hl w2 h2
  refine enterO (vs := [_, _, _]) (env := [(0, _), (1, _), (2, _)]) (St.one hi0 hf0) Try.func74 rfl rfl rfl rfl ?_
  refine VC.seq ?_
  refine VC.reg (VO.l (LO.mv (.r rfl)) rfl <| VO.l (LO.len S28 (.r rfl) rfl) rfl <| VO.l (LO.mv (.r rfl)) rfl <| VO.nil ?_)
  refine VE.seqN ?_
  refine VC.block ?_
  refine VC.loopK (α := Nat) 1 (fun gx => [(12, .int .i64 (gx : Nat))]) [(0, _), (2, _), (10, _), (11, _)] (fun gx => [blk b (.cells #[.int .i64 (sumH m (l.take gx)), .int .i64 (sumV m (l.take gx)), .int .i64 (sumX m (l.take gx))] 122)]) (fun gx => gx ≤ l.length) (fun gx => l.length - gx) 0 (by exact Nat.zero_le _) (.cons rfl (.cons rfl (.cons rfl (.cons rfl (.cons rfl .nil))))) (fun _ h => h) ?_
  rintro j hj
  refine VC.seq ?_
  refine VC.reg (VO.l (LO.lt (.r rfl) (.r rfl)) rfl <| VO.nil ?_)
  refine VE.seqN ?_
  refine VC.seq ?_
  refine VC.cond rfl (fun h1 => ?_) (fun h1 => ?_)
  ·
    refine VC.skip (VE.seqN ?_)
    refine VC.seq ?_
    refine VC.block ?_
    refine VC.seq ?_
    refine VC.reg (VO.l (LO.ixs S28 N44 hl.sm (.r rfl) (.r rfl) rfl (by omega)) rfl <| VO.l (LO.lda (vs := [_, _, _, _]) A44 (.r rfl) (fun w hw => (hk _ w hw).here zSm (j := j) (by omega)) rfl) rfl <| VO.h rfl <| HO.alloc (C := #[_, _, _, _]) Z44 rfl fun b2 => VO.h0 <| HO.st 0 (vs := [_, _, _, _]) (C' := [_, _, _, _]) (L' := [_, _]) N44 rfl rfl rfl rfl rfl rfl rfl rfl <| VO.nil ?_)
    refine VE.seqN ?_
    refine VC.seq ?_
    have q1 := hs _ (getD_mem (d := zSm) (show j < l.length by omega))
    unfold smpOk at q1
    refine VC.draw mixed (LL.l (LO.fa (r := 0) F44_0 (.r rfl) rfl) rfl <| LL.l (LO.ld O3 (.r rfl) (fun _ hw => cells_at hw 0 rfl ⟨_, rfl⟩)) rfl <| LL.l (LO.mv (.r rfl)) rfl <| LL.l (LO.add (.r rfl) (.r rfl) (wi (by omega) (by omega))) rfl <| LL.l (LO.max (.r rfl) (.r rfl)) rfl <| LL.l (LO.fa (r := 2) F44_2 (.r rfl) rfl) rfl <| LL.l (LO.ld O3 (.r rfl) (fun _ hw => cells_at hw 0 rfl ⟨_, rfl⟩)) rfl <| LL.l (LO.mv (.r rfl)) rfl <| LL.l (LO.add (.r rfl) (.r rfl) (wi (by omega) (by omega))) rfl <| LL.l (LO.max (.r rfl) (.r rfl)) rfl <| LL.l (LO.as (.r rfl)) rfl <| LL.l (LO.as (.r rfl)) rfl <| LL.nil) (by kernel_rfl) ?_
    refine VE.seqN ?_
    have q2 := sq_bd (a := (l.getD j zSm).h) (c := (l.getD j zSm).h) (m := m) (by omega) (by omega) (by omega) (by omega) hm1 hm2
    have q3 := sq_bd (a := (l.getD j zSm).v) (c := (l.getD j zSm).v) (m := m) (by omega) (by omega) (by omega) (by omega) hm1 hm2
    have q4 := sq_bd (a := (l.getD j zSm).h) (c := (l.getD j zSm).v) (m := m) (by omega) (by omega) (by omega) (by omega) hm1 hm2
    have r1 := sumH_bd (m := m) (l := l.take j) hm1 hm2 (fun x hx => hs x (List.mem_of_mem_take hx))
    have r2 := sumV_bd (m := m) (l := l.take j) hm1 hm2 (fun x hx => hs x (List.mem_of_mem_take hx))
    have r3 := sumX_bd (m := m) (l := l.take j) hm1 hm2 (fun x hx => hs x (List.mem_of_mem_take hx))
    rw [List.length_take] at r1 r2 r3
    refine VC.drawH [[0, 1], [0], [0], [0]] [some 0, some 1, some 2, some 0, some 0, some 0, some 0, some 0, some 0, some 0, some 0, some 0, some 0, some 0, some 0, some 1, some 1, some 1, some 1, some 0, some 0, some 0, some 0, some 2, some 2, some 2, some 2, some 0, some 0, none, some 1, some 1, none, some 2, some 2, none] mixed (by kernel_rfl) rfl (LX.l (fun _ hJ => LO.mv (.r rfl)) rfl <| LX.l (fun _ hJ => LO.mv (.r rfl)) rfl <| LX.l (fun _ hJ => LO.mv (.r rfl)) rfl <| LX.l (fun _ hJ => LO.mv (.r rfl)) rfl <| LX.l (fun _ hJ => LO.nc (.r rfl)) rfl <| LX.l (fun _ hJ => LO.ixa (j := 0) (r := 0) Try.underlying122 N3 (.r rfl) (.r rfl) rfl (by decide) rfl) rfl <| LX.l (fun _ hJ => LO.ld O3 (.r rfl) (fun _ hw => cells_at (hJ _ hw) 1 rfl ⟨_, rfl⟩)) rfl <| LX.l (fun _ hJ => LO.mv (.r rfl)) rfl <| LX.l (fun _ hJ => LO.mv (.r rfl)) rfl <| LX.l (fun _ hJ => LO.mul (.r rfl) (.r rfl) (wi (by omega) (by omega))) rfl <| LX.l (fun _ hJ => LO.add (.r rfl) (.r rfl) (wi (by omega) (by omega))) rfl <| LX.l (fun _ hJ => LO.mv (.r rfl)) rfl <| LX.l (fun _ hJ => LO.nc (.r rfl)) rfl <| LX.l (fun _ hJ => LO.ixa (j := 1) (r := 1) Try.underlying122 N3 (.r rfl) (.r rfl) rfl (by decide) rfl) rfl <| LX.l (fun _ hJ => LO.ld O3 (.r rfl) (fun _ hw => cells_at (hJ _ hw) 1 rfl ⟨_, rfl⟩)) rfl <| LX.l (fun _ hJ => LO.mv (.r rfl)) rfl <| LX.l (fun _ hJ => LO.mv (.r rfl)) rfl <| LX.l (fun _ hJ => LO.mul (.r rfl) (.r rfl) (wi (by omega) (by omega))) rfl <| LX.l (fun _ hJ => LO.add (.r rfl) (.r rfl) (wi (by omega) (by omega))) rfl <| LX.l (fun _ hJ => LO.mv (.r rfl)) rfl <| LX.l (fun _ hJ => LO.nc (.r rfl)) rfl <| LX.l (fun _ hJ => LO.ixa (j := 2) (r := 2) Try.underlying122 N3 (.r rfl) (.r rfl) rfl (by decide) rfl) rfl <| LX.l (fun _ hJ => LO.ld O3 (.r rfl) (fun _ hw => cells_at (hJ _ hw) 1 rfl ⟨_, rfl⟩)) rfl <| LX.l (fun _ hJ => LO.mv (.r rfl)) rfl <| LX.l (fun _ hJ => LO.mv (.r rfl)) rfl <| LX.l (fun _ hJ => LO.mul (.r rfl) (.r rfl) (wi (by omega) (by omega))) rfl <| LX.l (fun _ hJ => LO.add (.r rfl) (.r rfl) (wi (by omega) (by omega))) rfl <| LX.l (fun _ hJ => LO.nc (.r rfl)) rfl <| LX.l (fun _ hJ => LO.ixa (j := 0) (r := 0) Try.underlying122 N3 (.r rfl) (.r rfl) rfl (by decide) rfl) rfl <| LX.s <| LX.l (fun _ hJ => LO.nc (.r rfl)) rfl <| LX.l (fun _ hJ => LO.ixa (j := 1) (r := 1) Try.underlying122 N3 (.r rfl) (.r rfl) rfl (by decide) rfl) rfl <| LX.s <| LX.l (fun _ hJ => LO.nc (.r rfl)) rfl <| LX.l (fun _ hJ => LO.ixa (j := 2) (r := 2) Try.underlying122 N3 (.r rfl) (.r rfl) rfl (by decide) rfl) rfl <| LX.s <| LX.nil) (HX.s <| HX.s <| HX.s <| HX.s <| HX.s <| HX.s <| HX.s <| HX.s <| HX.s <| HX.s <| HX.s <| HX.s <| HX.s <| HX.s <| HX.s <| HX.s <| HX.s <| HX.s <| HX.s <| HX.s <| HX.s <| HX.s <| HX.s <| HX.s <| HX.s <| HX.s <| HX.s <| HX.s <| HX.s <| HX.h0 <| HO.st 1 (vs := [_]) (C' := [_, _, _]) (L' := [_, _]) N3 rfl rfl rfl rfl rfl rfl rfl rfl <| ⟨fun _ hw => hw.sel [0] rfl, HX.s <| HX.s <| HX.h0 <| HO.st 1 (vs := [_]) (C' := [_, _, _]) (L' := [_, _]) N3 rfl rfl rfl rfl rfl rfl rfl rfl <| ⟨fun _ hw => hw.sel [0] rfl, HX.s <| HX.s <| HX.h0 <| HO.st 1 (vs := [_]) (C' := [_, _, _]) (L' := [_, _]) N3 rfl rfl rfl rfl rfl rfl rfl rfl <| ⟨fun _ hw => hw.sel [0] rfl, HX.nil ?_⟩⟩⟩)
    refine VE.inN (VE.seqN ?_)
    refine VC.reg (VO.l (LO.add (.r rfl) (.r rfl) (wi (by omega) (by omega))) rfl <| VO.l (LO.mv (.r rfl)) rfl <| VO.nil ?_)
    refine VE.thenN fun a w ha hw => ⟨j + 1, (by omega), (by omega), ha.sub (.cons rfl (.cons rfl (.cons rfl (.cons rfl (.cons rfl .nil))))), (by rw [sumH_step (by omega), sumV_step (by omega), sumX_step (by omega)]; exact hw.sel [1] rfl)⟩
  ·
    refine VC.exit (VE.thenX (VE.thenX (VE.inX (VE.resN (vs := []) rfl trivial (fun w hw => ?_)))))
    exact ⟨rfl, by rw [show l = l.take j from (List.take_of_length_le (by omega)).symm]; simpa using hw⟩

set_option maxRecDepth 20000 in
theorem shareD_c (a b : Int) (w : World) (ha1 : 0 ≤ a) (ha2 : a ≤ 100000000) (ha3 : 1000 * a * a ≤ 9000000000000000000) (ha4 : 0 ≤ 1000 * a * a) (hb1 : 0 ≤ b) :
  Calls Try.prog 75 #[.int .i64 a, .int .i64 b, .func (.func 68) #[] #[], .int .i64 0] w fun e w' => e = .returned (.int .i64 (shareD a b)) ∧ St (bs w) [] w' := by
  refine enter (vs := [_, _, _, _]) (env := [(0, _), (1, _), (2, _), (3, _)]) Try.func75 rfl rfl rfl rfl ?_
  refine VC.seq ?_
  refine VC.reg (VO.l (LO.as (.r rfl)) rfl <| VO.nil ?_)
  refine VE.seqN ?_
  refine VC.seq ?_
  refine VC.seq ?_
  refine VC.reg (VO.l (LO.mv (.r rfl)) rfl <| VO.l (LO.eq (.r rfl) (.r rfl)) rfl <| VO.nil ?_)
  refine VE.seqN ?_
  refine VC.cond rfl (fun h1 => ?_) (fun h1 => ?_)
  ·
    refine VC.seq ?_
    refine VC.reg (VO.l (LO.mv (.r rfl)) rfl <| VO.l (LO.as (.r rfl)) rfl <| VO.nil ?_)
    refine VE.seqN ?_
    refine VC.ret (VE.thenR (VE.res (vs := [_]) rfl ⟨rfl, trivial⟩ (fun w hw => ?_)))
    refine ⟨?_, hw.nil⟩
    simp only [resV]
    first | (rw [shareD, if_pos h1]; done) | (rw [shareD, if_neg h1]; done)
  ·
    refine VC.skip (VE.seqN ?_)
    refine VC.seq ?_
    refine VC.reg (VO.l (LO.mv (.r rfl)) rfl <| VO.l (LO.mv (.r rfl)) rfl <| VO.l (LO.mul (.r rfl) (.r rfl) (wi (by omega) (by omega))) rfl <| VO.l (LO.mv (.r rfl)) rfl <| VO.l (LO.mul (.r rfl) (.r rfl) (wi (by omega) (by omega))) rfl <| VO.l (LO.mv (.r rfl)) rfl <| VO.l (LO.callv (first := []) (cap := []) (xs := [_, _]) (vs := [_, _]) (.r rfl) C68 ⟨(.r rfl), (.r rfl), trivial⟩ (fun w _ => down_c _ _ (by omega) (by omega) (by omega) w)) rfl <| VO.l (LO.min (.r rfl) (.r rfl)) rfl <| VO.l (LO.as (.r rfl)) rfl <| VO.nil ?_)
    refine VE.seqN ?_
    refine VC.ret (VE.res (vs := [_]) rfl ⟨rfl, trivial⟩ (fun w hw => ?_))
    refine ⟨?_, hw.nil⟩
    simp only [resV]
    first | (rw [shareD, if_pos h1]; done) | (rw [shareD, if_neg h1]; done)

set_option maxRecDepth 20000 in
theorem shareU_c (a b : Int) (w : World) (ha1 : 0 ≤ a) (ha2 : a ≤ 100000000) (ha3 : 1000 * a * a ≤ 9000000000000000000) (ha4 : 0 ≤ 1000 * a * a) (hb1 : 0 ≤ b) :
  Calls Try.prog 75 #[.int .i64 a, .int .i64 b, .func (.func 69) #[] #[], .int .i64 1000] w fun e w' => e = .returned (.int .i64 (shareU a b)) ∧ St (bs w) [] w' := by
  refine enter (vs := [_, _, _, _]) (env := [(0, _), (1, _), (2, _), (3, _)]) Try.func75 rfl rfl rfl rfl ?_
  refine VC.seq ?_
  refine VC.reg (VO.l (LO.as (.r rfl)) rfl <| VO.nil ?_)
  refine VE.seqN ?_
  refine VC.seq ?_
  refine VC.seq ?_
  refine VC.reg (VO.l (LO.mv (.r rfl)) rfl <| VO.l (LO.eq (.r rfl) (.r rfl)) rfl <| VO.nil ?_)
  refine VE.seqN ?_
  refine VC.cond rfl (fun h1 => ?_) (fun h1 => ?_)
  ·
    refine VC.seq ?_
    refine VC.reg (VO.l (LO.mv (.r rfl)) rfl <| VO.l (LO.as (.r rfl)) rfl <| VO.nil ?_)
    refine VE.seqN ?_
    refine VC.ret (VE.thenR (VE.res (vs := [_]) rfl ⟨rfl, trivial⟩ (fun w hw => ?_)))
    refine ⟨?_, hw.nil⟩
    simp only [resV]
    first | (rw [shareU, if_pos h1]; done) | (rw [shareU, if_neg h1]; done)
  ·
    refine VC.skip (VE.seqN ?_)
    refine VC.seq ?_
    refine VC.reg (VO.l (LO.mv (.r rfl)) rfl <| VO.l (LO.mv (.r rfl)) rfl <| VO.l (LO.mul (.r rfl) (.r rfl) (wi (by omega) (by omega))) rfl <| VO.l (LO.mv (.r rfl)) rfl <| VO.l (LO.mul (.r rfl) (.r rfl) (wi (by omega) (by omega))) rfl <| VO.l (LO.mv (.r rfl)) rfl <| VO.l (LO.callv (first := []) (cap := []) (xs := [_, _]) (vs := [_, _]) (.r rfl) C69 ⟨(.r rfl), (.r rfl), trivial⟩ (fun w _ => up_c _ _ (by omega) (by omega) (by omega) w)) rfl <| VO.l (LO.min (.r rfl) (.r rfl)) rfl <| VO.l (LO.as (.r rfl)) rfl <| VO.nil ?_)
    refine VE.seqN ?_
    refine VC.ret (VE.res (vs := [_]) rfl ⟨rfl, trivial⟩ (fun w hw => ?_))
    refine ⟨?_, hw.nil⟩
    simp only [resV]
    first | (rw [shareU, if_pos h1]; done) | (rw [shareU, if_neg h1]; done)

set_option maxRecDepth 20000 in
theorem steps_c (t : Train) (l : List Sample) (p : Option Addr) (c : Nat) (w : World) :
  Calls Try.prog 76 #[trainV t, .slice p l.length c] w fun e w' => ∃ q : Nat × Nat, True ∧ e = .returned (.func (.func 88) #[] #[.pointer (some ⟨q.1, 0, none⟩), .pointer (some ⟨q.2, 0, none⟩)]) ∧ St (bs w) [blk q.1 (.cells #[.slice p l.length c] 28), blk q.2 (.cells #[.int .i64 t.lam, .int .i64 t.kind, .int .i64 t.first, .int .i64 t.second, .int .i64 t.count] 23)] w' := by
  refine enter (vs := [_, _]) (env := [(0, _), (1, _)]) Try.func76 rfl rfl rfl rfl ?_
  refine VC.seq ?_
  refine VC.reg (VO.h rfl <| HO.box (C := #[_, _, _, _, _]) rfl rfl fun b1 => VO.h rfl <| HO.box (C := #[_]) rfl rfl fun b2 => VO.l (LO.as (.r rfl)) rfl <| VO.nil ?_)
  refine VE.seqN ?_
  refine VC.seq ?_
  refine VC.reg (VO.h rfl <| HO.lo (LO.mf (cap := [_, _]) ⟨(.r rfl), (.r rfl), trivial⟩) <| VO.h rfl <| HO.lo (LO.as (.r rfl)) <| VO.nil ?_)
  refine VE.seqN ?_
  refine VC.ret (VE.res (vs := [_]) rfl ⟨rfl, trivial⟩ (fun w hw => ?_))
  exact ⟨(b2, b1), trivial, rfl, hw⟩

set_option maxRecDepth 20000 in
theorem steps_seq (t : Train) (l : List Sample) (p : Option Addr) (c b d : Nat) (hn : l.length ≤ 64) (hn1 : 1 ≤ l.length) (hc : l.length ≤ c) (hk : kndOk t.kind) (hs : ∀ x ∈ l, smpOk x) :
  SeqC Try.prog 88 [.pointer (some ⟨b, 0, none⟩), .pointer (some ⟨d, 0, none⟩)] (stepCap t l p c b d) ((stQ t.kind l (l.length - 1)).map pairC) := by
  intro l0 J Jx w r hCap hyl hY hi0 hf0
  have hs0 : SlSome p l.length := (hCap _ _ _ hY hi0).2.2.sm
  have hs1 : SlSome (slFrom p c 1 4) (l.length - 1) := by have := (ro_drop (k := 1) (hCap _ _ _ hY hi0).2.2 (by omega) hc).sm; rwa [List.length_drop] at this
  unfold kndOk at hk
  have hd2 := tdiv_nat l.length
  refine enterO (vs := [_, _, _]) (env := [(0, _), (1, _), (2, _)]) (St.one hi0 hf0) Try.func88 rfl rfl rfl rfl ?_
  refine VC.seq ?_
  refine VC.reg (VO.l (LO.ld O28 (.r rfl) (fun _ hw => sub_cells (off := 0) (hCap _ _ _ hY (St.inv hw 0 _ rfl)).1 ⟨_, rfl⟩)) rfl <| VO.l (LO.sl (l := 1) S28 N44 (.r rfl) (.r rfl) rfl (by omega)) rfl <| VO.l (LO.len S28 (.r rfl) rfl) rfl <| VO.l (LO.mv (.r rfl)) rfl <| VO.nil ?_)
  refine VE.seqN ?_
  refine VC.block ?_
  refine VC.loopK (α := Nat × Res) 1 (fun x => [(10, .int .i64 (x.1 : Nat))]) [(0, _), (1, _), (2, _), (8, _), (9, _)] (fun x => [x.2]) (fun x => x.1 ≤ l.length - 1 ∧ J ((stQ t.kind l x.1).length) x.2) (fun x => l.length - 1 - x.1) (0, r) (by exact ⟨by omega, hY⟩) (.cons rfl (.cons rfl (.cons rfl (.cons rfl (.cons rfl (.cons rfl .nil)))))) (fun _ h => h) ?_
  rintro ⟨i, r⟩ ⟨hi, hY⟩
  show VC _ _ _ _ _ ([(10, .int .i64 (i : Nat))] ++ _) ([r] ++ _) _ _
  refine VC.seq ?_
  refine VC.reg (VO.l (LO.lt (.r rfl) (.r rfl)) rfl <| VO.nil ?_)
  refine VE.seqN ?_
  refine VC.seq ?_
  refine VC.cond rfl (fun h1 => ?_) (fun h1 => ?_)
  ·
    refine VC.skip (VE.seqN ?_)
    refine VC.seq ?_
    refine VC.block ?_
    refine VC.seq ?_
    refine VC.reg (VO.l (LO.mv (.r rfl)) rfl <| VO.l (LO.ixs S28 N44 hs1 (.r rfl) (.r rfl) rfl (by omega)) rfl <| VO.l (LO.lda (vs := [_, _, _, _]) A44 (.r rfl) (fun w hw => drop_here (d := zSm) (k := 1) (hCap _ _ _ hY (St.inv hw 0 _ rfl)).2.2 (by omega) hc (j := i) (by omega)) rfl) rfl <| VO.h rfl <| HO.alloc (C := #[_, _, _, _]) Z44 rfl fun b2 => VO.l (LO.as (.r rfl)) rfl <| VO.h0 <| HO.st 0 (vs := [_, _, _, _]) (C' := [_, _, _, _]) (L' := [_, _]) N44 rfl rfl rfl rfl rfl rfl rfl rfl <| VO.nil ?_)
    refine VE.seqN ?_
    refine VC.seq ?_
    refine VC.reg (VO.l (LO.as (.r rfl)) rfl <| VO.nil ?_)
    refine VE.seqN ?_
    refine VC.seq ?_
    refine VC.seq ?_
    refine VC.reg (VO.l (LO.fa (r := 1) F23_1 (.r rfl) rfl) rfl <| VO.l (LO.ld O3 (.r rfl) (fun _ hw => sub_cells (off := 1) (hCap _ _ _ hY (St.inv hw 1 _ rfl)).2.1 ⟨_, rfl⟩)) rfl <| VO.nil ?_)
    refine VE.seqN ?_
    refine VC.block ?_
    refine VC.seq ?_
    refine VC.reg (VO.l (LO.eq (.r rfl) (.r rfl)) rfl <| VO.l (LO.as (.r rfl)) rfl <| VO.nil ?_)
    refine VE.seqN ?_
    refine VC.cond rfl (fun h2 => ?_) (fun h2 => ?_)
    ·
      refine VC.seq ?_
      refine VC.seq ?_
      refine VC.reg (VO.l (LO.mv (.r rfl)) rfl <| VO.l (LO.add (.r rfl) (.r rfl) (wi (by omega) (by omega))) rfl <| VO.l (LO.ld O28 (.r rfl) (fun _ hw => sub_cells (off := 0) (hCap _ _ _ hY (St.inv hw 1 _ rfl)).1 ⟨_, rfl⟩)) rfl <| VO.l (LO.len S28 (.r rfl) rfl) rfl <| VO.l (LO.quo (.r rfl) (.r rfl) (by omega) (wi (by omega) (by omega))) rfl <| VO.l (LO.eq (.r rfl) (.r rfl)) rfl <| VO.nil ?_)
      refine VE.seqN ?_
      refine VC.cond rfl (fun h3 => ?_) (fun h3 => ?_)
      ·
        refine VC.exit (VE.thenX (VE.outX rfl (VE.thenX (VE.inX (VE.seqN ?_)))))
        refine VC.reg (VO.l (LO.add (.r rfl) (.r rfl) (wi (by omega) (by omega))) rfl <| VO.l (LO.mv (.r rfl)) rfl <| VO.nil ?_)
        refine VE.thenN fun a w ha hw => ⟨(i + 1, _), ⟨by omega, by first | (rw [stQ_yes (by first | exact stW1 (by omega) | exact stW2a (by omega) (by omega) | exact stW2b (by omega) (by omega) (by omega) | exact stW3 (by omega) (by omega) (by omega))]; exact hp) | (rw [stQ_no (by omega) (by omega)]; exact hY)⟩, by omega, ha.sub (.cons rfl (.cons rfl (.cons rfl (.cons rfl (.cons rfl (.cons rfl .nil)))))), hw.sel [1] rfl⟩
      ·
        refine VC.skip (VE.seqN ?_)
        refine VC.seq ?_
        refine VC.reg (VO.l (LO.mv (.r rfl)) rfl <| VO.l (LO.ld O28 (.r rfl) (fun _ hw => sub_cells (off := 0) (hCap _ _ _ hY (St.inv hw 1 _ rfl)).1 ⟨_, rfl⟩)) rfl <| VO.l (LO.len S28 (.r rfl) rfl) rfl <| VO.l (LO.quo (.r rfl) (.r rfl) (by omega) (wi (by omega) (by omega))) rfl <| VO.l (LO.ge (.r rfl) (.r rfl)) rfl <| VO.nil ?_)
        refine VE.seqN ?_
        refine VC.cond rfl (fun h4 => ?_) (fun h4 => ?_)
        ·
          refine VC.reg (VO.l (LO.as (.r rfl)) rfl <| VO.nil ?_)
          refine VE.inN (VE.seqN ?_)
          refine VC.seq ?_
          have q1 := hs _ (getD_mem (d := zSm) (show i < l.length by omega))
          have q2 := hs _ (getD_mem (d := zSm) (show i + 1 < l.length by omega))
          unfold smpOk at q1 q2
          have hlt : i < l.length - 1 := by omega
          refine VC.drawH [[0, 1], [0], [0]] [some 0, some 0, some 0, some 0, some 0, some 0, some 0, some 0, some 0, some 0, some 0, none, none] mixed (by kernel_rfl) rfl (LX.l (fun _ hJ => LO.mv (.r rfl)) rfl <| LX.l (fun _ hJ => LO.mv (.r rfl)) rfl <| LX.l (fun _ hJ => LO.fa (r := 1) F44_1 (.r rfl) rfl) rfl <| LX.l (fun _ hJ => LO.ld O3 (.r rfl) (fun _ hw => cells_at (hJ _ hw) 0 rfl ⟨_, rfl⟩)) rfl <| LX.l (fun _ hJ => LO.ld O28 (.r rfl) (fun _ hw => sub_cells (off := 0) (hCap _ _ _ hY (St.inv (hJ _ hw) 1 _ rfl)).1 ⟨_, rfl⟩)) rfl <| LX.l (fun _ hJ => LO.mv (.r rfl)) rfl <| LX.l (fun _ hJ => LO.ixs S28 N44 hs0 (.r rfl) (.r rfl) rfl (by omega)) rfl <| LX.l (fun _ hJ => LO.fa F44_1 (.r rfl) rfl) rfl <| LX.l (fun _ hJ => LO.ld O3 (.r rfl) (fun w hw => cells_part (off := 1) ((hCap _ _ _ hY (St.inv (hJ _ hw) 1 _ rfl)).2.2.here zSm (j := i) (by omega)) ⟨_, rfl⟩)) rfl <| LX.l (fun _ hJ => LO.sub (.r rfl) (.r rfl) (wi (by omega) (by omega))) rfl <| LX.l (fun _ hJ => LO.call (xs := [_]) (vs := [_]) C46 ⟨(.r rfl), trivial⟩ (fun w _ => wrap_c _ w)) rfl <| LX.s <| LX.s <| LX.nil) (HX.s <| HX.s <| HX.s <| HX.s <| HX.s <| HX.s <| HX.s <| HX.s <| HX.s <| HX.s <| HX.s <| HX.h rfl <| HO.yield 1 (r := r) (vs := [_, _]) (post := fun b r' => if b = true then J ((stQ t.kind l i).length + 1) r' else Jx ((stQ t.kind l i).length + 1) r') (.r rfl) ⟨.r rfl, .r rfl, trivial⟩ rfl (fun w2 hi hr hs => hyl ((stQ t.kind l i).length) _ (by first | exact stQ_at hlt hk (by first | exact stW1 (by omega) | exact stW2a (by omega) (by omega) | exact stW2b (by omega) (by omega) (by omega) | exact stW3 (by omega) (by omega) (by omega))) r w2 hY hi hr hs) fun b1 r1 hp => ⟨fun _ hw => hw.sel [0] rfl, HX.h rfl <| HO.lo (LO.not (.r rfl)) <| ⟨fun _ hw => hw.sel [0] rfl, HX.nil ?_⟩⟩)
          refine VE.seqN ?_
          refine VC.cond rfl (fun h4 => ?_) (fun h4 => ?_)
          ·
            rw [if_neg h4] at hp
            have hE : J ((stQ t.kind l (l.length - 1)).map pairC).length r1 ∨ ∃ n, n ≤ ((stQ t.kind l (l.length - 1)).map pairC).length ∧ Jx n r1 := .inr ⟨(stQ t.kind l i).length + 1, by rw [List.length_map]; exact stQ_lt hlt (by first | exact stW1 (by omega) | exact stW2a (by omega) (by omega) | exact stW2b (by omega) (by omega) (by omega) | exact stW3 (by omega) (by omega) (by omega)), hp⟩
            refine VC.ret (VE.inR (VE.thenR (VE.thenR (VE.inR (VE.res (vs := []) rfl trivial (fun w hw => ?_))))))
            first | exact ⟨rfl, seq_end hE hw⟩ | exact ⟨rfl, seq_end hE (hw.sel [1] rfl)⟩
          ·
            rw [if_pos (by simpa using h4)] at hp
            refine VC.skip (VE.inN (VE.seqN ?_))
            refine VC.reg (VO.l (LO.add (.r rfl) (.r rfl) (wi (by omega) (by omega))) rfl <| VO.l (LO.mv (.r rfl)) rfl <| VO.nil ?_)
            refine VE.thenN fun a w ha hw => ⟨(i + 1, _), ⟨by omega, by first | (rw [stQ_yes (by first | exact stW1 (by omega) | exact stW2a (by omega) (by omega) | exact stW2b (by omega) (by omega) (by omega) | exact stW3 (by omega) (by omega) (by omega))]; exact hp) | (rw [stQ_no (by omega) (by omega)]; exact hY)⟩, by omega, ha.sub (.cons rfl (.cons rfl (.cons rfl (.cons rfl (.cons rfl (.cons rfl .nil)))))), hw.sel [1] rfl⟩
        ·
          refine VC.skip (VE.inN (VE.seqN ?_))
          refine VC.seq ?_
          have q1 := hs _ (getD_mem (d := zSm) (show i < l.length by omega))
          have q2 := hs _ (getD_mem (d := zSm) (show i + 1 < l.length by omega))
          unfold smpOk at q1 q2
          have hlt : i < l.length - 1 := by omega
          refine VC.drawH [[0, 1], [0], [0]] [some 0, some 0, some 0, some 0, some 0, some 0, some 0, some 0, some 0, some 0, some 0, none, none] mixed (by kernel_rfl) rfl (LX.l (fun _ hJ => LO.mv (.r rfl)) rfl <| LX.l (fun _ hJ => LO.mv (.r rfl)) rfl <| LX.l (fun _ hJ => LO.fa (r := 1) F44_1 (.r rfl) rfl) rfl <| LX.l (fun _ hJ => LO.ld O3 (.r rfl) (fun _ hw => cells_at (hJ _ hw) 0 rfl ⟨_, rfl⟩)) rfl <| LX.l (fun _ hJ => LO.ld O28 (.r rfl) (fun _ hw => sub_cells (off := 0) (hCap _ _ _ hY (St.inv (hJ _ hw) 1 _ rfl)).1 ⟨_, rfl⟩)) rfl <| LX.l (fun _ hJ => LO.mv (.r rfl)) rfl <| LX.l (fun _ hJ => LO.ixs S28 N44 hs0 (.r rfl) (.r rfl) rfl (by omega)) rfl <| LX.l (fun _ hJ => LO.fa F44_1 (.r rfl) rfl) rfl <| LX.l (fun _ hJ => LO.ld O3 (.r rfl) (fun w hw => cells_part (off := 1) ((hCap _ _ _ hY (St.inv (hJ _ hw) 1 _ rfl)).2.2.here zSm (j := i) (by omega)) ⟨_, rfl⟩)) rfl <| LX.l (fun _ hJ => LO.sub (.r rfl) (.r rfl) (wi (by omega) (by omega))) rfl <| LX.l (fun _ hJ => LO.call (xs := [_]) (vs := [_]) C46 ⟨(.r rfl), trivial⟩ (fun w _ => wrap_c _ w)) rfl <| LX.s <| LX.s <| LX.nil) (HX.s <| HX.s <| HX.s <| HX.s <| HX.s <| HX.s <| HX.s <| HX.s <| HX.s <| HX.s <| HX.s <| HX.h rfl <| HO.yield 1 (r := r) (vs := [_, _]) (post := fun b r' => if b = true then J ((stQ t.kind l i).length + 1) r' else Jx ((stQ t.kind l i).length + 1) r') (.r rfl) ⟨.r rfl, .r rfl, trivial⟩ rfl (fun w2 hi hr hs => hyl ((stQ t.kind l i).length) _ (by first | exact stQ_at hlt hk (by first | exact stW1 (by omega) | exact stW2a (by omega) (by omega) | exact stW2b (by omega) (by omega) (by omega) | exact stW3 (by omega) (by omega) (by omega))) r w2 hY hi hr hs) fun b1 r1 hp => ⟨fun _ hw => hw.sel [0] rfl, HX.h rfl <| HO.lo (LO.not (.r rfl)) <| ⟨fun _ hw => hw.sel [0] rfl, HX.nil ?_⟩⟩)
          refine VE.seqN ?_
          refine VC.cond rfl (fun h4 => ?_) (fun h4 => ?_)
          ·
            rw [if_neg h4] at hp
            have hE : J ((stQ t.kind l (l.length - 1)).map pairC).length r1 ∨ ∃ n, n ≤ ((stQ t.kind l (l.length - 1)).map pairC).length ∧ Jx n r1 := .inr ⟨(stQ t.kind l i).length + 1, by rw [List.length_map]; exact stQ_lt hlt (by first | exact stW1 (by omega) | exact stW2a (by omega) (by omega) | exact stW2b (by omega) (by omega) (by omega) | exact stW3 (by omega) (by omega) (by omega)), hp⟩
            refine VC.ret (VE.inR (VE.thenR (VE.thenR (VE.inR (VE.res (vs := []) rfl trivial (fun w hw => ?_))))))
            first | exact ⟨rfl, seq_end hE hw⟩ | exact ⟨rfl, seq_end hE (hw.sel [1] rfl)⟩
          ·
            rw [if_pos (by simpa using h4)] at hp
            refine VC.skip (VE.inN (VE.seqN ?_))
            refine VC.reg (VO.l (LO.add (.r rfl) (.r rfl) (wi (by omega) (by omega))) rfl <| VO.l (LO.mv (.r rfl)) rfl <| VO.nil ?_)
            refine VE.thenN fun a w ha hw => ⟨(i + 1, _), ⟨by omega, by first | (rw [stQ_yes (by first | exact stW1 (by omega) | exact stW2a (by omega) (by omega) | exact stW2b (by omega) (by omega) (by omega) | exact stW3 (by omega) (by omega) (by omega))]; exact hp) | (rw [stQ_no (by omega) (by omega)]; exact hY)⟩, by omega, ha.sub (.cons rfl (.cons rfl (.cons rfl (.cons rfl (.cons rfl (.cons rfl .nil)))))), hw.sel [1] rfl⟩
    ·
      refine VC.seq ?_
      refine VC.reg (VO.l (LO.eq (.r rfl) (.r rfl)) rfl <| VO.l (LO.as (.r rfl)) rfl <| VO.nil ?_)
      refine VE.seqN ?_
      refine VC.cond rfl (fun h7 => ?_) (fun h7 => ?_)
      ·
        refine VC.reg (VO.l (LO.mv (.r rfl)) rfl <| VO.l (LO.rem (.r rfl) (.r rfl) (by omega)) rfl <| VO.l (LO.as (.r rfl)) rfl <| VO.nil ?_)
        refine VE.inN (VE.seqN ?_)
        refine VC.seq ?_
        have q1 := hs _ (getD_mem (d := zSm) (show i < l.length by omega))
        have q2 := hs _ (getD_mem (d := zSm) (show i + 1 < l.length by omega))
        unfold smpOk at q1 q2
        have hlt : i < l.length - 1 := by omega
        refine VC.drawH [[0, 1], [0], [0]] [some 0, some 0, some 0, some 0, some 0, some 0, some 0, some 0, some 0, some 0, some 0, none, none] mixed (by kernel_rfl) rfl (LX.l (fun _ hJ => LO.mv (.r rfl)) rfl <| LX.l (fun _ hJ => LO.mv (.r rfl)) rfl <| LX.l (fun _ hJ => LO.fa (r := 1) F44_1 (.r rfl) rfl) rfl <| LX.l (fun _ hJ => LO.ld O3 (.r rfl) (fun _ hw => cells_at (hJ _ hw) 0 rfl ⟨_, rfl⟩)) rfl <| LX.l (fun _ hJ => LO.ld O28 (.r rfl) (fun _ hw => sub_cells (off := 0) (hCap _ _ _ hY (St.inv (hJ _ hw) 1 _ rfl)).1 ⟨_, rfl⟩)) rfl <| LX.l (fun _ hJ => LO.mv (.r rfl)) rfl <| LX.l (fun _ hJ => LO.ixs S28 N44 hs0 (.r rfl) (.r rfl) rfl (by omega)) rfl <| LX.l (fun _ hJ => LO.fa F44_1 (.r rfl) rfl) rfl <| LX.l (fun _ hJ => LO.ld O3 (.r rfl) (fun w hw => cells_part (off := 1) ((hCap _ _ _ hY (St.inv (hJ _ hw) 1 _ rfl)).2.2.here zSm (j := i) (by omega)) ⟨_, rfl⟩)) rfl <| LX.l (fun _ hJ => LO.sub (.r rfl) (.r rfl) (wi (by omega) (by omega))) rfl <| LX.l (fun _ hJ => LO.call (xs := [_]) (vs := [_]) C46 ⟨(.r rfl), trivial⟩ (fun w _ => wrap_c _ w)) rfl <| LX.s <| LX.s <| LX.nil) (HX.s <| HX.s <| HX.s <| HX.s <| HX.s <| HX.s <| HX.s <| HX.s <| HX.s <| HX.s <| HX.s <| HX.h rfl <| HO.yield 1 (r := r) (vs := [_, _]) (post := fun b r' => if b = true then J ((stQ t.kind l i).length + 1) r' else Jx ((stQ t.kind l i).length + 1) r') (.r rfl) ⟨.r rfl, .r rfl, trivial⟩ rfl (fun w2 hi hr hs => hyl ((stQ t.kind l i).length) _ (by first | exact stQ_at hlt hk (by first | exact stW1 (by omega) | exact stW2a (by omega) (by omega) | exact stW2b (by omega) (by omega) (by omega) | exact stW3 (by omega) (by omega) (by omega))) r w2 hY hi hr hs) fun b1 r1 hp => ⟨fun _ hw => hw.sel [0] rfl, HX.h rfl <| HO.lo (LO.not (.r rfl)) <| ⟨fun _ hw => hw.sel [0] rfl, HX.nil ?_⟩⟩)
        refine VE.seqN ?_
        refine VC.cond rfl (fun h4 => ?_) (fun h4 => ?_)
        ·
          rw [if_neg h4] at hp
          have hE : J ((stQ t.kind l (l.length - 1)).map pairC).length r1 ∨ ∃ n, n ≤ ((stQ t.kind l (l.length - 1)).map pairC).length ∧ Jx n r1 := .inr ⟨(stQ t.kind l i).length + 1, by rw [List.length_map]; exact stQ_lt hlt (by first | exact stW1 (by omega) | exact stW2a (by omega) (by omega) | exact stW2b (by omega) (by omega) (by omega) | exact stW3 (by omega) (by omega) (by omega)), hp⟩
          refine VC.ret (VE.inR (VE.thenR (VE.thenR (VE.inR (VE.res (vs := []) rfl trivial (fun w hw => ?_))))))
          first | exact ⟨rfl, seq_end hE hw⟩ | exact ⟨rfl, seq_end hE (hw.sel [1] rfl)⟩
        ·
          rw [if_pos (by simpa using h4)] at hp
          refine VC.skip (VE.inN (VE.seqN ?_))
          refine VC.reg (VO.l (LO.add (.r rfl) (.r rfl) (wi (by omega) (by omega))) rfl <| VO.l (LO.mv (.r rfl)) rfl <| VO.nil ?_)
          refine VE.thenN fun a w ha hw => ⟨(i + 1, _), ⟨by omega, by first | (rw [stQ_yes (by first | exact stW1 (by omega) | exact stW2a (by omega) (by omega) | exact stW2b (by omega) (by omega) (by omega) | exact stW3 (by omega) (by omega) (by omega))]; exact hp) | (rw [stQ_no (by omega) (by omega)]; exact hY)⟩, by omega, ha.sub (.cons rfl (.cons rfl (.cons rfl (.cons rfl (.cons rfl (.cons rfl .nil)))))), hw.sel [1] rfl⟩
      ·
        refine VC.skip (VE.inN (VE.seqN ?_))
        refine VC.seq ?_
        have q1 := hs _ (getD_mem (d := zSm) (show i < l.length by omega))
        have q2 := hs _ (getD_mem (d := zSm) (show i + 1 < l.length by omega))
        unfold smpOk at q1 q2
        have hlt : i < l.length - 1 := by omega
        refine VC.drawH [[0, 1], [0], [0]] [some 0, some 0, some 0, some 0, some 0, some 0, some 0, some 0, some 0, some 0, some 0, none, none] mixed (by kernel_rfl) rfl (LX.l (fun _ hJ => LO.mv (.r rfl)) rfl <| LX.l (fun _ hJ => LO.mv (.r rfl)) rfl <| LX.l (fun _ hJ => LO.fa (r := 1) F44_1 (.r rfl) rfl) rfl <| LX.l (fun _ hJ => LO.ld O3 (.r rfl) (fun _ hw => cells_at (hJ _ hw) 0 rfl ⟨_, rfl⟩)) rfl <| LX.l (fun _ hJ => LO.ld O28 (.r rfl) (fun _ hw => sub_cells (off := 0) (hCap _ _ _ hY (St.inv (hJ _ hw) 1 _ rfl)).1 ⟨_, rfl⟩)) rfl <| LX.l (fun _ hJ => LO.mv (.r rfl)) rfl <| LX.l (fun _ hJ => LO.ixs S28 N44 hs0 (.r rfl) (.r rfl) rfl (by omega)) rfl <| LX.l (fun _ hJ => LO.fa F44_1 (.r rfl) rfl) rfl <| LX.l (fun _ hJ => LO.ld O3 (.r rfl) (fun w hw => cells_part (off := 1) ((hCap _ _ _ hY (St.inv (hJ _ hw) 1 _ rfl)).2.2.here zSm (j := i) (by omega)) ⟨_, rfl⟩)) rfl <| LX.l (fun _ hJ => LO.sub (.r rfl) (.r rfl) (wi (by omega) (by omega))) rfl <| LX.l (fun _ hJ => LO.call (xs := [_]) (vs := [_]) C46 ⟨(.r rfl), trivial⟩ (fun w _ => wrap_c _ w)) rfl <| LX.s <| LX.s <| LX.nil) (HX.s <| HX.s <| HX.s <| HX.s <| HX.s <| HX.s <| HX.s <| HX.s <| HX.s <| HX.s <| HX.s <| HX.h rfl <| HO.yield 1 (r := r) (vs := [_, _]) (post := fun b r' => if b = true then J ((stQ t.kind l i).length + 1) r' else Jx ((stQ t.kind l i).length + 1) r') (.r rfl) ⟨.r rfl, .r rfl, trivial⟩ rfl (fun w2 hi hr hs => hyl ((stQ t.kind l i).length) _ (by first | exact stQ_at hlt hk (by first | exact stW1 (by omega) | exact stW2a (by omega) (by omega) | exact stW2b (by omega) (by omega) (by omega) | exact stW3 (by omega) (by omega) (by omega))) r w2 hY hi hr hs) fun b1 r1 hp => ⟨fun _ hw => hw.sel [0] rfl, HX.h rfl <| HO.lo (LO.not (.r rfl)) <| ⟨fun _ hw => hw.sel [0] rfl, HX.nil ?_⟩⟩)
        refine VE.seqN ?_
        refine VC.cond rfl (fun h4 => ?_) (fun h4 => ?_)
        ·
          rw [if_neg h4] at hp
          have hE : J ((stQ t.kind l (l.length - 1)).map pairC).length r1 ∨ ∃ n, n ≤ ((stQ t.kind l (l.length - 1)).map pairC).length ∧ Jx n r1 := .inr ⟨(stQ t.kind l i).length + 1, by rw [List.length_map]; exact stQ_lt hlt (by first | exact stW1 (by omega) | exact stW2a (by omega) (by omega) | exact stW2b (by omega) (by omega) (by omega) | exact stW3 (by omega) (by omega) (by omega)), hp⟩
          refine VC.ret (VE.inR (VE.thenR (VE.thenR (VE.inR (VE.res (vs := []) rfl trivial (fun w hw => ?_))))))
          first | exact ⟨rfl, seq_end hE hw⟩ | exact ⟨rfl, seq_end hE (hw.sel [1] rfl)⟩
        ·
          rw [if_pos (by simpa using h4)] at hp
          refine VC.skip (VE.inN (VE.seqN ?_))
          refine VC.reg (VO.l (LO.add (.r rfl) (.r rfl) (wi (by omega) (by omega))) rfl <| VO.l (LO.mv (.r rfl)) rfl <| VO.nil ?_)
          refine VE.thenN fun a w ha hw => ⟨(i + 1, _), ⟨by omega, by first | (rw [stQ_yes (by first | exact stW1 (by omega) | exact stW2a (by omega) (by omega) | exact stW2b (by omega) (by omega) (by omega) | exact stW3 (by omega) (by omega) (by omega))]; exact hp) | (rw [stQ_no (by omega) (by omega)]; exact hY)⟩, by omega, ha.sub (.cons rfl (.cons rfl (.cons rfl (.cons rfl (.cons rfl (.cons rfl .nil)))))), hw.sel [1] rfl⟩
  ·
    have hE : J ((stQ t.kind l (l.length - 1)).map pairC).length r ∨ ∃ n, n ≤ ((stQ t.kind l (l.length - 1)).map pairC).length ∧ Jx n r := .inl (by rw [List.length_map, show l.length - 1 = i by omega]; exact hY)
    refine VC.exit (VE.thenX (VE.thenX (VE.inX (VE.resN (vs := []) rfl trivial (fun w hw => ?_)))))
    first | exact ⟨rfl, seq_end hE hw⟩ | exact ⟨rfl, seq_end hE (hw.sel [1] rfl)⟩

end Go.Proofs.Ytcnlhifkablmkaa
