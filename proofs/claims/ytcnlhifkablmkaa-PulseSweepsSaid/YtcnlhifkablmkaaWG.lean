/-
  The document's powers, matches, steps and means.
-/
import Derived.Test.YtcnlhifkablmkaaWF
namespace Go.Proofs.Ytcnlhifkablmkaa
open Go.SL Go.Proofs Go.Pulse
set_option linter.unusedVariables false

theorem C80 : IsFn Try.prog 80 := ⟨_, Try.func80, by decide, rfl⟩
theorem S39 : IsSlice Try.prog 39 101 := Try.underlying39
theorem N101 : (Try.prog.info? 101).map (·.size) = some 4 := by kernel_rfl
theorem F101_1 : FieldAt Try.prog 101 1 1 := ⟨_, _, Try.underlying101, rfl, rfl, 0, by kernel_rfl⟩
theorem N105 : (Try.prog.info? 105).map (·.size) = some 2 := by kernel_rfl


def sG (m : Int) (g : Sample → Int) (l : List Sample) : Int := (l.map fun x => sq m (g x)).sum
theorem map_some {w : World} {p : Option Addr} {l : List Sample} {g : Sample → Int} (h : Ints w p (l.map g)) : SlSome p l.length := by have := h.some; rwa [List.length_map] at this
theorem map_here {w : World} {p : Option Addr} {l : List Sample} {g : Sample → Int} (h : Ints w p (l.map g)) {j : Nat} (hj : j < l.length) : Cells w ⟨pb p, po p + j * 1, none⟩ [.int .i64 (g (l.getD j zSm))] := by
  have := ints_here h (j := j) (by rw [List.length_map]; exact hj)
  rw [show (l.map g).getD j 0 = g (l.getD j zSm) by
    rw [List.getD_eq_getElem?_getD, List.getD_eq_getElem?_getD, List.getElem?_map, List.getElem?_eq_getElem hj]; rfl] at this
  exact this
section
variable {m : Int} {l : List Sample} {g : Sample → Int} {r : Recv} {j : Nat}
theorem sG_bd (h3 : -64 ≤ m) (h4 : m ≤ 64) (hs : ∀ x ∈ l, 0 ≤ g x ∧ g x ≤ 1023) : 0 ≤ sG m g l ∧ sG m g l ≤ 1181569 * (l.length : Int) := sum_bd (fun x hx => by
  have q := hs x hx
  exact sq_bd (by omega) (by omega) (by omega) (by omega) h3 h4)
theorem sG_lo (hj : j < l.length) : some (Value.int .i64 (sG (-r.level) g (l.take j) + max 0 (g (l.getD j zSm) - r.level) * max 0 (g (l.getD j zSm) - r.level))) = some (Value.int .i64 (sG (-r.level) g (l.take (j + 1)))) := by
  unfold sG; rw [sum_step (d := zSm) hj]; simp only [sq, Int.sub_eq_add_neg]
theorem sG_hi (hj : j < l.length) (h : 0 ≤ g (l.getD j zSm) + r.level) : some (Value.int .i64 (sG r.level g (l.take j) + (g (l.getD j zSm) + r.level) * (g (l.getD j zSm) + r.level))) = some (Value.int .i64 (sG r.level g (l.take (j + 1)))) := by
  unfold sG; rw [sum_step (d := zSm) hj]; simp only [sq, Int.max_eq_right h]
theorem sumX_lo (hj : j < l.length) : some (Value.int .i64 (sumX (-r.level) (l.take j) + max 0 ((l.getD j zSm).h - r.level) * max 0 ((l.getD j zSm).v - r.level))) = some (Value.int .i64 (sumX (-r.level) (l.take (j + 1)))) := by
  rw [sumX_step hj]; simp only [Int.sub_eq_add_neg]
theorem sumX_hi (hj : j < l.length) (h : 0 ≤ (l.getD j zSm).h + r.level) (k : 0 ≤ (l.getD j zSm).v + r.level) : some (Value.int .i64 (sumX r.level (l.take j) + ((l.getD j zSm).h + r.level) * ((l.getD j zSm).v + r.level))) = some (Value.int .i64 (sumX r.level (l.take (j + 1)))) := by
  rw [sumX_step hj, Int.max_eq_right h, Int.max_eq_right k]
end
theorem sq_le_sq {x y : Int} (hy : 0 ≤ y) (h : x * x ≤ y * y) : x ≤ y := by
  rcases Int.lt_or_le y x with q | q
  · have h1 : y * y ≤ y * x := Int.mul_le_mul_of_nonneg_left (by omega) hy
    have h2 : y * x < x * x := Int.mul_lt_mul_of_pos_right q (by omega)
    omega
  · exact q
/-- The square of a sum of products is at most the product of the sums of squares. -/
theorem cauchy {α : Type} (f g : α → Int) : ∀ l : List α, (l.map fun x => f x * g x).sum * (l.map fun x => f x * g x).sum ≤ (l.map fun x => f x * f x).sum * (l.map fun x => g x * g x).sum ∧ 0 ≤ (l.map fun x => f x * f x).sum ∧ 0 ≤ (l.map fun x => g x * g x).sum
  | [] => by simp
  | x :: l => by
    obtain ⟨h1, h2, h3⟩ := cauchy f g l
    simp only [List.map_cons, List.sum_cons]
    generalize (l.map fun x => f x * g x).sum = C at *
    generalize (l.map fun x => f x * f x).sum = A at *
    generalize (l.map fun x => g x * g x).sum = B at *
    generalize f x = a at *
    generalize g x = b at *
    have sa : 0 ≤ a * a := by rcases Int.le_total 0 a with q | q
                              · exact Int.mul_nonneg q q
                              · have := Int.mul_nonneg (show 0 ≤ -a by omega) (show 0 ≤ -a by omega); rwa [Int.neg_mul_neg] at this
    have sb : 0 ≤ b * b := by rcases Int.le_total 0 b with q | q
                              · exact Int.mul_nonneg q q
                              · have := Int.mul_nonneg (show 0 ≤ -b by omega) (show 0 ≤ -b by omega); rwa [Int.neg_mul_neg] at this
    refine ⟨?_, by omega, by omega⟩
    -- 2 C a b ≤ A b b + B a a
    have hy : 0 ≤ A * (b * b) + B * (a * a) := by
      have := Int.mul_nonneg h2 sb; have := Int.mul_nonneg h3 sa; omega
    have key : 2 * (C * (a * b)) ≤ A * (b * b) + B * (a * a) := by
      refine sq_le_sq hy ?_
      have d : 0 ≤ (A * (b * b) - B * (a * a)) * (A * (b * b) - B * (a * a)) := by
        generalize A * (b * b) - B * (a * a) = z
        rcases Int.le_total 0 z with q | q
        · exact Int.mul_nonneg q q
        · have := Int.mul_nonneg (show 0 ≤ -z by omega) (show 0 ≤ -z by omega); rwa [Int.neg_mul_neg] at this
      have e := Int.mul_le_mul_of_nonneg_right h1 (Int.mul_nonneg sa sb)
      have e1 : 2 * (C * (a * b)) * (2 * (C * (a * b))) = 4 * (C * C * (a * a * (b * b))) := by
        rw [show (4 : Int) = 2 * 2 from rfl]; ac_rfl
      have e2 : (A * (b * b) + B * (a * a)) * (A * (b * b) + B * (a * a)) = (A * (b * b) - B * (a * a)) * (A * (b * b) - B * (a * a)) + 4 * (A * B * (a * a * (b * b))) := by
        generalize hX : A * (b * b) = X
        generalize hY : B * (a * a) = Y
        have : A * B * (a * a * (b * b)) = X * Y := by rw [← hX, ← hY]; simp only [Int.mul_assoc, Int.mul_comm, Int.mul_left_comm]
        rw [this]
        simp only [Int.add_mul, Int.mul_add, Int.sub_mul, Int.mul_sub]
        rw [Int.mul_comm Y X]; omega
      rw [e1, e2]; omega
    have e3 : (a * b + C) * (a * b + C) = a * a * (b * b) + 2 * (C * (a * b)) + C * C := by
      simp only [Int.add_mul, Int.mul_add]
      have : a * b * (a * b) = a * a * (b * b) := by simp only [Int.mul_assoc, Int.mul_comm, Int.mul_left_comm]
      rw [this, Int.mul_comm (a * b) C]; omega
    have e4 : (a * a + A) * (b * b + B) = a * a * (b * b) + (A * (b * b) + B * (a * a)) + A * B := by
      simp only [Int.add_mul, Int.mul_add]
      rw [Int.mul_comm (a * a) B]; omega
    rw [e3, e4]; omega
theorem share_le {r : Recv} {l : List Sample} (hr : recvOk r) (hs : ∀ x ∈ l, smpOk x) (h : 0 < sumH r.level l * sumV r.level l) : 1000 * sumX (-r.level) l * sumX (-r.level) l / (sumH r.level l * sumV r.level l) ≤ 1000 := by
  unfold recvOk at hr
  have c := (cauchy (fun x : Sample => max 0 (x.h + -r.level)) (fun x => max 0 (x.v + -r.level)) l).1
  have a1 := sumH_bd (m := -r.level) (l := l) (by omega) (by omega) hs
  have a2 := sumV_bd (m := -r.level) (l := l) (by omega) (by omega) hs
  have a3 := sumH_bd (m := r.level) (l := l) (by omega) (by omega) hs
  have hH : sumH (-r.level) l ≤ sumH r.level l := sum_le (fun x _ => sq_le (by omega))
  have hV : sumV (-r.level) l ≤ sumV r.level l := sum_le (fun x _ => sq_le (by omega))
  have c : sumX (-r.level) l * sumX (-r.level) l ≤ sumH (-r.level) l * sumV (-r.level) l := c
  have d : sumH (-r.level) l * sumV (-r.level) l ≤ sumH r.level l * sumV r.level l := Int.mul_le_mul hH hV a2.1 a3.1
  have e : 1000 * sumX (-r.level) l * sumX (-r.level) l ≤ 1000 * (sumH r.level l * sumV r.level l) := by
    rw [Int.mul_assoc]; omega
  have := Int.ediv_le_ediv h e
  rwa [Int.mul_ediv_cancel _ (by omega)] at this
section
variable {r : Recv} {l : List Sample} {a b : Int}
theorem shareD_p (hr : recvOk r) (hs : ∀ x ∈ l, smpOk x) (h : 0 < sumH r.level l * sumV r.level l) : shareD (sumX (-r.level) l) (sumH r.level l * sumV r.level l) = 1000 * sumX (-r.level) l * sumX (-r.level) l / (sumH r.level l * sumV r.level l) := by
  unfold shareD; rw [if_neg (by omega)]
  exact Int.min_eq_right (share_le hr hs h)
theorem shareD_z (h : ¬ 0 < b) (h0 : 0 ≤ b) : shareD a b = 0 := if_pos (by omega)
theorem shareU_p (h : 0 < b) : shareU a b = min 1000 (up (1000 * a * a) b) := if_neg (by omega)
theorem shareU_z (h : ¬ 0 < b) (h0 : 0 ≤ b) : shareU a b = 1000 := if_pos (by omega)
end
theorem arcX_bd (l : List Int) : 0 ≤ (arcX l).2 ∧ (arcX l).2 ≤ 65536 := by
  unfold arcX
  by_cases h : arcE l = 0
  · rw [if_pos h]
    refine (arcR_bd (l := l) ?_).2
    unfold arcE at h
    by_cases q : l = []
    · rw [if_pos q] at h; exact absurd h (by decide)
    · rw [if_neg q] at h
      by_cases s : ∀ x ∈ l, inT x
      · exact s
      · rw [if_neg s] at h; exact absurd h (by decide)
  · rw [if_neg h]; decide
theorem rmean_eq {l : List Int} {sl : Int} (h : 0 < l.length) : Ending.returned (.agg #[.int .i64 ((arcSum l - sl) / (l.length : Int) + (wr ((arcSum l - sl) / (l.length : Int) + 32768) - 32768 - (arcSum l - sl) / (l.length : Int))), .int .i64 (up (arcSum l + sl) (l.length : Int) + (wr ((arcSum l - sl) / (l.length : Int) + 32768) - 32768 - (arcSum l - sl) / (l.length : Int)))]) = .returned (spanV (meanS l sl)) := by
  unfold meanS spanV
  rw [if_neg (fun q => by rw [q] at h; simp at h)]
  dsimp only
  congr 3
  congr 1
  · congr 1; omega
  · congr 2; omega
theorem tmod_nat (i : Nat) : ((i : Int)).tmod 2 = ((i % 2 : Nat) : Int) := by rw [Int.tmod_eq_emod_of_nonneg (by omega)]; omega
section
variable {k : Int} {l : List Sample} {i n : Nat} {v : Int}
theorem stP_yes (h : stW k l.length i = v) : stP k l v (i + 1) = stP k l v i ++ [stD l i] := by
  unfold stP; rw [List.range_succ, List.filter_append, List.map_append]; simp [h]
theorem stP_no (h : stW k l.length i ≠ v) : stP k l v (i + 1) = stP k l v i := by
  unfold stP; rw [List.range_succ, List.filter_append, List.map_append]; simp [h]
theorem stP_len (k : Int) (l : List Sample) (v : Int) (i : Nat) : (stP k l v i).length ≤ i := by
  unfold stP; rw [List.length_map]
  have := List.length_filter_le (fun i => decide (stW k l.length i = v)) (List.range i)
  simpa using this
theorem stW_r (hk : k = 1 ∨ k = 2 ∨ k = 3) (hd : (n : Int).tdiv 2 = ((n / 2 : Nat) : Int)) (hm : (i : Int).tmod 2 = ((i % 2 : Nat) : Int)) (h : (v = 0 ∧ (k = 1 ∨ (k = 2 ∧ i + 1 < n / 2) ∨ (k = 3 ∧ i % 2 = 0))) ∨ (v = 1 ∧ ((k = 2 ∧ n / 2 ≤ i) ∨ (k = 3 ∧ i % 2 = 1)))) : stW k n i = v := by
  unfold stW
  by_cases k1 : k = 1
  · rw [if_pos k1]; omega
  · rw [if_neg k1]
    by_cases k2 : k = 2
    · rw [if_pos k2]
      by_cases a : i + 1 = n / 2
      · rw [if_pos a]; omega
      · rw [if_neg a]
        by_cases b : n / 2 ≤ i
        · rw [if_pos b]; omega
        · rw [if_neg b]; omega
    · rw [if_neg k2]; omega
theorem stW_n (hk : k = 1 ∨ k = 2 ∨ k = 3) (hd : (n : Int).tdiv 2 = ((n / 2 : Nat) : Int)) (hm : (i : Int).tmod 2 = ((i % 2 : Nat) : Int)) (h : (v = 1 ∧ (k = 1 ∨ (k = 2 ∧ i + 1 ≤ n / 2) ∨ (k = 3 ∧ i % 2 = 0))) ∨ (v = 0 ∧ ((k = 2 ∧ n / 2 ≤ i + 1) ∨ (k = 3 ∧ i % 2 = 1)))) : stW k n i ≠ v := by
  unfold stW
  by_cases k1 : k = 1
  · rw [if_pos k1]; omega
  · rw [if_neg k1]
    by_cases k2 : k = 2
    · rw [if_pos k2]
      by_cases a : i + 1 = n / 2
      · rw [if_pos a]; omega
      · rw [if_neg a]
        by_cases b : n / 2 ≤ i
        · rw [if_pos b]; omega
        · rw [if_neg b]; omega
    · rw [if_neg k2]; omega
end

set_option maxRecDepth 20000 in
theorem power_c (g : Sample → Int) (r : Recv) (l : List Sample) (p : Option Addr) (c : Nat) (w : World) (hr : recvOk r) (hn : l.length ≤ 64) (hn0 : 0 < l.length) (hg : ∀ x ∈ l, 0 ≤ g x ∧ g x ≤ 1023) (hl : Ints w p (l.map g)) :
  Calls Try.prog 51 #[recvV r, .slice p l.length c] w fun e w' => e = .returned (spanV (powS r (sG (-r.level) g l) (sG r.level g l) l.length)) ∧ St (bs w) [] w' := by
  have hr' := hr
  unfold recvOk at hr'
  refine enter (vs := [_, _]) (env := [(0, _), (1, _)]) Try.func51 rfl rfl rfl rfl ?_
  refine VC.seq ?_
  refine VC.reg (VO.h rfl <| HO.box (C := #[_, _, _, _]) rfl rfl fun b1 => VO.h rfl <| HO.alloc (C := #[_, _]) Z25 rfl fun b2 => VO.nil ?_)
  refine VE.seqN ?_
  refine VC.seq ?_
  refine VC.reg (VO.l (LO.as (.r rfl)) rfl <| VO.l (LO.as (.r rfl)) rfl <| VO.nil ?_)
  refine VE.seqN ?_
  refine VC.seq ?_
  refine VC.seq ?_
  refine VC.reg (VO.l (LO.as (.r rfl)) rfl <| VO.nil ?_)
  refine VE.seqN ?_
  refine VC.block ?_
  refine VC.loopK (α := Nat) 0 (fun gx => [(5, .int .i64 (sG (-r.level) g (l.take gx))), (6, .int .i64 (sG r.level g (l.take gx))), (7, .int .i64 (gx : Nat))]) [(1, _), (2, _), (4, _)] (fun gx => []) (fun gx => gx ≤ l.length) (fun gx => l.length - gx) 0 (by exact Nat.zero_le _) (.cons rfl (.cons rfl (.cons rfl (.cons rfl (.cons rfl (.cons rfl .nil)))))) (fun _ h => h) ?_
  rintro j hj
  refine VC.seq ?_
  refine VC.seq ?_
  refine VC.reg (VO.l (LO.mv (.r rfl)) rfl <| VO.l (LO.mv (.r rfl)) rfl <| VO.l (LO.len S55 (.r rfl) rfl) rfl <| VO.l (LO.lt (.r rfl) (.r rfl)) rfl <| VO.nil ?_)
  refine VE.seqN ?_
  refine VC.cond rfl (fun h1 => ?_) (fun h1 => ?_)
  ·
    refine VC.skip (VE.seqN ?_)
    refine VC.seq ?_
    refine VC.block ?_
    refine VC.seq ?_
    have q0 := hg _ (getD_mem (d := zSm) (show j < l.length by omega))
    have q1 := prod_bd (x := max 0 (g (l.getD j zSm) - r.level)) (y := max 0 (g (l.getD j zSm) - r.level)) (A := 1087) (B := 1087) (by omega) (by omega) (by omega) (by omega)
    have q2 := prod_bd (x := g (l.getD j zSm) + r.level) (y := g (l.getD j zSm) + r.level) (A := 1087) (B := 1087) (by omega) (by omega) (by omega) (by omega)
    have r1 := sG_bd (m := -r.level) (l := l.take j) (g := g) (by omega) (by omega) (fun x hx => hg x (List.mem_of_mem_take hx))
    have r2 := sG_bd (m := r.level) (l := l.take j) (g := g) (by omega) (by omega) (fun x hx => hg x (List.mem_of_mem_take hx))
    rw [List.length_take] at r1 r2
    refine VC.draw mixed (LL.l (LO.mv (.r rfl)) rfl <| LL.l (LO.mv (.r rfl)) rfl <| LL.l (LO.mv (.r rfl)) rfl <| LL.l (LO.ixs S55 N3 (map_some hl) (.r rfl) (.r rfl) rfl (by omega)) rfl <| LL.l (LO.ld O3 (.r rfl) (fun w hw => map_here (hl.keep w hw) (j := j) (by omega))) rfl <| LL.l (LO.fa (r := 0) F38_0 (.r rfl) rfl) rfl <| LL.l (LO.ld O3 (.r rfl) (fun _ hw => cells_at hw 1 rfl ⟨_, rfl⟩)) rfl <| LL.l (LO.sub (.r rfl) (.r rfl) (wi (by omega) (by omega))) rfl <| LL.l (LO.max (.r rfl) (.r rfl)) rfl <| LL.l (LO.mv (.r rfl)) rfl <| LL.l (LO.mv (.r rfl)) rfl <| LL.l (LO.ixs S55 N3 (map_some hl) (.r rfl) (.r rfl) rfl (by omega)) rfl <| LL.l (LO.ld O3 (.r rfl) (fun w hw => map_here (hl.keep w hw) (j := j) (by omega))) rfl <| LL.l (LO.fa (r := 0) F38_0 (.r rfl) rfl) rfl <| LL.l (LO.ld O3 (.r rfl) (fun _ hw => cells_at hw 1 rfl ⟨_, rfl⟩)) rfl <| LL.l (LO.sub (.r rfl) (.r rfl) (wi (by omega) (by omega))) rfl <| LL.l (LO.max (.r rfl) (.r rfl)) rfl <| LL.l (LO.mul (.r rfl) (.r rfl) (wi (by omega) (by omega))) rfl <| LL.l (LO.add (.r rfl) (.r rfl) (wi (by omega) (by omega))) rfl <| LL.l (LO.as (.r rfl)) rfl <| LL.nil) (by kernel_rfl) ?_
    refine VE.seqN ?_
    refine VC.draw mixed (LL.l (LO.mv (.r rfl)) rfl <| LL.l (LO.mv (.r rfl)) rfl <| LL.l (LO.mv (.r rfl)) rfl <| LL.l (LO.ixs S55 N3 (map_some hl) (.r rfl) (.r rfl) rfl (by omega)) rfl <| LL.l (LO.ld O3 (.r rfl) (fun w hw => map_here (hl.keep w hw) (j := j) (by omega))) rfl <| LL.l (LO.fa (r := 0) F38_0 (.r rfl) rfl) rfl <| LL.l (LO.ld O3 (.r rfl) (fun _ hw => cells_at hw 1 rfl ⟨_, rfl⟩)) rfl <| LL.l (LO.add (.r rfl) (.r rfl) (wi (by omega) (by omega))) rfl <| LL.l (LO.mv (.r rfl)) rfl <| LL.l (LO.mv (.r rfl)) rfl <| LL.l (LO.ixs S55 N3 (map_some hl) (.r rfl) (.r rfl) rfl (by omega)) rfl <| LL.l (LO.ld O3 (.r rfl) (fun w hw => map_here (hl.keep w hw) (j := j) (by omega))) rfl <| LL.l (LO.fa (r := 0) F38_0 (.r rfl) rfl) rfl <| LL.l (LO.ld O3 (.r rfl) (fun _ hw => cells_at hw 1 rfl ⟨_, rfl⟩)) rfl <| LL.l (LO.add (.r rfl) (.r rfl) (wi (by omega) (by omega))) rfl <| LL.l (LO.mul (.r rfl) (.r rfl) (wi (by omega) (by omega))) rfl <| LL.l (LO.add (.r rfl) (.r rfl) (wi (by omega) (by omega))) rfl <| LL.l (LO.as (.r rfl)) rfl <| LL.nil) (by kernel_rfl) ?_
    refine VE.inN (VE.seqN ?_)
    refine VC.reg (VO.l (LO.mv (.r rfl)) rfl <| VO.l (LO.add (.r rfl) (.r rfl) (wi (by omega) (by omega))) rfl <| VO.l (LO.as (.r rfl)) rfl <| VO.nil ?_)
    refine VE.thenN fun a w ha hw => ⟨j + 1, (by omega), (by omega), ha.sub (.cons (by exact sG_lo (by omega)) (.cons (by exact sG_hi (by omega) (by omega)) (.cons rfl (.cons rfl (.cons rfl (.cons rfl .nil)))))), hw⟩
  ·
    refine VC.exit (VE.thenX (VE.thenX (VE.inX (VE.seqN ?_))))
    refine VC.seq ?_
    have hj2 : j = l.length := by omega
    subst hj2
    rw [List.take_length]
    have r1 := sG_bd (m := -r.level) (l := l) (g := g) (by omega) (by omega) hg
    have r2 := sG_bd (m := r.level) (l := l) (g := g) (by omega) (by omega) hg
    have d1 := ediv_abs (a := sG (-r.level) g l) (n := (l.length : Int)) (B := 100000000) (by omega) (by omega) (by omega) (by omega)
    have d2 := ediv_abs (a := -(sG r.level g l)) (n := (l.length : Int)) (B := 100000000) (by omega) (by omega) (by omega) (by omega)
    refine VC.drawH [[0, 1], [1]] [some 0, some 0, some 0, some 0, some 0, some 0, some 0, some 0, some 0, some 0, some 0, some 0, some 0, some 0, some 0, some 0, some 0, some 0, some 0, none] mixed (by kernel_rfl) rfl (LX.l (fun _ hJ => LO.mv (.r rfl)) rfl <| LX.l (fun _ hJ => LO.mv (.r rfl)) rfl <| LX.l (fun _ hJ => LO.len S55 (.r rfl) rfl) rfl <| LX.l (fun _ hJ => LO.call (xs := [_, _]) (vs := [_, _]) C71 ⟨(.r rfl), (.r rfl), trivial⟩ (fun w _ => rDown_c _ _ (by omega) (by omega) (by omega) w)) rfl <| LX.l (fun _ hJ => LO.fa (r := 2) F38_2 (.r rfl) rfl) rfl <| LX.l (fun _ hJ => LO.fa (r := 3) F25_1 (.r rfl) rfl) rfl <| LX.l (fun _ hJ => LO.ld O3 (.r rfl) (fun _ hw => cells_at (hJ _ hw) 1 rfl ⟨_, rfl⟩)) rfl <| LX.l (fun _ hJ => LO.sub (.r rfl) (.r rfl) (wi (by omega) (by omega))) rfl <| LX.l (fun _ hJ => LO.max (.r rfl) (.r rfl)) rfl <| LX.l (fun _ hJ => LO.mv (.r rfl)) rfl <| LX.l (fun _ hJ => LO.mv (.r rfl)) rfl <| LX.l (fun _ hJ => LO.len S55 (.r rfl) rfl) rfl <| LX.l (fun _ hJ => LO.call (xs := [_, _]) (vs := [_, _]) C52 ⟨(.r rfl), (.r rfl), trivial⟩ (fun w _ => rUp_c _ _ (by omega) (by omega) (by omega) w)) rfl <| LX.l (fun _ hJ => LO.fa (r := 2) F38_2 (.r rfl) rfl) rfl <| LX.l (fun _ hJ => LO.fa (r := 2) F25_0 (.r rfl) rfl) rfl <| LX.l (fun _ hJ => LO.ld O3 (.r rfl) (fun _ hw => cells_at (hJ _ hw) 1 rfl ⟨_, rfl⟩)) rfl <| LX.l (fun _ hJ => LO.sub (.r rfl) (.r rfl) (wi (by unfold up; omega) (by unfold up; omega))) rfl <| LX.l (fun _ hJ => LO.max (.r rfl) (.r rfl)) rfl <| LX.l (fun _ hJ => LO.bd (ps := [(_, _), (_, _)]) (vs := [(_, _), (_, _)]) (C := [_, _]) B25  ⟨(.r rfl), (.r rfl), trivial⟩ rfl ⟨_, [_], [_, _], rfl, rfl, rfl, rfl, ⟨_, [_], [_, _], rfl, rfl, rfl, rfl, rfl⟩⟩) rfl <| LX.s <| LX.nil) (HX.s <| HX.s <| HX.s <| HX.s <| HX.s <| HX.s <| HX.s <| HX.s <| HX.s <| HX.s <| HX.s <| HX.s <| HX.s <| HX.s <| HX.s <| HX.s <| HX.s <| HX.s <| HX.s <| HX.h0 <| HO.st 0 (vs := [_, _]) (C' := [_, _]) (L' := [_, _]) N25 rfl rfl rfl rfl rfl rfl rfl rfl <| ⟨fun _ hw => hw.sel [1] rfl, HX.nil ?_⟩)
    refine VE.seqN ?_
    refine VC.ret (VE.res (vs := [_]) rfl ⟨RV.agg (vs := [_, _]) A25 rfl (cells_blk 0 rfl ⟨_, rfl⟩) rfl, trivial⟩ (fun w hw => ?_))
    exact ⟨rfl, hw.nil⟩

set_option maxRecDepth 20000 in
theorem match_c (r : Recv) (l : List Sample) (p q : Option Addr) (c d : Nat) (w : World) (hr : recvOk r) (hn : l.length ≤ 64) (hs : ∀ x ∈ l, smpOk x) (hl : Ints w p (l.map (·.h))) (hm : Ints w q (l.map (·.v))) :
  Calls Try.prog 53 #[recvV r, .slice p l.length c, .slice q l.length d] w fun e w' => e = .returned (spanV (mtchS r l)) ∧ St (bs w) [] w' := by
  have hr' := hr
  unfold recvOk at hr'
  refine enter (vs := [_, _, _]) (env := [(0, _), (1, _), (2, _)]) Try.func53 rfl rfl rfl rfl ?_
  refine VC.seq ?_
  refine VC.reg (VO.h rfl <| HO.box (C := #[_, _, _, _]) rfl rfl fun b1 => VO.h rfl <| HO.alloc (C := #[_, _]) Z25 rfl fun b2 => VO.nil ?_)
  refine VE.seqN ?_
  refine VC.seq ?_
  refine VC.reg (VO.l (LO.as (.r rfl)) rfl <| VO.l (LO.as (.r rfl)) rfl <| VO.l (LO.as (.r rfl)) rfl <| VO.l (LO.as (.r rfl)) rfl <| VO.l (LO.as (.r rfl)) rfl <| VO.l (LO.as (.r rfl)) rfl <| VO.nil ?_)
  refine VE.seqN ?_
  refine VC.seq ?_
  refine VC.seq ?_
  refine VC.reg (VO.l (LO.as (.r rfl)) rfl <| VO.nil ?_)
  refine VE.seqN ?_
  refine VC.block ?_
  refine VC.loopK (α := Nat) 0 (fun gx => [(7, .int .i64 (sumX (-r.level) (l.take gx))), (8, .int .i64 (sumX r.level (l.take gx))), (9, .int .i64 (sumH (-r.level) (l.take gx))), (10, .int .i64 (sumV (-r.level) (l.take gx))), (11, .int .i64 (sumH r.level (l.take gx))), (12, .int .i64 (sumV r.level (l.take gx))), (13, .int .i64 (gx : Nat))]) [(1, _), (2, _), (3, _), (6, _)] (fun gx => []) (fun gx => gx ≤ l.length) (fun gx => l.length - gx) 0 (by exact Nat.zero_le _) (.cons rfl (.cons rfl (.cons rfl (.cons rfl (.cons rfl (.cons rfl (.cons rfl (.cons rfl (.cons rfl (.cons rfl (.cons rfl .nil))))))))))) (fun _ h => h) ?_
  rintro j hj
  refine VC.seq ?_
  refine VC.seq ?_
  refine VC.reg (VO.l (LO.mv (.r rfl)) rfl <| VO.l (LO.mv (.r rfl)) rfl <| VO.l (LO.len S55 (.r rfl) rfl) rfl <| VO.l (LO.lt (.r rfl) (.r rfl)) rfl <| VO.nil ?_)
  refine VE.seqN ?_
  refine VC.cond rfl (fun h1 => ?_) (fun h1 => ?_)
  ·
    refine VC.skip (VE.seqN ?_)
    refine VC.seq ?_
    refine VC.block ?_
    refine VC.seq ?_
    have q0 := hs _ (getD_mem (d := zSm) (show j < l.length by omega))
    unfold smpOk at q0
    refine VC.draw mixed (LL.l (LO.mv (.r rfl)) rfl <| LL.l (LO.mv (.r rfl)) rfl <| LL.l (LO.ixs S55 N3 (map_some hl) (.r rfl) (.r rfl) rfl (by omega)) rfl <| LL.l (LO.ld O3 (.r rfl) (fun w hw => map_here (hl.keep w hw) (j := j) (by omega))) rfl <| LL.l (LO.fa (r := 0) F38_0 (.r rfl) rfl) rfl <| LL.l (LO.ld O3 (.r rfl) (fun _ hw => cells_at hw 1 rfl ⟨_, rfl⟩)) rfl <| LL.l (LO.sub (.r rfl) (.r rfl) (wi (by omega) (by omega))) rfl <| LL.l (LO.max (.r rfl) (.r rfl)) rfl <| LL.l (LO.mv (.r rfl)) rfl <| LL.l (LO.mv (.r rfl)) rfl <| LL.l (LO.ixs S55 N3 (map_some hm) (.r rfl) (.r rfl) rfl (by omega)) rfl <| LL.l (LO.ld O3 (.r rfl) (fun w hw => map_here (hm.keep w hw) (j := j) (by omega))) rfl <| LL.l (LO.fa (r := 0) F38_0 (.r rfl) rfl) rfl <| LL.l (LO.ld O3 (.r rfl) (fun _ hw => cells_at hw 1 rfl ⟨_, rfl⟩)) rfl <| LL.l (LO.sub (.r rfl) (.r rfl) (wi (by omega) (by omega))) rfl <| LL.l (LO.max (.r rfl) (.r rfl)) rfl <| LL.l (LO.as (.r rfl)) rfl <| LL.l (LO.as (.r rfl)) rfl <| LL.nil) (by kernel_rfl) ?_
    refine VE.seqN ?_
    refine VC.seq ?_
    refine VC.draw mixed (LL.l (LO.mv (.r rfl)) rfl <| LL.l (LO.mv (.r rfl)) rfl <| LL.l (LO.ixs S55 N3 (map_some hl) (.r rfl) (.r rfl) rfl (by omega)) rfl <| LL.l (LO.ld O3 (.r rfl) (fun w hw => map_here (hl.keep w hw) (j := j) (by omega))) rfl <| LL.l (LO.fa (r := 0) F38_0 (.r rfl) rfl) rfl <| LL.l (LO.ld O3 (.r rfl) (fun _ hw => cells_at hw 1 rfl ⟨_, rfl⟩)) rfl <| LL.l (LO.add (.r rfl) (.r rfl) (wi (by omega) (by omega))) rfl <| LL.l (LO.mv (.r rfl)) rfl <| LL.l (LO.mv (.r rfl)) rfl <| LL.l (LO.ixs S55 N3 (map_some hm) (.r rfl) (.r rfl) rfl (by omega)) rfl <| LL.l (LO.ld O3 (.r rfl) (fun w hw => map_here (hm.keep w hw) (j := j) (by omega))) rfl <| LL.l (LO.fa (r := 0) F38_0 (.r rfl) rfl) rfl <| LL.l (LO.ld O3 (.r rfl) (fun _ hw => cells_at hw 1 rfl ⟨_, rfl⟩)) rfl <| LL.l (LO.add (.r rfl) (.r rfl) (wi (by omega) (by omega))) rfl <| LL.l (LO.as (.r rfl)) rfl <| LL.l (LO.as (.r rfl)) rfl <| LL.nil) (by kernel_rfl) ?_
    refine VE.seqN ?_
    refine VC.seq ?_
    have p7 := prod_bd (x := max 0 ((l.getD j zSm).h - r.level)) (y := max 0 ((l.getD j zSm).v - r.level)) (A := 1087) (B := 1087) (by omega) (by omega) (by omega) (by omega)
    have p8 := prod_bd (x := ((l.getD j zSm).h + r.level)) (y := ((l.getD j zSm).v + r.level)) (A := 1087) (B := 1087) (by omega) (by omega) (by omega) (by omega)
    have p9 := prod_bd (x := max 0 ((l.getD j zSm).h - r.level)) (y := max 0 ((l.getD j zSm).h - r.level)) (A := 1087) (B := 1087) (by omega) (by omega) (by omega) (by omega)
    have p10 := prod_bd (x := max 0 ((l.getD j zSm).v - r.level)) (y := max 0 ((l.getD j zSm).v - r.level)) (A := 1087) (B := 1087) (by omega) (by omega) (by omega) (by omega)
    have p11 := prod_bd (x := ((l.getD j zSm).h + r.level)) (y := ((l.getD j zSm).h + r.level)) (A := 1087) (B := 1087) (by omega) (by omega) (by omega) (by omega)
    have p12 := prod_bd (x := ((l.getD j zSm).v + r.level)) (y := ((l.getD j zSm).v + r.level)) (A := 1087) (B := 1087) (by omega) (by omega) (by omega) (by omega)
    have r7 := sumX_bd (m := (-r.level)) (l := (l.take j)) (by omega) (by omega) (fun x hx => hs x (List.mem_of_mem_take hx))
    have r8 := sumX_bd (m := r.level) (l := (l.take j)) (by omega) (by omega) (fun x hx => hs x (List.mem_of_mem_take hx))
    have r9 := sumH_bd (m := (-r.level)) (l := (l.take j)) (by omega) (by omega) (fun x hx => hs x (List.mem_of_mem_take hx))
    have r10 := sumV_bd (m := (-r.level)) (l := (l.take j)) (by omega) (by omega) (fun x hx => hs x (List.mem_of_mem_take hx))
    have r11 := sumH_bd (m := r.level) (l := (l.take j)) (by omega) (by omega) (fun x hx => hs x (List.mem_of_mem_take hx))
    have r12 := sumV_bd (m := r.level) (l := (l.take j)) (by omega) (by omega) (fun x hx => hs x (List.mem_of_mem_take hx))
    rw [List.length_take] at r7 r8 r9 r10 r11 r12
    refine VC.reg (VO.l (LO.mv (.r rfl)) rfl <| VO.l (LO.mv (.r rfl)) rfl <| VO.l (LO.mv (.r rfl)) rfl <| VO.l (LO.mul (.r rfl) (.r rfl) (wi (by omega) (by omega))) rfl <| VO.l (LO.add (.r rfl) (.r rfl) (wi (by omega) (by omega))) rfl <| VO.l (LO.mv (.r rfl)) rfl <| VO.l (LO.mv (.r rfl)) rfl <| VO.l (LO.mv (.r rfl)) rfl <| VO.l (LO.mul (.r rfl) (.r rfl) (wi (by omega) (by omega))) rfl <| VO.l (LO.add (.r rfl) (.r rfl) (wi (by omega) (by omega))) rfl <| VO.l (LO.as (.r rfl)) rfl <| VO.l (LO.as (.r rfl)) rfl <| VO.nil ?_)
    refine VE.seqN ?_
    refine VC.seq ?_
    refine VC.reg (VO.l (LO.mv (.r rfl)) rfl <| VO.l (LO.mv (.r rfl)) rfl <| VO.l (LO.mv (.r rfl)) rfl <| VO.l (LO.mul (.r rfl) (.r rfl) (wi (by omega) (by omega))) rfl <| VO.l (LO.add (.r rfl) (.r rfl) (wi (by omega) (by omega))) rfl <| VO.l (LO.mv (.r rfl)) rfl <| VO.l (LO.mv (.r rfl)) rfl <| VO.l (LO.mv (.r rfl)) rfl <| VO.l (LO.mul (.r rfl) (.r rfl) (wi (by omega) (by omega))) rfl <| VO.l (LO.add (.r rfl) (.r rfl) (wi (by omega) (by omega))) rfl <| VO.l (LO.as (.r rfl)) rfl <| VO.l (LO.as (.r rfl)) rfl <| VO.nil ?_)
    refine VE.seqN ?_
    refine VC.reg (VO.l (LO.mv (.r rfl)) rfl <| VO.l (LO.mv (.r rfl)) rfl <| VO.l (LO.mv (.r rfl)) rfl <| VO.l (LO.mul (.r rfl) (.r rfl) (wi (by omega) (by omega))) rfl <| VO.l (LO.add (.r rfl) (.r rfl) (wi (by omega) (by omega))) rfl <| VO.l (LO.mv (.r rfl)) rfl <| VO.l (LO.mv (.r rfl)) rfl <| VO.l (LO.mv (.r rfl)) rfl <| VO.l (LO.mul (.r rfl) (.r rfl) (wi (by omega) (by omega))) rfl <| VO.l (LO.add (.r rfl) (.r rfl) (wi (by omega) (by omega))) rfl <| VO.l (LO.as (.r rfl)) rfl <| VO.l (LO.as (.r rfl)) rfl <| VO.nil ?_)
    refine VE.inN (VE.seqN ?_)
    refine VC.reg (VO.l (LO.mv (.r rfl)) rfl <| VO.l (LO.add (.r rfl) (.r rfl) (wi (by omega) (by omega))) rfl <| VO.l (LO.as (.r rfl)) rfl <| VO.nil ?_)
    refine VE.thenN fun a w ha hw => ⟨j + 1, (by omega), (by omega), ha.sub (.cons (by exact sumX_lo (by omega)) (.cons (by exact sumX_hi (by omega) (by omega) (by omega)) (.cons (by exact sG_lo (g := (·.h)) (by omega)) (.cons (by exact sG_lo (g := (·.v)) (by omega)) (.cons (by exact sG_hi (g := (·.h)) (by omega) (by omega)) (.cons (by exact sG_hi (g := (·.v)) (by omega) (by omega)) (.cons rfl (.cons rfl (.cons rfl (.cons rfl (.cons rfl .nil))))))))))), hw⟩
  ·
    refine VC.exit (VE.thenX (VE.thenX (VE.inX (VE.seqN ?_))))
    refine VC.seq ?_
    have hj2 : j = l.length := by omega
    subst hj2
    rw [List.take_length]
    have s7 := sumX_bd (m := (-r.level)) (l := l) (by omega) (by omega) hs
    have s8 := sumX_bd (m := r.level) (l := l) (by omega) (by omega) hs
    have s9 := sumH_bd (m := (-r.level)) (l := l) (by omega) (by omega) hs
    have s10 := sumV_bd (m := (-r.level)) (l := l) (by omega) (by omega) hs
    have s11 := sumH_bd (m := r.level) (l := l) (by omega) (by omega) hs
    have s12 := sumV_bd (m := r.level) (l := l) (by omega) (by omega) hs
    have z1 := prod_bd (x := sumH r.level l) (y := sumV r.level l) (A := 80000000) (B := 80000000) (by omega) (by omega) (by omega) (by omega)
    have z2 := prod_bd (x := sumH (-r.level) l) (y := sumV (-r.level) l) (A := 80000000) (B := 80000000) (by omega) (by omega) (by omega) (by omega)
    have z3 := share_bd (a := sumX (-r.level) l) (by omega) (by omega)
    have z4 := share_bd (a := sumX r.level l) (by omega) (by omega)
    refine VC.reg (VO.l (LO.bd (ps := [(_, _), (_, _)]) (vs := [(_, _), (_, _)]) (C := [_, _]) B25  ⟨(.r rfl), (.r rfl), trivial⟩ rfl ⟨_, [_], [_, _], rfl, rfl, rfl, rfl, ⟨_, [_], [_, _], rfl, rfl, rfl, rfl, rfl⟩⟩) rfl <| VO.h rfl <| HO.alloc (C := #[_, _]) Z25 rfl fun b3 => VO.h0 <| HO.st 0 (vs := [_, _]) (C' := [_, _]) (L' := [_, _, _]) N25 rfl rfl rfl rfl rfl rfl rfl rfl <| VO.nil ?_)
    refine VE.seqN ?_
    refine VC.seq ?_
    refine VC.seq ?_
    refine VC.reg (VO.l (LO.mv (.r rfl)) rfl <| VO.l (LO.mv (.r rfl)) rfl <| VO.l (LO.mul (.r rfl) (.r rfl) (wi (by omega) (by omega))) rfl <| VO.l (LO.gt (.r rfl) (.r rfl)) rfl <| VO.nil ?_)
    refine VE.seqN ?_
    refine VC.cond rfl (fun h89 => ?_) (fun h89 => ?_)
    ·
      refine VC.reg (VO.l (LO.mv (.r rfl)) rfl <| VO.l (LO.mul (.r rfl) (.r rfl) (wi (by omega) (by omega))) rfl <| VO.l (LO.mv (.r rfl)) rfl <| VO.l (LO.mul (.r rfl) (.r rfl) (wi (by omega) (by omega))) rfl <| VO.l (LO.mv (.r rfl)) rfl <| VO.l (LO.mv (.r rfl)) rfl <| VO.l (LO.mul (.r rfl) (.r rfl) (wi (by omega) (by omega))) rfl <| VO.l (LO.quo (.r rfl) (.r rfl) (by omega) (quo_nn (by omega) (by omega) (by omega))) rfl <| VO.l (LO.fa (r := 0) F25_0 (.r rfl) rfl) rfl <| VO.h0 <| HO.st 0 (vs := [_]) (C' := [_, _]) (L' := [_, _, _]) N3 rfl rfl rfl rfl rfl rfl rfl rfl <| VO.nil ?_)
      refine VE.seqN ?_
      refine VC.seq ?_
      refine VC.seq ?_
      refine VC.reg (VO.l (LO.mv (.r rfl)) rfl <| VO.l (LO.mv (.r rfl)) rfl <| VO.l (LO.mul (.r rfl) (.r rfl) (wi (by omega) (by omega))) rfl <| VO.l (LO.gt (.r rfl) (.r rfl)) rfl <| VO.nil ?_)
      refine VE.seqN ?_
      refine VC.cond rfl (fun h102 => ?_) (fun h102 => ?_)
      ·
        refine VC.reg (VO.l (LO.mv (.r rfl)) rfl <| VO.l (LO.mul (.r rfl) (.r rfl) (wi (by omega) (by omega))) rfl <| VO.l (LO.mv (.r rfl)) rfl <| VO.l (LO.mul (.r rfl) (.r rfl) (wi (by omega) (by omega))) rfl <| VO.l (LO.mv (.r rfl)) rfl <| VO.l (LO.mv (.r rfl)) rfl <| VO.l (LO.mul (.r rfl) (.r rfl) (wi (by omega) (by omega))) rfl <| VO.l (LO.call (xs := [_, _]) (vs := [_, _]) C52 ⟨(.r rfl), (.r rfl), trivial⟩ (fun w _ => rUp_c _ _ (by omega) (by omega) (by omega) w)) rfl <| VO.l (LO.min (.r rfl) (.r rfl)) rfl <| VO.l (LO.fa (r := 1) F25_1 (.r rfl) rfl) rfl <| VO.h0 <| HO.st 0 (vs := [_]) (C' := [_, _]) (L' := [_, _, _]) N3 rfl rfl rfl rfl rfl rfl rfl rfl <| VO.nil ?_)
        refine VE.seqN ?_
        refine VC.seq ?_
        refine VC.reg (VO.l (LO.lda (vs := [_, _]) A25 (.r rfl) (fun _ hw => cells_at hw 0 rfl ⟨_, rfl⟩) rfl) rfl <| VO.h0 <| HO.st 1 (vs := [_, _]) (C' := [_, _]) (L' := [_, _, _]) N25 rfl rfl rfl rfl rfl rfl rfl rfl <| VO.nil ?_)
        refine VE.seqN ?_
        refine VC.ret (VE.res (vs := [_]) rfl ⟨RV.agg (vs := [_, _]) A25 rfl (cells_blk 1 rfl ⟨_, rfl⟩) rfl, trivial⟩ (fun w hw => ?_))
        refine ⟨?_, hw.nil⟩
        simp only [resV]
        unfold mtchS
        first | rw [shareD_p hr hs h89] | rw [shareD_z h89 z1.1]
        first | rw [shareU_p h102] | rw [shareU_z h102 z2.1]
      ·
        refine VC.skip (VE.seqN ?_)
        refine VC.seq ?_
        refine VC.reg (VO.l (LO.lda (vs := [_, _]) A25 (.r rfl) (fun _ hw => cells_at hw 0 rfl ⟨_, rfl⟩) rfl) rfl <| VO.h0 <| HO.st 1 (vs := [_, _]) (C' := [_, _]) (L' := [_, _, _]) N25 rfl rfl rfl rfl rfl rfl rfl rfl <| VO.nil ?_)
        refine VE.seqN ?_
        refine VC.ret (VE.res (vs := [_]) rfl ⟨RV.agg (vs := [_, _]) A25 rfl (cells_blk 1 rfl ⟨_, rfl⟩) rfl, trivial⟩ (fun w hw => ?_))
        refine ⟨?_, hw.nil⟩
        simp only [resV]
        unfold mtchS
        first | rw [shareD_p hr hs h89] | rw [shareD_z h89 z1.1]
        first | rw [shareU_p h102] | rw [shareU_z h102 z2.1]
    ·
      refine VC.skip (VE.seqN ?_)
      refine VC.seq ?_
      refine VC.seq ?_
      refine VC.reg (VO.l (LO.mv (.r rfl)) rfl <| VO.l (LO.mv (.r rfl)) rfl <| VO.l (LO.mul (.r rfl) (.r rfl) (wi (by omega) (by omega))) rfl <| VO.l (LO.gt (.r rfl) (.r rfl)) rfl <| VO.nil ?_)
      refine VE.seqN ?_
      refine VC.cond rfl (fun h102 => ?_) (fun h102 => ?_)
      ·
        refine VC.reg (VO.l (LO.mv (.r rfl)) rfl <| VO.l (LO.mul (.r rfl) (.r rfl) (wi (by omega) (by omega))) rfl <| VO.l (LO.mv (.r rfl)) rfl <| VO.l (LO.mul (.r rfl) (.r rfl) (wi (by omega) (by omega))) rfl <| VO.l (LO.mv (.r rfl)) rfl <| VO.l (LO.mv (.r rfl)) rfl <| VO.l (LO.mul (.r rfl) (.r rfl) (wi (by omega) (by omega))) rfl <| VO.l (LO.call (xs := [_, _]) (vs := [_, _]) C52 ⟨(.r rfl), (.r rfl), trivial⟩ (fun w _ => rUp_c _ _ (by omega) (by omega) (by omega) w)) rfl <| VO.l (LO.min (.r rfl) (.r rfl)) rfl <| VO.l (LO.fa (r := 1) F25_1 (.r rfl) rfl) rfl <| VO.h0 <| HO.st 0 (vs := [_]) (C' := [_, _]) (L' := [_, _, _]) N3 rfl rfl rfl rfl rfl rfl rfl rfl <| VO.nil ?_)
        refine VE.seqN ?_
        refine VC.seq ?_
        refine VC.reg (VO.l (LO.lda (vs := [_, _]) A25 (.r rfl) (fun _ hw => cells_at hw 0 rfl ⟨_, rfl⟩) rfl) rfl <| VO.h0 <| HO.st 1 (vs := [_, _]) (C' := [_, _]) (L' := [_, _, _]) N25 rfl rfl rfl rfl rfl rfl rfl rfl <| VO.nil ?_)
        refine VE.seqN ?_
        refine VC.ret (VE.res (vs := [_]) rfl ⟨RV.agg (vs := [_, _]) A25 rfl (cells_blk 1 rfl ⟨_, rfl⟩) rfl, trivial⟩ (fun w hw => ?_))
        refine ⟨?_, hw.nil⟩
        simp only [resV]
        unfold mtchS
        first | rw [shareD_p hr hs h89] | rw [shareD_z h89 z1.1]
        first | rw [shareU_p h102] | rw [shareU_z h102 z2.1]
      ·
        refine VC.skip (VE.seqN ?_)
        refine VC.seq ?_
        refine VC.reg (VO.l (LO.lda (vs := [_, _]) A25 (.r rfl) (fun _ hw => cells_at hw 0 rfl ⟨_, rfl⟩) rfl) rfl <| VO.h0 <| HO.st 1 (vs := [_, _]) (C' := [_, _]) (L' := [_, _, _]) N25 rfl rfl rfl rfl rfl rfl rfl rfl <| VO.nil ?_)
        refine VE.seqN ?_
        refine VC.ret (VE.res (vs := [_]) rfl ⟨RV.agg (vs := [_, _]) A25 rfl (cells_blk 1 rfl ⟨_, rfl⟩) rfl, trivial⟩ (fun w hw => ?_))
        refine ⟨?_, hw.nil⟩
        simp only [resV]
        unfold mtchS
        first | rw [shareD_p hr hs h89] | rw [shareD_z h89 z1.1]
        first | rw [shareU_p h102] | rw [shareU_z h102 z2.1]

set_option maxRecDepth 20000 in
theorem rTog_c (l : List Int) (p : Option Addr) (c : Nat) (ph : Int) (w : World) (hn : l.length < 1000000000) (hl : Ints w p l) (h3 : 0 ≤ ph) (h4 : ph ≤ 4096) :
  Calls Try.prog 55 #[.slice p l.length c, .int .i64 ph] w fun e w' => e = .returned (.bool (decide ((arcX l).2 + 4 * ph < 32768))) ∧ St (bs w) [] w' := by
  have hX := arcX_bd l
  refine enter (vs := [_, _]) (env := [(0, _), (1, _)]) Try.func55 rfl rfl rfl rfl ?_
  refine VC.seq ?_
  refine VC.reg (VO.l (LO.as (.r rfl)) rfl <| VO.nil ?_)
  refine VE.seqN ?_
  refine VC.seq ?_
  refine VC.reg (VO.l (LO.mv (.r rfl)) rfl <| VO.l (LO.call (xs := [_]) (vs := [_]) C24 ⟨(.r rfl), trivial⟩ (fun w hw => rArc_c l p c w hn (hl.keep w hw))) rfl <| VO.l (LO.mv (.r rfl)) rfl <| VO.l (LO.ex (.r rfl) rfl) rfl <| VO.l (LO.ex (.r rfl) rfl) rfl <| VO.l (LO.ex (.r rfl) rfl) rfl <| VO.l (LO.as (.r rfl)) rfl <| VO.l (LO.as (.r rfl)) rfl <| VO.l (LO.as (.r rfl)) rfl <| VO.nil ?_)
  refine VE.seqN ?_
  refine VC.seq ?_
  refine VC.reg (VO.l (LO.mv (.r rfl)) rfl <| VO.l (LO.mv (.r rfl)) rfl <| VO.l (LO.mul (.r rfl) (.r rfl) (wi (by omega) (by omega))) rfl <| VO.l (LO.add (.r rfl) (.r rfl) (wi (by omega) (by omega))) rfl <| VO.l (LO.lt (.r rfl) (.r rfl)) rfl <| VO.l (LO.as (.r rfl)) rfl <| VO.nil ?_)
  refine VE.seqN ?_
  refine VC.ret (VE.res (vs := [_]) rfl ⟨rfl, trivial⟩ (fun w hw => ?_))
  exact ⟨rfl, hw.nil⟩

set_option maxRecDepth 20000 in
theorem rMean_c (l : List Int) (p : Option Addr) (c : Nat) (sl : Int) (w : World) (hn : l.length < 1000000) (hn0 : 0 < l.length) (hl : Ints w p l) (hb : ∀ x ∈ l, inT x) (hl1 : 0 ≤ sl) (hl2 : sl ≤ 1000000000000) :
  Calls Try.prog 56 #[.slice p l.length c, .int .i64 sl] w fun e w' => e = .returned (spanV (meanS l sl)) ∧ St (bs w) [] w' := by
  have hB := arcR_bd hb
  have hS : 0 ≤ arcSum l ∧ arcSum l ≤ 131070 * (l.length : Int) := arcT_bd _ (by omega) (by omega)
  have hlo := ediv_abs (a := arcSum l - sl) (n := (l.length : Int)) (B := 2000000000000) (by omega) (by omega) (by omega) (by omega)
  have hhi := ediv_abs (a := -(arcSum l + sl)) (n := (l.length : Int)) (B := 2000000000000) (by omega) (by omega) (by omega) (by omega)
  have hw3 := wr_bd ((arcSum l - sl) / (l.length : Int) + 32768)
  refine enter (vs := [_, _]) (env := [(0, _), (1, _)]) Try.func56 rfl rfl rfl rfl ?_
  refine VC.seq ?_
  refine VC.reg (VO.h rfl <| HO.alloc (C := #[_, _]) Z25 rfl fun b1 => VO.nil ?_)
  refine VE.seqN ?_
  refine VC.seq ?_
  refine VC.reg (VO.l (LO.mv (.r rfl)) rfl <| VO.l (LO.call (xs := [_]) (vs := [_]) C80 ⟨(.r rfl), trivial⟩ (fun w hw => rSum_c l p c w (by omega) (hl.keep w hw) hb)) rfl <| VO.l (LO.as (.r rfl)) rfl <| VO.nil ?_)
  refine VE.seqN ?_
  refine VC.seq ?_
  refine VC.reg (VO.l (LO.mv (.r rfl)) rfl <| VO.l (LO.mv (.r rfl)) rfl <| VO.l (LO.sub (.r rfl) (.r rfl) (wi (by omega) (by omega))) rfl <| VO.l (LO.mv (.r rfl)) rfl <| VO.l (LO.len S55 (.r rfl) rfl) rfl <| VO.l (LO.call (xs := [_, _]) (vs := [_, _]) C71 ⟨(.r rfl), (.r rfl), trivial⟩ (fun w _ => rDown_c _ _ (by omega) (by omega) (by omega) w)) rfl <| VO.l (LO.mv (.r rfl)) rfl <| VO.l (LO.mv (.r rfl)) rfl <| VO.l (LO.add (.r rfl) (.r rfl) (wi (by omega) (by omega))) rfl <| VO.l (LO.mv (.r rfl)) rfl <| VO.l (LO.len S55 (.r rfl) rfl) rfl <| VO.l (LO.call (xs := [_, _]) (vs := [_, _]) C52 ⟨(.r rfl), (.r rfl), trivial⟩ (fun w _ => rUp_c _ _ (by omega) (by omega) (by omega) w)) rfl <| VO.l (LO.bd (ps := [(_, _), (_, _)]) (vs := [(_, _), (_, _)]) (C := [_, _]) B25  ⟨(.r rfl), (.r rfl), trivial⟩ rfl ⟨_, [_], [_, _], rfl, rfl, rfl, rfl, ⟨_, [_], [_, _], rfl, rfl, rfl, rfl, rfl⟩⟩) rfl <| VO.h rfl <| HO.alloc (C := #[_, _]) Z25 rfl fun b2 => VO.h0 <| HO.st 0 (vs := [_, _]) (C' := [_, _]) (L' := [_, _]) N25 rfl rfl rfl rfl rfl rfl rfl rfl <| VO.nil ?_)
  refine VE.seqN ?_
  refine VC.seq ?_
  refine VC.draw mixed (LL.l (LO.fa (r := 0) F25_0 (.r rfl) rfl) rfl <| LL.l (LO.ld O3 (.r rfl) (fun _ hw => cells_at hw 0 rfl ⟨_, rfl⟩)) rfl <| LL.l (LO.add (.r rfl) (.r rfl) (wi (by omega) (by omega))) rfl <| LL.l (LO.call (xs := [_]) (vs := [_]) C50 ⟨(.r rfl), trivial⟩ (fun w _ => rWrap_c _ (by omega) (by omega) w)) rfl <| LL.l (LO.sub (.r rfl) (.r rfl) (wi (by omega) (by omega))) rfl <| LL.l (LO.fa (r := 0) F25_0 (.r rfl) rfl) rfl <| LL.l (LO.ld O3 (.r rfl) (fun _ hw => cells_at hw 0 rfl ⟨_, rfl⟩)) rfl <| LL.l (LO.sub (.r rfl) (.r rfl) (wi (by omega) (by omega))) rfl <| LL.l (LO.as (.r rfl)) rfl <| LL.nil) (by kernel_rfl) ?_
  refine VE.seqN ?_
  refine VC.seq ?_
  refine VC.reg (VO.l (LO.fa (r := 0) F25_0 (.r rfl) rfl) rfl <| VO.l (LO.ld O3 (.r rfl) (fun _ hw => cells_at hw 0 rfl ⟨_, rfl⟩)) rfl <| VO.l (LO.mv (.r rfl)) rfl <| VO.l (LO.add (.r rfl) (.r rfl) (wi (by omega) (by omega))) rfl <| VO.l (LO.fa (r := 1) F25_1 (.r rfl) rfl) rfl <| VO.l (LO.ld O3 (.r rfl) (fun _ hw => cells_at hw 0 rfl ⟨_, rfl⟩)) rfl <| VO.l (LO.mv (.r rfl)) rfl <| VO.l (LO.add (.r rfl) (.r rfl) (wi (by unfold up; omega) (by unfold up; omega))) rfl <| VO.l (LO.bd (ps := [(_, _), (_, _)]) (vs := [(_, _), (_, _)]) (C := [_, _]) B25  ⟨(.r rfl), (.r rfl), trivial⟩ rfl ⟨_, [_], [_, _], rfl, rfl, rfl, rfl, ⟨_, [_], [_, _], rfl, rfl, rfl, rfl, rfl⟩⟩) rfl <| VO.h0 <| HO.st 1 (vs := [_, _]) (C' := [_, _]) (L' := [_, _]) N25 rfl rfl rfl rfl rfl rfl rfl rfl <| VO.nil ?_)
  refine VE.seqN ?_
  refine VC.ret (VE.res (vs := [_]) rfl ⟨RV.agg (vs := [_, _]) A25 rfl (cells_blk 1 rfl ⟨_, rfl⟩) rfl, trivial⟩ (fun w hw => ?_))
  refine ⟨?_, hw.nil⟩
  simp only [resV]
  exact rmean_eq hn0

set_option maxRecDepth 20000 in
theorem rSteps_c (t : Train) (l : List Sample) (p : Option Addr) (c : Nat) (w : World) (hn : l.length ≤ 64) (hn1 : 2 ≤ l.length) (hk : kndOk t.kind) (hs : ∀ x ∈ l, smpOk x) (hl : Smps w p l) :
  Calls Try.prog 54 #[trainV t, .slice p l.length c] w fun e w' => ∃ x : (Option Addr × Nat) × (Option Addr × Nat), True ∧ e = .returned (.agg #[.slice x.1.1 (stL t.kind l 0).length x.1.2, .slice x.2.1 (stL t.kind l 1).length x.2.2]) ∧ St (bs w) [own 3 1 x.1.1 x.1.2 ((stL t.kind l 0).map intC), own 3 1 x.2.1 x.2.2 ((stL t.kind l 1).map intC)] w' := by
  have hd2 := tdiv_nat l.length
  unfold kndOk at hk
  refine enter (vs := [_, _]) (env := [(0, _), (1, _)]) Try.func54 rfl rfl rfl rfl ?_
  refine VC.seq ?_
  refine VC.reg (VO.h rfl <| HO.box (C := #[_, _, _, _, _]) rfl rfl fun b1 => VO.h rfl <| HO.alloc (C := #[_, _]) Z105 rfl fun b2 => VO.nil ?_)
  refine VE.seqN ?_
  refine VC.seq ?_
  refine VC.reg (VO.h rfl <| HO.alloc (C := #[_, _]) Z105 rfl fun b3 => VO.nil ?_)
  refine VE.seqN ?_
  refine VC.seq ?_
  refine VC.seq ?_
  refine VC.reg (VO.l (LO.as (.r rfl)) rfl <| VO.nil ?_)
  refine VE.seqN ?_
  refine VC.block ?_
  refine VC.loopK (α := Nat × (List Int) × (Option Addr) × Nat × (List Int) × (Option Addr) × Nat) 1 (fun gx => [(6, .int .i64 (gx.1 : Nat))]) [(1, _), (2, _), (4, _), (5, _)] (fun gx => [blk b3 (.cells #[.slice gx.2.2.1 gx.2.1.length gx.2.2.2.1, .slice gx.2.2.2.2.2.1 gx.2.2.2.2.1.length gx.2.2.2.2.2.2] 105), own 3 1 gx.2.2.1 gx.2.2.2.1 (gx.2.1.map intC), own 3 1 gx.2.2.2.2.2.1 gx.2.2.2.2.2.2 (gx.2.2.2.2.1.map intC)]) (fun gx => gx.1 ≤ l.length - 1 ∧ gx.2.1 = stP t.kind l 0 gx.1 ∧ gx.2.2.2.2.1 = stP t.kind l 1 gx.1) (fun gx => l.length - 1 - gx.1) (0, [], none, 0, [], none, 0) (by exact ⟨by omega, rfl, rfl⟩) (.cons rfl (.cons rfl (.cons rfl (.cons rfl (.cons rfl .nil))))) (fun _ h => (((h.ownNil 3 1).ownNil 3 1)).sel [2, 0, 1, 3, 4] rfl) ?_
  rintro ⟨i, s0, p0, c0, s1, p1, c1⟩ ⟨hi, hs0, hs1⟩
  show VC _ _ _ _ _ ([(6, .int .i64 (i : Nat))] ++ _) ([blk b3 (.cells #[.slice p0 s0.length c0, .slice p1 s1.length c1] 105), own 3 1 p0 c0 (s0.map intC), own 3 1 p1 c1 (s1.map intC)] ++ _) _ _
  dsimp only at hi hs0 hs1
  have hs2 := stP_len t.kind l 0 i
  have hs3 := stP_len t.kind l 1 i
  rw [← hs0] at hs2
  rw [← hs1] at hs3
  refine VC.seq ?_
  refine VC.seq ?_
  refine VC.reg (VO.l (LO.mv (.r rfl)) rfl <| VO.l (LO.add (.r rfl) (.r rfl) (wi (by omega) (by omega))) rfl <| VO.l (LO.mv (.r rfl)) rfl <| VO.l (LO.len S39 (.r rfl) rfl) rfl <| VO.l (LO.lt (.r rfl) (.r rfl)) rfl <| VO.nil ?_)
  refine VE.seqN ?_
  refine VC.cond rfl (fun h1 => ?_) (fun h1 => ?_)
  ·
    refine VC.skip (VE.seqN ?_)
    refine VC.seq ?_
    refine VC.block ?_
    refine VC.seq ?_
    have q1 := hs _ (getD_mem (d := zSm) (show i < l.length by omega))
    have q2 := hs _ (getD_mem (d := zSm) (show i + 1 < l.length by omega))
    unfold smpOk at q1 q2
    have hd3 := tmod_nat i
    refine VC.draw mixed (LL.l (LO.mv (.r rfl)) rfl <| LL.l (LO.mv (.r rfl)) rfl <| LL.l (LO.add (.r rfl) (.r rfl) (wi (by omega) (by omega))) rfl <| LL.l (LO.ixs S39 N101 hl.sm (.r rfl) (.r rfl) (by omega) (by omega)) rfl <| LL.l (LO.fa F101_1 (.r rfl) rfl) rfl <| LL.l (LO.ld O3 (.r rfl) (fun w hw => cells_part (off := 1) ((hl.at zSm (j := (i + 1)) (by omega)) w hw) ⟨_, rfl⟩)) rfl <| LL.l (LO.mv (.r rfl)) rfl <| LL.l (LO.mv (.r rfl)) rfl <| LL.l (LO.ixs S39 N101 hl.sm (.r rfl) (.r rfl) rfl (by omega)) rfl <| LL.l (LO.fa F101_1 (.r rfl) rfl) rfl <| LL.l (LO.ld O3 (.r rfl) (fun w hw => cells_part (off := 1) ((hl.at zSm (j := i) (by omega)) w hw) ⟨_, rfl⟩)) rfl <| LL.l (LO.sub (.r rfl) (.r rfl) (wi (by omega) (by omega))) rfl <| LL.l (LO.call (xs := [_]) (vs := [_]) C50 ⟨(.r rfl), trivial⟩ (fun w _ => rWrap_c _ (by omega) (by omega) w)) rfl <| LL.l (LO.as (.r rfl)) rfl <| LL.nil) (by kernel_rfl) ?_
    refine VE.seqN ?_
    refine VC.block ?_
    refine VC.seq ?_
    refine VC.reg (VO.l (LO.fa (r := 1) F37_1 (.r rfl) rfl) rfl <| VO.l (LO.ld O3 (.r rfl) (fun _ hw => cells_at hw 4 rfl ⟨_, rfl⟩)) rfl <| VO.l (LO.eq (.r rfl) (.r rfl)) rfl <| VO.l (LO.mv (.r rfl)) rfl <| VO.lg rfl rfl (GD.f _) (fun hg => LO.fa (r := 1) F37_1 (.r rfl) rfl) rfl <| VO.lg rfl rfl (GD.f _) (fun hg => LO.ld O3 (.g hg rfl) (fun _ hw => cells_at hw 4 rfl ⟨_, rfl⟩)) rfl <| VO.lg rfl rfl (GD.f _) (fun hg => LO.eq (.g hg rfl) (.r rfl)) rfl <| VO.lg rfl rfl (GD.f _) (fun hg => LO.mv (.g hg rfl)) rfl <| VO.lg rfl rfl (GD.nt _ _) (fun hg => LO.mv (.r rfl)) rfl <| VO.lg rfl rfl (GD.nt _ _) (fun hg => LO.add (.g hg rfl) (.r rfl) (wi (by omega) (by omega))) rfl <| VO.lg rfl rfl (GD.nt _ _) (fun hg => LO.mv (.r rfl)) rfl <| VO.lg rfl rfl (GD.nt _ _) (fun hg => LO.len S39 (.g hg rfl) rfl) rfl <| VO.lg rfl rfl (GD.nt _ _) (fun hg => LO.quo (.g hg rfl) (.r rfl) (by omega) (wi (by omega) (by omega))) rfl <| VO.lg rfl rfl (GD.nt _ _) (fun hg => LO.lt (.g hg rfl) (.g hg rfl)) rfl <| VO.lg rfl rfl (GD.f _) (fun hg => LO.pkA (.g hg rfl) rfl (and_e hg) (.r rfl)) rfl <| VO.l (LO.pkO (.r rfl) (.r rfl) rfl rfl) rfl <| VO.l (LO.mv (.r rfl)) rfl <| VO.lg rfl rfl (GD.f _) (fun hg => LO.fa (r := 1) F37_1 (.r rfl) rfl) rfl <| VO.lg rfl rfl (GD.f _) (fun hg => LO.ld O3 (.g hg rfl) (fun _ hw => cells_at hw 4 rfl ⟨_, rfl⟩)) rfl <| VO.lg rfl rfl (GD.f _) (fun hg => LO.eq (.g hg rfl) (.r rfl)) rfl <| VO.lg rfl rfl (GD.f _) (fun hg => LO.mv (.g hg rfl)) rfl <| VO.lg rfl rfl (GD.nt _ _) (fun hg => LO.mv (.r rfl)) rfl <| VO.lg rfl rfl (GD.nt _ _) (fun hg => LO.rem (.g hg rfl) (.r rfl) (by omega)) rfl <| VO.lg rfl rfl (GD.nt _ _) (fun hg => LO.eq (.g hg rfl) (.r rfl)) rfl <| VO.lg rfl rfl (GD.f _) (fun hg => LO.pkA (.g hg rfl) rfl (and_e hg) (.r rfl)) rfl <| VO.l (LO.pkO (.r rfl) (.r rfl) rfl rfl) rfl <| VO.l (LO.as (.r rfl)) rfl <| VO.nil ?_)
    refine VE.seqN ?_
    refine VC.cond rfl (fun h28 => ?_) (fun h28 => ?_)
    ·
      refine VC.reg (VO.l (LO.ixa (j := 0) (r := 0) Try.underlying105 N55 (.r rfl) (.r rfl) rfl (by decide) rfl) rfl <| VO.l (LO.ld O55 (.r rfl) (fun _ hw => cells_at hw 0 rfl ⟨_, rfl⟩)) rfl <| VO.l (LO.mv (.r rfl)) rfl <| VO.h rfl <| HO.bs (ps := [(_, _)]) (vs := [(_, _)]) (Z := [_]) (C := [_]) S55 Z3 N3 ⟨(.r rfl), trivial⟩ rfl rfl rfl rfl ⟨_, [_], [_], rfl, rfl, rfl, rfl, rfl⟩ fun b7 => VO.h rfl <| HO.appT ((stD l i)) 2 0 (fun R => [_, _, R, _, _, _]) S55 S55 I3 (.r rfl) (.r rfl) rfl rfl rfl rfl rfl rfl rfl (fun _ => rfl) rfl (by omega) fun p4 c4 => VO.l (LO.ixa (j := 0) (r := 0) Try.underlying105 N55 (.r rfl) (.r rfl) rfl (by decide) rfl) rfl <| VO.h0 <| HO.st 1 (vs := [_]) (C' := [_, _]) (L' := [_, _, _, _, _, _]) N55 rfl rfl rfl rfl rfl rfl rfl rfl <| VO.nil ?_)
      refine VE.inN (VE.inN (VE.seqN ?_))
      refine VC.reg (VO.l (LO.mv (.r rfl)) rfl <| VO.l (LO.add (.r rfl) (.r rfl) (wi (by omega) (by omega))) rfl <| VO.l (LO.as (.r rfl)) rfl <| VO.nil ?_)
      refine VE.thenN fun a w ha hw => ⟨(i + 1, s0 ++ [stD l i], p4, c4, s1, p1, c1), (by refine ⟨by dsimp only; omega, ?_, ?_⟩ <;> dsimp only <;> first | (rw [hs0]; exact (stP_yes (stW_r hk hd2 hd3 (by omega))).symm) | (rw [hs1]; exact (stP_yes (stW_r hk hd2 hd3 (by omega))).symm) | (rw [hs0]; exact (stP_no (stW_n hk hd2 hd3 (by omega))).symm) | (rw [hs1]; exact (stP_no (stW_n hk hd2 hd3 (by omega))).symm)), (by dsimp only; omega), ha.sub (.cons rfl (.cons rfl (.cons rfl (.cons rfl (.cons rfl .nil))))), hw.sel [1, 2, 3, 4, 5] rfl⟩
    ·
      refine VC.seq ?_
      refine VC.reg (VO.l (LO.fa (r := 1) F37_1 (.r rfl) rfl) rfl <| VO.l (LO.ld O3 (.r rfl) (fun _ hw => cells_at hw 4 rfl ⟨_, rfl⟩)) rfl <| VO.l (LO.eq (.r rfl) (.r rfl)) rfl <| VO.l (LO.mv (.r rfl)) rfl <| VO.lg rfl rfl (GD.f _) (fun hg => LO.mv (.r rfl)) rfl <| VO.lg rfl rfl (GD.f _) (fun hg => LO.mv (.r rfl)) rfl <| VO.lg rfl rfl (GD.f _) (fun hg => LO.len S39 (.g hg rfl) rfl) rfl <| VO.lg rfl rfl (GD.f _) (fun hg => LO.quo (.g hg rfl) (.r rfl) (by omega) (wi (by omega) (by omega))) rfl <| VO.lg rfl rfl (GD.f _) (fun hg => LO.ge (.g hg rfl) (.g hg rfl)) rfl <| VO.l (LO.pkO (.r rfl) (.r rfl) rfl rfl) rfl <| VO.l (LO.as (.r rfl)) rfl <| VO.nil ?_)
      refine VE.seqN ?_
      refine VC.cond rfl (fun h61 => ?_) (fun h61 => ?_)
      ·
        refine VC.reg (VO.l (LO.ixa (j := 1) (r := 1) Try.underlying105 N55 (.r rfl) (.r rfl) rfl (by decide) rfl) rfl <| VO.l (LO.ld O55 (.r rfl) (fun _ hw => cells_at hw 0 rfl ⟨_, rfl⟩)) rfl <| VO.l (LO.mv (.r rfl)) rfl <| VO.h rfl <| HO.bs (ps := [(_, _)]) (vs := [(_, _)]) (Z := [_]) (C := [_]) S55 Z3 N3 ⟨(.r rfl), trivial⟩ rfl rfl rfl rfl ⟨_, [_], [_], rfl, rfl, rfl, rfl, rfl⟩ fun b9 => VO.h rfl <| HO.appT ((stD l i)) 3 0 (fun R => [_, _, _, R, _, _]) S55 S55 I3 (.r rfl) (.r rfl) rfl rfl rfl rfl rfl rfl rfl (fun _ => rfl) rfl (by omega) fun p4 c4 => VO.l (LO.ixa (j := 1) (r := 1) Try.underlying105 N55 (.r rfl) (.r rfl) rfl (by decide) rfl) rfl <| VO.h0 <| HO.st 1 (vs := [_]) (C' := [_, _]) (L' := [_, _, _, _, _, _]) N55 rfl rfl rfl rfl rfl rfl rfl rfl <| VO.nil ?_)
        refine VE.inN (VE.inN (VE.seqN ?_))
        refine VC.reg (VO.l (LO.mv (.r rfl)) rfl <| VO.l (LO.add (.r rfl) (.r rfl) (wi (by omega) (by omega))) rfl <| VO.l (LO.as (.r rfl)) rfl <| VO.nil ?_)
        refine VE.thenN fun a w ha hw => ⟨(i + 1, s0, p0, c0, s1 ++ [stD l i], p4, c4), (by refine ⟨by dsimp only; omega, ?_, ?_⟩ <;> dsimp only <;> first | (rw [hs0]; exact (stP_yes (stW_r hk hd2 hd3 (by omega))).symm) | (rw [hs1]; exact (stP_yes (stW_r hk hd2 hd3 (by omega))).symm) | (rw [hs0]; exact (stP_no (stW_n hk hd2 hd3 (by omega))).symm) | (rw [hs1]; exact (stP_no (stW_n hk hd2 hd3 (by omega))).symm)), (by dsimp only; omega), ha.sub (.cons rfl (.cons rfl (.cons rfl (.cons rfl (.cons rfl .nil))))), hw.sel [1, 2, 3, 4, 5] rfl⟩
      ·
        refine VC.skip (VE.inN (VE.inN (VE.seqN ?_)))
        refine VC.reg (VO.l (LO.mv (.r rfl)) rfl <| VO.l (LO.add (.r rfl) (.r rfl) (wi (by omega) (by omega))) rfl <| VO.l (LO.as (.r rfl)) rfl <| VO.nil ?_)
        refine VE.thenN fun a w ha hw => ⟨(i + 1, s0, p0, c0, s1, p1, c1), (by refine ⟨by dsimp only; omega, ?_, ?_⟩ <;> dsimp only <;> first | (rw [hs0]; exact (stP_yes (stW_r hk hd2 hd3 (by omega))).symm) | (rw [hs1]; exact (stP_yes (stW_r hk hd2 hd3 (by omega))).symm) | (rw [hs0]; exact (stP_no (stW_n hk hd2 hd3 (by omega))).symm) | (rw [hs1]; exact (stP_no (stW_n hk hd2 hd3 (by omega))).symm)), (by dsimp only; omega), ha.sub (.cons rfl (.cons rfl (.cons rfl (.cons rfl (.cons rfl .nil))))), hw⟩
  ·
    refine VC.exit (VE.thenX (VE.thenX (VE.inX (VE.seqN ?_))))
    refine VC.seq ?_
    refine VC.reg (VO.l (LO.lda (vs := [_, _]) A105 (.r rfl) (fun _ hw => cells_at hw 0 rfl ⟨_, rfl⟩) rfl) rfl <| VO.h0 <| HO.st 3 (vs := [_, _]) (C' := [_, _]) (L' := [_, _, _, _, _]) N105 rfl rfl rfl rfl rfl rfl rfl rfl <| VO.nil ?_)
    refine VE.seqN ?_
    refine VC.ret (VE.res (vs := [_]) rfl ⟨RV.agg (vs := [_, _]) A105 rfl (cells_blk 3 rfl ⟨_, rfl⟩) rfl, trivial⟩ (fun w hw => ?_))
    have hi2 : i = l.length - 1 := by omega
    subst hi2
    subst hs0
    subst hs1
    exact ⟨((p0, c0), (p1, c1)), trivial, rfl, hw.sel [1, 2] rfl⟩

end Go.Proofs.Ytcnlhifkablmkaa
