/-
  Arcs of the program.
-/
import Derived.Test.YtcnlhifkablmkaaW4
namespace Go.Proofs.Ytcnlhifkablmkaa
open Go.SL Go.Proofs Go.Pulse
set_option linter.unusedVariables false

theorem C91 : IsFn Try.prog 91 := ⟨_, Try.func91, by decide, rfl⟩
theorem F112_3 : FieldAt Try.prog 112 3 3 := ⟨_, _, Try.underlying112, rfl, rfl, 0, by kernel_rfl⟩
theorem F112_1 : FieldAt Try.prog 112 1 1 := ⟨_, _, Try.underlying112, rfl, rfl, 0, by kernel_rfl⟩
theorem F112_2 : FieldAt Try.prog 112 2 2 := ⟨_, _, Try.underlying112, rfl, rfl, 0, by kernel_rfl⟩
theorem C69 : IsFn Try.prog 69 := ⟨_, Try.func69, by decide, rfl⟩
theorem C46 : IsFn Try.prog 46 := ⟨_, Try.func46, by decide, rfl⟩
theorem Z112 : ZeroOf Try.prog 112 (.agg #[.int .i64 0, .int .i64 0, .int .i64 0, .int .i64 0]) := by unfold ZeroOf; kernel_rfl
theorem C84 : IsFn Try.prog 84 := ⟨_, Try.func84, by decide, rfl⟩
theorem C83 : IsFn Try.prog 83 := ⟨_, Try.func83, by decide, rfl⟩
theorem C82 : IsFn Try.prog 82 := ⟨_, Try.func82, by decide, rfl⟩
theorem B112 : Builds Try.prog 112 [(0, 1), (1, 1), (2, 1), (3, 1)] [.int .i64 0, .int .i64 0, .int .i64 0, .int .i64 0] := Builds.mk fun _ => by kernel_rfl
theorem N112 : (Try.prog.info? 112).map (·.size) = some 4 := by kernel_rfl
theorem F112_0 : FieldAt Try.prog 112 0 0 := ⟨_, _, Try.underlying112, rfl, rfl, 0, by kernel_rfl⟩
theorem A112 : IsAgg Try.prog 112 4 := ⟨⟨_, Try.underlying112, rfl⟩, by kernel_rfl⟩
theorem C58 : IsFn Try.prog 58 := ⟨_, Try.func58, by decide, rfl⟩
theorem C60 : IsFn Try.prog 60 := ⟨_, Try.func60, by decide, rfl⟩


abbrev arcV (l : List Int) : Value := .agg #[.int .i64 (arcR l).1, .int .i64 (arcR l).2, .int .i64 (arcSum l), .int .i64 l.length]
def meanR (s n sl : Int) : Span := if n = 0 then zs else ⟨wr ((s - sl) / n + 32768) - 32768, wr ((s - sl) / n + 32768) - 32768 + up (s + sl) n - (s - sl) / n⟩
theorem ediv_abs {a n B : Int} (hn : 0 < n) (h1 : -B ≤ a) (h2 : a ≤ B) (hB : 0 ≤ B) : -B ≤ a / n ∧ a / n ≤ B := by
  constructor
  · rw [Int.le_ediv_iff_mul_le hn]
    have : B * 1 ≤ B * n := Int.mul_le_mul_of_nonneg_left (by omega) hB
    rw [Int.neg_mul]; omega
  · have : B * 1 ≤ B * n := Int.mul_le_mul_of_nonneg_left (by omega) hB
    have : a / n < B + 1 := Int.ediv_lt_of_lt_mul hn (by rw [Int.add_mul]; omega)
    omega
theorem cells_fr {w w' : World} {p : Addr} {vs : List Value} (hfr : ∀ k, k < w.heap.size → w'.heap[k]? = w.heap[k]?) (h : Cells w p vs) : Cells w' p vs := by
  intro j v hj
  have h0 := h j v hj
  have hb : (p.add j).block < w.heap.size := by
    rcases Nat.lt_or_ge (p.add j).block w.heap.size with h | h
    · exact h
    · simp [World.cell?, Array.getElem?_eq_none h] at h0
  rw [World.cell?_of_block (w := w) (hfr _ hb)]; exact h0
theorem ro_fr {w w' : World} {z : Nat} {p : Option Addr} {rows : List (List Value)} (hfr : ∀ k, k < w.heap.size → w'.heap[k]? = w.heap[k]?) (h : Go.SL.Rows w z p rows) : Go.SL.Rows w' z p rows := ⟨fun j r hr => cells_fr hfr (h.cells j r hr), h.nil, h.spot⟩
theorem sortL_asc (l : List Int) : (sortL l).Pairwise (· ≤ ·) := by
  have := List.pairwise_mergeSort (le := fun x y : Int => decide (x ≤ y)) (fun a b c h k => by simp at h k ⊢; omega) (fun a b => by simp; omega) l
  exact this.imp (fun h => by simpa using h)
theorem get_bang {d : List Int} {i : Nat} (h : i < d.length) : d.toArray[i]! = d[i] := by
  rw [getElem!_pos _ _ (by simpa using h)]; simp
theorem comp_mem (l : List Int) : ∀ x, x ∈ Lib.compact (sortL l) ↔ x ∈ l := by
  intro x
  have hs := sortL_asc l
  have hm : x ∈ l ↔ x ∈ sortL l := by unfold sortL; exact List.mem_mergeSort.symm
  rw [hm]
  generalize sortL l = z at hs
  unfold Lib.compact Lib.compactUpTo
  constructor
  · intro h
    obtain ⟨k, hk, rfl⟩ := List.mem_map.1 h
    have hk := List.mem_range.1 (List.mem_filter.1 hk).1
    rw [get_bang hk]; exact List.getElem_mem hk
  · intro h
    obtain ⟨k, hk, e⟩ := List.mem_iff_getElem.1 h
    have key : ∀ k (hk : k < z.length), z[k] = x → x ∈ ((List.range z.length).filter (Lib.keeps z.toArray)).map (z.toArray[·]!) := by
      intro k
      induction k with
      | zero =>
        intro hk e
        exact List.mem_map.2 ⟨0, List.mem_filter.2 ⟨List.mem_range.2 hk, by simp [Lib.keeps]⟩, by rw [get_bang hk, e]⟩
      | succ k ih =>
        intro hk e
        by_cases q : z[k] = x
        · exact ih (by omega) q
        · exact List.mem_map.2 ⟨k + 1, List.mem_filter.2 ⟨List.mem_range.2 hk, by
            simp only [Lib.keeps, decide_eq_true_eq]
            right
            rw [get_bang hk, Nat.add_sub_cancel, get_bang (by omega), e]; exact fun h => q h.symm⟩, by rw [get_bang hk, e]⟩
    exact key k hk e
theorem comp_asc (l : List Int) : (Lib.compact (sortL l)).Pairwise (· < ·) := by
  have hs := sortL_asc l
  generalize sortL l = z at hs
  unfold Lib.compact Lib.compactUpTo
  rw [List.pairwise_map, List.pairwise_filter]
  have hle : ∀ {a b : Nat} (ha : a < z.length) (hb' : b < z.length), a ≤ b → z[a] ≤ z[b] := fun {a b} ha hb' hab => by
    rcases Nat.lt_or_eq_of_le hab with q | q
    · exact List.pairwise_iff_getElem.1 hs _ _ ha hb' q
    · subst q; exact Int.le_refl _
  refine List.pairwise_iff_getElem.2 fun i j hi hj hij h1 h2 => ?_
  rw [List.length_range] at hi hj
  rw [List.getElem_range, List.getElem_range] at *
  simp only [Lib.keeps, decide_eq_true_eq] at h2
  rw [get_bang hi, get_bang hj] at *
  rcases h2 with h2 | h2
  · omega
  · rw [get_bang (by omega)] at h2
    have a1 := hle hi (show j - 1 < z.length by omega) (by omega)
    have a2 := hle (show j - 1 < z.length by omega) hj (by omega)
    omega
def ascF (s : List Int) (i : Nat) : Int × Int := (s.take i).foldl (ascStep s) (0, 65536)
theorem ascF_succ {s : List Int} {i : Nat} (hi : i < s.length) : ascF s (i + 1) = ascStep s (ascF s i) (s.getD i 0) := by
  unfold ascF
  rw [take_at (getD_some (d := 0) hi), List.foldl_append]; rfl
theorem asc_w {s : List Int} (hs : s.Pairwise (· < ·)) (hb : ∀ k, k < s.length → inT (s.getD k 0)) {i : Nat} (hi : i < s.length) : arcW s (s.getD i 0) = wr (s.getD ((i + s.length - 1) % s.length) 0 - s.getD i 0) := by
  have h := arcW_asc hs (fun x hx => by
    obtain ⟨k, hk, rfl⟩ := mem_getD (d := 0) hx
    exact hb k hk) hi
  have hm : (i + s.length - 1) % s.length < s.length := Nat.mod_lt _ (by omega)
  rw [List.getD_eq_getElem?_getD, List.getElem?_eq_getElem hi, List.getD_eq_getElem?_getD, List.getElem?_eq_getElem hm]
  exact h
theorem asc_t {s : List Int} (hs : s.Pairwise (· < ·)) (hb : ∀ k, k < s.length → inT (s.getD k 0)) {i : Nat} (hi : i < s.length) (h : wr (s.getD ((i + s.length - 1) % s.length) 0 - s.getD i 0) < (ascF s i).2) : ascF s (i + 1) = (s.getD i 0, wr (s.getD ((i + s.length - 1) % s.length) 0 - s.getD i 0)) := by
  rw [ascF_succ hi, ascStep, asc_w hs hb hi, if_pos h]
theorem asc_f {s : List Int} (hs : s.Pairwise (· < ·)) (hb : ∀ k, k < s.length → inT (s.getD k 0)) {i : Nat} (hi : i < s.length) (h : ¬ wr (s.getD ((i + s.length - 1) % s.length) 0 - s.getD i 0) < (ascF s i).2) : ascF s (i + 1) = ascF s i := by
  rw [ascF_succ hi, ascStep, asc_w hs hb hi, if_neg h]
theorem rem_ix {i n : Nat} (h : i < n) : ((i : Int) + (n : Int) - 1).tmod (n : Int) = (((i + n - 1) % n : Nat) : Int) := by
  rw [Int.tmod_eq_emod_of_nonneg (by omega)]
  rw [show (i : Int) + (n : Int) - 1 = ((i + n - 1 : Nat) : Int) by omega]
  exact (Int.natCast_emod _ _).symm
theorem arcR_bd {l : List Int} (hb : ∀ x ∈ l, inT x) : (0 ≤ (arcR l).1 ∧ (arcR l).1 ≤ 65535) ∧ 0 ≤ (arcR l).2 ∧ (arcR l).2 ≤ 65536 := by
  by_cases h : l = []
  · subst h; decide
  · obtain ⟨h1, h2, _⟩ := arcR_is h
    have := hb _ h1
    have := arcW_bd l (arcR l).1
    unfold inT at *
    omega
theorem arcT_bd (m : List Int) {b : Int} (h1 : 0 ≤ b) (h2 : b ≤ 65535) : 0 ≤ arcT m b ∧ arcT m b ≤ 131070 * (m.length : Int) := by
  induction m with
  | nil => simp [arcT]
  | cons x m ih =>
    have := wr_bd (x - b)
    simp only [arcT, List.map_cons, List.sum_cons, List.length_cons] at *
    omega
theorem arcT_step {l : List Int} {b : Int} {j : Nat} (hj : j < l.length) : arcT (l.take (j + 1)) b = arcT (l.take j) b + (b + wr (l.getD j 0 - b)) := by
  unfold arcT
  rw [take_at (getD_some (d := 0) hj), List.map_append, List.sum_append]
  simp
def arcE (l : List Int) : Int := if l = [] then 18 else if ∀ x ∈ l, inT x then 0 else 3
def arcX (l : List Int) : Int × Int := if arcE l = 0 then arcR l else (0, 0)
theorem len0 {l : List Int} : (l.length : Int) = 0 ↔ l = [] := by
  rw [← List.length_eq_zero_iff]; omega
theorem arc1 {l : List Int} (h : (l.length : Int) = 0) : Ending.returned (.tuple #[.int .i64 0, .int .i64 0, .int .i64 18]) = .returned (.tuple #[.int .i64 (arcX l).1, .int .i64 (arcX l).2, .int .i64 (arcE l)]) := by
  have e : arcE l = 18 := if_pos (len0.1 h)
  have x : arcX l = (0, 0) := if_neg (by rw [e]; decide)
  rw [e, x]
theorem arc2 {l : List Int} (h : ¬ (l.length : Int) = 0) (k : ¬ ∀ x ∈ l, inT x) : Ending.returned (.tuple #[.int .i64 0, .int .i64 0, .int .i64 3]) = .returned (.tuple #[.int .i64 (arcX l).1, .int .i64 (arcX l).2, .int .i64 (arcE l)]) := by
  have e : arcE l = 3 := by unfold arcE; rw [if_neg (fun q => h (len0.2 q)), if_neg k]
  have x : arcX l = (0, 0) := if_neg (by rw [e]; decide)
  rw [e, x]
theorem arc3 {l : List Int} (h : ¬ (l.length : Int) = 0) (k : ¬ ¬ ∀ x ∈ l, inT x) : Ending.returned (.tuple #[.int .i64 (arcR l).1, .int .i64 (arcR l).2, .int .i64 0]) = .returned (.tuple #[.int .i64 (arcX l).1, .int .i64 (arcX l).2, .int .i64 (arcE l)]) := by
  have e : arcE l = 0 := by unfold arcE; rw [if_neg (fun q => h (len0.2 q)), if_pos (Classical.not_not.1 k)]
  have x : arcX l = arcR l := if_pos e
  rw [e, x]

set_option maxRecDepth 20000 in
theorem tog_c (b wd s n ph : Int) (w : World) (h1 : 0 ≤ wd) (h2 : wd ≤ 65536) (h3 : 0 ≤ ph) (h4 : ph ≤ 4096) :
  Calls Try.prog 77 #[.agg #[.int .i64 b, .int .i64 wd, .int .i64 s, .int .i64 n], .int .i64 ph] w fun e w' => e = .returned (.bool (decide (n = 0) || decide (wd + 4 * ph < 32768))) ∧ St (bs w) [] w' := by
  refine enter (vs := [_, _]) (env := [(0, _), (1, _)]) Try.func77 rfl rfl rfl rfl ?_
  refine VC.seq ?_
  refine VC.reg (VO.h rfl <| HO.box (C := #[_, _, _, _]) rfl rfl fun b1 => VO.l (LO.as (.r rfl)) rfl <| VO.nil ?_)
  refine VE.seqN ?_
  refine VC.seq ?_
  refine VC.reg (VO.l (LO.fa (r := 3) F112_3 (.r rfl) rfl) rfl <| VO.l (LO.ld O3 (.r rfl) (fun _ hw => cells_at hw 0 rfl ⟨_, rfl⟩)) rfl <| VO.l (LO.eq (.r rfl) (.r rfl)) rfl <| VO.l (LO.mv (.r rfl)) rfl <| VO.lg rfl rfl (GD.f _) (fun hg => LO.fa (r := 1) F112_1 (.r rfl) rfl) rfl <| VO.lg rfl rfl (GD.f _) (fun hg => LO.ld O3 (.g hg rfl) (fun _ hw => cells_at hw 0 rfl ⟨_, rfl⟩)) rfl <| VO.lg rfl rfl (GD.f _) (fun hg => LO.mv (.r rfl)) rfl <| VO.lg rfl rfl (GD.f _) (fun hg => LO.mul (.r rfl) (.g hg rfl) (wi (by omega) (by omega))) rfl <| VO.lg rfl rfl (GD.f _) (fun hg => LO.add (.g hg rfl) (.g hg rfl) (wi (by omega) (by omega))) rfl <| VO.lg rfl rfl (GD.f _) (fun hg => LO.lt (.g hg rfl) (.r rfl)) rfl <| VO.l (LO.pkO (.r rfl) (.r rfl) rfl rfl) rfl <| VO.l (LO.as (.r rfl)) rfl <| VO.nil ?_)
  refine VE.seqN ?_
  refine VC.ret (VE.res (vs := [_]) rfl ⟨rfl, trivial⟩ (fun w hw => ?_))
  exact ⟨rfl, hw.nil⟩

set_option maxRecDepth 20000 in
theorem mean_c (b wd s n sl : Int) (w : World) (hs1 : -1000000000000 ≤ s) (hs2 : s ≤ 1000000000000) (hl1 : 0 ≤ sl) (hl2 : sl ≤ 1000000000000) (hn : 0 ≤ n) (hn2 : n ≤ 1000000000000) :
  Calls Try.prog 78 #[.agg #[.int .i64 b, .int .i64 wd, .int .i64 s, .int .i64 n], .int .i64 sl] w fun e w' => e = .returned (spanV (meanR s n sl)) ∧ St (bs w) [] w' := by
  refine enter (vs := [_, _]) (env := [(0, _), (1, _)]) Try.func78 rfl rfl rfl rfl ?_
  refine VC.seq ?_
  refine VC.reg (VO.h rfl <| HO.box (C := #[_, _, _, _]) rfl rfl fun b1 => VO.h rfl <| HO.alloc (C := #[_, _]) Z25 rfl fun b2 => VO.nil ?_)
  refine VE.seqN ?_
  refine VC.seq ?_
  refine VC.seq ?_
  refine VC.reg (VO.l (LO.fa (r := 3) F112_3 (.r rfl) rfl) rfl <| VO.l (LO.ld O3 (.r rfl) (fun _ hw => cells_at hw 1 rfl ⟨_, rfl⟩)) rfl <| VO.l (LO.eq (.r rfl) (.r rfl)) rfl <| VO.nil ?_)
  refine VE.seqN ?_
  refine VC.cond rfl (fun h1 => ?_) (fun h1 => ?_)
  ·
    refine VC.seq ?_
    refine VC.reg (VO.l (LO.bd (ps := []) (vs := []) (C := [_, _]) B25  trivial rfl rfl) rfl <| VO.h0 <| HO.st 0 (vs := [_, _]) (C' := [_, _]) (L' := [_, _]) N25 rfl rfl rfl rfl rfl rfl rfl rfl <| VO.nil ?_)
    refine VE.seqN ?_
    refine VC.ret (VE.thenR (VE.res (vs := [_]) rfl ⟨RV.agg (vs := [_, _]) A25 rfl (cells_blk 0 rfl ⟨_, rfl⟩) rfl, trivial⟩ (fun w hw => ?_)))
    refine ⟨?_, hw.nil⟩
    simp only [resV]
    first | (rw [meanR, if_pos h1]; rfl) | (rw [meanR, if_neg h1])
  ·
    have hn0 : 0 < n := by omega
    have hlo := ediv_abs (a := s - sl) (B := 2000000000000) hn0 (by omega) (by omega) (by omega)
    have hhi := ediv_abs (a := -(s + sl)) (B := 2000000000000) hn0 (by omega) (by omega) (by omega)
    have hw3 := wr_bd ((s - sl) / n + 32768)
    refine VC.skip (VE.seqN ?_)
    refine VC.seq ?_
    refine VC.draw mixed (LL.l (LO.fa (r := 2) F112_2 (.r rfl) rfl) rfl <| LL.l (LO.ld O3 (.r rfl) (fun _ hw => cells_at hw 1 rfl ⟨_, rfl⟩)) rfl <| LL.l (LO.mv (.r rfl)) rfl <| LL.l (LO.sub (.r rfl) (.r rfl) (wi (by omega) (by omega))) rfl <| LL.l (LO.fa (r := 3) F112_3 (.r rfl) rfl) rfl <| LL.l (LO.ld O3 (.r rfl) (fun _ hw => cells_at hw 1 rfl ⟨_, rfl⟩)) rfl <| LL.l (LO.call (xs := [_, _]) (vs := [_, _]) C68 ⟨(.r rfl), (.r rfl), trivial⟩ (fun w _ => down_c _ _ (by omega) (by omega) (by omega) w)) rfl <| LL.l (LO.fa (r := 2) F112_2 (.r rfl) rfl) rfl <| LL.l (LO.ld O3 (.r rfl) (fun _ hw => cells_at hw 1 rfl ⟨_, rfl⟩)) rfl <| LL.l (LO.mv (.r rfl)) rfl <| LL.l (LO.add (.r rfl) (.r rfl) (wi (by omega) (by omega))) rfl <| LL.l (LO.fa (r := 3) F112_3 (.r rfl) rfl) rfl <| LL.l (LO.ld O3 (.r rfl) (fun _ hw => cells_at hw 1 rfl ⟨_, rfl⟩)) rfl <| LL.l (LO.call (xs := [_, _]) (vs := [_, _]) C69 ⟨(.r rfl), (.r rfl), trivial⟩ (fun w _ => up_c _ _ (by omega) (by omega) (by omega) w)) rfl <| LL.l (LO.as (.r rfl)) rfl <| LL.l (LO.as (.r rfl)) rfl <| LL.nil) (by kernel_rfl) ?_
    refine VE.seqN ?_
    refine VC.seq ?_
    refine VC.reg (VO.l (LO.mv (.r rfl)) rfl <| VO.l (LO.add (.r rfl) (.r rfl) (wi (by omega) (by omega))) rfl <| VO.l (LO.call (xs := [_]) (vs := [_]) C46 ⟨(.r rfl), trivial⟩ (fun w _ => wrap_c _ w)) rfl <| VO.l (LO.sub (.r rfl) (.r rfl) (wi (by omega) (by omega))) rfl <| VO.l (LO.as (.r rfl)) rfl <| VO.nil ?_)
    refine VE.seqN ?_
    refine VC.seq ?_
    refine VC.reg (VO.l (LO.mv (.r rfl)) rfl <| VO.l (LO.mv (.r rfl)) rfl <| VO.l (LO.mv (.r rfl)) rfl <| VO.l (LO.add (.r rfl) (.r rfl) (wi (by unfold up; omega) (by unfold up; omega))) rfl <| VO.l (LO.mv (.r rfl)) rfl <| VO.l (LO.sub (.r rfl) (.r rfl) (wi (by unfold up; omega) (by unfold up; omega))) rfl <| VO.l (LO.bd (ps := [(_, _), (_, _)]) (vs := [(_, _), (_, _)]) (C := [_, _]) B25  ⟨(.r rfl), (.r rfl), trivial⟩ rfl ⟨_, [_], [_, _], rfl, rfl, rfl, rfl, ⟨_, [_], [_, _], rfl, rfl, rfl, rfl, rfl⟩⟩) rfl <| VO.h0 <| HO.st 0 (vs := [_, _]) (C' := [_, _]) (L' := [_, _]) N25 rfl rfl rfl rfl rfl rfl rfl rfl <| VO.nil ?_)
    refine VE.seqN ?_
    refine VC.ret (VE.res (vs := [_]) rfl ⟨RV.agg (vs := [_, _]) A25 rfl (cells_blk 0 rfl ⟨_, rfl⟩) rfl, trivial⟩ (fun w hw => ?_))
    refine ⟨?_, hw.nil⟩
    simp only [resV]
    first | (rw [meanR, if_pos h1]; rfl) | (rw [meanR, if_neg h1])

set_option maxRecDepth 20000 in
theorem arcOf_c (l : List Int) (p : Option Addr) (c : Nat) (w : World) (hn : l.length < 1000000000) (hl : Ints w p l) (hb : ∀ x ∈ l, inT x) :
  Calls Try.prog 60 #[.slice p l.length c] w fun e w' => e = .returned (arcV l) ∧ St (bs w) [] w' := by
  have hS1 := comp_asc l
  have hS2 := comp_mem l
  have hS3 := compact_len (sortL l)
  rw [sortL_len] at hS3
  have hS4 : ∀ k, k < (Lib.compact (sortL l)).length → inT ((Lib.compact (sortL l)).getD k 0) := fun k hk => hb _ ((hS2 _).1 (getD_mem hk))
  have hA1 := asc_arc hS1 hS2
  refine enter (vs := [_]) (env := [(0, _)]) Try.func60 rfl rfl rfl rfl ?_
  refine VC.seq ?_
  refine VC.reg (VO.h rfl <| HO.alloc (C := #[_, _, _, _]) Z112 rfl fun b1 => VO.nil ?_)
  refine VE.seqN ?_
  refine VC.seq ?_
  refine VC.reg (VO.l (LO.mv (.r rfl)) rfl <| VO.h rfl <| HO.callx (xs := [_]) (vs := [_]) C84 ⟨(.r rfl), trivial⟩ (fun w _ => values_c l p c w) fun vb _ => VO.h rfl <| HO.callx (xs := [_]) (vs := [_]) C83 ⟨(.r rfl), trivial⟩ (fun w hw => sorted_c 91 [.pointer (some ⟨vb, 0, none⟩)] (valCap l p c vb) l w C91 (values_seq l p c vb (by omega)) (fun w2 h2 => ⟨cells_fr h2 (cells_at hw 0 rfl ⟨[], rfl⟩), ro_fr h2 (hl.keep w hw)⟩) (by omega)) fun x _ => VO.h rfl <| HO.callh (first := []) (cap := []) (xs := [_]) (vs := [_]) 0 (fun R => [R, _, _]) rfl (.r rfl) C82 ⟨(.r rfl), trivial⟩ (fun _ => rfl) (fun w hw => Compact_h 0 hw rfl (by rw [sortL_len]; omega)) fun _ _ => VO.h rfl <| HO.lo (LO.as (.r rfl)) <| VO.nil ?_)
  refine VE.seqN ?_
  refine VC.seq ?_
  refine VC.reg (VO.l (LO.mv (.r rfl)) rfl <| VO.l (LO.len S55 (.r rfl) rfl) rfl <| VO.l (LO.bd (ps := [(_, _), (_, _)]) (vs := [(_, _), (_, _)]) (C := [_, _, _, _]) B112  ⟨(.r rfl), (.r rfl), trivial⟩ rfl ⟨_, [_], [_, _, _, _], rfl, rfl, rfl, rfl, ⟨_, [_], [_, _, _, _], rfl, rfl, rfl, rfl, rfl⟩⟩) rfl <| VO.h rfl <| HO.alloc (C := #[_, _, _, _]) Z112 rfl fun b5 => VO.h0 <| HO.st 0 (vs := [_, _, _, _]) (C' := [_, _, _, _]) (L' := [_, _, _, _]) N112 rfl rfl rfl rfl rfl rfl rfl rfl <| VO.nil ?_)
  refine VE.seqN ?_
  refine VC.seq ?_
  refine VC.seq ?_
  refine VC.reg (VO.l (LO.mv (.r rfl)) rfl <| VO.l (LO.len S55 (.r rfl) rfl) rfl <| VO.l (LO.mv (.r rfl)) rfl <| VO.nil ?_)
  refine VE.seqN ?_
  refine VC.block ?_
  refine VC.loopK (α := Nat) 1 (fun gx => [(20, .int .i64 (gx : Nat))]) [(0, _), (2, _), (3, _), (4, _), (18, _), (19, _)] (fun gx => [blk b5 (.cells #[.int .i64 (ascF (Lib.compact (sortL l)) gx).1, .int .i64 (ascF (Lib.compact (sortL l)) gx).2, .int .i64 0, .int .i64 l.length] 112)]) (fun gx => gx ≤ (Lib.compact (sortL l)).length) (fun gx => (Lib.compact (sortL l)).length - gx) 0 (by exact Nat.zero_le _) (.cons rfl (.cons rfl (.cons rfl (.cons rfl (.cons rfl (.cons rfl (.cons rfl .nil))))))) (fun _ h => h) ?_
  rintro i hi
  refine VC.seq ?_
  refine VC.reg (VO.l (LO.lt (.r rfl) (.r rfl)) rfl <| VO.nil ?_)
  refine VE.seqN ?_
  refine VC.seq ?_
  refine VC.cond rfl (fun h1 => ?_) (fun h1 => ?_)
  ·
    refine VC.skip (VE.seqN ?_)
    refine VC.seq ?_
    refine VC.block ?_
    refine VC.seq ?_
    refine VC.reg (VO.l (LO.mv (.r rfl)) rfl <| VO.l (LO.ixo S55 N3 (fun _ hw => (own_rows hw 1 rfl).some (by simp)) (.r rfl) (.r rfl) rfl (by omega)) rfl <| VO.l (LO.ld O3 (.r rfl) (fun w hw => cells_part (off := 0) (own_cell hw 1 rfl (getD_some (d := 0) (by first | omega | exact Nat.mod_lt _ (by omega)))) ⟨_, rfl⟩)) rfl <| VO.l (LO.as (.r rfl)) rfl <| VO.l (LO.as (.r rfl)) rfl <| VO.nil ?_)
    refine VE.seqN ?_
    refine VC.seq ?_
    refine VC.reg (VO.l (LO.mv (.r rfl)) rfl <| VO.l (LO.mv (.r rfl)) rfl <| VO.l (LO.mv (.r rfl)) rfl <| VO.l (LO.len S55 (.r rfl) rfl) rfl <| VO.l (LO.add (.r rfl) (.r rfl) (wi (by omega) (by omega))) rfl <| VO.l (LO.sub (.r rfl) (.r rfl) (wi (by omega) (by omega))) rfl <| VO.l (LO.mv (.r rfl)) rfl <| VO.l (LO.len S55 (.r rfl) rfl) rfl <| VO.l (LO.rem (.r rfl) (.r rfl) (by omega)) rfl <| VO.l (LO.ixo S55 N3 (fun _ hw => (own_rows hw 1 rfl).some (by simp)) (.r rfl) (.r rfl) (rem_ix (by omega)) (Nat.mod_lt _ (by omega))) rfl <| VO.l (LO.ld O3 (.r rfl) (fun w hw => cells_part (off := 0) (own_cell hw 1 rfl (getD_some (d := 0) (by first | omega | exact Nat.mod_lt _ (by omega)))) ⟨_, rfl⟩)) rfl <| VO.l (LO.as (.r rfl)) rfl <| VO.nil ?_)
    refine VE.seqN ?_
    refine VC.seq ?_
    have q1 := hS4 i (by omega)
    have q2 := hS4 ((i + (Lib.compact (sortL l)).length - 1) % (Lib.compact (sortL l)).length) (Nat.mod_lt _ (by omega))
    unfold inT at q1 q2
    refine VC.reg (VO.l (LO.mv (.r rfl)) rfl <| VO.l (LO.mv (.r rfl)) rfl <| VO.l (LO.sub (.r rfl) (.r rfl) (wi (by omega) (by omega))) rfl <| VO.l (LO.call (xs := [_]) (vs := [_]) C46 ⟨(.r rfl), trivial⟩ (fun w _ => wrap_c _ w)) rfl <| VO.l (LO.as (.r rfl)) rfl <| VO.nil ?_)
    refine VE.seqN ?_
    refine VC.seq ?_
    refine VC.reg (VO.l (LO.mv (.r rfl)) rfl <| VO.l (LO.fa (r := 1) F112_1 (.r rfl) rfl) rfl <| VO.l (LO.ld O3 (.r rfl) (fun _ hw => cells_at hw 0 rfl ⟨_, rfl⟩)) rfl <| VO.l (LO.lt (.r rfl) (.r rfl)) rfl <| VO.nil ?_)
    refine VE.seqN ?_
    refine VC.cond rfl (fun h43 => ?_) (fun h43 => ?_)
    ·
      refine VC.reg (VO.l (LO.mv (.r rfl)) rfl <| VO.l (LO.mv (.r rfl)) rfl <| VO.l (LO.fa (r := 0) F112_0 (.r rfl) rfl) rfl <| VO.h0 <| HO.st 0 (vs := [_]) (C' := [_, _, _, _]) (L' := [_, _, _, _]) N3 rfl rfl rfl rfl rfl rfl rfl rfl <| VO.l (LO.fa (r := 1) F112_1 (.r rfl) rfl) rfl <| VO.h0 <| HO.st 0 (vs := [_]) (C' := [_, _, _, _]) (L' := [_, _, _, _]) N3 rfl rfl rfl rfl rfl rfl rfl rfl <| VO.nil ?_)
      refine VE.inN (VE.seqN ?_)
      refine VC.reg (VO.l (LO.add (.r rfl) (.r rfl) (wi (by omega) (by omega))) rfl <| VO.l (LO.mv (.r rfl)) rfl <| VO.nil ?_)
      refine VE.thenN fun a w ha hw => ⟨i + 1, (by omega), (by omega), ha.sub (.cons rfl (.cons rfl (.cons rfl (.cons rfl (.cons rfl (.cons rfl (.cons rfl .nil))))))), (by first | (rw [asc_t hS1 hS4 (by omega) h43]; exact hw) | (rw [asc_f hS1 hS4 (by omega) h43]; exact hw))⟩
    ·
      refine VC.skip (VE.inN (VE.seqN ?_))
      refine VC.reg (VO.l (LO.add (.r rfl) (.r rfl) (wi (by omega) (by omega))) rfl <| VO.l (LO.mv (.r rfl)) rfl <| VO.nil ?_)
      refine VE.thenN fun a w ha hw => ⟨i + 1, (by omega), (by omega), ha.sub (.cons rfl (.cons rfl (.cons rfl (.cons rfl (.cons rfl (.cons rfl (.cons rfl .nil))))))), (by first | (rw [asc_t hS1 hS4 (by omega) h43]; exact hw) | (rw [asc_f hS1 hS4 (by omega) h43]; exact hw))⟩
  ·
    refine VC.exit (VE.thenX (VE.thenX (VE.inX (VE.seqN ?_))))
    refine VC.seq ?_
    refine VC.seq ?_
    have hi0 : i = (Lib.compact (sortL l)).length := by omega
    have hAi : ascF (Lib.compact (sortL l)) i = arcR l := by rw [hi0, ascF, List.take_length]; exact hA1
    rw [hAi]
    clear hAi hi0
    have hB := arcR_bd hb
    refine VC.reg (VO.l (LO.mv (.r rfl)) rfl <| VO.l (LO.len S55 (.r rfl) rfl) rfl <| VO.l (LO.mv (.r rfl)) rfl <| VO.nil ?_)
    refine VE.seqN ?_
    refine VC.block ?_
    refine VC.loopK (α := Nat) 1 (fun gx => [(51, .int .i64 (gx : Nat))]) [(2, _), (4, _), (49, _), (50, _)] (fun gx => [blk b5 (.cells #[.int .i64 (arcR l).1, .int .i64 (arcR l).2, .int .i64 (arcT (l.take gx) (arcR l).1), .int .i64 l.length] 112)]) (fun gx => gx ≤ l.length) (fun gx => l.length - gx) 0 (by exact Nat.zero_le _) (.cons rfl (.cons rfl (.cons rfl (.cons rfl (.cons rfl .nil))))) (fun _ h => h) ?_
    rintro j hj
    refine VC.seq ?_
    refine VC.reg (VO.l (LO.lt (.r rfl) (.r rfl)) rfl <| VO.nil ?_)
    refine VE.seqN ?_
    refine VC.seq ?_
    refine VC.cond rfl (fun h3 => ?_) (fun h3 => ?_)
    ·
      refine VC.skip (VE.seqN ?_)
      refine VC.seq ?_
      refine VC.block ?_
      refine VC.seq ?_
      refine VC.reg (VO.l (LO.ixs S55 N3 hl.some (.r rfl) (.r rfl) rfl (by omega)) rfl <| VO.l (LO.ld O3 (.r rfl) (fun w hw => cells_part (off := 0) ((hl.at (j := j) (by omega)) w hw) ⟨_, rfl⟩)) rfl <| VO.l (LO.as (.r rfl)) rfl <| VO.nil ?_)
      refine VE.seqN ?_
      have q3 := hb _ (getD_mem (d := 0) (show j < l.length by omega))
      unfold inT at q3
      have q4 := arcT_bd (l.take j) (b := (arcR l).1) (by omega) (by omega)
      rw [List.length_take] at q4
      have q5 := wr_bd (l.getD j 0 - (arcR l).1)
      refine VC.drawH [[0, 1, 2, 3], [1, 2, 3]] [some 0, some 0, some 0, some 0, some 0, some 0, some 0, some 0, some 0, some 0, some 0, some 0, none] mixed (by kernel_rfl) rfl (LX.l (fun _ hJ => LO.fa (r := 2) F112_2 (.r rfl) rfl) rfl <| LX.l (fun _ hJ => LO.ld O3 (.r rfl) (fun _ hw => cells_at (hJ _ hw) 0 rfl ⟨_, rfl⟩)) rfl <| LX.l (fun _ hJ => LO.fa (r := 0) F112_0 (.r rfl) rfl) rfl <| LX.l (fun _ hJ => LO.ld O3 (.r rfl) (fun _ hw => cells_at (hJ _ hw) 0 rfl ⟨_, rfl⟩)) rfl <| LX.l (fun _ hJ => LO.mv (.r rfl)) rfl <| LX.l (fun _ hJ => LO.fa (r := 0) F112_0 (.r rfl) rfl) rfl <| LX.l (fun _ hJ => LO.ld O3 (.r rfl) (fun _ hw => cells_at (hJ _ hw) 0 rfl ⟨_, rfl⟩)) rfl <| LX.l (fun _ hJ => LO.sub (.r rfl) (.r rfl) (wi (by omega) (by omega))) rfl <| LX.l (fun _ hJ => LO.call (xs := [_]) (vs := [_]) C46 ⟨(.r rfl), trivial⟩ (fun w _ => wrap_c _ w)) rfl <| LX.l (fun _ hJ => LO.add (.r rfl) (.r rfl) (wi (by omega) (by omega))) rfl <| LX.l (fun _ hJ => LO.add (.r rfl) (.r rfl) (wi (by omega) (by omega))) rfl <| LX.l (fun _ hJ => LO.fa (r := 2) F112_2 (.r rfl) rfl) rfl <| LX.s <| LX.nil) (HX.s <| HX.s <| HX.s <| HX.s <| HX.s <| HX.s <| HX.s <| HX.s <| HX.s <| HX.s <| HX.s <| HX.s <| HX.h0 <| HO.st 0 (vs := [_]) (C' := [_, _, _, _]) (L' := [_, _, _, _]) N3 rfl rfl rfl rfl rfl rfl rfl rfl <| ⟨fun _ hw => hw.sel [1, 2, 3] rfl, HX.nil ?_⟩)
      refine VE.inN (VE.seqN ?_)
      refine VC.reg (VO.l (LO.add (.r rfl) (.r rfl) (wi (by omega) (by omega))) rfl <| VO.l (LO.mv (.r rfl)) rfl <| VO.nil ?_)
      refine VE.thenN fun a w ha hw => ⟨j + 1, (by omega), (by omega), ha.sub (.cons rfl (.cons rfl (.cons rfl (.cons rfl (.cons rfl .nil))))), (by rw [arcT_step (by omega)]; exact hw)⟩
    ·
      refine VC.exit (VE.thenX (VE.thenX (VE.inX (VE.seqN ?_))))
      refine VC.seq ?_
      refine VC.reg (VO.l (LO.lda (vs := [_, _, _, _]) A112 (.r rfl) (fun _ hw => cells_at hw 0 rfl ⟨_, rfl⟩) rfl) rfl <| VO.h0 <| HO.st 3 (vs := [_, _, _, _]) (C' := [_, _, _, _]) (L' := [_, _, _, _]) N112 rfl rfl rfl rfl rfl rfl rfl rfl <| VO.nil ?_)
      refine VE.seqN ?_
      refine VC.ret (VE.res (vs := [_]) rfl ⟨RV.agg (vs := [_, _, _, _]) A112 rfl (cells_blk 3 rfl ⟨_, rfl⟩) rfl, trivial⟩ (fun w hw => ?_))
      refine ⟨?_, hw.nil⟩
      simp only [resV]
      rw [show l.take j = l from List.take_of_length_le (by omega)]
      rfl

set_option maxRecDepth 20000 in
theorem Arc_c (l : List Int) (p : Option Addr) (c : Nat) (w : World) (hn : l.length < 1000000000) (hl : Ints w p l) :
  Calls Try.prog 23 #[.slice p l.length c] w fun e w' => e = .returned (.tuple #[.int .i64 (arcX l).1, .int .i64 (arcX l).2, .int .i64 (arcE l)]) ∧ St (bs w) [] w' := by
  refine enter (vs := [_]) (env := [(0, _)]) Try.func23 rfl rfl rfl rfl ?_
  refine VC.seq ?_
  refine VC.reg (VO.l (LO.as (.r rfl)) rfl <| VO.l (LO.as (.r rfl)) rfl <| VO.l (LO.as (.r rfl)) rfl <| VO.nil ?_)
  refine VE.seqN ?_
  refine VC.seq ?_
  refine VC.block ?_
  refine VC.seq ?_
  refine VC.reg (VO.l (LO.mv (.r rfl)) rfl <| VO.l (LO.len S55 (.r rfl) rfl) rfl <| VO.l (LO.eq (.r rfl) (.r rfl)) rfl <| VO.l (LO.as (.r rfl)) rfl <| VO.nil ?_)
  refine VE.seqN ?_
  refine VC.cond rfl (fun h1 => ?_) (fun h1 => ?_)
  ·
    refine VC.seq ?_
    refine VC.reg (VO.l (LO.as (.r rfl)) rfl <| VO.l (LO.as (.r rfl)) rfl <| VO.l (LO.as (.r rfl)) rfl <| VO.nil ?_)
    refine VE.seqN ?_
    refine VC.ret (VE.inR (VE.thenR (VE.res (vs := [_, _, _]) rfl ⟨rfl, rfl, rfl, trivial⟩ (fun w hw => ?_))))
    refine ⟨?_, hw.nil⟩
    simp only [resV]
    first | exact arc1 h1 | exact arc2 h1 h2 | exact arc3 h1 h2
  ·
    refine VC.seq ?_
    refine VC.reg (VO.l (LO.mv (.r rfl)) rfl <| VO.l (LO.call (xs := [_, _]) (vs := [_, _]) C58 ⟨(.r rfl), (.r rfl), trivial⟩ (fun w hw => containsF_c l p c w (by omega) (hl.keep w hw))) rfl <| VO.l (LO.as (.r rfl)) rfl <| VO.nil ?_)
    refine VE.seqN ?_
    refine VC.cond rfl (fun h2 => ?_) (fun h2 => ?_)
    ·
      refine VC.seq ?_
      refine VC.reg (VO.l (LO.as (.r rfl)) rfl <| VO.l (LO.as (.r rfl)) rfl <| VO.l (LO.as (.r rfl)) rfl <| VO.nil ?_)
      refine VE.seqN ?_
      refine VC.ret (VE.inR (VE.thenR (VE.res (vs := [_, _, _]) rfl ⟨rfl, rfl, rfl, trivial⟩ (fun w hw => ?_))))
      refine ⟨?_, hw.nil⟩
      simp only [resV]
      first | exact arc1 h1 | exact arc2 h1 h2 | exact arc3 h1 h2
    ·
      refine VC.skip (VE.inN (VE.seqN ?_))
      refine VC.seq ?_
      refine VC.reg (VO.l (LO.mv (.r rfl)) rfl <| VO.l (LO.call (xs := [_]) (vs := [_]) C60 ⟨(.r rfl), trivial⟩ (fun w hw => arcOf_c l p c w hn (hl.keep w hw) (by simpa using h2))) rfl <| VO.h rfl <| HO.alloc (C := #[_, _, _, _]) Z112 rfl fun b1 => VO.h0 <| HO.st 0 (vs := [_, _, _, _]) (C' := [_, _, _, _]) (L' := [_]) N112 rfl rfl rfl rfl rfl rfl rfl rfl <| VO.nil ?_)
      refine VE.seqN ?_
      refine VC.seq ?_
      refine VC.draw mixed (LL.l (LO.fa (r := 0) F112_0 (.r rfl) rfl) rfl <| LL.l (LO.ld O3 (.r rfl) (fun _ hw => cells_at hw 0 rfl ⟨_, rfl⟩)) rfl <| LL.l (LO.fa (r := 1) F112_1 (.r rfl) rfl) rfl <| LL.l (LO.ld O3 (.r rfl) (fun _ hw => cells_at hw 0 rfl ⟨_, rfl⟩)) rfl <| LL.l (LO.as (.r rfl)) rfl <| LL.l (LO.as (.r rfl)) rfl <| LL.l (LO.as (.r rfl)) rfl <| LL.nil) (by kernel_rfl) ?_
      refine VE.seqN ?_
      refine VC.ret (VE.res (vs := [_, _, _]) rfl ⟨rfl, rfl, rfl, trivial⟩ (fun w hw => ?_))
      refine ⟨?_, hw.nil⟩
      simp only [resV]
      first | exact arc1 h1 | exact arc2 h1 h2 | exact arc3 h1 h2

end Go.Proofs.Ytcnlhifkablmkaa
