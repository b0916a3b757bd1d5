/-
  The times of a pixel are those of its states.
-/
import Derived.Test.YtdcjeoamhjplmaaWG
namespace Go.Proofs.Ytdcjeoamhjplmaa
open Go.SL Go.Proofs Go.Cast
set_option linter.unusedVariables false

theorem E60 : Flat Try.prog 60 5 := ⟨⟨_, Try.underlying60⟩, by kernel_rfl, by kernel_rfl⟩
theorem A49 : IsAgg Try.prog 49 8 := ⟨⟨_, Try.underlying49, rfl⟩, by kernel_rfl⟩
theorem C20 : IsFn Try.prog 20 := ⟨_, Try.func20, by decide, rfl⟩


def cpD (d : Draft) (x : (Option Addr × Nat) × Option Addr × Nat) : CP := ⟨dC d, x.1.1, x.1.2, x.2.1, x.2.2⟩
theorem cloudsOne {w : World} {x : CP} {s : Nat} (h : Cells w ⟨s, 0, none⟩ x.cells) (h1 : Ints w x.ps x.c.sure) (h2 : Ints w x.pm x.c.may) (h3 : x.c.sure.length < 1000000000000) (h4 : x.c.may.length < 1000000000000) : Clouds w (some ⟨s, 0, none⟩) [x] := by
  refine ⟨⟨?_, fun q => (by cases q), fun _ a q => (by cases q; rfl)⟩, ?_⟩
  · intro j r hr
    cases j with
    | zero => cases hr; simpa [pb, po] using h
    | succ j => cases hr
  · intro y hy
    rw [List.mem_singleton] at hy
    subst hy
    exact ⟨h1, h2, h3, h4⟩
section
variable {d : Draft}
theorem sureTo_len : ∀ k, (sureTo d k).length ≤ k
  | 0 => Nat.le_refl _
  | k + 1 => by have := sureTo_len k; unfold sureTo; split <;> simp <;> omega
theorem mayTo_len : ∀ k, (mayTo d k).length ≤ k
  | 0 => Nat.le_refl _
  | k + 1 => by have := mayTo_len k; unfold mayTo; split <;> simp <;> omega
theorem mayTo_mem : ∀ {k : Nat} {n : Int}, n ∈ mayTo d k ↔ ∃ i : Nat, n = i ∧ i < k ∧ 0 < (d.pix.getD i 0).tmod 3
  | 0, n => by simp [mayTo]
  | k + 1, n => by
    unfold mayTo
    split
    · rename_i h
      rw [List.mem_append, mayTo_mem, List.mem_singleton]
      constructor
      · rintro (⟨i, h1, h2, h3⟩ | rfl)
        · exact ⟨i, h1, by omega, h3⟩
        · exact ⟨k, rfl, by omega, h⟩
      · rintro ⟨i, h1, h2, h3⟩
        rcases Nat.lt_or_ge i k with q | q
        · exact .inl ⟨i, h1, q, h3⟩
        · exact .inr (by rw [h1, show i = k by omega])
    · rename_i h
      rw [mayTo_mem]
      constructor
      · rintro ⟨i, h1, h2, h3⟩; exact ⟨i, h1, by omega, h3⟩
      · rintro ⟨i, h1, h2, h3⟩
        rcases Nat.lt_or_ge i k with q | q
        · exact ⟨i, h1, q, h3⟩
        · have : i = k := by omega
          subst this; exact absurd h3 h
theorem sureTo_mem : ∀ {k : Nat} {n : Int}, n ∈ sureTo d k ↔ ∃ i : Nat, n = i ∧ i < k ∧ (d.pix.getD i 0).tmod 3 = 1
  | 0, n => by simp [sureTo]
  | k + 1, n => by
    unfold sureTo
    split
    · rename_i h
      rw [List.mem_append, sureTo_mem, List.mem_singleton]
      constructor
      · rintro (⟨i, h1, h2, h3⟩ | rfl)
        · exact ⟨i, h1, by omega, h3⟩
        · exact ⟨k, rfl, by omega, h⟩
      · rintro ⟨i, h1, h2, h3⟩
        rcases Nat.lt_or_ge i k with q | q
        · exact .inl ⟨i, h1, q, h3⟩
        · exact .inr (by rw [h1, show i = k by omega])
    · rename_i h
      rw [sureTo_mem]
      constructor
      · rintro ⟨i, h1, h2, h3⟩; exact ⟨i, h1, by omega, h3⟩
      · rintro ⟨i, h1, h2, h3⟩
        rcases Nat.lt_or_ge i k with q | q
        · exact ⟨i, h1, q, h3⟩
        · have : i = k := by omega
          subst this; exact absurd h3 h
/-- Ascending lists. -/
def Asc (l : List Int) : Prop := l.Pairwise (· < ·)
theorem mayTo_asc : ∀ k, Asc (mayTo d k)
  | 0 => List.Pairwise.nil
  | k + 1 => by
    unfold mayTo
    split
    · refine List.pairwise_append.2 ⟨mayTo_asc k, List.pairwise_singleton _ _, fun a ha b hb => ?_⟩
      rw [List.mem_singleton] at hb; subst hb
      obtain ⟨i, rfl, h, _⟩ := mayTo_mem.1 ha
      omega
    · exact mayTo_asc k
theorem sureTo_asc : ∀ k, Asc (sureTo d k)
  | 0 => List.Pairwise.nil
  | k + 1 => by
    unfold sureTo
    split
    · refine List.pairwise_append.2 ⟨sureTo_asc k, List.pairwise_singleton _ _, fun a ha b hb => ?_⟩
      rw [List.mem_singleton] at hb; subst hb
      obtain ⟨i, rfl, h, _⟩ := sureTo_mem.1 ha
      omega
    · exact sureTo_asc k
theorem asc_at {l : List Int} (h : Asc l) {i : Nat} (h0 : 0 < i) (hi : i < l.length) : ¬ l.getD i 0 ≤ l.getD (i - 1) 0 := by
  have := List.pairwise_iff_getElem.1 h (i - 1) i (by omega) hi (by omega)
  simp only [List.getD_eq_getElem?_getD, List.getElem?_eq_getElem hi, List.getElem?_eq_getElem (show i - 1 < l.length by omega), Option.getD_some]
  omega
theorem cloud_okI {g : Grid} {c : Cloud} (hg : gridOk g) (hf : flowOk c.flow) (hr : 0 ≤ c.grow ∧ c.grow ≤ 10000) (hne : c.may ≠ []) (h1 : ∀ n, n ∈ c.may → 0 ≤ n ∧ n ≤ g.wide * g.high - 1) (h2 : Asc c.may) (h3 : Asc c.sure) (h4 : ∀ n, n ∈ c.sure → n ∈ c.may) : cloudE g c = 0 := by
  have e1 : firstE (mayE g c.may) c.may.length = 0 := firstE_zero fun k hk => by
    have hm : c.may.getD k 0 ∈ c.may := by rw [List.getD_eq_getElem?_getD, List.getElem?_eq_getElem hk]; exact List.getElem_mem hk
    unfold mayE
    rw [if_neg (fun q => q (h1 _ hm)), if_neg (fun q => asc_at h2 q.1 hk q.2)]
  have e2 : firstE (sureE c.may c.sure) c.sure.length = 0 := firstE_zero fun k hk => by
    have hm : c.sure.getD k 0 ∈ c.sure := by rw [List.getD_eq_getElem?_getD, List.getElem?_eq_getElem hk]; exact List.getElem_mem hk
    unfold sureE
    rw [if_neg (fun q => asc_at h3 q.1 hk q.2), if_neg (fun q => q (h4 _ hm))]
  unfold cloudE
  rw [if_neg (fun q => q hg), if_neg (fun q => q hf), if_neg (fun q => q hr), if_neg hne, e1, if_neg (by omega), e2]
theorem tmod_abs {a : Int} : -100000 ≤ a.tmod 100001 ∧ a.tmod 100001 ≤ 100000 := by
  rcases Int.le_total 0 a with h | h
  · have := tmod_pos h (n := 100001) (by decide); omega
  · have h2 := tmod_pos (a := -a) (by omega) (n := 100001) (by decide)
    rw [Int.neg_tmod] at h2; omega
theorem dG_ok (hd : dOk d) : gridOk (dG d) := by
  have := dW_bd hd.1.1
  have := dH_bd hd.2.1.1
  unfold gridOk dG; dsimp only; omega
theorem dF_ok : flowOk (dF d) := by
  have := @tmod_abs d.x0
  have := @tmod_abs d.x1
  have := @tmod_abs d.y0
  have := @tmod_abs d.y1
  unfold flowOk dF; dsimp only; omega
theorem dC_ok (hd : dOk d) (h : 0 < (dC d).may.length) : cloudE (dG d) (dC d) = 0 := by
  have hgr := tmod_pos hd.2.2.2.2.2.2.1 (n := 10001) (by decide)
  have h1 := dW_bd hd.1.1
  have h2 := dH_bd hd.2.1.1
  refine cloud_okI (dG_ok hd) dF_ok ⟨hgr.1, by show d.grow.tmod 10001 ≤ 10000; omega⟩ (fun q => by rw [q] at h; cases h) (fun n hn => ?_) (mayTo_asc _) (sureTo_asc _) (fun n hn => ?_)
  · obtain ⟨i, rfl, hi, _⟩ := mayTo_mem.1 hn
    have := dN_le2 d h1.1 h2.1
    show 0 ≤ (i : Int) ∧ (i : Int) ≤ dW d * dH d - 1
    omega
  · obtain ⟨i, rfl, hi, hq⟩ := sureTo_mem.1 hn
    exact mayTo_mem.2 ⟨i, rfl, hi, by omega⟩
theorem dC_len (d : Draft) : (dC d).sure.length < 1000000000000 ∧ (dC d).may.length < 1000000000000 := by
  have h1 : dN d ≤ 65 := by
    have : dN d ≤ (dW d * dH d).toNat := Nat.min_le_left _ _
    have a1 : -7 ≤ d.wide.tmod 8 ∧ d.wide.tmod 8 ≤ 7 := by
      rcases Int.le_total 0 d.wide with h | h
      · have := tmod_pos h (n := 8) (by decide); omega
      · have h2 := tmod_pos (a := -d.wide) (by omega) (n := 8) (by decide)
        rw [Int.neg_tmod] at h2; omega
    have a2 : -7 ≤ d.high.tmod 8 ∧ d.high.tmod 8 ≤ 7 := by
      rcases Int.le_total 0 d.high with h | h
      · have := tmod_pos h (n := 8) (by decide); omega
      · have h2 := tmod_pos (a := -d.high) (by omega) (n := 8) (by decide)
        rw [Int.neg_tmod] at h2; omega
    have h3 : dW d * dH d ≤ 64 := by
      unfold dW dH
      generalize d.wide.tmod 8 = a at *
      generalize d.high.tmod 8 = b at *
      have : a = -7 ∨ a = -6 ∨ a = -5 ∨ a = -4 ∨ a = -3 ∨ a = -2 ∨ a = -1 ∨ a = 0 ∨ a = 1 ∨ a = 2 ∨ a = 3 ∨ a = 4 ∨ a = 5 ∨ a = 6 ∨ a = 7 := by omega
      rcases this with rfl | rfl | rfl | rfl | rfl | rfl | rfl | rfl | rfl | rfl | rfl | rfl | rfl | rfl | rfl <;> omega
    omega
  have h2 := sureTo_len (d := d) (dN d)
  have h3 := mayTo_len (d := d) (dN d)
  show (sureTo d (dN d)).length < _ ∧ (mayTo d (dN d)).length < _
  omega
end
section
variable {g : Grid} {c : Cloud} {t p : Int} {n : Nat}
theorem at1E (hc : cloudE g c = 0) (h1 : 0 ≤ t) (h2 : t ≤ 7200) : atE g [c] t = 0 := by
  have hg := cloudE_grid hc
  have e : firstE (fun k => cloudE g ([c].getD k default)) [c].length = 0 := by simp [firstE, hc]
  unfold atE
  rw [if_neg (fun q => q hg), if_neg (by simp), e, if_neg (by omega), if_neg (by omega)]
theorem stateAll_one : stateAll g [c] t p = stateOf g c p t := by
  have := stateOf_3 g c p t
  show max 0 (stateOf g c p t) = _
  omega
theorem at1L (hE : atE g [c] t = 0) (hn : n < (g.wide * g.high).toNat) : (atL g [c] t)[n]? = some (stateOf g c (n : Nat) t) := by
  unfold atL
  rw [if_neg (by omega), List.getElem?_map, List.getElem?_range hn]
  exact congrArg _ stateAll_one
theorem at1len (hE : atE g [c] t = 0) (h : 0 ≤ g.wide * g.high) : ((atL g [c] t).length : Int) = g.wide * g.high := by
  unfold atL
  rw [if_neg (by omega)]; simp; omega
theorem when_eq {T : Times} {k : Nat} (hc : cloudE g c = 0) (hp : (n : Int) ≤ g.wide * g.high - 1) (h1 : 0 ≤ t) (h2 : t ≤ 7200) (hT : T = timesTo g c (n : Nat) k) (hk : (k : Int) = t + 1) :
    Ending.returned (resV [.bool (decide ((whenT g c (n : Nat) t).ints = T.ints) && decide (whenE g c (n : Nat) t = 0) && true)]) = .returned (.bool true) := by
  have e1 : whenE g c (n : Nat) t = 0 := wE4 hc (by omega) (by omega)
  have e2 : whenT g c (n : Nat) t = T := by
    unfold whenT
    rw [if_neg (by omega), hT, show (t + 1).toNat = k by omega]
  rw [e1, e2]; simp [resV]
end

set_option maxRecDepth 20000 in
theorem CastWhen_c (d : Draft) (pp : Option Addr) (cp : Nat) (px ld : Int) (w : World) (hd : dOk d) (hp : Byts w pp d.pix) (hx1 : 0 ≤ px) (hx2 : px ≤ 255) (hl1 : 0 ≤ ld) (hl2 : ld ≤ 255) :
  Calls Try.prog 7 #[.agg #[.int .u8 d.wide, .int .u8 d.high, .slice pp d.pix.length cp, .int .i32 d.x0, .int .i32 d.x1, .int .i32 d.y0, .int .i32 d.y1, .int .u16 d.grow], .int .u8 px, .int .u8 ld] w fun e w' => e = .returned (.bool true) ∧ St (bs w) [] w' := by
  have hdk := hd
  obtain ⟨⟨hd1, hd2⟩, ⟨hd3, hd4⟩, ⟨hd5, hd6⟩, ⟨hd7, hd8⟩, ⟨hd9, hd10⟩, ⟨hd11, hd12⟩, hd13, hd14⟩ := hd
  have hd := hdk
  have hw8 : 1 ≤ dW d ∧ dW d ≤ 8 := dW_bd hd1
  have hh8 : 1 ≤ dH d ∧ dH d ≤ 8 := dH_bd hd3
  have har := mul8 hw8.1 hw8.2 hh8.1 hh8.2
  have hpx := tmod_pos hx1 (n := dW d * dH d) (by omega)
  have hld := tmod_pos hl1 (n := 61) (by decide)
  obtain ⟨pN, hpN⟩ := Int.eq_ofNat_of_zero_le hpx.1
  have hgd : (dG d).wide * (dG d).high = dW d * dH d := rfl
  refine enter (vs := [_, _, _]) (env := [(0, _), (1, _), (2, _)]) Try.func7 rfl rfl rfl rfl ?_
  refine VC.seq ?_
  refine VC.reg (VO.h rfl <| HO.box (C := #[_, _, _, _, _, _, _, _]) rfl rfl fun b1 => VO.l (LO.as (.r rfl)) rfl <| VO.nil ?_)
  refine VE.seqN ?_
  refine VC.seq ?_
  refine VC.reg (VO.l (LO.lda (vs := [_, _, _, _, _, _, _, _]) A49 (.r rfl) (fun _ hw => cells_at hw 0 rfl ⟨_, rfl⟩) rfl) rfl <| VO.h rfl <| HO.callx (xs := [_]) (vs := [_]) C20 ⟨(.r rfl), trivial⟩ (fun w hw => made_c d pp cp w hd (hp.keep w hw)) fun x _ => VO.h rfl <| HO.lo (LO.mv (.r rfl)) <| VO.h rfl <| HO.lo (LO.ex (.r rfl) rfl) <| VO.h rfl <| HO.lo (LO.ex (.r rfl) rfl) <| VO.h rfl <| HO.lo (LO.ex (.r rfl) rfl) <| VO.h rfl <| HO.alloc (C := #[_, _, _, _, _]) Z23 rfl fun b4 => VO.h rfl <| HO.alloc (C := #[_, _, _, _, _, _, _]) Z34 rfl fun b5 => VO.h0 <| HO.st 1 (vs := [_, _, _, _, _]) (C' := [_, _, _, _, _]) (L' := [_, _, _, _, _]) N23 rfl rfl rfl rfl rfl rfl rfl rfl <| VO.h0 <| HO.st 0 (vs := [_, _, _, _, _, _, _]) (C' := [_, _, _, _, _, _, _]) (L' := [_, _, _, _, _]) N34 rfl rfl rfl rfl rfl rfl rfl rfl <| VO.h rfl <| HO.lo (LO.as (.r rfl)) <| VO.nil ?_)
  refine VE.seqN ?_
  refine VC.seq ?_
  refine VC.seq ?_
  refine VC.reg (VO.l (LO.mv (.r rfl)) rfl <| VO.l (LO.not (.r rfl)) rfl <| VO.nil ?_)
  refine VE.seqN ?_
  refine VC.cond rfl (fun h1 => ?_) (fun h1 => ?_)
  ·
    refine VC.seq ?_
    refine VC.reg (VO.l (LO.call (xs := []) (vs := []) C14 trivial (fun w _ => works_c w)) rfl <| VO.l (LO.as (.r rfl)) rfl <| VO.nil ?_)
    refine VE.seqN ?_
    refine VC.ret (VE.thenR (VE.res (vs := [_]) rfl ⟨rfl, trivial⟩ (fun w hw => ?_)))
    first | exact ⟨rfl, hw.nil⟩ | exact ⟨when_eq hc0 (by show (pN : Int) ≤ dW d * dH d - 1; omega) hld.1 (by omega) hT (by omega), hw.nil⟩
  ·
    have h1 : (0 : Int) < ((dC d).may.length : Int) := Classical.not_not.1 h1
    have hc0 := dC_ok hdk (by omega)
    refine VC.skip (VE.seqN ?_)
    refine VC.seq ?_
    refine VC.reg (VO.l (LO.mv (.r rfl)) rfl <| VO.l (LO.cv ⟨_, Try.underlying5⟩ Try.underlying3 (.r rfl) (wi (by omega) (by omega))) rfl <| VO.l (LO.fa (r := 3) F23_3 (.r rfl) rfl) rfl <| VO.l (LO.ld O3 (.r rfl) (fun _ hw => cells_at hw 1 rfl ⟨_, rfl⟩)) rfl <| VO.l (LO.fa (r := 4) F23_4 (.r rfl) rfl) rfl <| VO.l (LO.ld O3 (.r rfl) (fun _ hw => cells_at hw 1 rfl ⟨_, rfl⟩)) rfl <| VO.l (LO.mul (.r rfl) (.r rfl) (wi (by omega) (by omega))) rfl <| VO.l (LO.rem (.r rfl) (.r rfl) (by omega)) rfl <| VO.l (LO.mv (.r rfl)) rfl <| VO.l (LO.cv ⟨_, Try.underlying5⟩ Try.underlying3 (.r rfl) (wi (by omega) (by omega))) rfl <| VO.l (LO.rem (.r rfl) (.r rfl) (by omega)) rfl <| VO.l (LO.as (v := .int .i64 (pN : Nat)) ⟨_, rfl, congrArg (Value.int .i64) hpN⟩) rfl <| VO.l (LO.as (.r rfl)) rfl <| VO.nil ?_)
    refine VE.seqN ?_
    refine VC.seq ?_
    refine VC.reg (VO.l (LO.bd (ps := [(_, _), (_, _), (_, _)]) (vs := [(_, _), (_, _), (_, _)]) (C := [_, _, _, _, _]) B60 ⟨(.r rfl), (.r rfl), (.r rfl), trivial⟩ rfl ⟨_, [_], [_, _, _, _, _], rfl, rfl, rfl, rfl, ⟨_, [_], [_, _, _, _, _], rfl, rfl, rfl, rfl, ⟨_, [_], [_, _, _, _, _], rfl, rfl, rfl, rfl, rfl⟩⟩⟩) rfl <| VO.h rfl <| HO.alloc (C := #[_, _, _, _, _]) Z60 rfl fun b8 => VO.h0 <| HO.st 0 (vs := [_, _, _, _, _]) (C' := [_, _, _, _, _]) (L' := [_, _, _, _, _, _]) N60 rfl rfl rfl rfl rfl rfl rfl rfl <| VO.nil ?_)
    refine VE.seqN ?_
    refine VC.seq ?_
    refine VC.seq ?_
    refine VC.reg (VO.l (LO.as (.r rfl)) rfl <| VO.nil ?_)
    refine VE.seqN ?_
    refine VC.block ?_
    refine VC.loopK (α := Nat × Times) 1 (fun gx => [(13, .int .i64 (gx.1 : Nat))]) [(7, _), (8, _), (10, _), (11, _), (12, _)] (fun gx => [blk b8 (.cells (timesC gx.2) 60)]) (fun gx => (gx.1 : Int) ≤ ld.tmod 61 + 1 ∧ gx.2 = timesTo (dG d) (dC d) pN gx.1) (fun gx => (ld.tmod 61 + 1).toNat - gx.1) (0, ⟨-1, -1, -1, 0, 0⟩) (by exact ⟨by dsimp only; omega, rfl⟩) (.cons rfl (.cons rfl (.cons rfl (.cons rfl (.cons rfl (.cons rfl .nil)))))) (fun _ h => h) ?_
    rintro ⟨t, T⟩ ⟨ht, hT⟩
    show VC _ _ _ _ _ ([(13, .int .i64 (t : Nat))] ++ _) ([blk b8 (.cells (timesC T) 60)] ++ _) _ _
    have ht : (t : Int) ≤ ld.tmod 61 + 1 := ht
    have hT : T = timesTo (dG d) (dC d) pN t := hT
    have hTb := timesTo_bd (g := dG d) (c := dC d) (p := pN) t
    rw [← hT] at hTb
    refine VC.seq ?_
    refine VC.seq ?_
    refine VC.reg (VO.l (LO.mv (.r rfl)) rfl <| VO.l (LO.mv (.r rfl)) rfl <| VO.l (LO.le (.r rfl) (.r rfl)) rfl <| VO.nil ?_)
    refine VE.seqN ?_
    refine VC.cond rfl (fun h4 => ?_) (fun h4 => ?_)
    ·
      have hE : atE (dG d) [dC d] (t : Nat) = 0 := at1E hc0 (by omega) (by omega)
      have hrow : (atL (dG d) [dC d] (t : Nat))[pN]? = some (stateOf (dG d) (dC d) (pN : Nat) (t : Nat)) := at1L hE (by show pN < (dW d * dH d).toNat; omega)
      have hlen : pN < (atL (dG d) [dC d] (t : Nat)).length := (List.getElem?_eq_some_iff.1 hrow).1
      have hLn : ((atL (dG d) [dC d] (t : Nat)).length : Int) = dW d * dH d := at1len hE (by show 0 ≤ dW d * dH d; omega)
      have h3s := stateOf_3 (dG d) (dC d) (pN : Nat) (t : Nat)
      refine VC.skip (VE.seqN ?_)
      refine VC.seq ?_
      refine VC.block ?_
      refine VC.seq ?_
      refine VC.reg (VO.l (LO.lda (vs := [_, _, _, _, _]) A23 (.r rfl) (fun _ hw => cells_at hw 2 rfl ⟨_, rfl⟩) rfl) rfl <| VO.l (LO.lda (vs := [_, _, _, _, _, _, _]) A34 (.r rfl) (fun _ hw => cells_at hw 1 rfl ⟨_, rfl⟩) rfl) rfl <| VO.h rfl <| HO.bs (ps := [(_, _)]) (vs := [(_, _)]) (Z := [_, _, _, _, _, _, _]) (C := [_, _, _, _, _, _, _]) S24 Z34 N34 ⟨(.r rfl), trivial⟩ rfl rfl rfl rfl ⟨_, [_, _, _, _, _, _, _], [_, _, _, _, _, _, _], rfl, rfl, rfl, rfl, rfl⟩ fun b10 => VO.l (LO.mv (.r rfl)) rfl <| VO.h rfl <| HO.callx (xs := [_, _, _]) (vs := [_, _, _]) C17 ⟨(.r rfl), (.r rfl), (.r rfl), trivial⟩ (fun w hw => At_c (dG d) [cpD d x] (some ⟨_, 0, none⟩) 1 (t : Nat) w (by show 1 < _; decide) (cloudsOne (cells_at hw 0 rfl ⟨[], rfl⟩) (own_rows hw 4 rfl) (own_rows hw 5 rfl) (dC_len d).1 (dC_len d).2)) fun y _ => VO.h rfl <| HO.lo (LO.mv (.r rfl)) <| VO.h rfl <| HO.lo (LO.ex (.r rfl) rfl) <| VO.h rfl <| HO.lo (LO.ex (.r rfl) rfl) <| VO.h rfl <| HO.lo (LO.as (.r rfl)) <| VO.h rfl <| HO.lo (LO.as (.r rfl)) <| VO.nil ?_)
      refine VE.seqN ?_
      refine VC.seq ?_
      refine VC.seq ?_
      refine VC.reg (VO.l (LO.mv (.r rfl)) rfl <| VO.l (LO.ne (.r rfl) (.r rfl)) rfl <| VO.l (LO.mv (.r rfl)) rfl <| VO.lg rfl rfl (GD.f _) (fun hg => LO.mv (.r rfl)) rfl <| VO.lg rfl rfl (GD.f _) (fun hg => LO.len S28 (.g hg rfl) rfl) rfl <| VO.lg rfl rfl (GD.f _) (fun hg => LO.fa (r := 3) F23_3 (.r rfl) rfl) rfl <| VO.lg rfl rfl (GD.f _) (fun hg => LO.ld O3 (.g hg rfl) (fun _ hw => cells_at hw 4 rfl ⟨_, rfl⟩)) rfl <| VO.lg rfl rfl (GD.f _) (fun hg => LO.fa (r := 4) F23_4 (.r rfl) rfl) rfl <| VO.lg rfl rfl (GD.f _) (fun hg => LO.ld O3 (.g hg rfl) (fun _ hw => cells_at hw 4 rfl ⟨_, rfl⟩)) rfl <| VO.lg rfl rfl (GD.f _) (fun hg => LO.mul (.g hg rfl) (.g hg rfl) (wi (by omega) (by omega))) rfl <| VO.lg rfl rfl (GD.f _) (fun hg => LO.ne (.g hg rfl) (.g hg rfl)) rfl <| VO.l (LO.pkO (.r rfl) (.r rfl) rfl rfl) rfl <| VO.nil ?_)
      refine VE.seqN ?_
      refine VC.cond rfl (fun hx4 => ?_) (fun hx4 => ?_)
      ·
        (exfalso; (rcases hx4 with q | q; exact q hE; exact q hLn))
      ·
        refine VC.skip (VE.seqN ?_)
        refine VC.seq ?_
        refine VC.seq ?_
        refine VC.reg (VO.l (LO.mv (.r rfl)) rfl <| VO.l (LO.mv (.r rfl)) rfl <| VO.l (LO.ixo S28 N3 (fun _ hw => (own_rows hw 0 rfl).some (by simp)) (.r rfl) (.r rfl) rfl hlen) rfl <| VO.l (LO.ld O3 (.r rfl) (fun w hw => cells_part (off := 0) (own_cell hw 0 rfl hrow) ⟨_, rfl⟩)) rfl <| VO.l (LO.ne (.r rfl) (.r rfl)) rfl <| VO.nil ?_)
        refine VE.seqN ?_
        refine VC.cond rfl (fun h5 => ?_) (fun h5 => ?_)
        ·
          refine VC.seq ?_
          refine VC.reg (VO.l (LO.mv (.r rfl)) rfl <| VO.l (LO.fa (r := 2) F60_2 (.r rfl) rfl) rfl <| VO.h0 <| HO.st 2 (vs := [_]) (C' := [_, _, _, _, _]) (L' := [_, _, _, _, _, _, _, _]) N3 rfl rfl rfl rfl rfl rfl rfl rfl <| VO.nil ?_)
          refine VE.seqN ?_
          refine VC.seq ?_
          refine VC.reg (VO.l (LO.fa (r := 4) F60_4 (.r rfl) rfl) rfl <| VO.l (LO.ld O3 (.r rfl) (fun _ hw => cells_at hw 2 rfl ⟨_, rfl⟩)) rfl <| VO.l (LO.add (.r rfl) (.r rfl) (wi (by omega) (by omega))) rfl <| VO.l (LO.fa (r := 4) F60_4 (.r rfl) rfl) rfl <| VO.h0 <| HO.st 2 (vs := [_]) (C' := [_, _, _, _, _]) (L' := [_, _, _, _, _, _, _, _]) N3 rfl rfl rfl rfl rfl rfl rfl rfl <| VO.nil ?_)
          refine VE.seqN ?_
          refine VC.seq ?_
          refine VC.reg (VO.l (LO.fa (r := 0) F60_0 (.r rfl) rfl) rfl <| VO.l (LO.ld O3 (.r rfl) (fun _ hw => cells_at hw 2 rfl ⟨_, rfl⟩)) rfl <| VO.l (LO.lt (.r rfl) (.r rfl)) rfl <| VO.nil ?_)
          refine VE.seqN ?_
          refine VC.cond rfl (fun h6 => ?_) (fun h6 => ?_)
          ·
            refine VC.reg (VO.l (LO.mv (.r rfl)) rfl <| VO.l (LO.fa (r := 0) F60_0 (.r rfl) rfl) rfl <| VO.h0 <| HO.st 2 (vs := [_]) (C' := [_, _, _, _, _]) (L' := [_, _, _, _, _, _, _, _]) N3 rfl rfl rfl rfl rfl rfl rfl rfl <| VO.nil ?_)
            refine VE.seqN ?_
            refine VC.seq ?_
            refine VC.reg (VO.l (LO.mv (.r rfl)) rfl <| VO.l (LO.mv (.r rfl)) rfl <| VO.l (LO.ixo S28 N3 (fun _ hw => (own_rows hw 0 rfl).some (by simp)) (.r rfl) (.r rfl) rfl hlen) rfl <| VO.l (LO.ld O3 (.r rfl) (fun w hw => cells_part (off := 0) (own_cell hw 0 rfl hrow) ⟨_, rfl⟩)) rfl <| VO.l (LO.eq (.r rfl) (.r rfl)) rfl <| VO.nil ?_)
            refine VE.seqN ?_
            refine VC.cond rfl (fun h7 => ?_) (fun h7 => ?_)
            ·
              refine VC.seq ?_
              refine VC.reg (VO.l (LO.fa (r := 3) F60_3 (.r rfl) rfl) rfl <| VO.l (LO.ld O3 (.r rfl) (fun _ hw => cells_at hw 2 rfl ⟨_, rfl⟩)) rfl <| VO.l (LO.add (.r rfl) (.r rfl) (wi (by omega) (by omega))) rfl <| VO.l (LO.fa (r := 3) F60_3 (.r rfl) rfl) rfl <| VO.h0 <| HO.st 2 (vs := [_]) (C' := [_, _, _, _, _]) (L' := [_, _, _, _, _, _, _, _]) N3 rfl rfl rfl rfl rfl rfl rfl rfl <| VO.nil ?_)
              refine VE.seqN ?_
              refine VC.seq ?_
              refine VC.reg (VO.l (LO.fa (r := 1) F60_1 (.r rfl) rfl) rfl <| VO.l (LO.ld O3 (.r rfl) (fun _ hw => cells_at hw 2 rfl ⟨_, rfl⟩)) rfl <| VO.l (LO.lt (.r rfl) (.r rfl)) rfl <| VO.nil ?_)
              refine VE.seqN ?_
              refine VC.cond rfl (fun h8 => ?_) (fun h8 => ?_)
              ·
                refine VC.reg (VO.l (LO.mv (.r rfl)) rfl <| VO.l (LO.fa (r := 1) F60_1 (.r rfl) rfl) rfl <| VO.h0 <| HO.st 2 (vs := [_]) (C' := [_, _, _, _, _]) (L' := [_, _, _, _, _, _, _, _]) N3 rfl rfl rfl rfl rfl rfl rfl rfl <| VO.nil ?_)
                refine VE.inN (VE.seqN ?_)
                refine VC.reg (VO.l (LO.mv (.r rfl)) rfl <| VO.l (LO.add (.r rfl) (.r rfl) (wi (by omega) (by omega))) rfl <| VO.l (LO.as (.r rfl)) rfl <| VO.nil ?_)
                refine VE.thenN fun a w ha hw => ⟨(t + 1, timesTo (dG d) (dC d) pN (t + 1)), ⟨by dsimp only; omega, rfl⟩, (by dsimp only; omega), ha.sub (.cons rfl (.cons rfl (.cons rfl (.cons rfl (.cons rfl (.cons rfl .nil)))))), (by rw [timesTo, ← hT]; first | (rw [stepT_r20 h5 h6 h7 h8]; exact hw.sel [2, 3, 4, 5, 6, 7] rfl) | (rw [stepT_r21 h5 h6 h7 h8]; exact hw.sel [2, 3, 4, 5, 6, 7] rfl) | (rw [stepT_r22 h5 h6 h7 h8]; exact hw.sel [2, 3, 4, 5, 6, 7] rfl) | (rw [stepT_r23 h5 h6 h7 h8]; exact hw.sel [2, 3, 4, 5, 6, 7] rfl) | (rw [stepT_r10 h5 h6 h7 h3s]; exact hw.sel [2, 3, 4, 5, 6, 7] rfl) | (rw [stepT_r11 h5 h6 h7 h3s]; exact hw.sel [2, 3, 4, 5, 6, 7] rfl) | (rw [stepT_r0 h5]; exact hw.sel [2, 3, 4, 5, 6, 7] rfl) | (exfalso; omega))⟩
              ·
                refine VC.skip (VE.inN (VE.seqN ?_))
                refine VC.reg (VO.l (LO.mv (.r rfl)) rfl <| VO.l (LO.add (.r rfl) (.r rfl) (wi (by omega) (by omega))) rfl <| VO.l (LO.as (.r rfl)) rfl <| VO.nil ?_)
                refine VE.thenN fun a w ha hw => ⟨(t + 1, timesTo (dG d) (dC d) pN (t + 1)), ⟨by dsimp only; omega, rfl⟩, (by dsimp only; omega), ha.sub (.cons rfl (.cons rfl (.cons rfl (.cons rfl (.cons rfl (.cons rfl .nil)))))), (by rw [timesTo, ← hT]; first | (rw [stepT_r20 h5 h6 h7 h8]; exact hw.sel [2, 3, 4, 5, 6, 7] rfl) | (rw [stepT_r21 h5 h6 h7 h8]; exact hw.sel [2, 3, 4, 5, 6, 7] rfl) | (rw [stepT_r22 h5 h6 h7 h8]; exact hw.sel [2, 3, 4, 5, 6, 7] rfl) | (rw [stepT_r23 h5 h6 h7 h8]; exact hw.sel [2, 3, 4, 5, 6, 7] rfl) | (rw [stepT_r10 h5 h6 h7 h3s]; exact hw.sel [2, 3, 4, 5, 6, 7] rfl) | (rw [stepT_r11 h5 h6 h7 h3s]; exact hw.sel [2, 3, 4, 5, 6, 7] rfl) | (rw [stepT_r0 h5]; exact hw.sel [2, 3, 4, 5, 6, 7] rfl) | (exfalso; omega))⟩
            ·
              refine VC.skip (VE.inN (VE.seqN ?_))
              refine VC.reg (VO.l (LO.mv (.r rfl)) rfl <| VO.l (LO.add (.r rfl) (.r rfl) (wi (by omega) (by omega))) rfl <| VO.l (LO.as (.r rfl)) rfl <| VO.nil ?_)
              refine VE.thenN fun a w ha hw => ⟨(t + 1, timesTo (dG d) (dC d) pN (t + 1)), ⟨by dsimp only; omega, rfl⟩, (by dsimp only; omega), ha.sub (.cons rfl (.cons rfl (.cons rfl (.cons rfl (.cons rfl (.cons rfl .nil)))))), (by rw [timesTo, ← hT]; first | (rw [stepT_r20 h5 h6 h7 h8]; exact hw.sel [2, 3, 4, 5, 6, 7] rfl) | (rw [stepT_r21 h5 h6 h7 h8]; exact hw.sel [2, 3, 4, 5, 6, 7] rfl) | (rw [stepT_r22 h5 h6 h7 h8]; exact hw.sel [2, 3, 4, 5, 6, 7] rfl) | (rw [stepT_r23 h5 h6 h7 h8]; exact hw.sel [2, 3, 4, 5, 6, 7] rfl) | (rw [stepT_r10 h5 h6 h7 h3s]; exact hw.sel [2, 3, 4, 5, 6, 7] rfl) | (rw [stepT_r11 h5 h6 h7 h3s]; exact hw.sel [2, 3, 4, 5, 6, 7] rfl) | (rw [stepT_r0 h5]; exact hw.sel [2, 3, 4, 5, 6, 7] rfl) | (exfalso; omega))⟩
          ·
            refine VC.skip (VE.seqN ?_)
            refine VC.seq ?_
            refine VC.reg (VO.l (LO.mv (.r rfl)) rfl <| VO.l (LO.mv (.r rfl)) rfl <| VO.l (LO.ixo S28 N3 (fun _ hw => (own_rows hw 0 rfl).some (by simp)) (.r rfl) (.r rfl) rfl hlen) rfl <| VO.l (LO.ld O3 (.r rfl) (fun w hw => cells_part (off := 0) (own_cell hw 0 rfl hrow) ⟨_, rfl⟩)) rfl <| VO.l (LO.eq (.r rfl) (.r rfl)) rfl <| VO.nil ?_)
            refine VE.seqN ?_
            refine VC.cond rfl (fun h7 => ?_) (fun h7 => ?_)
            ·
              refine VC.seq ?_
              refine VC.reg (VO.l (LO.fa (r := 3) F60_3 (.r rfl) rfl) rfl <| VO.l (LO.ld O3 (.r rfl) (fun _ hw => cells_at hw 2 rfl ⟨_, rfl⟩)) rfl <| VO.l (LO.add (.r rfl) (.r rfl) (wi (by omega) (by omega))) rfl <| VO.l (LO.fa (r := 3) F60_3 (.r rfl) rfl) rfl <| VO.h0 <| HO.st 2 (vs := [_]) (C' := [_, _, _, _, _]) (L' := [_, _, _, _, _, _, _, _]) N3 rfl rfl rfl rfl rfl rfl rfl rfl <| VO.nil ?_)
              refine VE.seqN ?_
              refine VC.seq ?_
              refine VC.reg (VO.l (LO.fa (r := 1) F60_1 (.r rfl) rfl) rfl <| VO.l (LO.ld O3 (.r rfl) (fun _ hw => cells_at hw 2 rfl ⟨_, rfl⟩)) rfl <| VO.l (LO.lt (.r rfl) (.r rfl)) rfl <| VO.nil ?_)
              refine VE.seqN ?_
              refine VC.cond rfl (fun h8 => ?_) (fun h8 => ?_)
              ·
                refine VC.reg (VO.l (LO.mv (.r rfl)) rfl <| VO.l (LO.fa (r := 1) F60_1 (.r rfl) rfl) rfl <| VO.h0 <| HO.st 2 (vs := [_]) (C' := [_, _, _, _, _]) (L' := [_, _, _, _, _, _, _, _]) N3 rfl rfl rfl rfl rfl rfl rfl rfl <| VO.nil ?_)
                refine VE.inN (VE.seqN ?_)
                refine VC.reg (VO.l (LO.mv (.r rfl)) rfl <| VO.l (LO.add (.r rfl) (.r rfl) (wi (by omega) (by omega))) rfl <| VO.l (LO.as (.r rfl)) rfl <| VO.nil ?_)
                refine VE.thenN fun a w ha hw => ⟨(t + 1, timesTo (dG d) (dC d) pN (t + 1)), ⟨by dsimp only; omega, rfl⟩, (by dsimp only; omega), ha.sub (.cons rfl (.cons rfl (.cons rfl (.cons rfl (.cons rfl (.cons rfl .nil)))))), (by rw [timesTo, ← hT]; first | (rw [stepT_r20 h5 h6 h7 h8]; exact hw.sel [2, 3, 4, 5, 6, 7] rfl) | (rw [stepT_r21 h5 h6 h7 h8]; exact hw.sel [2, 3, 4, 5, 6, 7] rfl) | (rw [stepT_r22 h5 h6 h7 h8]; exact hw.sel [2, 3, 4, 5, 6, 7] rfl) | (rw [stepT_r23 h5 h6 h7 h8]; exact hw.sel [2, 3, 4, 5, 6, 7] rfl) | (rw [stepT_r10 h5 h6 h7 h3s]; exact hw.sel [2, 3, 4, 5, 6, 7] rfl) | (rw [stepT_r11 h5 h6 h7 h3s]; exact hw.sel [2, 3, 4, 5, 6, 7] rfl) | (rw [stepT_r0 h5]; exact hw.sel [2, 3, 4, 5, 6, 7] rfl) | (exfalso; omega))⟩
              ·
                refine VC.skip (VE.inN (VE.seqN ?_))
                refine VC.reg (VO.l (LO.mv (.r rfl)) rfl <| VO.l (LO.add (.r rfl) (.r rfl) (wi (by omega) (by omega))) rfl <| VO.l (LO.as (.r rfl)) rfl <| VO.nil ?_)
                refine VE.thenN fun a w ha hw => ⟨(t + 1, timesTo (dG d) (dC d) pN (t + 1)), ⟨by dsimp only; omega, rfl⟩, (by dsimp only; omega), ha.sub (.cons rfl (.cons rfl (.cons rfl (.cons rfl (.cons rfl (.cons rfl .nil)))))), (by rw [timesTo, ← hT]; first | (rw [stepT_r20 h5 h6 h7 h8]; exact hw.sel [2, 3, 4, 5, 6, 7] rfl) | (rw [stepT_r21 h5 h6 h7 h8]; exact hw.sel [2, 3, 4, 5, 6, 7] rfl) | (rw [stepT_r22 h5 h6 h7 h8]; exact hw.sel [2, 3, 4, 5, 6, 7] rfl) | (rw [stepT_r23 h5 h6 h7 h8]; exact hw.sel [2, 3, 4, 5, 6, 7] rfl) | (rw [stepT_r10 h5 h6 h7 h3s]; exact hw.sel [2, 3, 4, 5, 6, 7] rfl) | (rw [stepT_r11 h5 h6 h7 h3s]; exact hw.sel [2, 3, 4, 5, 6, 7] rfl) | (rw [stepT_r0 h5]; exact hw.sel [2, 3, 4, 5, 6, 7] rfl) | (exfalso; omega))⟩
            ·
              refine VC.skip (VE.inN (VE.seqN ?_))
              refine VC.reg (VO.l (LO.mv (.r rfl)) rfl <| VO.l (LO.add (.r rfl) (.r rfl) (wi (by omega) (by omega))) rfl <| VO.l (LO.as (.r rfl)) rfl <| VO.nil ?_)
              refine VE.thenN fun a w ha hw => ⟨(t + 1, timesTo (dG d) (dC d) pN (t + 1)), ⟨by dsimp only; omega, rfl⟩, (by dsimp only; omega), ha.sub (.cons rfl (.cons rfl (.cons rfl (.cons rfl (.cons rfl (.cons rfl .nil)))))), (by rw [timesTo, ← hT]; first | (rw [stepT_r20 h5 h6 h7 h8]; exact hw.sel [2, 3, 4, 5, 6, 7] rfl) | (rw [stepT_r21 h5 h6 h7 h8]; exact hw.sel [2, 3, 4, 5, 6, 7] rfl) | (rw [stepT_r22 h5 h6 h7 h8]; exact hw.sel [2, 3, 4, 5, 6, 7] rfl) | (rw [stepT_r23 h5 h6 h7 h8]; exact hw.sel [2, 3, 4, 5, 6, 7] rfl) | (rw [stepT_r10 h5 h6 h7 h3s]; exact hw.sel [2, 3, 4, 5, 6, 7] rfl) | (rw [stepT_r11 h5 h6 h7 h3s]; exact hw.sel [2, 3, 4, 5, 6, 7] rfl) | (rw [stepT_r0 h5]; exact hw.sel [2, 3, 4, 5, 6, 7] rfl) | (exfalso; omega))⟩
        ·
          refine VC.skip (VE.seqN ?_)
          refine VC.seq ?_
          refine VC.reg (VO.l (LO.mv (.r rfl)) rfl <| VO.l (LO.mv (.r rfl)) rfl <| VO.l (LO.ixo S28 N3 (fun _ hw => (own_rows hw 0 rfl).some (by simp)) (.r rfl) (.r rfl) rfl hlen) rfl <| VO.l (LO.ld O3 (.r rfl) (fun w hw => cells_part (off := 0) (own_cell hw 0 rfl hrow) ⟨_, rfl⟩)) rfl <| VO.l (LO.eq (.r rfl) (.r rfl)) rfl <| VO.nil ?_)
          refine VE.seqN ?_
          refine VC.cond rfl (fun h7 => ?_) (fun h7 => ?_)
          ·
            refine VC.seq ?_
            refine VC.reg (VO.l (LO.fa (r := 3) F60_3 (.r rfl) rfl) rfl <| VO.l (LO.ld O3 (.r rfl) (fun _ hw => cells_at hw 2 rfl ⟨_, rfl⟩)) rfl <| VO.l (LO.add (.r rfl) (.r rfl) (wi (by omega) (by omega))) rfl <| VO.l (LO.fa (r := 3) F60_3 (.r rfl) rfl) rfl <| VO.h0 <| HO.st 2 (vs := [_]) (C' := [_, _, _, _, _]) (L' := [_, _, _, _, _, _, _, _]) N3 rfl rfl rfl rfl rfl rfl rfl rfl <| VO.nil ?_)
            refine VE.seqN ?_
            refine VC.seq ?_
            refine VC.reg (VO.l (LO.fa (r := 1) F60_1 (.r rfl) rfl) rfl <| VO.l (LO.ld O3 (.r rfl) (fun _ hw => cells_at hw 2 rfl ⟨_, rfl⟩)) rfl <| VO.l (LO.lt (.r rfl) (.r rfl)) rfl <| VO.nil ?_)
            refine VE.seqN ?_
            refine VC.cond rfl (fun h8 => ?_) (fun h8 => ?_)
            ·
              refine VC.reg (VO.l (LO.mv (.r rfl)) rfl <| VO.l (LO.fa (r := 1) F60_1 (.r rfl) rfl) rfl <| VO.h0 <| HO.st 2 (vs := [_]) (C' := [_, _, _, _, _]) (L' := [_, _, _, _, _, _, _, _]) N3 rfl rfl rfl rfl rfl rfl rfl rfl <| VO.nil ?_)
              refine VE.inN (VE.seqN ?_)
              refine VC.reg (VO.l (LO.mv (.r rfl)) rfl <| VO.l (LO.add (.r rfl) (.r rfl) (wi (by omega) (by omega))) rfl <| VO.l (LO.as (.r rfl)) rfl <| VO.nil ?_)
              refine VE.thenN fun a w ha hw => ⟨(t + 1, timesTo (dG d) (dC d) pN (t + 1)), ⟨by dsimp only; omega, rfl⟩, (by dsimp only; omega), ha.sub (.cons rfl (.cons rfl (.cons rfl (.cons rfl (.cons rfl (.cons rfl .nil)))))), (by rw [timesTo, ← hT]; first | (rw [stepT_r20 h5 h6 h7 h8]; exact hw.sel [2, 3, 4, 5, 6, 7] rfl) | (rw [stepT_r21 h5 h6 h7 h8]; exact hw.sel [2, 3, 4, 5, 6, 7] rfl) | (rw [stepT_r22 h5 h6 h7 h8]; exact hw.sel [2, 3, 4, 5, 6, 7] rfl) | (rw [stepT_r23 h5 h6 h7 h8]; exact hw.sel [2, 3, 4, 5, 6, 7] rfl) | (rw [stepT_r10 h5 h6 h7 h3s]; exact hw.sel [2, 3, 4, 5, 6, 7] rfl) | (rw [stepT_r11 h5 h6 h7 h3s]; exact hw.sel [2, 3, 4, 5, 6, 7] rfl) | (rw [stepT_r0 h5]; exact hw.sel [2, 3, 4, 5, 6, 7] rfl) | (exfalso; omega))⟩
            ·
              refine VC.skip (VE.inN (VE.seqN ?_))
              refine VC.reg (VO.l (LO.mv (.r rfl)) rfl <| VO.l (LO.add (.r rfl) (.r rfl) (wi (by omega) (by omega))) rfl <| VO.l (LO.as (.r rfl)) rfl <| VO.nil ?_)
              refine VE.thenN fun a w ha hw => ⟨(t + 1, timesTo (dG d) (dC d) pN (t + 1)), ⟨by dsimp only; omega, rfl⟩, (by dsimp only; omega), ha.sub (.cons rfl (.cons rfl (.cons rfl (.cons rfl (.cons rfl (.cons rfl .nil)))))), (by rw [timesTo, ← hT]; first | (rw [stepT_r20 h5 h6 h7 h8]; exact hw.sel [2, 3, 4, 5, 6, 7] rfl) | (rw [stepT_r21 h5 h6 h7 h8]; exact hw.sel [2, 3, 4, 5, 6, 7] rfl) | (rw [stepT_r22 h5 h6 h7 h8]; exact hw.sel [2, 3, 4, 5, 6, 7] rfl) | (rw [stepT_r23 h5 h6 h7 h8]; exact hw.sel [2, 3, 4, 5, 6, 7] rfl) | (rw [stepT_r10 h5 h6 h7 h3s]; exact hw.sel [2, 3, 4, 5, 6, 7] rfl) | (rw [stepT_r11 h5 h6 h7 h3s]; exact hw.sel [2, 3, 4, 5, 6, 7] rfl) | (rw [stepT_r0 h5]; exact hw.sel [2, 3, 4, 5, 6, 7] rfl) | (exfalso; omega))⟩
          ·
            refine VC.skip (VE.inN (VE.seqN ?_))
            refine VC.reg (VO.l (LO.mv (.r rfl)) rfl <| VO.l (LO.add (.r rfl) (.r rfl) (wi (by omega) (by omega))) rfl <| VO.l (LO.as (.r rfl)) rfl <| VO.nil ?_)
            refine VE.thenN fun a w ha hw => ⟨(t + 1, timesTo (dG d) (dC d) pN (t + 1)), ⟨by dsimp only; omega, rfl⟩, (by dsimp only; omega), ha.sub (.cons rfl (.cons rfl (.cons rfl (.cons rfl (.cons rfl (.cons rfl .nil)))))), (by rw [timesTo, ← hT]; first | (rw [stepT_r20 h5 h6 h7 h8]; exact hw.sel [2, 3, 4, 5, 6, 7] rfl) | (rw [stepT_r21 h5 h6 h7 h8]; exact hw.sel [2, 3, 4, 5, 6, 7] rfl) | (rw [stepT_r22 h5 h6 h7 h8]; exact hw.sel [2, 3, 4, 5, 6, 7] rfl) | (rw [stepT_r23 h5 h6 h7 h8]; exact hw.sel [2, 3, 4, 5, 6, 7] rfl) | (rw [stepT_r10 h5 h6 h7 h3s]; exact hw.sel [2, 3, 4, 5, 6, 7] rfl) | (rw [stepT_r11 h5 h6 h7 h3s]; exact hw.sel [2, 3, 4, 5, 6, 7] rfl) | (rw [stepT_r0 h5]; exact hw.sel [2, 3, 4, 5, 6, 7] rfl) | (exfalso; omega))⟩
    ·
      refine VC.exit (VE.thenX (VE.thenX (VE.inX (VE.seqN ?_))))
      refine VC.seq ?_
      refine VC.reg (VO.l (LO.lda (vs := [_, _, _, _, _]) A23 (.r rfl) (fun _ hw => cells_at hw 2 rfl ⟨_, rfl⟩) rfl) rfl <| VO.l (LO.lda (vs := [_, _, _, _, _, _, _]) A34 (.r rfl) (fun _ hw => cells_at hw 1 rfl ⟨_, rfl⟩) rfl) rfl <| VO.l (LO.mv (.r rfl)) rfl <| VO.l (LO.mv (.r rfl)) rfl <| VO.l (LO.call (xs := [_, _, _, _]) (vs := [_, _, _, _]) C23 ⟨(.r rfl), (.r rfl), (.r rfl), (.r rfl), trivial⟩ (fun w hw => When_c (dG d) (dC d) x.1.1 x.2.1 x.1.2 x.2.2 (pN : Nat) (ld.tmod 61) w (dC_len d).1 (dC_len d).2 (own_rows hw 3 rfl) (own_rows hw 4 rfl))) rfl <| VO.l (LO.mv (.r rfl)) rfl <| VO.l (LO.ex (.r rfl) rfl) rfl <| VO.l (LO.ex (.r rfl) rfl) rfl <| VO.h rfl <| HO.alloc (C := #[_, _, _, _, _]) Z60 rfl fun b21 => VO.h0 <| HO.st 0 (vs := [_, _, _, _, _]) (C' := [_, _, _, _, _]) (L' := [_, _, _, _, _, _, _]) N60 rfl rfl rfl rfl rfl rfl rfl rfl <| VO.l (LO.as (.r rfl)) rfl <| VO.nil ?_)
      refine VE.seqN ?_
      refine VC.seq ?_
      refine VC.reg (VO.l (LO.lda (vs := [_, _, _, _, _]) A60 (.r rfl) (fun _ hw => cells_at hw 0 rfl ⟨_, rfl⟩) rfl) rfl <| VO.l (LO.lda (vs := [_, _, _, _, _]) A60 (.r rfl) (fun _ hw => cells_at hw 1 rfl ⟨_, rfl⟩) rfl) rfl <| VO.l (LO.eqs («as» := (whenT (dG d) (dC d) pN (ld.tmod 61)).ints) (bs := T.ints) E60 (.r rfl) (.r rfl) rfl rfl) rfl <| VO.l (LO.mv (.r rfl)) rfl <| VO.lg rfl rfl (GD.t _) (fun hg => LO.mv (.r rfl)) rfl <| VO.lg rfl rfl (GD.t _) (fun hg => LO.eq (.g hg rfl) (.r rfl)) rfl <| VO.l (LO.pkA (.r rfl) rfl rfl (.r rfl)) rfl <| VO.l (LO.mv (.r rfl)) rfl <| VO.lg rfl rfl (GD.t _) (fun hg => LO.call (xs := []) (vs := []) C14 trivial (fun w _ => works_c w)) rfl <| VO.l (LO.pkA (.r rfl) rfl rfl (.r rfl)) rfl <| VO.l (LO.as (.r rfl)) rfl <| VO.nil ?_)
      refine VE.seqN ?_
      refine VC.ret (VE.res (vs := [_]) rfl ⟨rfl, trivial⟩ (fun w hw => ?_))
      first | exact ⟨rfl, hw.nil⟩ | exact ⟨when_eq hc0 (by show (pN : Int) ≤ dW d * dH d - 1; omega) hld.1 (by omega) hT (by omega), hw.nil⟩

end Go.Proofs.Ytdcjeoamhjplmaa
