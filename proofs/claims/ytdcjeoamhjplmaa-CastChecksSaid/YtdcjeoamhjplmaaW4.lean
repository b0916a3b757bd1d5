/-
  The walks about sources.
-/
import Derived.Test.YtdcjeoamhjplmaaW3
namespace Go.Proofs.Ytdcjeoamhjplmaa
open Go.SL Go.Proofs Go.Cast
set_option linter.unusedVariables false

theorem F120_0 : FieldAt Try.prog 120 0 0 := ⟨_, _, Try.underlying120, rfl, rfl, 4, by kernel_rfl⟩
theorem F120_3 : FieldAt Try.prog 120 3 7 := ⟨_, _, Try.underlying120, rfl, rfl, 3, by kernel_rfl⟩
theorem C96 : IsFn Try.prog 96 := ⟨_, Try.func96, by decide, rfl⟩


abbrev shapeC (a b : Nat) (g : Grid) (c : Cloud) : Array Value := #[.int .i64 g.x, .int .i64 g.y, .int .i64 g.size, .int .i64 g.wide, .int .i64 g.high, .map (some a), .map (some b), .int .i64 c.flow.a, .int .i64 c.flow.b, .int .i64 c.flow.c, .int .i64 c.flow.d, .int .i64 c.grow]
abbrev srcF (bp bsh bt : Nat) : Value := .func (.func 95) #[] #[.pointer (some ⟨bp, 0, none⟩), .pointer (some ⟨bsh, 0, none⟩), .pointer (some ⟨bt, 0, none⟩)]
def srcCap (g : Grid) (c : Cloud) (a b bp bsh bt : Nat) (p t : Int) (w : World) : Prop := Cells w ⟨bp, 0, none⟩ [.int .i64 p] ∧ Cells w ⟨bsh, 0, none⟩ (shapeC a b g c).toList ∧ Cells w ⟨bt, 0, none⟩ [.int .i64 t]
theorem srcs_le {g : Grid} {c : Cloud} {p t : Int} {i j : Nat} (hi : i < sny g c p t) (hj : j < snx g c p t) : (sout g c p t).toNat + i * snx g c p t + j + 1 ≤ (sout g c p t).toNat + sny g c p t * snx g c p t := by
  have : (i + 1) * snx g c p t ≤ sny g c p t * snx g c p t := Nat.mul_le_mul_right _ hi
  rw [Nat.add_mul] at this; omega
theorem seq_stop {J Jx : Nat → Res → Prop} {xs : List (List Value)} {n : Nat} {r : Res} (h : n ≤ xs.length) (k : Jx n r) : J xs.length r ∨ ∃ n, n ≤ xs.length ∧ Jx n r := .inr ⟨n, h, k⟩
theorem seq_full {J Jx : Nat → Res → Prop} {xs : List (List Value)} {r : Res} (k : J xs.length r) : J xs.length r ∨ ∃ n, n ≤ xs.length ∧ Jx n r := .inl k
theorem seq_end {J Jx : Nat → Res → Prop} {xs : List (List Value)} {r : Res} {β : Bs} {w : World} (h : J xs.length r ∨ ∃ n, n ≤ xs.length ∧ Jx n r) (hw : St β [r] w) : ∃ n r', (J xs.length r' ∨ (n ≤ xs.length ∧ Jx n r')) ∧ St β [r'] w := by
  rcases h with h | ⟨n, h1, h2⟩
  · exact ⟨0, r, .inl h, hw⟩
  · exact ⟨n, r, .inr ⟨h1, h2⟩, hw⟩
theorem tmod_bd {g : Grid} {p : Int} (hg : gridOk g) (h1 : 0 ≤ p) (h2 : p < g.wide * g.high) : (0 ≤ p.tmod g.wide ∧ p.tmod g.wide < g.wide) ∧ 0 ≤ p.tdiv g.wide ∧ p.tdiv g.wide < g.high := by
  obtain ⟨_, _, _, ⟨h3, h4⟩, h5, h6⟩ := hg
  rw [Int.tmod_eq_emod_of_nonneg h1, Int.tdiv_eq_ediv_of_nonneg h1]
  exact ⟨⟨Int.emod_nonneg _ (by omega), Int.emod_lt_of_pos _ (by omega)⟩, Int.ediv_nonneg h1 (by omega), Int.ediv_lt_of_lt_mul (by omega) (by rw [Int.mul_comm]; exact h2)⟩

set_option maxRecDepth 20000 in
theorem sources_c (g : Grid) (c : Cloud) (a b : Nat) (p t : Int) (w : World) :
  Calls Try.prog 84 #[shapeV a b g c, .int .i64 p, .int .i64 t] w fun e w' => ∃ q : Nat × Nat × Nat, True ∧ e = .returned (srcF q.2.1 q.1 q.2.2) ∧ St (bs w) [blk q.2.2 (.cells #[.int .i64 t] 3), blk q.2.1 (.cells #[.int .i64 p] 3), blk q.1 (.cells (shapeC a b g c) 120)] w' := by
  refine enter (vs := [_, _, _]) (env := [(0, _), (1, _), (2, _)]) Try.func84 rfl rfl rfl rfl ?_
  refine VC.seq ?_
  refine VC.reg (VO.h rfl <| HO.box (C := #[_, _, _, _, _, _, _, _, _, _, _, _]) rfl rfl fun b1 => VO.h rfl <| HO.box (C := #[_]) rfl rfl fun b2 => VO.h rfl <| HO.box (C := #[_]) rfl rfl fun b3 => VO.l (LO.as (.r rfl)) rfl <| VO.nil ?_)
  refine VE.seqN ?_
  refine VC.seq ?_
  refine VC.reg (VO.h rfl <| HO.lo (LO.mf (cap := [_, _, _]) ⟨(.r rfl), (.r rfl), (.r rfl), trivial⟩) <| VO.h rfl <| HO.lo (LO.as (.r rfl)) <| VO.nil ?_)
  refine VE.seqN ?_
  refine VC.ret (VE.res (vs := [_]) rfl ⟨rfl, trivial⟩ (fun w hw => ?_))
  exact ⟨(b1, b2, b3), trivial, rfl, hw⟩

set_option maxRecDepth 20000 in
theorem sources_seq (g : Grid) (c : Cloud) (a b bp bsh bt : Nat) (p t : Int) (hg : gridOk g) (hf : flowOk c.flow) (hr1 : 0 ≤ c.grow) (hr2 : c.grow ≤ 10000) (ht1 : 0 ≤ t) (ht2 : t ≤ 7200) (hp1 : 0 ≤ p) (hp2 : p < g.wide * g.high) :
  SeqC Try.prog 95 [.pointer (some ⟨bp, 0, none⟩), .pointer (some ⟨bsh, 0, none⟩), .pointer (some ⟨bt, 0, none⟩)] (srcCap g c a b bp bsh bt p t) ((srcs g c p t).map fun n => [.int .i64 n]) := by
  intro l J Jx w r hCap hyl hJ hi0 hf0
  have hx := tmod_bd hg hp1 hp2
  obtain ⟨hgx, hgy, hgs, hgw, hgh⟩ := hg
  obtain ⟨⟨hfa, hfb, hfc⟩, hfd, hfe, hff⟩ := hf
  have hc1 := come_bd (f := c.flow.a) (by omega) (by omega) hr1 hr2 ht1 ht2
  have hc2 := come_bd (f := c.flow.b) (by omega) (by omega) hr1 hr2 ht1 ht2
  have hc3 := come_bd (f := c.flow.c) (by omega) (by omega) hr1 hr2 ht1 ht2
  have hc4 := come_bd (f := c.flow.d) (by omega) (by omega) hr1 hr2 ht1 ht2
  have hsx : 0 ≤ sx0 g c p t ∧ sx0 g c p t ≤ 2000 := by unfold sx0; omega
  have hsy : 0 ≤ sy0 g c p t ∧ sy0 g c p t ≤ 2000 := by unfold sy0; omega
  refine enterO (vs := [_, _, _, _]) (env := [(0, _), (1, _), (2, _), (3, _)]) (St.one hi0 hf0) Try.func95 rfl rfl rfl rfl ?_
  refine VC.seq ?_
  refine VC.draw mixed (LL.l (LO.ld O3 (.r rfl) (fun _ hw => sub_cells (off := 0) (hCap _ _ _ hJ (St.inv hw 0 _ rfl)).1 ⟨_, rfl⟩)) rfl <| LL.l (LO.fa (r := 0) F120_0 (.r rfl) rfl) rfl <| LL.l (LO.fa (r := 3) F23_3 (.r rfl) rfl) rfl <| LL.l (LO.ld O3 (.r rfl) (fun _ hw => sub_cells (off := 3) (hCap _ _ _ hJ (St.inv hw 0 _ rfl)).2.1 ⟨_, rfl⟩)) rfl <| LL.l (LO.rem (.r rfl) (.r rfl) (by omega)) rfl <| LL.l (LO.ld O3 (.r rfl) (fun _ hw => sub_cells (off := 0) (hCap _ _ _ hJ (St.inv hw 0 _ rfl)).1 ⟨_, rfl⟩)) rfl <| LL.l (LO.fa (r := 0) F120_0 (.r rfl) rfl) rfl <| LL.l (LO.fa (r := 3) F23_3 (.r rfl) rfl) rfl <| LL.l (LO.ld O3 (.r rfl) (fun _ hw => sub_cells (off := 3) (hCap _ _ _ hJ (St.inv hw 0 _ rfl)).2.1 ⟨_, rfl⟩)) rfl <| LL.l (LO.quo (.r rfl) (.r rfl) (by omega) (wi (by omega) (by omega))) rfl <| LL.l (LO.as (.r rfl)) rfl <| LL.l (LO.as (.r rfl)) rfl <| LL.nil) (by kernel_rfl) ?_
  refine VE.seqN ?_
  refine VC.seq ?_
  refine VC.reg (VO.l (LO.lda (vs := [_, _, _, _, _, _, _, _, _, _, _, _]) A120 (.r rfl) (fun _ hw => sub_cells (off := 0) (hCap _ _ _ hJ (St.inv hw 0 _ rfl)).2.1 ⟨_, rfl⟩) rfl) rfl <| VO.l (LO.fa (r := 7) F120_3 (.r rfl) rfl) rfl <| VO.l (LO.fa (r := 7) F32_0 (.r rfl) rfl) rfl <| VO.l (LO.lda (vs := [_, _]) A30 (.r rfl) (fun _ hw => sub_cells (off := 7) (hCap _ _ _ hJ (St.inv hw 0 _ rfl)).2.1 ⟨_, rfl⟩) rfl) rfl <| VO.l (LO.ld O3 (.r rfl) (fun _ hw => sub_cells (off := 0) (hCap _ _ _ hJ (St.inv hw 0 _ rfl)).2.2 ⟨_, rfl⟩)) rfl <| VO.l (LO.call (xs := [_, _, _]) (vs := [_, _, _]) C96 ⟨(.r rfl), (.r rfl), (.r rfl), trivial⟩ (fun w _ => come_c g c _ _ _ _ _ w (by omega) (by omega) (by omega) (by omega) (by omega) (by omega) (by omega) (by omega))) rfl <| VO.l (LO.mv (.r rfl)) rfl <| VO.l (LO.ex (.r rfl) rfl) rfl <| VO.l (LO.ex (.r rfl) rfl) rfl <| VO.l (LO.as (.r rfl)) rfl <| VO.l (LO.as (.r rfl)) rfl <| VO.nil ?_)
  refine VE.seqN ?_
  refine VC.seq ?_
  refine VC.reg (VO.l (LO.lda (vs := [_, _, _, _, _, _, _, _, _, _, _, _]) A120 (.r rfl) (fun _ hw => sub_cells (off := 0) (hCap _ _ _ hJ (St.inv hw 0 _ rfl)).2.1 ⟨_, rfl⟩) rfl) rfl <| VO.l (LO.fa (r := 7) F120_3 (.r rfl) rfl) rfl <| VO.l (LO.fa (r := 9) F32_1 (.r rfl) rfl) rfl <| VO.l (LO.lda (vs := [_, _]) A30 (.r rfl) (fun _ hw => sub_cells (off := 9) (hCap _ _ _ hJ (St.inv hw 0 _ rfl)).2.1 ⟨_, rfl⟩) rfl) rfl <| VO.l (LO.ld O3 (.r rfl) (fun _ hw => sub_cells (off := 0) (hCap _ _ _ hJ (St.inv hw 0 _ rfl)).2.2 ⟨_, rfl⟩)) rfl <| VO.l (LO.call (xs := [_, _, _]) (vs := [_, _, _]) C96 ⟨(.r rfl), (.r rfl), (.r rfl), trivial⟩ (fun w _ => come_c g c _ _ _ _ _ w (by omega) (by omega) (by omega) (by omega) (by omega) (by omega) (by omega) (by omega))) rfl <| VO.l (LO.mv (.r rfl)) rfl <| VO.l (LO.ex (.r rfl) rfl) rfl <| VO.l (LO.ex (.r rfl) rfl) rfl <| VO.l (LO.as (.r rfl)) rfl <| VO.l (LO.as (.r rfl)) rfl <| VO.nil ?_)
  refine VE.seqN ?_
  refine VC.seq ?_
  refine VC.reg (VO.l (LO.mv (.r rfl)) rfl <| VO.l (LO.mv (.r rfl)) rfl <| VO.l (LO.sub (.r rfl) (.r rfl) (wi (by omega) (by omega))) rfl <| VO.l (LO.lt (.r rfl) (.r rfl)) rfl <| VO.l (LO.mv (.r rfl)) rfl <| VO.lg rfl rfl (GD.f _) (fun hg => LO.mv (.r rfl)) rfl <| VO.lg rfl rfl (GD.f _) (fun hg => LO.mv (.r rfl)) rfl <| VO.lg rfl rfl (GD.f _) (fun hg => LO.sub (.g hg rfl) (.g hg rfl) (wi (by omega) (by omega))) rfl <| VO.lg rfl rfl (GD.f _) (fun hg => LO.fa (r := 0) F120_0 (.r rfl) rfl) rfl <| VO.lg rfl rfl (GD.f _) (fun hg => LO.fa (r := 3) F23_3 (.g hg rfl) rfl) rfl <| VO.lg rfl rfl (GD.f _) (fun hg => LO.ld O3 (.g hg rfl) (fun _ hw => sub_cells (off := 3) (hCap _ _ _ hJ (St.inv hw 0 _ rfl)).2.1 ⟨_, rfl⟩)) rfl <| VO.lg rfl rfl (GD.f _) (fun hg => LO.ge (.g hg rfl) (.g hg rfl)) rfl <| VO.l (LO.pkO (.r rfl) (.r rfl) rfl rfl) rfl <| VO.l (LO.mv (.r rfl)) rfl <| VO.lg rfl rfl (GD.f _) (fun hg => LO.mv (.r rfl)) rfl <| VO.lg rfl rfl (GD.f _) (fun hg => LO.mv (.r rfl)) rfl <| VO.lg rfl rfl (GD.f _) (fun hg => LO.sub (.g hg rfl) (.g hg rfl) (wi (by omega) (by omega))) rfl <| VO.lg rfl rfl (GD.f _) (fun hg => LO.lt (.g hg rfl) (.r rfl)) rfl <| VO.l (LO.pkO (.r rfl) (.r rfl) rfl rfl) rfl <| VO.l (LO.mv (.r rfl)) rfl <| VO.lg rfl rfl (GD.f _) (fun hg => LO.mv (.r rfl)) rfl <| VO.lg rfl rfl (GD.f _) (fun hg => LO.mv (.r rfl)) rfl <| VO.lg rfl rfl (GD.f _) (fun hg => LO.sub (.g hg rfl) (.g hg rfl) (wi (by omega) (by omega))) rfl <| VO.lg rfl rfl (GD.f _) (fun hg => LO.fa (r := 0) F120_0 (.r rfl) rfl) rfl <| VO.lg rfl rfl (GD.f _) (fun hg => LO.fa (r := 4) F23_4 (.g hg rfl) rfl) rfl <| VO.lg rfl rfl (GD.f _) (fun hg => LO.ld O3 (.g hg rfl) (fun _ hw => sub_cells (off := 4) (hCap _ _ _ hJ (St.inv hw 0 _ rfl)).2.1 ⟨_, rfl⟩)) rfl <| VO.lg rfl rfl (GD.f _) (fun hg => LO.ge (.g hg rfl) (.g hg rfl)) rfl <| VO.l (LO.pkO (.r rfl) (.r rfl) rfl rfl) rfl <| VO.l (LO.as (v := .bool (sout g c p t)) (.r rfl)) rfl <| VO.nil ?_)
  refine VE.seqN ?_
  refine VC.seq ?_
  refine VC.seq ?_
  refine VC.reg (VO.l (LO.mv (.r rfl)) rfl <| VO.l (LO.mv (.r rfl)) rfl <| VO.lg rfl rfl (GD.t _) (fun hg => LO.mv (.r rfl)) rfl <| VO.yg 0 (r := r) (vs := [_]) (post := fun b r' => if b = true then J (0 + 1) r' else Jx (0 + 1) r') rfl rfl (GD.t _) rfl (fun hg => .g hg rfl) ⟨.r rfl, trivial⟩ rfl (fun hg w2 hi hr hs => hyl 0 _ (by rw [List.getElem?_map, srcs_out hg]; rfl) r w2 hJ hi hr hs) fun b1 r1 hp1 hp2 => VO.lg rfl rfl (GD.t _) (fun hg => LO.not (.g hg rfl)) rfl <| VO.l (LO.pkA (.r rfl) rfl rfl (.r rfl)) rfl <| VO.nil ?_)
  refine VE.seqN ?_
  refine VC.cond rfl (fun h1 => ?_) (fun h1 => ?_)
  ·
    have hE := seq_stop (J := J) (xs := (srcs g c p t).map fun n => [Value.int .i64 n]) (n := 1) (by rw [List.length_map, srcs_length, h1.1]; simp <;> omega) (by have := hp1 h1.1; rw [if_neg h1.2] at this; exact this)
    refine VC.ret (VE.thenR (VE.res (vs := []) rfl trivial (fun w hw => ?_)))
    exact ⟨rfl, seq_end hE hw⟩
  ·
    have hJ : J (sout g c p t).toNat r1 := by
      cases hs : sout g c p t
      · rw [hp2 hs]; exact hJ
      · have h2 := hp1 hs
        have hb : b1 = true := by simpa [hs] using h1
        rw [if_pos hb] at h2; exact h2
    refine VC.skip (VE.seqN ?_)
    refine VC.seq ?_
    refine VC.reg (VO.l (LO.mv (.r rfl)) rfl <| VO.l (LO.mv (.r rfl)) rfl <| VO.l (LO.sub (.r rfl) (.r rfl) (wi (by omega) (by omega))) rfl <| VO.l (LO.max (.r rfl) (.r rfl)) rfl <| VO.l (LO.as (v := .int .i64 (sy0 g c p t)) (.r rfl)) rfl <| VO.nil ?_)
    refine VE.seqN ?_
    refine VC.block ?_
    refine VC.loopK (α := Nat × Res) 1 (fun x => [(12, .int .i64 (sy0 g c p t + (x.1 : Nat)))]) [(0, _), (2, _), (5, _), (6, _), (7, _), (8, _), (9, _), (10, _)] (fun x => [x.2]) (fun x => x.1 ≤ sny g c p t ∧ J ((sout g c p t).toNat + x.1 * snx g c p t) x.2) (fun x => sny g c p t - x.1) (0, r1) (by exact ⟨by omega, by simpa using hJ⟩) (.cons (Eq.trans (b := some (Value.int .i64 (sy0 g c p t))) rfl (by simp)) (.cons rfl (.cons rfl (.cons rfl (.cons rfl (.cons rfl (.cons rfl (.cons rfl (.cons rfl .nil))))))))) (fun _ h => h) ?_
    rintro ⟨i, r⟩ ⟨hi, hJ⟩
    show VC _ _ _ _ _ ([(12, .int .i64 (sy0 g c p t + (i : Nat)))] ++ _) ([r] ++ _) _ _
    refine VC.seq ?_
    refine VC.seq ?_
    refine VC.reg (VO.l (LO.mv (.r rfl)) rfl <| VO.l (LO.fa (r := 0) F120_0 (.r rfl) rfl) rfl <| VO.l (LO.fa (r := 4) F23_4 (.r rfl) rfl) rfl <| VO.l (LO.ld O3 (.r rfl) (fun _ hw => sub_cells (off := 4) (hCap _ _ _ hJ (St.inv hw 0 _ rfl)).2.1 ⟨_, rfl⟩)) rfl <| VO.l (LO.sub (.r rfl) (.r rfl) (wi (by omega) (by omega))) rfl <| VO.l (LO.mv (.r rfl)) rfl <| VO.l (LO.mv (.r rfl)) rfl <| VO.l (LO.sub (.r rfl) (.r rfl) (wi (by omega) (by omega))) rfl <| VO.l (LO.min (.r rfl) (.r rfl)) rfl <| VO.l (LO.le (.r rfl) (.r rfl)) rfl <| VO.nil ?_)
    refine VE.seqN ?_
    refine VC.cond rfl (fun h2 => ?_) (fun h2 => ?_)
    ·
      have hiy : i < sny g c p t := by unfold sny sy1; omega
      have hv := row_bd (v := sy0 g c p t + (i : Int)) (w := g.wide) (by omega) (by omega) (by omega) (by omega)
      refine VC.skip (VE.seqN ?_)
      refine VC.seq ?_
      refine VC.block ?_
      refine VC.seq ?_
      refine VC.reg (VO.l (LO.mv (.r rfl)) rfl <| VO.l (LO.mv (.r rfl)) rfl <| VO.l (LO.sub (.r rfl) (.r rfl) (wi (by omega) (by omega))) rfl <| VO.l (LO.max (.r rfl) (.r rfl)) rfl <| VO.l (LO.as (v := .int .i64 (sx0 g c p t)) (.r rfl)) rfl <| VO.nil ?_)
      refine VE.seqN ?_
      refine VC.block ?_
      refine VC.loopK (α := Nat × Res) 1 (fun x => [(13, .int .i64 (sx0 g c p t + (x.1 : Nat)))]) [(0, _), (2, _), (5, _), (6, _), (7, _), (8, _), (9, _), (10, _), (12, _)] (fun x => [x.2]) (fun x => x.1 ≤ snx g c p t ∧ J ((sout g c p t).toNat + i * snx g c p t + x.1) x.2) (fun x => snx g c p t - x.1) (0, r) (by exact ⟨by omega, by simpa using hJ⟩) (.cons (Eq.trans (b := some (Value.int .i64 (sx0 g c p t))) rfl (by simp)) (.cons rfl (.cons rfl (.cons rfl (.cons rfl (.cons rfl (.cons rfl (.cons rfl (.cons rfl (.cons rfl .nil)))))))))) (fun _ h => h) ?_
      rintro ⟨j, r⟩ ⟨hj, hJ⟩
      show VC _ _ _ _ _ ([(13, .int .i64 (sx0 g c p t + (j : Nat)))] ++ _) ([r] ++ _) _ _
      refine VC.seq ?_
      refine VC.seq ?_
      refine VC.reg (VO.l (LO.mv (.r rfl)) rfl <| VO.l (LO.fa (r := 0) F120_0 (.r rfl) rfl) rfl <| VO.l (LO.fa (r := 3) F23_3 (.r rfl) rfl) rfl <| VO.l (LO.ld O3 (.r rfl) (fun _ hw => sub_cells (off := 3) (hCap _ _ _ hJ (St.inv hw 0 _ rfl)).2.1 ⟨_, rfl⟩)) rfl <| VO.l (LO.sub (.r rfl) (.r rfl) (wi (by omega) (by omega))) rfl <| VO.l (LO.mv (.r rfl)) rfl <| VO.l (LO.mv (.r rfl)) rfl <| VO.l (LO.sub (.r rfl) (.r rfl) (wi (by omega) (by omega))) rfl <| VO.l (LO.min (.r rfl) (.r rfl)) rfl <| VO.l (LO.le (.r rfl) (.r rfl)) rfl <| VO.nil ?_)
      refine VE.seqN ?_
      refine VC.cond rfl (fun h3 => ?_) (fun h3 => ?_)
      ·
        have hjx : j < snx g c p t := by unfold snx sx1; omega
        refine VC.skip (VE.seqN ?_)
        refine VC.seq ?_
        refine VC.block ?_
        refine VC.seq ?_
        refine VC.reg (VO.l (LO.mv (.r rfl)) rfl <| VO.l (LO.mv (.r rfl)) rfl <| VO.l (LO.fa (r := 0) F120_0 (.r rfl) rfl) rfl <| VO.l (LO.fa (r := 3) F23_3 (.r rfl) rfl) rfl <| VO.l (LO.ld O3 (.r rfl) (fun _ hw => sub_cells (off := 3) (hCap _ _ _ hJ (St.inv hw 0 _ rfl)).2.1 ⟨_, rfl⟩)) rfl <| VO.l (LO.mul (.r rfl) (.r rfl) (wi (by omega) (by omega))) rfl <| VO.l (LO.mv (.r rfl)) rfl <| VO.l (LO.add (.r rfl) (.r rfl) (wi (by omega) (by omega))) rfl <| VO.h rfl <| HO.yield 0 (r := r) (vs := [_]) (post := fun b r' => if b = true then J ((sout g c p t).toNat + i * snx g c p t + j + 1) r' else Jx ((sout g c p t).toNat + i * snx g c p t + j + 1) r') (.r rfl) ⟨.r rfl, trivial⟩ rfl (fun w2 hi hr hs => hyl ((sout g c p t).toNat + i * snx g c p t + j) _ (by rw [List.getElem?_map, srcs_at (i := i) (j := j) (by omega) (by omega)]; rfl) r w2 hJ hi hr hs) fun b1 r1 hp => VO.h rfl <| HO.lo (LO.not (.r rfl)) <| VO.nil ?_)
        refine VE.seqN ?_
        refine VC.cond rfl (fun h4 => ?_) (fun h4 => ?_)
        ·
          rw [if_neg h4] at hp
          have hE := seq_stop (J := J) (xs := (srcs g c p t).map fun n => [Value.int .i64 n]) (n := (sout g c p t).toNat + i * snx g c p t + j + 1) (by rw [List.length_map, srcs_length]; exact srcs_le hiy hjx) hp
          refine VC.ret (VE.inR (VE.thenR (VE.thenR (VE.inR (VE.inR (VE.thenR (VE.thenR (VE.inR (VE.res (vs := []) rfl trivial (fun w hw => ?_))))))))))
          exact ⟨rfl, seq_end hE hw⟩
        ·
          rw [if_pos (by simpa using h4)] at hp
          refine VC.skip (VE.inN (VE.seqN ?_))
          refine VC.reg (VO.l (LO.mv (.r rfl)) rfl <| VO.l (LO.add (.r rfl) (.r rfl) (wi (by omega) (by omega))) rfl <| VO.l (LO.as (.r rfl)) rfl <| VO.nil ?_)
          refine VE.thenN fun a w ha hw => ⟨(j + 1, r1), ⟨by omega, hp⟩, by omega, ha.sub (.cons (Eq.trans (b := some (Value.int .i64 (sx0 g c p t + (j : Int) + 1))) rfl (by simp only [Int.add_assoc]; rfl)) (.cons rfl (.cons rfl (.cons rfl (.cons rfl (.cons rfl (.cons rfl (.cons rfl (.cons rfl (.cons rfl .nil)))))))))), hw⟩
      ·
        have hjx : j = snx g c p t := by unfold snx sx1 at hj ⊢; omega
        refine VC.exit (VE.thenX (VE.thenX (VE.inX (VE.inN (VE.seqN ?_)))))
        refine VC.reg (VO.l (LO.mv (.r rfl)) rfl <| VO.l (LO.add (.r rfl) (.r rfl) (wi (by omega) (by omega))) rfl <| VO.l (LO.as (.r rfl)) rfl <| VO.nil ?_)
        refine VE.thenN fun a w ha hw => ⟨(i + 1, r), ⟨by omega, by rw [show (sout g c p t).toNat + (i + 1) * snx g c p t = (sout g c p t).toNat + i * snx g c p t + j by rw [hjx, Nat.add_mul]; omega]; exact hJ⟩, by omega, ha.sub (.cons (Eq.trans (b := some (Value.int .i64 (sy0 g c p t + (i : Int) + 1))) rfl (by simp only [Int.add_assoc]; rfl)) (.cons rfl (.cons rfl (.cons rfl (.cons rfl (.cons rfl (.cons rfl (.cons rfl (.cons rfl .nil))))))))), hw⟩
    ·
      have hiy : i = sny g c p t := by unfold sny sy1 at hi ⊢; omega
      have hE := seq_full (J := J) (Jx := Jx) (xs := (srcs g c p t).map fun n => [Value.int .i64 n]) (r := r) (by rw [List.length_map, srcs_length, ← hiy]; exact hJ)
      refine VC.exit (VE.thenX (VE.thenX (VE.inX (VE.resN (vs := []) rfl trivial (fun w hw => ?_)))))
      exact ⟨rfl, seq_end hE hw⟩

end Go.Proofs.Ytdcjeoamhjplmaa
