/-
  IssueNumbered is walked.
-/
import Derived.Test.YtdjflomhaljljaaKNM06

namespace Go.Proofs.Ytdjflomhaljljaa
open Go.SL Go.Proofs Go.Cast
set_option linter.unusedVariables false

theorem A48 : IsAgg Try.prog 48 23 := ⟨⟨_, Try.underlying48, rfl⟩, by kernel_rfl⟩
theorem C19 : IsFn Try.prog 19 := ⟨_, Try.func19, by decide, rfl⟩
theorem C20 : IsFn Try.prog 20 := ⟨_, Try.func20, by decide, rfl⟩
theorem C21 : IsFn Try.prog 21 := ⟨_, Try.func21, by decide, rfl⟩


set_option maxRecDepth 20000 in
set_option maxHeartbeats 12000000 in
theorem IssueNumbered_c (d : DrM) (cl : List ClM) (pc : Option Addr) (cc : Nat) (bs : List BtM) (pb : Option Addr) (cb : Nat) (w : World) (hd : d.ok) (hcl : ClsM w pc cl) (hb : BtsM w pb bs) :
  Calls Try.prog 4 #[.agg d.cells.toArray, .slice pc cl.length cc, .slice pb bs.length cb] w fun e w' => e = .returned (.bool true) ∧ St (Go.SL.bs w) [] w' := by
  refine enter (vs := [_, _, _]) (env := [(0, _), (1, _), (2, _)]) Try.func4 rfl rfl rfl rfl ?_
  refine VC.seq ?_
  refine VC.reg (VO.h rfl <| HO.box (C := d.cells.toArray) rfl rfl fun b1 => VO.l (LO.as (.r rfl)) rfl <| VO.nil ?_)
  refine VE.seqN ?_
  refine VC.seq ?_
  refine VC.seq ?_
  refine VC.reg (VO.l (LO.mv (.r rfl)) rfl <| VO.l (LO.len S49 (.r rfl) rfl) rfl <| VO.l (LO.gt (.r rfl) (.r rfl)) rfl <| VO.l (LO.mv (.r rfl)) rfl <| VO.lg rfl rfl (GD.f _) (fun hg => LO.mv (.r rfl)) rfl <| VO.lg rfl rfl (GD.f _) (fun hg => LO.len S50 (.g hg rfl) rfl) rfl <| VO.lg rfl rfl (GD.f _) (fun hg => LO.gt (.g hg rfl) (.r rfl)) rfl <| VO.l (LO.pkO (.r rfl) (.r rfl) rfl rfl) rfl <| VO.nil ?_)
  refine VE.seqN ?_
  refine VC.cond rfl (fun h43 => ?_) (fun h43 => ?_)
  ·
    refine VC.seq ?_
    refine VC.reg (VO.l (LO.call (xs := []) (vs := []) C14 trivial (fun w _ => works_c w)) rfl <| VO.l (LO.as (.r rfl)) rfl <| VO.nil ?_)
    refine VE.seqN ?_
    refine VC.ret (VE.thenR (VE.res (vs := [_]) rfl ⟨rfl, trivial⟩ (fun w hw => ?_)))
    first | (refine ⟨?_, hw1.based hw⟩; simp only [resV]; congr 2; exact decide_and_true (by omega)) | exact ⟨rfl, hw.nil⟩ | exact ⟨rfl, hw1.based hw⟩
  ·
    have hcl5 : cl.length ≤ 5 := by omega
    have hbl5 : bs.length ≤ 12 := by omega
    clear h43
    refine VC.skip (VE.seqN ?_)
    refine VC.seq ?_
    refine VC.reg (VO.l (LO.lda (vs := d.cells) A48 (.r rfl) (fun _ hw => cells_at (off := 0) hw 0 rfl ⟨[], by simp⟩) (by rw [DrM.len hd]; rfl)) rfl <| VO.h rfl <| HO.callx (xs := [_]) (vs := [_]) C19 ⟨(.r rfl), trivial⟩ (fun w _ => dmade_c d w hd) fun z hX => VO.l (LO.mv (.r rfl)) rfl <| VO.h rfl <| HO.callx (xs := [_]) (vs := [_]) C20 ⟨(.r rfl), trivial⟩ (fun w hw => all_c cl pc cc w (by omega) ⟨hcl.rows.keep w hw, hcl.ok⟩) fun xl hl => VO.h rfl <| HO.alloc (C := #[_, _, _, _, _, _, _, _, _]) Z28 rfl fun b6 => VO.h0 <| HO.st 0 (vs := [_, _, _, _, _, _, _, _, _]) (C' := [_, _, _, _, _, _, _, _, _]) (L' := [_, _, _, _, _, _]) N28 rfl rfl rfl rfl rfl rfl rfl rfl <| VO.h rfl <| HO.lo (LO.as (.r rfl)) <| VO.nil ?_)
    refine VE.seqN ?_
    refine VC.seq ?_
    refine VC.seq ?_
    obtain ⟨rgs, pg, cg⟩ := z
    obtain ⟨⟨pl, kl⟩, l⟩ := xl
    dsimp only at hX hl ⊢
    have hrl : rgs.length = (drRegs d 3).length := by rw [← hX, List.length_map]
    have hr3 := drRegs_len (d := d) 3
    have hll : l.length ≤ cl.length := by rw [← List.length_map (f := CP.c), hl]; exact allL_len _
    refine VC.reg (VO.l (LO.fa (r := 5) F28_1 (.r rfl) rfl) rfl <| VO.l (LO.ld O24 (.r rfl) (fun _ hw => cells_at hw 0 rfl ⟨_, rfl⟩)) rfl <| VO.l (LO.len S24 (.r rfl) rfl) rfl <| VO.l (LO.eq (.r rfl) (.r rfl)) rfl <| VO.nil ?_)
    refine VE.seqN ?_
    refine VC.cond rfl (fun h52 => ?_) (fun h52 => ?_)
    ·
      refine VC.seq ?_
      refine VC.reg (VO.l (LO.call (xs := []) (vs := []) C14 trivial (fun w _ => works_c w)) rfl <| VO.l (LO.as (.r rfl)) rfl <| VO.nil ?_)
      refine VE.seqN ?_
      refine VC.ret (VE.thenR (VE.res (vs := [_]) rfl ⟨rfl, trivial⟩ (fun w hw => ?_)))
      first | (refine ⟨?_, hw1.based hw⟩; simp only [resV]; congr 2; exact decide_and_true (by omega)) | exact ⟨rfl, hw.nil⟩ | exact ⟨rfl, hw1.based hw⟩
    ·
      have hne : drRegs d 3 ≠ [] := fun q => h52 (by rw [hrl, q]; rfl)
      have hsp := dr_spec hd hne
      refine VC.skip (VE.seqN ?_)
      refine VC.seq ?_
      refine VC.reg (VO.l (LO.lda (vs := [_, _, _, _, _, _, _, _, _]) A28 (.r rfl) (fun _ hw => cells_at hw 0 rfl ⟨_, rfl⟩) rfl) rfl <| VO.l (LO.mv (.r rfl)) rfl <| VO.l (LO.mv (.r rfl)) rfl <| VO.h rfl <| HO.callx (xs := [_, _, _]) (vs := [_, _, _]) C21 ⟨(.r rfl), (.r rfl), (.r rfl), trivial⟩ (fun w hw => run_c gD rgs pg cg (drA d) (drB d) (drC d) (drSp d) l pl kl bs pb cb w (by unfold drSp; rw [hX]) hsp (by omega) (regs_frame hX (St.inv hw 3 _ rfl) (St.inv hw 4 _ rfl)) (by omega) (clouds_all hl hcl.ok (St.inv hw 1 _ rfl) (St.inv hw 2 _ rfl)) (by omega) (hb.keep hw) (fun x hx => by rw [hl]; exact beat_look (hb.ok x hx) (allL_cls hcl.ok _))) fun y hy => VO.l (LO.mv (.r rfl)) rfl <| VO.l (LO.ex (.r rfl) rfl) rfl <| VO.l (LO.ex (.r rfl) rfl) rfl <| VO.l (LO.ex (.r rfl) rfl) rfl <| VO.l (LO.ex (.r rfl) rfl) rfl <| VO.l (LO.as (.r rfl)) rfl <| VO.l (LO.as (.r rfl)) rfl <| VO.l (LO.as (.r rfl)) rfl <| VO.l (LO.as (.r rfl)) rfl <| VO.nil ?_)
      refine VE.seqN ?_
      refine VC.weak (env' := [(2, _), (7, _), (8, _), (9, _), (10, _), (11, _), (12, _)]) (.cons rfl (.cons rfl (.cons rfl (.cons rfl (.cons rfl (.cons rfl (.cons rfl .nil))))))) (fun _ h => h) ?_
      refine VC.seq ?_
      refine VC.seq ?_
      refine VC.reg (VO.l (LO.mv (.r rfl)) rfl <| VO.l (LO.not (.r rfl)) rfl <| VO.nil ?_)
      refine VE.seqN ?_
      refine VC.cond rfl (fun h64 => ?_) (fun h64 => ?_)
      ·
        (exfalso; exact h64 rfl)
      ·
        refine VC.skip (VE.seqN ?_)
        refine VC.seq ?_
        refine VC.rebase fun w1 hw1 => ?_
        have hOff : Has w1 (offR y.o) := (selK (L1 := offR y.o) [0, 1, 2, 3, 4, 5, 6, 7, 8, 9] rfl rfl _ hw1).has (List.Sublist.refl _)
        have hEv : RR 7 evC w1 y.pe y.evs := RR.of_own hw1 10 11 rfl rfl
        have hTs : RO 1 iC w1 y.pt y.ts := own_rows hw1 12 rfl
        have hSp : Cells w1 ⟨b6, 0, none⟩ [.int .i64 0, .int .i64 0, .int .i64 1000, .int .i64 5, .int .i64 4, .slice pg rgs.length cg, .int .i64 (drA d), .int .i64 (drB d), .int .i64 (drC d)] := cells_at hw1 13 rfl ⟨[], rfl⟩
        have hRg : Regs w1 pg rgs := regs_frame hX (St.inv hw1 16 _ rfl) (St.inv hw1 17 _ rfl)
        have hCl : Clouds w1 pl l := clouds_all hl hcl.ok (St.inv hw1 14 _ rfl) (St.inv hw1 15 _ rfl)
        have hBt := hb.keep hw1
        obtain ⟨hS1, hS2, hS3, hS4, hS5⟩ := id hy
        obtain ⟨lc, hlc⟩ : ∃ lc, lc = l.map CP.c := ⟨_, rfl⟩
        rw [← hlc] at hS1 hS3 hS5
        have hok := hb.ok
        have hnD : Hd (rgs.length = nD d) := ⟨hrl⟩
        have hr3n : rgs.length ≤ 3 := by omega
        have hpx : ∀ r, r ∈ drRegs d 3 → ∀ n, n ∈ r.pix → 0 ≤ n := fun r hr n hn => ((dr_pix hr).1 n hn).1
        have hels : y.evs.length = bs.length := by rw [← List.length_map (f := RowA.l), hS3]; simp [evB]
        have htls : y.ts.length = bs.length := by rw [hS4]; simp [tmB]
        have hrcN : Hd (y.o.rc.length = nD d) := ⟨by rw [n_eq hS1.wf, hS2]; rfl⟩
        have hrcn : y.o.rc.length = rgs.length := hrcN.out.trans hnD.out.symm
        have hcsf : y.o.cs.map CsM.p = csD d lc bs bs.length := by rw [hS1.cs, hrcN.out, show y.o.hold = drC d from congrArg Sp.hold hS2]; rfl
        have hcsl : Hd (y.o.cs.length = (csD d lc bs bs.length).length) := ⟨by rw [← hcsf, List.length_map]⟩
        have hcsb : y.o.cs.length ≤ 400 := by have h1 := hS1.wf.cs; have h2 : y.o.ts.length = bs.length := (by rw [hS1.ts]; simp [stB]); omega
        have hbd := Hd.mk (dr_bd hd)
        have hrp : 0 < rgs.length := by omega
        have hll2 : l.length ≤ 5 := by omega
        clear hsp h52 h64 hr3 hrl hll hcl5
        refine VC.reg (VO.l (LO.fa (r := 5) F28_1 (.r rfl) rfl) rfl <| VO.l (LO.ld O24 (.r rfl) (cells_keep (sub_cells (off := 5) hSp ⟨_, rfl⟩))) rfl <| VO.l (LO.len S24 (.r rfl) rfl) rfl <| VO.h rfl <| HO.mksM (f := iC) (z0 := (0 : Int)) (n := rgs.length) rfl S55 I3 (.r rfl) (.r rfl) rfl (by decide) (by omega) (by omega) fun b21 => VO.h rfl <| HO.lo (LO.as (.r rfl)) <| VO.nil ?_)
        refine VE.seqN ?_
        refine VC.seq ?_
        refine VC.reg (VO.l (LO.fa (r := 5) F28_1 (.r rfl) rfl) rfl <| VO.l (LO.ld O24 (.r rfl) (cells_keep (sub_cells (off := 5) hSp ⟨_, rfl⟩))) rfl <| VO.l (LO.len S24 (.r rfl) rfl) rfl <| VO.h rfl <| HO.mksM (f := iC) (z0 := (0 : Int)) (n := rgs.length) rfl S55 I3 (.r rfl) (.r rfl) rfl (by decide) (by omega) (by omega) fun b22 => VO.h rfl <| HO.lo (LO.as (.r rfl)) <| VO.nil ?_)
        refine VE.seqN ?_
        refine VC.seq ?_
        refine VC.reg (VO.l (LO.fa (r := 5) F28_1 (.r rfl) rfl) rfl <| VO.l (LO.ld O24 (.r rfl) (cells_keep (sub_cells (off := 5) hSp ⟨_, rfl⟩))) rfl <| VO.l (LO.len S24 (.r rfl) rfl) rfl <| VO.h rfl <| HO.mksM (f := iC) (z0 := (0 : Int)) (n := rgs.length) rfl S55 I3 (.r rfl) (.r rfl) rfl (by decide) (by omega) (by omega) fun b23 => VO.h rfl <| HO.lo (LO.as (.r rfl)) <| VO.nil ?_)
        refine VE.seqN ?_
        refine VC.seq ?_
        refine VC.reg (VO.l (LO.fa (r := 5) F28_1 (.r rfl) rfl) rfl <| VO.l (LO.ld O24 (.r rfl) (cells_keep (sub_cells (off := 5) hSp ⟨_, rfl⟩))) rfl <| VO.l (LO.len S24 (.r rfl) rfl) rfl <| VO.h rfl <| HO.mksM (f := iC) (z0 := (0 : Int)) (n := rgs.length) rfl S55 I3 (.r rfl) (.r rfl) rfl (by decide) (by omega) (by omega) fun b24 => VO.h rfl <| HO.lo (LO.as (.r rfl)) <| VO.nil ?_)
        refine VE.seqN ?_
        refine VC.weak (env' := [(2, _), (7, _), (8, _), (9, _), (10, _), (11, _), (13, _), (14, _), (15, _), (16, _)]) (.cons rfl (.cons rfl (.cons rfl (.cons rfl (.cons rfl (.cons rfl (.cons rfl (.cons rfl (.cons rfl (.cons rfl .nil)))))))))) (fun _ h => h) ?_
        refine VC.seq ?_
        refine VC.reg (VO.l (LO.fa (r := 5) F28_1 (.r rfl) rfl) rfl <| VO.l (LO.ld O24 (.r rfl) (cells_keep (sub_cells (off := 5) hSp ⟨_, rfl⟩))) rfl <| VO.l (LO.len S24 (.r rfl) rfl) rfl <| VO.h rfl <| HO.mksM (f := iC) (z0 := (0 : Int)) (n := rgs.length) rfl S55 I3 (.r rfl) (.r rfl) rfl (by decide) (by omega) (by omega) fun b25 => VO.h rfl <| HO.lo (LO.as (.r rfl)) <| VO.nil ?_)
        refine VE.seqN ?_
        refine VC.seq ?_
        refine VC.reg (VO.l (LO.as (.r rfl)) rfl <| VO.nil ?_)
        refine VE.seqN ?_
        refine VC.seq ?_
        refine VC.reg (VO.l (LO.mv (.r rfl)) rfl <| VO.h rfl <| HO.callx (xs := [_]) (vs := [_]) C22 ⟨(.r rfl), trivial⟩ (fun w hw => Cases_c y.o w (by omega) (by omega) (by omega) (hOff.keep hw)) fun cz _ => VO.h rfl <| HO.lo (LO.as (.r rfl)) <| VO.nil ?_)
        refine VE.seqN ?_
        refine VC.seq ?_
        refine VC.seq ?_
        refine VC.reg (VO.l (LO.as (.r rfl)) rfl <| VO.nil ?_)
        refine VE.seqN ?_
        refine VC.block ?_
        refine VC.perm [5, 4, 3, 2, 1, 0] rfl ?_
        refine VC.loopK (α := Nat × (List Int) × (List Int) × (List Int) × (List Int) × (List Int)) 5 (fun gx => [(18, .int .i64 ((csD d lc bs gx.1).length : Nat)), (20, .int .i64 (gx.1 : Nat))]) [(2, _), (7, _), (8, _), (9, _), (10, _), (11, _), (13, _), (14, _), (15, _), (16, _), (17, _), (19, _)] (fun gx => [own 3 1 (some ⟨b21, 0, none⟩) rgs.length (gx.2.1.map iC), own 3 1 (some ⟨b22, 0, none⟩) rgs.length (gx.2.2.1.map iC), own 3 1 (some ⟨b23, 0, none⟩) rgs.length (gx.2.2.2.1.map iC), own 3 1 (some ⟨b24, 0, none⟩) rgs.length (gx.2.2.2.2.1.map iC), own 3 1 (some ⟨b25, 0, none⟩) rgs.length (gx.2.2.2.2.2.map iC)]) (fun gx => gx.1 ≤ bs.length ∧ NumI (nD d) (lsD d lc bs gx.1) (csD d lc bs gx.1) gx.2.1 gx.2.2.1 gx.2.2.2.1 gx.2.2.2.2.1 ∧ HighI (drC d) (nD d) (stD d lc bs gx.1) gx.2.2.2.2.2) (fun gx => bs.length - gx.1) (0, List.replicate rgs.length 0, List.replicate rgs.length 0, List.replicate rgs.length 0, List.replicate rgs.length 0, List.replicate rgs.length 0) (by exact ⟨Nat.zero_le _, by rw [hnD.out]; exact num_nil (fun _ => rfl), by simp [hnD.out], fun j hj => ⟨by rw [getD_rep0]; exact ⟨Int.le_refl _, Int.le_refl _⟩, fun q => absurd rfl q⟩⟩) (.cons rfl (.cons rfl (.cons rfl (.cons rfl (.cons rfl (.cons rfl (.cons rfl (.cons rfl (.cons rfl (.cons rfl (.cons rfl (.cons rfl (.cons rfl (.cons rfl .nil)))))))))))))) (fun _ h => h) ?_
        rintro ⟨i, le, nu, pe, be, hi_⟩ ⟨hi, hN, hHi⟩
        show VC _ _ _ _ _ ([(18, .int .i64 ((csD d lc bs i).length : Nat)), (20, .int .i64 (i : Nat))] ++ _) ([own 3 1 (some ⟨b21, 0, none⟩) rgs.length (le.map iC), own 3 1 (some ⟨b22, 0, none⟩) rgs.length (nu.map iC), own 3 1 (some ⟨b23, 0, none⟩) rgs.length (pe.map iC), own 3 1 (some ⟨b24, 0, none⟩) rgs.length (be.map iC), own 3 1 (some ⟨b25, 0, none⟩) rgs.length (hi_.map iC)] ++ _) _ _
        dsimp only at hi hN hHi
        have hn1 : le.length = rgs.length := hN.l1.trans hnD.out.symm
        have hn2 : nu.length = rgs.length := hN.l2.trans hnD.out.symm
        have hn4 : pe.length = rgs.length := hN.l3.trans hnD.out.symm
        have hn5 : be.length = rgs.length := hN.l4.trans hnD.out.symm
        have hn6 : hi_.length = rgs.length := hHi.1.trans hnD.out.symm
        refine VC.seq ?_
        refine VC.seq ?_
        refine VC.reg (VO.l (LO.mv (.r rfl)) rfl <| VO.l (LO.mv (.r rfl)) rfl <| VO.l (LO.len S54 (.r rfl) rfl) rfl <| VO.l (LO.lt (.r rfl) (.r rfl)) rfl <| VO.nil ?_)
        refine VE.seqN ?_
        refine VC.cond rfl (fun h90 => ?_) (fun h90 => ?_)
        ·
          have hi1 : i < bs.length := by omega
          obtain ⟨xb, hbx⟩ : ∃ x, bs[i]? = some x := ⟨_, List.getElem?_eq_getElem hi1⟩
          have hev : (y.evs.getD i RowA.z).l = evF (drC d) (nD d) (stD d lc bs i) (sD d lc bs i) := by have e := congrArg (fun z : List (List Ev) => z.getD i []) hS3; rw [List.getD_eq_getElem?_getD, List.getElem?_map, getD_some (d := RowA.z) (by omega)] at e; rw [show (some (y.evs.getD i RowA.z)).map RowA.l = some (y.evs.getD i RowA.z).l from rfl] at e; exact e.trans (by unfold evB; rw [List.getD_eq_getElem?_getD, List.getElem?_map, List.getElem?_range hi1]; rfl)
          obtain ⟨nc, hnc⟩ : ∃ n, (chD d lc bs i).length = n := ⟨_, rfl⟩
          have hnc := Hd.mk hnc
          have hel : (y.evs.getD i RowA.z).l.length = nc := (evD_len (s := drSp d) hev).trans hnc.out
          have hei : RO 7 evC w1 (y.evs.getD i RowA.z).p (y.evs.getD i RowA.z).l := (hEv.2 _ (getD_mem (d := RowA.z) (by omega))).2
          have htt : Hd (y.ts.getD i 0 = (sD d lc bs i).t) := ⟨by rw [hS4]; unfold tmB; rw [List.getD_eq_getElem?_getD, List.getElem?_map, List.getElem?_range hi1]; rfl⟩
          have hsb := Hd.mk (sD_bd (d := d) (lc := lc) hok hi1)
          have hTl := Hd.mk (stD_last (d := d) (lc := lc) hok hi1)
          have hch : nc ≤ 3 := by rw [← hnc.out]; have h1 : (chD d lc bs i).length ≤ nD d := (by unfold chD chg; have := List.length_filter_le (fun j => decide (lvS (drC d) j (stD d lc bs i) ≠ lvS (drC d) j (stD d lc bs i ++ [sD d lc bs i]))) (List.range (nD d)); simpa using this); rw [← hnD.out] at h1; exact Nat.le_trans h1 hr3n
          refine VC.skip (VE.seqN ?_)
          refine VC.seq ?_
          refine VC.block ?_
          refine VC.seq ?_
          refine VC.reg (VO.l (LO.as (.r rfl)) rfl <| VO.nil ?_)
          refine VE.seqN ?_
          refine VC.seq ?_
          refine VC.seq ?_
          refine VC.reg (VO.l (LO.as (.r rfl)) rfl <| VO.nil ?_)
          refine VE.seqN ?_
          refine VC.block ?_
          refine VC.loopK (α := Nat × (List Int) × (List Int) × (List Int) × (List Int)) 4 (fun gx => [(18, .int .i64 ((rnD d lc bs i (qD d lc bs i gx.1)).length : Nat)), (21, .int .i64 (lastQ d lc bs i gx.1)), (22, .int .i64 (gx.1 : Nat))]) [(2, _), (7, _), (8, _), (9, _), (10, _), (11, _), (13, _), (14, _), (15, _), (16, _), (17, _), (19, _), (20, _)] (fun gx => [own 3 1 (some ⟨b21, 0, none⟩) rgs.length (gx.2.1.map iC), own 3 1 (some ⟨b22, 0, none⟩) rgs.length (gx.2.2.1.map iC), own 3 1 (some ⟨b23, 0, none⟩) rgs.length (gx.2.2.2.1.map iC), own 3 1 (some ⟨b24, 0, none⟩) rgs.length (gx.2.2.2.2.map iC)]) (fun gx => gx.1 ≤ nc ∧ NumI (nD d) (lvD d lc bs i (qD d lc bs i gx.1)) (rnD d lc bs i (qD d lc bs i gx.1)) gx.2.1 gx.2.2.1 gx.2.2.2.1 gx.2.2.2.2) (fun gx => nc - gx.1) (0, le, nu, pe, be) (by exact ⟨Nat.zero_le _, by have z := q_first (H := drC d) (st := stD d lc bs i) (s := sD d lc bs i) (cs := csD d lc bs i) (n := nD d); show NumI _ (lvM _ _ _ (qAt _ _ _ _ 0)) (runC _ _ _ _ (qAt _ _ _ _ 0)) _ _ _ _; rw [z.1, z.2]; exact hN⟩) (.cons (congrArg (fun z => some (Value.int .i64 ((List.length z : Nat) : Int))) (q_first (H := drC d) (n := nD d)).2.symm) (.cons rfl (.cons rfl (.cons rfl (.cons rfl (.cons rfl (.cons rfl (.cons rfl (.cons rfl (.cons rfl (.cons rfl (.cons rfl (.cons rfl (.cons rfl (.cons rfl (.cons rfl .nil)))))))))))))))) (fun _ h => h) ?_
          rintro ⟨k, le, nu, pe, be⟩ ⟨hk, hN⟩
          show VC _ _ _ _ _ ([(18, .int .i64 ((rnD d lc bs i (qD d lc bs i k)).length : Nat)), (21, .int .i64 (lastQ d lc bs i k)), (22, .int .i64 (k : Nat))] ++ _) ([own 3 1 (some ⟨b21, 0, none⟩) rgs.length (le.map iC), own 3 1 (some ⟨b22, 0, none⟩) rgs.length (nu.map iC), own 3 1 (some ⟨b23, 0, none⟩) rgs.length (pe.map iC), own 3 1 (some ⟨b24, 0, none⟩) rgs.length (be.map iC)] ++ _) _ _
          dsimp only at hk hN
          have hn1 : le.length = rgs.length := hN.l1.trans hnD.out.symm
          have hn2 : nu.length = rgs.length := hN.l2.trans hnD.out.symm
          have hn4 : pe.length = rgs.length := hN.l3.trans hnD.out.symm
          have hn5 : be.length = rgs.length := hN.l4.trans hnD.out.symm
          refine VC.seq ?_
          refine VC.seq ?_
          refine VC.reg (VO.l (LO.mv (.r rfl)) rfl <| VO.l (LO.mv (.r rfl)) rfl <| VO.l (LO.mv (.r rfl)) rfl <| VO.l (LO.ixs S54 N60 hEv.1.sm (.r rfl) (.r rfl) rfl (by omega)) rfl <| VO.l (LO.ld O60 (.r rfl) (fun w hw => cells_part (off := 0) ((hEv.1.at RowA.z (j := i) (by omega)) w hw) ⟨_, rfl⟩)) rfl <| VO.l (LO.len S60 (.r rfl) rfl) rfl <| VO.l (LO.lt (.r rfl) (.r rfl)) rfl <| VO.nil ?_)
          refine VE.seqN ?_
          refine VC.cond rfl (fun h99 => ?_) (fun h99 => ?_)
          ·
            have hk0 : k < nc := by omega
            have hk1 : Hd (k < (chD d lc bs i).length) := ⟨by rw [hnc.out]; exact hk0⟩
            obtain ⟨q, b, m, hqe, hq, hbe, hme, hbm, hb0, hm0, hlq, hl1, hl2, hld, hN2, hrn, hop⟩ := evD_fact hd hok (by omega) hi1 hpx hk1.out hN
            obtain ⟨x, hxx⟩ : ∃ x, x = evS q b m (sD d lc bs i).t (thD d lc bs i q) (rnD d lc bs i q) := ⟨_, rfl⟩
            have hxe : (y.evs.getD i RowA.z).l[k]? = some x := by rw [evD_get hev hk1.out, hxx, hbe, hme, hqe]
            have hxt : Hd (x.t = (sD d lc bs i).t) := ⟨by rw [hxx]; rfl⟩
            have hxr : x.rg = (q : Int) := by rw [hxx]; rfl
            have hxl : Hd (x.lv = m) := ⟨by rw [hxx]; rfl⟩
            have hxk : Hd (x.kd = meetK b m) := ⟨by rw [hxx]; rfl⟩
            have hxn : Hd (x.nm = (if b = 0 then ((rnD d lc bs i q).length + 1 : Int) else openNm q (rnD d lc bs i q))) := ⟨by rw [hxx]; rfl⟩
            have hxd : Hd (x.ld = (if b < m then (thD d lc bs i q).ld else -1)) := ⟨by rw [hxx]; rfl⟩
            have hxp : Hd (x.px = (if b < m then (thD d lc bs i q).px else -1)) := ⟨by rw [hxx]; rfl⟩
            have hld := Hd.mk hld
            have hop := Hd.mk hop
            have hxx := Hd.mk hxx
            have hbmH := Hd.mk hbm
            clear hbm
            have hbe := Hd.mk hbe
            have hme := Hd.mk hme
            have hb0 := Hd.mk hb0
            have hm0 := Hd.mk hm0
            have hlq := Hd.mk hlq
            have hl1 := Hd.mk hl1
            have hl2 := Hd.mk hl2
            have hqD := Hd.mk hq
            have hq : q < rgs.length := by rw [hnD.out]; exact hqD.out
            obtain ⟨nq, hnq⟩ : ∃ n, (rnD d lc bs i q).length = n := ⟨_, rfl⟩
            have hnq := Hd.mk hnq
            have hce : nq ≤ y.o.cs.length := by rw [← hnq.out, hcsl.out]; exact (rnD_ext (Nat.le_of_lt hqD.out) hi1).1
            have hce2 : Hd ((rnD d lc bs i (qD d lc bs i (k + 1))).length ≤ y.o.cs.length) := ⟨by rw [hcsl.out]; exact (rnD_ext (by exact qAt_le) hi1).1⟩
            have hhb := Hd.mk (hHi.2 q hqD.out).1
            rw [← hqe, hnq.out]
            have hqe := Hd.mk hqe
            refine VC.skip (VE.seqN ?_)
            refine VC.seq ?_
            refine VC.block ?_
            refine VC.seq ?_
            refine VC.reg (VO.l (LO.mv (.r rfl)) rfl <| VO.l (LO.mv (.r rfl)) rfl <| VO.l (LO.ixs S54 N60 hEv.1.sm (.r rfl) (.r rfl) rfl (by omega)) rfl <| VO.l (LO.ld O60 (.r rfl) (fun w hw => cells_part (off := 0) ((hEv.1.at RowA.z (j := i) (by omega)) w hw) ⟨_, rfl⟩)) rfl <| VO.l (LO.mv (.r rfl)) rfl <| VO.l (LO.ixs S60 N62 hei.sm (.r rfl) (.r rfl) rfl (by omega)) rfl <| VO.l (LO.lda (vs := [_, _, _, _, _, _, _]) A62 (.r rfl) (fun w hw => cells_part (off := 0) ((fun w2 hw2 => (hei.keep w2 hw2).cells k _ (by rw [List.getElem?_map, hxe]; rfl)) w hw) ⟨_, rfl⟩) rfl) rfl <| VO.h rfl <| HO.alloc (C := #[_, _, _, _, _, _, _]) Z62 rfl fun b27 => VO.h0 <| HO.st 0 (vs := [_, _, _, _, _, _, _]) (C' := [_, _, _, _, _, _, _]) (L' := [_, _, _, _, _, _, _]) N62 rfl rfl rfl rfl rfl rfl rfl rfl <| VO.nil ?_)
            refine VE.seqN ?_
            refine VC.weak (env' := [(2, _), (7, _), (8, _), (9, _), (10, _), (11, _), (13, _), (14, _), (15, _), (16, _), (17, _), (18, _), (19, _), (20, _), (21, _), (22, _), (23, _)]) (.cons rfl (.cons rfl (.cons rfl (.cons rfl (.cons rfl (.cons rfl (.cons rfl (.cons rfl (.cons rfl (.cons rfl (.cons rfl (.cons rfl (.cons rfl (.cons rfl (.cons rfl (.cons rfl (.cons rfl .nil))))))))))))))))) (fun _ h => h) ?_
            refine VC.seq ?_
            refine VC.seq ?_
            refine VC.draw mixed (LL.l (LO.fa (r := 0) F62_0 (.r rfl) rfl) rfl <| LL.l (LO.ld O3 (.r rfl) (fun _ hw => cells_at hw 0 rfl ⟨_, rfl⟩)) rfl <| LL.l (LO.mv (.r rfl)) rfl <| LL.l (LO.mv (.r rfl)) rfl <| LL.l (LO.ixs S55 N3 hTs.sm (.r rfl) (.r rfl) rfl (by omega)) rfl <| LL.l (LO.ld O3 (.r rfl) (fun w hw => cells_part (off := 0) ((hTs.at 0 (j := i) (by omega)) w hw) ⟨_, rfl⟩)) rfl <| LL.l (LO.ne (.r rfl) (.r rfl)) rfl <| LL.l (LO.mv (.r rfl)) rfl <| LL.lg rfl rfl (GD.f _) (fun hg => LO.fa (r := 1) F62_1 (.r rfl) rfl) rfl <| LL.lg rfl rfl (GD.f _) (fun hg => LO.ld O3 (.g hg rfl) (fun _ hw => cells_at hw 0 rfl ⟨_, rfl⟩)) rfl <| LL.lg rfl rfl (GD.f _) (fun hg => LO.mv (.r rfl)) rfl <| LL.lg rfl rfl (GD.f _) (fun hg => LO.le (.g hg rfl) (.g hg rfl)) rfl <| LL.l (LO.pkO (.r rfl) (.r rfl) rfl rfl) rfl <| LL.l (LO.mv (.r rfl)) rfl <| LL.lg rfl rfl (GD.f _) (fun hg => LO.fa (r := 1) F62_1 (.r rfl) rfl) rfl <| LL.lg rfl rfl (GD.f _) (fun hg => LO.ld O3 (.g hg rfl) (fun _ hw => cells_at hw 0 rfl ⟨_, rfl⟩)) rfl <| LL.lg rfl rfl (GD.f _) (fun hg => LO.fa (r := 5) F28_1 (.r rfl) rfl) rfl <| LL.lg rfl rfl (GD.f _) (fun hg => LO.ld O24 (.g hg rfl) (cells_keep (sub_cells (off := 5) hSp ⟨_, rfl⟩))) rfl <| LL.lg rfl rfl (GD.f _) (fun hg => LO.len S24 (.g hg rfl) rfl) rfl <| LL.lg rfl rfl (GD.f _) (fun hg => LO.ge (.g hg rfl) (.g hg rfl)) rfl <| LL.l (LO.pkO (.r rfl) (.r rfl) rfl rfl) rfl <| LL.l (LO.mv (.r rfl)) rfl <| LL.lg rfl rfl (GD.f _) (fun hg => LO.fa (r := 3) F62_3 (.r rfl) rfl) rfl <| LL.lg rfl rfl (GD.f _) (fun hg => LO.ld O3 (.g hg rfl) (fun _ hw => cells_at hw 0 rfl ⟨_, rfl⟩)) rfl <| LL.lg rfl rfl (GD.f _) (fun hg => LO.mv (.r rfl)) rfl <| LL.lg rfl rfl (GD.f _) (fun hg => LO.fa (r := 1) F62_1 (.r rfl) rfl) rfl <| LL.lg rfl rfl (GD.f _) (fun hg => LO.ld O3 (.g hg rfl) (fun _ hw => cells_at hw 0 rfl ⟨_, rfl⟩)) rfl <| LL.lg rfl rfl (GD.f _) (fun hg => LO.ixo S55 N3 (fun _ hw => (own_rows hw 1 rfl).some (by first | (rw [List.length_map]; omega) | (simp only [List.length_map, List.length_set]; omega))) (.g hg rfl) (.g hg rfl) hxr (by omega)) rfl <| LL.lg rfl rfl (GD.f _) (fun hg => LO.ld O3 (.g hg rfl) (fun w hw => cells_part (off := 0) (own_cell hw 1 rfl (getD_some (d := (0 : Int)) (by first | omega | (simp only [List.length_set]; omega)))) ⟨_, rfl⟩)) rfl <| LL.lg rfl rfl (GD.f _) (fun hg => LO.eq (.g hg rfl) (.g hg rfl)) rfl <| LL.l (LO.pkO (.r rfl) (.r rfl) rfl rfl) rfl <| LL.nil) (by kernel_rfl) ?_
            refine VE.seqN ?_
            refine VC.weak (env' := [(2, _), (7, _), (8, _), (9, _), (10, _), (11, _), (13, _), (14, _), (15, _), (16, _), (17, _), (18, _), (19, _), (20, _), (22, _), (23, _), (139, _)]) (.cons rfl (.cons rfl (.cons rfl (.cons rfl (.cons rfl (.cons rfl (.cons rfl (.cons rfl (.cons rfl (.cons rfl (.cons rfl (.cons rfl (.cons rfl (.cons rfl (.cons rfl (.cons rfl (.cons rfl .nil))))))))))))))))) (fun _ h => h) ?_
            refine VC.cond rfl (fun h139 => ?_) (fun h139 => ?_)
            ·
              (exfalso; exact n139 hxt.out htt.out hxr hlq.out hl1.out (by omega) hxl.out hbmH.out h139)
            ·
              clear h139
              refine VC.skip (VE.seqN ?_)
              refine VC.seq ?_
              refine VC.reg (VO.l (LO.fa (r := 1) F62_1 (.r rfl) rfl) rfl <| VO.l (LO.ld O3 (.r rfl) (fun _ hw => cells_at hw 0 rfl ⟨_, rfl⟩)) rfl <| VO.l (LO.as (.r rfl)) rfl <| VO.nil ?_)
              refine VE.seqN ?_
              refine VC.seq ?_
              refine VC.reg (VO.l (LO.mv (.r rfl)) rfl <| VO.l (LO.fa (r := 1) F62_1 (.r rfl) rfl) rfl <| VO.l (LO.ld O3 (.r rfl) (fun _ hw => cells_at hw 0 rfl ⟨_, rfl⟩)) rfl <| VO.l (LO.ixo S55 N3 (fun _ hw => (own_rows hw 1 rfl).some (by first | (rw [List.length_map]; omega) | (simp only [List.length_map, List.length_set]; omega))) (.r rfl) (.r rfl) hxr (by omega)) rfl <| VO.l (LO.ld O3 (.r rfl) (fun w hw => cells_part (off := 0) (own_cell hw 1 rfl (getD_some (d := (0 : Int)) (by first | omega | (simp only [List.length_set]; omega)))) ⟨_, rfl⟩)) rfl <| VO.l (LO.as (.r rfl)) rfl <| VO.nil ?_)
              refine VE.seqN ?_
              refine VC.weak (env' := [(2, _), (7, _), (8, _), (9, _), (10, _), (11, _), (13, _), (14, _), (15, _), (16, _), (17, _), (18, _), (19, _), (20, _), (21, _), (22, _), (23, _), (24, _)]) (.cons rfl (.cons rfl (.cons rfl (.cons rfl (.cons rfl (.cons rfl (.cons rfl (.cons rfl (.cons rfl (.cons rfl (.cons rfl (.cons rfl (.cons rfl (.cons rfl (.cons rfl (.cons rfl (.cons rfl (.cons rfl .nil)))))))))))))))))) (fun _ h => h) ?_
              refine VC.seq ?_
              refine VC.reg (VO.l (LO.as (.r rfl)) rfl <| VO.nil ?_)
              refine VE.seqN ?_
              refine VC.seq ?_
              refine VC.seq ?_
              refine VC.reg (VO.l (LO.fa (r := 3) F62_3 (.r rfl) rfl) rfl <| VO.l (LO.ld O3 (.r rfl) (fun _ hw => cells_at hw 0 rfl ⟨_, rfl⟩)) rfl <| VO.l (LO.mv (.r rfl)) rfl <| VO.l (LO.gt (.r rfl) (.r rfl)) rfl <| VO.nil ?_)
              refine VE.seqN ?_
              refine VC.cond rfl (fun h150 => ?_) (fun h150 => ?_)
              ·
                refine VC.reg (VO.l (LO.as (.r rfl)) rfl <| VO.nil ?_)
                refine VE.seqN ?_
                refine VC.seq ?_
                refine VC.seq ?_
                refine VC.reg (VO.l (LO.fa (r := 3) F62_3 (.r rfl) rfl) rfl <| VO.l (LO.ld O3 (.r rfl) (fun _ hw => cells_at hw 0 rfl ⟨_, rfl⟩)) rfl <| VO.l (LO.eq (.r rfl) (.r rfl)) rfl <| VO.nil ?_)
                refine VE.seqN ?_
                refine VC.weak (env' := [(2, _), (7, _), (8, _), (9, _), (10, _), (11, _), (13, _), (14, _), (15, _), (16, _), (17, _), (18, _), (19, _), (20, _), (21, _), (22, _), (23, _), (24, _), (25, _), (153, _)]) (.cons rfl (.cons rfl (.cons rfl (.cons rfl (.cons rfl (.cons rfl (.cons rfl (.cons rfl (.cons rfl (.cons rfl (.cons rfl (.cons rfl (.cons rfl (.cons rfl (.cons rfl (.cons rfl (.cons rfl (.cons rfl (.cons rfl (.cons rfl .nil)))))))))))))))))))) (fun _ h => h) ?_
                refine VC.cond rfl (fun h153 => ?_) (fun h153 => ?_)
                ·
                  (exfalso; exact n153 hlq.out hb0.out h150 h153)
                ·
                  refine VC.skip (VE.seqN ?_)
                  refine VC.seq ?_
                  refine VC.seq ?_
                  refine VC.reg (VO.l (LO.mv (.r rfl)) rfl <| VO.l (LO.eq (.r rfl) (.r rfl)) rfl <| VO.nil ?_)
                  refine VE.seqN ?_
                  refine VC.cond rfl (fun h155 => ?_) (fun h155 => ?_)
                  ·
                    have hb1 : b = 0 := hlq.out.symm.trans h155
                    refine VC.seq ?_
                    refine VC.reg (VO.l (LO.as (.r rfl)) rfl <| VO.nil ?_)
                    refine VE.seqN ?_
                    refine VC.seq ?_
                    refine VC.reg (VO.l (LO.mv (.r rfl)) rfl <| VO.l (LO.add (.r rfl) (.r rfl) (wi (by omega) (by omega))) rfl <| VO.l (LO.as (.r rfl)) rfl <| VO.nil ?_)
                    refine VE.seqN ?_
                    refine VC.weak (env' := [(2, _), (7, _), (8, _), (9, _), (10, _), (11, _), (13, _), (14, _), (15, _), (16, _), (17, _), (18, _), (19, _), (20, _), (21, _), (22, _), (23, _), (24, _), (25, _)]) (.cons rfl (.cons rfl (.cons rfl (.cons rfl (.cons rfl (.cons rfl (.cons rfl (.cons rfl (.cons rfl (.cons rfl (.cons rfl (.cons rfl (.cons rfl (.cons rfl (.cons rfl (.cons rfl (.cons rfl (.cons rfl (.cons rfl .nil))))))))))))))))))) (fun _ h => h) ?_
                    refine VC.drawH [[0, 1, 2, 3, 4, 5, 6], [0, 1, 3, 4, 5, 6], [0, 1, 4, 5, 6], [0, 1, 5, 6]] [some 0, some 0, some 0, some 1, some 1, some 1, some 2, some 2, some 2, some 0, some 2, some 2, some 0, none, some 1, none, some 2, none] mixed (by kernel_rfl) rfl (LX.l (fun _ hJ => LO.mv (.r rfl)) rfl <| LX.l (fun _ hJ => LO.fa (r := 1) F62_1 (.r rfl) rfl) rfl <| LX.l (fun _ hJ => LO.ld O3 (.r rfl) (fun _ hw => cells_at (hJ _ hw) 0 rfl ⟨_, rfl⟩)) rfl <| LX.l (fun _ hJ => LO.mv (.r rfl)) rfl <| LX.l (fun _ hJ => LO.fa (r := 1) F62_1 (.r rfl) rfl) rfl <| LX.l (fun _ hJ => LO.ld O3 (.r rfl) (fun _ hw => cells_at (hJ _ hw) 0 rfl ⟨_, rfl⟩)) rfl <| LX.l (fun _ hJ => LO.mv (.r rfl)) rfl <| LX.l (fun _ hJ => LO.fa (r := 1) F62_1 (.r rfl) rfl) rfl <| LX.l (fun _ hJ => LO.ld O3 (.r rfl) (fun _ hw => cells_at (hJ _ hw) 0 rfl ⟨_, rfl⟩)) rfl <| LX.l (fun _ hJ => LO.mv (.r rfl)) rfl <| LX.l (fun _ hJ => LO.fa (r := 0) F62_0 (.r rfl) rfl) rfl <| LX.l (fun _ hJ => LO.ld O3 (.r rfl) (fun _ hw => cells_at (hJ _ hw) 0 rfl ⟨_, rfl⟩)) rfl <| LX.l (fun _ hJ => LO.ixo S55 N3 (fun _ hw => (own_rows (hJ _ hw) 2 rfl).some (by first | (rw [List.length_map]; omega) | (simp only [List.length_map, List.length_set]; omega))) (.r rfl) (.r rfl) hxr (by omega)) rfl <| LX.s <| LX.l (fun _ hJ => LO.ixo S55 N3 (fun _ hw => (own_rows (hJ _ hw) 2 rfl).some (by first | (rw [List.length_map]; omega) | (simp only [List.length_map, List.length_set]; omega))) (.r rfl) (.r rfl) hxr (by omega)) rfl <| LX.s <| LX.l (fun _ hJ => LO.ixo S55 N3 (fun _ hw => (own_rows (hJ _ hw) 2 rfl).some (by first | (rw [List.length_map]; omega) | (simp only [List.length_map, List.length_set]; omega))) (.r rfl) (.r rfl) hxr (by omega)) rfl <| LX.s <| LX.nil) (HX.s <| HX.s <| HX.s <| HX.s <| HX.s <| HX.s <| HX.s <| HX.s <| HX.s <| HX.s <| HX.s <| HX.s <| HX.s <| HX.h0 <| HO.stm 2 (fun R => [_, _, R, _, _, _, _]) (((nq : Nat) + 1 : Int)) (vs := [_]) N3 (.r rfl) (.r rfl) rfl (by omega) rfl rfl rfl rfl rfl (fun _ => rfl) <| ⟨fun _ hw => hw.sel [0, 1, 3, 4, 5, 6] rfl, HX.s <| HX.h0 <| HO.stm 3 (fun R => [_, _, _, R, _, _, _]) (0) (vs := [_]) N3 (.r rfl) (.r rfl) rfl (by omega) rfl rfl rfl rfl rfl (fun _ => rfl) <| ⟨fun _ hw => hw.sel [0, 1, 4, 5, 6] rfl, HX.s <| HX.h0 <| HO.stm 4 (fun R => [_, _, _, _, R, _, _]) (x.t) (vs := [_]) N3 (.r rfl) (.r rfl) rfl (by omega) rfl rfl rfl rfl rfl (fun _ => rfl) <| ⟨fun _ hw => hw.sel [0, 1, 5, 6] rfl, HX.nil ?_⟩⟩⟩)
                    refine VE.seqN ?_
                    refine VC.weak (env' := [(2, _), (7, _), (8, _), (9, _), (10, _), (11, _), (13, _), (14, _), (15, _), (16, _), (17, _), (18, _), (19, _), (20, _), (21, _), (22, _), (23, _), (24, _), (25, _)]) (.cons rfl (.cons rfl (.cons rfl (.cons rfl (.cons rfl (.cons rfl (.cons rfl (.cons rfl (.cons rfl (.cons rfl (.cons rfl (.cons rfl (.cons rfl (.cons rfl (.cons rfl (.cons rfl (.cons rfl (.cons rfl (.cons rfl .nil))))))))))))))))))) (fun _ h => h) ?_
                    refine VC.seq ?_
                    refine VC.drawH [[0, 1, 2, 3, 4, 5, 6], [0, 1, 2, 4, 5, 6]] [some 0, some 0, some 0, some 0, some 0, some 0, some 0, some 0, some 0, some 0, some 0, some 0, none] mixed (by kernel_rfl) rfl (LX.l (fun _ hJ => LO.mv (.r rfl)) rfl <| LX.l (fun _ hJ => LO.fa (r := 1) F62_1 (.r rfl) rfl) rfl <| LX.l (fun _ hJ => LO.ld O3 (.r rfl) (fun _ hw => cells_at (hJ _ hw) 0 rfl ⟨_, rfl⟩)) rfl <| LX.l (fun _ hJ => LO.mv (.r rfl)) rfl <| LX.l (fun _ hJ => LO.fa (r := 1) F62_1 (.r rfl) rfl) rfl <| LX.l (fun _ hJ => LO.ld O3 (.r rfl) (fun _ hw => cells_at (hJ _ hw) 0 rfl ⟨_, rfl⟩)) rfl <| LX.l (fun _ hJ => LO.ixo S55 N3 (fun _ hw => (own_rows (hJ _ hw) 3 rfl).some (by first | (rw [List.length_map]; omega) | (simp only [List.length_map, List.length_set]; omega))) (.r rfl) (.r rfl) hxr (by omega)) rfl <| LX.l (fun _ hJ => LO.ld O3 (.r rfl) (fun w hw => cells_part (off := 0) (own_cell (hJ _ hw) 3 rfl (getD_some (d := (0 : Int)) (by first | omega | (simp only [List.length_set]; omega)))) ⟨_, rfl⟩)) rfl <| LX.l (fun _ hJ => LO.fa (r := 3) F62_3 (.r rfl) rfl) rfl <| LX.l (fun _ hJ => LO.ld O3 (.r rfl) (fun _ hw => cells_at (hJ _ hw) 0 rfl ⟨_, rfl⟩)) rfl <| LX.l (fun _ hJ => LO.max (.r rfl) (.r rfl)) rfl <| LX.l (fun _ hJ => LO.ixo S55 N3 (fun _ hw => (own_rows (hJ _ hw) 3 rfl).some (by first | (rw [List.length_map]; omega) | (simp only [List.length_map, List.length_set]; omega))) (.r rfl) (.r rfl) hxr (by omega)) rfl <| LX.s <| LX.nil) (HX.s <| HX.s <| HX.s <| HX.s <| HX.s <| HX.s <| HX.s <| HX.s <| HX.s <| HX.s <| HX.s <| HX.s <| HX.h0 <| HO.stm 3 (fun R => [_, _, _, R, _, _, _]) ((max ((pe.set q 0).getD q 0) x.lv)) (vs := [_]) N3 (.r rfl) (.r rfl) rfl (by first | omega | (simp only [List.length_set]; omega)) rfl rfl rfl rfl rfl (fun _ => rfl) <| ⟨fun _ hw => hw.sel [0, 1, 2, 4, 5, 6] rfl, HX.nil ?_⟩)
                    refine VE.seqN ?_
                    refine VC.weak (env' := [(2, _), (7, _), (8, _), (9, _), (10, _), (11, _), (13, _), (14, _), (15, _), (16, _), (17, _), (18, _), (19, _), (20, _), (21, _), (22, _), (23, _), (24, _), (25, _)]) (.cons rfl (.cons rfl (.cons rfl (.cons rfl (.cons rfl (.cons rfl (.cons rfl (.cons rfl (.cons rfl (.cons rfl (.cons rfl (.cons rfl (.cons rfl (.cons rfl (.cons rfl (.cons rfl (.cons rfl (.cons rfl (.cons rfl .nil))))))))))))))))))) (fun _ h => h) ?_
                    refine VC.seq ?_
                    refine VC.seq ?_
                    refine VC.draw mixed (LL.l (LO.fa (r := 2) F62_2 (.r rfl) rfl) rfl <| LL.l (LO.ld O3 (.r rfl) (fun _ hw => cells_at hw 0 rfl ⟨_, rfl⟩)) rfl <| LL.l (LO.mv (.r rfl)) rfl <| LL.l (LO.ne (.r rfl) (.r rfl)) rfl <| LL.l (LO.mv (.r rfl)) rfl <| LL.lg rfl rfl (GD.f _) (fun hg => LO.fa (r := 4) F62_4 (.r rfl) rfl) rfl <| LL.lg rfl rfl (GD.f _) (fun hg => LO.ld O3 (.g hg rfl) (fun _ hw => cells_at hw 0 rfl ⟨_, rfl⟩)) rfl <| LL.lg rfl rfl (GD.f _) (fun hg => LO.mv (.r rfl)) rfl <| LL.lg rfl rfl (GD.f _) (fun hg => LO.fa (r := 1) F62_1 (.r rfl) rfl) rfl <| LL.lg rfl rfl (GD.f _) (fun hg => LO.ld O3 (.g hg rfl) (fun _ hw => cells_at hw 0 rfl ⟨_, rfl⟩)) rfl <| LL.lg rfl rfl (GD.f _) (fun hg => LO.ixo S55 N3 (fun _ hw => (own_rows hw 2 rfl).some (by first | (rw [List.length_map]; omega) | (simp only [List.length_map, List.length_set]; omega))) (.g hg rfl) (.g hg rfl) hxr (by omega)) rfl <| LL.lg rfl rfl (GD.f _) (fun hg => LO.ld O3 (.g hg rfl) (fun w hw => cells_part (off := 0) (own_cell hw 2 rfl (getD_some (d := (0 : Int)) (by first | omega | (simp only [List.length_set]; omega)))) ⟨_, rfl⟩)) rfl <| LL.lg rfl rfl (GD.f _) (fun hg => LO.ne (.g hg rfl) (.g hg rfl)) rfl <| LL.l (LO.pkO (.r rfl) (.r rfl) rfl rfl) rfl <| LL.l (LO.mv (.r rfl)) rfl <| LL.lg rfl rfl (GD.f _) (fun hg => LO.fa (r := 4) F62_4 (.r rfl) rfl) rfl <| LL.lg rfl rfl (GD.f _) (fun hg => LO.ld O3 (.g hg rfl) (fun _ hw => cells_at hw 0 rfl ⟨_, rfl⟩)) rfl <| LL.lg rfl rfl (GD.f _) (fun hg => LO.mv (.r rfl)) rfl <| LL.lg rfl rfl (GD.f _) (fun hg => LO.len S58 (.g hg rfl) rfl) rfl <| LL.lg rfl rfl (GD.f _) (fun hg => LO.gt (.g hg rfl) (.g hg rfl)) rfl <| LL.l (LO.pkO (.r rfl) (.r rfl) rfl rfl) rfl <| LL.l (LO.mv (.r rfl)) rfl <| LL.lg rfl rfl (GD.f _) (fun hg => LO.fa (r := 3) F62_3 (.r rfl) rfl) rfl <| LL.lg rfl rfl (GD.f _) (fun hg => LO.ld O3 (.g hg rfl) (fun _ hw => cells_at hw 0 rfl ⟨_, rfl⟩)) rfl <| LL.lg rfl rfl (GD.f _) (fun hg => LO.mv (.r rfl)) rfl <| LL.lg rfl rfl (GD.f _) (fun hg => LO.gt (.g hg rfl) (.g hg rfl)) rfl <| LL.lg rfl rfl (GD.f _) (fun hg => LO.fa (r := 5) F62_5 (.r rfl) rfl) rfl <| LL.lg rfl rfl (GD.f _) (fun hg => LO.ld O3 (.g hg rfl) (fun _ hw => cells_at hw 0 rfl ⟨_, rfl⟩)) rfl <| LL.lg rfl rfl (GD.f _) (fun hg => LO.ge (.g hg rfl) (.r rfl)) rfl <| LL.lg rfl rfl (GD.f _) (fun hg => LO.mv (.g hg rfl)) rfl <| LL.lg rfl rfl (GD.nt _ _) (fun hg => LO.fa (r := 6) F62_6 (.r rfl) rfl) rfl <| LL.lg rfl rfl (GD.nt _ _) (fun hg => LO.ld O3 (.g hg rfl) (fun _ hw => cells_at hw 0 rfl ⟨_, rfl⟩)) rfl <| LL.lg rfl rfl (GD.nt _ _) (fun hg => LO.ge (.g hg rfl) (.r rfl)) rfl <| LL.lg rfl rfl (GD.f _) (fun hg => LO.pkA (.g hg rfl) rfl (and_e hg) (.r rfl)) rfl <| LL.lg rfl rfl (GD.f _) (fun hg => LO.neB Try.underlying4 (.g hg rfl) (.g hg rfl)) rfl <| LL.l (LO.pkO (.r rfl) (.r rfl) rfl rfl) rfl <| LL.nil) (by kernel_rfl) ?_
                    have hkd : x.kd = 1 := by rw [hxk.out]; exact mk1 hb1 hbmH.out hm0.out
                    have hnm : x.nm = (nu.set q ((nq : Nat) + 1 : Int)).getD q 0 := by rw [hxn.out, if_pos hb1, getD_set_e (by omega), hnq.out]
                    have hnl : x.nm ≤ (y.o.cs.length : Int) := by rw [hxn.out, if_pos hb1, hnq.out]; have z : (rnD d lc bs i (qD d lc bs i (k + 1))).length = nq + 1 := (by rw [hrn]; unfold stepC; rw [if_neg hbmH.out, if_pos hb1, ← hnq.out]; simp); have z2 := hce2.out; rw [z] at z2; omega
                    have hldp := ld_eq hxd.out hxp.out hld.out hlq.out hxl.out
                    refine VE.seqN ?_
                    refine VC.weak (env' := [(2, _), (7, _), (8, _), (9, _), (10, _), (11, _), (13, _), (14, _), (15, _), (16, _), (17, _), (18, _), (19, _), (20, _), (21, _), (22, _), (23, _), (24, _), (220, _)]) (.cons rfl (.cons rfl (.cons rfl (.cons rfl (.cons rfl (.cons rfl (.cons rfl (.cons rfl (.cons rfl (.cons rfl (.cons rfl (.cons rfl (.cons rfl (.cons rfl (.cons rfl (.cons rfl (.cons rfl (.cons rfl (.cons rfl .nil))))))))))))))))))) (fun _ h => h) ?_
                    refine VC.cond rfl (fun h220 => ?_) (fun h220 => ?_)
                    ·
                      (exfalso; exact n220 hkd hnm hnl hldp h220)
                    ·
                      clear h220 hldp
                      refine VC.skip (VE.seqN ?_)
                      refine VC.seq ?_
                      refine VC.seq ?_
                      refine VC.draw mixed (LL.l (LO.fa (r := 3) F62_3 (.r rfl) rfl) rfl <| LL.l (LO.ld O3 (.r rfl) (fun _ hw => cells_at hw 0 rfl ⟨_, rfl⟩)) rfl <| LL.l (LO.mv (.r rfl)) rfl <| LL.l (LO.lt (.r rfl) (.r rfl)) rfl <| LL.l (LO.mv (.r rfl)) rfl <| LL.lg rfl rfl (GD.t _) (fun hg => LO.mv (.r rfl)) rfl <| LL.lg rfl rfl (GD.t _) (fun hg => LO.mv (.r rfl)) rfl <| LL.lg rfl rfl (GD.t _) (fun hg => LO.ixs S55 N3 hTs.sm (.g hg rfl) (.g hg rfl) rfl (by omega)) rfl <| LL.lg rfl rfl (GD.t _) (fun hg => LO.ld O3 (.g hg rfl) (fun w hw => cells_part (off := 0) ((hTs.at 0 (j := i) (by omega)) w hw) ⟨_, rfl⟩)) rfl <| LL.lg rfl rfl (GD.t _) (fun hg => LO.mv (.r rfl)) rfl <| LL.lg rfl rfl (GD.t _) (fun hg => LO.fa (r := 1) F62_1 (.r rfl) rfl) rfl <| LL.lg rfl rfl (GD.t _) (fun hg => LO.ld O3 (.g hg rfl) (fun _ hw => cells_at hw 0 rfl ⟨_, rfl⟩)) rfl <| LL.lg rfl rfl (GD.t _) (fun hg => LO.ixo S55 N3 (fun _ hw => (own_rows hw 5 rfl).some (by first | (rw [List.length_map]; omega) | (simp only [List.length_map, List.length_set]; omega))) (.g hg rfl) (.g hg rfl) hxr (by omega)) rfl <| LL.lg rfl rfl (GD.t _) (fun hg => LO.ld O3 (.g hg rfl) (fun w hw => cells_part (off := 0) (own_cell hw 5 rfl (getD_some (d := (0 : Int)) (by first | omega | (simp only [List.length_set]; omega)))) ⟨_, rfl⟩)) rfl <| LL.lg rfl rfl (GD.t _) (fun hg => LO.sub (.g hg rfl) (.g hg rfl) (wi (n40 htt.out hsb.out hhb.out hTl.out (by omega)).1 (n40 htt.out hsb.out hhb.out hTl.out (by omega)).2)) rfl <| LL.lg rfl rfl (GD.t _) (fun hg => LO.fa (r := 6) F28_2 (.r rfl) rfl) rfl <| LL.lg rfl rfl (GD.t _) (fun hg => LO.fa (r := 8) F26_2 (.g hg rfl) rfl) rfl <| LL.lg rfl rfl (GD.t _) (fun hg => LO.ld O3 (.g hg rfl) (cells_keep (sub_cells (off := 8) hSp ⟨_, rfl⟩))) rfl <| LL.lg rfl rfl (GD.t _) (fun hg => LO.le (.g hg rfl) (.g hg rfl)) rfl <| LL.l (LO.pkA (.r rfl) rfl rfl (.r rfl)) rfl <| LL.nil) (by kernel_rfl) ?_
                      refine VE.seqN ?_
                      refine VC.weak (env' := [(2, _), (7, _), (8, _), (9, _), (10, _), (11, _), (13, _), (14, _), (15, _), (16, _), (17, _), (18, _), (19, _), (20, _), (21, _), (22, _), (23, _), (240, _)]) (.cons rfl (.cons rfl (.cons rfl (.cons rfl (.cons rfl (.cons rfl (.cons rfl (.cons rfl (.cons rfl (.cons rfl (.cons rfl (.cons rfl (.cons rfl (.cons rfl (.cons rfl (.cons rfl (.cons rfl (.cons rfl .nil)))))))))))))))))) (fun _ h => h) ?_
                      refine VC.cond rfl (fun h240 => ?_) (fun h240 => ?_)
                      ·
                        (exfalso; exact high_low hHi hqD.out (by rw [show lvS (drC d) q (stD d lc bs i ++ [sD d lc bs i]) = m from (hme.out.trans (congrFun lsD_snoc q)).symm, show lvS (drC d) q (stD d lc bs i) = b from hbe.out.symm, ← hxl.out, ← hlq.out]; exact h240.1) (by rw [← htt.out]; exact h240.2))
                      ·
                        clear h240
                        refine VC.skip (VE.seqN ?_)
                        refine VC.seq ?_
                        refine VC.seq ?_
                        refine VC.reg (VO.l (LO.fa (r := 2) F62_2 (.r rfl) rfl) rfl <| VO.l (LO.ld O3 (.r rfl) (fun _ hw => cells_at hw 0 rfl ⟨_, rfl⟩)) rfl <| VO.l (LO.eq (.r rfl) (.r rfl)) rfl <| VO.nil ?_)
                        refine VE.seqN ?_
                        refine VC.cond rfl (fun h243 => ?_) (fun h243 => ?_)
                        ·
                          (exfalso; exact absurd (hkd.symm.trans h243) (by decide))
                        ·
                          refine VC.skip (VE.seqN ?_)
                          refine VC.reg (VO.l (LO.mv (.r rfl)) rfl <| VO.l (LO.fa (r := 1) F62_1 (.r rfl) rfl) rfl <| VO.l (LO.ld O3 (.r rfl) (fun _ hw => cells_at hw 0 rfl ⟨_, rfl⟩)) rfl <| VO.l (LO.fa (r := 3) F62_3 (.r rfl) rfl) rfl <| VO.l (LO.ld O3 (.r rfl) (fun _ hw => cells_at hw 0 rfl ⟨_, rfl⟩)) rfl <| VO.l (LO.ixo S55 N3 (fun _ hw => (own_rows hw 1 rfl).some (by first | (rw [List.length_map]; omega) | (simp only [List.length_map, List.length_set]; omega))) (.r rfl) (.r rfl) hxr (by omega)) rfl <| VO.h0 <| HO.stm 1 (fun R => [_, R, _, _, _, _, _]) (x.lv) (vs := [_]) N3 (.r rfl) (.r rfl) rfl (by omega) rfl rfl rfl rfl rfl (fun _ => rfl) <| VO.nil ?_)
                          refine VE.inN (VE.seqN ?_)
                          refine VC.weak (env' := [(2, _), (7, _), (8, _), (9, _), (10, _), (11, _), (13, _), (14, _), (15, _), (16, _), (17, _), (18, _), (19, _), (20, _), (21, _), (22, _)]) (.cons rfl (.cons rfl (.cons rfl (.cons rfl (.cons rfl (.cons rfl (.cons rfl (.cons rfl (.cons rfl (.cons rfl (.cons rfl (.cons rfl (.cons rfl (.cons rfl (.cons rfl (.cons rfl .nil)))))))))))))))) (fun _ h => h) ?_
                          refine VC.reg (VO.l (LO.mv (.r rfl)) rfl <| VO.l (LO.add (.r rfl) (.r rfl) (wi (by omega) (by omega))) rfl <| VO.l (LO.as (.r rfl)) rfl <| VO.nil ?_)
                          refine VE.thenN fun a w ha hw => ⟨(k + 1, (le.set q x.lv), (nu.set q ((nq : Nat) + 1 : Int)), ((pe.set q 0).set q (max ((pe.set q 0).getD q 0) x.lv)), (be.set q x.t)), (by have z := hN2; exact ⟨by dsimp only; omega, by dsimp only; rw [hxl.out]; first | (rw [if_pos hb1, if_pos hb1, if_pos hb1, hnq.out] at z; rw [hxt.out]; exact z) | (rw [if_neg hb1, if_neg hb1, if_neg hb1] at z; exact z)⟩), (by dsimp only; omega), ha.sub (.cons (congrArg (fun z => some (Value.int .i64 z)) (by rw [hrn]; unfold stepC; rw [if_neg hbmH.out]; first | (rw [if_pos hb1, ← hnq.out]; simp) | (rw [if_neg hb1, List.length_map, hnq.out]))) (.cons (congrArg (fun z => some (Value.int .i64 z)) (by rw [hxr, hl2.out])) (.cons rfl (.cons rfl (.cons rfl (.cons rfl (.cons rfl (.cons rfl (.cons rfl (.cons rfl (.cons rfl (.cons rfl (.cons rfl (.cons rfl (.cons rfl (.cons rfl .nil)))))))))))))))), (by exact selK (L1 := [_, _, _, _, _, _]) [1, 2, 3, 4, 5, 6] rfl rfl _ hw)⟩
                  ·
                    have hb1 : b ≠ 0 := fun z => h155 (hlq.out.trans z)
                    obtain ⟨c0, xc, hc1, hc2, hc3, hc4, hc5, hc6, hc7, hc8⟩ := hop.out hb1
                    have hc3 := Hd.mk hc3
                    have hc4 := Hd.mk hc4
                    have hc5 := Hd.mk hc5
                    have hc6 := Hd.mk hc6
                    have hc7 := Hd.mk hc7
                    clear hc8
                    refine VC.skip (VE.seqN ?_)
                    refine VC.seq ?_
                    refine VC.drawH [[0, 1, 2, 3, 4, 5, 6], [0, 1, 2, 4, 5, 6]] [some 0, some 0, some 0, some 0, some 0, some 0, some 0, some 0, some 0, some 0, some 0, some 0, none] mixed (by kernel_rfl) rfl (LX.l (fun _ hJ => LO.mv (.r rfl)) rfl <| LX.l (fun _ hJ => LO.fa (r := 1) F62_1 (.r rfl) rfl) rfl <| LX.l (fun _ hJ => LO.ld O3 (.r rfl) (fun _ hw => cells_at (hJ _ hw) 0 rfl ⟨_, rfl⟩)) rfl <| LX.l (fun _ hJ => LO.mv (.r rfl)) rfl <| LX.l (fun _ hJ => LO.fa (r := 1) F62_1 (.r rfl) rfl) rfl <| LX.l (fun _ hJ => LO.ld O3 (.r rfl) (fun _ hw => cells_at (hJ _ hw) 0 rfl ⟨_, rfl⟩)) rfl <| LX.l (fun _ hJ => LO.ixo S55 N3 (fun _ hw => (own_rows (hJ _ hw) 3 rfl).some (by first | (rw [List.length_map]; omega) | (simp only [List.length_map, List.length_set]; omega))) (.r rfl) (.r rfl) hxr (by omega)) rfl <| LX.l (fun _ hJ => LO.ld O3 (.r rfl) (fun w hw => cells_part (off := 0) (own_cell (hJ _ hw) 3 rfl (getD_some (d := (0 : Int)) (by first | omega | (simp only [List.length_set]; omega)))) ⟨_, rfl⟩)) rfl <| LX.l (fun _ hJ => LO.fa (r := 3) F62_3 (.r rfl) rfl) rfl <| LX.l (fun _ hJ => LO.ld O3 (.r rfl) (fun _ hw => cells_at (hJ _ hw) 0 rfl ⟨_, rfl⟩)) rfl <| LX.l (fun _ hJ => LO.max (.r rfl) (.r rfl)) rfl <| LX.l (fun _ hJ => LO.ixo S55 N3 (fun _ hw => (own_rows (hJ _ hw) 3 rfl).some (by first | (rw [List.length_map]; omega) | (simp only [List.length_map, List.length_set]; omega))) (.r rfl) (.r rfl) hxr (by omega)) rfl <| LX.s <| LX.nil) (HX.s <| HX.s <| HX.s <| HX.s <| HX.s <| HX.s <| HX.s <| HX.s <| HX.s <| HX.s <| HX.s <| HX.s <| HX.h0 <| HO.stm 3 (fun R => [_, _, _, R, _, _, _]) ((max (pe.getD q 0) x.lv)) (vs := [_]) N3 (.r rfl) (.r rfl) rfl (by first | omega | (simp only [List.length_set]; omega)) rfl rfl rfl rfl rfl (fun _ => rfl) <| ⟨fun _ hw => hw.sel [0, 1, 2, 4, 5, 6] rfl, HX.nil ?_⟩)
                    refine VE.seqN ?_
                    refine VC.weak (env' := [(2, _), (7, _), (8, _), (9, _), (10, _), (11, _), (13, _), (14, _), (15, _), (16, _), (17, _), (18, _), (19, _), (20, _), (21, _), (22, _), (23, _), (24, _), (25, _)]) (.cons rfl (.cons rfl (.cons rfl (.cons rfl (.cons rfl (.cons rfl (.cons rfl (.cons rfl (.cons rfl (.cons rfl (.cons rfl (.cons rfl (.cons rfl (.cons rfl (.cons rfl (.cons rfl (.cons rfl (.cons rfl (.cons rfl .nil))))))))))))))))))) (fun _ h => h) ?_
                    refine VC.seq ?_
                    refine VC.seq ?_
                    refine VC.draw mixed (LL.l (LO.fa (r := 2) F62_2 (.r rfl) rfl) rfl <| LL.l (LO.ld O3 (.r rfl) (fun _ hw => cells_at hw 0 rfl ⟨_, rfl⟩)) rfl <| LL.l (LO.mv (.r rfl)) rfl <| LL.l (LO.ne (.r rfl) (.r rfl)) rfl <| LL.l (LO.mv (.r rfl)) rfl <| LL.lg rfl rfl (GD.f _) (fun hg => LO.fa (r := 4) F62_4 (.r rfl) rfl) rfl <| LL.lg rfl rfl (GD.f _) (fun hg => LO.ld O3 (.g hg rfl) (fun _ hw => cells_at hw 0 rfl ⟨_, rfl⟩)) rfl <| LL.lg rfl rfl (GD.f _) (fun hg => LO.mv (.r rfl)) rfl <| LL.lg rfl rfl (GD.f _) (fun hg => LO.fa (r := 1) F62_1 (.r rfl) rfl) rfl <| LL.lg rfl rfl (GD.f _) (fun hg => LO.ld O3 (.g hg rfl) (fun _ hw => cells_at hw 0 rfl ⟨_, rfl⟩)) rfl <| LL.lg rfl rfl (GD.f _) (fun hg => LO.ixo S55 N3 (fun _ hw => (own_rows hw 2 rfl).some (by first | (rw [List.length_map]; omega) | (simp only [List.length_map, List.length_set]; omega))) (.g hg rfl) (.g hg rfl) hxr (by omega)) rfl <| LL.lg rfl rfl (GD.f _) (fun hg => LO.ld O3 (.g hg rfl) (fun w hw => cells_part (off := 0) (own_cell hw 2 rfl (getD_some (d := (0 : Int)) (by first | omega | (simp only [List.length_set]; omega)))) ⟨_, rfl⟩)) rfl <| LL.lg rfl rfl (GD.f _) (fun hg => LO.ne (.g hg rfl) (.g hg rfl)) rfl <| LL.l (LO.pkO (.r rfl) (.r rfl) rfl rfl) rfl <| LL.l (LO.mv (.r rfl)) rfl <| LL.lg rfl rfl (GD.f _) (fun hg => LO.fa (r := 4) F62_4 (.r rfl) rfl) rfl <| LL.lg rfl rfl (GD.f _) (fun hg => LO.ld O3 (.g hg rfl) (fun _ hw => cells_at hw 0 rfl ⟨_, rfl⟩)) rfl <| LL.lg rfl rfl (GD.f _) (fun hg => LO.mv (.r rfl)) rfl <| LL.lg rfl rfl (GD.f _) (fun hg => LO.len S58 (.g hg rfl) rfl) rfl <| LL.lg rfl rfl (GD.f _) (fun hg => LO.gt (.g hg rfl) (.g hg rfl)) rfl <| LL.l (LO.pkO (.r rfl) (.r rfl) rfl rfl) rfl <| LL.l (LO.mv (.r rfl)) rfl <| LL.lg rfl rfl (GD.f _) (fun hg => LO.fa (r := 3) F62_3 (.r rfl) rfl) rfl <| LL.lg rfl rfl (GD.f _) (fun hg => LO.ld O3 (.g hg rfl) (fun _ hw => cells_at hw 0 rfl ⟨_, rfl⟩)) rfl <| LL.lg rfl rfl (GD.f _) (fun hg => LO.mv (.r rfl)) rfl <| LL.lg rfl rfl (GD.f _) (fun hg => LO.gt (.g hg rfl) (.g hg rfl)) rfl <| LL.lg rfl rfl (GD.f _) (fun hg => LO.fa (r := 5) F62_5 (.r rfl) rfl) rfl <| LL.lg rfl rfl (GD.f _) (fun hg => LO.ld O3 (.g hg rfl) (fun _ hw => cells_at hw 0 rfl ⟨_, rfl⟩)) rfl <| LL.lg rfl rfl (GD.f _) (fun hg => LO.ge (.g hg rfl) (.r rfl)) rfl <| LL.lg rfl rfl (GD.f _) (fun hg => LO.mv (.g hg rfl)) rfl <| LL.lg rfl rfl (GD.nt _ _) (fun hg => LO.fa (r := 6) F62_6 (.r rfl) rfl) rfl <| LL.lg rfl rfl (GD.nt _ _) (fun hg => LO.ld O3 (.g hg rfl) (fun _ hw => cells_at hw 0 rfl ⟨_, rfl⟩)) rfl <| LL.lg rfl rfl (GD.nt _ _) (fun hg => LO.ge (.g hg rfl) (.r rfl)) rfl <| LL.lg rfl rfl (GD.f _) (fun hg => LO.pkA (.g hg rfl) rfl (and_e hg) (.r rfl)) rfl <| LL.lg rfl rfl (GD.f _) (fun hg => LO.neB Try.underlying4 (.g hg rfl) (.g hg rfl)) rfl <| LL.l (LO.pkO (.r rfl) (.r rfl) rfl rfl) rfl <| LL.nil) (by kernel_rfl) ?_
                    have hkd : x.kd = 3 := by rw [hxk.out]; exact mk3 hb1 hlq.out hxl.out h150
                    have hxn2 : x.nm = (c0 : Int) + 1 := by rw [hxn.out, if_neg hb1, hc3.out, hc5.out]
                    have hc0 : c0 < y.o.cs.length := by have z := (List.getElem?_eq_some_iff.1 hc1).1; rw [hnq.out] at z; omega
                    have hnm : x.nm = nu.getD q 0 := by rw [hxn.out, if_neg hb1, hc3.out, hc4.out]
                    have hnl : x.nm ≤ (y.o.cs.length : Int) := by omega
                    have hldp := ld_eq hxd.out hxp.out hld.out hlq.out hxl.out
                    refine VE.seqN ?_
                    refine VC.weak (env' := [(2, _), (7, _), (8, _), (9, _), (10, _), (11, _), (13, _), (14, _), (15, _), (16, _), (17, _), (18, _), (19, _), (20, _), (21, _), (22, _), (23, _), (24, _), (220, _)]) (.cons rfl (.cons rfl (.cons rfl (.cons rfl (.cons rfl (.cons rfl (.cons rfl (.cons rfl (.cons rfl (.cons rfl (.cons rfl (.cons rfl (.cons rfl (.cons rfl (.cons rfl (.cons rfl (.cons rfl (.cons rfl (.cons rfl .nil))))))))))))))))))) (fun _ h => h) ?_
                    refine VC.cond rfl (fun h220 => ?_) (fun h220 => ?_)
                    ·
                      (exfalso; exact n220 hkd hnm hnl hldp h220)
                    ·
                      clear h220 hldp
                      refine VC.skip (VE.seqN ?_)
                      refine VC.seq ?_
                      refine VC.seq ?_
                      refine VC.draw mixed (LL.l (LO.fa (r := 3) F62_3 (.r rfl) rfl) rfl <| LL.l (LO.ld O3 (.r rfl) (fun _ hw => cells_at hw 0 rfl ⟨_, rfl⟩)) rfl <| LL.l (LO.mv (.r rfl)) rfl <| LL.l (LO.lt (.r rfl) (.r rfl)) rfl <| LL.l (LO.mv (.r rfl)) rfl <| LL.lg rfl rfl (GD.t _) (fun hg => LO.mv (.r rfl)) rfl <| LL.lg rfl rfl (GD.t _) (fun hg => LO.mv (.r rfl)) rfl <| LL.lg rfl rfl (GD.t _) (fun hg => LO.ixs S55 N3 hTs.sm (.g hg rfl) (.g hg rfl) rfl (by omega)) rfl <| LL.lg rfl rfl (GD.t _) (fun hg => LO.ld O3 (.g hg rfl) (fun w hw => cells_part (off := 0) ((hTs.at 0 (j := i) (by omega)) w hw) ⟨_, rfl⟩)) rfl <| LL.lg rfl rfl (GD.t _) (fun hg => LO.mv (.r rfl)) rfl <| LL.lg rfl rfl (GD.t _) (fun hg => LO.fa (r := 1) F62_1 (.r rfl) rfl) rfl <| LL.lg rfl rfl (GD.t _) (fun hg => LO.ld O3 (.g hg rfl) (fun _ hw => cells_at hw 0 rfl ⟨_, rfl⟩)) rfl <| LL.lg rfl rfl (GD.t _) (fun hg => LO.ixo S55 N3 (fun _ hw => (own_rows hw 5 rfl).some (by first | (rw [List.length_map]; omega) | (simp only [List.length_map, List.length_set]; omega))) (.g hg rfl) (.g hg rfl) hxr (by omega)) rfl <| LL.lg rfl rfl (GD.t _) (fun hg => LO.ld O3 (.g hg rfl) (fun w hw => cells_part (off := 0) (own_cell hw 5 rfl (getD_some (d := (0 : Int)) (by first | omega | (simp only [List.length_set]; omega)))) ⟨_, rfl⟩)) rfl <| LL.lg rfl rfl (GD.t _) (fun hg => LO.sub (.g hg rfl) (.g hg rfl) (wi (n40 htt.out hsb.out hhb.out hTl.out (by omega)).1 (n40 htt.out hsb.out hhb.out hTl.out (by omega)).2)) rfl <| LL.lg rfl rfl (GD.t _) (fun hg => LO.fa (r := 6) F28_2 (.r rfl) rfl) rfl <| LL.lg rfl rfl (GD.t _) (fun hg => LO.fa (r := 8) F26_2 (.g hg rfl) rfl) rfl <| LL.lg rfl rfl (GD.t _) (fun hg => LO.ld O3 (.g hg rfl) (cells_keep (sub_cells (off := 8) hSp ⟨_, rfl⟩))) rfl <| LL.lg rfl rfl (GD.t _) (fun hg => LO.le (.g hg rfl) (.g hg rfl)) rfl <| LL.l (LO.pkA (.r rfl) rfl rfl (.r rfl)) rfl <| LL.nil) (by kernel_rfl) ?_
                      refine VE.seqN ?_
                      refine VC.weak (env' := [(2, _), (7, _), (8, _), (9, _), (10, _), (11, _), (13, _), (14, _), (15, _), (16, _), (17, _), (18, _), (19, _), (20, _), (21, _), (22, _), (23, _), (240, _)]) (.cons rfl (.cons rfl (.cons rfl (.cons rfl (.cons rfl (.cons rfl (.cons rfl (.cons rfl (.cons rfl (.cons rfl (.cons rfl (.cons rfl (.cons rfl (.cons rfl (.cons rfl (.cons rfl (.cons rfl (.cons rfl .nil)))))))))))))))))) (fun _ h => h) ?_
                      refine VC.cond rfl (fun h240 => ?_) (fun h240 => ?_)
                      ·
                        (exfalso; exact high_low hHi hqD.out (by rw [show lvS (drC d) q (stD d lc bs i ++ [sD d lc bs i]) = m from (hme.out.trans (congrFun lsD_snoc q)).symm, show lvS (drC d) q (stD d lc bs i) = b from hbe.out.symm, ← hxl.out, ← hlq.out]; exact h240.1) (by rw [← htt.out]; exact h240.2))
                      ·
                        clear h240
                        refine VC.skip (VE.seqN ?_)
                        refine VC.seq ?_
                        refine VC.seq ?_
                        refine VC.reg (VO.l (LO.fa (r := 2) F62_2 (.r rfl) rfl) rfl <| VO.l (LO.ld O3 (.r rfl) (fun _ hw => cells_at hw 0 rfl ⟨_, rfl⟩)) rfl <| VO.l (LO.eq (.r rfl) (.r rfl)) rfl <| VO.nil ?_)
                        refine VE.seqN ?_
                        refine VC.cond rfl (fun h243 => ?_) (fun h243 => ?_)
                        ·
                          (exfalso; exact absurd (hkd.symm.trans h243) (by decide))
                        ·
                          refine VC.skip (VE.seqN ?_)
                          refine VC.reg (VO.l (LO.mv (.r rfl)) rfl <| VO.l (LO.fa (r := 1) F62_1 (.r rfl) rfl) rfl <| VO.l (LO.ld O3 (.r rfl) (fun _ hw => cells_at hw 0 rfl ⟨_, rfl⟩)) rfl <| VO.l (LO.fa (r := 3) F62_3 (.r rfl) rfl) rfl <| VO.l (LO.ld O3 (.r rfl) (fun _ hw => cells_at hw 0 rfl ⟨_, rfl⟩)) rfl <| VO.l (LO.ixo S55 N3 (fun _ hw => (own_rows hw 1 rfl).some (by first | (rw [List.length_map]; omega) | (simp only [List.length_map, List.length_set]; omega))) (.r rfl) (.r rfl) hxr (by omega)) rfl <| VO.h0 <| HO.stm 1 (fun R => [_, R, _, _, _, _, _]) (x.lv) (vs := [_]) N3 (.r rfl) (.r rfl) rfl (by omega) rfl rfl rfl rfl rfl (fun _ => rfl) <| VO.nil ?_)
                          refine VE.inN (VE.seqN ?_)
                          refine VC.weak (env' := [(2, _), (7, _), (8, _), (9, _), (10, _), (11, _), (13, _), (14, _), (15, _), (16, _), (17, _), (18, _), (19, _), (20, _), (21, _), (22, _)]) (.cons rfl (.cons rfl (.cons rfl (.cons rfl (.cons rfl (.cons rfl (.cons rfl (.cons rfl (.cons rfl (.cons rfl (.cons rfl (.cons rfl (.cons rfl (.cons rfl (.cons rfl (.cons rfl .nil)))))))))))))))) (fun _ h => h) ?_
                          refine VC.reg (VO.l (LO.mv (.r rfl)) rfl <| VO.l (LO.add (.r rfl) (.r rfl) (wi (by omega) (by omega))) rfl <| VO.l (LO.as (.r rfl)) rfl <| VO.nil ?_)
                          refine VE.thenN fun a w ha hw => ⟨(k + 1, (le.set q x.lv), nu, (pe.set q (max (pe.getD q 0) x.lv)), be), (by have z := hN2; exact ⟨by dsimp only; omega, by dsimp only; rw [hxl.out]; first | (rw [if_pos hb1, if_pos hb1, if_pos hb1, hnq.out] at z; rw [hxt.out]; exact z) | (rw [if_neg hb1, if_neg hb1, if_neg hb1] at z; exact z)⟩), (by dsimp only; omega), ha.sub (.cons (congrArg (fun z => some (Value.int .i64 z)) (by rw [hrn]; unfold stepC; rw [if_neg hbmH.out]; first | (rw [if_pos hb1, ← hnq.out]; simp) | (rw [if_neg hb1, List.length_map, hnq.out]))) (.cons (congrArg (fun z => some (Value.int .i64 z)) (by rw [hxr, hl2.out])) (.cons rfl (.cons rfl (.cons rfl (.cons rfl (.cons rfl (.cons rfl (.cons rfl (.cons rfl (.cons rfl (.cons rfl (.cons rfl (.cons rfl (.cons rfl (.cons rfl .nil)))))))))))))))), (by exact selK (L1 := [_, _, _, _, _, _]) [1, 2, 3, 4, 5, 6] rfl rfl _ hw)⟩
              ·
                refine VC.skip (VE.seqN ?_)
                refine VC.seq ?_
                refine VC.seq ?_
                refine VC.reg (VO.l (LO.fa (r := 3) F62_3 (.r rfl) rfl) rfl <| VO.l (LO.ld O3 (.r rfl) (fun _ hw => cells_at hw 0 rfl ⟨_, rfl⟩)) rfl <| VO.l (LO.eq (.r rfl) (.r rfl)) rfl <| VO.nil ?_)
                refine VE.seqN ?_
                refine VC.weak (env' := [(2, _), (7, _), (8, _), (9, _), (10, _), (11, _), (13, _), (14, _), (15, _), (16, _), (17, _), (18, _), (19, _), (20, _), (21, _), (22, _), (23, _), (24, _), (25, _), (153, _)]) (.cons rfl (.cons rfl (.cons rfl (.cons rfl (.cons rfl (.cons rfl (.cons rfl (.cons rfl (.cons rfl (.cons rfl (.cons rfl (.cons rfl (.cons rfl (.cons rfl (.cons rfl (.cons rfl (.cons rfl (.cons rfl (.cons rfl (.cons rfl .nil)))))))))))))))))))) (fun _ h => h) ?_
                refine VC.cond rfl (fun h153 => ?_) (fun h153 => ?_)
                ·
                  refine VC.reg (VO.l (LO.as (.r rfl)) rfl <| VO.nil ?_)
                  refine VE.seqN ?_
                  refine VC.seq ?_
                  refine VC.seq ?_
                  refine VC.reg (VO.l (LO.mv (.r rfl)) rfl <| VO.l (LO.eq (.r rfl) (.r rfl)) rfl <| VO.nil ?_)
                  refine VE.seqN ?_
                  refine VC.cond rfl (fun h155 => ?_) (fun h155 => ?_)
                  ·
                    have hb1 : b = 0 := hlq.out.symm.trans h155
                    (exfalso; exact n155 hlq.out hbmH.out hxl.out hm0.out h150 h155)
                  ·
                    have hb1 : b ≠ 0 := fun z => h155 (hlq.out.trans z)
                    obtain ⟨c0, xc, hc1, hc2, hc3, hc4, hc5, hc6, hc7, hc8⟩ := hop.out hb1
                    have hc3 := Hd.mk hc3
                    have hc4 := Hd.mk hc4
                    have hc5 := Hd.mk hc5
                    have hc6 := Hd.mk hc6
                    have hc7 := Hd.mk hc7
                    clear hc8
                    refine VC.skip (VE.seqN ?_)
                    refine VC.seq ?_
                    refine VC.drawH [[0, 1, 2, 3, 4, 5, 6], [0, 1, 2, 4, 5, 6]] [some 0, some 0, some 0, some 0, some 0, some 0, some 0, some 0, some 0, some 0, some 0, some 0, none] mixed (by kernel_rfl) rfl (LX.l (fun _ hJ => LO.mv (.r rfl)) rfl <| LX.l (fun _ hJ => LO.fa (r := 1) F62_1 (.r rfl) rfl) rfl <| LX.l (fun _ hJ => LO.ld O3 (.r rfl) (fun _ hw => cells_at (hJ _ hw) 0 rfl ⟨_, rfl⟩)) rfl <| LX.l (fun _ hJ => LO.mv (.r rfl)) rfl <| LX.l (fun _ hJ => LO.fa (r := 1) F62_1 (.r rfl) rfl) rfl <| LX.l (fun _ hJ => LO.ld O3 (.r rfl) (fun _ hw => cells_at (hJ _ hw) 0 rfl ⟨_, rfl⟩)) rfl <| LX.l (fun _ hJ => LO.ixo S55 N3 (fun _ hw => (own_rows (hJ _ hw) 3 rfl).some (by first | (rw [List.length_map]; omega) | (simp only [List.length_map, List.length_set]; omega))) (.r rfl) (.r rfl) hxr (by omega)) rfl <| LX.l (fun _ hJ => LO.ld O3 (.r rfl) (fun w hw => cells_part (off := 0) (own_cell (hJ _ hw) 3 rfl (getD_some (d := (0 : Int)) (by first | omega | (simp only [List.length_set]; omega)))) ⟨_, rfl⟩)) rfl <| LX.l (fun _ hJ => LO.fa (r := 3) F62_3 (.r rfl) rfl) rfl <| LX.l (fun _ hJ => LO.ld O3 (.r rfl) (fun _ hw => cells_at (hJ _ hw) 0 rfl ⟨_, rfl⟩)) rfl <| LX.l (fun _ hJ => LO.max (.r rfl) (.r rfl)) rfl <| LX.l (fun _ hJ => LO.ixo S55 N3 (fun _ hw => (own_rows (hJ _ hw) 3 rfl).some (by first | (rw [List.length_map]; omega) | (simp only [List.length_map, List.length_set]; omega))) (.r rfl) (.r rfl) hxr (by omega)) rfl <| LX.s <| LX.nil) (HX.s <| HX.s <| HX.s <| HX.s <| HX.s <| HX.s <| HX.s <| HX.s <| HX.s <| HX.s <| HX.s <| HX.s <| HX.h0 <| HO.stm 3 (fun R => [_, _, _, R, _, _, _]) ((max (pe.getD q 0) x.lv)) (vs := [_]) N3 (.r rfl) (.r rfl) rfl (by first | omega | (simp only [List.length_set]; omega)) rfl rfl rfl rfl rfl (fun _ => rfl) <| ⟨fun _ hw => hw.sel [0, 1, 2, 4, 5, 6] rfl, HX.nil ?_⟩)
                    refine VE.seqN ?_
                    refine VC.weak (env' := [(2, _), (7, _), (8, _), (9, _), (10, _), (11, _), (13, _), (14, _), (15, _), (16, _), (17, _), (18, _), (19, _), (20, _), (21, _), (22, _), (23, _), (24, _), (25, _)]) (.cons rfl (.cons rfl (.cons rfl (.cons rfl (.cons rfl (.cons rfl (.cons rfl (.cons rfl (.cons rfl (.cons rfl (.cons rfl (.cons rfl (.cons rfl (.cons rfl (.cons rfl (.cons rfl (.cons rfl (.cons rfl (.cons rfl .nil))))))))))))))))))) (fun _ h => h) ?_
                    refine VC.seq ?_
                    refine VC.seq ?_
                    refine VC.draw mixed (LL.l (LO.fa (r := 2) F62_2 (.r rfl) rfl) rfl <| LL.l (LO.ld O3 (.r rfl) (fun _ hw => cells_at hw 0 rfl ⟨_, rfl⟩)) rfl <| LL.l (LO.mv (.r rfl)) rfl <| LL.l (LO.ne (.r rfl) (.r rfl)) rfl <| LL.l (LO.mv (.r rfl)) rfl <| LL.lg rfl rfl (GD.f _) (fun hg => LO.fa (r := 4) F62_4 (.r rfl) rfl) rfl <| LL.lg rfl rfl (GD.f _) (fun hg => LO.ld O3 (.g hg rfl) (fun _ hw => cells_at hw 0 rfl ⟨_, rfl⟩)) rfl <| LL.lg rfl rfl (GD.f _) (fun hg => LO.mv (.r rfl)) rfl <| LL.lg rfl rfl (GD.f _) (fun hg => LO.fa (r := 1) F62_1 (.r rfl) rfl) rfl <| LL.lg rfl rfl (GD.f _) (fun hg => LO.ld O3 (.g hg rfl) (fun _ hw => cells_at hw 0 rfl ⟨_, rfl⟩)) rfl <| LL.lg rfl rfl (GD.f _) (fun hg => LO.ixo S55 N3 (fun _ hw => (own_rows hw 2 rfl).some (by first | (rw [List.length_map]; omega) | (simp only [List.length_map, List.length_set]; omega))) (.g hg rfl) (.g hg rfl) hxr (by omega)) rfl <| LL.lg rfl rfl (GD.f _) (fun hg => LO.ld O3 (.g hg rfl) (fun w hw => cells_part (off := 0) (own_cell hw 2 rfl (getD_some (d := (0 : Int)) (by first | omega | (simp only [List.length_set]; omega)))) ⟨_, rfl⟩)) rfl <| LL.lg rfl rfl (GD.f _) (fun hg => LO.ne (.g hg rfl) (.g hg rfl)) rfl <| LL.l (LO.pkO (.r rfl) (.r rfl) rfl rfl) rfl <| LL.l (LO.mv (.r rfl)) rfl <| LL.lg rfl rfl (GD.f _) (fun hg => LO.fa (r := 4) F62_4 (.r rfl) rfl) rfl <| LL.lg rfl rfl (GD.f _) (fun hg => LO.ld O3 (.g hg rfl) (fun _ hw => cells_at hw 0 rfl ⟨_, rfl⟩)) rfl <| LL.lg rfl rfl (GD.f _) (fun hg => LO.mv (.r rfl)) rfl <| LL.lg rfl rfl (GD.f _) (fun hg => LO.len S58 (.g hg rfl) rfl) rfl <| LL.lg rfl rfl (GD.f _) (fun hg => LO.gt (.g hg rfl) (.g hg rfl)) rfl <| LL.l (LO.pkO (.r rfl) (.r rfl) rfl rfl) rfl <| LL.l (LO.mv (.r rfl)) rfl <| LL.lg rfl rfl (GD.f _) (fun hg => LO.fa (r := 3) F62_3 (.r rfl) rfl) rfl <| LL.lg rfl rfl (GD.f _) (fun hg => LO.ld O3 (.g hg rfl) (fun _ hw => cells_at hw 0 rfl ⟨_, rfl⟩)) rfl <| LL.lg rfl rfl (GD.f _) (fun hg => LO.mv (.r rfl)) rfl <| LL.lg rfl rfl (GD.f _) (fun hg => LO.gt (.g hg rfl) (.g hg rfl)) rfl <| LL.lg rfl rfl (GD.f _) (fun hg => LO.fa (r := 5) F62_5 (.r rfl) rfl) rfl <| LL.lg rfl rfl (GD.f _) (fun hg => LO.ld O3 (.g hg rfl) (fun _ hw => cells_at hw 0 rfl ⟨_, rfl⟩)) rfl <| LL.lg rfl rfl (GD.f _) (fun hg => LO.ge (.g hg rfl) (.r rfl)) rfl <| LL.lg rfl rfl (GD.f _) (fun hg => LO.mv (.g hg rfl)) rfl <| LL.lg rfl rfl (GD.nt _ _) (fun hg => LO.fa (r := 6) F62_6 (.r rfl) rfl) rfl <| LL.lg rfl rfl (GD.nt _ _) (fun hg => LO.ld O3 (.g hg rfl) (fun _ hw => cells_at hw 0 rfl ⟨_, rfl⟩)) rfl <| LL.lg rfl rfl (GD.nt _ _) (fun hg => LO.ge (.g hg rfl) (.r rfl)) rfl <| LL.lg rfl rfl (GD.f _) (fun hg => LO.pkA (.g hg rfl) rfl (and_e hg) (.r rfl)) rfl <| LL.lg rfl rfl (GD.f _) (fun hg => LO.neB Try.underlying4 (.g hg rfl) (.g hg rfl)) rfl <| LL.l (LO.pkO (.r rfl) (.r rfl) rfl rfl) rfl <| LL.nil) (by kernel_rfl) ?_
                    have hkd : x.kd = 2 := by rw [hxk.out]; exact mk2 hb1 hlq.out hxl.out h150 h153
                    have hxn2 : x.nm = (c0 : Int) + 1 := by rw [hxn.out, if_neg hb1, hc3.out, hc5.out]
                    have hc0 : c0 < y.o.cs.length := by have z := (List.getElem?_eq_some_iff.1 hc1).1; rw [hnq.out] at z; omega
                    have hnm : x.nm = nu.getD q 0 := by rw [hxn.out, if_neg hb1, hc3.out, hc4.out]
                    have hnl : x.nm ≤ (y.o.cs.length : Int) := by omega
                    have hldp := ld_eq hxd.out hxp.out hld.out hlq.out hxl.out
                    refine VE.seqN ?_
                    refine VC.weak (env' := [(2, _), (7, _), (8, _), (9, _), (10, _), (11, _), (13, _), (14, _), (15, _), (16, _), (17, _), (18, _), (19, _), (20, _), (21, _), (22, _), (23, _), (24, _), (220, _)]) (.cons rfl (.cons rfl (.cons rfl (.cons rfl (.cons rfl (.cons rfl (.cons rfl (.cons rfl (.cons rfl (.cons rfl (.cons rfl (.cons rfl (.cons rfl (.cons rfl (.cons rfl (.cons rfl (.cons rfl (.cons rfl (.cons rfl .nil))))))))))))))))))) (fun _ h => h) ?_
                    refine VC.cond rfl (fun h220 => ?_) (fun h220 => ?_)
                    ·
                      (exfalso; exact n220 hkd hnm hnl hldp h220)
                    ·
                      clear h220 hldp
                      refine VC.skip (VE.seqN ?_)
                      refine VC.seq ?_
                      refine VC.seq ?_
                      refine VC.draw mixed (LL.l (LO.fa (r := 3) F62_3 (.r rfl) rfl) rfl <| LL.l (LO.ld O3 (.r rfl) (fun _ hw => cells_at hw 0 rfl ⟨_, rfl⟩)) rfl <| LL.l (LO.mv (.r rfl)) rfl <| LL.l (LO.lt (.r rfl) (.r rfl)) rfl <| LL.l (LO.mv (.r rfl)) rfl <| LL.lg rfl rfl (GD.t _) (fun hg => LO.mv (.r rfl)) rfl <| LL.lg rfl rfl (GD.t _) (fun hg => LO.mv (.r rfl)) rfl <| LL.lg rfl rfl (GD.t _) (fun hg => LO.ixs S55 N3 hTs.sm (.g hg rfl) (.g hg rfl) rfl (by omega)) rfl <| LL.lg rfl rfl (GD.t _) (fun hg => LO.ld O3 (.g hg rfl) (fun w hw => cells_part (off := 0) ((hTs.at 0 (j := i) (by omega)) w hw) ⟨_, rfl⟩)) rfl <| LL.lg rfl rfl (GD.t _) (fun hg => LO.mv (.r rfl)) rfl <| LL.lg rfl rfl (GD.t _) (fun hg => LO.fa (r := 1) F62_1 (.r rfl) rfl) rfl <| LL.lg rfl rfl (GD.t _) (fun hg => LO.ld O3 (.g hg rfl) (fun _ hw => cells_at hw 0 rfl ⟨_, rfl⟩)) rfl <| LL.lg rfl rfl (GD.t _) (fun hg => LO.ixo S55 N3 (fun _ hw => (own_rows hw 5 rfl).some (by first | (rw [List.length_map]; omega) | (simp only [List.length_map, List.length_set]; omega))) (.g hg rfl) (.g hg rfl) hxr (by omega)) rfl <| LL.lg rfl rfl (GD.t _) (fun hg => LO.ld O3 (.g hg rfl) (fun w hw => cells_part (off := 0) (own_cell hw 5 rfl (getD_some (d := (0 : Int)) (by first | omega | (simp only [List.length_set]; omega)))) ⟨_, rfl⟩)) rfl <| LL.lg rfl rfl (GD.t _) (fun hg => LO.sub (.g hg rfl) (.g hg rfl) (wi (n40 htt.out hsb.out hhb.out hTl.out (by omega)).1 (n40 htt.out hsb.out hhb.out hTl.out (by omega)).2)) rfl <| LL.lg rfl rfl (GD.t _) (fun hg => LO.fa (r := 6) F28_2 (.r rfl) rfl) rfl <| LL.lg rfl rfl (GD.t _) (fun hg => LO.fa (r := 8) F26_2 (.g hg rfl) rfl) rfl <| LL.lg rfl rfl (GD.t _) (fun hg => LO.ld O3 (.g hg rfl) (cells_keep (sub_cells (off := 8) hSp ⟨_, rfl⟩))) rfl <| LL.lg rfl rfl (GD.t _) (fun hg => LO.le (.g hg rfl) (.g hg rfl)) rfl <| LL.l (LO.pkA (.r rfl) rfl rfl (.r rfl)) rfl <| LL.nil) (by kernel_rfl) ?_
                      refine VE.seqN ?_
                      refine VC.weak (env' := [(2, _), (7, _), (8, _), (9, _), (10, _), (11, _), (13, _), (14, _), (15, _), (16, _), (17, _), (18, _), (19, _), (20, _), (21, _), (22, _), (23, _), (240, _)]) (.cons rfl (.cons rfl (.cons rfl (.cons rfl (.cons rfl (.cons rfl (.cons rfl (.cons rfl (.cons rfl (.cons rfl (.cons rfl (.cons rfl (.cons rfl (.cons rfl (.cons rfl (.cons rfl (.cons rfl (.cons rfl .nil)))))))))))))))))) (fun _ h => h) ?_
                      refine VC.cond rfl (fun h240 => ?_) (fun h240 => ?_)
                      ·
                        (exfalso; exact high_low hHi hqD.out (by rw [show lvS (drC d) q (stD d lc bs i ++ [sD d lc bs i]) = m from (hme.out.trans (congrFun lsD_snoc q)).symm, show lvS (drC d) q (stD d lc bs i) = b from hbe.out.symm, ← hxl.out, ← hlq.out]; exact h240.1) (by rw [← htt.out]; exact h240.2))
                      ·
                        clear h240
                        refine VC.skip (VE.seqN ?_)
                        refine VC.seq ?_
                        refine VC.seq ?_
                        refine VC.reg (VO.l (LO.fa (r := 2) F62_2 (.r rfl) rfl) rfl <| VO.l (LO.ld O3 (.r rfl) (fun _ hw => cells_at hw 0 rfl ⟨_, rfl⟩)) rfl <| VO.l (LO.eq (.r rfl) (.r rfl)) rfl <| VO.nil ?_)
                        refine VE.seqN ?_
                        refine VC.cond rfl (fun h243 => ?_) (fun h243 => ?_)
                        ·
                          refine VC.seq ?_
                          refine VC.reg (VO.l (LO.mv (.r rfl)) rfl <| VO.l (LO.fa (r := 4) F62_4 (.r rfl) rfl) rfl <| VO.l (LO.ld O3 (.r rfl) (fun _ hw => cells_at hw 0 rfl ⟨_, rfl⟩)) rfl <| VO.l (LO.sub (.r rfl) (.r rfl) (wi (by omega) (by omega))) rfl <| VO.l (LO.ixo S58 N64 (fun _ hw => (own_rows hw 6 rfl).some (by rw [List.length_map])) (.r rfl) (.r rfl) (show _ = ((c0 : Nat) : Int) by omega) (by omega)) rfl <| VO.l (LO.lda (vs := [_, _, _, _, _]) A64 (.r rfl) (fun w hw => cells_part (off := 0) (own_cell hw 6 rfl (getD_some (d := zCs) (by omega))) ⟨_, rfl⟩) rfl) rfl <| VO.h rfl <| HO.alloc (C := #[_, _, _, _, _]) Z64 rfl fun b29 => VO.h0 <| HO.st 0 (vs := [_, _, _, _, _]) (C' := [_, _, _, _, _]) (L' := [_, _, _, _, _, _, _, _]) N64 rfl rfl rfl rfl rfl rfl rfl rfl <| VO.nil ?_)
                          refine VE.seqN ?_
                          refine VC.weak (env' := [(2, _), (7, _), (8, _), (9, _), (10, _), (11, _), (13, _), (14, _), (15, _), (16, _), (17, _), (18, _), (19, _), (20, _), (21, _), (22, _), (23, _), (26, _)]) (.cons rfl (.cons rfl (.cons rfl (.cons rfl (.cons rfl (.cons rfl (.cons rfl (.cons rfl (.cons rfl (.cons rfl (.cons rfl (.cons rfl (.cons rfl (.cons rfl (.cons rfl (.cons rfl (.cons rfl (.cons rfl .nil)))))))))))))))))) (fun _ h => h) ?_
                          refine VC.seq ?_
                          refine VC.draw mixed (LL.l (LO.fa (r := 2) F64_2 (.r rfl) rfl) rfl <| LL.l (LO.ld O3 (.r rfl) (fun _ hw => cells_at hw 0 rfl ⟨_, rfl⟩)) rfl <| LL.l (LO.mv (.r rfl)) rfl <| LL.l (LO.fa (r := 1) F62_1 (.r rfl) rfl) rfl <| LL.l (LO.ld O3 (.r rfl) (fun _ hw => cells_at hw 1 rfl ⟨_, rfl⟩)) rfl <| LL.l (LO.ixo S55 N3 (fun _ hw => (own_rows hw 5 rfl).some (by first | (rw [List.length_map]; omega) | (simp only [List.length_map, List.length_set]; omega))) (.r rfl) (.r rfl) hxr (by omega)) rfl <| LL.l (LO.ld O3 (.r rfl) (fun w hw => cells_part (off := 0) (own_cell hw 5 rfl (getD_some (d := (0 : Int)) (by first | omega | (simp only [List.length_set]; omega)))) ⟨_, rfl⟩)) rfl <| LL.l (LO.ne (.r rfl) (.r rfl)) rfl <| LL.l (LO.mv (.r rfl)) rfl <| LL.lg rfl rfl (GD.f _) (fun hg => LO.fa (r := 3) F64_3 (.r rfl) rfl) rfl <| LL.lg rfl rfl (GD.f _) (fun hg => LO.ld O3 (.g hg rfl) (fun _ hw => cells_at hw 0 rfl ⟨_, rfl⟩)) rfl <| LL.lg rfl rfl (GD.f _) (fun hg => LO.fa (r := 0) F62_0 (.r rfl) rfl) rfl <| LL.lg rfl rfl (GD.f _) (fun hg => LO.ld O3 (.g hg rfl) (fun _ hw => cells_at hw 1 rfl ⟨_, rfl⟩)) rfl <| LL.lg rfl rfl (GD.f _) (fun hg => LO.ne (.g hg rfl) (.g hg rfl)) rfl <| LL.l (LO.pkO (.r rfl) (.r rfl) rfl rfl) rfl <| LL.l (LO.mv (.r rfl)) rfl <| LL.lg rfl rfl (GD.f _) (fun hg => LO.fa (r := 4) F64_4 (.r rfl) rfl) rfl <| LL.lg rfl rfl (GD.f _) (fun hg => LO.ld O3 (.g hg rfl) (fun _ hw => cells_at hw 0 rfl ⟨_, rfl⟩)) rfl <| LL.lg rfl rfl (GD.f _) (fun hg => LO.mv (.r rfl)) rfl <| LL.lg rfl rfl (GD.f _) (fun hg => LO.fa (r := 1) F62_1 (.r rfl) rfl) rfl <| LL.lg rfl rfl (GD.f _) (fun hg => LO.ld O3 (.g hg rfl) (fun _ hw => cells_at hw 1 rfl ⟨_, rfl⟩)) rfl <| LL.lg rfl rfl (GD.f _) (fun hg => LO.ixo S55 N3 (fun _ hw => (own_rows hw 4 rfl).some (by first | (rw [List.length_map]; omega) | (simp only [List.length_map, List.length_set]; omega))) (.g hg rfl) (.g hg rfl) hxr (by omega)) rfl <| LL.lg rfl rfl (GD.f _) (fun hg => LO.ld O3 (.g hg rfl) (fun w hw => cells_part (off := 0) (own_cell hw 4 rfl (getD_some (d := (0 : Int)) (by first | omega | (simp only [List.length_set]; omega)))) ⟨_, rfl⟩)) rfl <| LL.lg rfl rfl (GD.f _) (fun hg => LO.ne (.g hg rfl) (.g hg rfl)) rfl <| LL.l (LO.pkO (.r rfl) (.r rfl) rfl rfl) rfl <| LL.l (LO.mv (.r rfl)) rfl <| LL.lg rfl rfl (GD.f _) (fun hg => LO.fa (r := 1) F64_1 (.r rfl) rfl) rfl <| LL.lg rfl rfl (GD.f _) (fun hg => LO.ld O3 (.g hg rfl) (fun _ hw => cells_at hw 0 rfl ⟨_, rfl⟩)) rfl <| LL.lg rfl rfl (GD.f _) (fun hg => LO.fa (r := 1) F62_1 (.r rfl) rfl) rfl <| LL.lg rfl rfl (GD.f _) (fun hg => LO.ld O3 (.g hg rfl) (fun _ hw => cells_at hw 1 rfl ⟨_, rfl⟩)) rfl <| LL.lg rfl rfl (GD.f _) (fun hg => LO.ne (.g hg rfl) (.g hg rfl)) rfl <| LL.l (LO.pkO (.r rfl) (.r rfl) rfl rfl) rfl <| LL.l (LO.mv (.r rfl)) rfl <| LL.lg rfl rfl (GD.f _) (fun hg => LO.fa (r := 0) F64_0 (.r rfl) rfl) rfl <| LL.lg rfl rfl (GD.f _) (fun hg => LO.ld O3 (.g hg rfl) (fun _ hw => cells_at hw 0 rfl ⟨_, rfl⟩)) rfl <| LL.lg rfl rfl (GD.f _) (fun hg => LO.fa (r := 4) F62_4 (.r rfl) rfl) rfl <| LL.lg rfl rfl (GD.f _) (fun hg => LO.ld O3 (.g hg rfl) (fun _ hw => cells_at hw 1 rfl ⟨_, rfl⟩)) rfl <| LL.lg rfl rfl (GD.f _) (fun hg => LO.ne (.g hg rfl) (.g hg rfl)) rfl <| LL.l (LO.pkO (.r rfl) (.r rfl) rfl rfl) rfl <| LL.nil) (by kernel_rfl) ?_
                          refine VE.seqN ?_
                          refine VC.weak (env' := [(2, _), (7, _), (8, _), (9, _), (10, _), (11, _), (13, _), (14, _), (15, _), (16, _), (17, _), (18, _), (19, _), (20, _), (21, _), (22, _), (23, _), (288, _)]) (.cons rfl (.cons rfl (.cons rfl (.cons rfl (.cons rfl (.cons rfl (.cons rfl (.cons rfl (.cons rfl (.cons rfl (.cons rfl (.cons rfl (.cons rfl (.cons rfl (.cons rfl (.cons rfl (.cons rfl (.cons rfl .nil)))))))))))))))))) (fun _ h => h) ?_
                          refine VC.cond rfl (fun h288 => ?_) (fun h288 => ?_)
                          ·
                            have hm00 : m = 0 := hxl.out.symm.trans h153
                            have hfe := evD_end (lc := lc) (bs := bs) hqD.out hk1.out hbmH.out hb1 hm00 hc1 hc2 (sD_nv hsb.out (by omega)) hrn hi1
                            rw [← hcsf, List.getElem?_map, getD_some (d := zCs) hc0] at hfe
                            have hfe2 := Option.some.inj hfe
                            (exfalso; exact n288 (pe' := (pe.set q (max (pe.getD q 0) x.lv)).getD q 0) (pe := pe.getD q 0) hfe2 hc7.out hxt.out (by rw [getD_set_e (by omega)]) hc6.out hxl.out hm00 (hxr.trans (opn_iff.1 hc2).1.symm) (hc5.out.trans hxn2.symm) h288)
                          ·
                            clear h288
                            refine VC.skip (VE.seqN ?_)
                            refine VC.reg (VO.l (LO.mv (.r rfl)) rfl <| VO.l (LO.fa (r := 1) F62_1 (.r rfl) rfl) rfl <| VO.l (LO.ld O3 (.r rfl) (fun _ hw => cells_at hw 1 rfl ⟨_, rfl⟩)) rfl <| VO.l (LO.fa (r := 3) F62_3 (.r rfl) rfl) rfl <| VO.l (LO.ld O3 (.r rfl) (fun _ hw => cells_at hw 1 rfl ⟨_, rfl⟩)) rfl <| VO.l (LO.ixo S55 N3 (fun _ hw => (own_rows hw 2 rfl).some (by first | (rw [List.length_map]; omega) | (simp only [List.length_map, List.length_set]; omega))) (.r rfl) (.r rfl) hxr (by omega)) rfl <| VO.h0 <| HO.stm 2 (fun R => [_, _, R, _, _, _, _, _]) (x.lv) (vs := [_]) N3 (.r rfl) (.r rfl) rfl (by omega) rfl rfl rfl rfl rfl (fun _ => rfl) <| VO.nil ?_)
                            refine VE.inN (VE.seqN ?_)
                            refine VC.reg (VO.l (LO.mv (.r rfl)) rfl <| VO.l (LO.add (.r rfl) (.r rfl) (wi (by omega) (by omega))) rfl <| VO.l (LO.as (.r rfl)) rfl <| VO.nil ?_)
                            refine VE.thenN fun a w ha hw => ⟨(k + 1, (le.set q x.lv), nu, (pe.set q (max (pe.getD q 0) x.lv)), be), (by have z := hN2; exact ⟨by dsimp only; omega, by dsimp only; rw [hxl.out]; first | (rw [if_pos hb1, if_pos hb1, if_pos hb1, hnq.out] at z; rw [hxt.out]; exact z) | (rw [if_neg hb1, if_neg hb1, if_neg hb1] at z; exact z)⟩), (by dsimp only; omega), ha.sub (.cons (congrArg (fun z => some (Value.int .i64 z)) (by rw [hrn]; unfold stepC; rw [if_neg hbmH.out]; first | (rw [if_pos hb1, ← hnq.out]; simp) | (rw [if_neg hb1, List.length_map, hnq.out]))) (.cons (congrArg (fun z => some (Value.int .i64 z)) (by rw [hxr, hl2.out])) (.cons rfl (.cons rfl (.cons rfl (.cons rfl (.cons rfl (.cons rfl (.cons rfl (.cons rfl (.cons rfl (.cons rfl (.cons rfl (.cons rfl (.cons rfl (.cons rfl .nil)))))))))))))))), (by exact selK (L1 := [_, _, _, _, _, _]) [2, 3, 4, 5, 6, 7] rfl rfl _ hw)⟩
                        ·
                          (exfalso; exact h243 hkd)
                ·
                  refine VC.skip (VE.seqN ?_)
                  refine VC.seq ?_
                  refine VC.seq ?_
                  refine VC.reg (VO.l (LO.mv (.r rfl)) rfl <| VO.l (LO.eq (.r rfl) (.r rfl)) rfl <| VO.nil ?_)
                  refine VE.seqN ?_
                  refine VC.cond rfl (fun h155 => ?_) (fun h155 => ?_)
                  ·
                    have hb1 : b = 0 := hlq.out.symm.trans h155
                    (exfalso; exact n155 hlq.out hbmH.out hxl.out hm0.out h150 h155)
                  ·
                    have hb1 : b ≠ 0 := fun z => h155 (hlq.out.trans z)
                    obtain ⟨c0, xc, hc1, hc2, hc3, hc4, hc5, hc6, hc7, hc8⟩ := hop.out hb1
                    have hc3 := Hd.mk hc3
                    have hc4 := Hd.mk hc4
                    have hc5 := Hd.mk hc5
                    have hc6 := Hd.mk hc6
                    have hc7 := Hd.mk hc7
                    clear hc8
                    refine VC.skip (VE.seqN ?_)
                    refine VC.seq ?_
                    refine VC.drawH [[0, 1, 2, 3, 4, 5, 6], [0, 1, 2, 4, 5, 6]] [some 0, some 0, some 0, some 0, some 0, some 0, some 0, some 0, some 0, some 0, some 0, some 0, none] mixed (by kernel_rfl) rfl (LX.l (fun _ hJ => LO.mv (.r rfl)) rfl <| LX.l (fun _ hJ => LO.fa (r := 1) F62_1 (.r rfl) rfl) rfl <| LX.l (fun _ hJ => LO.ld O3 (.r rfl) (fun _ hw => cells_at (hJ _ hw) 0 rfl ⟨_, rfl⟩)) rfl <| LX.l (fun _ hJ => LO.mv (.r rfl)) rfl <| LX.l (fun _ hJ => LO.fa (r := 1) F62_1 (.r rfl) rfl) rfl <| LX.l (fun _ hJ => LO.ld O3 (.r rfl) (fun _ hw => cells_at (hJ _ hw) 0 rfl ⟨_, rfl⟩)) rfl <| LX.l (fun _ hJ => LO.ixo S55 N3 (fun _ hw => (own_rows (hJ _ hw) 3 rfl).some (by first | (rw [List.length_map]; omega) | (simp only [List.length_map, List.length_set]; omega))) (.r rfl) (.r rfl) hxr (by omega)) rfl <| LX.l (fun _ hJ => LO.ld O3 (.r rfl) (fun w hw => cells_part (off := 0) (own_cell (hJ _ hw) 3 rfl (getD_some (d := (0 : Int)) (by first | omega | (simp only [List.length_set]; omega)))) ⟨_, rfl⟩)) rfl <| LX.l (fun _ hJ => LO.fa (r := 3) F62_3 (.r rfl) rfl) rfl <| LX.l (fun _ hJ => LO.ld O3 (.r rfl) (fun _ hw => cells_at (hJ _ hw) 0 rfl ⟨_, rfl⟩)) rfl <| LX.l (fun _ hJ => LO.max (.r rfl) (.r rfl)) rfl <| LX.l (fun _ hJ => LO.ixo S55 N3 (fun _ hw => (own_rows (hJ _ hw) 3 rfl).some (by first | (rw [List.length_map]; omega) | (simp only [List.length_map, List.length_set]; omega))) (.r rfl) (.r rfl) hxr (by omega)) rfl <| LX.s <| LX.nil) (HX.s <| HX.s <| HX.s <| HX.s <| HX.s <| HX.s <| HX.s <| HX.s <| HX.s <| HX.s <| HX.s <| HX.s <| HX.h0 <| HO.stm 3 (fun R => [_, _, _, R, _, _, _]) ((max (pe.getD q 0) x.lv)) (vs := [_]) N3 (.r rfl) (.r rfl) rfl (by first | omega | (simp only [List.length_set]; omega)) rfl rfl rfl rfl rfl (fun _ => rfl) <| ⟨fun _ hw => hw.sel [0, 1, 2, 4, 5, 6] rfl, HX.nil ?_⟩)
                    refine VE.seqN ?_
                    refine VC.weak (env' := [(2, _), (7, _), (8, _), (9, _), (10, _), (11, _), (13, _), (14, _), (15, _), (16, _), (17, _), (18, _), (19, _), (20, _), (21, _), (22, _), (23, _), (24, _), (25, _)]) (.cons rfl (.cons rfl (.cons rfl (.cons rfl (.cons rfl (.cons rfl (.cons rfl (.cons rfl (.cons rfl (.cons rfl (.cons rfl (.cons rfl (.cons rfl (.cons rfl (.cons rfl (.cons rfl (.cons rfl (.cons rfl (.cons rfl .nil))))))))))))))))))) (fun _ h => h) ?_
                    refine VC.seq ?_
                    refine VC.seq ?_
                    refine VC.draw mixed (LL.l (LO.fa (r := 2) F62_2 (.r rfl) rfl) rfl <| LL.l (LO.ld O3 (.r rfl) (fun _ hw => cells_at hw 0 rfl ⟨_, rfl⟩)) rfl <| LL.l (LO.mv (.r rfl)) rfl <| LL.l (LO.ne (.r rfl) (.r rfl)) rfl <| LL.l (LO.mv (.r rfl)) rfl <| LL.lg rfl rfl (GD.f _) (fun hg => LO.fa (r := 4) F62_4 (.r rfl) rfl) rfl <| LL.lg rfl rfl (GD.f _) (fun hg => LO.ld O3 (.g hg rfl) (fun _ hw => cells_at hw 0 rfl ⟨_, rfl⟩)) rfl <| LL.lg rfl rfl (GD.f _) (fun hg => LO.mv (.r rfl)) rfl <| LL.lg rfl rfl (GD.f _) (fun hg => LO.fa (r := 1) F62_1 (.r rfl) rfl) rfl <| LL.lg rfl rfl (GD.f _) (fun hg => LO.ld O3 (.g hg rfl) (fun _ hw => cells_at hw 0 rfl ⟨_, rfl⟩)) rfl <| LL.lg rfl rfl (GD.f _) (fun hg => LO.ixo S55 N3 (fun _ hw => (own_rows hw 2 rfl).some (by first | (rw [List.length_map]; omega) | (simp only [List.length_map, List.length_set]; omega))) (.g hg rfl) (.g hg rfl) hxr (by omega)) rfl <| LL.lg rfl rfl (GD.f _) (fun hg => LO.ld O3 (.g hg rfl) (fun w hw => cells_part (off := 0) (own_cell hw 2 rfl (getD_some (d := (0 : Int)) (by first | omega | (simp only [List.length_set]; omega)))) ⟨_, rfl⟩)) rfl <| LL.lg rfl rfl (GD.f _) (fun hg => LO.ne (.g hg rfl) (.g hg rfl)) rfl <| LL.l (LO.pkO (.r rfl) (.r rfl) rfl rfl) rfl <| LL.l (LO.mv (.r rfl)) rfl <| LL.lg rfl rfl (GD.f _) (fun hg => LO.fa (r := 4) F62_4 (.r rfl) rfl) rfl <| LL.lg rfl rfl (GD.f _) (fun hg => LO.ld O3 (.g hg rfl) (fun _ hw => cells_at hw 0 rfl ⟨_, rfl⟩)) rfl <| LL.lg rfl rfl (GD.f _) (fun hg => LO.mv (.r rfl)) rfl <| LL.lg rfl rfl (GD.f _) (fun hg => LO.len S58 (.g hg rfl) rfl) rfl <| LL.lg rfl rfl (GD.f _) (fun hg => LO.gt (.g hg rfl) (.g hg rfl)) rfl <| LL.l (LO.pkO (.r rfl) (.r rfl) rfl rfl) rfl <| LL.l (LO.mv (.r rfl)) rfl <| LL.lg rfl rfl (GD.f _) (fun hg => LO.fa (r := 3) F62_3 (.r rfl) rfl) rfl <| LL.lg rfl rfl (GD.f _) (fun hg => LO.ld O3 (.g hg rfl) (fun _ hw => cells_at hw 0 rfl ⟨_, rfl⟩)) rfl <| LL.lg rfl rfl (GD.f _) (fun hg => LO.mv (.r rfl)) rfl <| LL.lg rfl rfl (GD.f _) (fun hg => LO.gt (.g hg rfl) (.g hg rfl)) rfl <| LL.lg rfl rfl (GD.f _) (fun hg => LO.fa (r := 5) F62_5 (.r rfl) rfl) rfl <| LL.lg rfl rfl (GD.f _) (fun hg => LO.ld O3 (.g hg rfl) (fun _ hw => cells_at hw 0 rfl ⟨_, rfl⟩)) rfl <| LL.lg rfl rfl (GD.f _) (fun hg => LO.ge (.g hg rfl) (.r rfl)) rfl <| LL.lg rfl rfl (GD.f _) (fun hg => LO.mv (.g hg rfl)) rfl <| LL.lg rfl rfl (GD.nt _ _) (fun hg => LO.fa (r := 6) F62_6 (.r rfl) rfl) rfl <| LL.lg rfl rfl (GD.nt _ _) (fun hg => LO.ld O3 (.g hg rfl) (fun _ hw => cells_at hw 0 rfl ⟨_, rfl⟩)) rfl <| LL.lg rfl rfl (GD.nt _ _) (fun hg => LO.ge (.g hg rfl) (.r rfl)) rfl <| LL.lg rfl rfl (GD.f _) (fun hg => LO.pkA (.g hg rfl) rfl (and_e hg) (.r rfl)) rfl <| LL.lg rfl rfl (GD.f _) (fun hg => LO.neB Try.underlying4 (.g hg rfl) (.g hg rfl)) rfl <| LL.l (LO.pkO (.r rfl) (.r rfl) rfl rfl) rfl <| LL.nil) (by kernel_rfl) ?_
                    have hkd : x.kd = 4 := by rw [hxk.out]; exact mk4 hb1 hlq.out hxl.out h150 h153
                    have hxn2 : x.nm = (c0 : Int) + 1 := by rw [hxn.out, if_neg hb1, hc3.out, hc5.out]
                    have hc0 : c0 < y.o.cs.length := by have z := (List.getElem?_eq_some_iff.1 hc1).1; rw [hnq.out] at z; omega
                    have hnm : x.nm = nu.getD q 0 := by rw [hxn.out, if_neg hb1, hc3.out, hc4.out]
                    have hnl : x.nm ≤ (y.o.cs.length : Int) := by omega
                    have hldp := ld_eq hxd.out hxp.out hld.out hlq.out hxl.out
                    refine VE.seqN ?_
                    refine VC.weak (env' := [(2, _), (7, _), (8, _), (9, _), (10, _), (11, _), (13, _), (14, _), (15, _), (16, _), (17, _), (18, _), (19, _), (20, _), (21, _), (22, _), (23, _), (24, _), (220, _)]) (.cons rfl (.cons rfl (.cons rfl (.cons rfl (.cons rfl (.cons rfl (.cons rfl (.cons rfl (.cons rfl (.cons rfl (.cons rfl (.cons rfl (.cons rfl (.cons rfl (.cons rfl (.cons rfl (.cons rfl (.cons rfl (.cons rfl .nil))))))))))))))))))) (fun _ h => h) ?_
                    refine VC.cond rfl (fun h220 => ?_) (fun h220 => ?_)
                    ·
                      (exfalso; exact n220 hkd hnm hnl hldp h220)
                    ·
                      clear h220 hldp
                      refine VC.skip (VE.seqN ?_)
                      refine VC.seq ?_
                      refine VC.seq ?_
                      refine VC.draw mixed (LL.l (LO.fa (r := 3) F62_3 (.r rfl) rfl) rfl <| LL.l (LO.ld O3 (.r rfl) (fun _ hw => cells_at hw 0 rfl ⟨_, rfl⟩)) rfl <| LL.l (LO.mv (.r rfl)) rfl <| LL.l (LO.lt (.r rfl) (.r rfl)) rfl <| LL.l (LO.mv (.r rfl)) rfl <| LL.lg rfl rfl (GD.t _) (fun hg => LO.mv (.r rfl)) rfl <| LL.lg rfl rfl (GD.t _) (fun hg => LO.mv (.r rfl)) rfl <| LL.lg rfl rfl (GD.t _) (fun hg => LO.ixs S55 N3 hTs.sm (.g hg rfl) (.g hg rfl) rfl (by omega)) rfl <| LL.lg rfl rfl (GD.t _) (fun hg => LO.ld O3 (.g hg rfl) (fun w hw => cells_part (off := 0) ((hTs.at 0 (j := i) (by omega)) w hw) ⟨_, rfl⟩)) rfl <| LL.lg rfl rfl (GD.t _) (fun hg => LO.mv (.r rfl)) rfl <| LL.lg rfl rfl (GD.t _) (fun hg => LO.fa (r := 1) F62_1 (.r rfl) rfl) rfl <| LL.lg rfl rfl (GD.t _) (fun hg => LO.ld O3 (.g hg rfl) (fun _ hw => cells_at hw 0 rfl ⟨_, rfl⟩)) rfl <| LL.lg rfl rfl (GD.t _) (fun hg => LO.ixo S55 N3 (fun _ hw => (own_rows hw 5 rfl).some (by first | (rw [List.length_map]; omega) | (simp only [List.length_map, List.length_set]; omega))) (.g hg rfl) (.g hg rfl) hxr (by omega)) rfl <| LL.lg rfl rfl (GD.t _) (fun hg => LO.ld O3 (.g hg rfl) (fun w hw => cells_part (off := 0) (own_cell hw 5 rfl (getD_some (d := (0 : Int)) (by first | omega | (simp only [List.length_set]; omega)))) ⟨_, rfl⟩)) rfl <| LL.lg rfl rfl (GD.t _) (fun hg => LO.sub (.g hg rfl) (.g hg rfl) (wi (n40 htt.out hsb.out hhb.out hTl.out (by omega)).1 (n40 htt.out hsb.out hhb.out hTl.out (by omega)).2)) rfl <| LL.lg rfl rfl (GD.t _) (fun hg => LO.fa (r := 6) F28_2 (.r rfl) rfl) rfl <| LL.lg rfl rfl (GD.t _) (fun hg => LO.fa (r := 8) F26_2 (.g hg rfl) rfl) rfl <| LL.lg rfl rfl (GD.t _) (fun hg => LO.ld O3 (.g hg rfl) (cells_keep (sub_cells (off := 8) hSp ⟨_, rfl⟩))) rfl <| LL.lg rfl rfl (GD.t _) (fun hg => LO.le (.g hg rfl) (.g hg rfl)) rfl <| LL.l (LO.pkA (.r rfl) rfl rfl (.r rfl)) rfl <| LL.nil) (by kernel_rfl) ?_
                      refine VE.seqN ?_
                      refine VC.weak (env' := [(2, _), (7, _), (8, _), (9, _), (10, _), (11, _), (13, _), (14, _), (15, _), (16, _), (17, _), (18, _), (19, _), (20, _), (21, _), (22, _), (23, _), (240, _)]) (.cons rfl (.cons rfl (.cons rfl (.cons rfl (.cons rfl (.cons rfl (.cons rfl (.cons rfl (.cons rfl (.cons rfl (.cons rfl (.cons rfl (.cons rfl (.cons rfl (.cons rfl (.cons rfl (.cons rfl (.cons rfl .nil)))))))))))))))))) (fun _ h => h) ?_
                      refine VC.cond rfl (fun h240 => ?_) (fun h240 => ?_)
                      ·
                        (exfalso; exact high_low hHi hqD.out (by rw [show lvS (drC d) q (stD d lc bs i ++ [sD d lc bs i]) = m from (hme.out.trans (congrFun lsD_snoc q)).symm, show lvS (drC d) q (stD d lc bs i) = b from hbe.out.symm, ← hxl.out, ← hlq.out]; exact h240.1) (by rw [← htt.out]; exact h240.2))
                      ·
                        clear h240
                        refine VC.skip (VE.seqN ?_)
                        refine VC.seq ?_
                        refine VC.seq ?_
                        refine VC.reg (VO.l (LO.fa (r := 2) F62_2 (.r rfl) rfl) rfl <| VO.l (LO.ld O3 (.r rfl) (fun _ hw => cells_at hw 0 rfl ⟨_, rfl⟩)) rfl <| VO.l (LO.eq (.r rfl) (.r rfl)) rfl <| VO.nil ?_)
                        refine VE.seqN ?_
                        refine VC.cond rfl (fun h243 => ?_) (fun h243 => ?_)
                        ·
                          (exfalso; exact absurd (hkd.symm.trans h243) (by decide))
                        ·
                          refine VC.skip (VE.seqN ?_)
                          refine VC.reg (VO.l (LO.mv (.r rfl)) rfl <| VO.l (LO.fa (r := 1) F62_1 (.r rfl) rfl) rfl <| VO.l (LO.ld O3 (.r rfl) (fun _ hw => cells_at hw 0 rfl ⟨_, rfl⟩)) rfl <| VO.l (LO.fa (r := 3) F62_3 (.r rfl) rfl) rfl <| VO.l (LO.ld O3 (.r rfl) (fun _ hw => cells_at hw 0 rfl ⟨_, rfl⟩)) rfl <| VO.l (LO.ixo S55 N3 (fun _ hw => (own_rows hw 1 rfl).some (by first | (rw [List.length_map]; omega) | (simp only [List.length_map, List.length_set]; omega))) (.r rfl) (.r rfl) hxr (by omega)) rfl <| VO.h0 <| HO.stm 1 (fun R => [_, R, _, _, _, _, _]) (x.lv) (vs := [_]) N3 (.r rfl) (.r rfl) rfl (by omega) rfl rfl rfl rfl rfl (fun _ => rfl) <| VO.nil ?_)
                          refine VE.inN (VE.seqN ?_)
                          refine VC.weak (env' := [(2, _), (7, _), (8, _), (9, _), (10, _), (11, _), (13, _), (14, _), (15, _), (16, _), (17, _), (18, _), (19, _), (20, _), (21, _), (22, _)]) (.cons rfl (.cons rfl (.cons rfl (.cons rfl (.cons rfl (.cons rfl (.cons rfl (.cons rfl (.cons rfl (.cons rfl (.cons rfl (.cons rfl (.cons rfl (.cons rfl (.cons rfl (.cons rfl .nil)))))))))))))))) (fun _ h => h) ?_
                          refine VC.reg (VO.l (LO.mv (.r rfl)) rfl <| VO.l (LO.add (.r rfl) (.r rfl) (wi (by omega) (by omega))) rfl <| VO.l (LO.as (.r rfl)) rfl <| VO.nil ?_)
                          refine VE.thenN fun a w ha hw => ⟨(k + 1, (le.set q x.lv), nu, (pe.set q (max (pe.getD q 0) x.lv)), be), (by have z := hN2; exact ⟨by dsimp only; omega, by dsimp only; rw [hxl.out]; first | (rw [if_pos hb1, if_pos hb1, if_pos hb1, hnq.out] at z; rw [hxt.out]; exact z) | (rw [if_neg hb1, if_neg hb1, if_neg hb1] at z; exact z)⟩), (by dsimp only; omega), ha.sub (.cons (congrArg (fun z => some (Value.int .i64 z)) (by rw [hrn]; unfold stepC; rw [if_neg hbmH.out]; first | (rw [if_pos hb1, ← hnq.out]; simp) | (rw [if_neg hb1, List.length_map, hnq.out]))) (.cons (congrArg (fun z => some (Value.int .i64 z)) (by rw [hxr, hl2.out])) (.cons rfl (.cons rfl (.cons rfl (.cons rfl (.cons rfl (.cons rfl (.cons rfl (.cons rfl (.cons rfl (.cons rfl (.cons rfl (.cons rfl (.cons rfl (.cons rfl .nil)))))))))))))))), (by exact selK (L1 := [_, _, _, _, _, _]) [1, 2, 3, 4, 5, 6] rfl rfl _ hw)⟩
          ·
            have hke : k = nc := by omega
            have hqn : qD d lc bs i k = nD d := qAt_end (by rw [hke]; exact Nat.le_of_eq hnc.out)
            rw [hqn] at hN
            rw [hqn]
            have hN3 : NumI (nD d) (lsD d lc bs (i + 1)) (csD d lc bs (i + 1)) le nu pe be := by rw [lsD_snoc, csD_snoc]; exact num_end hN
            rw [← csD_snoc (d := d) (lc := lc) (bs := bs) (i := i)]
            refine VC.exit (VE.thenX (VE.thenX (VE.inX (VE.seqN ?_))))
            refine VC.seq ?_
            refine VC.reg (VO.l (LO.as (.r rfl)) rfl <| VO.nil ?_)
            refine VE.seqN ?_
            refine VC.block ?_
            refine VC.perm [4, 0, 1, 2, 3, 5] rfl ?_
            refine VC.loopK (α := Nat × (List Int)) 1 (fun gx => [(27, .int .i64 (gx.1 : Nat))]) [(2, _), (7, _), (8, _), (9, _), (10, _), (11, _), (13, _), (14, _), (15, _), (16, _), (17, _), (18, _), (19, _), (20, _)] (fun gx => [own 3 1 (some ⟨b25, 0, none⟩) rgs.length (gx.2.map iC)]) (fun gx => gx.1 ≤ rgs.length ∧ HighM (drC d) (nD d) (stD d lc bs i) (sD d lc bs i) gx.1 gx.2) (fun gx => rgs.length - gx.1) (0, hi_) (by exact ⟨Nat.zero_le _, high_0 hHi⟩) (.cons rfl (.cons rfl (.cons rfl (.cons rfl (.cons rfl (.cons rfl (.cons rfl (.cons rfl (.cons rfl (.cons rfl (.cons rfl (.cons rfl (.cons rfl (.cons rfl (.cons rfl .nil))))))))))))))) (fun _ h => h) ?_
            rintro ⟨k, hi_⟩ ⟨hk2, hHM⟩
            show VC _ _ _ _ _ ([(27, .int .i64 (k : Nat))] ++ _) ([own 3 1 (some ⟨b25, 0, none⟩) rgs.length (hi_.map iC)] ++ _) _ _
            dsimp only at hk2 hHM
            have hn7 : hi_.length = rgs.length := hHM.1.trans hnD.out.symm
            have hn1 : le.length = rgs.length := hN.l1.trans hnD.out.symm
            have hn2 : nu.length = rgs.length := hN.l2.trans hnD.out.symm
            have hn4 : pe.length = rgs.length := hN.l3.trans hnD.out.symm
            have hn5 : be.length = rgs.length := hN.l4.trans hnD.out.symm
            refine VC.seq ?_
            refine VC.seq ?_
            refine VC.reg (VO.l (LO.mv (.r rfl)) rfl <| VO.l (LO.fa (r := 5) F28_1 (.r rfl) rfl) rfl <| VO.l (LO.ld O24 (.r rfl) (cells_keep (sub_cells (off := 5) hSp ⟨_, rfl⟩))) rfl <| VO.l (LO.len S24 (.r rfl) rfl) rfl <| VO.l (LO.lt (.r rfl) (.r rfl)) rfl <| VO.nil ?_)
            refine VE.seqN ?_
            refine VC.cond rfl (fun h299 => ?_) (fun h299 => ?_)
            ·
              refine VC.skip (VE.seqN ?_)
              refine VC.seq ?_
              refine VC.block ?_
              refine VC.seq ?_
              refine VC.drawD [] [8] [[0, 1, 2, 3, 4, 5], [0, 1, 2, 3, 4, 5], [0, 1, 2, 3, 4, 5]] [some 1, some 1, some 0, some 0, some 0, some 0, some 0, none, none, some 2, some 2, some 2, some 2, some 2, some 2, some 2, some 2, some 2] mixed (by kernel_rfl) rfl (LXD.l (fun _ hJ => LO.lda (vs := [_, _, _, _, _, _, _, _, _]) A28 (.r rfl) (cells_keep (sub_cells (off := 0) hSp ⟨_, rfl⟩)) rfl) rfl <| LXD.l (fun _ hJ => LO.mv (.r rfl)) rfl <| LXD.l (fun _ hJ => LO.mv (.r rfl)) rfl <| LXD.l (fun _ hJ => LO.mv (.r rfl)) rfl <| LXD.l (fun _ hJ => LO.ixs S50 N66 hBt.rows.sm (.r rfl) (.r rfl) rfl (by omega)) rfl <| LXD.l (fun _ hJ => LO.lda (vs := [_, _, _, _]) A66 (.r rfl) (fun w hw => cells_part (off := 0) ((fun w2 hw2 => (hBt.rows.keep w2 hw2).cells _ _ (by rw [List.getElem?_map, hbx]; rfl)) w (hJ _ hw)) ⟨_, rfl⟩) rfl) rfl <| LXD.l (fun _ hJ => LO.mv (.r rfl)) rfl <| LXD.s rfl <| LXD.d ((threatV (drSp d) (k : Int) (beatL xb (l.map CP.c)))) rfl <| LXD.l (fun _ hJ => LO.mv (.r rfl)) rfl <| LXD.l (fun _ hJ => LO.ex (.r rfl) rfl) rfl <| LXD.l (fun _ hJ => LO.ex (.r rfl) rfl) rfl <| LXD.l (fun _ hJ => LO.ex (.r rfl) rfl) rfl <| LXD.l (fun _ hJ => LO.ex (.r rfl) rfl) rfl <| LXD.l (fun _ hJ => LO.as (.r rfl)) rfl <| LXD.l (fun _ hJ => LO.as (.r rfl)) rfl <| LXD.l (fun _ hJ => LO.as (.r rfl)) rfl <| LXD.l (fun _ hJ => LO.as (.r rfl)) rfl <| LXD.nil) (trivial) (HYD.s <| HYD.s <| HYD.s <| HYD.s <| HYD.s <| HYD.s <| HYD.s <| HYD.h rfl rfl rfl fun X => HO.callx (xs := [_, _]) (vs := [_, _]) C23 ⟨(.r rfl), (.r rfl), trivial⟩ (fun w hw => beat_c xb l pl kl w (by omega) (hok xb (List.mem_of_getElem? hbx)) (hCl.keep w hw)) fun qb hqb => ⟨[_, _, _, _, _, _, _], rfl, selJ (L1 := [_, _, _, _, _, _]) [1, 2, 3, 4, 5, 6] rfl rfl rfl, HYD.d rfl rfl fun X => HO.lo (LO.call (xs := [_, _, _]) (vs := [_, _, _]) C15 ⟨(.r rfl), (.r rfl), (.r rfl), trivial⟩ (fun w hw => by have z := Threat_c gD rgs pg cg (drA d) (drB d) (drC d) ((k : Nat) : Int) qb.2 qb.1.1 qb.1.2 w (by omega) (hRg.keep hw) (by omega) (clouds_own hCl hqb.2.2 hw 0 rfl); rw [hqb.1, show (⟨gD, rgs.map RG.r, drA d, drB d, drC d⟩ : Sp) = drSp d from by rw [hX]; rfl] at z; exact z)) <| ⟨rfl, [_, _, _, _, _, _, _], rfl, selJ (L1 := [_, _, _, _, _, _]) [1, 2, 3, 4, 5, 6] rfl rfl rfl, HYD.s <| HYD.s <| HYD.s <| HYD.s <| HYD.s <| HYD.s <| HYD.s <| HYD.s <| HYD.s <| HYD.nil ?_⟩⟩)
              have hqm : beatL xb (l.map CP.c) = beatL (bs.getD i ⟨0, 0, 0, true⟩) lc := by rw [hlc, getD_of hbx]
              have hto := threat_of hd hne (l := beatL xb (l.map CP.c)) (by rw [hl]; exact beat_look (hok xb (List.mem_of_getElem? hbx)) (allL_cls hcl.ok _)) (k := k) (by have z := hnD.out; unfold nD at z; rw [← z]; omega)
              have hth : threatT (drSp d) (k : Int) (beatL xb (l.map CP.c)) = thD d lc bs i k := by rw [hto.2, hqm]; rfl
              rw [hto.1, hth]
              have hlk : Hd (le.getD k 0 = lsD d lc bs (i + 1) k) := ⟨hN3.le k (by rw [← hnD.out]; omega)⟩
              have hnow : Hd ((thD d lc bs i k).lv ≤ lsD d lc bs (i + 1) k) := ⟨by rw [lsD_snoc]; exact lvS_now hbd.out.2.2.1⟩
              have hzero : Hd (drC d = 0 → lsD d lc bs (i + 1) k = (thD d lc bs i k).lv) := ⟨fun z => by rw [lsD_snoc, z]; exact lvS_zero (fun x hx => stD_lt hok hi1 hx) (thD_nn k)⟩
              refine VE.seqN ?_
              refine VC.weak (env' := [(2, _), (7, _), (8, _), (9, _), (10, _), (11, _), (13, _), (14, _), (15, _), (16, _), (17, _), (18, _), (19, _), (20, _), (27, _), (28, _), (31, _)]) (.cons rfl (.cons rfl (.cons rfl (.cons rfl (.cons rfl (.cons rfl (.cons rfl (.cons rfl (.cons rfl (.cons rfl (.cons rfl (.cons rfl (.cons rfl (.cons rfl (.cons rfl (.cons rfl (.cons rfl .nil))))))))))))))))) (fun _ h => h) ?_
              refine VC.seq ?_
              refine VC.seq ?_
              refine VC.reg (VO.l (LO.mv (.r rfl)) rfl <| VO.l (LO.ne (.r rfl) (.r rfl)) rfl <| VO.l (LO.mv (.r rfl)) rfl <| VO.lg rfl rfl (GD.f _) (fun hg => LO.mv (.r rfl)) rfl <| VO.lg rfl rfl (GD.f _) (fun hg => LO.mv (.r rfl)) rfl <| VO.lg rfl rfl (GD.f _) (fun hg => LO.mv (.r rfl)) rfl <| VO.lg rfl rfl (GD.f _) (fun hg => LO.ixo S55 N3 (fun _ hw => (own_rows hw 2 rfl).some (by first | (rw [List.length_map]; omega) | (simp only [List.length_map, List.length_set]; omega))) (.g hg rfl) (.g hg rfl) rfl (by omega)) rfl <| VO.lg rfl rfl (GD.f _) (fun hg => LO.ld O3 (.g hg rfl) (fun w hw => cells_part (off := 0) (own_cell hw 2 rfl (getD_some (d := (0 : Int)) (by first | omega | (simp only [List.length_set]; omega)))) ⟨_, rfl⟩)) rfl <| VO.lg rfl rfl (GD.f _) (fun hg => LO.gt (.g hg rfl) (.g hg rfl)) rfl <| VO.l (LO.pkO (.r rfl) (.r rfl) rfl rfl) rfl <| VO.l (LO.mv (.r rfl)) rfl <| VO.lg rfl rfl (GD.f _) (fun hg => LO.fa (r := 6) F28_2 (.r rfl) rfl) rfl <| VO.lg rfl rfl (GD.f _) (fun hg => LO.fa (r := 8) F26_2 (.g hg rfl) rfl) rfl <| VO.lg rfl rfl (GD.f _) (fun hg => LO.ld O3 (.g hg rfl) (cells_keep (sub_cells (off := 8) hSp ⟨_, rfl⟩))) rfl <| VO.lg rfl rfl (GD.f _) (fun hg => LO.eq (.g hg rfl) (.r rfl)) rfl <| VO.lg rfl rfl (GD.f _) (fun hg => LO.mv (.g hg rfl)) rfl <| VO.lg rfl rfl (GD.nt _ _) (fun hg => LO.mv (.r rfl)) rfl <| VO.lg rfl rfl (GD.nt _ _) (fun hg => LO.mv (.r rfl)) rfl <| VO.lg rfl rfl (GD.nt _ _) (fun hg => LO.mv (.r rfl)) rfl <| VO.lg rfl rfl (GD.nt _ _) (fun hg => LO.ixo S55 N3 (fun _ hw => (own_rows hw 2 rfl).some (by first | (rw [List.length_map]; omega) | (simp only [List.length_map, List.length_set]; omega))) (.g hg rfl) (.g hg rfl) rfl (by omega)) rfl <| VO.lg rfl rfl (GD.nt _ _) (fun hg => LO.ld O3 (.g hg rfl) (fun w hw => cells_part (off := 0) (own_cell hw 2 rfl (getD_some (d := (0 : Int)) (by first | omega | (simp only [List.length_set]; omega)))) ⟨_, rfl⟩)) rfl <| VO.lg rfl rfl (GD.nt _ _) (fun hg => LO.ne (.g hg rfl) (.g hg rfl)) rfl <| VO.lg rfl rfl (GD.f _) (fun hg => LO.pkA (.g hg rfl) rfl (and_e hg) (.r rfl)) rfl <| VO.l (LO.pkO (.r rfl) (.r rfl) rfl rfl) rfl <| VO.nil ?_)
              refine VE.seqN ?_
              refine VC.weak (env' := [(2, _), (7, _), (8, _), (9, _), (10, _), (11, _), (13, _), (14, _), (15, _), (16, _), (17, _), (18, _), (19, _), (20, _), (27, _), (28, _), (339, _)]) (.cons rfl (.cons rfl (.cons rfl (.cons rfl (.cons rfl (.cons rfl (.cons rfl (.cons rfl (.cons rfl (.cons rfl (.cons rfl (.cons rfl (.cons rfl (.cons rfl (.cons rfl (.cons rfl (.cons rfl .nil))))))))))))))))) (fun _ h => h) ?_
              refine VC.cond rfl (fun h339 => ?_) (fun h339 => ?_)
              ·
                (exfalso; exact n339 hlk.out hnow.out hzero.out h339)
              ·
                clear h339
                refine VC.skip (VE.seqN ?_)
                refine VC.seq ?_
                refine VC.reg (VO.l (LO.mv (.r rfl)) rfl <| VO.l (LO.mv (.r rfl)) rfl <| VO.l (LO.mv (.r rfl)) rfl <| VO.l (LO.ixo S55 N3 (fun _ hw => (own_rows hw 2 rfl).some (by first | (rw [List.length_map]; omega) | (simp only [List.length_map, List.length_set]; omega))) (.r rfl) (.r rfl) rfl (by omega)) rfl <| VO.l (LO.ld O3 (.r rfl) (fun w hw => cells_part (off := 0) (own_cell hw 2 rfl (getD_some (d := (0 : Int)) (by first | omega | (simp only [List.length_set]; omega)))) ⟨_, rfl⟩)) rfl <| VO.l (LO.eq (.r rfl) (.r rfl)) rfl <| VO.nil ?_)
                refine VE.seqN ?_
                refine VC.cond rfl (fun h345 => ?_) (fun h345 => ?_)
                ·
                  refine VC.reg (VO.l (LO.mv (.r rfl)) rfl <| VO.l (LO.mv (.r rfl)) rfl <| VO.l (LO.mv (.r rfl)) rfl <| VO.l (LO.mv (.r rfl)) rfl <| VO.l (LO.ixs S55 N3 hTs.sm (.r rfl) (.r rfl) rfl (by omega)) rfl <| VO.l (LO.ld O3 (.r rfl) (fun w hw => cells_part (off := 0) ((hTs.at 0 (j := i) (by omega)) w hw) ⟨_, rfl⟩)) rfl <| VO.l (LO.ixo S55 N3 (fun _ hw => (own_rows hw 1 rfl).some (by first | (rw [List.length_map]; omega) | (simp only [List.length_map, List.length_set]; omega))) (.r rfl) (.r rfl) rfl (by omega)) rfl <| VO.h0 <| HO.stm 1 (fun R => [_, R, _, _, _, _, _]) ((y.ts.getD i 0)) (vs := [_]) N3 (.r rfl) (.r rfl) rfl (by omega) rfl rfl rfl rfl rfl (fun _ => rfl) <| VO.nil ?_)
                  refine VE.inN (VE.seqN ?_)
                  refine VC.weak (env' := [(2, _), (7, _), (8, _), (9, _), (10, _), (11, _), (13, _), (14, _), (15, _), (16, _), (17, _), (18, _), (19, _), (20, _), (27, _)]) (.cons rfl (.cons rfl (.cons rfl (.cons rfl (.cons rfl (.cons rfl (.cons rfl (.cons rfl (.cons rfl (.cons rfl (.cons rfl (.cons rfl (.cons rfl (.cons rfl (.cons rfl .nil))))))))))))))) (fun _ h => h) ?_
                  refine VC.reg (VO.l (LO.mv (.r rfl)) rfl <| VO.l (LO.add (.r rfl) (.r rfl) (wi (by omega) (by omega))) rfl <| VO.l (LO.as (.r rfl)) rfl <| VO.nil ?_)
                  refine VE.thenN fun a w ha hw => ⟨(k + 1, hi_.set k (y.ts.getD i 0)), ⟨by dsimp only; omega, by dsimp only; rw [htt.out]; exact high_y hHM (by rw [← hnD.out]; omega) hsb.out.1 (by have z := h345; rw [hlk.out, lsD_snoc] at z; exact z)⟩, (by dsimp only; omega), ha.sub (.cons rfl (.cons rfl (.cons rfl (.cons rfl (.cons rfl (.cons rfl (.cons rfl (.cons rfl (.cons rfl (.cons rfl (.cons rfl (.cons rfl (.cons rfl (.cons rfl (.cons rfl .nil))))))))))))))), (by exact selK (L1 := [_, _, _, _, _, _]) [1, 2, 3, 4, 5, 6] rfl rfl _ hw)⟩
                ·
                  refine VC.skip (VE.inN (VE.seqN ?_))
                  refine VC.reg (VO.l (LO.mv (.r rfl)) rfl <| VO.l (LO.add (.r rfl) (.r rfl) (wi (by omega) (by omega))) rfl <| VO.l (LO.as (.r rfl)) rfl <| VO.nil ?_)
                  refine VE.thenN fun a w ha hw => ⟨(k + 1, hi_), ⟨by dsimp only; omega, high_x hHM (by rw [← hnD.out]; omega) hbd.out.2.2.1 (.inl (Int.le_of_lt hTl.out)) (Int.le_of_lt hTl.out) (by have z := h345; rw [hlk.out, lsD_snoc] at z; exact z)⟩, (by dsimp only; omega), ha.sub (.cons rfl (.cons rfl (.cons rfl (.cons rfl (.cons rfl (.cons rfl (.cons rfl (.cons rfl (.cons rfl (.cons rfl (.cons rfl (.cons rfl (.cons rfl (.cons rfl (.cons rfl .nil))))))))))))))), (by exact selK (L1 := [_, _, _, _, _, _]) [1, 2, 3, 4, 5, 6] rfl rfl _ hw)⟩
            ·
              have hkn : k = rgs.length := by omega
              rw [hkn, hnD.out] at hHM
              refine VC.exit (VE.thenX (VE.thenX (VE.inX (VE.inN (VE.seqN ?_)))))
              refine VC.reg (VO.l (LO.mv (.r rfl)) rfl <| VO.l (LO.add (.r rfl) (.r rfl) (wi (by omega) (by omega))) rfl <| VO.l (LO.as (.r rfl)) rfl <| VO.nil ?_)
              refine VE.thenN fun a w ha hw => ⟨(i + 1, le, nu, pe, be, hi_), ⟨by dsimp only; omega, hN3, by dsimp only; rw [stD_snoc]; exact high_n hHM⟩, (by dsimp only; omega), ha.sub (.cons rfl (.cons rfl (.cons rfl (.cons rfl (.cons rfl (.cons rfl (.cons rfl (.cons rfl (.cons rfl (.cons rfl (.cons rfl (.cons rfl (.cons rfl (.cons rfl .nil)))))))))))))), (by exact selK (L1 := [_, _, _, _, _, _]) [1, 2, 3, 4, 0, 5] rfl rfl _ hw)⟩
        ·
          have hie : i = bs.length := by omega
          rw [hie] at hN
          have hLe : levelsL y.o = le := by rw [levels_sim hS1, hrcN.out, show y.o.hold = drC d from congrArg Sp.hold hS2]; exact (lev_list hN.l1 hN.le).symm
          have hCO := csD_ok (d := d) (lc := lc) hok (by omega) (Nat.le_refl bs.length)
          have hPW : ((stD d lc bs bs.length).map Stp.t).Pairwise (· < ·) := by have z := hS1.inc; rw [hS1.ts] at z; exact z
          have hcnt : y.o.cs.countP (fun c => decide (c.en = never)) = le.countP (fun v => decide (v ≠ 0)) := by have z := open_count hCO; rw [← hcsf, List.countP_map] at z; rw [lev_list hN.l1 hN.le, List.countP_map]; exact z
          have hfinal := num_final hCO hPW hcsf
          refine VC.exit (VE.thenX (VE.thenX (VE.inX (VE.seqN ?_))))
          refine VC.weak (env' := [(9, _), (13, _), (18, _), (19, _)]) (.cons rfl (.cons rfl (.cons rfl (.cons rfl .nil)))) (selK (L1 := [_, _]) [0, 5] rfl rfl) ?_
          exact num_tail y.o le rgs.length _ cz.1 cz.2 w w1 b21 (fun _ _ h => hw1.based h) hOff (by omega) (fun r hr => by have h1 := hS1.wf.lvb r hr; have h2 : y.o.ts.length = bs.length := (by rw [hS1.ts]; simp [stB]); omega) hLe hn1 (by rw [hie]; exact hcsl.out) hcsb hcnt (fun j hj => (hfinal j hj).1) (fun j h0 hj => (hfinal j hj).2 h0)

end Go.Proofs.Ytdjflomhaljljaa
