/-
  The last part of IssueCounted.
  IssueCounted is walked.
  What a reading says of the arguments of the laws about offices.
  Readings of drafts, clouds by numbers, and beats.
  Readings of notes by numbers.
-/
import Derived.Test.YtdjflomhaljljaaKCNT08

namespace Go.Proofs.Ytdjflomhaljljaa
open Go.SL Go.Proofs Go.Cast
set_option linter.unusedVariables false

theorem S120 : IsSlice Try.prog 120 122 := Try.underlying120


theorem n358 {n : Nat} {x r : Tal} {t : List Int} (h : TalOk n x r) (k : (((((((¬ t = t ∨ ¬ x.h + x.m + x.a + x.q + x.o = (n : Int)) ∨ x.lo < 0) ∨ x.hi < x.lo) ∨ x.o < r.o) ∨ r.h < x.h) ∨ r.m < x.m) ∨ r.a < x.a) ∨ r.q < x.q) : False := by
  obtain ⟨_, h1, h2, h3, h4, h5, h6, h7⟩ := h
  rcases k with (((((((k | k) | k) | k) | k) | k) | k) | k) | k
  · exact k rfl
  all_goals omega
theorem runE_len {H : Int} {st : List Stp} {s : Stp} {cs : List Cs} : ∀ n, (runE H st s cs n).length ≤ n
  | 0 => Nat.le_refl _
  | n + 1 => by
    have := runE_len (H := H) (st := st) (s := s) (cs := cs) n
    unfold runE stepE
    split
    · omega
    · rw [List.length_append, List.length_singleton]; omega
theorem evP_len {s : Sp} {l : List EnP} : ∀ n, (evP s l n).length ≤ s.regs.length * n
  | 0 => Nat.zero_le _
  | n + 1 => by
    have h1 := evP_len (s := s) (l := l) n
    have h2 : (enEv s (l.take n) (l.getD n zEn)).length ≤ s.regs.length := by
      unfold enEv
      split
      · exact runE_len _
      · exact Nat.zero_le _
    show (evP s l n ++ enEv s (l.take n) (l.getD n zEn)).length ≤ _
    rw [List.length_append, Nat.mul_succ]; omega
set_option maxRecDepth 20000 in
set_option maxHeartbeats 16000000 in
theorem counted_tail (d : DrM) (lc : List Cloud) (bs : List BtM) (ns : List SgM) (rgs : List RG) (pg : Option Addr) (cg : Nat) (pb pn pf : Option Addr) (cb cn cf : Nat) (fl : List Ev) (oa ob oc : OfM) (sb : Nat) (w w1 : World) (hbs : ∀ (L : List Res) (w2 : World), St (Go.SL.bs w1) L w2 → St (Go.SL.bs w) [] w2) (hd : d.ok) (hX : rgs.map RG.r = drRegs d 3) (hsp : specE (drSp d) = 0) (hN : bs.length ≤ 8 ∧ ns.length ≤ 8) (hb : ∀ b, b ∈ bs → b.ok) (hxs : ∀ x, x ∈ ns → x.ok) (hcl : ClsOk lc) (hA : PlB (drSp d) (laE bs lc ns (fun z => z)) oa (laE bs lc ns (fun z => z)).length) (hB : PlB (drSp d) (lbE bs lc ns (fun z => z)) ob (lbE bs lc ns (fun z => z)).length) (hC : PlB (drSp d) (laE bs lc ns (fun z => z.tdiv 2)) oc (laE bs lc ns (fun z => z.tdiv 2)).length) (hOa : Has w1 (offR oa)) (hOb : Has w1 (offR ob)) (hOc : Has w1 (offR oc)) (hSp : Cells w1 ⟨sb, 0, none⟩ [.int .i64 0, .int .i64 0, .int .i64 1000, .int .i64 5, .int .i64 4, .slice pg rgs.length cg, .int .i64 (drA d), .int .i64 (drB d), .int .i64 (drC d)]) (hRg : Regs w1 pg rgs) (hFl : RO 7 evC w1 pf fl) (hfl : fl = (evB (drSp d) lc bs bs.length).flatten) :
  VC Try.prog none (Go.SL.bs w1) Try.f11.ntmps [] [(2, .slice pb bs.length cb), (3, .slice pn ns.length cn), (9, .pointer (some ⟨sb, 0, none⟩)), (11, ptrN oa.b), (15, ptrN ob.b), (17, ptrN oc.b), (21, .slice pf fl.length cf)] [] (bodyAt [1,1,1,1,1,1,1,1,1,1,1,1] Try.f11) (FP Try.prog Try.f11 (fun e w' => e = .returned (.bool true) ∧ St (Go.SL.bs w) [] w')) := by
  have hrl : rgs.length = (drRegs d 3).length := by rw [← hX, List.length_map]
  have hrl3 := drRegs_len (d := d) 3
  have hla := la_len (bs := bs) (l := lc) (ns := ns) (f := fun z => z)
  have hlb := lb_len (bs := bs) (l := lc) (ns := ns) (f := fun z => z)
  have hlc2 := la_len (bs := bs) (l := lc) (ns := ns) (f := fun z => z.tdiv 2)
  obtain ⟨PA, hPA⟩ : ∃ P, P = (talsP (drSp d) (laE bs lc ns (fun z => z))) := ⟨_, rfl⟩
  obtain ⟨PC, hPC⟩ : ∃ P, P = (talsP (drSp d) (laE bs lc ns (fun z => z.tdiv 2))) := ⟨_, rfl⟩
  have hPAl : PA.length = rgs.length := by rw [hPA, talsP_len, hrl]; rfl
  have hPCl : PC.length = rgs.length := by rw [hPC, talsP_len, hrl]; rfl
  have hall := la_all (f := fun z => z) (s := drSp d) hN hb hxs (fun x hx => (hxs x hx).2.2) rfl hcl
  obtain ⟨LA, hLA⟩ : ∃ l, l = laE bs lc ns (fun z => z) := ⟨_, rfl⟩
  rw [← hLA] at hA hla hall hPA
  have htk : LA.take LA.length = LA := List.take_length ..
  have hTa : talsP (drSp d) (LA.take LA.length) = PA := by rw [htk, hPA]
  have hTb : talsP (drSp d) ((lbE bs lc ns (fun z => z)).take (lbE bs lc ns (fun z => z)).length) = PA := by rw [List.take_length, talsP_lb, hPA, hLA]
  have hTc : talsP (drSp d) ((laE bs lc ns (fun z => z.tdiv 2)).take (laE bs lc ns (fun z => z.tdiv 2)).length) = PC := by rw [List.take_length, hPC]
  obtain ⟨CX, hCX⟩ : ∃ c, c = csF (drSp d).hold (drSp d).regs.length (stP (drSp d) LA) := ⟨_, rfl⟩
  have hCXl : CX.length ≤ 1000 := by have h1 := hA.a.csl; have h2 := congrArg List.length hA.a.cs; rw [htk, ← hCX, List.length_map] at h2; omega
  have hLVl : ((List.range (drSp d).regs.length).map fun k => lvS (drSp d).hold k (stP (drSp d) LA)).length = rgs.length := by rw [List.length_map, List.length_range, hrl]; rfl
  have hflE : evP (drSp d) LA LA.length = fl := by rw [hLA, hfl]; exact evP_la
  have hfll : fl.length ≤ 1000000 := by have h1 := evP_len (s := drSp d) (l := LA) LA.length; rw [hflE] at h1; have h2 : (drSp d).regs.length = rgs.length := hrl.symm; rw [h2, hla] at h1; have h3 := Nat.mul_le_mul (show rgs.length ≤ 3 by omega) (show bs.length + ns.length ≤ 16 by omega); omega
  show VC _ _ _ _ _ _ _ (.seq _ _) _
  refine VC.seq ?_
  refine VC.reg (VO.l (LO.mv (.r rfl)) rfl<|VO.h rfl<|HO.callx (xs := [_]) (vs := [_]) C41 ⟨(.r rfl), trivial⟩ (fun w hw => Score_p (P := PA) hA (by omega) hTa (hOa.keep hw)) fun xa _ => VO.l (LO.mv (.r rfl)) rfl<|VO.h rfl<|HO.callx (xs := [_]) (vs := [_]) C41 ⟨(.r rfl), trivial⟩ (fun w hw => Score_p (P := PA) hB (by omega) hTb (hOb.keep hw)) fun xb _ => VO.l (LO.mv (.r rfl)) rfl<|VO.h rfl<|HO.callx (xs := [_]) (vs := [_]) C41 ⟨(.r rfl), trivial⟩ (fun w hw => Score_p (P := PC) hC (by omega) hTc (hOc.keep hw)) fun xc _ => VO.h rfl<|HO.lo (LO.as (.r rfl))<|VO.h rfl<|HO.lo (LO.as (.r rfl))<|VO.h rfl<|HO.lo (LO.as (.r rfl))<|VO.nil ?_)
  refine VE.seqN ?_
  refine VC.seq ?_
  refine VC.seq ?_
  refine VC.reg (VO.l (LO.mv (.r rfl)) rfl<|VO.l (LO.len S109 (.r rfl) rfl) rfl<|VO.l (LO.fa (r := 5) F28_1 (.r rfl) rfl) rfl<|VO.l (LO.ld O24 (.r rfl) (cells_keep (sub_cells (off := 5) hSp ⟨_, rfl⟩))) rfl<|VO.l (LO.len S24 (.r rfl) rfl) rfl<|VO.l (LO.ne (.r rfl) (.r rfl)) rfl<|VO.l (LO.mv (.r rfl)) rfl<|VO.lg rfl rfl (GD.f _) (fun hg => LO.mv (.r rfl)) rfl<|VO.lg rfl rfl (GD.f _) (fun hg => LO.len S109 (.g hg rfl) rfl) rfl<|VO.lg rfl rfl (GD.f _) (fun hg => LO.mv (.r rfl)) rfl<|VO.lg rfl rfl (GD.f _) (fun hg => LO.len S109 (.g hg rfl) rfl) rfl<|VO.lg rfl rfl (GD.f _) (fun hg => LO.ne (.g hg rfl) (.g hg rfl)) rfl<|VO.l (LO.pkO (.r rfl) (.r rfl) rfl rfl) rfl<|VO.l (LO.mv (.r rfl)) rfl<|VO.lg rfl rfl (GD.f _) (fun hg => LO.mv (.r rfl)) rfl<|VO.lg rfl rfl (GD.f _) (fun hg => LO.len S109 (.g hg rfl) rfl) rfl<|VO.lg rfl rfl (GD.f _) (fun hg => LO.mv (.r rfl)) rfl<|VO.lg rfl rfl (GD.f _) (fun hg => LO.len S109 (.g hg rfl) rfl) rfl<|VO.lg rfl rfl (GD.f _) (fun hg => LO.ne (.g hg rfl) (.g hg rfl)) rfl<|VO.l (LO.pkO (.r rfl) (.r rfl) rfl rfl) rfl<|VO.nil ?_)
  refine VE.seqN ?_
  refine VC.weak (env' := [(2,_), (3,_), (9,_), (11,_), (21,_), (29,_), (30,_), (31,_), (220,_)]) (.cons rfl (.cons rfl (.cons rfl (.cons rfl (.cons rfl (.cons rfl (.cons rfl (.cons rfl (.cons rfl .nil))))))))) (fun _ h => h) ?_
  refine VC.cond rfl (fun h220 => ?_) (fun h220 => ?_)
  ·
    (exfalso; omega)
  ·
    refine VC.skip (VE.seqN ?_)
    refine VC.seq ?_
    refine VC.seq ?_
    refine VC.reg (VO.l (LO.as (.r rfl)) rfl<|VO.nil ?_)
    refine VE.seqN ?_
    refine VC.block ?_
    refine VC.loopK (α := Nat) 0 (fun gx => [(32, .int .i64 (gx : Nat))]) [(2,_), (3,_), (9,_), (11,_), (21,_), (29,_), (30,_), (31,_)] (fun gx => []) (fun gx => gx ≤ PA.length) (fun gx => PA.length - gx) 0 (by exact Nat.zero_le _) (.cons rfl (.cons rfl (.cons rfl (.cons rfl (.cons rfl (.cons rfl (.cons rfl (.cons rfl (.cons rfl .nil))))))))) (fun _ h => h) ?_
    rintro i hi
    refine VC.seq ?_
    refine VC.seq ?_
    refine VC.reg (VO.l (LO.mv (.r rfl)) rfl<|VO.l (LO.mv (.r rfl)) rfl<|VO.l (LO.len S109 (.r rfl) rfl) rfl<|VO.l (LO.lt (.r rfl) (.r rfl)) rfl<|VO.nil ?_)
    refine VE.seqN ?_
    refine VC.cond rfl (fun h224 => ?_) (fun h224 => ?_)
    ·
      have hT := tal_ok (bs := bs) (l := lc) (ns := ns) (f := fun z => z) (g := fun z => z.tdiv 2) (s := drSp d) (i := i) (by have h1 : (drSp d).regs.length = rgs.length := hrl.symm; omega) (dr_pixd (d := d) (k := i) (by omega)) (fun x hx => (half_wd (hxs x hx).2.2).2)
      rw [← hLA, ← hPA, ← hPC] at hT
      have hTb := hT.1
      refine VC.skip (VE.seqN ?_)
      refine VC.seq ?_
      refine VC.block ?_
      refine VC.seq ?_
      refine VC.draw mixed (LL.l (LO.mv (.r rfl)) rfl<|LL.l (LO.mv (.r rfl)) rfl<|LL.l (LO.ixo S109 N112 (fun _ hw => (own_rows hw 2 rfl).some (by rw [List.length_map])) (.r rfl) (.r rfl) rfl (by omega)) rfl<|LL.l (LO.lda (vs := [_,_,_,_,_,_,_]) A112 (.r rfl) (fun w hw => cells_part (off := 0) (own_cell hw 2 rfl (getD_some (d := zTal) (by omega))) ⟨_, rfl⟩) rfl) rfl<|LL.l (LO.mv (.r rfl)) rfl<|LL.l (LO.mv (.r rfl)) rfl<|LL.l (LO.ixo S109 N112 (fun _ hw => (own_rows hw 1 rfl).some (by rw [List.length_map])) (.r rfl) (.r rfl) rfl (by omega)) rfl<|LL.l (LO.lda (vs := [_,_,_,_,_,_,_]) A112 (.r rfl) (fun w hw => cells_part (off := 0) (own_cell hw 1 rfl (getD_some (d := zTal) (by omega))) ⟨_, rfl⟩) rfl) rfl<|LL.l (LO.neA («as» := [_,_,_,_,_,_,_]) (bs := [_,_,_,_,_,_,_]) EA112 (.r rfl) (.r rfl) rfl rfl) rfl<|LL.l (LO.mv (.r rfl)) rfl<|LL.lg rfl rfl (GD.f _) (fun hg => LO.mv (.r rfl)) rfl<|LL.lg rfl rfl (GD.f _) (fun hg => LO.mv (.r rfl)) rfl<|LL.lg rfl rfl (GD.f _) (fun hg => LO.ixo S109 N112 (fun _ hw => (own_rows hw 2 rfl).some (by rw [List.length_map])) (.g hg rfl) (.g hg rfl) rfl (by omega)) rfl<|LL.lg rfl rfl (GD.f _) (fun hg => LO.fa F112_0 (.g hg rfl) rfl) rfl<|LL.lg rfl rfl (GD.f _) (fun hg => LO.ld O3 (.g hg rfl) (fun w hw => cells_part (off := 0) (own_cell hw 2 rfl (getD_some (d := zTal) (by omega))) ⟨_, rfl⟩)) rfl<|LL.lg rfl rfl (GD.f _) (fun hg => LO.mv (.r rfl)) rfl<|LL.lg rfl rfl (GD.f _) (fun hg => LO.mv (.r rfl)) rfl<|LL.lg rfl rfl (GD.f _) (fun hg => LO.ixo S109 N112 (fun _ hw => (own_rows hw 2 rfl).some (by rw [List.length_map])) (.g hg rfl) (.g hg rfl) rfl (by omega)) rfl<|LL.lg rfl rfl (GD.f _) (fun hg => LO.fa F112_1 (.g hg rfl) rfl) rfl<|LL.lg rfl rfl (GD.f _) (fun hg => LO.ld O3 (.g hg rfl) (fun w hw => cells_part (off := 1) (own_cell hw 2 rfl (getD_some (d := zTal) (by omega))) ⟨_, rfl⟩)) rfl<|LL.lg rfl rfl (GD.f _) (fun hg => LO.add (.g hg rfl) (.g hg rfl) (wi (by omega) (by omega))) rfl<|LL.lg rfl rfl (GD.f _) (fun hg => LO.mv (.r rfl)) rfl<|LL.lg rfl rfl (GD.f _) (fun hg => LO.mv (.r rfl)) rfl<|LL.lg rfl rfl (GD.f _) (fun hg => LO.ixo S109 N112 (fun _ hw => (own_rows hw 2 rfl).some (by rw [List.length_map])) (.g hg rfl) (.g hg rfl) rfl (by omega)) rfl<|LL.lg rfl rfl (GD.f _) (fun hg => LO.fa F112_2 (.g hg rfl) rfl) rfl<|LL.lg rfl rfl (GD.f _) (fun hg => LO.ld O3 (.g hg rfl) (fun w hw => cells_part (off := 2) (own_cell hw 2 rfl (getD_some (d := zTal) (by omega))) ⟨_, rfl⟩)) rfl<|LL.lg rfl rfl (GD.f _) (fun hg => LO.add (.g hg rfl) (.g hg rfl) (wi (by omega) (by omega))) rfl<|LL.lg rfl rfl (GD.f _) (fun hg => LO.mv (.r rfl)) rfl<|LL.lg rfl rfl (GD.f _) (fun hg => LO.mv (.r rfl)) rfl<|LL.lg rfl rfl (GD.f _) (fun hg => LO.ixo S109 N112 (fun _ hw => (own_rows hw 2 rfl).some (by rw [List.length_map])) (.g hg rfl) (.g hg rfl) rfl (by omega)) rfl<|LL.lg rfl rfl (GD.f _) (fun hg => LO.fa F112_3 (.g hg rfl) rfl) rfl<|LL.lg rfl rfl (GD.f _) (fun hg => LO.ld O3 (.g hg rfl) (fun w hw => cells_part (off := 3) (own_cell hw 2 rfl (getD_some (d := zTal) (by omega))) ⟨_, rfl⟩)) rfl<|LL.lg rfl rfl (GD.f _) (fun hg => LO.add (.g hg rfl) (.g hg rfl) (wi (by omega) (by omega))) rfl<|LL.lg rfl rfl (GD.f _) (fun hg => LO.mv (.r rfl)) rfl<|LL.lg rfl rfl (GD.f _) (fun hg => LO.mv (.r rfl)) rfl<|LL.lg rfl rfl (GD.f _) (fun hg => LO.ixo S109 N112 (fun _ hw => (own_rows hw 2 rfl).some (by rw [List.length_map])) (.g hg rfl) (.g hg rfl) rfl (by omega)) rfl<|LL.lg rfl rfl (GD.f _) (fun hg => LO.fa F112_4 (.g hg rfl) rfl) rfl<|LL.lg rfl rfl (GD.f _) (fun hg => LO.ld O3 (.g hg rfl) (fun w hw => cells_part (off := 4) (own_cell hw 2 rfl (getD_some (d := zTal) (by omega))) ⟨_, rfl⟩)) rfl<|LL.lg rfl rfl (GD.f _) (fun hg => LO.add (.g hg rfl) (.g hg rfl) (wi (by omega) (by omega))) rfl<|LL.lg rfl rfl (GD.f _) (fun hg => LO.mv (.r rfl)) rfl<|LL.lg rfl rfl (GD.f _) (fun hg => LO.len S120 (.g hg rfl) rfl) rfl<|LL.lg rfl rfl (GD.f _) (fun hg => LO.ne (.g hg rfl) (.g hg rfl)) rfl<|LL.l (LO.pkO (.r rfl) (.r rfl) rfl rfl) rfl<|LL.l (LO.mv (.r rfl)) rfl<|LL.lg rfl rfl (GD.f _) (fun hg => LO.mv (.r rfl)) rfl<|LL.lg rfl rfl (GD.f _) (fun hg => LO.mv (.r rfl)) rfl<|LL.lg rfl rfl (GD.f _) (fun hg => LO.ixo S109 N112 (fun _ hw => (own_rows hw 2 rfl).some (by rw [List.length_map])) (.g hg rfl) (.g hg rfl) rfl (by omega)) rfl<|LL.lg rfl rfl (GD.f _) (fun hg => LO.fa F112_5 (.g hg rfl) rfl) rfl<|LL.lg rfl rfl (GD.f _) (fun hg => LO.fa F76_0 (.g hg rfl) rfl) rfl<|LL.lg rfl rfl (GD.f _) (fun hg => LO.ld O3 (.g hg rfl) (fun w hw => cells_part (off := 5) (own_cell hw 2 rfl (getD_some (d := zTal) (by omega))) ⟨_, rfl⟩)) rfl<|LL.lg rfl rfl (GD.f _) (fun hg => LO.lt (.g hg rfl) (.r rfl)) rfl<|LL.l (LO.pkO (.r rfl) (.r rfl) rfl rfl) rfl<|LL.l (LO.mv (.r rfl)) rfl<|LL.lg rfl rfl (GD.f _) (fun hg => LO.mv (.r rfl)) rfl<|LL.lg rfl rfl (GD.f _) (fun hg => LO.mv (.r rfl)) rfl<|LL.lg rfl rfl (GD.f _) (fun hg => LO.ixo S109 N112 (fun _ hw => (own_rows hw 2 rfl).some (by rw [List.length_map])) (.g hg rfl) (.g hg rfl) rfl (by omega)) rfl<|LL.lg rfl rfl (GD.f _) (fun hg => LO.fa F112_5 (.g hg rfl) rfl) rfl<|LL.lg rfl rfl (GD.f _) (fun hg => LO.fa F76_0 (.g hg rfl) rfl) rfl<|LL.lg rfl rfl (GD.f _) (fun hg => LO.ld O3 (.g hg rfl) (fun w hw => cells_part (off := 5) (own_cell hw 2 rfl (getD_some (d := zTal) (by omega))) ⟨_, rfl⟩)) rfl<|LL.lg rfl rfl (GD.f _) (fun hg => LO.mv (.r rfl)) rfl<|LL.lg rfl rfl (GD.f _) (fun hg => LO.mv (.r rfl)) rfl<|LL.lg rfl rfl (GD.f _) (fun hg => LO.ixo S109 N112 (fun _ hw => (own_rows hw 2 rfl).some (by rw [List.length_map])) (.g hg rfl) (.g hg rfl) rfl (by omega)) rfl<|LL.lg rfl rfl (GD.f _) (fun hg => LO.fa F112_5 (.g hg rfl) rfl) rfl<|LL.lg rfl rfl (GD.f _) (fun hg => LO.fa F76_1 (.g hg rfl) rfl) rfl<|LL.lg rfl rfl (GD.f _) (fun hg => LO.ld O3 (.g hg rfl) (fun w hw => cells_part (off := 6) (own_cell hw 2 rfl (getD_some (d := zTal) (by omega))) ⟨_, rfl⟩)) rfl<|LL.lg rfl rfl (GD.f _) (fun hg => LO.gt (.g hg rfl) (.g hg rfl)) rfl<|LL.l (LO.pkO (.r rfl) (.r rfl) rfl rfl) rfl<|LL.l (LO.mv (.r rfl)) rfl<|LL.lg rfl rfl (GD.f _) (fun hg => LO.mv (.r rfl)) rfl<|LL.lg rfl rfl (GD.f _) (fun hg => LO.mv (.r rfl)) rfl<|LL.lg rfl rfl (GD.f _) (fun hg => LO.ixo S109 N112 (fun _ hw => (own_rows hw 0 rfl).some (by rw [List.length_map])) (.g hg rfl) (.g hg rfl) rfl (by omega)) rfl<|LL.lg rfl rfl (GD.f _) (fun hg => LO.fa F112_4 (.g hg rfl) rfl) rfl<|LL.lg rfl rfl (GD.f _) (fun hg => LO.ld O3 (.g hg rfl) (fun w hw => cells_part (off := 4) (own_cell hw 0 rfl (getD_some (d := zTal) (by omega))) ⟨_, rfl⟩)) rfl<|LL.lg rfl rfl (GD.f _) (fun hg => LO.mv (.r rfl)) rfl<|LL.lg rfl rfl (GD.f _) (fun hg => LO.mv (.r rfl)) rfl<|LL.lg rfl rfl (GD.f _) (fun hg => LO.ixo S109 N112 (fun _ hw => (own_rows hw 2 rfl).some (by rw [List.length_map])) (.g hg rfl) (.g hg rfl) rfl (by omega)) rfl<|LL.lg rfl rfl (GD.f _) (fun hg => LO.fa F112_4 (.g hg rfl) rfl) rfl<|LL.lg rfl rfl (GD.f _) (fun hg => LO.ld O3 (.g hg rfl) (fun w hw => cells_part (off := 4) (own_cell hw 2 rfl (getD_some (d := zTal) (by omega))) ⟨_, rfl⟩)) rfl<|LL.lg rfl rfl (GD.f _) (fun hg => LO.gt (.g hg rfl) (.g hg rfl)) rfl<|LL.l (LO.pkO (.r rfl) (.r rfl) rfl rfl) rfl<|LL.l (LO.mv (.r rfl)) rfl<|LL.lg rfl rfl (GD.f _) (fun hg => LO.mv (.r rfl)) rfl<|LL.lg rfl rfl (GD.f _) (fun hg => LO.mv (.r rfl)) rfl<|LL.lg rfl rfl (GD.f _) (fun hg => LO.ixo S109 N112 (fun _ hw => (own_rows hw 0 rfl).some (by rw [List.length_map])) (.g hg rfl) (.g hg rfl) rfl (by omega)) rfl<|LL.lg rfl rfl (GD.f _) (fun hg => LO.fa F112_0 (.g hg rfl) rfl) rfl<|LL.lg rfl rfl (GD.f _) (fun hg => LO.ld O3 (.g hg rfl) (fun w hw => cells_part (off := 0) (own_cell hw 0 rfl (getD_some (d := zTal) (by omega))) ⟨_, rfl⟩)) rfl<|LL.lg rfl rfl (GD.f _) (fun hg => LO.mv (.r rfl)) rfl<|LL.lg rfl rfl (GD.f _) (fun hg => LO.mv (.r rfl)) rfl<|LL.lg rfl rfl (GD.f _) (fun hg => LO.ixo S109 N112 (fun _ hw => (own_rows hw 2 rfl).some (by rw [List.length_map])) (.g hg rfl) (.g hg rfl) rfl (by omega)) rfl<|LL.lg rfl rfl (GD.f _) (fun hg => LO.fa F112_0 (.g hg rfl) rfl) rfl<|LL.lg rfl rfl (GD.f _) (fun hg => LO.ld O3 (.g hg rfl) (fun w hw => cells_part (off := 0) (own_cell hw 2 rfl (getD_some (d := zTal) (by omega))) ⟨_, rfl⟩)) rfl<|LL.lg rfl rfl (GD.f _) (fun hg => LO.lt (.g hg rfl) (.g hg rfl)) rfl<|LL.l (LO.pkO (.r rfl) (.r rfl) rfl rfl) rfl<|LL.l (LO.mv (.r rfl)) rfl<|LL.lg rfl rfl (GD.f _) (fun hg => LO.mv (.r rfl)) rfl<|LL.lg rfl rfl (GD.f _) (fun hg => LO.mv (.r rfl)) rfl<|LL.lg rfl rfl (GD.f _) (fun hg => LO.ixo S109 N112 (fun _ hw => (own_rows hw 0 rfl).some (by rw [List.length_map])) (.g hg rfl) (.g hg rfl) rfl (by omega)) rfl<|LL.lg rfl rfl (GD.f _) (fun hg => LO.fa F112_1 (.g hg rfl) rfl) rfl<|LL.lg rfl rfl (GD.f _) (fun hg => LO.ld O3 (.g hg rfl) (fun w hw => cells_part (off := 1) (own_cell hw 0 rfl (getD_some (d := zTal) (by omega))) ⟨_, rfl⟩)) rfl<|LL.lg rfl rfl (GD.f _) (fun hg => LO.mv (.r rfl)) rfl<|LL.lg rfl rfl (GD.f _) (fun hg => LO.mv (.r rfl)) rfl<|LL.lg rfl rfl (GD.f _) (fun hg => LO.ixo S109 N112 (fun _ hw => (own_rows hw 2 rfl).some (by rw [List.length_map])) (.g hg rfl) (.g hg rfl) rfl (by omega)) rfl<|LL.lg rfl rfl (GD.f _) (fun hg => LO.fa F112_1 (.g hg rfl) rfl) rfl<|LL.lg rfl rfl (GD.f _) (fun hg => LO.ld O3 (.g hg rfl) (fun w hw => cells_part (off := 1) (own_cell hw 2 rfl (getD_some (d := zTal) (by omega))) ⟨_, rfl⟩)) rfl<|LL.lg rfl rfl (GD.f _) (fun hg => LO.lt (.g hg rfl) (.g hg rfl)) rfl<|LL.l (LO.pkO (.r rfl) (.r rfl) rfl rfl) rfl<|LL.l (LO.mv (.r rfl)) rfl<|LL.lg rfl rfl (GD.f _) (fun hg => LO.mv (.r rfl)) rfl<|LL.lg rfl rfl (GD.f _) (fun hg => LO.mv (.r rfl)) rfl<|LL.lg rfl rfl (GD.f _) (fun hg => LO.ixo S109 N112 (fun _ hw => (own_rows hw 0 rfl).some (by rw [List.length_map])) (.g hg rfl) (.g hg rfl) rfl (by omega)) rfl<|LL.lg rfl rfl (GD.f _) (fun hg => LO.fa F112_2 (.g hg rfl) rfl) rfl<|LL.lg rfl rfl (GD.f _) (fun hg => LO.ld O3 (.g hg rfl) (fun w hw => cells_part (off := 2) (own_cell hw 0 rfl (getD_some (d := zTal) (by omega))) ⟨_, rfl⟩)) rfl<|LL.lg rfl rfl (GD.f _) (fun hg => LO.mv (.r rfl)) rfl<|LL.lg rfl rfl (GD.f _) (fun hg => LO.mv (.r rfl)) rfl<|LL.lg rfl rfl (GD.f _) (fun hg => LO.ixo S109 N112 (fun _ hw => (own_rows hw 2 rfl).some (by rw [List.length_map])) (.g hg rfl) (.g hg rfl) rfl (by omega)) rfl<|LL.lg rfl rfl (GD.f _) (fun hg => LO.fa F112_2 (.g hg rfl) rfl) rfl<|LL.lg rfl rfl (GD.f _) (fun hg => LO.ld O3 (.g hg rfl) (fun w hw => cells_part (off := 2) (own_cell hw 2 rfl (getD_some (d := zTal) (by omega))) ⟨_, rfl⟩)) rfl<|LL.lg rfl rfl (GD.f _) (fun hg => LO.lt (.g hg rfl) (.g hg rfl)) rfl<|LL.l (LO.pkO (.r rfl) (.r rfl) rfl rfl) rfl<|LL.l (LO.mv (.r rfl)) rfl<|LL.lg rfl rfl (GD.f _) (fun hg => LO.mv (.r rfl)) rfl<|LL.lg rfl rfl (GD.f _) (fun hg => LO.mv (.r rfl)) rfl<|LL.lg rfl rfl (GD.f _) (fun hg => LO.ixo S109 N112 (fun _ hw => (own_rows hw 0 rfl).some (by rw [List.length_map])) (.g hg rfl) (.g hg rfl) rfl (by omega)) rfl<|LL.lg rfl rfl (GD.f _) (fun hg => LO.fa F112_3 (.g hg rfl) rfl) rfl<|LL.lg rfl rfl (GD.f _) (fun hg => LO.ld O3 (.g hg rfl) (fun w hw => cells_part (off := 3) (own_cell hw 0 rfl (getD_some (d := zTal) (by omega))) ⟨_, rfl⟩)) rfl<|LL.lg rfl rfl (GD.f _) (fun hg => LO.mv (.r rfl)) rfl<|LL.lg rfl rfl (GD.f _) (fun hg => LO.mv (.r rfl)) rfl<|LL.lg rfl rfl (GD.f _) (fun hg => LO.ixo S109 N112 (fun _ hw => (own_rows hw 2 rfl).some (by rw [List.length_map])) (.g hg rfl) (.g hg rfl) rfl (by omega)) rfl<|LL.lg rfl rfl (GD.f _) (fun hg => LO.fa F112_3 (.g hg rfl) rfl) rfl<|LL.lg rfl rfl (GD.f _) (fun hg => LO.ld O3 (.g hg rfl) (fun w hw => cells_part (off := 3) (own_cell hw 2 rfl (getD_some (d := zTal) (by omega))) ⟨_, rfl⟩)) rfl<|LL.lg rfl rfl (GD.f _) (fun hg => LO.lt (.g hg rfl) (.g hg rfl)) rfl<|LL.l (LO.pkO (.r rfl) (.r rfl) rfl rfl) rfl<|LL.nil) (by kernel_rfl) ?_
      refine VE.seqN ?_
      refine VC.weak (env' := [(2,_), (3,_), (9,_), (11,_), (21,_), (29,_), (30,_), (31,_), (32,_), (358,_)]) (.cons rfl (.cons rfl (.cons rfl (.cons rfl (.cons rfl (.cons rfl (.cons rfl (.cons rfl (.cons rfl (.cons rfl .nil)))))))))) (fun _ h => h) ?_
      refine VC.cond rfl (fun h358 => ?_) (fun h358 => ?_)
      ·
        (exfalso; exact n358 hT h358)
      ·
        refine VC.skip (VE.inN (VE.seqN ?_))
        refine VC.reg (VO.l (LO.mv (.r rfl)) rfl<|VO.l (LO.add (.r rfl) (.r rfl) (wi (by omega) (by omega))) rfl<|VO.l (LO.as (.r rfl)) rfl<|VO.nil ?_)
        refine VE.thenN fun a w ha hw => ⟨i + 1, (by omega), (by omega), ha.sub (.cons rfl (.cons rfl (.cons rfl (.cons rfl (.cons rfl (.cons rfl (.cons rfl (.cons rfl (.cons rfl .nil))))))))), hw⟩
    ·
      refine VC.exit (VE.thenX (VE.thenX (VE.inX (VE.seqN ?_))))
      refine VC.seq ?_
      refine VC.reg (VO.l (LO.mv (.r rfl)) rfl<|VO.h rfl<|HO.callx (xs := [_]) (vs := [_]) C32 ⟨(.r rfl), trivial⟩ (fun w hw => by have z := Log_p hA (by omega) (hOa.keep hw); rw [htk, show LA.map EnP.canon = LA by rw [hLA]; exact canon_la] at z; exact z) fun xg hxg => VO.h rfl<|HO.lo (LO.as (.r rfl))<|VO.nil ?_)
      refine VE.seqN ?_
      refine VC.seq ?_
      have hxgl : xg.2.length = LA.length := by rw [← List.length_map (f := EnM.p), hxg]
      refine VC.reg (VO.l (LO.lda (vs := [_,_,_,_,_,_,_,_,_]) A28 (.r rfl) (cells_keep (sub_cells (off := 0) hSp ⟨_, rfl⟩)) rfl) rfl<|VO.l (LO.mv (.r rfl)) rfl<|VO.h rfl<|HO.callx (xs := [_,_]) (vs := [_,_]) C33 ⟨(.r rfl), (.r rfl), trivial⟩ (fun w hw => Play_p gD rgs pg cg (drA d) (drB d) (drC d) (drSp d) xg.2 xg.1.1 xg.1.2 LA fl w hxg hflE (by unfold drSp; rw [hX]) hsp (by omega) (hRg.keep hw) (by omega) (log_of hA (by rw [hxg, htk, hLA]; exact canon_la.symm) (St.inv hw 0 _ rfl) (St.inv hw 1 _ rfl)) hall) fun yp hyp => VO.h rfl<|HO.lo (LO.mv (.r rfl))<|VO.h rfl<|HO.lo (LO.ex (.r rfl) rfl)<|VO.h rfl<|HO.lo (LO.ex (.r rfl) rfl)<|VO.h rfl<|HO.lo (LO.ex (.r rfl) rfl)<|VO.h rfl<|HO.lo (LO.as (.r rfl))<|VO.h rfl<|HO.lo (LO.as (.r rfl))<|VO.h rfl<|HO.lo (LO.as (.r rfl))<|VO.nil ?_)
      refine VE.seqN ?_
      refine VC.seq ?_
      refine VC.seq ?_
      obtain ⟨yo, ye, yq, yc⟩ := yp
      obtain ⟨hyp1, hyp2⟩ := hyp
      dsimp only at hyp1 hyp2 ⊢
      have hyp3 := hyp2.symm
      subst hyp3
      have hgl : (xg.2.length : Int) = (bs.length : Int) + (ns.length : Int) := by omega
      refine VC.reg (VO.l (LO.mv (.r rfl)) rfl<|VO.l (LO.ne (.r rfl) (.r rfl)) rfl<|VO.l (LO.mv (.r rfl)) rfl<|VO.lg rfl rfl (GD.f _) (fun hg => LO.mv (.r rfl)) rfl<|VO.lg rfl rfl (GD.f _) (fun hg => LO.eqPn ⟨_, Try.underlying53⟩ (.g hg rfl) (.r rfl)) rfl<|VO.l (LO.pkO (.r rfl) (.r rfl) rfl rfl) rfl<|VO.l (LO.mv (.r rfl)) rfl<|VO.lg rfl rfl (GD.f _) (fun hg => LO.mv (.r rfl)) rfl<|VO.lg rfl rfl (GD.f _) (fun hg => LO.len S95 (.g hg rfl) rfl) rfl<|VO.lg rfl rfl (GD.f _) (fun hg => LO.mv (.r rfl)) rfl<|VO.lg rfl rfl (GD.f _) (fun hg => LO.len S50 (.g hg rfl) rfl) rfl<|VO.lg rfl rfl (GD.f _) (fun hg => LO.mv (.r rfl)) rfl<|VO.lg rfl rfl (GD.f _) (fun hg => LO.len S120 (.g hg rfl) rfl) rfl<|VO.lg rfl rfl (GD.f _) (fun hg => LO.add (.g hg rfl) (.g hg rfl) (wi (by omega) (by omega))) rfl<|VO.lg rfl rfl (GD.f _) (fun hg => LO.ne (.g hg rfl) (.g hg rfl)) rfl<|VO.l (LO.pkO (.r rfl) (.r rfl) rfl rfl) rfl<|VO.l (LO.mv (.r rfl)) rfl<|VO.lg rfl rfl (GD.f _) (fun hg => LO.mv (.r rfl)) rfl<|VO.lg rfl rfl (GD.f _) (fun hg => LO.len S60 (.g hg rfl) rfl) rfl<|VO.lg rfl rfl (GD.f _) (fun hg => LO.mv (.r rfl)) rfl<|VO.lg rfl rfl (GD.f _) (fun hg => LO.len S60 (.g hg rfl) rfl) rfl<|VO.lg rfl rfl (GD.f _) (fun hg => LO.ne (.g hg rfl) (.g hg rfl)) rfl<|VO.l (LO.pkO (.r rfl) (.r rfl) rfl rfl) rfl<|VO.l (LO.mv (.r rfl)) rfl<|VO.lg rfl rfl (GD.f _) (fun hg => LO.mv (.r rfl)) rfl<|VO.bc (x := 391) rfl (fun hg38_23 => (by exfalso; simp [hgl] at hg38_23)) (fun hg38_23 => VO.gT rfl rfl (congrArg Value.bool hg38_23) rfl<|HO.callx (xs := [_]) (vs := [_]) C32 ⟨(.g (by rw [hg38_23]; rfl) rfl), trivial⟩ (fun w hw => by have z := Log_p hyp1 (by omega) ((selK (L1 := offR yo) [0,1,2,3,4,5,6,7,8,9] rfl rfl w hw).has (List.Sublist.refl _)); rw [htk] at z; exact z) fun xg2 hxg2 => VO.gT rfl rfl (congrArg Value.bool hg38_23) rfl<|HO.lo (LO.len S95 (.r rfl) rfl)<|VO.gT rfl rfl (congrArg Value.bool hg38_23) rfl<|HO.lo (LO.mv (.r rfl))<|VO.gT rfl rfl (congrArg Value.bool hg38_23) rfl<|HO.lo (LO.len S95 (.r rfl) rfl)<|VO.gT rfl rfl (congrArg Value.bool hg38_23) rfl<|HO.lo (LO.ne (.r rfl) (.r rfl))<|VO.h rfl<|HO.lo (LO.pkF (.r rfl) hg38_23 (.r rfl))<|VO.nil ?_))
      refine VE.seqN ?_
      refine VC.weak (env' := [(11,_), (21,_), (29,_), (34,_), (35,_), (398,_)]) (.cons rfl (.cons rfl (.cons rfl (.cons rfl (.cons rfl (.cons rfl .nil)))))) (fun _ h => h) ?_
      refine VC.cond rfl (fun h398 => ?_) (fun h398 => ?_)
      ·
        have hg2 : xg2.2.length = xg.2.length := by rw [← List.length_map (f := EnM.p), hxg2, List.length_map, ← hxgl]
        (exfalso; simp [hgl, hg2] at h398)
      ·
        refine VC.skip (VE.seqN ?_)
        refine VC.seq ?_
        refine VC.seq ?_
        refine VC.reg (VO.l (LO.as (.r rfl)) rfl<|VO.nil ?_)
        refine VE.seqN ?_
        refine VC.block ?_
        refine VC.loopK (α := Nat) 0 (fun gx => [(36, .int .i64 (gx : Nat))]) [(11,_), (21,_), (29,_), (34,_), (35,_)] (fun gx => []) (fun gx => gx ≤ fl.length) (fun gx => fl.length - gx) 0 (by exact Nat.zero_le _) (.cons rfl (.cons rfl (.cons rfl (.cons rfl (.cons rfl (.cons rfl .nil)))))) (fun _ h => h) ?_
        rintro i hi
        refine VC.seq ?_
        refine VC.seq ?_
        refine VC.reg (VO.l (LO.mv (.r rfl)) rfl<|VO.l (LO.mv (.r rfl)) rfl<|VO.l (LO.len S60 (.r rfl) rfl) rfl<|VO.l (LO.lt (.r rfl) (.r rfl)) rfl<|VO.nil ?_)
        refine VE.seqN ?_
        refine VC.cond rfl (fun h402 => ?_) (fun h402 => ?_)
        ·
          refine VC.skip (VE.seqN ?_)
          refine VC.seq ?_
          refine VC.block ?_
          refine VC.seq ?_
          refine VC.draw mixed (LL.l (LO.mv (.r rfl)) rfl<|LL.l (LO.mv (.r rfl)) rfl<|LL.l (LO.ixs S60 N62 hFl.sm (.r rfl) (.r rfl) rfl (by omega)) rfl<|LL.l (LO.lda (vs := [_,_,_,_,_,_,_]) A62 (.r rfl) (fun w hw => cells_part (off := 0) ((hFl.at zEv (j := i) (by omega)) w hw) ⟨_, rfl⟩) rfl) rfl<|LL.l (LO.mv (.r rfl)) rfl<|LL.l (LO.mv (.r rfl)) rfl<|LL.l (LO.ixo S60 N62 (fun _ hw => (own_rows hw 12 rfl).some (by rw [List.length_map])) (.r rfl) (.r rfl) rfl (by omega)) rfl<|LL.l (LO.lda (vs := [_,_,_,_,_,_,_]) A62 (.r rfl) (fun w hw => cells_part (off := 0) (own_cell hw 12 rfl (getD_some (d := zEv) (by omega))) ⟨_, rfl⟩) rfl) rfl<|LL.l (LO.neA («as» := [_,_,_,_,_,_,_]) (bs := [_,_,_,_,_,_,_]) EA62 (.r rfl) (.r rfl) rfl rfl) rfl<|LL.nil) (by kernel_rfl) ?_
          refine VE.seqN ?_
          refine VC.cond rfl (fun h413 => ?_) (fun h413 => ?_)
          ·
            (exfalso; exact h413 rfl)
          ·
            refine VC.skip (VE.inN (VE.seqN ?_))
            refine VC.reg (VO.l (LO.mv (.r rfl)) rfl<|VO.l (LO.add (.r rfl) (.r rfl) (wi (by omega) (by omega))) rfl<|VO.l (LO.as (.r rfl)) rfl<|VO.nil ?_)
            refine VE.thenN fun a w ha hw => ⟨i + 1, (by omega), (by omega), ha.sub (.cons rfl (.cons rfl (.cons rfl (.cons rfl (.cons rfl (.cons rfl .nil)))))), hw⟩
        ·
          refine VC.exit (VE.thenX (VE.thenX (VE.inX (VE.seqN ?_))))
          refine VC.seq ?_
          refine VC.reg (VO.l (LO.mv (.r rfl)) rfl<|VO.h rfl<|HO.callx (xs := [_]) (vs := [_]) C42 ⟨(.r rfl), trivial⟩ (fun w hw => Copy_c (drSp d) LA LA.length oa w hA rfl hall (by omega) (hOa.keep hw)) fun om hM => VO.h rfl<|HO.lo (LO.as (.r rfl))<|VO.nil ?_)
          refine VE.seqN ?_
          refine VC.seq ?_
          refine VC.seq ?_
          refine VC.reg (VO.l (LO.mv (.r rfl)) rfl<|VO.l (LO.eqPn ⟨_, Try.underlying53⟩ (.r rfl) (.r rfl)) rfl<|VO.nil ?_)
          refine VE.seqN ?_
          refine VC.cond rfl (fun h417 => ?_) (fun h417 => ?_)
          ·
            (exfalso; cases h417)
          ·
            refine VC.skip (VE.seqN ?_)
            refine VC.seq ?_
            refine VC.reg (VO.l (LO.mv (.r rfl)) rfl<|VO.h rfl<|HO.callx (xs := [_]) (vs := [_]) C41 ⟨(.r rfl), trivial⟩ (fun w hw => Score_p (P := PA) hyp1 (by omega) hTa ((selK (L1 := offR yo) [12,13,14,15,16,17,18,19,20,21] rfl rfl w hw).has (List.Sublist.refl _))) fun xu _ => VO.l (LO.mv (.r rfl)) rfl<|VO.h rfl<|HO.callx (xs := [_]) (vs := [_]) C41 ⟨(.r rfl), trivial⟩ (fun w hw => Score_p (P := PA) hM (by omega) hTa ((selK (L1 := offR om) [1,2,3,4,5,6,7,8,9,10] rfl rfl w hw).has (List.Sublist.refl _))) fun xv _ => VO.l (LO.mv (.r rfl)) rfl<|VO.h rfl<|HO.callx (xs := [_]) (vs := [_]) C22 ⟨(.r rfl), trivial⟩ (fun w hw => by have z := Cases_p hM (by omega) ((selK (L1 := offR om) [2,3,4,5,6,7,8,9,10,11] rfl rfl w hw).has (List.Sublist.refl _)); rw [htk, ← hCX] at z; exact z) fun xw _ => VO.h rfl<|HO.lo (LO.as (.r rfl))<|VO.h rfl<|HO.lo (LO.as (.r rfl))<|VO.h rfl<|HO.lo (LO.as (.r rfl))<|VO.nil ?_)
            refine VE.seqN ?_
            refine VC.seq ?_
            refine VC.reg (VO.l (LO.mv (.r rfl)) rfl<|VO.h rfl<|HO.callx (xs := [_]) (vs := [_]) C22 ⟨(.r rfl), trivial⟩ (fun w hw => by have z := Cases_p hA (by omega) (hOa.keep hw); rw [htk, ← hCX] at z; exact z) fun xx _ => VO.l (LO.mv (.r rfl)) rfl<|VO.h rfl<|HO.callx (xs := [_]) (vs := [_]) C22 ⟨(.r rfl), trivial⟩ (fun w hw => by have z := Cases_p hyp1 (by omega) ((selK (L1 := offR yo) [16,17,18,19,20,21,22,23,24,25] rfl rfl w hw).has (List.Sublist.refl _)); rw [htk, ← hCX] at z; exact z) fun xy _ => VO.h rfl<|HO.lo (LO.as (.r rfl))<|VO.h rfl<|HO.lo (LO.as (.r rfl))<|VO.nil ?_)
            refine VE.seqN ?_
            refine VC.seq ?_
            refine VC.seq ?_
            refine VC.reg (VO.l (LO.mv (.r rfl)) rfl<|VO.l (LO.len S109 (.r rfl) rfl) rfl<|VO.l (LO.mv (.r rfl)) rfl<|VO.l (LO.len S109 (.r rfl) rfl) rfl<|VO.l (LO.ne (.r rfl) (.r rfl)) rfl<|VO.l (LO.mv (.r rfl)) rfl<|VO.lg rfl rfl (GD.f _) (fun hg => LO.mv (.r rfl)) rfl<|VO.lg rfl rfl (GD.f _) (fun hg => LO.len S109 (.g hg rfl) rfl) rfl<|VO.lg rfl rfl (GD.f _) (fun hg => LO.mv (.r rfl)) rfl<|VO.lg rfl rfl (GD.f _) (fun hg => LO.len S109 (.g hg rfl) rfl) rfl<|VO.lg rfl rfl (GD.f _) (fun hg => LO.ne (.g hg rfl) (.g hg rfl)) rfl<|VO.l (LO.pkO (.r rfl) (.r rfl) rfl rfl) rfl<|VO.l (LO.mv (.r rfl)) rfl<|VO.lg rfl rfl (GD.f _) (fun hg => LO.mv (.r rfl)) rfl<|VO.lg rfl rfl (GD.f _) (fun hg => LO.len S58 (.g hg rfl) rfl) rfl<|VO.lg rfl rfl (GD.f _) (fun hg => LO.mv (.r rfl)) rfl<|VO.lg rfl rfl (GD.f _) (fun hg => LO.len S58 (.g hg rfl) rfl) rfl<|VO.lg rfl rfl (GD.f _) (fun hg => LO.ne (.g hg rfl) (.g hg rfl)) rfl<|VO.l (LO.pkO (.r rfl) (.r rfl) rfl rfl) rfl<|VO.l (LO.mv (.r rfl)) rfl<|VO.lg rfl rfl (GD.f _) (fun hg => LO.mv (.r rfl)) rfl<|VO.lg rfl rfl (GD.f _) (fun hg => LO.len S58 (.g hg rfl) rfl) rfl<|VO.lg rfl rfl (GD.f _) (fun hg => LO.mv (.r rfl)) rfl<|VO.lg rfl rfl (GD.f _) (fun hg => LO.len S58 (.g hg rfl) rfl) rfl<|VO.lg rfl rfl (GD.f _) (fun hg => LO.ne (.g hg rfl) (.g hg rfl)) rfl<|VO.l (LO.pkO (.r rfl) (.r rfl) rfl rfl) rfl<|VO.l (LO.mv (.r rfl)) rfl<|VO.lg rfl rfl (GD.f _) (fun hg => LO.mv (.r rfl)) rfl<|VO.bc (x := 454) rfl (fun hg50_26 => (by exfalso; simp at hg50_26)) (fun hg50_26 => VO.gT rfl rfl (congrArg Value.bool hg50_26) rfl<|HO.callx (xs := [_]) (vs := [_]) C24 ⟨(.g (by rw [hg50_26]; rfl) rfl), trivial⟩ (fun w hw => by have z := Levels_p hyp1 (by omega) ((selK (L1 := offR yo) [17,18,19,20,21,22,23,24,25,26] rfl rfl w hw).has (List.Sublist.refl _)); rw [htk] at z; exact z) fun x1 _ => VO.gT rfl rfl (congrArg Value.bool hg50_26) rfl<|HO.lo (LO.mv (.r rfl))<|VO.gT rfl rfl (congrArg Value.bool hg50_26) rfl<|HO.callx (xs := [_]) (vs := [_]) C24 ⟨(.r rfl), trivial⟩ (fun w hw => by have z := Levels_p hA (by omega) (hOa.keep hw); rw [htk] at z; exact z) fun x2 _ => VO.gT rfl rfl (congrArg Value.bool hg50_26) rfl<|HO.lo (LO.call (xs := [_,_]) (vs := [_,_]) C25 ⟨(.r rfl), (.r rfl), trivial⟩ (fun w hw => by have z := ints_c x1.1 x2.1 _ _ x1.2 x2.2 w (by rw [hLVl]; omega) (by rw [hLVl]; omega) (own_rows hw 1 rfl) (own_rows hw 0 rfl); rw [decide_eq_true rfl] at z; exact z))<|VO.gT rfl rfl (congrArg Value.bool hg50_26) rfl<|HO.lo (LO.not (.r rfl))<|VO.h rfl<|HO.lo (LO.pkF (.r rfl) hg50_26 (.r rfl))<|VO.h rfl<|HO.lo (LO.mv (.r rfl))<|VO.lg rfl rfl (GD.f _) (fun hg => LO.mv (.r rfl)) rfl<|VO.bc (x := 462) rfl (fun hg50_34 => (by exfalso; simp at hg50_34)) (fun hg50_34 => VO.gT rfl rfl (congrArg Value.bool hg50_34) rfl<|HO.callx (xs := [_]) (vs := [_]) C24 ⟨(.g (by rw [hg50_34]; rfl) rfl), trivial⟩ (fun w hw => by have z := Levels_p hM (by omega) ((selK (L1 := offR om) [7,8,9,10,11,12,13,14,15,16] rfl rfl w hw).has (List.Sublist.refl _)); rw [htk] at z; exact z) fun x3 _ => VO.gT rfl rfl (congrArg Value.bool hg50_34) rfl<|HO.lo (LO.mv (.r rfl))<|VO.gT rfl rfl (congrArg Value.bool hg50_34) rfl<|HO.callx (xs := [_]) (vs := [_]) C24 ⟨(.r rfl), trivial⟩ (fun w hw => by have z := Levels_p hA (by omega) (hOa.keep hw); rw [htk] at z; exact z) fun x4 _ => VO.gT rfl rfl (congrArg Value.bool hg50_34) rfl<|HO.lo (LO.call (xs := [_,_]) (vs := [_,_]) C25 ⟨(.r rfl), (.r rfl), trivial⟩ (fun w hw => by have z := ints_c x3.1 x4.1 _ _ x3.2 x4.2 w (by rw [hLVl]; omega) (by rw [hLVl]; omega) (own_rows hw 1 rfl) (own_rows hw 0 rfl); rw [decide_eq_true rfl] at z; exact z))<|VO.gT rfl rfl (congrArg Value.bool hg50_34) rfl<|HO.lo (LO.not (.r rfl))<|VO.h rfl<|HO.lo (LO.pkF (.r rfl) hg50_34 (.r rfl))<|VO.nil ?_)))
            refine VE.seqN ?_
            refine VC.weak (env' := [(29,_), (38,_), (39,_), (40,_), (41,_), (42,_), (469,_)]) (.cons rfl (.cons rfl (.cons rfl (.cons rfl (.cons rfl (.cons rfl (.cons rfl .nil))))))) (fun _ h => h) ?_
            refine VC.cond rfl (fun h469 => ?_) (fun h469 => ?_)
            ·
              (exfalso; simp at h469)
            ·
              refine VC.skip (VE.seqN ?_)
              refine VC.seq ?_
              refine VC.seq ?_
              refine VC.reg (VO.l (LO.as (.r rfl)) rfl<|VO.nil ?_)
              refine VE.seqN ?_
              refine VC.block ?_
              refine VC.loopK (α := Nat) 0 (fun gx => [(43, .int .i64 (gx : Nat))]) [(29,_), (38,_), (39,_), (40,_), (41,_), (42,_)] (fun gx => []) (fun gx => gx ≤ PA.length) (fun gx => PA.length - gx) 0 (by exact Nat.zero_le _) (.cons rfl (.cons rfl (.cons rfl (.cons rfl (.cons rfl (.cons rfl (.cons rfl .nil))))))) (fun _ h => h) ?_
              rintro i hi
              refine VC.seq ?_
              refine VC.seq ?_
              refine VC.reg (VO.l (LO.mv (.r rfl)) rfl<|VO.l (LO.mv (.r rfl)) rfl<|VO.l (LO.len S109 (.r rfl) rfl) rfl<|VO.l (LO.lt (.r rfl) (.r rfl)) rfl<|VO.nil ?_)
              refine VE.seqN ?_
              refine VC.cond rfl (fun h473 => ?_) (fun h473 => ?_)
              ·
                refine VC.skip (VE.seqN ?_)
                refine VC.seq ?_
                refine VC.block ?_
                refine VC.seq ?_
                refine VC.draw mixed (LL.l (LO.mv (.r rfl)) rfl<|LL.l (LO.mv (.r rfl)) rfl<|LL.l (LO.ixo S109 N112 (fun _ hw => (own_rows hw 8 rfl).some (by rw [List.length_map])) (.r rfl) (.r rfl) rfl (by omega)) rfl<|LL.l (LO.lda (vs := [_,_,_,_,_,_,_]) A112 (.r rfl) (fun w hw => cells_part (off := 0) (own_cell hw 8 rfl (getD_some (d := zTal) (by omega))) ⟨_, rfl⟩) rfl) rfl<|LL.l (LO.mv (.r rfl)) rfl<|LL.l (LO.mv (.r rfl)) rfl<|LL.l (LO.ixo S109 N112 (fun _ hw => (own_rows hw 36 rfl).some (by rw [List.length_map])) (.r rfl) (.r rfl) rfl (by omega)) rfl<|LL.l (LO.lda (vs := [_,_,_,_,_,_,_]) A112 (.r rfl) (fun w hw => cells_part (off := 0) (own_cell hw 36 rfl (getD_some (d := zTal) (by omega))) ⟨_, rfl⟩) rfl) rfl<|LL.l (LO.neA («as» := [_,_,_,_,_,_,_]) (bs := [_,_,_,_,_,_,_]) EA112 (.r rfl) (.r rfl) rfl rfl) rfl<|LL.l (LO.mv (.r rfl)) rfl<|LL.lg rfl rfl (GD.f _) (fun hg => LO.mv (.r rfl)) rfl<|LL.lg rfl rfl (GD.f _) (fun hg => LO.mv (.r rfl)) rfl<|LL.lg rfl rfl (GD.f _) (fun hg => LO.ixo S109 N112 (fun _ hw => (own_rows hw 7 rfl).some (by rw [List.length_map])) (.g hg rfl) (.g hg rfl) rfl (by omega)) rfl<|LL.lg rfl rfl (GD.f _) (fun hg => LO.lda (vs := [_,_,_,_,_,_,_]) A112 (.g hg rfl) (fun w hw => cells_part (off := 0) (own_cell hw 7 rfl (getD_some (d := zTal) (by omega))) ⟨_, rfl⟩) rfl) rfl<|LL.lg rfl rfl (GD.f _) (fun hg => LO.mv (.r rfl)) rfl<|LL.lg rfl rfl (GD.f _) (fun hg => LO.mv (.r rfl)) rfl<|LL.lg rfl rfl (GD.f _) (fun hg => LO.ixo S109 N112 (fun _ hw => (own_rows hw 36 rfl).some (by rw [List.length_map])) (.g hg rfl) (.g hg rfl) rfl (by omega)) rfl<|LL.lg rfl rfl (GD.f _) (fun hg => LO.lda (vs := [_,_,_,_,_,_,_]) A112 (.g hg rfl) (fun w hw => cells_part (off := 0) (own_cell hw 36 rfl (getD_some (d := zTal) (by omega))) ⟨_, rfl⟩) rfl) rfl<|LL.lg rfl rfl (GD.f _) (fun hg => LO.neA («as» := [_,_,_,_,_,_,_]) (bs := [_,_,_,_,_,_,_]) EA112 (.g hg rfl) (.g hg rfl) rfl rfl) rfl<|LL.l (LO.pkO (.r rfl) (.r rfl) rfl rfl) rfl<|LL.nil) (by kernel_rfl) ?_
                refine VE.seqN ?_
                refine VC.weak (env' := [(29,_), (38,_), (39,_), (40,_), (41,_), (42,_), (43,_), (495,_)]) (.cons rfl (.cons rfl (.cons rfl (.cons rfl (.cons rfl (.cons rfl (.cons rfl (.cons rfl .nil)))))))) (fun _ h => h) ?_
                refine VC.cond rfl (fun h495 => ?_) (fun h495 => ?_)
                ·
                  (exfalso; (rcases h495 with h | h <;> exact h rfl))
                ·
                  refine VC.skip (VE.inN (VE.seqN ?_))
                  refine VC.reg (VO.l (LO.mv (.r rfl)) rfl<|VO.l (LO.add (.r rfl) (.r rfl) (wi (by omega) (by omega))) rfl<|VO.l (LO.as (.r rfl)) rfl<|VO.nil ?_)
                  refine VE.thenN fun a w ha hw => ⟨i + 1, (by omega), (by omega), ha.sub (.cons rfl (.cons rfl (.cons rfl (.cons rfl (.cons rfl (.cons rfl (.cons rfl .nil))))))), hw⟩
              ·
                refine VC.exit (VE.thenX (VE.thenX (VE.inX (VE.seqN ?_))))
                refine VC.seq ?_
                refine VC.seq ?_
                refine VC.reg (VO.l (LO.as (.r rfl)) rfl<|VO.nil ?_)
                refine VE.seqN ?_
                refine VC.block ?_
                refine VC.loopK (α := Nat) 0 (fun gx => [(44, .int .i64 (gx : Nat))]) [(40,_), (41,_), (42,_)] (fun gx => []) (fun gx => gx ≤ CX.length) (fun gx => CX.length - gx) 0 (by exact Nat.zero_le _) (.cons rfl (.cons rfl (.cons rfl (.cons rfl .nil)))) (fun _ h => h) ?_
                rintro i hi
                refine VC.seq ?_
                refine VC.seq ?_
                refine VC.reg (VO.l (LO.mv (.r rfl)) rfl<|VO.l (LO.mv (.r rfl)) rfl<|VO.l (LO.len S58 (.r rfl) rfl) rfl<|VO.l (LO.lt (.r rfl) (.r rfl)) rfl<|VO.nil ?_)
                refine VE.seqN ?_
                refine VC.cond rfl (fun h499 => ?_) (fun h499 => ?_)
                ·
                  refine VC.skip (VE.seqN ?_)
                  refine VC.seq ?_
                  refine VC.block ?_
                  refine VC.seq ?_
                  refine VC.draw mixed (LL.l (LO.mv (.r rfl)) rfl<|LL.l (LO.mv (.r rfl)) rfl<|LL.l (LO.ixo S58 N64 (fun _ hw => (own_rows hw 6 rfl).some (by rw [List.length_map])) (.r rfl) (.r rfl) rfl (by omega)) rfl<|LL.l (LO.lda (vs := [_,_,_,_,_]) A64 (.r rfl) (fun w hw => cells_part (off := 0) (own_cell hw 6 rfl (getD_some (d := zC) (by omega))) ⟨_, rfl⟩) rfl) rfl<|LL.l (LO.mv (.r rfl)) rfl<|LL.l (LO.mv (.r rfl)) rfl<|LL.l (LO.ixo S58 N64 (fun _ hw => (own_rows hw 5 rfl).some (by rw [List.length_map])) (.r rfl) (.r rfl) rfl (by omega)) rfl<|LL.l (LO.lda (vs := [_,_,_,_,_]) A64 (.r rfl) (fun w hw => cells_part (off := 0) (own_cell hw 5 rfl (getD_some (d := zC) (by omega))) ⟨_, rfl⟩) rfl) rfl<|LL.l (LO.neA («as» := [_,_,_,_,_]) (bs := [_,_,_,_,_]) EA64 (.r rfl) (.r rfl) rfl rfl) rfl<|LL.l (LO.mv (.r rfl)) rfl<|LL.lg rfl rfl (GD.f _) (fun hg => LO.mv (.r rfl)) rfl<|LL.lg rfl rfl (GD.f _) (fun hg => LO.mv (.r rfl)) rfl<|LL.lg rfl rfl (GD.f _) (fun hg => LO.ixo S58 N64 (fun _ hw => (own_rows hw 4 rfl).some (by rw [List.length_map])) (.g hg rfl) (.g hg rfl) rfl (by omega)) rfl<|LL.lg rfl rfl (GD.f _) (fun hg => LO.lda (vs := [_,_,_,_,_]) A64 (.g hg rfl) (fun w hw => cells_part (off := 0) (own_cell hw 4 rfl (getD_some (d := zC) (by omega))) ⟨_, rfl⟩) rfl) rfl<|LL.lg rfl rfl (GD.f _) (fun hg => LO.mv (.r rfl)) rfl<|LL.lg rfl rfl (GD.f _) (fun hg => LO.mv (.r rfl)) rfl<|LL.lg rfl rfl (GD.f _) (fun hg => LO.ixo S58 N64 (fun _ hw => (own_rows hw 5 rfl).some (by rw [List.length_map])) (.g hg rfl) (.g hg rfl) rfl (by omega)) rfl<|LL.lg rfl rfl (GD.f _) (fun hg => LO.lda (vs := [_,_,_,_,_]) A64 (.g hg rfl) (fun w hw => cells_part (off := 0) (own_cell hw 5 rfl (getD_some (d := zC) (by omega))) ⟨_, rfl⟩) rfl) rfl<|LL.lg rfl rfl (GD.f _) (fun hg => LO.neA («as» := [_,_,_,_,_]) (bs := [_,_,_,_,_]) EA64 (.g hg rfl) (.g hg rfl) rfl rfl) rfl<|LL.l (LO.pkO (.r rfl) (.r rfl) rfl rfl) rfl<|LL.nil) (by kernel_rfl) ?_
                  refine VE.seqN ?_
                  refine VC.cond rfl (fun h521 => ?_) (fun h521 => ?_)
                  ·
                    (exfalso; (rcases h521 with h | h <;> exact h rfl))
                  ·
                    refine VC.skip (VE.inN (VE.seqN ?_))
                    refine VC.reg (VO.l (LO.mv (.r rfl)) rfl<|VO.l (LO.add (.r rfl) (.r rfl) (wi (by omega) (by omega))) rfl<|VO.l (LO.as (.r rfl)) rfl<|VO.nil ?_)
                    refine VE.thenN fun a w ha hw => ⟨i + 1, (by omega), (by omega), ha.sub (.cons rfl (.cons rfl (.cons rfl (.cons rfl .nil)))), hw⟩
                ·
                  refine VC.exit (VE.thenX (VE.thenX (VE.inX (VE.seqN ?_))))
                  refine VC.seq ?_
                  refine VC.reg (VO.l (LO.call (xs := []) (vs := []) C14 trivial (fun w _ => works_c w)) rfl<|VO.l (LO.as (.r rfl)) rfl<|VO.nil ?_)
                  refine VE.seqN ?_
                  refine VC.ret (VE.res (vs := [_]) rfl ⟨rfl, trivial⟩ (fun w hw => ?_))
                  exact ⟨rfl, hbs _ _ hw⟩

end Go.Proofs.Ytdjflomhaljljaa

namespace Go.Proofs.Ytdjflomhaljljaa
open Go.SL Go.Proofs Go.Cast
set_option linter.unusedVariables false

theorem A122 : IsAgg Try.prog 122 22 := ⟨⟨_, Try.underlying122, rfl⟩, by kernel_rfl⟩
theorem N122 : (Try.prog.info? 122).map (·.size) = some 22 := by kernel_rfl
theorem Z122 : ZeroOf Try.prog 122 (.agg #[.int .u16 0, .int .u8 0, .int .u8 0, .int .u8 0, .int .u8 0, .int .u8 0, .int .u8 0, .int .u8 0, .int .u8 0, .int .u8 0, .int .u8 0, .int .u8 0, .int .u8 0, .int .u8 0, .int .u8 0, .int .u8 0, .int .u8 0, .int .u8 0, .int .u8 0, .int .u8 0, .int .u8 0, .int .u8 0]) := by unfold ZeroOf; kernel_rfl
theorem F122_0 : FieldAt Try.prog 122 0 0 := ⟨_,_, Try.underlying122, rfl, rfl, 0, by kernel_rfl⟩
theorem F122_2 : FieldAt Try.prog 122 2 21 := ⟨_,_, Try.underlying122, rfl, rfl, 0, by kernel_rfl⟩
theorem C43 : IsFn Try.prog 43 := ⟨_, Try.func43, by decide, rfl⟩


theorem late_lb {d : DrM} {bs : List BtM} {lc : List Cloud} {ns : List SgM} {f : Int → Int} {o : OfM} {i : Nat} (h : PlB (drSp d) (lbE bs lc ns f) o (ns.length + i)) (hb : ∀ b, b ∈ bs → b.ok) (hi : i < bs.length) : o.ts = [] ∨ lastI o.ts < tAt bs (i + 1) := by
  have e2 : (lbE bs lc ns f).take (ns.length + i) = ntsE f ns.reverse ++ stsL bs lc i := by
    unfold lbE
    rw [List.take_append, nts_len, List.length_reverse, List.take_of_length_le (by rw [nts_len, List.length_reverse]; omega), sts_take (by omega), show ns.length + i - ns.length = i by omega]
  refine late_stB (s := drSp d) (l := lc) ?_ hb hi
  rw [h.a.ts, e2, tsP_app, tsP_nts, tsP_sts, List.nil_append]
  unfold stB tmB
  rw [List.map_map]; rfl
theorem sgF {x : SgM} (h : x.ok) {C : Array Value} (hC : C.size = 22 := by rfl) : Nat.ble (0 + x.cells.length) C.size = true := by rw [SgM.len h, hC]; rfl
theorem allOne_of : ∀ {vs : List Value}, (∀ v, v ∈ vs → v.oneCell' = true) → allOne vs = true
  | [],_ => rfl
  | v :: vs, h => by
    unfold allOne
    rw [h v List.mem_cons_self, allOne_of fun u hu => h u (List.mem_cons_of_mem _ hu)]; rfl
theorem sgO (x : SgM) : allOne x.cells = true := by
  refine allOne_of fun v hv => ?_
  rcases List.mem_cons.1 hv with rfl | hv
  · rfl
  · rcases List.mem_append.1 hv with z | z
    · obtain ⟨n,_, rfl⟩ := List.mem_map.1 z; rfl
    · rw [List.mem_singleton.1 z]; rfl
theorem sgC {x : SgM} (h : x.ok) {C : Array Value} (hC : C.toList.length = 22 := by rfl) : C.toList.take 0 ++ x.cells ++ C.toList.drop (0 + x.cells.length) = x.cells := by
  rw [SgM.len h, List.drop_of_length_le (by omega)]; simp
theorem sg_wd {x : SgM} (h : x.ok) : ∃ r, x.cells.toArray.toList.drop 21 = [.int .u8 x.wd] ++ r := by
  refine ⟨[], ?_⟩
  show (x.px.map u8V ++ [Value.int .u8 x.wd]).drop 20 = _
  rw [List.drop_append, List.drop_of_length_le (by rw [List.length_map]; exact Nat.le_of_eq h.2.1.1), List.length_map, h.2.1.1]; rfl
theorem tm_at {ts : List Int} {bs : List BtM} (h : ts = tmB bs bs.length) {i : Nat} (hi : i < bs.length) : ts[i]? = some (tAt bs (i + 1)) := by
  rw [h]; unfold tmB
  rw [List.getElem?_map, List.getElem?_range hi]; rfl
theorem fl_step {evs : List (RowA Ev)} {i : Nat} (h : i < evs.length) : ((evs.take (i + 1)).map RowA.l).flatten = ((evs.take i).map RowA.l).flatten ++ (evs.getD i RowA.z).l := by
  rw [List.take_add_one, getD_some (d := RowA.z) h, List.map_append, List.flatten_append]; simp
theorem ev_each {d : DrM} {lc : List Cloud} {bs : List BtM} {y : RnY} (hy : RnP (drSp d) lc bs y) (hn : (drRegs d 3).length ≤ 3) {i : Nat} (hi : i < y.evs.length) : (y.evs.getD i RowA.z).l.length ≤ 3 := by
  have e := congrArg (fun z : List (List Ev) => z[i]?) hy.2.2.1
  have hl : y.evs.length = bs.length := by rw [← List.length_map (f := RowA.l), hy.2.2.1]; simp [evB]
  rw [List.getElem?_map, getD_some (d := RowA.z) hi] at e
  unfold evB at e
  rw [List.getElem?_map, List.getElem?_range (by omega)] at e
  rw [Option.some.inj e]
  exact Nat.le_trans (runE_len _) hn
theorem fl_len {evs : List (RowA Ev)} (h : ∀ j, j < evs.length → (evs.getD j RowA.z).l.length ≤ 3) : ∀ i, i ≤ evs.length → ((evs.take i).map RowA.l).flatten.length ≤ 3 * i
  | 0,_ => by simp
  | i + 1, hi => by
    have := fl_len h i (by omega)
    have := h i (by omega)
    rw [fl_step (by omega), List.length_append]; omega

set_option maxRecDepth 20000 in
set_option maxHeartbeats 16000000 in
theorem IssueCounted_c (d : DrM) (cl : List ClM) (pc : Option Addr) (cc : Nat) (bs : List BtM) (pb : Option Addr) (cb : Nat) (ns : List SgM) (pn : Option Addr) (cn : Nat) (w : World) (hd : d.ok) (hcl : ClsM w pc cl) (hb : BtsM w pb bs) (hns : SgsM w pn ns) :
  Calls Try.prog 11 #[.agg d.cells.toArray, .slice pc cl.length cc, .slice pb bs.length cb, .slice pn ns.length cn] w fun e w' => e = .returned (.bool true) ∧ St (Go.SL.bs w) [] w' := by
  refine enter (vs := [_,_,_,_]) (env := [(0,_), (1,_), (2,_), (3,_)]) Try.func11 rfl rfl rfl rfl ?_
  refine VC.seq ?_
  refine VC.reg (VO.h rfl<|HO.box (C := d.cells.toArray) rfl rfl fun b1 => VO.l (LO.as (.r rfl)) rfl<|VO.nil ?_)
  refine VE.seqN ?_
  refine VC.seq ?_
  refine VC.seq ?_
  refine VC.reg (VO.l (LO.mv (.r rfl)) rfl<|VO.l (LO.len S49 (.r rfl) rfl) rfl<|VO.l (LO.gt (.r rfl) (.r rfl)) rfl<|VO.l (LO.mv (.r rfl)) rfl<|VO.lg rfl rfl (GD.f _) (fun hg => LO.mv (.r rfl)) rfl<|VO.lg rfl rfl (GD.f _) (fun hg => LO.len S50 (.g hg rfl) rfl) rfl<|VO.lg rfl rfl (GD.f _) (fun hg => LO.gt (.g hg rfl) (.r rfl)) rfl<|VO.l (LO.pkO (.r rfl) (.r rfl) rfl rfl) rfl<|VO.l (LO.mv (.r rfl)) rfl<|VO.lg rfl rfl (GD.f _) (fun hg => LO.mv (.r rfl)) rfl<|VO.lg rfl rfl (GD.f _) (fun hg => LO.len S120 (.g hg rfl) rfl) rfl<|VO.lg rfl rfl (GD.f _) (fun hg => LO.gt (.g hg rfl) (.r rfl)) rfl<|VO.l (LO.pkO (.r rfl) (.r rfl) rfl rfl) rfl<|VO.nil ?_)
  refine VE.seqN ?_
  refine VC.cond rfl (fun h57 => ?_) (fun h57 => ?_)
  ·
    refine VC.seq ?_
    refine VC.reg (VO.l (LO.call (xs := []) (vs := []) C14 trivial (fun w _ => works_c w)) rfl<|VO.l (LO.as (.r rfl)) rfl<|VO.nil ?_)
    refine VE.seqN ?_
    refine VC.ret (VE.thenR (VE.res (vs := [_]) rfl ⟨rfl, trivial⟩ (fun w hw => ?_)))
    exact ⟨rfl, hw.nil⟩
  ·
    have hcl5 : cl.length ≤ 5 := by omega
    have hbl5 : bs.length ≤ 8 := by omega
    have hnl5 : ns.length ≤ 8 := by omega
    refine VC.skip (VE.seqN ?_)
    refine VC.seq ?_
    refine VC.reg (VO.l (LO.lda (vs := d.cells) A48 (.r rfl) (fun _ hw => cells_at (off := 0) hw 0 rfl ⟨[], by simp⟩) (by rw [DrM.len hd]; rfl)) rfl<|VO.h rfl<|HO.callx (xs := [_]) (vs := [_]) C19 ⟨(.r rfl), trivial⟩ (fun w _ => dmade_c d w hd) fun z hX => VO.l (LO.mv (.r rfl)) rfl<|VO.h rfl<|HO.callx (xs := [_]) (vs := [_]) C20 ⟨(.r rfl), trivial⟩ (fun w hw => all_c cl pc cc w (by omega) ⟨hcl.rows.keep w hw, hcl.ok⟩) fun xl hl => VO.h rfl<|HO.alloc (C := #[_,_,_,_,_,_,_,_,_]) Z28 rfl fun b6 => VO.h0<|HO.st 0 (vs := [_,_,_,_,_,_,_,_,_]) (C' := [_,_,_,_,_,_,_,_,_]) (L' := [_,_,_,_,_,_]) N28 rfl rfl rfl rfl rfl rfl rfl rfl<|VO.h rfl<|HO.lo (LO.as (.r rfl))<|VO.nil ?_)
    refine VE.seqN ?_
    refine VC.seq ?_
    refine VC.seq ?_
    obtain ⟨rgs, pg, cg⟩ := z
    obtain ⟨⟨pl, kl⟩, l⟩ := xl
    dsimp only at hX hl ⊢
    have hrl : rgs.length = (drRegs d 3).length := by rw [← hX, List.length_map]
    have hr3 := drRegs_len (d := d) 3
    have hll : l.length ≤ cl.length := by rw [← List.length_map (f := CP.c), hl]; exact allL_len _
    refine VC.reg (VO.l (LO.fa (r := 5) F28_1 (.r rfl) rfl) rfl<|VO.l (LO.ld O24 (.r rfl) (fun _ hw => cells_at hw 0 rfl ⟨_, rfl⟩)) rfl<|VO.l (LO.len S24 (.r rfl) rfl) rfl<|VO.l (LO.eq (.r rfl) (.r rfl)) rfl<|VO.nil ?_)
    refine VE.seqN ?_
    refine VC.cond rfl (fun h66 => ?_) (fun h66 => ?_)
    ·
      refine VC.seq ?_
      refine VC.reg (VO.l (LO.call (xs := []) (vs := []) C14 trivial (fun w _ => works_c w)) rfl<|VO.l (LO.as (.r rfl)) rfl<|VO.nil ?_)
      refine VE.seqN ?_
      refine VC.ret (VE.thenR (VE.res (vs := [_]) rfl ⟨rfl, trivial⟩ (fun w hw => ?_)))
      exact ⟨rfl, hw.nil⟩
    ·
      have hne : drRegs d 3 ≠ [] := fun q => h66 (by rw [hrl, q]; rfl)
      have hsp := dr_spec hd hne
      refine VC.skip (VE.seqN ?_)
      refine VC.seq ?_
      refine VC.rebase fun w1 hw1 => ?_
      have hSp : Cells w1 ⟨b6,0, none⟩ [.int .i64 0, .int .i64 0, .int .i64 1000, .int .i64 5, .int .i64 4, .slice pg rgs.length cg, .int .i64 (drA d), .int .i64 (drB d), .int .i64 (drC d)] := cells_at hw1 0 rfl ⟨[], rfl⟩
      have hRg : Regs w1 pg rgs := regs_frame hX (St.inv hw1 3 _ rfl) (St.inv hw1 4 _ rfl)
      have hCl : Clouds w1 pl l := clouds_all hl hcl.ok (St.inv hw1 1 _ rfl) (St.inv hw1 2 _ rfl)
      have hBt := hb.keep hw1
      have hNs := hns.keep hw1
      have hok := hb.ok
      have hxs := hns.ok
      have hbd := dr_bd hd
      have hrlo : rgs.length ≤ 3 := by omega
      have hrl1 : 0 < rgs.length := by omega
      have hC20 : ∀ x, x ∈ l.map CP.c → x.sure.length < 1000000 ∧ x.may.length < 1000000 := fun x hx => cl_len hcl.ok (n := cl.length) (by rw [← hl]; exact hx)
      have hCk := allL_cls hcl.ok cl.length
      rw [← hl] at hCk
      have hspc : specE ⟨gD, rgs.map RG.r, drA d, drB d, drC d⟩ = 0 := by rw [hX]; exact hsp
      clear h57 h66
      refine VC.reg (VO.l (LO.lda (vs := [_,_,_,_,_,_,_,_,_]) A28 (.r rfl) (cells_keep (sub_cells (off := 0) hSp ⟨_, rfl⟩)) rfl) rfl<|VO.l (LO.mv (.r rfl)) rfl<|VO.l (LO.mv (.r rfl)) rfl<|VO.h rfl<|HO.callx (xs := [_,_,_]) (vs := [_,_,_]) C21 ⟨(.r rfl), (.r rfl), (.r rfl), trivial⟩ (fun w hw => run_c gD rgs pg cg (drA d) (drB d) (drC d) (drSp d) l pl kl bs pb cb w (by unfold drSp; rw [hX]) hsp (by omega) (hRg.keep hw) (by omega) (hCl.keep w hw) (by omega) (hBt.keep hw) (fun x hx => beat_look (hok x hx) hCk)) fun y1 hy1 => VO.h rfl<|HO.lo (LO.mv (.r rfl))<|VO.h rfl<|HO.lo (LO.ex (.r rfl) rfl)<|VO.h rfl<|HO.lo (LO.ex (.r rfl) rfl)<|VO.h rfl<|HO.lo (LO.ex (.r rfl) rfl)<|VO.h rfl<|HO.lo (LO.ex (.r rfl) rfl)<|VO.h rfl<|HO.lo (LO.as (.r rfl))<|VO.h rfl<|HO.lo (LO.as (.r rfl))<|VO.h rfl<|HO.lo (LO.as (.r rfl))<|VO.h rfl<|HO.lo (LO.as (.r rfl))<|VO.nil ?_)
      refine VE.seqN ?_
      refine VC.weak (env' := [(2,_), (3,_), (9,_), (10,_), (11,_), (12,_), (13,_), (14,_)]) (.cons rfl (.cons rfl (.cons rfl (.cons rfl (.cons rfl (.cons rfl (.cons rfl (.cons rfl .nil)))))))) (fun _ h => h) ?_
      refine VC.seq ?_
      refine VC.reg (VO.l (LO.lda (vs := [_,_,_,_,_,_,_,_,_]) A28 (.r rfl) (cells_keep (sub_cells (off := 0) hSp ⟨_, rfl⟩)) rfl) rfl<|VO.h rfl<|HO.callx (xs := [_]) (vs := [_]) C26 ⟨(.r rfl), trivial⟩ (fun w hw => New_c gD rgs pg cg (drA d) (drB d) (drC d) w (by omega) (hRg.keep hw) hspc) fun o2 hn2 => VO.h rfl<|HO.lo (LO.mv (.r rfl))<|VO.h rfl<|HO.lo (LO.ex (.r rfl) rfl)<|VO.h rfl<|HO.lo (LO.ex (.r rfl) rfl)<|VO.h rfl<|HO.lo (LO.as (.r rfl))<|VO.h rfl<|HO.lo (LO.as (.r rfl))<|VO.nil ?_)
      refine VE.seqN ?_
      refine VC.seq ?_
      refine VC.reg (VO.l (LO.lda (vs := [_,_,_,_,_,_,_,_,_]) A28 (.r rfl) (cells_keep (sub_cells (off := 0) hSp ⟨_, rfl⟩)) rfl) rfl<|VO.l (LO.mv (.r rfl)) rfl<|VO.l (LO.mv (.r rfl)) rfl<|VO.h rfl<|HO.callx (xs := [_,_,_]) (vs := [_,_,_]) C21 ⟨(.r rfl), (.r rfl), (.r rfl), trivial⟩ (fun w hw => run_c gD rgs pg cg (drA d) (drB d) (drC d) (drSp d) l pl kl bs pb cb w (by unfold drSp; rw [hX]) hsp (by omega) (hRg.keep hw) (by omega) (hCl.keep w hw) (by omega) (hBt.keep hw) (fun x hx => beat_look (hok x hx) hCk)) fun y2 hy2 => VO.h rfl<|HO.lo (LO.mv (.r rfl))<|VO.h rfl<|HO.lo (LO.ex (.r rfl) rfl)<|VO.h rfl<|HO.lo (LO.ex (.r rfl) rfl)<|VO.h rfl<|HO.lo (LO.ex (.r rfl) rfl)<|VO.h rfl<|HO.lo (LO.ex (.r rfl) rfl)<|VO.h rfl<|HO.lo (LO.as (.r rfl))<|VO.h rfl<|HO.lo (LO.as (.r rfl))<|VO.h rfl<|HO.lo (LO.as (.r rfl))<|VO.h rfl<|HO.lo (LO.as (.r rfl))<|VO.nil ?_)
      refine VE.seqN ?_
      refine VC.seq ?_
      refine VC.seq ?_
      refine VC.reg (VO.l (LO.mv (.r rfl)) rfl<|VO.l (LO.not (.r rfl)) rfl<|VO.l (LO.mv (.r rfl)) rfl<|VO.lg rfl rfl (GD.f _) (fun hg => LO.mv (.r rfl)) rfl<|VO.lg rfl rfl (GD.f _) (fun hg => LO.not (.g hg rfl)) rfl<|VO.l (LO.pkO (.r rfl) (.r rfl) rfl rfl) rfl<|VO.l (LO.mv (.r rfl)) rfl<|VO.lg rfl rfl (GD.f _) (fun hg => LO.mv (.r rfl)) rfl<|VO.lg rfl rfl (GD.f _) (fun hg => LO.ne (.g hg rfl) (.r rfl)) rfl<|VO.l (LO.pkO (.r rfl) (.r rfl) rfl rfl) rfl<|VO.nil ?_)
      refine VE.seqN ?_
      refine VC.weak (env' := [(2,_), (3,_), (9,_), (10,_), (11,_), (12,_), (13,_), (15,_), (17,_), (100,_)]) (.cons rfl (.cons rfl (.cons rfl (.cons rfl (.cons rfl (.cons rfl (.cons rfl (.cons rfl (.cons rfl (.cons rfl .nil)))))))))) (fun _ h => h) ?_
      refine VC.cond rfl (fun h100 => ?_) (fun h100 => ?_)
      ·
        (exfalso; (rcases h100 with (h | h) | h; (· exact h rfl); (· exact h rfl); (· exact h rfl)))
      ·
        refine VC.skip (VE.seqN ?_)
        refine VC.seq ?_
        have hA0 : PlB (drSp d) (laE bs (l.map CP.c) ns (fun z => z)) y1.o bs.length := pl_run hy1 hC20 hok
        have hC0 : PlB (drSp d) (laE bs (l.map CP.c) ns (fun z => z.tdiv 2)) y2.o bs.length := pl_run hy2 hC20 hok
        have hB0 : PlB (drSp d) (lbE bs (l.map CP.c) ns (fun z => z)) o2 0 := plb_new hn2 (by unfold drSp; rw [hX]) hsp (fun x hx => (hRg.ok x hx).2)
        have hN2 : bs.length ≤ 8 ∧ ns.length ≤ 8 := by omega
        have hallA := la_all (f := fun z => z) (s := drSp d) hN2 hok hxs (fun x hx => (hxs x hx).2.2) rfl hCk
        have hallB := lb_all (f := fun z => z) (s := drSp d) hN2 hok hxs (fun x hx => (hxs x hx).2.2) rfl hCk
        have hallC := la_all (f := fun z => z.tdiv 2) (s := drSp d) hN2 hok hxs (fun x hx => (half_wd (hxs x hx).2.2).1) rfl hCk
        have hevl : y1.evs.length = bs.length := by rw [← List.length_map (f := RowA.l), hy1.2.2.1]; simp [evB]
        have hTs := hy1.2.2.2.1
        have htls : y1.ts.length = bs.length := by rw [hTs]; simp [tmB]
        have hev3 : ∀ j, j < y1.evs.length → (y1.evs.getD j RowA.z).l.length ≤ 3 := fun j hj => ev_each hy1 hr3 hj
        refine VC.reg (VO.l (LO.as (.r rfl)) rfl<|VO.nil ?_)
        refine VE.seqN ?_
        refine VC.seq ?_
        refine VC.seq ?_
        refine VC.reg (VO.l (LO.as (.r rfl)) rfl<|VO.nil ?_)
        refine VE.seqN ?_
        refine VC.block ?_
        refine VC.loopK (α := Nat × (List Ev) × (Option Addr) × Nat) 0 (fun gx => [(21, .slice gx.2.2.1 gx.2.1.length gx.2.2.2), (22, .int .i64 (gx.1 : Nat))]) [(2,_), (3,_), (9,_), (10,_), (11,_), (12,_), (13,_), (15,_), (17,_)] (fun gx => [own 62 7 gx.2.2.1 gx.2.2.2 (gx.2.1.map evC)]) (fun gx => gx.1 ≤ y1.evs.length ∧ gx.2.1 = ((y1.evs.take gx.1).map RowA.l).flatten) (fun gx => y1.evs.length - gx.1) (0, [], none, 0) (by exact ⟨Nat.zero_le _, rfl⟩) (.cons rfl (.cons rfl (.cons rfl (.cons rfl (.cons rfl (.cons rfl (.cons rfl (.cons rfl (.cons rfl (.cons rfl (.cons rfl .nil))))))))))) (fun _ h => (h.ownNil 62 7)) ?_
        rintro ⟨i, fl, pf_, cf_⟩ ⟨hi, hF⟩
        show VC _ _ _ _ _ ([(21, .slice pf_ fl.length cf_), (22, .int .i64 (i : Nat))] ++ _) ([own 62 7 pf_ cf_ (fl.map evC)] ++ _) _ _
        dsimp only at hi hF
        have hfl3 : fl.length ≤ 3 * i := by rw [hF]; exact fl_len hev3 i hi
        refine VC.seq ?_
        refine VC.seq ?_
        refine VC.reg (VO.l (LO.mv (.r rfl)) rfl<|VO.l (LO.mv (.r rfl)) rfl<|VO.l (LO.len S54 (.r rfl) rfl) rfl<|VO.l (LO.lt (.r rfl) (.r rfl)) rfl<|VO.nil ?_)
        refine VE.seqN ?_
        refine VC.cond rfl (fun h104 => ?_) (fun h104 => ?_)
        ·
          refine VC.skip (VE.seqN ?_)
          refine VC.seq ?_
          refine VC.block ?_
          refine VC.reg (VO.l (LO.mv (.r rfl)) rfl<|VO.l (LO.mv (.r rfl)) rfl<|VO.l (LO.mv (.r rfl)) rfl<|VO.l (LO.ixo S54 N60 (fun _ hw => (own_rows hw 34 rfl).some (by rw [List.length_map])) (.r rfl) (.r rfl) rfl (by omega)) rfl<|VO.l (LO.ld O60 (.r rfl) (fun w hw => cells_part (off := 0) (own_cell hw 34 rfl (getD_some (d := RowA.z) (by omega))) ⟨_, rfl⟩)) rfl<|VO.h rfl<|HO.appN (f := evC) (l := fl) (m := (y1.evs.getD i RowA.z).l) 0 (fun R => [R,_,_,_,_,_,_,_,_,_,_,_,_,_,_,_,_,_,_,_,_,_,_,_,_,_,_,_,_,_,_,_,_,_,_,_,_]) S60 S60 I62 (.r rfl) (.r rfl) rfl (fun w2 hw2 => ((RR.of_own hw2 34 35 rfl rfl).2 _ (getD_mem (d := RowA.z) (by omega))).2) (fun _ => rfl) (fun _ => rfl) rfl rfl (fun _ => rfl) rfl rfl (by have := hev3 i (by omega); omega) fun p5 c5 _ => VO.h rfl<|HO.lo (LO.as (.r rfl))<|VO.nil ?_)
          refine VE.inN (VE.seqN ?_)
          refine VC.reg (VO.l (LO.mv (.r rfl)) rfl<|VO.l (LO.add (.r rfl) (.r rfl) (wi (by omega) (by omega))) rfl<|VO.l (LO.as (.r rfl)) rfl<|VO.nil ?_)
          refine VE.thenN fun a w ha hw => ⟨(i + 1, fl ++ (y1.evs.getD i RowA.z).l, p5, c5), ⟨by dsimp only; omega, by dsimp only; rw [hF]; exact (fl_step (by omega)).symm⟩, (by dsimp only; omega), ha.sub (.cons (congrArg (fun n => some (Value.slice p5 n c5)) (by rw [List.length_append]; try rfl)) (.cons rfl (.cons rfl (.cons rfl (.cons rfl (.cons rfl (.cons rfl (.cons rfl (.cons rfl (.cons rfl (.cons rfl .nil))))))))))), (by exact selK (L1 := [_,_,_,_,_,_,_,_,_,_,_,_,_,_,_,_,_,_,_,_,_,_,_,_,_,_,_,_,_,_,_,_,_,_,_,_,_]) [0,1,2,3,4,5,6,7,8,9,10,11,12,13,14,15,16,17,18,19,20,21,22,23,24,25,26,27,28,29,30,31,32,33,34,35,36] rfl rfl _ hw)⟩
        ·
          have hfl2 : fl = (evB (drSp d) (l.map CP.c) bs bs.length).flatten := by rw [hF, List.take_of_length_le (by omega), hy1.2.2.1]
          refine VC.exit (VE.thenX (VE.thenX (VE.inX (VE.seqN ?_))))
          refine VC.seq ?_
          refine VC.seq ?_
          refine VC.reg (VO.l (LO.as (.r rfl)) rfl<|VO.nil ?_)
          refine VE.seqN ?_
          refine VC.block ?_
          refine VC.perm [24,25,26,27,28,29,30,31,32,33,14,15,16,17,18,19,20,21,22,23,1,2,3,4,5,6,7,8,9,10,0,11,12,13,34,35,36] rfl ?_
          refine VC.loopK (α := Nat × OfM × OfM × OfM) 30 (fun gx => [(23, .int .i64 (gx.1 : Nat))]) [(2,_), (3,_), (9,_), (10,_), (11,_), (13,_), (15,_), (17,_), (21,_)] (fun gx => [OfM.blk gx.2.1, OfM.rgR gx.2.1, OfM.pxB gx.2.1, OfM.rcR gx.2.1, OfM.rcB gx.2.1, OfM.tsR gx.2.1, OfM.csR gx.2.1, OfM.csB gx.2.1, OfM.lgR gx.2.1, OfM.lgB gx.2.1, OfM.blk gx.2.2.1, OfM.rgR gx.2.2.1, OfM.pxB gx.2.2.1, OfM.rcR gx.2.2.1, OfM.rcB gx.2.2.1, OfM.tsR gx.2.2.1, OfM.csR gx.2.2.1, OfM.csB gx.2.2.1, OfM.lgR gx.2.2.1, OfM.lgB gx.2.2.1, OfM.blk gx.2.2.2, OfM.rgR gx.2.2.2, OfM.pxB gx.2.2.2, OfM.rcR gx.2.2.2, OfM.rcB gx.2.2.2, OfM.tsR gx.2.2.2, OfM.csR gx.2.2.2, OfM.csB gx.2.2.2, OfM.lgR gx.2.2.2, OfM.lgB gx.2.2.2]) (fun gx => (gx.1 ≤ ns.length ∧ gx.2.1.b = y1.o.b ∧ gx.2.2.1.b = o2.b ∧ gx.2.2.2.b = y2.o.b) ∧ PlB (drSp d) (laE bs (l.map CP.c) ns (fun z => z)) gx.2.1 (bs.length + gx.1) ∧ PlB (drSp d) (lbE bs (l.map CP.c) ns (fun z => z)) gx.2.2.1 gx.1 ∧ PlB (drSp d) (laE bs (l.map CP.c) ns (fun z => z.tdiv 2)) gx.2.2.2 (bs.length + gx.1)) (fun gx => ns.length - gx.1) (0, y1.o, o2, y2.o) (by exact ⟨⟨Nat.zero_le _, rfl, rfl, rfl⟩, hA0, hB0, hC0⟩) (.cons rfl (.cons rfl (.cons rfl (.cons rfl (.cons rfl (.cons rfl (.cons rfl (.cons rfl (.cons rfl (.cons rfl .nil)))))))))) (fun _ h => h) ?_
          rintro ⟨i, oa_, ob_, oc_⟩ ⟨⟨hi, hab, hbb, hcb⟩, hA, hB, hC⟩
          show VC _ _ _ _ _ ([(23, .int .i64 (i : Nat))] ++ _) ([OfM.blk oa_, OfM.rgR oa_, OfM.pxB oa_, OfM.rcR oa_, OfM.rcB oa_, OfM.tsR oa_, OfM.csR oa_, OfM.csB oa_, OfM.lgR oa_, OfM.lgB oa_, OfM.blk ob_, OfM.rgR ob_, OfM.pxB ob_, OfM.rcR ob_, OfM.rcB ob_, OfM.tsR ob_, OfM.csR ob_, OfM.csB ob_, OfM.lgR ob_, OfM.lgB ob_, OfM.blk oc_, OfM.rgR oc_, OfM.pxB oc_, OfM.rcR oc_, OfM.rcB oc_, OfM.tsR oc_, OfM.csR oc_, OfM.csB oc_, OfM.lgR oc_, OfM.lgB oc_] ++ _) _ _
          dsimp only at hi hab hbb hcb hA hB hC
          rw [← hab, ← hbb, ← hcb]
          refine VC.seq ?_
          refine VC.seq ?_
          refine VC.reg (VO.l (LO.mv (.r rfl)) rfl<|VO.l (LO.mv (.r rfl)) rfl<|VO.l (LO.len S120 (.r rfl) rfl) rfl<|VO.l (LO.lt (.r rfl) (.r rfl)) rfl<|VO.nil ?_)
          refine VE.seqN ?_
          refine VC.cond rfl (fun h116 => ?_) (fun h116 => ?_)
          ·
            obtain ⟨x, hx⟩ : ∃ x, ns[i]? = some x := ⟨_, List.getElem?_eq_getElem (by omega)⟩
            obtain ⟨x2, hx2⟩ : ∃ x, ns[ns.length - 1 - i]? = some x := ⟨_, List.getElem?_eq_getElem (by omega)⟩
            have hxm := List.mem_of_getElem? hx
            have hxm2 := List.mem_of_getElem? hx2
            obtain ⟨htx,_, hwx⟩ := hxs x hxm
            obtain ⟨htx2,_, hwx2⟩ := hxs x2 hxm2
            unfold U16 at htx htx2
            unfold U8 at hwx hwx2
            have hhw := (half_wd hwx).1
            refine VC.skip (VE.seqN ?_)
            refine VC.seq ?_
            refine VC.block ?_
            refine VC.seq ?_
            refine VC.drawB [⟨12,24, fun b => .pointer (some ⟨b, 0, none⟩), 122, #[.int .u16 0, .int .u8 0, .int .u8 0, .int .u8 0, .int .u8 0, .int .u8 0, .int .u8 0, .int .u8 0, .int .u8 0, .int .u8 0, .int .u8 0, .int .u8 0, .int .u8 0, .int .u8 0, .int .u8 0, .int .u8 0, .int .u8 0, .int .u8 0, .int .u8 0, .int .u8 0, .int .u8 0, .int .u8 0]⟩, ⟨13,25, fun b => .pointer (some ⟨b, 0, none⟩), 122, #[.int .u16 0, .int .u8 0, .int .u8 0, .int .u8 0, .int .u8 0, .int .u8 0, .int .u8 0, .int .u8 0, .int .u8 0, .int .u8 0, .int .u8 0, .int .u8 0, .int .u8 0, .int .u8 0, .int .u8 0, .int .u8 0, .int .u8 0, .int .u8 0, .int .u8 0, .int .u8 0, .int .u8 0, .int .u8 0]⟩] [[0,1,2,3,4,5,6,7,8,9,10,11,12,13,14,15,16,17,18,19,20,21,22,23,24,25,26,27,28,29,30,31,32,33,34,35,36], [0,1,2,3,4,5,6,7,8,9,10,11,12,13,14,15,16,17,18,19,20,21,22,23,24,25,26,27,28,29,30,31,32,33,34,35,36], [0,1,2,3,4,5,6,7,8,9,10,11,12,13,14,15,16,17,18,19,20,21,22,23,24,25,26,27,28,29,30,31,32,33,34,35,36], [0,1,2,3,4,5,6,7,8,9,10,11,12,13,14,15,16,17,18,19,20,21,22,23,24,25,26,27,28,29,30,31,32,33,34,35,36], [0,1,2,3,4,5,6,7,8,9,10,11,12,13,14,15,16,17,18,19,20,21,22,23,24,25,26,27,28,29,30,31,32,33,34,35,36]] [some 2, some 2, some 2, some 2, some 3, some 3, some 3, some 3, some 3, some 3, some 3, some 3, none, none, none, none] mixed (by kernel_rfl) rfl (LX.l (fun _ hJ => LO.mv (.r rfl)) rfl<|LX.l (fun _ hJ => LO.mv (.r rfl)) rfl<|LX.l (fun _ hJ => LO.ixs S120 N122 hNs.rows.sm (.r rfl) (.r rfl) rfl (by omega)) rfl<|LX.l (fun _ hJ => LO.lda (vs := x.cells) A122 (.r rfl) (fun w2 hw2 => (hNs.rows.keep w2 hw2).cells _ _ (by rw [List.getElem?_map, hx]; rfl)) (by rw [SgM.len (hxs x hxm)]; rfl)) rfl<|LX.l (fun _ hJ => LO.mv (.r rfl)) rfl<|LX.l (fun _ hJ => LO.mv (.r rfl)) rfl<|LX.l (fun _ hJ => LO.len S120 (.r rfl) rfl) rfl<|LX.l (fun _ hJ => LO.sub (.r rfl) (.r rfl) (wi (by omega) (by omega))) rfl<|LX.l (fun _ hJ => LO.mv (.r rfl)) rfl<|LX.l (fun _ hJ => LO.sub (.r rfl) (.r rfl) (wi (by omega) (by omega))) rfl<|LX.l (fun _ hJ => LO.ixs S120 N122 hNs.rows.sm (.r rfl) (.r rfl) (show _ = ((ns.length - 1 - i : Nat) : Int) by omega) (by omega)) rfl<|LX.l (fun _ hJ => LO.lda (vs := x2.cells) A122 (.r rfl) (fun w2 hw2 => (hNs.rows.keep w2 hw2).cells _ _ (by rw [List.getElem?_map, hx2]; rfl)) (by rw [SgM.len (hxs x2 hxm2)]; rfl)) rfl<|LX.s<|LX.s<|LX.s<|LX.s<|LX.nil) (⟨⟨rfl,_, rfl, FO.alloc Z122 rfl⟩, ⟨⟨rfl,_, rfl, FO.alloc Z122 rfl⟩, trivial⟩⟩) (HY.s<|HY.s<|HY.s<|HY.s<|HY.s<|HY.s<|HY.s<|HY.s<|HY.s<|HY.s<|HY.s<|HY.s<|HY.f rfl fun b47 => ⟨selJ (L1 := [_,_,_,_,_,_,_,_,_,_,_,_,_,_,_,_,_,_,_,_,_,_,_,_,_,_,_,_,_,_,_,_,_,_,_,_,_]) [1,2,3,4,5,6,7,8,9,10,11,12,13,14,15,16,17,18,19,20,21,22,23,24,25,26,27,28,29,30,31,32,33,34,35,36,37] rfl rfl rfl, HY.f rfl fun b48 => ⟨selJ (L1 := [_,_,_,_,_,_,_,_,_,_,_,_,_,_,_,_,_,_,_,_,_,_,_,_,_,_,_,_,_,_,_,_,_,_,_,_,_]) [2,3,4,5,6,7,8,9,10,11,12,13,14,15,16,17,18,19,20,21,22,23,24,25,26,27,28,29,30,31,32,33,34,35,36,37,38] rfl rfl rfl, HY.h0 rfl fun X => HO.st 1 (vs := x.cells) (C' := x.cells) (L' := [_,_,_,_,_,_,_,_,_,_,_,_,_,_,_,_,_,_,_,_,_,_,_,_,_,_,_,_,_,_,_,_,_,_,_,_,_,_,_] ++ X) (by rw [SgM.len (hxs x hxm)]; exact N122) rfl rfl rfl rfl (sgF (hxs x hxm)) (sgO x) (sgC (hxs x hxm)) rfl<|⟨[_,_,_,_,_,_,_,_,_,_,_,_,_,_,_,_,_,_,_,_,_,_,_,_,_,_,_,_,_,_,_,_,_,_,_,_,_,_,_], rfl, selJ (L1 := [_,_,_,_,_,_,_,_,_,_,_,_,_,_,_,_,_,_,_,_,_,_,_,_,_,_,_,_,_,_,_,_,_,_,_,_,_]) [2,3,4,5,6,7,8,9,10,11,12,13,14,15,16,17,18,19,20,21,22,23,24,25,26,27,28,29,30,31,32,33,34,35,36,37,38] rfl rfl rfl, HY.h0 rfl fun X => HO.st 0 (vs := x2.cells) (C' := x2.cells) (L' := [_,_,_,_,_,_,_,_,_,_,_,_,_,_,_,_,_,_,_,_,_,_,_,_,_,_,_,_,_,_,_,_,_,_,_,_,_,_,_] ++ X) (by rw [SgM.len (hxs x2 hxm2)]; exact N122) rfl rfl rfl rfl (sgF (hxs x2 hxm2)) (sgO x2) (sgC (hxs x2 hxm2)) rfl<|⟨[_,_,_,_,_,_,_,_,_,_,_,_,_,_,_,_,_,_,_,_,_,_,_,_,_,_,_,_,_,_,_,_,_,_,_,_,_,_,_], rfl, selJ (L1 := [_,_,_,_,_,_,_,_,_,_,_,_,_,_,_,_,_,_,_,_,_,_,_,_,_,_,_,_,_,_,_,_,_,_,_,_,_]) [2,3,4,5,6,7,8,9,10,11,12,13,14,15,16,17,18,19,20,21,22,23,24,25,26,27,28,29,30,31,32,33,34,35,36,37,38] rfl rfl rfl, HY.nil ?_⟩⟩⟩⟩)
            refine VE.seqN ?_
            refine VC.seq ?_
            refine VC.drawG [] [10,23,38] [[0,1,2,3,4,5,6,7,8,9,10,11,12,13,14,15,16,17,18,19,20,21,22,23,24,25,26,27,28,29,30,31,32,33,34,35,36,37,38], [0,1,2,3,4,5,6,7,8,9,10,11,12,13,14,15,16,17,18,19,20,21,22,23,24,25,26,27,28,29,30,31,32,33,34,35,36,37,38], [0,1,12,13,14,15,16,17,18,19,20,21,22,23,24,25,26,27,28,29,30,31,32,33,34,35,36,37,38], [0,1,12,13,14,15,16,17,18,19,20,21,22,23,24,25,26,27,28,29,30,31,32,33,34,35,36,37,38], [0,1,22,23,24,25,26,27,28,29,30,31,32,33,34,35,36,37,38], [0,1,22,23,24,25,26,27,28,29,30,31,32,33,34,35,36,37,38], [0,1,32,33,34,35,36,37,38]] [some 1, some 1, some 1, some 1, some 1, some 0, some 0, some 0, some 0, none, none, some 2, some 2, some 3, some 3, some 3, some 3, some 3, some 2, some 2, some 2, some 2, none, none, some 4, some 4, some 4, some 5, some 5, some 5, some 5, some 5, some 4, some 4, some 4, some 4, some 4, none, none, some 6, some 6] mixed (by kernel_rfl) rfl (LXD.l (fun _ hJ => LO.mv (.r rfl)) rfl<|LXD.l (fun _ hJ => LO.fa (r := 0) F122_0 (.r rfl) rfl) rfl<|LXD.l (fun _ hJ => LO.ld O46 (.r rfl) (fun _ hw => cells_at (hJ _ hw) 1 rfl (⟨_, rfl⟩))) rfl<|LXD.l (fun _ hJ => LO.cv ⟨_, Try.underlying46⟩ Try.underlying3 (.r rfl) (wi (by omega) (by omega))) rfl<|LXD.l (fun _ hJ => LO.rem (.r rfl) (.r rfl) (by omega)) rfl<|LXD.l (fun _ hJ => LO.lda (vs := x.cells) A122 (.r rfl) (fun _ hw => cells_at (hJ _ hw) 1 rfl (⟨[], by simp⟩)) (by rw [SgM.len (hxs x hxm)]; rfl)) rfl<|LXD.l (fun _ hJ => LO.fa (r := 21) F122_2 (.r rfl) rfl) rfl<|LXD.l (fun _ hJ => LO.ld O5 (.r rfl) (fun _ hw => cells_at (hJ _ hw) 1 rfl ((sg_wd (hxs x hxm))))) rfl<|LXD.l (fun _ hJ => LO.cv ⟨_, Try.underlying5⟩ Try.underlying3 (.r rfl) (wi (by omega) (by omega))) rfl<|LXD.s rfl<|LXD.d (.int .i64 0) rfl<|LXD.l (fun _ hJ => LO.ne (.r rfl) (.r rfl)) rfl<|LXD.l (fun _ hJ => LO.mv (.r rfl)) rfl<|LXD.lg rfl rfl (GD.f _) (fun hg _ hJ => LO.mv (.r rfl)) rfl<|LXD.lg rfl rfl (GD.f _) (fun hg _ hJ => LO.fa (r := 0) F122_0 (.r rfl) rfl) rfl<|LXD.lg rfl rfl (GD.f _) (fun hg _ hJ => LO.ld O46 (.g hg rfl) (fun _ hw => cells_at (hJ _ hw) 0 rfl (⟨_, rfl⟩))) rfl<|LXD.lg rfl rfl (GD.f _) (fun hg _ hJ => LO.cv ⟨_, Try.underlying46⟩ Try.underlying3 (.g hg rfl) (wi (by omega) (by omega))) rfl<|LXD.lg rfl rfl (GD.f _) (fun hg _ hJ => LO.rem (.g hg rfl) (.r rfl) (by omega)) rfl<|LXD.lg rfl rfl (GD.f _) (fun hg _ hJ => LO.lda (vs := x2.cells) A122 (.r rfl) (fun _ hw => cells_at (hJ _ hw) 0 rfl (⟨[], by simp⟩)) (by rw [SgM.len (hxs x2 hxm2)]; rfl)) rfl<|LXD.lg rfl rfl (GD.f _) (fun hg _ hJ => LO.fa (r := 21) F122_2 (.r rfl) rfl) rfl<|LXD.lg rfl rfl (GD.f _) (fun hg _ hJ => LO.ld O5 (.g hg rfl) (fun _ hw => cells_at (hJ _ hw) 0 rfl ((sg_wd (hxs x2 hxm2))))) rfl<|LXD.lg rfl rfl (GD.f _) (fun hg _ hJ => LO.cv ⟨_, Try.underlying5⟩ Try.underlying3 (.g hg rfl) (wi (by omega) (by omega))) rfl<|LXD.s rfl<|LXD.dg (.int .i64 0) rfl<|LXD.lg rfl rfl (GD.f _) (fun hg _ hJ => LO.ne (.r rfl) (.r rfl)) rfl<|LXD.l (fun _ hJ => LO.pkO (.r rfl) (.r rfl) rfl rfl) rfl<|LXD.l (fun _ hJ => LO.mv (.r rfl)) rfl<|LXD.lg rfl rfl (GD.f _) (fun hg _ hJ => LO.mv (.r rfl)) rfl<|LXD.lg rfl rfl (GD.f _) (fun hg _ hJ => LO.fa (r := 0) F122_0 (.r rfl) rfl) rfl<|LXD.lg rfl rfl (GD.f _) (fun hg _ hJ => LO.ld O46 (.g hg rfl) (fun _ hw => cells_at (hJ _ hw) 1 rfl (⟨_, rfl⟩))) rfl<|LXD.lg rfl rfl (GD.f _) (fun hg _ hJ => LO.cv ⟨_, Try.underlying46⟩ Try.underlying3 (.g hg rfl) (wi (by omega) (by omega))) rfl<|LXD.lg rfl rfl (GD.f _) (fun hg _ hJ => LO.rem (.g hg rfl) (.r rfl) (by omega)) rfl<|LXD.lg rfl rfl (GD.f _) (fun hg _ hJ => LO.lda (vs := x.cells) A122 (.r rfl) (fun _ hw => cells_at (hJ _ hw) 1 rfl (⟨[], by simp⟩)) (by rw [SgM.len (hxs x hxm)]; rfl)) rfl<|LXD.lg rfl rfl (GD.f _) (fun hg _ hJ => LO.fa (r := 21) F122_2 (.r rfl) rfl) rfl<|LXD.lg rfl rfl (GD.f _) (fun hg _ hJ => LO.ld O5 (.g hg rfl) (fun _ hw => cells_at (hJ _ hw) 1 rfl ((sg_wd (hxs x hxm))))) rfl<|LXD.lg rfl rfl (GD.f _) (fun hg _ hJ => LO.cv ⟨_, Try.underlying5⟩ Try.underlying3 (.g hg rfl) (wi (by omega) (by omega))) rfl<|LXD.lg rfl rfl (GD.f _) (fun hg _ hJ => LO.quo (.g hg rfl) (.r rfl) (by omega) (wi (by omega) (by omega))) rfl<|LXD.s rfl<|LXD.dg (.int .i64 0) rfl<|LXD.lg rfl rfl (GD.f _) (fun hg _ hJ => LO.ne (.r rfl) (.r rfl)) rfl<|LXD.l (fun _ hJ => LO.pkO (.r rfl) (.r rfl) rfl rfl) rfl<|LXD.nil) (trivial) (HYE.s<|HYE.s<|HYE.s<|HYE.s<|HYE.s<|HYE.s<|HYE.s<|HYE.s<|HYE.s<|HYE.h rfl rfl rfl fun X => HO.callx (xs := [_,_]) (vs := [_,_]) C43 ⟨(.r rfl), (.r rfl), trivial⟩ (fun w _ => field_c x x.wd w (hxs x hxm) (hxs x hxm).2.2) fun v1 _ => ⟨[_,_,_,_,_,_,_,_,_,_,_,_,_,_,_,_,_,_,_,_,_,_,_,_,_,_,_,_,_,_,_,_,_,_,_,_,_,_,_,_], rfl, selJ (L1 := [_,_,_,_,_,_,_,_,_,_,_,_,_,_,_,_,_,_,_,_,_,_,_,_,_,_,_,_,_,_,_,_,_,_,_,_,_,_,_]) [1,2,3,4,5,6,7,8,9,10,11,12,13,14,15,16,17,18,19,20,21,22,23,24,25,26,27,28,29,30,31,32,33,34,35,36,37,38,39] rfl rfl rfl, HYE.d rfl rfl fun X => HO.callP (first := []) (cap := []) (xs := [_,_,_,_]) (vs := [_,_,_,_]) [_,_,_,_,_,_,_,_,_,_] ([_,_,_,_,_,_,_,_,_,_,_,_,_,_,_,_,_,_,_,_,_,_,_,_,_,_,_,_,_,_] ++ X) (selKT (L1 := [_,_,_,_,_,_,_,_,_,_]) (L2 := [_,_,_,_,_,_,_,_,_,_,_,_,_,_,_,_,_,_,_,_,_,_,_,_,_,_,_,_,_,_]) [3,4,5,6,7,8,9,10,11,12,0,1,2,13,14,15,16,17,18,19,20,21,22,23,24,25,26,27,28,29,30,31,32,33,34,35,36,37,38,39] rfl rfl rfl) (.r rfl) C31 ⟨(.r rfl), (.r rfl), (.r rfl), (.r rfl), trivial⟩ (fun w hw hh => Note_c oa_ (x.t.tmod 5000) ⟨gD, vlF x.px (x.wd) 20⟩ v1.1 v1.2 100 w (by have := hA.a.sim.wf.n; omega) hh (fun hs => own_inv_rows (restInv (selK (L1 := offR oa_ ++ [_]) [3,4,5,6,7,8,9,10,11,12,0] rfl rfl w hw) hs (.head _))) ((hA.a.nt (x := ntE2 (fun z => z) x) (by show ¬ (100 : Int) = 0; decide)).trans (hallA _ _ (la_nt hx)))) fun n1 _ => ⟨rfl, [_,_,_,_,_,_,_,_,_,_,_,_,_,_,_,_,_,_,_,_,_,_,_,_,_,_,_,_,_,_,_,_,_,_,_,_,_,_,_,_], rfl, selJ (L1 := [_,_,_,_,_,_,_,_,_,_,_,_,_,_,_,_,_,_,_,_,_,_,_,_,_,_,_,_,_]) [11,12,13,14,15,16,17,18,19,20,21,22,23,24,25,26,27,28,29,30,31,32,33,34,35,36,37,38,39] rfl rfl rfl, HYE.s<|HYE.s<|HYE.s<|HYE.s<|HYE.s<|HYE.s<|HYE.s<|HYE.s<|HYE.s<|HYE.s<|HYE.s<|HYE.hG rfl rfl rfl rfl (by show some (Value.bool _) = some (Value.bool false); simp) fun X => have hg := (show (!(!decide ((0 : Int) = 0))) = true by simp); HO.callx (xs := [_,_]) (vs := [_,_]) C43 ⟨(.g hg rfl), (.g hg rfl), trivial⟩ (fun w _ => field_c x2 x2.wd w (hxs x2 hxm2) (hxs x2 hxm2).2.2) fun v2 _ => ⟨[_,_,_,_,_,_,_,_,_,_,_,_,_,_,_,_,_,_,_,_,_,_,_,_,_,_,_,_,_,_,_,_,_,_,_,_,_,_,_,_,_], rfl, selJ (L1 := [_,_,_,_,_,_,_,_,_,_,_,_,_,_,_,_,_,_,_,_,_,_,_,_,_,_,_,_,_]) [12,13,14,15,16,17,18,19,20,21,22,23,24,25,26,27,28,29,30,31,32,33,34,35,36,37,38,39,40] rfl rfl rfl, HYE.dG rfl rfl rfl (by show some (Value.bool _) = some (Value.bool false); simp) fun X => have hg := (show (!(!decide ((0 : Int) = 0))) = true by simp); HO.callP (first := []) (cap := []) (xs := [_,_,_,_]) (vs := [_,_,_,_]) [_,_,_,_,_,_,_,_,_,_] ([_,_,_,_,_,_,_,_,_,_,_,_,_,_,_,_,_,_,_,_,_,_,_,_,_,_,_,_,_,_,_] ++ X) (selKT (L1 := [_,_,_,_,_,_,_,_,_,_]) (L2 := [_,_,_,_,_,_,_,_,_,_,_,_,_,_,_,_,_,_,_,_,_,_,_,_,_,_,_,_,_,_,_]) [14,15,16,17,18,19,20,21,22,23,0,1,2,3,4,5,6,7,8,9,10,11,12,13,24,25,26,27,28,29,30,31,32,33,34,35,36,37,38,39,40] rfl rfl rfl) (.r rfl) C31 ⟨(.g hg rfl), (.g hg rfl), (.r rfl), (.r rfl), trivial⟩ (fun w hw hh => Note_c ob_ (x2.t.tmod 5000) ⟨gD, vlF x2.px (x2.wd) 20⟩ v2.1 v2.2 100 w (by have := hB.a.sim.wf.n; omega) hh (fun hs => own_inv_rows (restInv (selK (L1 := offR ob_ ++ [_]) [14,15,16,17,18,19,20,21,22,23,0] rfl rfl w hw) hs (.head _))) ((hB.a.nt (x := ntE2 (fun z => z) x2) (by show ¬ (100 : Int) = 0; decide)).trans (hallB _ _ (lb_nt hx2 (by omega))))) fun n2 _ => ⟨rfl, [_,_,_,_,_,_,_,_,_,_,_,_,_,_,_,_,_,_,_,_,_,_,_,_,_,_,_,_,_,_,_,_,_,_,_,_,_,_,_,_,_], rfl, selJ (L1 := [_,_,_,_,_,_,_,_,_,_,_,_,_,_,_,_,_,_,_]) [22,23,24,25,26,27,28,29,30,31,32,33,34,35,36,37,38,39,40] rfl rfl rfl, HYE.s<|HYE.s<|HYE.s<|HYE.s<|HYE.s<|HYE.s<|HYE.s<|HYE.s<|HYE.s<|HYE.s<|HYE.s<|HYE.s<|HYE.s<|HYE.hG rfl rfl rfl rfl (by show some (Value.bool _) = some (Value.bool false); simp) fun X => have hg := (show (!(!decide ((0 : Int) = 0) || !decide ((0 : Int) = 0))) = true by simp); HO.callx (xs := [_,_]) (vs := [_,_]) C43 ⟨(.g hg rfl), (.g hg rfl), trivial⟩ (fun w _ => field_c x (x.wd.tdiv 2) w (hxs x hxm) (half_wd (hxs x hxm).2.2).1) fun v3 _ => ⟨[_,_,_,_,_,_,_,_,_,_,_,_,_,_,_,_,_,_,_,_,_,_,_,_,_,_,_,_,_,_,_,_,_,_,_,_,_,_,_,_,_,_], rfl, selJ (L1 := [_,_,_,_,_,_,_,_,_,_,_,_,_,_,_,_,_,_,_]) [23,24,25,26,27,28,29,30,31,32,33,34,35,36,37,38,39,40,41] rfl rfl rfl, HYE.dG rfl rfl rfl (by show some (Value.bool _) = some (Value.bool false); simp) fun X => have hg := (show (!(!decide ((0 : Int) = 0) || !decide ((0 : Int) = 0))) = true by simp); HO.callP (first := []) (cap := []) (xs := [_,_,_,_]) (vs := [_,_,_,_]) [_,_,_,_,_,_,_,_,_,_] ([_,_,_,_,_,_,_,_,_,_,_,_,_,_,_,_,_,_,_,_,_,_,_,_,_,_,_,_,_,_,_,_] ++ X) (selKT (L1 := [_,_,_,_,_,_,_,_,_,_]) (L2 := [_,_,_,_,_,_,_,_,_,_,_,_,_,_,_,_,_,_,_,_,_,_,_,_,_,_,_,_,_,_,_,_]) [25,26,27,28,29,30,31,32,33,34,0,1,2,3,4,5,6,7,8,9,10,11,12,13,14,15,16,17,18,19,20,21,22,23,24,35,36,37,38,39,40,41] rfl rfl rfl) (.r rfl) C31 ⟨(.g hg rfl), (.g hg rfl), (.r rfl), (.r rfl), trivial⟩ (fun w hw hh => Note_c oc_ (x.t.tmod 5000) ⟨gD, vlF x.px ((x.wd.tdiv 2)) 20⟩ v3.1 v3.2 100 w (by have := hC.a.sim.wf.n; omega) hh (fun hs => own_inv_rows (restInv (selK (L1 := offR oc_ ++ [_]) [25,26,27,28,29,30,31,32,33,34,0] rfl rfl w hw) hs (.head _))) ((hC.a.nt (x := ntE2 (fun z => z.tdiv 2) x) (by show ¬ (100 : Int) = 0; decide)).trans (hallC _ _ (la_nt hx)))) fun n3 _ => ⟨rfl, [_,_,_,_,_,_,_,_,_,_,_,_,_,_,_,_,_,_,_,_,_,_,_,_,_,_,_,_,_,_,_,_,_,_,_,_,_,_,_,_,_,_], rfl, selJ (L1 := [_,_,_,_,_,_,_,_,_]) [33,34,35,36,37,38,39,40,41] rfl rfl rfl, HYE.s<|HYE.s<|HYE.nil ?_⟩⟩⟩⟩⟩⟩)
            refine VE.seqN ?_
            refine VC.weak (env' := [(2,_), (3,_), (9,_), (10,_), (11,_), (13,_), (15,_), (17,_), (21,_), (23,_), (171,_)]) (.cons rfl (.cons rfl (.cons rfl (.cons rfl (.cons rfl (.cons rfl (.cons rfl (.cons rfl (.cons rfl (.cons rfl (.cons rfl .nil))))))))))) (fun _ h => h) ?_
            refine VC.cond rfl (fun h171 => ?_) (fun h171 => ?_)
            ·
              (exfalso; simp at h171)
            ·
              refine VC.skip (VE.inN (VE.seqN ?_))
              refine VC.reg (VO.l (LO.mv (.r rfl)) rfl<|VO.l (LO.add (.r rfl) (.r rfl) (wi (by omega) (by omega))) rfl<|VO.l (LO.as (.r rfl)) rfl<|VO.nil ?_)
              refine VE.thenN fun a w ha hw => ⟨(i + 1, { oa_ with lg := oa_.lg ++ [LgM.nt (x.t.tmod 5000) gD n1.1.1 n1.1.2 (vlF x.px x.wd 20) 100], pl := n1.2.1, cl := n1.2.2 }, { ob_ with lg := ob_.lg ++ [LgM.nt (x2.t.tmod 5000) gD n2.1.1 n2.1.2 (vlF x2.px x2.wd 20) 100], pl := n2.2.1, cl := n2.2.2 }, { oc_ with lg := oc_.lg ++ [LgM.nt (x.t.tmod 5000) gD n3.1.1 n3.1.2 (vlF x.px (x.wd.tdiv 2) 20) 100], pl := n3.2.1, cl := n3.2.2 }), ⟨⟨by dsimp only; omega, rfl, rfl, rfl⟩, hA.note (x := ntE2 (fun z => z) x) (la_nt hx) (by show ¬ (100 : Int) = 0; decide) (hallA _ _ (la_nt hx)), hB.note (x := ntE2 (fun z => z) x2) (lb_nt hx2 (by omega)) (by show ¬ (100 : Int) = 0; decide) (hallB _ _ (lb_nt hx2 (by omega))), hC.note (x := ntE2 (fun z => z.tdiv 2) x) (la_nt hx) (by show ¬ (100 : Int) = 0; decide) (hallC _ _ (la_nt hx))⟩, (by dsimp only; omega), ha.sub (.cons rfl (.cons rfl (.cons rfl (.cons rfl (.cons rfl (.cons rfl (.cons rfl (.cons rfl (.cons rfl (.cons rfl .nil)))))))))), (by exact selK (L1 := [_,_,_,_,_,_,_,_,_,_,_,_,_,_,_,_,_,_,_,_,_,_,_,_,_,_,_,_,_,_,_,_,_,_,_,_,_]) [22,23,24,25,26,27,28,29,30,31,11,12,13,14,15,16,17,18,19,20,0,1,2,3,4,5,6,7,8,9,35,36,37,38,39,40,41] rfl rfl _ hw)⟩
          ·
            have hin : i = ns.length := by omega
            subst hin
            refine VC.exit (VE.thenX (VE.thenX (VE.inX (VE.seqN ?_))))
            refine VC.seq ?_
            refine VC.seq ?_
            refine VC.reg (VO.l (LO.as (.r rfl)) rfl<|VO.nil ?_)
            refine VE.seqN ?_
            refine VC.block ?_
            refine VC.perm [10,11,12,13,14,15,16,17,18,19,0,1,2,3,4,5,6,7,8,9,20,21,22,23,24,25,26,27,28,29,30,31,32,33,34,35,36] rfl ?_
            refine VC.loopK (α := Nat × OfM) 10 (fun gx => [(26, .int .i64 (gx.1 : Nat))]) [(2,_), (3,_), (9,_), (10,_), (11,_), (13,_), (15,_), (17,_), (21,_)] (fun gx => [OfM.blk gx.2, OfM.rgR gx.2, OfM.pxB gx.2, OfM.rcR gx.2, OfM.rcB gx.2, OfM.tsR gx.2, OfM.csR gx.2, OfM.csB gx.2, OfM.lgR gx.2, OfM.lgB gx.2]) (fun gx => (gx.1 ≤ bs.length ∧ gx.2.b = ob_.b) ∧ PlB (drSp d) (lbE bs (l.map CP.c) ns (fun z => z)) gx.2 (ns.length + gx.1)) (fun gx => bs.length - gx.1) (0, ob_) (by exact ⟨⟨Nat.zero_le _, rfl⟩, hB⟩) (.cons rfl (.cons rfl (.cons rfl (.cons rfl (.cons rfl (.cons rfl (.cons rfl (.cons rfl (.cons rfl (.cons rfl .nil)))))))))) (fun _ h => h) ?_
            rintro ⟨i, oq_⟩ ⟨⟨hi, hqb2⟩, hB⟩
            show VC _ _ _ _ _ ([(26, .int .i64 (i : Nat))] ++ _) ([OfM.blk oq_, OfM.rgR oq_, OfM.pxB oq_, OfM.rcR oq_, OfM.rcB oq_, OfM.tsR oq_, OfM.csR oq_, OfM.csB oq_, OfM.lgR oq_, OfM.lgB oq_] ++ _) _ _
            dsimp only at hi hqb2 hB
            rw [← hqb2]
            refine VC.seq ?_
            refine VC.seq ?_
            refine VC.reg (VO.l (LO.mv (.r rfl)) rfl<|VO.l (LO.mv (.r rfl)) rfl<|VO.l (LO.len S50 (.r rfl) rfl) rfl<|VO.l (LO.lt (.r rfl) (.r rfl)) rfl<|VO.nil ?_)
            refine VE.seqN ?_
            refine VC.cond rfl (fun h175 => ?_) (fun h175 => ?_)
            ·
              have hi1 : i < bs.length := by omega
              obtain ⟨xb, hbx⟩ : ∃ x, bs[i]? = some x := ⟨_, List.getElem?_eq_getElem hi1⟩
              have htb := tAt_bd hok (i + 1) hi1
              have hsB := hallB (ns.length + i) _ (lb_st hi1)
              have hbx2 : xb = bs.getD i ⟨0,0,0, true⟩ := by rw [List.getD_eq_getElem?_getD, hbx]; rfl
              refine VC.skip (VE.seqN ?_)
              refine VC.seq ?_
              refine VC.block ?_
              refine VC.seq ?_
              refine VC.drawCat 12 mixed (by kernel_rfl) (VA.drawH [[0,1,2,3,4,5,6,7,8,9,10,11,12,13,14,15,16,17,18,19,20,21,22,23,24,25,26,27,28,29,30,31,32,33,34,35,36], [0,1,2,3,4,5,6,7,8,9,10,11,12,13,14,15,16,17,18,19,20,21,22,23,24,25,26,27,28,29,30,31,32,33,34,35,36], [10,11,12,13,14,15,16,17,18,19,20,21,22,23,24,25,26,27,28,29,30,31,32,33,34,35,36]] [some 1, some 1, some 1, some 1, some 1, some 0, some 0, some 0, some 0, some 0, none, none] (by kernel_rfl) rfl (LX.l (fun _ hJ => LO.mv (.r rfl)) rfl<|LX.l (fun _ hJ => LO.mv (.r rfl)) rfl<|LX.l (fun _ hJ => LO.mv (.r rfl)) rfl<|LX.l (fun _ hJ => LO.ixo S55 N3 (fun _ hw => (own_rows (hJ _ hw) 36 rfl).some (by rw [List.length_map])) (.r rfl) (.r rfl) rfl (by omega)) rfl<|LX.l (fun _ hJ => LO.ld O3 (.r rfl) (fun w hw => cells_part (off := 0) (own_cell (hJ _ hw) 36 rfl (tm_at hTs hi1)) ⟨_, rfl⟩)) rfl<|LX.l (fun _ hJ => LO.mv (.r rfl)) rfl<|LX.l (fun _ hJ => LO.mv (.r rfl)) rfl<|LX.l (fun _ hJ => LO.ixs S50 N66 hBt.rows.sm (.r rfl) (.r rfl) rfl (by omega)) rfl<|LX.l (fun _ hJ => LO.lda (vs := [_,_,_,_]) A66 (.r rfl) (fun w hw => cells_part (off := 0) ((fun w2 hw2 => (hBt.rows.keep w2 hw2).cells _ _ (by rw [List.getElem?_map, hbx]; rfl)) w (hJ _ hw)) ⟨_, rfl⟩) rfl) rfl<|LX.l (fun _ hJ => LO.mv (.r rfl)) rfl<|LX.s<|LX.s<|LX.nil) (HX.s<|HX.s<|HX.s<|HX.s<|HX.s<|HX.s<|HX.s<|HX.s<|HX.s<|HX.s<|HX.h rfl<|HO.callx (xs := [_,_]) (vs := [_,_]) C23 ⟨(.r rfl), (.r rfl), trivial⟩ (fun w hw => beat_c xb l pl kl w (by omega) (hok xb (List.mem_of_getElem? hbx)) (hCl.keep w hw)) fun qb hqb => ⟨selJ (L1 := [_,_,_,_,_,_,_,_,_,_,_,_,_,_,_,_,_,_,_,_,_,_,_,_,_,_,_,_,_,_,_,_,_,_,_,_,_]) [1,2,3,4,5,6,7,8,9,10,11,12,13,14,15,16,17,18,19,20,21,22,23,24,25,26,27,28,29,30,31,32,33,34,35,36,37] rfl rfl rfl, HX.h rfl<|HO.callP (first := []) (cap := []) (xs := [_,_,_]) (vs := [_,_,_]) [_,_,_,_,_,_,_,_,_,_] [_,_,_,_,_,_,_,_,_,_,_,_,_,_,_,_,_,_,_,_,_,_,_,_,_,_,_,_] (selK (L1 := [_,_,_,_,_,_,_,_,_,_] ++ [_,_,_,_,_,_,_,_,_,_,_,_,_,_,_,_,_,_,_,_,_,_,_,_,_,_,_,_]) [1,2,3,4,5,6,7,8,9,10,0,11,12,13,14,15,16,17,18,19,20,21,22,23,24,25,26,27,28,29,30,31,32,33,34,35,36,37] rfl rfl) (.r rfl) C27 ⟨(.r rfl), (.r rfl), (.r rfl), trivial⟩ (fun w hw hh => Step_s oq_ _ (tAt bs (i + 1)) qb.2 qb.1.1 qb.1.2 w hh (fun hs => clouds_rest hCl hqb.2.2 (selK (L1 := offR oq_ ++ [_]) [1,2,3,4,5,6,7,8,9,10,0] rfl rfl w hw) hs) (by omega) hB.a.sim (by omega) (by omega) (late_lb hB hok hi1) (by rw [hB.a.len, List.length_take]; omega) (by rw [hB.a.g, hqb.1]; exact beat_look (hok xb (List.mem_of_getElem? hbx)) hCk)) fun yB hyB => ⟨selJ (L1 := [_,_,_,_,_,_,_,_,_,_,_,_,_,_,_,_,_,_,_,_,_,_,_,_,_,_,_]) [12,13,14,15,16,17,18,19,20,21,22,23,24,25,26,27,28,29,30,31,32,33,34,35,36,37,38] rfl rfl rfl, HX.nil (VE.any (VA.draw (LL.l (LO.mv (.r rfl)) rfl<|LL.l (LO.ex (.r rfl) rfl) rfl<|LL.l (LO.ex (.r rfl) rfl) rfl<|LL.l (LO.as (.r rfl)) rfl<|LL.l (LO.as (.r rfl)) rfl<|LL.nil) (by kernel_rfl) ?_))⟩⟩))
              refine VE.seqN ?_
              refine VC.weak (env' := [(2,_), (3,_), (9,_), (10,_), (11,_), (13,_), (15,_), (17,_), (21,_), (26,_), (28,_)]) (.cons rfl (.cons rfl (.cons rfl (.cons rfl (.cons rfl (.cons rfl (.cons rfl (.cons rfl (.cons rfl (.cons rfl (.cons rfl .nil))))))))))) (fun _ h => h) ?_
              refine VC.seq ?_
              have hmA : qb.2.map CP.c = fA bs (l.map CP.c) i := by rw [hqb.1, hbx2]; rfl
              have hcbA : (fA bs (l.map CP.c) i).length < 1000000000 ∧ ∀ c, c ∈ fA bs (l.map CP.c) i → c.sure.length < 1000000000000 ∧ c.may.length < 1000000000000 := ⟨by rw [← hmA, List.length_map]; omega, fun c hc => by have := hC20 c (fA_mem hok hi1 hc); omega⟩
              refine VC.reg (VO.l (LO.mv (.r rfl)) rfl<|VO.l (LO.ne (.r rfl) (.r rfl)) rfl<|VO.nil ?_)
              refine VE.seqN ?_
              refine VC.cond rfl (fun h194 => ?_) (fun h194 => ?_)
              ·
                (exfalso; exact h194 rfl)
              ·
                refine VC.skip (VE.inN (VE.seqN ?_))
                refine VC.reg (VO.l (LO.mv (.r rfl)) rfl<|VO.l (LO.add (.r rfl) (.r rfl) (wi (by omega) (by omega))) rfl<|VO.l (LO.as (.r rfl)) rfl<|VO.nil ?_)
                refine VE.thenN fun a w ha hw => ⟨(i + 1, yB.o oq_ (tAt bs (i + 1))), ⟨⟨by dsimp only; omega, rfl⟩, plb_step hB (lb_st hi1) rfl rfl hmA hcbA ⟨hyB.1, hyB.2.1⟩⟩, (by dsimp only; omega), ha.sub (.cons rfl (.cons rfl (.cons rfl (.cons rfl (.cons rfl (.cons rfl (.cons rfl (.cons rfl (.cons rfl (.cons rfl .nil)))))))))), (by exact selK (L1 := [_,_,_,_,_,_,_,_,_,_,_,_,_,_,_,_,_,_,_,_,_,_,_,_,_,_,_,_,_,_,_,_,_,_,_,_,_]) [1,2,3,4,5,6,7,8,9,10,12,13,14,15,16,17,18,19,20,21,22,23,24,25,26,27,28,29,30,31,32,33,34,35,36,37,38] rfl rfl _ hw)⟩
            ·
              have hin2 : i = bs.length := by omega
              subst hin2
              have hA2 : PlB (drSp d) (laE bs (l.map CP.c) ns (fun z => z)) oa_ (laE bs (l.map CP.c) ns (fun z => z)).length := by rw [la_len]; exact hA
              have hC2 : PlB (drSp d) (laE bs (l.map CP.c) ns (fun z => z.tdiv 2)) oc_ (laE bs (l.map CP.c) ns (fun z => z.tdiv 2)).length := by rw [la_len]; exact hC
              have hB2 : PlB (drSp d) (lbE bs (l.map CP.c) ns (fun z => z)) oq_ (lbE bs (l.map CP.c) ns (fun z => z)).length := by rw [lb_len]; exact hB
              refine VC.exit (VE.thenX (VE.thenX (VE.inX (VE.seqN ?_))))
              refine VC.weak (env' := [(2,_), (3,_), (9,_), (11,_), (15,_), (17,_), (21,_)]) (.cons rfl (.cons rfl (.cons rfl (.cons rfl (.cons rfl (.cons rfl (.cons rfl .nil))))))) (selK (L1 := [_,_,_,_,_,_,_,_,_,_,_,_,_,_,_,_,_,_,_,_,_,_,_,_,_,_,_,_,_,_,_]) [10,11,12,13,14,15,16,17,18,19,0,1,2,3,4,5,6,7,8,9,20,21,22,23,24,25,26,27,28,29,30] rfl rfl) ?_
              refine VC.rebase fun w2 hw2 => ?_
              have hOa : Has w2 (offR oa_) := (selK (L1 := offR oa_) [0,1,2,3,4,5,6,7,8,9] rfl rfl w2 hw2).has (List.Sublist.refl _)
              have hOb : Has w2 (offR oq_) := (selK (L1 := offR oq_) [10,11,12,13,14,15,16,17,18,19] rfl rfl w2 hw2).has (List.Sublist.refl _)
              have hOc : Has w2 (offR oc_) := (selK (L1 := offR oc_) [20,21,22,23,24,25,26,27,28,29] rfl rfl w2 hw2).has (List.Sublist.refl _)
              have hFl : RO 7 evC w2 pf_ fl := own_rows hw2 30 rfl
              exact counted_tail d (l.map CP.c) bs ns rgs pg cg pb pn pf_ cb cn cf_ fl oa_ oq_ oc_ b6 w w2 (fun L w3 h => hw1.based (hw2.based h)) hd hX hsp hN2 hok hxs hCk hA2 hB2 hC2 hOa hOb hOc (cells_keep hSp w2 hw2) (hRg.keep hw2) hFl hfl2

end Go.Proofs.Ytdjflomhaljljaa

namespace Go.Proofs.Ytdjflomhaljljaa
open Go.SL Go.Proofs Go.Cast
set_option linter.unusedVariables false


section
variable {H : Type} {enc : TypeId × Value → H} {W : World}
end

end Go.Proofs.Ytdjflomhaljljaa

namespace Go.Proofs.Ytdjflomhaljljaa
open Go.SL Go.Proofs Go.Cast
set_option linter.unusedVariables false


theorem kb_u8 {n : Int} (h : kb .u8 n) : 0 ≤ n ∧ n ≤ 255 := by simpa [kb, IntKind.min, IntKind.max, IntKind.signed, IntKind.bits] using h
theorem kb_u16 {n : Int} (h : kb .u16 n) : 0 ≤ n ∧ n ≤ 65535 := by simpa [kb, IntKind.min, IntKind.max, IntKind.signed, IntKind.bits] using h
theorem kb_i16 {n : Int} (h : kb .i16 n) : -32768 ≤ n ∧ n ≤ 32767 := by simpa [kb, IntKind.min, IntKind.max, IntKind.signed, IntKind.bits] using h
theorem K5 : Try.prog.cellsOf 5 = 1 := by kernel_rfl
theorem K45 : Try.prog.cellsOf 45 = 20 := by kernel_rfl
theorem K145 : Try.prog.cellsOf 145 = 1 := by kernel_rfl
theorem K146 : Try.prog.cellsOf 146 = 2 := by kernel_rfl
theorem K148 : Try.prog.cellsOf 148 = 25 := by kernel_rfl
theorem K66 : Try.prog.cellsOf 66 = 4 := by kernel_rfl

theorem flat_one {α : Type} {f : α → Value} : ∀ (l : List α), ((l.map fun x => [f x]).flatten) = l.map f
  | [] => rfl
  | x :: l => by simp [flat_one l]
section
variable {H : Type} {enc : TypeId × Value → H} {W : World}
theorem rd4b : RD enc Try.prog W 4 fun cs => ∃ b, cs = [.bool b] := RD.bool Try.underlying4
theorem rd5 : RD enc Try.prog W 5 fun cs => ∃ n, cs = [.int .u8 n] ∧ kb .u8 n := RD.int Try.underlying5
theorem rd46 : RD enc Try.prog W 46 fun cs => ∃ n, cs = [.int .u16 n] ∧ kb .u16 n := RD.int Try.underlying46
theorem rd145 : RD enc Try.prog W 145 fun cs => ∃ n, cs = [.int .i16 n] ∧ kb .i16 n := RD.int Try.underlying145

theorem rd45 : RD enc Try.prog W 45 fun cs => ∃ px : List Int, cs = px.map u8V ∧ px.length = 20 ∧ ∀ n, n ∈ px → U8 n := fun n cs x hx => by
  obtain ⟨css, rfl, hlen, hp⟩ := trod_cells Try.underlying45 K5 K45 hx rd5
  obtain ⟨l, rfl, hl⟩ := rows_map (f := fun n => [u8V n]) (Q := U8) (fun r hr => by obtain ⟨_, m, h1, h2⟩ := hp r hr; exact ⟨m, h1, kb_u8 h2⟩)
  exact ⟨l, flat_one l, by simpa using hlen, hl⟩
theorem rd146 : RD enc Try.prog W 146 fun cs => ∃ a b : Int, cs = [.int .i16 a, .int .i16 b] ∧ I16 a ∧ I16 b := fun n cs x hx => by
  obtain ⟨css, rfl, hlen, hp⟩ := trod_cells Try.underlying146 K145 K146 hx rd145
  match css, hlen with
  | [c0, c1],_ =>
    obtain ⟨_, a, rfl, ha⟩ := hp c0 (by simp)
    obtain ⟨_, b, rfl, hb⟩ := hp c1 (by simp)
    exact ⟨a, b, rfl, kb_i16 ha, kb_i16 hb⟩
theorem rd48 : RD enc Try.prog W 48 fun cs => ∃ d : DrM, cs = d.cells ∧ d.ok := fun n cs x hx => by
  obtain ⟨css, rfl, hlen,_, hp⟩ := trod_parts Try.underlying48 (zs := [20,1,1,1]) (by kernel_rfl) rfl (by kernel_rfl) hx
  match css, hlen with
  | [c0, c1, c2, c3],_ =>
    obtain ⟨_,_, h0⟩ := hp 0 _ c0 rfl rfl
    obtain ⟨_,_, h1⟩ := hp 1 _ c1 rfl rfl
    obtain ⟨_,_, h2⟩ := hp 2 _ c2 rfl rfl
    obtain ⟨_,_, h3⟩ := hp 3 _ c3 rfl rfl
    obtain ⟨px, rfl, hl, hu⟩ := rd45 _ _ _ h0
    obtain ⟨a, rfl, ha⟩ := rd46 _ _ _ h1
    obtain ⟨b, rfl, hb⟩ := rd46 _ _ _ h2
    obtain ⟨c, rfl, hc⟩ := rd46 _ _ _ h3
    exact ⟨⟨px, a, b, c⟩, by simp, hl, hu, kb_u16 ha, kb_u16 hb, kb_u16 hc⟩
theorem rd148 : RD enc Try.prog W 148 fun cs => ∃ c : ClM, cs = c.cells ∧ c.ok := fun n cs x hx => by
  obtain ⟨css, rfl, hlen,_, hp⟩ := trod_parts Try.underlying148 (zs := [20,2,2,1]) (by kernel_rfl) rfl (by kernel_rfl) hx
  match css, hlen with
  | [c0, c1, c2, c3],_ =>
    obtain ⟨_,_, h0⟩ := hp 0 _ c0 rfl rfl
    obtain ⟨_,_, h1⟩ := hp 1 _ c1 rfl rfl
    obtain ⟨_,_, h2⟩ := hp 2 _ c2 rfl rfl
    obtain ⟨_,_, h3⟩ := hp 3 _ c3 rfl rfl
    obtain ⟨px, rfl, hl, hu⟩ := rd45 _ _ _ h0
    obtain ⟨a, b, rfl, ha, hb⟩ := rd146 _ _ _ h1
    obtain ⟨c, d, rfl, hc, hd⟩ := rd146 _ _ _ h2
    obtain ⟨g, rfl, hg⟩ := rd5 _ _ _ h3
    exact ⟨⟨px, a, b, c, d, g⟩, by simp, hl, hu, ha, hb, hc, hd, kb_u8 hg⟩
theorem rd66 : RD enc Try.prog W 66 fun cs => ∃ b : BtM, cs = b.cells ∧ b.ok := fun n cs x hx => by
  obtain ⟨css, rfl, hlen,_, hp⟩ := trod_parts Try.underlying66 (zs := [1,1,1,1]) (by kernel_rfl) rfl (by kernel_rfl) hx
  match css, hlen with
  | [c0, c1, c2, c3],_ =>
    obtain ⟨_,_, h0⟩ := hp 0 _ c0 rfl rfl
    obtain ⟨_,_, h1⟩ := hp 1 _ c1 rfl rfl
    obtain ⟨_,_, h2⟩ := hp 2 _ c2 rfl rfl
    obtain ⟨_,_, h3⟩ := hp 3 _ c3 rfl rfl
    obtain ⟨a, rfl, ha⟩ := rd46 _ _ _ h0
    obtain ⟨b, rfl, hb⟩ := rd5 _ _ _ h1
    obtain ⟨c, rfl, hc⟩ := rd5 _ _ _ h2
    obtain ⟨d, rfl⟩ := rd4b _ _ _ h3
    exact ⟨⟨a, b, c, d⟩, rfl, kb_u16 ha, kb_u8 hb, kb_u8 hc⟩
theorem rd49 : RD enc Try.prog W 49 fun cs => ∃ (p : Option Addr) (cap : Nat) (l : List ClM), cs = [.slice p l.length cap] ∧ ClsM W p l := fun n cs x hx => by
  obtain ⟨p, cap, rows, rfl, h1, h2, h3⟩ := RD.slice Try.underlying49 K148 (by decide) rd148 _ _ _ hx
  obtain ⟨l, rfl, h5⟩ := rows_map (f := ClM.cells) (Q := ClM.ok) (fun r hr => by obtain ⟨x, h6, h7⟩ := (h3 r hr).2; exact ⟨x, h6, h7⟩)
  exact ⟨p, cap, l, by simp, h2, h5⟩
theorem rd50 : RD enc Try.prog W 50 fun cs => ∃ (p : Option Addr) (cap : Nat) (l : List BtM), cs = [.slice p l.length cap] ∧ BtsM W p l := fun n cs x hx => by
  obtain ⟨p, cap, rows, rfl, h1, h2, h3⟩ := RD.slice Try.underlying50 K66 (by decide) rd66 _ _ _ hx
  obtain ⟨l, rfl, h5⟩ := rows_map (f := BtM.cells) (Q := BtM.ok) (fun r hr => by obtain ⟨x, h6, h7⟩ := (h3 r hr).2; exact ⟨x, h6, h7⟩)
  exact ⟨p, cap, l, by simp, h2, h5⟩
end

end Go.Proofs.Ytdjflomhaljljaa

namespace Go.Proofs.Ytdjflomhaljljaa
open Go.SL Go.Proofs Go.Cast
set_option linter.unusedVariables false


theorem K122 : Try.prog.cellsOf 122 = 22 := by kernel_rfl

section
variable {H : Type} {enc : TypeId × Value → H} {W : World}
theorem rd122 : RD enc Try.prog W 122 fun cs => ∃ x : SgM, cs = x.cells ∧ x.ok := fun n cs x hx => by
  obtain ⟨css, rfl, hlen,_, hp⟩ := trod_parts Try.underlying122 (zs := [1,20,1]) (by kernel_rfl) rfl (by kernel_rfl) hx
  match css, hlen with
  | [c0, c1, c2],_ =>
    obtain ⟨_,_, h0⟩ := hp 0 _ c0 rfl rfl
    obtain ⟨_,_, h1⟩ := hp 1 _ c1 rfl rfl
    obtain ⟨_,_, h2⟩ := hp 2 _ c2 rfl rfl
    obtain ⟨a, rfl, ha⟩ := rd46 _ _ _ h0
    obtain ⟨px, rfl, hl, hu⟩ := rd45 _ _ _ h1
    obtain ⟨b, rfl, hb⟩ := rd5 _ _ _ h2
    exact ⟨⟨a, px, b⟩, by simp, kb_u16 ha, ⟨hl, hu⟩, kb_u8 hb⟩
theorem rd120 : RD enc Try.prog W 120 fun cs => ∃ (p : Option Addr) (cap : Nat) (l : List SgM), cs = [.slice p l.length cap] ∧ SgsM W p l := fun n cs x hx => by
  obtain ⟨p, cap, rows, rfl, h1, h2, h3⟩ := RD.slice Try.underlying120 K122 (by decide) rd122 _ _ _ hx
  obtain ⟨l, rfl, h5⟩ := rows_map (f := SgM.cells) (Q := SgM.ok) (fun r hr => by obtain ⟨x, h6, h7⟩ := (h3 r hr).2; exact ⟨x, h6, h7⟩)
  exact ⟨p, cap, l, by simp, h2, h5⟩
end

end Go.Proofs.Ytdjflomhaljljaa
