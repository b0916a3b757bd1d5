/-
  The tally of a region is walked.
  Tallies of an office are walked.
  What offices answer, by the entries that were played: plain. The example.
  The example of offices, by its entries: plain.
  IssueKnown is walked.
  Notes by numbers; logs are played.
  Offices are copied.
  Steps and notes of drafts, and what tallies have in common: plain.
  Tallies of drafts and what is played of their logs: plain.
  What offices answer, as contracts that say it by the entries that were played.
-/
import Derived.Test.YtdjflomhaljljaaKCNT07

namespace Go.Proofs.Ytdjflomhaljljaa
open Go.SL Go.Proofs Go.Cast
set_option linter.unusedVariables false

theorem N165 : (Try.prog.info? 165).map (·.size) = some 8 := by kernel_rfl
theorem Z165 : ZeroOf Try.prog 165 (.agg #[.int .i64 0, .int .i64 0, .int .i64 0, .int .i64 0, .int .i64 0, .int .i64 0, .slice none 0 0, .int .i64 0]) := by unfold ZeroOf; kernel_rfl
theorem C88 : IsFn Try.prog 88 := ⟨_, Try.func88, by decide, rfl⟩
theorem F112_0 : FieldAt Try.prog 112 0 0 := ⟨_,_, Try.underlying112, rfl, rfl, 0, by kernel_rfl⟩
theorem F112_1 : FieldAt Try.prog 112 1 1 := ⟨_,_, Try.underlying112, rfl, rfl, 0, by kernel_rfl⟩
theorem F112_4 : FieldAt Try.prog 112 4 4 := ⟨_,_, Try.underlying112, rfl, rfl, 0, by kernel_rfl⟩
theorem F112_2 : FieldAt Try.prog 112 2 2 := ⟨_,_, Try.underlying112, rfl, rfl, 0, by kernel_rfl⟩
theorem F112_3 : FieldAt Try.prog 112 3 3 := ⟨_,_, Try.underlying112, rfl, rfl, 0, by kernel_rfl⟩
theorem F112_5 : FieldAt Try.prog 112 5 5 := ⟨_,_, Try.underlying112, rfl, rfl, 1, by kernel_rfl⟩


theorem cnt_le {pix : List Int} {on : Int → Bool} {ns : List Nt} {x : Tal} (h : CntT pix on ns x) : (0 ≤ x.h ∧ x.h ≤ ns.length) ∧ (0 ≤ x.m ∧ x.m ≤ ns.length) ∧ (0 ≤ x.o ∧ x.o ≤ ns.length) ∧ (0 ≤ x.a ∧ x.a ≤ ns.length) ∧ (0 ≤ x.q ∧ x.q ≤ ns.length) := by
  obtain ⟨h0, h1, h2, h3, h4⟩ := h
  rw [h0, h1, h2, h3, h4]
  exact ⟨cntK_le, cntK_le, cntK_le, cntK_le, cntK_le⟩
section
variable {pix : List Int} {on : Int → Bool} {n : NtM} {c : CsM} {k : Int}
theorem kN_0 (h : hitB pix n.vs n.lv = true ∧ on n.t = true) : kNt pix on n.n = 0 := by
  unfold kNt kN; show (if (hitB pix n.vs n.lv && on n.t) = true then 0 else _) = 0; rw [h.1, h.2]; rfl
theorem kN_1 (h : ¬ (hitB pix n.vs n.lv = true ∧ on n.t = true)) (h1 : hitB pix n.vs n.lv = true) : kNt pix on n.n = 1 := by
  unfold kNt; show kN (hitB pix n.vs n.lv) (canB pix n.vs n.lv) (on n.t) = 1
  rw [h1] at h ⊢; cases q : on n.t with
  | true => exact absurd ⟨rfl, q⟩ h
  | false => cases canB pix n.vs n.lv <;> rfl
theorem kN_2 (h : ¬ (hitB pix n.vs n.lv = true ∧ on n.t = true)) (h1 : ¬ hitB pix n.vs n.lv = true) (h2 : canB pix n.vs n.lv = true) : kNt pix on n.n = 2 := by
  unfold kNt; show kN (hitB pix n.vs n.lv) (canB pix n.vs n.lv) (on n.t) = 2
  rw [h2, Bool.eq_false_iff.2 h1]; cases on n.t <;> rfl
theorem kN_3 (h : ¬ (hitB pix n.vs n.lv = true ∧ on n.t = true)) (h1 : ¬ hitB pix n.vs n.lv = true) (h2 : ¬ canB pix n.vs n.lv = true) (h3 : on n.t = true) : kNt pix on n.n = 3 := by
  unfold kNt; show kN (hitB pix n.vs n.lv) (canB pix n.vs n.lv) (on n.t) = 3
  rw [h3, Bool.eq_false_iff.2 h1, Bool.eq_false_iff.2 h2]; rfl
theorem kN_4 (h : ¬ (hitB pix n.vs n.lv = true ∧ on n.t = true)) (h1 : ¬ hitB pix n.vs n.lv = true) (h2 : ¬ canB pix n.vs n.lv = true) (h3 : ¬ on n.t = true) : kNt pix on n.n = 4 := by
  unfold kNt; show kN (hitB pix n.vs n.lv) (canB pix n.vs n.lv) (on n.t) = 4
  rw [Bool.eq_false_iff.2 h3, Bool.eq_false_iff.2 h1, Bool.eq_false_iff.2 h2]; rfl
theorem inC_of (h : ((hitB pix n.vs n.lv = true ∧ c.rg = k) ∧ c.bg ≤ n.t) ∧ n.t < c.en) : inC pix c.p n.n = true := by
  unfold inC; show ((hitB pix n.vs n.lv && decide (c.bg ≤ n.t)) && decide (n.t < c.en)) = true
  rw [h.1.1.1, decide_eq_true h.1.2, decide_eq_true h.2]; rfl
theorem inC_to (hr : c.p.rg = k) (h : inC pix c.p n.n = true) : ((hitB pix n.vs n.lv = true ∧ c.rg = k) ∧ c.bg ≤ n.t) ∧ n.t < c.en := by
  unfold inC at h
  simp only [Bool.and_eq_true, decide_eq_true_eq] at h
  exact ⟨⟨⟨h.1.1, hr⟩, h.1.2⟩, h.2⟩
theorem upd_of {m f : Option Int} {v : Int} (h : m = f) (k : (¬ m.isSome = true) ∨ v < m.getD 0) : f = none ∨ ∃ u, f = some u ∧ v < u := by
  subst h
  cases m with
  | none => exact .inl rfl
  | some u => rcases k with q | q; (· exact absurd rfl q); (· exact .inr ⟨u, rfl, q⟩)
theorem same_of {m f : Option Int} {v : Int} (h : m = f) (k : ¬ ((¬ m.isSome = true) ∨ v < m.getD 0)) : ∃ u, f = some u ∧ u ≤ v := by
  subst h
  cases m with
  | none => exact absurd (.inl (fun q => by cases q)) k
  | some u => exact ⟨u, rfl, by have : ¬ v < u := fun q => k (.inr q); omega⟩
end

set_option maxRecDepth 20000 in
set_option maxHeartbeats 8000000 in
theorem score_c (o : OfM) (r : RcM) (ns : List NtM) (p : Option Addr) (c : Nat) (on : Int → Bool) (w : World) (hr : r ∈ o.rc) (hlv : r.lv.length = o.ts.length) (hn : o.ts.length < 1000000) (hs : o.ts.Pairwise (· ≤ ·)) (hcl : o.cs.length < 1000000000) (hcn : ∀ (j : Nat) (c : CsM), o.cs[j]? = some c → c.nm = (j : Int) + 1 ∧ 0 ≤ c.bg) (hnl : ns.length < 1000000000) (hpl : r.x.r.pix.length < 1000000000000) (hon : ∀ t, on t = !decide (atLv o.ts r.lv t = 0)) (hnt : ∀ n, n ∈ ns → (0 ≤ n.t ∧ n.t ≤ 4294967296) ∧ Spans w n.p n.vs ∧ ∀ p, p ∈ r.x.r.pix → 0 ≤ p ∧ p < (n.vs.length : Int)) (hx : Ints w r.x.px r.x.r.pix) (hh : Has w (offR o)) (hN : RO 8 NtM.cells w p ns) :
  Calls Try.prog 71 #[ptrN o.b, ptrN r.b, .slice p ns.length c] w fun e w' => e = .returned (.agg (talF r.i r.x.r.pix on (o.cs.map CsM.p) (ns.map NtM.n)).cells.toArray) ∧ St (bs w) [] w' := by
  have hcr : RO 1 csP w o.pk o.cs := RO.of_own hh 6 rfl
  obtain ⟨NS, hNS⟩ : ∃ l, l = ns.map NtM.n := ⟨_, rfl⟩
  obtain ⟨CS, hCS⟩ : ∃ l, l = o.cs.map CsM.p := ⟨_, rfl⟩
  have hNL : NS.length = ns.length := by rw [hNS, List.length_map]
  have hCL : CS.length = o.cs.length := by rw [hCS, List.length_map]
  rw [← hNS, ← hCS]
  refine enter (vs := [_,_,_]) (env := [(0,_), (1,_), (2,_)]) Try.func71 rfl rfl rfl rfl ?_
  refine VC.seq ?_
  refine VC.reg (VO.h rfl<|HO.alloc (C := #[_,_,_,_,_,_,_]) Z112 rfl fun b1 => VO.nil ?_)
  refine VE.seqN ?_
  refine VC.seq ?_
  refine VC.reg (VO.h rfl<|HO.alloc (C := #[_,_,_,_,_,_,_]) Z112 rfl fun b2 => VO.nil ?_)
  refine VE.seqN ?_
  refine VC.seq ?_
  refine VC.reg (VO.h rfl<|HO.mkmapI fun b3 => VO.h rfl<|HO.lo (LO.as (.r rfl))<|VO.nil ?_)
  refine VE.seqN ?_
  refine VC.seq ?_
  refine VC.seq ?_
  refine VC.reg (VO.l (LO.mv (.r rfl)) rfl<|VO.l (LO.len S185 (.r rfl) rfl) rfl<|VO.l (LO.mv (.r rfl)) rfl<|VO.nil ?_)
  refine VE.seqN ?_
  refine VC.block ?_
  refine VC.perm [1,0,2] rfl ?_
  refine VC.loopK (α := Nat × Tal × (Array MapEntry) × Nat) 2 (fun gx => [(24, .int .i64 (gx.1 : Nat))]) [(0,_), (1,_), (6,_), (7,_), (8,_), (22,_), (23,_)] (fun gx => [blk b2 (.cells #[.int .i64 gx.2.1.h, .int .i64 gx.2.1.m, .int .i64 gx.2.1.a, .int .i64 gx.2.1.q, .int .i64 gx.2.1.o, .int .i64 0, .int .i64 0] 112), blk b3 (.map gx.2.2.1 gx.2.2.2)]) (fun gx => gx.1 ≤ ns.length ∧ CntT r.x.r.pix on (NS.take gx.1) gx.2.1 ∧ MapE gx.2.2.1.toList (mapF r.i r.x.r.pix CS NS gx.1 0) ∧ Stamps gx.2.2.1.toList gx.2.2.2) (fun gx => ns.length - gx.1) (0, (⟨0,0,0,0,0,0,0⟩ : Tal), #[], 0) (by exact ⟨Nat.zero_le _, ⟨rfl, rfl, rfl, rfl, rfl⟩, by rw [mapF_0]; exact mapE_nil, by simp [Stamps]⟩) (.cons rfl (.cons rfl (.cons rfl (.cons rfl (.cons rfl (.cons rfl (.cons rfl (.cons rfl .nil)))))))) (fun _ h => h) ?_
  rintro ⟨i, T, es, ck⟩ ⟨hi, hT, hE, hSt⟩
  show VC _ _ _ _ _ ([(24, .int .i64 (i : Nat))] ++ _) ([blk b2 (.cells #[.int .i64 T.h, .int .i64 T.m, .int .i64 T.a, .int .i64 T.q, .int .i64 T.o, .int .i64 0, .int .i64 0] 112), blk b3 (.map es ck)] ++ _) _ _
  dsimp only at hi hT hE hSt
  refine VC.seq ?_
  refine VC.reg (VO.l (LO.lt (.r rfl) (.r rfl)) rfl<|VO.nil ?_)
  refine VE.seqN ?_
  refine VC.seq ?_
  refine VC.cond rfl (fun h25 => ?_) (fun h25 => ?_)
  ·
    obtain ⟨nx, hnx⟩ : ∃ x, ns[i]? = some x := ⟨_, List.getElem?_eq_getElem (by omega)⟩
    have hnm := List.mem_of_getElem? hnx
    have hntb := (hnt nx hnm).1
    have hNx : NS[i]? = some nx.n := by rw [hNS, List.getElem?_map, hnx]; rfl
    have hNT : NS.take (i + 1) = NS.take i ++ [nx.n] := by rw [List.take_add_one, hNx]; rfl
    have hTl := cnt_le hT
    have hTl2 : (NS.take i).length ≤ NS.length := by rw [List.length_take]; omega
    refine VC.skip (VE.seqN ?_)
    refine VC.seq ?_
    refine VC.block ?_
    refine VC.seq ?_
    refine VC.reg (VO.l (LO.ixs S185 N165 hN.sm (.r rfl) (.r rfl) rfl (by omega)) rfl<|VO.l (LO.lda (vs := [_,_,_,_,_,_,_,_]) A165 (.r rfl) (fun w hw => cells_part (off := 0) ((fun w2 hw2 => (hN.keep w2 hw2).cells _ _ (by rw [List.getElem?_map, hnx]; rfl)) w hw) ⟨_, rfl⟩) rfl) rfl<|VO.h rfl<|HO.alloc (C := #[_,_,_,_,_,_,_,_]) Z165 rfl fun b4 => VO.h0<|HO.st 0 (vs := [_,_,_,_,_,_,_,_]) (C' := [_,_,_,_,_,_,_,_]) (L' := [_,_,_,_]) N165 rfl rfl rfl rfl rfl rfl rfl rfl<|VO.nil ?_)
    refine VE.seqN ?_
    refine VC.seq ?_
    refine VC.draw mixed (LL.l (LO.lda (vs := [_,_,_,_,_,_,_,_]) A165 (.r rfl) (fun _ hw => cells_at hw 0 rfl ⟨_, rfl⟩) rfl) rfl<|LL.l (LO.mv (.r rfl)) rfl<|LL.l (LO.nc (.r rfl)) rfl<|LL.l (LO.fa (r := 0) F156_0 (.r rfl) rfl) rfl<|LL.l (LO.lda (vs := [_,_]) A74 (.r rfl) (cells_keep (sub_cells (off := 0) (rec_read hh hr).1 ⟨_, rfl⟩)) rfl) rfl<|LL.l (LO.call (xs := [_,_]) (vs := [_,_]) C88 ⟨(.r rfl), (.r rfl), trivial⟩ (fun w2 hw2 => hit_c nx r.x w2 ((hnt nx hnm).2.1.keep w2 hw2) (Go.SL.Rows.keep hx w2 hw2) hpl (hnt nx hnm).2.2)) rfl<|LL.l (LO.mv (.r rfl)) rfl<|LL.l (LO.ex (.r rfl) rfl) rfl<|LL.l (LO.ex (.r rfl) rfl) rfl<|LL.l (LO.as (.r rfl)) rfl<|LL.l (LO.as (.r rfl)) rfl<|LL.nil) (by kernel_rfl) ?_
    refine VE.seqN ?_
    refine VC.seq ?_
    refine VC.reg (VO.l (LO.mv (.r rfl)) rfl<|VO.l (LO.mv (.r rfl)) rfl<|VO.l (LO.fa (r := 0) F165_0 (.r rfl) rfl) rfl<|VO.l (LO.ld O3 (.r rfl) (fun _ hw => cells_at hw 0 rfl ⟨_, rfl⟩)) rfl<|VO.l (LO.call (xs := [_,_,_]) (vs := [_,_,_]) C59 ⟨(.r rfl), (.r rfl), (.r rfl), trivial⟩ (fun w2 hw2 => at_o o r nx.t w2 hr hlv hn hs (hh.keep hw2))) rfl<|VO.l (LO.ne (.r rfl) (.r rfl)) rfl<|VO.l (LO.as (.r rfl)) rfl<|VO.nil ?_)
    rw [show (!decide (atLv o.ts r.lv nx.t = 0)) = on nx.t from (hon nx.t).symm]
    refine VE.seqN ?_
    refine VC.seq ?_
    refine VC.block ?_
    refine VC.seq ?_
    refine VC.reg (VO.l (LO.mv (.r rfl)) rfl<|VO.l (LO.mv (.r rfl)) rfl<|VO.lg rfl rfl (GD.t _) (fun hg => LO.mv (.r rfl)) rfl<|VO.l (LO.pkA (.r rfl) rfl rfl (.r rfl)) rfl<|VO.l (LO.as (.r rfl)) rfl<|VO.nil ?_)
    refine VE.seqN ?_
    refine VC.cond rfl (fun h47 => ?_) (fun h47 => ?_)
    ·
      refine VC.reg (VO.l (LO.fa (r := 0) F112_0 (.r rfl) rfl) rfl<|VO.l (LO.ld O3 (.r rfl) (fun _ hw => cells_at hw 1 rfl ⟨_, rfl⟩)) rfl<|VO.l (LO.add (.r rfl) (.r rfl) (wi (by omega) (by omega))) rfl<|VO.l (LO.fa (r := 0) F112_0 (.r rfl) rfl) rfl<|VO.h0<|HO.st 1 (vs := [_]) (C' := [_,_,_,_,_,_,_]) (L' := [_,_,_,_]) N3 rfl rfl rfl rfl rfl rfl rfl rfl<|VO.nil ?_)
      refine VE.inN (VE.seqN ?_)
      refine VC.seq ?_
      refine VC.reg (VO.l (LO.mv (.r rfl)) rfl<|VO.l (LO.nc (.r rfl)) rfl<|VO.l (LO.fa (r := 11) F117_3 (.r rfl) rfl) rfl<|VO.l (LO.ld O114 (.r rfl) (cells_keep (sub_cells (off := 11) (off_cells hh) ⟨_, rfl⟩))) rfl<|VO.l (LO.len S114 (.r rfl) rfl) rfl<|VO.l (LO.mv (.r rfl)) rfl<|VO.nil ?_)
      refine VE.seqN ?_
      refine VC.block ?_
      refine VC.perm [2,0,1,3] rfl ?_
      refine VC.loopK (α := Nat × (Array MapEntry) × Nat) 1 (fun gx => [(79, .int .i64 (gx.1 : Nat))]) [(0,_), (1,_), (6,_), (7,_), (8,_), (10,_), (11,_), (22,_), (23,_), (24,_), (77,_), (78,_)] (fun gx => [blk b3 (.map gx.2.1 gx.2.2)]) (fun gx => gx.1 ≤ o.cs.length ∧ MapE gx.2.1.toList (mapF r.i r.x.r.pix CS NS i gx.1) ∧ Stamps gx.2.1.toList gx.2.2) (fun gx => o.cs.length - gx.1) (0, es, ck) (by exact ⟨Nat.zero_le _, hE, hSt⟩) (.cons rfl (.cons rfl (.cons rfl (.cons rfl (.cons rfl (.cons rfl (.cons rfl (.cons rfl (.cons rfl (.cons rfl (.cons rfl (.cons rfl (.cons rfl .nil))))))))))))) (fun _ h => h) ?_
      rintro ⟨j, es, ck⟩ ⟨hj, hE, hSt⟩
      show VC _ _ _ _ _ ([(79, .int .i64 (j : Nat))] ++ _) ([blk b3 (.map es ck)] ++ _) _ _
      dsimp only at hj hE hSt
      refine VC.seq ?_
      refine VC.reg (VO.l (LO.lt (.r rfl) (.r rfl)) rfl<|VO.nil ?_)
      refine VE.seqN ?_
      refine VC.seq ?_
      refine VC.cond rfl (fun h80 => ?_) (fun h80 => ?_)
      ·
        obtain ⟨cx, hcx⟩ : ∃ x, o.cs[j]? = some x := ⟨_, List.getElem?_eq_getElem (by omega)⟩
        have hcm := List.mem_of_getElem? hcx
        have hcb := hcn j cx hcx
        have hCx : CS[j]? = some cx.p := by rw [hCS, List.getElem?_map, hcx]; rfl
        refine VC.skip (VE.seqN ?_)
        refine VC.seq ?_
        refine VC.block ?_
        refine VC.seq ?_
        refine VC.reg (VO.l (LO.ixs S114 N150 hcr.sm (.r rfl) (.r rfl) rfl (by omega)) rfl<|VO.l (LO.ld O150 (.r rfl) (fun w hw => cells_part (off := 0) ((fun w2 hw2 => (hcr.keep w2 hw2).cells _ _ (by rw [List.getElem?_map, hcx]; rfl)) w hw) ⟨_, rfl⟩)) rfl<|VO.l (LO.as (.r rfl)) rfl<|VO.nil ?_)
        refine VE.seqN ?_
        refine VC.seq ?_
        refine VC.draw mixed (LL.l (LO.mv (.r rfl)) rfl<|LL.l (LO.mv (.r rfl)) rfl<|LL.lg rfl rfl (GD.t _) (fun hg => LO.mv (.r rfl)) rfl<|LL.lg rfl rfl (GD.t _) (fun hg => LO.nc (.g hg rfl)) rfl<|LL.lg rfl rfl (GD.t _) (fun hg => LO.fa (r := 1) F64_1 (.g hg rfl) rfl) rfl<|LL.lg rfl rfl (GD.t _) (fun hg => LO.ld O3 (.g hg rfl) (cells_keep (sub_cells (off := 1) (case_read hh hcm) ⟨_, rfl⟩))) rfl<|LL.lg rfl rfl (GD.t _) (fun hg => LO.mv (.r rfl)) rfl<|LL.lg rfl rfl (GD.t _) (fun hg => LO.nc (.g hg rfl)) rfl<|LL.lg rfl rfl (GD.t _) (fun hg => LO.fa (r := 2) F156_1 (.g hg rfl) rfl) rfl<|LL.lg rfl rfl (GD.t _) (fun hg => LO.ld O3 (.g hg rfl) (cells_keep (sub_cells (off := 2) (rec_read hh hr).1 ⟨_, rfl⟩))) rfl<|LL.lg rfl rfl (GD.t _) (fun hg => LO.eq (.g hg rfl) (.g hg rfl)) rfl<|LL.l (LO.pkA (.r rfl) rfl rfl (.r rfl)) rfl<|LL.l (LO.mv (.r rfl)) rfl<|LL.lg rfl rfl (GD.t _) (fun hg => LO.mv (.r rfl)) rfl<|LL.lg rfl rfl (GD.t _) (fun hg => LO.nc (.g hg rfl)) rfl<|LL.lg rfl rfl (GD.t _) (fun hg => LO.fa (r := 2) F64_2 (.g hg rfl) rfl) rfl<|LL.lg rfl rfl (GD.t _) (fun hg => LO.ld O3 (.g hg rfl) (cells_keep (sub_cells (off := 2) (case_read hh hcm) ⟨_, rfl⟩))) rfl<|LL.lg rfl rfl (GD.t _) (fun hg => LO.fa (r := 0) F165_0 (.r rfl) rfl) rfl<|LL.lg rfl rfl (GD.t _) (fun hg => LO.ld O3 (.g hg rfl) (fun _ hw => cells_at hw 1 rfl ⟨_, rfl⟩)) rfl<|LL.lg rfl rfl (GD.t _) (fun hg => LO.le (.g hg rfl) (.g hg rfl)) rfl<|LL.l (LO.pkA (.r rfl) rfl rfl (.r rfl)) rfl<|LL.l (LO.mv (.r rfl)) rfl<|LL.lg rfl rfl (GD.t _) (fun hg => LO.fa (r := 0) F165_0 (.r rfl) rfl) rfl<|LL.lg rfl rfl (GD.t _) (fun hg => LO.ld O3 (.g hg rfl) (fun _ hw => cells_at hw 1 rfl ⟨_, rfl⟩)) rfl<|LL.lg rfl rfl (GD.t _) (fun hg => LO.mv (.r rfl)) rfl<|LL.lg rfl rfl (GD.t _) (fun hg => LO.nc (.g hg rfl)) rfl<|LL.lg rfl rfl (GD.t _) (fun hg => LO.fa (r := 3) F64_3 (.g hg rfl) rfl) rfl<|LL.lg rfl rfl (GD.t _) (fun hg => LO.ld O3 (.g hg rfl) (cells_keep (sub_cells (off := 3) (case_read hh hcm) ⟨_, rfl⟩))) rfl<|LL.lg rfl rfl (GD.t _) (fun hg => LO.lt (.g hg rfl) (.g hg rfl)) rfl<|LL.l (LO.pkA (.r rfl) rfl rfl (.r rfl)) rfl<|LL.nil) (by kernel_rfl) ?_
        refine VE.seqN ?_
        refine VC.cond rfl (fun h112 => ?_) (fun h112 => ?_)
        ·
          have hic : inC r.x.r.pix cx.p nx.n = true := inC_of h112
          have hrg : cx.p.rg = (r.i : Int) := h112.1.1.2
          have hbt : cx.bg ≤ nx.t := h112.1.2
          have hat : mapF (r.i : Int) r.x.r.pix CS NS i j cx.nm = firstN r.x.r.pix cx.p (NS.take i) := by rw [hcb.1]; exact mapF_at hCx hrg
          refine VC.seq ?_
          refine VC.reg (VO.l (LO.mv (.r rfl)) rfl<|VO.l (LO.mv (.r rfl)) rfl<|VO.l (LO.nc (.r rfl)) rfl<|VO.l (LO.fa (r := 0) F64_0 (.r rfl) rfl) rfl<|VO.l (LO.ld O3 (.r rfl) (cells_keep (sub_cells (off := 0) (case_read hh hcm) ⟨_, rfl⟩))) rfl<|VO.l (LO.lk2 IM208 (.r rfl) (.r rfl) (fun _ hw => ⟨es, ck, St.inv hw 0 _ rfl, hE⟩)) rfl<|VO.l (LO.mv (.r rfl)) rfl<|VO.l (LO.ex (.r rfl) rfl) rfl<|VO.l (LO.ex (.r rfl) rfl) rfl<|VO.l (LO.as (.r rfl)) rfl<|VO.l (LO.as (.r rfl)) rfl<|VO.nil ?_)
          refine VE.seqN ?_
          refine VC.seq ?_
          refine VC.draw mixed (LL.l (LO.mv (.r rfl)) rfl<|LL.l (LO.not (.r rfl)) rfl<|LL.l (LO.mv (.r rfl)) rfl<|LL.lg rfl rfl (GD.f _) (fun hg => LO.fa (r := 0) F165_0 (.r rfl) rfl) rfl<|LL.lg rfl rfl (GD.f _) (fun hg => LO.ld O3 (.g hg rfl) (fun _ hw => cells_at hw 1 rfl ⟨_, rfl⟩)) rfl<|LL.lg rfl rfl (GD.f _) (fun hg => LO.mv (.r rfl)) rfl<|LL.lg rfl rfl (GD.f _) (fun hg => LO.nc (.g hg rfl)) rfl<|LL.lg rfl rfl (GD.f _) (fun hg => LO.fa (r := 2) F64_2 (.g hg rfl) rfl) rfl<|LL.lg rfl rfl (GD.f _) (fun hg => LO.ld O3 (.g hg rfl) (cells_keep (sub_cells (off := 2) (case_read hh hcm) ⟨_, rfl⟩))) rfl<|LL.lg rfl rfl (GD.f _) (fun hg => LO.sub (.g hg rfl) (.g hg rfl) (wi (by omega) (by omega))) rfl<|LL.lg rfl rfl (GD.f _) (fun hg => LO.mv (.r rfl)) rfl<|LL.lg rfl rfl (GD.f _) (fun hg => LO.lt (.g hg rfl) (.g hg rfl)) rfl<|LL.l (LO.pkO (.r rfl) (.r rfl) rfl rfl) rfl<|LL.nil) (by kernel_rfl) ?_
          refine VE.seqN ?_
          refine VC.cond rfl (fun h134 => ?_) (fun h134 => ?_)
          ·
            have hupd := mapF_upd (k := (r.i : Int)) hCx hNx hrg hic (upd_of hat h134)
            refine VC.drawH [[0,1,2,3], [1,2,3]] [some 0, some 0, some 0, some 0, some 0, some 0, some 0, some 0, some 0, some 0, some 0, some 0, none] mixed (by kernel_rfl) rfl (LX.l (fun _ hJ => LO.mv (.r rfl)) rfl<|LX.l (fun _ hJ => LO.mv (.r rfl)) rfl<|LX.l (fun _ hJ => LO.nc (.r rfl)) rfl<|LX.l (fun _ hJ => LO.fa (r := 0) F64_0 (.r rfl) rfl) rfl<|LX.l (fun _ hJ => LO.ld O3 (.r rfl) (cells_keep (sub_cells (off := 0) (case_read hh hcm) ⟨_, rfl⟩))) rfl<|LX.l (fun _ hJ => LO.fa (r := 0) F165_0 (.r rfl) rfl) rfl<|LX.l (fun _ hJ => LO.ld O3 (.r rfl) (fun _ hw => cells_at (hJ _ hw) 1 rfl ⟨_, rfl⟩)) rfl<|LX.l (fun _ hJ => LO.mv (.r rfl)) rfl<|LX.l (fun _ hJ => LO.nc (.r rfl)) rfl<|LX.l (fun _ hJ => LO.fa (r := 2) F64_2 (.r rfl) rfl) rfl<|LX.l (fun _ hJ => LO.ld O3 (.r rfl) (cells_keep (sub_cells (off := 2) (case_read hh hcm) ⟨_, rfl⟩))) rfl<|LX.l (fun _ hJ => LO.sub (.r rfl) (.r rfl) (wi (by omega) (by omega))) rfl<|LX.s<|LX.nil) (HX.s<|HX.s<|HX.s<|HX.s<|HX.s<|HX.s<|HX.s<|HX.s<|HX.s<|HX.s<|HX.s<|HX.s<|HX.h0<|HO.mupI 0 (fun R => [R,_,_,_]) IM208 (.r rfl) (.r rfl) (.r rfl) rfl hE hSt (fun _ => rfl) fun es2 ck2 hE2 hSt2 => ⟨fun _ hw => hw.sel [1,2,3] rfl, HX.nil ?_⟩)
            refine VE.inN (VE.seqN ?_)
            refine VC.reg (VO.l (LO.add (.r rfl) (.r rfl) (wi (by omega) (by omega))) rfl<|VO.l (LO.mv (.r rfl)) rfl<|VO.nil ?_)
            refine VE.thenN fun a w ha hw => ⟨(j + 1, es2, ck2), ⟨by dsimp only; omega, by dsimp only; rw [hupd]; rw [hcb.1] at hE2; exact hE2, hSt2⟩, (by dsimp only; omega), ha.sub (.cons rfl (.cons rfl (.cons rfl (.cons rfl (.cons rfl (.cons rfl (.cons rfl (.cons rfl (.cons rfl (.cons rfl (.cons rfl (.cons rfl (.cons rfl .nil))))))))))))), (by exact selK (L1 := [_,_,_,_]) [0,1,2,3] rfl rfl _ hw)⟩
          ·
            obtain ⟨u, hu1, hu2⟩ := same_of hat h134
            have hsame := mapF_same (k := (r.i : Int)) hCx hNx hrg hic hu1 hu2
            refine VC.skip (VE.inN (VE.seqN ?_))
            refine VC.reg (VO.l (LO.add (.r rfl) (.r rfl) (wi (by omega) (by omega))) rfl<|VO.l (LO.mv (.r rfl)) rfl<|VO.nil ?_)
            refine VE.thenN fun a w ha hw => ⟨(j + 1, es, ck), ⟨by dsimp only; omega, by dsimp only; rw [hsame]; exact hE, hSt⟩, (by dsimp only; omega), ha.sub (.cons rfl (.cons rfl (.cons rfl (.cons rfl (.cons rfl (.cons rfl (.cons rfl (.cons rfl (.cons rfl (.cons rfl (.cons rfl (.cons rfl (.cons rfl .nil))))))))))))), (by exact selK (L1 := [_,_,_,_]) [0,1,2,3] rfl rfl _ hw)⟩
        ·
          have hskip := mapF_skip (k := (r.i : Int)) (pix := r.x.r.pix) hCx hNx (fun q => h112 (inC_to q.1 q.2))
          refine VC.skip (VE.inN (VE.seqN ?_))
          refine VC.reg (VO.l (LO.add (.r rfl) (.r rfl) (wi (by omega) (by omega))) rfl<|VO.l (LO.mv (.r rfl)) rfl<|VO.nil ?_)
          refine VE.thenN fun a w ha hw => ⟨(j + 1, es, ck), ⟨by dsimp only; omega, by dsimp only; rw [hskip]; exact hE, hSt⟩, (by dsimp only; omega), ha.sub (.cons rfl (.cons rfl (.cons rfl (.cons rfl (.cons rfl (.cons rfl (.cons rfl (.cons rfl (.cons rfl (.cons rfl (.cons rfl (.cons rfl (.cons rfl .nil))))))))))))), (by exact selK (L1 := [_,_,_,_]) [0,1,2,3] rfl rfl _ hw)⟩
      ·
        have hje : j = CS.length := by omega
        rw [hje, mapF_next] at hE
        refine VC.exit (VE.thenX (VE.thenX (VE.inX (VE.inN (VE.seqN ?_)))))
        refine VC.reg (VO.l (LO.add (.r rfl) (.r rfl) (wi (by omega) (by omega))) rfl<|VO.l (LO.mv (.r rfl)) rfl<|VO.nil ?_)
        refine VE.thenN fun a w ha hw => ⟨(i + 1, (bump 0 T), es, ck), ⟨by dsimp only; omega, by dsimp only; rw [hNT]; exact cnt_bump hT (kN_0 h47), hE, hSt⟩, (by dsimp only; omega), ha.sub (.cons rfl (.cons rfl (.cons rfl (.cons rfl (.cons rfl (.cons rfl (.cons rfl (.cons rfl .nil)))))))), (by exact selK (L1 := [_,_,_]) [2,0,3] rfl rfl _ hw)⟩
    ·
      refine VC.seq ?_
      refine VC.reg (VO.l (LO.mv (.r rfl)) rfl<|VO.l (LO.as (.r rfl)) rfl<|VO.nil ?_)
      refine VE.seqN ?_
      refine VC.cond rfl (fun h56 => ?_) (fun h56 => ?_)
      ·
        refine VC.reg (VO.l (LO.fa (r := 1) F112_1 (.r rfl) rfl) rfl<|VO.l (LO.ld O3 (.r rfl) (fun _ hw => cells_at hw 1 rfl ⟨_, rfl⟩)) rfl<|VO.l (LO.add (.r rfl) (.r rfl) (wi (by omega) (by omega))) rfl<|VO.l (LO.fa (r := 1) F112_1 (.r rfl) rfl) rfl<|VO.h0<|HO.st 1 (vs := [_]) (C' := [_,_,_,_,_,_,_]) (L' := [_,_,_,_]) N3 rfl rfl rfl rfl rfl rfl rfl rfl<|VO.nil ?_)
        refine VE.inN (VE.seqN ?_)
        refine VC.seq ?_
        refine VC.reg (VO.l (LO.mv (.r rfl)) rfl<|VO.l (LO.nc (.r rfl)) rfl<|VO.l (LO.fa (r := 11) F117_3 (.r rfl) rfl) rfl<|VO.l (LO.ld O114 (.r rfl) (cells_keep (sub_cells (off := 11) (off_cells hh) ⟨_, rfl⟩))) rfl<|VO.l (LO.len S114 (.r rfl) rfl) rfl<|VO.l (LO.mv (.r rfl)) rfl<|VO.nil ?_)
        refine VE.seqN ?_
        refine VC.block ?_
        refine VC.perm [2,0,1,3] rfl ?_
        refine VC.loopK (α := Nat × (Array MapEntry) × Nat) 1 (fun gx => [(79, .int .i64 (gx.1 : Nat))]) [(0,_), (1,_), (6,_), (7,_), (8,_), (10,_), (11,_), (22,_), (23,_), (24,_), (77,_), (78,_)] (fun gx => [blk b3 (.map gx.2.1 gx.2.2)]) (fun gx => gx.1 ≤ o.cs.length ∧ MapE gx.2.1.toList (mapF r.i r.x.r.pix CS NS i gx.1) ∧ Stamps gx.2.1.toList gx.2.2) (fun gx => o.cs.length - gx.1) (0, es, ck) (by exact ⟨Nat.zero_le _, hE, hSt⟩) (.cons rfl (.cons rfl (.cons rfl (.cons rfl (.cons rfl (.cons rfl (.cons rfl (.cons rfl (.cons rfl (.cons rfl (.cons rfl (.cons rfl (.cons rfl .nil))))))))))))) (fun _ h => h) ?_
        rintro ⟨j, es, ck⟩ ⟨hj, hE, hSt⟩
        show VC _ _ _ _ _ ([(79, .int .i64 (j : Nat))] ++ _) ([blk b3 (.map es ck)] ++ _) _ _
        dsimp only at hj hE hSt
        refine VC.seq ?_
        refine VC.reg (VO.l (LO.lt (.r rfl) (.r rfl)) rfl<|VO.nil ?_)
        refine VE.seqN ?_
        refine VC.seq ?_
        refine VC.cond rfl (fun h80 => ?_) (fun h80 => ?_)
        ·
          obtain ⟨cx, hcx⟩ : ∃ x, o.cs[j]? = some x := ⟨_, List.getElem?_eq_getElem (by omega)⟩
          have hcm := List.mem_of_getElem? hcx
          have hcb := hcn j cx hcx
          have hCx : CS[j]? = some cx.p := by rw [hCS, List.getElem?_map, hcx]; rfl
          refine VC.skip (VE.seqN ?_)
          refine VC.seq ?_
          refine VC.block ?_
          refine VC.seq ?_
          refine VC.reg (VO.l (LO.ixs S114 N150 hcr.sm (.r rfl) (.r rfl) rfl (by omega)) rfl<|VO.l (LO.ld O150 (.r rfl) (fun w hw => cells_part (off := 0) ((fun w2 hw2 => (hcr.keep w2 hw2).cells _ _ (by rw [List.getElem?_map, hcx]; rfl)) w hw) ⟨_, rfl⟩)) rfl<|VO.l (LO.as (.r rfl)) rfl<|VO.nil ?_)
          refine VE.seqN ?_
          refine VC.seq ?_
          refine VC.draw mixed (LL.l (LO.mv (.r rfl)) rfl<|LL.l (LO.mv (.r rfl)) rfl<|LL.lg rfl rfl (GD.t _) (fun hg => LO.mv (.r rfl)) rfl<|LL.lg rfl rfl (GD.t _) (fun hg => LO.nc (.g hg rfl)) rfl<|LL.lg rfl rfl (GD.t _) (fun hg => LO.fa (r := 1) F64_1 (.g hg rfl) rfl) rfl<|LL.lg rfl rfl (GD.t _) (fun hg => LO.ld O3 (.g hg rfl) (cells_keep (sub_cells (off := 1) (case_read hh hcm) ⟨_, rfl⟩))) rfl<|LL.lg rfl rfl (GD.t _) (fun hg => LO.mv (.r rfl)) rfl<|LL.lg rfl rfl (GD.t _) (fun hg => LO.nc (.g hg rfl)) rfl<|LL.lg rfl rfl (GD.t _) (fun hg => LO.fa (r := 2) F156_1 (.g hg rfl) rfl) rfl<|LL.lg rfl rfl (GD.t _) (fun hg => LO.ld O3 (.g hg rfl) (cells_keep (sub_cells (off := 2) (rec_read hh hr).1 ⟨_, rfl⟩))) rfl<|LL.lg rfl rfl (GD.t _) (fun hg => LO.eq (.g hg rfl) (.g hg rfl)) rfl<|LL.l (LO.pkA (.r rfl) rfl rfl (.r rfl)) rfl<|LL.l (LO.mv (.r rfl)) rfl<|LL.lg rfl rfl (GD.t _) (fun hg => LO.mv (.r rfl)) rfl<|LL.lg rfl rfl (GD.t _) (fun hg => LO.nc (.g hg rfl)) rfl<|LL.lg rfl rfl (GD.t _) (fun hg => LO.fa (r := 2) F64_2 (.g hg rfl) rfl) rfl<|LL.lg rfl rfl (GD.t _) (fun hg => LO.ld O3 (.g hg rfl) (cells_keep (sub_cells (off := 2) (case_read hh hcm) ⟨_, rfl⟩))) rfl<|LL.lg rfl rfl (GD.t _) (fun hg => LO.fa (r := 0) F165_0 (.r rfl) rfl) rfl<|LL.lg rfl rfl (GD.t _) (fun hg => LO.ld O3 (.g hg rfl) (fun _ hw => cells_at hw 1 rfl ⟨_, rfl⟩)) rfl<|LL.lg rfl rfl (GD.t _) (fun hg => LO.le (.g hg rfl) (.g hg rfl)) rfl<|LL.l (LO.pkA (.r rfl) rfl rfl (.r rfl)) rfl<|LL.l (LO.mv (.r rfl)) rfl<|LL.lg rfl rfl (GD.t _) (fun hg => LO.fa (r := 0) F165_0 (.r rfl) rfl) rfl<|LL.lg rfl rfl (GD.t _) (fun hg => LO.ld O3 (.g hg rfl) (fun _ hw => cells_at hw 1 rfl ⟨_, rfl⟩)) rfl<|LL.lg rfl rfl (GD.t _) (fun hg => LO.mv (.r rfl)) rfl<|LL.lg rfl rfl (GD.t _) (fun hg => LO.nc (.g hg rfl)) rfl<|LL.lg rfl rfl (GD.t _) (fun hg => LO.fa (r := 3) F64_3 (.g hg rfl) rfl) rfl<|LL.lg rfl rfl (GD.t _) (fun hg => LO.ld O3 (.g hg rfl) (cells_keep (sub_cells (off := 3) (case_read hh hcm) ⟨_, rfl⟩))) rfl<|LL.lg rfl rfl (GD.t _) (fun hg => LO.lt (.g hg rfl) (.g hg rfl)) rfl<|LL.l (LO.pkA (.r rfl) rfl rfl (.r rfl)) rfl<|LL.nil) (by kernel_rfl) ?_
          refine VE.seqN ?_
          refine VC.cond rfl (fun h112 => ?_) (fun h112 => ?_)
          ·
            have hic : inC r.x.r.pix cx.p nx.n = true := inC_of h112
            have hrg : cx.p.rg = (r.i : Int) := h112.1.1.2
            have hbt : cx.bg ≤ nx.t := h112.1.2
            have hat : mapF (r.i : Int) r.x.r.pix CS NS i j cx.nm = firstN r.x.r.pix cx.p (NS.take i) := by rw [hcb.1]; exact mapF_at hCx hrg
            refine VC.seq ?_
            refine VC.reg (VO.l (LO.mv (.r rfl)) rfl<|VO.l (LO.mv (.r rfl)) rfl<|VO.l (LO.nc (.r rfl)) rfl<|VO.l (LO.fa (r := 0) F64_0 (.r rfl) rfl) rfl<|VO.l (LO.ld O3 (.r rfl) (cells_keep (sub_cells (off := 0) (case_read hh hcm) ⟨_, rfl⟩))) rfl<|VO.l (LO.lk2 IM208 (.r rfl) (.r rfl) (fun _ hw => ⟨es, ck, St.inv hw 0 _ rfl, hE⟩)) rfl<|VO.l (LO.mv (.r rfl)) rfl<|VO.l (LO.ex (.r rfl) rfl) rfl<|VO.l (LO.ex (.r rfl) rfl) rfl<|VO.l (LO.as (.r rfl)) rfl<|VO.l (LO.as (.r rfl)) rfl<|VO.nil ?_)
            refine VE.seqN ?_
            refine VC.seq ?_
            refine VC.draw mixed (LL.l (LO.mv (.r rfl)) rfl<|LL.l (LO.not (.r rfl)) rfl<|LL.l (LO.mv (.r rfl)) rfl<|LL.lg rfl rfl (GD.f _) (fun hg => LO.fa (r := 0) F165_0 (.r rfl) rfl) rfl<|LL.lg rfl rfl (GD.f _) (fun hg => LO.ld O3 (.g hg rfl) (fun _ hw => cells_at hw 1 rfl ⟨_, rfl⟩)) rfl<|LL.lg rfl rfl (GD.f _) (fun hg => LO.mv (.r rfl)) rfl<|LL.lg rfl rfl (GD.f _) (fun hg => LO.nc (.g hg rfl)) rfl<|LL.lg rfl rfl (GD.f _) (fun hg => LO.fa (r := 2) F64_2 (.g hg rfl) rfl) rfl<|LL.lg rfl rfl (GD.f _) (fun hg => LO.ld O3 (.g hg rfl) (cells_keep (sub_cells (off := 2) (case_read hh hcm) ⟨_, rfl⟩))) rfl<|LL.lg rfl rfl (GD.f _) (fun hg => LO.sub (.g hg rfl) (.g hg rfl) (wi (by omega) (by omega))) rfl<|LL.lg rfl rfl (GD.f _) (fun hg => LO.mv (.r rfl)) rfl<|LL.lg rfl rfl (GD.f _) (fun hg => LO.lt (.g hg rfl) (.g hg rfl)) rfl<|LL.l (LO.pkO (.r rfl) (.r rfl) rfl rfl) rfl<|LL.nil) (by kernel_rfl) ?_
            refine VE.seqN ?_
            refine VC.cond rfl (fun h134 => ?_) (fun h134 => ?_)
            ·
              have hupd := mapF_upd (k := (r.i : Int)) hCx hNx hrg hic (upd_of hat h134)
              refine VC.drawH [[0,1,2,3], [1,2,3]] [some 0, some 0, some 0, some 0, some 0, some 0, some 0, some 0, some 0, some 0, some 0, some 0, none] mixed (by kernel_rfl) rfl (LX.l (fun _ hJ => LO.mv (.r rfl)) rfl<|LX.l (fun _ hJ => LO.mv (.r rfl)) rfl<|LX.l (fun _ hJ => LO.nc (.r rfl)) rfl<|LX.l (fun _ hJ => LO.fa (r := 0) F64_0 (.r rfl) rfl) rfl<|LX.l (fun _ hJ => LO.ld O3 (.r rfl) (cells_keep (sub_cells (off := 0) (case_read hh hcm) ⟨_, rfl⟩))) rfl<|LX.l (fun _ hJ => LO.fa (r := 0) F165_0 (.r rfl) rfl) rfl<|LX.l (fun _ hJ => LO.ld O3 (.r rfl) (fun _ hw => cells_at (hJ _ hw) 1 rfl ⟨_, rfl⟩)) rfl<|LX.l (fun _ hJ => LO.mv (.r rfl)) rfl<|LX.l (fun _ hJ => LO.nc (.r rfl)) rfl<|LX.l (fun _ hJ => LO.fa (r := 2) F64_2 (.r rfl) rfl) rfl<|LX.l (fun _ hJ => LO.ld O3 (.r rfl) (cells_keep (sub_cells (off := 2) (case_read hh hcm) ⟨_, rfl⟩))) rfl<|LX.l (fun _ hJ => LO.sub (.r rfl) (.r rfl) (wi (by omega) (by omega))) rfl<|LX.s<|LX.nil) (HX.s<|HX.s<|HX.s<|HX.s<|HX.s<|HX.s<|HX.s<|HX.s<|HX.s<|HX.s<|HX.s<|HX.s<|HX.h0<|HO.mupI 0 (fun R => [R,_,_,_]) IM208 (.r rfl) (.r rfl) (.r rfl) rfl hE hSt (fun _ => rfl) fun es2 ck2 hE2 hSt2 => ⟨fun _ hw => hw.sel [1,2,3] rfl, HX.nil ?_⟩)
              refine VE.inN (VE.seqN ?_)
              refine VC.reg (VO.l (LO.add (.r rfl) (.r rfl) (wi (by omega) (by omega))) rfl<|VO.l (LO.mv (.r rfl)) rfl<|VO.nil ?_)
              refine VE.thenN fun a w ha hw => ⟨(j + 1, es2, ck2), ⟨by dsimp only; omega, by dsimp only; rw [hupd]; rw [hcb.1] at hE2; exact hE2, hSt2⟩, (by dsimp only; omega), ha.sub (.cons rfl (.cons rfl (.cons rfl (.cons rfl (.cons rfl (.cons rfl (.cons rfl (.cons rfl (.cons rfl (.cons rfl (.cons rfl (.cons rfl (.cons rfl .nil))))))))))))), (by exact selK (L1 := [_,_,_,_]) [0,1,2,3] rfl rfl _ hw)⟩
            ·
              obtain ⟨u, hu1, hu2⟩ := same_of hat h134
              have hsame := mapF_same (k := (r.i : Int)) hCx hNx hrg hic hu1 hu2
              refine VC.skip (VE.inN (VE.seqN ?_))
              refine VC.reg (VO.l (LO.add (.r rfl) (.r rfl) (wi (by omega) (by omega))) rfl<|VO.l (LO.mv (.r rfl)) rfl<|VO.nil ?_)
              refine VE.thenN fun a w ha hw => ⟨(j + 1, es, ck), ⟨by dsimp only; omega, by dsimp only; rw [hsame]; exact hE, hSt⟩, (by dsimp only; omega), ha.sub (.cons rfl (.cons rfl (.cons rfl (.cons rfl (.cons rfl (.cons rfl (.cons rfl (.cons rfl (.cons rfl (.cons rfl (.cons rfl (.cons rfl (.cons rfl .nil))))))))))))), (by exact selK (L1 := [_,_,_,_]) [0,1,2,3] rfl rfl _ hw)⟩
          ·
            have hskip := mapF_skip (k := (r.i : Int)) (pix := r.x.r.pix) hCx hNx (fun q => h112 (inC_to q.1 q.2))
            refine VC.skip (VE.inN (VE.seqN ?_))
            refine VC.reg (VO.l (LO.add (.r rfl) (.r rfl) (wi (by omega) (by omega))) rfl<|VO.l (LO.mv (.r rfl)) rfl<|VO.nil ?_)
            refine VE.thenN fun a w ha hw => ⟨(j + 1, es, ck), ⟨by dsimp only; omega, by dsimp only; rw [hskip]; exact hE, hSt⟩, (by dsimp only; omega), ha.sub (.cons rfl (.cons rfl (.cons rfl (.cons rfl (.cons rfl (.cons rfl (.cons rfl (.cons rfl (.cons rfl (.cons rfl (.cons rfl (.cons rfl (.cons rfl .nil))))))))))))), (by exact selK (L1 := [_,_,_,_]) [0,1,2,3] rfl rfl _ hw)⟩
        ·
          have hje : j = CS.length := by omega
          rw [hje, mapF_next] at hE
          refine VC.exit (VE.thenX (VE.thenX (VE.inX (VE.inN (VE.seqN ?_)))))
          refine VC.reg (VO.l (LO.add (.r rfl) (.r rfl) (wi (by omega) (by omega))) rfl<|VO.l (LO.mv (.r rfl)) rfl<|VO.nil ?_)
          refine VE.thenN fun a w ha hw => ⟨(i + 1, (bump 1 T), es, ck), ⟨by dsimp only; omega, by dsimp only; rw [hNT]; exact cnt_bump hT (kN_1 h47 h56), hE, hSt⟩, (by dsimp only; omega), ha.sub (.cons rfl (.cons rfl (.cons rfl (.cons rfl (.cons rfl (.cons rfl (.cons rfl (.cons rfl .nil)))))))), (by exact selK (L1 := [_,_,_]) [2,0,3] rfl rfl _ hw)⟩
      ·
        refine VC.seq ?_
        refine VC.reg (VO.l (LO.mv (.r rfl)) rfl<|VO.l (LO.as (.r rfl)) rfl<|VO.nil ?_)
        refine VE.seqN ?_
        refine VC.cond rfl (fun h62 => ?_) (fun h62 => ?_)
        ·
          refine VC.reg (VO.l (LO.fa (r := 4) F112_4 (.r rfl) rfl) rfl<|VO.l (LO.ld O3 (.r rfl) (fun _ hw => cells_at hw 1 rfl ⟨_, rfl⟩)) rfl<|VO.l (LO.add (.r rfl) (.r rfl) (wi (by omega) (by omega))) rfl<|VO.l (LO.fa (r := 4) F112_4 (.r rfl) rfl) rfl<|VO.h0<|HO.st 1 (vs := [_]) (C' := [_,_,_,_,_,_,_]) (L' := [_,_,_,_]) N3 rfl rfl rfl rfl rfl rfl rfl rfl<|VO.nil ?_)
          refine VE.inN (VE.seqN ?_)
          refine VC.seq ?_
          refine VC.reg (VO.l (LO.mv (.r rfl)) rfl<|VO.l (LO.nc (.r rfl)) rfl<|VO.l (LO.fa (r := 11) F117_3 (.r rfl) rfl) rfl<|VO.l (LO.ld O114 (.r rfl) (cells_keep (sub_cells (off := 11) (off_cells hh) ⟨_, rfl⟩))) rfl<|VO.l (LO.len S114 (.r rfl) rfl) rfl<|VO.l (LO.mv (.r rfl)) rfl<|VO.nil ?_)
          refine VE.seqN ?_
          refine VC.block ?_
          refine VC.perm [2,0,1,3] rfl ?_
          refine VC.loopK (α := Nat × (Array MapEntry) × Nat) 1 (fun gx => [(79, .int .i64 (gx.1 : Nat))]) [(0,_), (1,_), (6,_), (7,_), (8,_), (10,_), (11,_), (22,_), (23,_), (24,_), (77,_), (78,_)] (fun gx => [blk b3 (.map gx.2.1 gx.2.2)]) (fun gx => gx.1 ≤ o.cs.length ∧ MapE gx.2.1.toList (mapF r.i r.x.r.pix CS NS i gx.1) ∧ Stamps gx.2.1.toList gx.2.2) (fun gx => o.cs.length - gx.1) (0, es, ck) (by exact ⟨Nat.zero_le _, hE, hSt⟩) (.cons rfl (.cons rfl (.cons rfl (.cons rfl (.cons rfl (.cons rfl (.cons rfl (.cons rfl (.cons rfl (.cons rfl (.cons rfl (.cons rfl (.cons rfl .nil))))))))))))) (fun _ h => h) ?_
          rintro ⟨j, es, ck⟩ ⟨hj, hE, hSt⟩
          show VC _ _ _ _ _ ([(79, .int .i64 (j : Nat))] ++ _) ([blk b3 (.map es ck)] ++ _) _ _
          dsimp only at hj hE hSt
          refine VC.seq ?_
          refine VC.reg (VO.l (LO.lt (.r rfl) (.r rfl)) rfl<|VO.nil ?_)
          refine VE.seqN ?_
          refine VC.seq ?_
          refine VC.cond rfl (fun h80 => ?_) (fun h80 => ?_)
          ·
            obtain ⟨cx, hcx⟩ : ∃ x, o.cs[j]? = some x := ⟨_, List.getElem?_eq_getElem (by omega)⟩
            have hcm := List.mem_of_getElem? hcx
            have hcb := hcn j cx hcx
            have hCx : CS[j]? = some cx.p := by rw [hCS, List.getElem?_map, hcx]; rfl
            refine VC.skip (VE.seqN ?_)
            refine VC.seq ?_
            refine VC.block ?_
            refine VC.seq ?_
            refine VC.reg (VO.l (LO.ixs S114 N150 hcr.sm (.r rfl) (.r rfl) rfl (by omega)) rfl<|VO.l (LO.ld O150 (.r rfl) (fun w hw => cells_part (off := 0) ((fun w2 hw2 => (hcr.keep w2 hw2).cells _ _ (by rw [List.getElem?_map, hcx]; rfl)) w hw) ⟨_, rfl⟩)) rfl<|VO.l (LO.as (.r rfl)) rfl<|VO.nil ?_)
            refine VE.seqN ?_
            refine VC.seq ?_
            refine VC.draw mixed (LL.l (LO.mv (.r rfl)) rfl<|LL.l (LO.mv (.r rfl)) rfl<|LL.lg rfl rfl (GD.t _) (fun hg => LO.mv (.r rfl)) rfl<|LL.lg rfl rfl (GD.t _) (fun hg => LO.nc (.g hg rfl)) rfl<|LL.lg rfl rfl (GD.t _) (fun hg => LO.fa (r := 1) F64_1 (.g hg rfl) rfl) rfl<|LL.lg rfl rfl (GD.t _) (fun hg => LO.ld O3 (.g hg rfl) (cells_keep (sub_cells (off := 1) (case_read hh hcm) ⟨_, rfl⟩))) rfl<|LL.lg rfl rfl (GD.t _) (fun hg => LO.mv (.r rfl)) rfl<|LL.lg rfl rfl (GD.t _) (fun hg => LO.nc (.g hg rfl)) rfl<|LL.lg rfl rfl (GD.t _) (fun hg => LO.fa (r := 2) F156_1 (.g hg rfl) rfl) rfl<|LL.lg rfl rfl (GD.t _) (fun hg => LO.ld O3 (.g hg rfl) (cells_keep (sub_cells (off := 2) (rec_read hh hr).1 ⟨_, rfl⟩))) rfl<|LL.lg rfl rfl (GD.t _) (fun hg => LO.eq (.g hg rfl) (.g hg rfl)) rfl<|LL.l (LO.pkA (.r rfl) rfl rfl (.r rfl)) rfl<|LL.l (LO.mv (.r rfl)) rfl<|LL.lg rfl rfl (GD.t _) (fun hg => LO.mv (.r rfl)) rfl<|LL.lg rfl rfl (GD.t _) (fun hg => LO.nc (.g hg rfl)) rfl<|LL.lg rfl rfl (GD.t _) (fun hg => LO.fa (r := 2) F64_2 (.g hg rfl) rfl) rfl<|LL.lg rfl rfl (GD.t _) (fun hg => LO.ld O3 (.g hg rfl) (cells_keep (sub_cells (off := 2) (case_read hh hcm) ⟨_, rfl⟩))) rfl<|LL.lg rfl rfl (GD.t _) (fun hg => LO.fa (r := 0) F165_0 (.r rfl) rfl) rfl<|LL.lg rfl rfl (GD.t _) (fun hg => LO.ld O3 (.g hg rfl) (fun _ hw => cells_at hw 1 rfl ⟨_, rfl⟩)) rfl<|LL.lg rfl rfl (GD.t _) (fun hg => LO.le (.g hg rfl) (.g hg rfl)) rfl<|LL.l (LO.pkA (.r rfl) rfl rfl (.r rfl)) rfl<|LL.l (LO.mv (.r rfl)) rfl<|LL.lg rfl rfl (GD.t _) (fun hg => LO.fa (r := 0) F165_0 (.r rfl) rfl) rfl<|LL.lg rfl rfl (GD.t _) (fun hg => LO.ld O3 (.g hg rfl) (fun _ hw => cells_at hw 1 rfl ⟨_, rfl⟩)) rfl<|LL.lg rfl rfl (GD.t _) (fun hg => LO.mv (.r rfl)) rfl<|LL.lg rfl rfl (GD.t _) (fun hg => LO.nc (.g hg rfl)) rfl<|LL.lg rfl rfl (GD.t _) (fun hg => LO.fa (r := 3) F64_3 (.g hg rfl) rfl) rfl<|LL.lg rfl rfl (GD.t _) (fun hg => LO.ld O3 (.g hg rfl) (cells_keep (sub_cells (off := 3) (case_read hh hcm) ⟨_, rfl⟩))) rfl<|LL.lg rfl rfl (GD.t _) (fun hg => LO.lt (.g hg rfl) (.g hg rfl)) rfl<|LL.l (LO.pkA (.r rfl) rfl rfl (.r rfl)) rfl<|LL.nil) (by kernel_rfl) ?_
            refine VE.seqN ?_
            refine VC.cond rfl (fun h112 => ?_) (fun h112 => ?_)
            ·
              have hic : inC r.x.r.pix cx.p nx.n = true := inC_of h112
              have hrg : cx.p.rg = (r.i : Int) := h112.1.1.2
              have hbt : cx.bg ≤ nx.t := h112.1.2
              have hat : mapF (r.i : Int) r.x.r.pix CS NS i j cx.nm = firstN r.x.r.pix cx.p (NS.take i) := by rw [hcb.1]; exact mapF_at hCx hrg
              refine VC.seq ?_
              refine VC.reg (VO.l (LO.mv (.r rfl)) rfl<|VO.l (LO.mv (.r rfl)) rfl<|VO.l (LO.nc (.r rfl)) rfl<|VO.l (LO.fa (r := 0) F64_0 (.r rfl) rfl) rfl<|VO.l (LO.ld O3 (.r rfl) (cells_keep (sub_cells (off := 0) (case_read hh hcm) ⟨_, rfl⟩))) rfl<|VO.l (LO.lk2 IM208 (.r rfl) (.r rfl) (fun _ hw => ⟨es, ck, St.inv hw 0 _ rfl, hE⟩)) rfl<|VO.l (LO.mv (.r rfl)) rfl<|VO.l (LO.ex (.r rfl) rfl) rfl<|VO.l (LO.ex (.r rfl) rfl) rfl<|VO.l (LO.as (.r rfl)) rfl<|VO.l (LO.as (.r rfl)) rfl<|VO.nil ?_)
              refine VE.seqN ?_
              refine VC.seq ?_
              refine VC.draw mixed (LL.l (LO.mv (.r rfl)) rfl<|LL.l (LO.not (.r rfl)) rfl<|LL.l (LO.mv (.r rfl)) rfl<|LL.lg rfl rfl (GD.f _) (fun hg => LO.fa (r := 0) F165_0 (.r rfl) rfl) rfl<|LL.lg rfl rfl (GD.f _) (fun hg => LO.ld O3 (.g hg rfl) (fun _ hw => cells_at hw 1 rfl ⟨_, rfl⟩)) rfl<|LL.lg rfl rfl (GD.f _) (fun hg => LO.mv (.r rfl)) rfl<|LL.lg rfl rfl (GD.f _) (fun hg => LO.nc (.g hg rfl)) rfl<|LL.lg rfl rfl (GD.f _) (fun hg => LO.fa (r := 2) F64_2 (.g hg rfl) rfl) rfl<|LL.lg rfl rfl (GD.f _) (fun hg => LO.ld O3 (.g hg rfl) (cells_keep (sub_cells (off := 2) (case_read hh hcm) ⟨_, rfl⟩))) rfl<|LL.lg rfl rfl (GD.f _) (fun hg => LO.sub (.g hg rfl) (.g hg rfl) (wi (by omega) (by omega))) rfl<|LL.lg rfl rfl (GD.f _) (fun hg => LO.mv (.r rfl)) rfl<|LL.lg rfl rfl (GD.f _) (fun hg => LO.lt (.g hg rfl) (.g hg rfl)) rfl<|LL.l (LO.pkO (.r rfl) (.r rfl) rfl rfl) rfl<|LL.nil) (by kernel_rfl) ?_
              refine VE.seqN ?_
              refine VC.cond rfl (fun h134 => ?_) (fun h134 => ?_)
              ·
                have hupd := mapF_upd (k := (r.i : Int)) hCx hNx hrg hic (upd_of hat h134)
                refine VC.drawH [[0,1,2,3], [1,2,3]] [some 0, some 0, some 0, some 0, some 0, some 0, some 0, some 0, some 0, some 0, some 0, some 0, none] mixed (by kernel_rfl) rfl (LX.l (fun _ hJ => LO.mv (.r rfl)) rfl<|LX.l (fun _ hJ => LO.mv (.r rfl)) rfl<|LX.l (fun _ hJ => LO.nc (.r rfl)) rfl<|LX.l (fun _ hJ => LO.fa (r := 0) F64_0 (.r rfl) rfl) rfl<|LX.l (fun _ hJ => LO.ld O3 (.r rfl) (cells_keep (sub_cells (off := 0) (case_read hh hcm) ⟨_, rfl⟩))) rfl<|LX.l (fun _ hJ => LO.fa (r := 0) F165_0 (.r rfl) rfl) rfl<|LX.l (fun _ hJ => LO.ld O3 (.r rfl) (fun _ hw => cells_at (hJ _ hw) 1 rfl ⟨_, rfl⟩)) rfl<|LX.l (fun _ hJ => LO.mv (.r rfl)) rfl<|LX.l (fun _ hJ => LO.nc (.r rfl)) rfl<|LX.l (fun _ hJ => LO.fa (r := 2) F64_2 (.r rfl) rfl) rfl<|LX.l (fun _ hJ => LO.ld O3 (.r rfl) (cells_keep (sub_cells (off := 2) (case_read hh hcm) ⟨_, rfl⟩))) rfl<|LX.l (fun _ hJ => LO.sub (.r rfl) (.r rfl) (wi (by omega) (by omega))) rfl<|LX.s<|LX.nil) (HX.s<|HX.s<|HX.s<|HX.s<|HX.s<|HX.s<|HX.s<|HX.s<|HX.s<|HX.s<|HX.s<|HX.s<|HX.h0<|HO.mupI 0 (fun R => [R,_,_,_]) IM208 (.r rfl) (.r rfl) (.r rfl) rfl hE hSt (fun _ => rfl) fun es2 ck2 hE2 hSt2 => ⟨fun _ hw => hw.sel [1,2,3] rfl, HX.nil ?_⟩)
                refine VE.inN (VE.seqN ?_)
                refine VC.reg (VO.l (LO.add (.r rfl) (.r rfl) (wi (by omega) (by omega))) rfl<|VO.l (LO.mv (.r rfl)) rfl<|VO.nil ?_)
                refine VE.thenN fun a w ha hw => ⟨(j + 1, es2, ck2), ⟨by dsimp only; omega, by dsimp only; rw [hupd]; rw [hcb.1] at hE2; exact hE2, hSt2⟩, (by dsimp only; omega), ha.sub (.cons rfl (.cons rfl (.cons rfl (.cons rfl (.cons rfl (.cons rfl (.cons rfl (.cons rfl (.cons rfl (.cons rfl (.cons rfl (.cons rfl (.cons rfl .nil))))))))))))), (by exact selK (L1 := [_,_,_,_]) [0,1,2,3] rfl rfl _ hw)⟩
              ·
                obtain ⟨u, hu1, hu2⟩ := same_of hat h134
                have hsame := mapF_same (k := (r.i : Int)) hCx hNx hrg hic hu1 hu2
                refine VC.skip (VE.inN (VE.seqN ?_))
                refine VC.reg (VO.l (LO.add (.r rfl) (.r rfl) (wi (by omega) (by omega))) rfl<|VO.l (LO.mv (.r rfl)) rfl<|VO.nil ?_)
                refine VE.thenN fun a w ha hw => ⟨(j + 1, es, ck), ⟨by dsimp only; omega, by dsimp only; rw [hsame]; exact hE, hSt⟩, (by dsimp only; omega), ha.sub (.cons rfl (.cons rfl (.cons rfl (.cons rfl (.cons rfl (.cons rfl (.cons rfl (.cons rfl (.cons rfl (.cons rfl (.cons rfl (.cons rfl (.cons rfl .nil))))))))))))), (by exact selK (L1 := [_,_,_,_]) [0,1,2,3] rfl rfl _ hw)⟩
            ·
              have hskip := mapF_skip (k := (r.i : Int)) (pix := r.x.r.pix) hCx hNx (fun q => h112 (inC_to q.1 q.2))
              refine VC.skip (VE.inN (VE.seqN ?_))
              refine VC.reg (VO.l (LO.add (.r rfl) (.r rfl) (wi (by omega) (by omega))) rfl<|VO.l (LO.mv (.r rfl)) rfl<|VO.nil ?_)
              refine VE.thenN fun a w ha hw => ⟨(j + 1, es, ck), ⟨by dsimp only; omega, by dsimp only; rw [hskip]; exact hE, hSt⟩, (by dsimp only; omega), ha.sub (.cons rfl (.cons rfl (.cons rfl (.cons rfl (.cons rfl (.cons rfl (.cons rfl (.cons rfl (.cons rfl (.cons rfl (.cons rfl (.cons rfl (.cons rfl .nil))))))))))))), (by exact selK (L1 := [_,_,_,_]) [0,1,2,3] rfl rfl _ hw)⟩
          ·
            have hje : j = CS.length := by omega
            rw [hje, mapF_next] at hE
            refine VC.exit (VE.thenX (VE.thenX (VE.inX (VE.inN (VE.seqN ?_)))))
            refine VC.reg (VO.l (LO.add (.r rfl) (.r rfl) (wi (by omega) (by omega))) rfl<|VO.l (LO.mv (.r rfl)) rfl<|VO.nil ?_)
            refine VE.thenN fun a w ha hw => ⟨(i + 1, (bump 2 T), es, ck), ⟨by dsimp only; omega, by dsimp only; rw [hNT]; exact cnt_bump hT (kN_2 h47 h56 h62), hE, hSt⟩, (by dsimp only; omega), ha.sub (.cons rfl (.cons rfl (.cons rfl (.cons rfl (.cons rfl (.cons rfl (.cons rfl (.cons rfl .nil)))))))), (by exact selK (L1 := [_,_,_]) [2,0,3] rfl rfl _ hw)⟩
        ·
          refine VC.seq ?_
          refine VC.reg (VO.l (LO.mv (.r rfl)) rfl<|VO.l (LO.as (.r rfl)) rfl<|VO.nil ?_)
          refine VE.seqN ?_
          refine VC.cond rfl (fun h68 => ?_) (fun h68 => ?_)
          ·
            refine VC.reg (VO.l (LO.fa (r := 2) F112_2 (.r rfl) rfl) rfl<|VO.l (LO.ld O3 (.r rfl) (fun _ hw => cells_at hw 1 rfl ⟨_, rfl⟩)) rfl<|VO.l (LO.add (.r rfl) (.r rfl) (wi (by omega) (by omega))) rfl<|VO.l (LO.fa (r := 2) F112_2 (.r rfl) rfl) rfl<|VO.h0<|HO.st 1 (vs := [_]) (C' := [_,_,_,_,_,_,_]) (L' := [_,_,_,_]) N3 rfl rfl rfl rfl rfl rfl rfl rfl<|VO.nil ?_)
            refine VE.inN (VE.seqN ?_)
            refine VC.seq ?_
            refine VC.reg (VO.l (LO.mv (.r rfl)) rfl<|VO.l (LO.nc (.r rfl)) rfl<|VO.l (LO.fa (r := 11) F117_3 (.r rfl) rfl) rfl<|VO.l (LO.ld O114 (.r rfl) (cells_keep (sub_cells (off := 11) (off_cells hh) ⟨_, rfl⟩))) rfl<|VO.l (LO.len S114 (.r rfl) rfl) rfl<|VO.l (LO.mv (.r rfl)) rfl<|VO.nil ?_)
            refine VE.seqN ?_
            refine VC.block ?_
            refine VC.perm [2,0,1,3] rfl ?_
            refine VC.loopK (α := Nat × (Array MapEntry) × Nat) 1 (fun gx => [(79, .int .i64 (gx.1 : Nat))]) [(0,_), (1,_), (6,_), (7,_), (8,_), (10,_), (11,_), (22,_), (23,_), (24,_), (77,_), (78,_)] (fun gx => [blk b3 (.map gx.2.1 gx.2.2)]) (fun gx => gx.1 ≤ o.cs.length ∧ MapE gx.2.1.toList (mapF r.i r.x.r.pix CS NS i gx.1) ∧ Stamps gx.2.1.toList gx.2.2) (fun gx => o.cs.length - gx.1) (0, es, ck) (by exact ⟨Nat.zero_le _, hE, hSt⟩) (.cons rfl (.cons rfl (.cons rfl (.cons rfl (.cons rfl (.cons rfl (.cons rfl (.cons rfl (.cons rfl (.cons rfl (.cons rfl (.cons rfl (.cons rfl .nil))))))))))))) (fun _ h => h) ?_
            rintro ⟨j, es, ck⟩ ⟨hj, hE, hSt⟩
            show VC _ _ _ _ _ ([(79, .int .i64 (j : Nat))] ++ _) ([blk b3 (.map es ck)] ++ _) _ _
            dsimp only at hj hE hSt
            refine VC.seq ?_
            refine VC.reg (VO.l (LO.lt (.r rfl) (.r rfl)) rfl<|VO.nil ?_)
            refine VE.seqN ?_
            refine VC.seq ?_
            refine VC.cond rfl (fun h80 => ?_) (fun h80 => ?_)
            ·
              obtain ⟨cx, hcx⟩ : ∃ x, o.cs[j]? = some x := ⟨_, List.getElem?_eq_getElem (by omega)⟩
              have hcm := List.mem_of_getElem? hcx
              have hcb := hcn j cx hcx
              have hCx : CS[j]? = some cx.p := by rw [hCS, List.getElem?_map, hcx]; rfl
              refine VC.skip (VE.seqN ?_)
              refine VC.seq ?_
              refine VC.block ?_
              refine VC.seq ?_
              refine VC.reg (VO.l (LO.ixs S114 N150 hcr.sm (.r rfl) (.r rfl) rfl (by omega)) rfl<|VO.l (LO.ld O150 (.r rfl) (fun w hw => cells_part (off := 0) ((fun w2 hw2 => (hcr.keep w2 hw2).cells _ _ (by rw [List.getElem?_map, hcx]; rfl)) w hw) ⟨_, rfl⟩)) rfl<|VO.l (LO.as (.r rfl)) rfl<|VO.nil ?_)
              refine VE.seqN ?_
              refine VC.seq ?_
              refine VC.draw mixed (LL.l (LO.mv (.r rfl)) rfl<|LL.l (LO.mv (.r rfl)) rfl<|LL.lg rfl rfl (GD.t _) (fun hg => LO.mv (.r rfl)) rfl<|LL.lg rfl rfl (GD.t _) (fun hg => LO.nc (.g hg rfl)) rfl<|LL.lg rfl rfl (GD.t _) (fun hg => LO.fa (r := 1) F64_1 (.g hg rfl) rfl) rfl<|LL.lg rfl rfl (GD.t _) (fun hg => LO.ld O3 (.g hg rfl) (cells_keep (sub_cells (off := 1) (case_read hh hcm) ⟨_, rfl⟩))) rfl<|LL.lg rfl rfl (GD.t _) (fun hg => LO.mv (.r rfl)) rfl<|LL.lg rfl rfl (GD.t _) (fun hg => LO.nc (.g hg rfl)) rfl<|LL.lg rfl rfl (GD.t _) (fun hg => LO.fa (r := 2) F156_1 (.g hg rfl) rfl) rfl<|LL.lg rfl rfl (GD.t _) (fun hg => LO.ld O3 (.g hg rfl) (cells_keep (sub_cells (off := 2) (rec_read hh hr).1 ⟨_, rfl⟩))) rfl<|LL.lg rfl rfl (GD.t _) (fun hg => LO.eq (.g hg rfl) (.g hg rfl)) rfl<|LL.l (LO.pkA (.r rfl) rfl rfl (.r rfl)) rfl<|LL.l (LO.mv (.r rfl)) rfl<|LL.lg rfl rfl (GD.t _) (fun hg => LO.mv (.r rfl)) rfl<|LL.lg rfl rfl (GD.t _) (fun hg => LO.nc (.g hg rfl)) rfl<|LL.lg rfl rfl (GD.t _) (fun hg => LO.fa (r := 2) F64_2 (.g hg rfl) rfl) rfl<|LL.lg rfl rfl (GD.t _) (fun hg => LO.ld O3 (.g hg rfl) (cells_keep (sub_cells (off := 2) (case_read hh hcm) ⟨_, rfl⟩))) rfl<|LL.lg rfl rfl (GD.t _) (fun hg => LO.fa (r := 0) F165_0 (.r rfl) rfl) rfl<|LL.lg rfl rfl (GD.t _) (fun hg => LO.ld O3 (.g hg rfl) (fun _ hw => cells_at hw 1 rfl ⟨_, rfl⟩)) rfl<|LL.lg rfl rfl (GD.t _) (fun hg => LO.le (.g hg rfl) (.g hg rfl)) rfl<|LL.l (LO.pkA (.r rfl) rfl rfl (.r rfl)) rfl<|LL.l (LO.mv (.r rfl)) rfl<|LL.lg rfl rfl (GD.t _) (fun hg => LO.fa (r := 0) F165_0 (.r rfl) rfl) rfl<|LL.lg rfl rfl (GD.t _) (fun hg => LO.ld O3 (.g hg rfl) (fun _ hw => cells_at hw 1 rfl ⟨_, rfl⟩)) rfl<|LL.lg rfl rfl (GD.t _) (fun hg => LO.mv (.r rfl)) rfl<|LL.lg rfl rfl (GD.t _) (fun hg => LO.nc (.g hg rfl)) rfl<|LL.lg rfl rfl (GD.t _) (fun hg => LO.fa (r := 3) F64_3 (.g hg rfl) rfl) rfl<|LL.lg rfl rfl (GD.t _) (fun hg => LO.ld O3 (.g hg rfl) (cells_keep (sub_cells (off := 3) (case_read hh hcm) ⟨_, rfl⟩))) rfl<|LL.lg rfl rfl (GD.t _) (fun hg => LO.lt (.g hg rfl) (.g hg rfl)) rfl<|LL.l (LO.pkA (.r rfl) rfl rfl (.r rfl)) rfl<|LL.nil) (by kernel_rfl) ?_
              refine VE.seqN ?_
              refine VC.cond rfl (fun h112 => ?_) (fun h112 => ?_)
              ·
                have hic : inC r.x.r.pix cx.p nx.n = true := inC_of h112
                have hrg : cx.p.rg = (r.i : Int) := h112.1.1.2
                have hbt : cx.bg ≤ nx.t := h112.1.2
                have hat : mapF (r.i : Int) r.x.r.pix CS NS i j cx.nm = firstN r.x.r.pix cx.p (NS.take i) := by rw [hcb.1]; exact mapF_at hCx hrg
                refine VC.seq ?_
                refine VC.reg (VO.l (LO.mv (.r rfl)) rfl<|VO.l (LO.mv (.r rfl)) rfl<|VO.l (LO.nc (.r rfl)) rfl<|VO.l (LO.fa (r := 0) F64_0 (.r rfl) rfl) rfl<|VO.l (LO.ld O3 (.r rfl) (cells_keep (sub_cells (off := 0) (case_read hh hcm) ⟨_, rfl⟩))) rfl<|VO.l (LO.lk2 IM208 (.r rfl) (.r rfl) (fun _ hw => ⟨es, ck, St.inv hw 0 _ rfl, hE⟩)) rfl<|VO.l (LO.mv (.r rfl)) rfl<|VO.l (LO.ex (.r rfl) rfl) rfl<|VO.l (LO.ex (.r rfl) rfl) rfl<|VO.l (LO.as (.r rfl)) rfl<|VO.l (LO.as (.r rfl)) rfl<|VO.nil ?_)
                refine VE.seqN ?_
                refine VC.seq ?_
                refine VC.draw mixed (LL.l (LO.mv (.r rfl)) rfl<|LL.l (LO.not (.r rfl)) rfl<|LL.l (LO.mv (.r rfl)) rfl<|LL.lg rfl rfl (GD.f _) (fun hg => LO.fa (r := 0) F165_0 (.r rfl) rfl) rfl<|LL.lg rfl rfl (GD.f _) (fun hg => LO.ld O3 (.g hg rfl) (fun _ hw => cells_at hw 1 rfl ⟨_, rfl⟩)) rfl<|LL.lg rfl rfl (GD.f _) (fun hg => LO.mv (.r rfl)) rfl<|LL.lg rfl rfl (GD.f _) (fun hg => LO.nc (.g hg rfl)) rfl<|LL.lg rfl rfl (GD.f _) (fun hg => LO.fa (r := 2) F64_2 (.g hg rfl) rfl) rfl<|LL.lg rfl rfl (GD.f _) (fun hg => LO.ld O3 (.g hg rfl) (cells_keep (sub_cells (off := 2) (case_read hh hcm) ⟨_, rfl⟩))) rfl<|LL.lg rfl rfl (GD.f _) (fun hg => LO.sub (.g hg rfl) (.g hg rfl) (wi (by omega) (by omega))) rfl<|LL.lg rfl rfl (GD.f _) (fun hg => LO.mv (.r rfl)) rfl<|LL.lg rfl rfl (GD.f _) (fun hg => LO.lt (.g hg rfl) (.g hg rfl)) rfl<|LL.l (LO.pkO (.r rfl) (.r rfl) rfl rfl) rfl<|LL.nil) (by kernel_rfl) ?_
                refine VE.seqN ?_
                refine VC.cond rfl (fun h134 => ?_) (fun h134 => ?_)
                ·
                  have hupd := mapF_upd (k := (r.i : Int)) hCx hNx hrg hic (upd_of hat h134)
                  refine VC.drawH [[0,1,2,3], [1,2,3]] [some 0, some 0, some 0, some 0, some 0, some 0, some 0, some 0, some 0, some 0, some 0, some 0, none] mixed (by kernel_rfl) rfl (LX.l (fun _ hJ => LO.mv (.r rfl)) rfl<|LX.l (fun _ hJ => LO.mv (.r rfl)) rfl<|LX.l (fun _ hJ => LO.nc (.r rfl)) rfl<|LX.l (fun _ hJ => LO.fa (r := 0) F64_0 (.r rfl) rfl) rfl<|LX.l (fun _ hJ => LO.ld O3 (.r rfl) (cells_keep (sub_cells (off := 0) (case_read hh hcm) ⟨_, rfl⟩))) rfl<|LX.l (fun _ hJ => LO.fa (r := 0) F165_0 (.r rfl) rfl) rfl<|LX.l (fun _ hJ => LO.ld O3 (.r rfl) (fun _ hw => cells_at (hJ _ hw) 1 rfl ⟨_, rfl⟩)) rfl<|LX.l (fun _ hJ => LO.mv (.r rfl)) rfl<|LX.l (fun _ hJ => LO.nc (.r rfl)) rfl<|LX.l (fun _ hJ => LO.fa (r := 2) F64_2 (.r rfl) rfl) rfl<|LX.l (fun _ hJ => LO.ld O3 (.r rfl) (cells_keep (sub_cells (off := 2) (case_read hh hcm) ⟨_, rfl⟩))) rfl<|LX.l (fun _ hJ => LO.sub (.r rfl) (.r rfl) (wi (by omega) (by omega))) rfl<|LX.s<|LX.nil) (HX.s<|HX.s<|HX.s<|HX.s<|HX.s<|HX.s<|HX.s<|HX.s<|HX.s<|HX.s<|HX.s<|HX.s<|HX.h0<|HO.mupI 0 (fun R => [R,_,_,_]) IM208 (.r rfl) (.r rfl) (.r rfl) rfl hE hSt (fun _ => rfl) fun es2 ck2 hE2 hSt2 => ⟨fun _ hw => hw.sel [1,2,3] rfl, HX.nil ?_⟩)
                  refine VE.inN (VE.seqN ?_)
                  refine VC.reg (VO.l (LO.add (.r rfl) (.r rfl) (wi (by omega) (by omega))) rfl<|VO.l (LO.mv (.r rfl)) rfl<|VO.nil ?_)
                  refine VE.thenN fun a w ha hw => ⟨(j + 1, es2, ck2), ⟨by dsimp only; omega, by dsimp only; rw [hupd]; rw [hcb.1] at hE2; exact hE2, hSt2⟩, (by dsimp only; omega), ha.sub (.cons rfl (.cons rfl (.cons rfl (.cons rfl (.cons rfl (.cons rfl (.cons rfl (.cons rfl (.cons rfl (.cons rfl (.cons rfl (.cons rfl (.cons rfl .nil))))))))))))), (by exact selK (L1 := [_,_,_,_]) [0,1,2,3] rfl rfl _ hw)⟩
                ·
                  obtain ⟨u, hu1, hu2⟩ := same_of hat h134
                  have hsame := mapF_same (k := (r.i : Int)) hCx hNx hrg hic hu1 hu2
                  refine VC.skip (VE.inN (VE.seqN ?_))
                  refine VC.reg (VO.l (LO.add (.r rfl) (.r rfl) (wi (by omega) (by omega))) rfl<|VO.l (LO.mv (.r rfl)) rfl<|VO.nil ?_)
                  refine VE.thenN fun a w ha hw => ⟨(j + 1, es, ck), ⟨by dsimp only; omega, by dsimp only; rw [hsame]; exact hE, hSt⟩, (by dsimp only; omega), ha.sub (.cons rfl (.cons rfl (.cons rfl (.cons rfl (.cons rfl (.cons rfl (.cons rfl (.cons rfl (.cons rfl (.cons rfl (.cons rfl (.cons rfl (.cons rfl .nil))))))))))))), (by exact selK (L1 := [_,_,_,_]) [0,1,2,3] rfl rfl _ hw)⟩
              ·
                have hskip := mapF_skip (k := (r.i : Int)) (pix := r.x.r.pix) hCx hNx (fun q => h112 (inC_to q.1 q.2))
                refine VC.skip (VE.inN (VE.seqN ?_))
                refine VC.reg (VO.l (LO.add (.r rfl) (.r rfl) (wi (by omega) (by omega))) rfl<|VO.l (LO.mv (.r rfl)) rfl<|VO.nil ?_)
                refine VE.thenN fun a w ha hw => ⟨(j + 1, es, ck), ⟨by dsimp only; omega, by dsimp only; rw [hskip]; exact hE, hSt⟩, (by dsimp only; omega), ha.sub (.cons rfl (.cons rfl (.cons rfl (.cons rfl (.cons rfl (.cons rfl (.cons rfl (.cons rfl (.cons rfl (.cons rfl (.cons rfl (.cons rfl (.cons rfl .nil))))))))))))), (by exact selK (L1 := [_,_,_,_]) [0,1,2,3] rfl rfl _ hw)⟩
            ·
              have hje : j = CS.length := by omega
              rw [hje, mapF_next] at hE
              refine VC.exit (VE.thenX (VE.thenX (VE.inX (VE.inN (VE.seqN ?_)))))
              refine VC.reg (VO.l (LO.add (.r rfl) (.r rfl) (wi (by omega) (by omega))) rfl<|VO.l (LO.mv (.r rfl)) rfl<|VO.nil ?_)
              refine VE.thenN fun a w ha hw => ⟨(i + 1, (bump 3 T), es, ck), ⟨by dsimp only; omega, by dsimp only; rw [hNT]; exact cnt_bump hT (kN_3 h47 h56 h62 h68), hE, hSt⟩, (by dsimp only; omega), ha.sub (.cons rfl (.cons rfl (.cons rfl (.cons rfl (.cons rfl (.cons rfl (.cons rfl (.cons rfl .nil)))))))), (by exact selK (L1 := [_,_,_]) [2,0,3] rfl rfl _ hw)⟩
          ·
            refine VC.reg (VO.l (LO.fa (r := 3) F112_3 (.r rfl) rfl) rfl<|VO.l (LO.ld O3 (.r rfl) (fun _ hw => cells_at hw 1 rfl ⟨_, rfl⟩)) rfl<|VO.l (LO.add (.r rfl) (.r rfl) (wi (by omega) (by omega))) rfl<|VO.l (LO.fa (r := 3) F112_3 (.r rfl) rfl) rfl<|VO.h0<|HO.st 1 (vs := [_]) (C' := [_,_,_,_,_,_,_]) (L' := [_,_,_,_]) N3 rfl rfl rfl rfl rfl rfl rfl rfl<|VO.nil ?_)
            refine VE.inN (VE.seqN ?_)
            refine VC.seq ?_
            refine VC.reg (VO.l (LO.mv (.r rfl)) rfl<|VO.l (LO.nc (.r rfl)) rfl<|VO.l (LO.fa (r := 11) F117_3 (.r rfl) rfl) rfl<|VO.l (LO.ld O114 (.r rfl) (cells_keep (sub_cells (off := 11) (off_cells hh) ⟨_, rfl⟩))) rfl<|VO.l (LO.len S114 (.r rfl) rfl) rfl<|VO.l (LO.mv (.r rfl)) rfl<|VO.nil ?_)
            refine VE.seqN ?_
            refine VC.block ?_
            refine VC.perm [2,0,1,3] rfl ?_
            refine VC.loopK (α := Nat × (Array MapEntry) × Nat) 1 (fun gx => [(79, .int .i64 (gx.1 : Nat))]) [(0,_), (1,_), (6,_), (7,_), (8,_), (10,_), (11,_), (22,_), (23,_), (24,_), (77,_), (78,_)] (fun gx => [blk b3 (.map gx.2.1 gx.2.2)]) (fun gx => gx.1 ≤ o.cs.length ∧ MapE gx.2.1.toList (mapF r.i r.x.r.pix CS NS i gx.1) ∧ Stamps gx.2.1.toList gx.2.2) (fun gx => o.cs.length - gx.1) (0, es, ck) (by exact ⟨Nat.zero_le _, hE, hSt⟩) (.cons rfl (.cons rfl (.cons rfl (.cons rfl (.cons rfl (.cons rfl (.cons rfl (.cons rfl (.cons rfl (.cons rfl (.cons rfl (.cons rfl (.cons rfl .nil))))))))))))) (fun _ h => h) ?_
            rintro ⟨j, es, ck⟩ ⟨hj, hE, hSt⟩
            show VC _ _ _ _ _ ([(79, .int .i64 (j : Nat))] ++ _) ([blk b3 (.map es ck)] ++ _) _ _
            dsimp only at hj hE hSt
            refine VC.seq ?_
            refine VC.reg (VO.l (LO.lt (.r rfl) (.r rfl)) rfl<|VO.nil ?_)
            refine VE.seqN ?_
            refine VC.seq ?_
            refine VC.cond rfl (fun h80 => ?_) (fun h80 => ?_)
            ·
              obtain ⟨cx, hcx⟩ : ∃ x, o.cs[j]? = some x := ⟨_, List.getElem?_eq_getElem (by omega)⟩
              have hcm := List.mem_of_getElem? hcx
              have hcb := hcn j cx hcx
              have hCx : CS[j]? = some cx.p := by rw [hCS, List.getElem?_map, hcx]; rfl
              refine VC.skip (VE.seqN ?_)
              refine VC.seq ?_
              refine VC.block ?_
              refine VC.seq ?_
              refine VC.reg (VO.l (LO.ixs S114 N150 hcr.sm (.r rfl) (.r rfl) rfl (by omega)) rfl<|VO.l (LO.ld O150 (.r rfl) (fun w hw => cells_part (off := 0) ((fun w2 hw2 => (hcr.keep w2 hw2).cells _ _ (by rw [List.getElem?_map, hcx]; rfl)) w hw) ⟨_, rfl⟩)) rfl<|VO.l (LO.as (.r rfl)) rfl<|VO.nil ?_)
              refine VE.seqN ?_
              refine VC.seq ?_
              refine VC.draw mixed (LL.l (LO.mv (.r rfl)) rfl<|LL.l (LO.mv (.r rfl)) rfl<|LL.lg rfl rfl (GD.t _) (fun hg => LO.mv (.r rfl)) rfl<|LL.lg rfl rfl (GD.t _) (fun hg => LO.nc (.g hg rfl)) rfl<|LL.lg rfl rfl (GD.t _) (fun hg => LO.fa (r := 1) F64_1 (.g hg rfl) rfl) rfl<|LL.lg rfl rfl (GD.t _) (fun hg => LO.ld O3 (.g hg rfl) (cells_keep (sub_cells (off := 1) (case_read hh hcm) ⟨_, rfl⟩))) rfl<|LL.lg rfl rfl (GD.t _) (fun hg => LO.mv (.r rfl)) rfl<|LL.lg rfl rfl (GD.t _) (fun hg => LO.nc (.g hg rfl)) rfl<|LL.lg rfl rfl (GD.t _) (fun hg => LO.fa (r := 2) F156_1 (.g hg rfl) rfl) rfl<|LL.lg rfl rfl (GD.t _) (fun hg => LO.ld O3 (.g hg rfl) (cells_keep (sub_cells (off := 2) (rec_read hh hr).1 ⟨_, rfl⟩))) rfl<|LL.lg rfl rfl (GD.t _) (fun hg => LO.eq (.g hg rfl) (.g hg rfl)) rfl<|LL.l (LO.pkA (.r rfl) rfl rfl (.r rfl)) rfl<|LL.l (LO.mv (.r rfl)) rfl<|LL.lg rfl rfl (GD.t _) (fun hg => LO.mv (.r rfl)) rfl<|LL.lg rfl rfl (GD.t _) (fun hg => LO.nc (.g hg rfl)) rfl<|LL.lg rfl rfl (GD.t _) (fun hg => LO.fa (r := 2) F64_2 (.g hg rfl) rfl) rfl<|LL.lg rfl rfl (GD.t _) (fun hg => LO.ld O3 (.g hg rfl) (cells_keep (sub_cells (off := 2) (case_read hh hcm) ⟨_, rfl⟩))) rfl<|LL.lg rfl rfl (GD.t _) (fun hg => LO.fa (r := 0) F165_0 (.r rfl) rfl) rfl<|LL.lg rfl rfl (GD.t _) (fun hg => LO.ld O3 (.g hg rfl) (fun _ hw => cells_at hw 1 rfl ⟨_, rfl⟩)) rfl<|LL.lg rfl rfl (GD.t _) (fun hg => LO.le (.g hg rfl) (.g hg rfl)) rfl<|LL.l (LO.pkA (.r rfl) rfl rfl (.r rfl)) rfl<|LL.l (LO.mv (.r rfl)) rfl<|LL.lg rfl rfl (GD.t _) (fun hg => LO.fa (r := 0) F165_0 (.r rfl) rfl) rfl<|LL.lg rfl rfl (GD.t _) (fun hg => LO.ld O3 (.g hg rfl) (fun _ hw => cells_at hw 1 rfl ⟨_, rfl⟩)) rfl<|LL.lg rfl rfl (GD.t _) (fun hg => LO.mv (.r rfl)) rfl<|LL.lg rfl rfl (GD.t _) (fun hg => LO.nc (.g hg rfl)) rfl<|LL.lg rfl rfl (GD.t _) (fun hg => LO.fa (r := 3) F64_3 (.g hg rfl) rfl) rfl<|LL.lg rfl rfl (GD.t _) (fun hg => LO.ld O3 (.g hg rfl) (cells_keep (sub_cells (off := 3) (case_read hh hcm) ⟨_, rfl⟩))) rfl<|LL.lg rfl rfl (GD.t _) (fun hg => LO.lt (.g hg rfl) (.g hg rfl)) rfl<|LL.l (LO.pkA (.r rfl) rfl rfl (.r rfl)) rfl<|LL.nil) (by kernel_rfl) ?_
              refine VE.seqN ?_
              refine VC.cond rfl (fun h112 => ?_) (fun h112 => ?_)
              ·
                have hic : inC r.x.r.pix cx.p nx.n = true := inC_of h112
                have hrg : cx.p.rg = (r.i : Int) := h112.1.1.2
                have hbt : cx.bg ≤ nx.t := h112.1.2
                have hat : mapF (r.i : Int) r.x.r.pix CS NS i j cx.nm = firstN r.x.r.pix cx.p (NS.take i) := by rw [hcb.1]; exact mapF_at hCx hrg
                refine VC.seq ?_
                refine VC.reg (VO.l (LO.mv (.r rfl)) rfl<|VO.l (LO.mv (.r rfl)) rfl<|VO.l (LO.nc (.r rfl)) rfl<|VO.l (LO.fa (r := 0) F64_0 (.r rfl) rfl) rfl<|VO.l (LO.ld O3 (.r rfl) (cells_keep (sub_cells (off := 0) (case_read hh hcm) ⟨_, rfl⟩))) rfl<|VO.l (LO.lk2 IM208 (.r rfl) (.r rfl) (fun _ hw => ⟨es, ck, St.inv hw 0 _ rfl, hE⟩)) rfl<|VO.l (LO.mv (.r rfl)) rfl<|VO.l (LO.ex (.r rfl) rfl) rfl<|VO.l (LO.ex (.r rfl) rfl) rfl<|VO.l (LO.as (.r rfl)) rfl<|VO.l (LO.as (.r rfl)) rfl<|VO.nil ?_)
                refine VE.seqN ?_
                refine VC.seq ?_
                refine VC.draw mixed (LL.l (LO.mv (.r rfl)) rfl<|LL.l (LO.not (.r rfl)) rfl<|LL.l (LO.mv (.r rfl)) rfl<|LL.lg rfl rfl (GD.f _) (fun hg => LO.fa (r := 0) F165_0 (.r rfl) rfl) rfl<|LL.lg rfl rfl (GD.f _) (fun hg => LO.ld O3 (.g hg rfl) (fun _ hw => cells_at hw 1 rfl ⟨_, rfl⟩)) rfl<|LL.lg rfl rfl (GD.f _) (fun hg => LO.mv (.r rfl)) rfl<|LL.lg rfl rfl (GD.f _) (fun hg => LO.nc (.g hg rfl)) rfl<|LL.lg rfl rfl (GD.f _) (fun hg => LO.fa (r := 2) F64_2 (.g hg rfl) rfl) rfl<|LL.lg rfl rfl (GD.f _) (fun hg => LO.ld O3 (.g hg rfl) (cells_keep (sub_cells (off := 2) (case_read hh hcm) ⟨_, rfl⟩))) rfl<|LL.lg rfl rfl (GD.f _) (fun hg => LO.sub (.g hg rfl) (.g hg rfl) (wi (by omega) (by omega))) rfl<|LL.lg rfl rfl (GD.f _) (fun hg => LO.mv (.r rfl)) rfl<|LL.lg rfl rfl (GD.f _) (fun hg => LO.lt (.g hg rfl) (.g hg rfl)) rfl<|LL.l (LO.pkO (.r rfl) (.r rfl) rfl rfl) rfl<|LL.nil) (by kernel_rfl) ?_
                refine VE.seqN ?_
                refine VC.cond rfl (fun h134 => ?_) (fun h134 => ?_)
                ·
                  have hupd := mapF_upd (k := (r.i : Int)) hCx hNx hrg hic (upd_of hat h134)
                  refine VC.drawH [[0,1,2,3], [1,2,3]] [some 0, some 0, some 0, some 0, some 0, some 0, some 0, some 0, some 0, some 0, some 0, some 0, none] mixed (by kernel_rfl) rfl (LX.l (fun _ hJ => LO.mv (.r rfl)) rfl<|LX.l (fun _ hJ => LO.mv (.r rfl)) rfl<|LX.l (fun _ hJ => LO.nc (.r rfl)) rfl<|LX.l (fun _ hJ => LO.fa (r := 0) F64_0 (.r rfl) rfl) rfl<|LX.l (fun _ hJ => LO.ld O3 (.r rfl) (cells_keep (sub_cells (off := 0) (case_read hh hcm) ⟨_, rfl⟩))) rfl<|LX.l (fun _ hJ => LO.fa (r := 0) F165_0 (.r rfl) rfl) rfl<|LX.l (fun _ hJ => LO.ld O3 (.r rfl) (fun _ hw => cells_at (hJ _ hw) 1 rfl ⟨_, rfl⟩)) rfl<|LX.l (fun _ hJ => LO.mv (.r rfl)) rfl<|LX.l (fun _ hJ => LO.nc (.r rfl)) rfl<|LX.l (fun _ hJ => LO.fa (r := 2) F64_2 (.r rfl) rfl) rfl<|LX.l (fun _ hJ => LO.ld O3 (.r rfl) (cells_keep (sub_cells (off := 2) (case_read hh hcm) ⟨_, rfl⟩))) rfl<|LX.l (fun _ hJ => LO.sub (.r rfl) (.r rfl) (wi (by omega) (by omega))) rfl<|LX.s<|LX.nil) (HX.s<|HX.s<|HX.s<|HX.s<|HX.s<|HX.s<|HX.s<|HX.s<|HX.s<|HX.s<|HX.s<|HX.s<|HX.h0<|HO.mupI 0 (fun R => [R,_,_,_]) IM208 (.r rfl) (.r rfl) (.r rfl) rfl hE hSt (fun _ => rfl) fun es2 ck2 hE2 hSt2 => ⟨fun _ hw => hw.sel [1,2,3] rfl, HX.nil ?_⟩)
                  refine VE.inN (VE.seqN ?_)
                  refine VC.reg (VO.l (LO.add (.r rfl) (.r rfl) (wi (by omega) (by omega))) rfl<|VO.l (LO.mv (.r rfl)) rfl<|VO.nil ?_)
                  refine VE.thenN fun a w ha hw => ⟨(j + 1, es2, ck2), ⟨by dsimp only; omega, by dsimp only; rw [hupd]; rw [hcb.1] at hE2; exact hE2, hSt2⟩, (by dsimp only; omega), ha.sub (.cons rfl (.cons rfl (.cons rfl (.cons rfl (.cons rfl (.cons rfl (.cons rfl (.cons rfl (.cons rfl (.cons rfl (.cons rfl (.cons rfl (.cons rfl .nil))))))))))))), (by exact selK (L1 := [_,_,_,_]) [0,1,2,3] rfl rfl _ hw)⟩
                ·
                  obtain ⟨u, hu1, hu2⟩ := same_of hat h134
                  have hsame := mapF_same (k := (r.i : Int)) hCx hNx hrg hic hu1 hu2
                  refine VC.skip (VE.inN (VE.seqN ?_))
                  refine VC.reg (VO.l (LO.add (.r rfl) (.r rfl) (wi (by omega) (by omega))) rfl<|VO.l (LO.mv (.r rfl)) rfl<|VO.nil ?_)
                  refine VE.thenN fun a w ha hw => ⟨(j + 1, es, ck), ⟨by dsimp only; omega, by dsimp only; rw [hsame]; exact hE, hSt⟩, (by dsimp only; omega), ha.sub (.cons rfl (.cons rfl (.cons rfl (.cons rfl (.cons rfl (.cons rfl (.cons rfl (.cons rfl (.cons rfl (.cons rfl (.cons rfl (.cons rfl (.cons rfl .nil))))))))))))), (by exact selK (L1 := [_,_,_,_]) [0,1,2,3] rfl rfl _ hw)⟩
              ·
                have hskip := mapF_skip (k := (r.i : Int)) (pix := r.x.r.pix) hCx hNx (fun q => h112 (inC_to q.1 q.2))
                refine VC.skip (VE.inN (VE.seqN ?_))
                refine VC.reg (VO.l (LO.add (.r rfl) (.r rfl) (wi (by omega) (by omega))) rfl<|VO.l (LO.mv (.r rfl)) rfl<|VO.nil ?_)
                refine VE.thenN fun a w ha hw => ⟨(j + 1, es, ck), ⟨by dsimp only; omega, by dsimp only; rw [hskip]; exact hE, hSt⟩, (by dsimp only; omega), ha.sub (.cons rfl (.cons rfl (.cons rfl (.cons rfl (.cons rfl (.cons rfl (.cons rfl (.cons rfl (.cons rfl (.cons rfl (.cons rfl (.cons rfl (.cons rfl .nil))))))))))))), (by exact selK (L1 := [_,_,_,_]) [0,1,2,3] rfl rfl _ hw)⟩
            ·
              have hje : j = CS.length := by omega
              rw [hje, mapF_next] at hE
              refine VC.exit (VE.thenX (VE.thenX (VE.inX (VE.inN (VE.seqN ?_)))))
              refine VC.reg (VO.l (LO.add (.r rfl) (.r rfl) (wi (by omega) (by omega))) rfl<|VO.l (LO.mv (.r rfl)) rfl<|VO.nil ?_)
              refine VE.thenN fun a w ha hw => ⟨(i + 1, (bump 4 T), es, ck), ⟨by dsimp only; omega, by dsimp only; rw [hNT]; exact cnt_bump hT (kN_4 h47 h56 h62 h68), hE, hSt⟩, (by dsimp only; omega), ha.sub (.cons rfl (.cons rfl (.cons rfl (.cons rfl (.cons rfl (.cons rfl (.cons rfl (.cons rfl .nil)))))))), (by exact selK (L1 := [_,_,_]) [2,0,3] rfl rfl _ hw)⟩
  ·
    have hie : i = ns.length := by omega
    refine VC.exit (VE.thenX (VE.thenX (VE.inX (VE.seqN ?_))))
    refine VC.seq ?_
    refine VC.reg (VO.l (LO.as (.r rfl)) rfl<|VO.nil ?_)
    refine VE.seqN ?_
    refine VC.seq ?_
    refine VC.seq ?_
    refine VC.reg (VO.l (LO.mv (.r rfl)) rfl<|VO.h rfl<|HO.rangeM Try.underlying208 rfl (fun _ hw => St.inv hw 1 _ rfl) fun b11 => VO.nil ?_)
    refine VE.seqN ?_
    refine VC.block ?_
    refine VC.perm [1,0,2,3] rfl ?_
    refine VC.loopK (α := (Array Nat) × Bool × Int × Int) 2 (fun gx => [(18, .bool gx.2.1)]) [(6,_), (7,_), (150,_)] (fun gx => [blk b2 (.cells #[.int .i64 T.h, .int .i64 T.m, .int .i64 T.a, .int .i64 T.q, .int .i64 T.o, .int .i64 gx.2.2.1, .int .i64 gx.2.2.2] 112), blk b11 (.mapIter (some b3) ck gx.1 ck)]) (fun gx => AhI es.toList gx.1 gx.2.1 gx.2.2.1 gx.2.2.2) (fun gx => (leftOf es gx.1).size) (#[], false, 0,0) (by exact ah_0) (.cons rfl (.cons rfl (.cons rfl (.cons rfl .nil)))) (fun _ h => h) ?_
    rintro ⟨seen, sm, lo, hi⟩ hA
    show VC _ _ _ _ _ ([(18, .bool sm)] ++ _) ([blk b2 (.cells #[.int .i64 T.h, .int .i64 T.m, .int .i64 T.a, .int .i64 T.q, .int .i64 T.o, .int .i64 lo, .int .i64 hi] 112), blk b11 (.mapIter (some b3) ck seen ck)] ++ _) _ _
    dsimp only at hA
    refine VC.seq ?_
    by_cases h0 : (leftOf es seen).size = 0
    ·
      refine VC.reg (VO.h rfl<|HO.nextM0 1 rfl rfl (fun _ hw => St.inv hw 2 _ rfl) hSt.2 (Nat.le_refl _) h0<|VO.h rfl<|HO.lo (LO.ex (.r rfl) rfl)<|VO.nil ?_)
      refine VE.seqN ?_
      refine VC.seq ?_
      refine VC.cond rfl (fun h152 => ?_) (fun h152 => ?_)
      ·
        (exfalso; cases h152)
      ·
        refine VC.exit (VE.thenX (VE.thenX (VE.inX (VE.seqN ?_))))
        refine VC.seq ?_
        refine VC.reg (VO.l (LO.lda (vs := [_,_,_,_,_,_,_]) A112 (.r rfl) (fun _ hw => cells_at hw 0 rfl ⟨_, rfl⟩) rfl) rfl<|VO.h0<|HO.st 3 (vs := [_,_,_,_,_,_,_]) (C' := [_,_,_,_,_,_,_]) (L' := [_,_,_,_]) N112 rfl rfl rfl rfl rfl rfl rfl rfl<|VO.nil ?_)
        refine VE.seqN ?_
        refine VC.ret (VE.res (vs := [_]) rfl ⟨RV.agg (vs := [_,_,_,_,_,_,_]) A112 rfl (cells_blk 3 rfl ⟨_, rfl⟩) rfl, trivial⟩ (fun w hw => ?_))
        refine ⟨?_, hw.nil⟩
        rw [hie, ← hNL] at hE
        rw [hie, ← hNL, List.take_length] at hT
        obtain ⟨e1, e2⟩ := ah_end hA hE h0
        obtain ⟨g1, g2, g3, g4, g5⟩ := hT
        simp only [resV, talF, ← g1, ← g2, ← g3, ← g4, ← g5, ← e1, ← e2]
    ·
      refine VC.reg (VO.h rfl<|HO.nextM1 1 (fun R => [_, R,_,_]) rfl rfl (fun _ => rfl) (fun _ hw => St.inv hw 2 _ rfl) hSt.2 (Nat.le_refl _) h0 fun e he => VO.h rfl<|HO.lo (LO.ex (.r rfl) rfl)<|VO.nil ?_)
      refine VE.seqN ?_
      refine VC.seq ?_
      refine VC.cond rfl (fun h152 => ?_) (fun h152 => ?_)
      ·
        refine VC.skip (VE.seqN ?_)
        refine VC.block ?_
        refine VC.seq ?_
        obtain ⟨kn, kv, hk1, hk2,_⟩ := hE.ent e (left_mem.1 he).1
        refine VC.reg (VO.l (LO.entryI (.r rfl) (fun _ hw => St.inv hw 1 _ rfl) (fun _ hw => St.inv hw 2 _ rfl) (left_mem.1 he).1 hSt.1 hk1 hk2) rfl<|VO.l (LO.ex (.r rfl) rfl) rfl<|VO.l (LO.as (.r rfl)) rfl<|VO.nil ?_)
        refine VE.seqN ?_
        refine VC.seq ?_
        refine VC.seq ?_
        refine VC.reg (VO.l (LO.mv (.r rfl)) rfl<|VO.l (LO.not (.r rfl)) rfl<|VO.nil ?_)
        refine VE.seqN ?_
        refine VC.cond rfl (fun h156 => ?_) (fun h156 => ?_)
        ·
          refine VC.reg (VO.l (LO.mv (.r rfl)) rfl<|VO.l (LO.mv (.r rfl)) rfl<|VO.l (LO.bd (ps := [(_,_), (_,_)]) (vs := [(_,_), (_,_)]) (C := [_,_]) B76  ⟨(.r rfl), (.r rfl), trivial⟩ rfl ⟨_, [_], [_,_], rfl, rfl, rfl, rfl, ⟨_, [_], [_,_], rfl, rfl, rfl, rfl, rfl⟩⟩) rfl<|VO.l (LO.fa (r := 5) F112_5 (.r rfl) rfl) rfl<|VO.h0<|HO.st 0 (vs := [_,_]) (C' := [_,_,_,_,_,_,_]) (L' := [_,_,_,_]) N76 rfl rfl rfl rfl rfl rfl rfl rfl<|VO.nil ?_)
          refine VE.seqN ?_
          refine VC.seq ?_
          refine VC.reg (VO.l (LO.as (.r rfl)) rfl<|VO.nil ?_)
          refine VE.seqN ?_
          refine VC.reg (VO.l (LO.fa (r := 5) F112_5 (.r rfl) rfl) rfl<|VO.l (LO.fa (r := 5) F76_0 (.r rfl) rfl) rfl<|VO.l (LO.ld O3 (.r rfl) (fun _ hw => cells_at hw 0 rfl ⟨_, rfl⟩)) rfl<|VO.l (LO.mv (.r rfl)) rfl<|VO.l (LO.min (.r rfl) (.r rfl)) rfl<|VO.l (LO.fa (r := 5) F112_5 (.r rfl) rfl) rfl<|VO.l (LO.fa (r := 6) F76_1 (.r rfl) rfl) rfl<|VO.l (LO.ld O3 (.r rfl) (fun _ hw => cells_at hw 0 rfl ⟨_, rfl⟩)) rfl<|VO.l (LO.mv (.r rfl)) rfl<|VO.l (LO.max (.r rfl) (.r rfl)) rfl<|VO.l (LO.bd (ps := [(_,_), (_,_)]) (vs := [(_,_), (_,_)]) (C := [_,_]) B76  ⟨(.r rfl), (.r rfl), trivial⟩ rfl ⟨_, [_], [_,_], rfl, rfl, rfl, rfl, ⟨_, [_], [_,_], rfl, rfl, rfl, rfl, rfl⟩⟩) rfl<|VO.l (LO.fa (r := 5) F112_5 (.r rfl) rfl) rfl<|VO.h0<|HO.st 0 (vs := [_,_]) (C' := [_,_,_,_,_,_,_]) (L' := [_,_,_,_]) N76 rfl rfl rfl rfl rfl rfl rfl rfl<|VO.nil ?_)
          refine VE.inN ?_
          refine VE.thenN fun a w ha hw => ⟨(seen.push e.born, true, (min kv kv), (max kv kv)), (by dsimp only; have hsm : sm = false := (by simpa using h156); subst hsm; exact ah_first hA hSt.1 (left_mem.1 he).1 hk2), (by dsimp only; exact left_lt he), ha.sub (.cons rfl (.cons rfl (.cons rfl (.cons rfl .nil)))), (by exact selK (L1 := [_,_,_,_]) [0,1,2,3] rfl rfl _ hw)⟩
        ·
          refine VC.skip (VE.seqN ?_)
          refine VC.seq ?_
          refine VC.reg (VO.l (LO.as (.r rfl)) rfl<|VO.nil ?_)
          refine VE.seqN ?_
          refine VC.reg (VO.l (LO.fa (r := 5) F112_5 (.r rfl) rfl) rfl<|VO.l (LO.fa (r := 5) F76_0 (.r rfl) rfl) rfl<|VO.l (LO.ld O3 (.r rfl) (fun _ hw => cells_at hw 0 rfl ⟨_, rfl⟩)) rfl<|VO.l (LO.mv (.r rfl)) rfl<|VO.l (LO.min (.r rfl) (.r rfl)) rfl<|VO.l (LO.fa (r := 5) F112_5 (.r rfl) rfl) rfl<|VO.l (LO.fa (r := 6) F76_1 (.r rfl) rfl) rfl<|VO.l (LO.ld O3 (.r rfl) (fun _ hw => cells_at hw 0 rfl ⟨_, rfl⟩)) rfl<|VO.l (LO.mv (.r rfl)) rfl<|VO.l (LO.max (.r rfl) (.r rfl)) rfl<|VO.l (LO.bd (ps := [(_,_), (_,_)]) (vs := [(_,_), (_,_)]) (C := [_,_]) B76  ⟨(.r rfl), (.r rfl), trivial⟩ rfl ⟨_, [_], [_,_], rfl, rfl, rfl, rfl, ⟨_, [_], [_,_], rfl, rfl, rfl, rfl, rfl⟩⟩) rfl<|VO.l (LO.fa (r := 5) F112_5 (.r rfl) rfl) rfl<|VO.h0<|HO.st 0 (vs := [_,_]) (C' := [_,_,_,_,_,_,_]) (L' := [_,_,_,_]) N76 rfl rfl rfl rfl rfl rfl rfl rfl<|VO.nil ?_)
          refine VE.inN ?_
          refine VE.thenN fun a w ha hw => ⟨(seen.push e.born, true, (min lo kv), (max hi kv)), (by dsimp only; have hsm : sm = true := (by simpa using h156); subst hsm; exact ah_more hA hSt.1 (left_mem.1 he).1 hk2), (by dsimp only; exact left_lt he), ha.sub (.cons rfl (.cons rfl (.cons rfl (.cons rfl .nil)))), (by exact selK (L1 := [_,_,_,_]) [0,1,2,3] rfl rfl _ hw)⟩
      ·
        (exfalso; exact h152 rfl)

end Go.Proofs.Ytdjflomhaljljaa

namespace Go.Proofs.Ytdjflomhaljljaa
open Go.SL Go.Proofs Go.Cast
set_option linter.unusedVariables false

theorem I165 : EInfo Try.prog 165 8 80 (.agg #[.int .i64 0, .int .i64 0, .int .i64 0, .int .i64 0, .int .i64 0, .int .i64 0, .slice none 0 0, .int .i64 0]) := ⟨by kernel_rfl, by kernel_rfl, by unfold ZeroOf; kernel_rfl, rfl, by decide⟩


def LgM.nts : LgM → List NtM
  | .st _ _ _ _ => []
  | .nt t g p c vs lv => [⟨t, g, p, c, vs, lv⟩]
def ntsL (l : List LgM) : List NtM := l.flatMap LgM.nts
theorem ntsL_mem {l : List LgM} {n : NtM} : n ∈ ntsL l ↔ LgM.nt n.t n.g n.p n.c n.vs n.lv ∈ l := by
  unfold ntsL
  rw [List.mem_flatMap]
  constructor
  · rintro ⟨x, hx, h⟩
    cases x with
    | st => cases h
    | nt => rw [List.mem_singleton.1 h]; exact hx
  · exact fun h => ⟨_, h, by simp [LgM.nts]⟩
theorem ntsL_len {l : List LgM} : (ntsL l).length ≤ l.length := by
  induction l with
  | nil => exact Nat.le_refl _
  | cons x l ih =>
    have e : ntsL (x :: l) = LgM.nts x ++ ntsL l := rfl
    have h : (LgM.nts x).length ≤ 1 := by cases x <;> simp [LgM.nts]
    rw [e, List.length_append, List.length_cons]; omega
theorem ntsL_snoc {l : List LgM} {x : LgM} : ntsL (l ++ [x]) = ntsL l ++ LgM.nts x := by
  unfold ntsL; rw [List.flatMap_append]; simp
/-- Whether a region was watched at a time. -/
def onF (o : OfM) (r : RcM) (t : Int) : Bool := !decide (atLv o.ts r.lv t = 0)
/-- All notes are in order. -/
def NtOk (o : OfM) : Prop := ∀ n, n ∈ ntsL o.lg → (0 ≤ n.t ∧ n.t ≤ 4294967296) ∧ ∀ r, r ∈ o.rc → ∀ p, p ∈ r.x.r.pix → 0 ≤ p ∧ p < (n.vs.length : Int)
def talsL (o : OfM) : List Tal := o.rc.map fun r => talF r.i r.x.r.pix (onF o r) (o.cs.map CsM.p) ((ntsL o.lg).map NtM.n)

set_option maxRecDepth 20000 in
set_option maxHeartbeats 4000000 in
theorem Score_c (o : OfM) (w : World) (hn : 0 < o.rc.length ∧ o.rc.length < 1000000) (hts : o.ts.length < 1000000) (hs : o.ts.Pairwise (· ≤ ·)) (hlv : ∀ r, r ∈ o.rc → r.lv.length = o.ts.length) (hcl : o.cs.length < 1000000000) (hcn : ∀ (j : Nat) (c : CsM), o.cs[j]? = some c → c.nm = (j : Int) + 1 ∧ 0 ≤ c.bg) (hlg : o.lg.length < 1000000000) (hrg : ∀ r, r ∈ o.rc → r.x ∈ o.rg ∧ r.x.r.pix.length < 1000000000000) (hnt : NtOk o) (hh : Has w (offR o)) :
  Calls Try.prog 41 #[ptrN o.b] w fun e w' => ∃ x : Option Addr × Nat, True ∧ e = .returned (.slice x.1 (talsL o).length x.2) ∧ St (bs w) [own 112 7 x.1 x.2 ((talsL o).map Tal.cells)] w' := by
  have hrr : RO 1 rcP w o.pc o.rc := RO.of_own hh 3 rfl
  have hlr : RO 1 LgM.val w o.pl o.lg := RO.of_own hh 8 rfl
  have hnlen := ntsL_len (l := o.lg)
  refine enter (vs := [_]) (env := [(0,_)]) Try.func41 rfl rfl rfl rfl ?_
  refine VC.seq ?_
  refine VC.reg (VO.l (LO.as (.r rfl)) rfl<|VO.nil ?_)
  refine VE.seqN ?_
  refine VC.seq ?_
  refine VC.seq ?_
  refine VC.reg (VO.l (LO.mv (.r rfl)) rfl<|VO.l (LO.call (xs := [_]) (vs := [_]) C53 ⟨(.r rfl), trivial⟩ (fun w hw => nothing_c o w (by omega) (off_cells (hh.keep hw)))) rfl<|VO.nil ?_)
  refine VE.seqN ?_
  refine VC.cond rfl (fun h12 => ?_) (fun h12 => ?_)
  ·
    (exfalso; omega)
  ·
    refine VC.skip (VE.seqN ?_)
    refine VC.seq ?_
    refine VC.reg (VO.l (LO.as (.r rfl)) rfl<|VO.nil ?_)
    refine VE.seqN ?_
    refine VC.seq ?_
    refine VC.seq ?_
    refine VC.reg (VO.l (LO.mv (.r rfl)) rfl<|VO.l (LO.nc (.r rfl)) rfl<|VO.l (LO.fa (r := 12) F117_4 (.r rfl) rfl) rfl<|VO.l (LO.ld O115 (.r rfl) (cells_keep (sub_cells (off := 12) (off_cells hh) ⟨_, rfl⟩))) rfl<|VO.l (LO.len S115 (.r rfl) rfl) rfl<|VO.l (LO.mv (.r rfl)) rfl<|VO.nil ?_)
    refine VE.seqN ?_
    refine VC.block ?_
    refine VC.loopK (α := Nat × (List NtM) × (Option Addr) × Nat) 0 (fun gx => [(3, .slice gx.2.2.1 gx.2.1.length gx.2.2.2), (18, .int .i64 (gx.1 : Nat))]) [(0,_), (16,_), (17,_)] (fun gx => [own 165 8 gx.2.2.1 gx.2.2.2 (gx.2.1.map NtM.cells)]) (fun gx => gx.1 ≤ o.lg.length ∧ gx.2.1 = ntsL (o.lg.take gx.1)) (fun gx => o.lg.length - gx.1) (0, [], none, 0) (by exact ⟨Nat.zero_le _, rfl⟩) (.cons rfl (.cons rfl (.cons rfl (.cons rfl (.cons rfl .nil))))) (fun _ h => (h.ownNil 165 8)) ?_
    rintro ⟨j, xs, pn_, cn_⟩ ⟨hj, hX⟩
    show VC _ _ _ _ _ ([(3, .slice pn_ xs.length cn_), (18, .int .i64 (j : Nat))] ++ _) ([own 165 8 pn_ cn_ (xs.map NtM.cells)] ++ _) _ _
    dsimp only at hj hX
    have hxl : xs.length ≤ j := by rw [hX]; have := ntsL_len (l := o.lg.take j); rw [List.length_take] at this; omega
    refine VC.seq ?_
    refine VC.reg (VO.l (LO.lt (.r rfl) (.r rfl)) rfl<|VO.nil ?_)
    refine VE.seqN ?_
    refine VC.seq ?_
    refine VC.cond rfl (fun h19 => ?_) (fun h19 => ?_)
    ·
      obtain ⟨x, hr⟩ : ∃ x, o.lg[j]? = some x := ⟨_, List.getElem?_eq_getElem (by omega)⟩
      have htk : o.lg.take (j + 1) = o.lg.take j ++ [x] := by rw [List.take_add_one, hr]; rfl
      refine VC.skip (VE.seqN ?_)
      refine VC.seq ?_
      refine VC.block ?_
      refine VC.seq ?_
      rcases x with ⟨t, pc, cc, l⟩ | ⟨t, gg, pv, cv, vs, lv⟩
      ·
        refine VC.reg (VO.l (LO.ixs S115 N167 hlr.sm (.r rfl) (.r rfl) rfl (by omega)) rfl<|VO.l (LO.ld (v := .iface 158 (.agg #[.int .i64 t, .slice pc l.length cc])) O167 (.r rfl) (fun w hw => cells_part (off := 0) ((fun w2 hw2 => (hlr.keep w2 hw2).cells _ _ (by rw [List.getElem?_map, hr]; rfl)) w hw) ⟨_, rfl⟩)) rfl<|VO.l (LO.as (.r rfl)) rfl<|VO.nil ?_)
        refine VE.seqN ?_
        refine VC.seq ?_
        refine VC.reg (VO.l (LO.mv (.r rfl)) rfl<|VO.l (LO.taF ⟨_, Try.underlying165⟩ Z165 (.r rfl) (by decide)) rfl<|VO.l (LO.mv (.r rfl)) rfl<|VO.l (LO.ex (.r rfl) rfl) rfl<|VO.l (LO.ex (.r rfl) rfl) rfl<|VO.h rfl<|HO.alloc (C := #[_,_,_,_,_,_,_,_]) Z165 rfl fun b2 => VO.h0<|HO.st 0 (vs := [_,_,_,_,_,_,_,_]) (C' := [_,_,_,_,_,_,_,_]) (L' := [_,_]) N165 rfl rfl rfl rfl rfl rfl rfl rfl<|VO.l (LO.as (.r rfl)) rfl<|VO.nil ?_)
        refine VE.seqN ?_
        refine VC.seq ?_
        refine VC.reg (VO.l (LO.mv (.r rfl)) rfl<|VO.nil ?_)
        refine VE.seqN ?_
        refine VC.cond rfl (fun h27 => ?_) (fun h27 => ?_)
        ·
          (exfalso; cases h27)
        ·
          refine VC.skip (VE.inN (VE.seqN ?_))
          refine VC.reg (VO.l (LO.add (.r rfl) (.r rfl) (wi (by omega) (by omega))) rfl<|VO.l (LO.mv (.r rfl)) rfl<|VO.nil ?_)
          refine VE.thenN fun a w ha hw => ⟨(j + 1, xs, pn_, cn_), ⟨by dsimp only; omega, by dsimp only; rw [htk, ntsL_snoc, hX]; first | rfl | exact (List.append_nil _).symm⟩, (by dsimp only; omega), ha.sub (.cons rfl (.cons rfl (.cons rfl (.cons rfl (.cons rfl .nil))))), (by exact selK (L1 := [_]) [1] rfl rfl _ hw)⟩
      ·
        refine VC.reg (VO.l (LO.ixs S115 N167 hlr.sm (.r rfl) (.r rfl) rfl (by omega)) rfl<|VO.l (LO.ld (v := .iface 165 (.agg #[.int .i64 t, .int .i64 gg.x, .int .i64 gg.y, .int .i64 gg.size, .int .i64 gg.wide, .int .i64 gg.high, .slice pv vs.length cv, .int .i64 lv])) O167 (.r rfl) (fun w hw => cells_part (off := 0) ((fun w2 hw2 => (hlr.keep w2 hw2).cells _ _ (by rw [List.getElem?_map, hr]; rfl)) w hw) ⟨_, rfl⟩)) rfl<|VO.l (LO.as (.r rfl)) rfl<|VO.nil ?_)
        refine VE.seqN ?_
        refine VC.seq ?_
        refine VC.reg (VO.l (LO.mv (.r rfl)) rfl<|VO.l (LO.taT ⟨_, Try.underlying165⟩ (.r rfl)) rfl<|VO.l (LO.mv (.r rfl)) rfl<|VO.l (LO.ex (.r rfl) rfl) rfl<|VO.l (LO.ex (.r rfl) rfl) rfl<|VO.h rfl<|HO.alloc (C := #[_,_,_,_,_,_,_,_]) Z165 rfl fun b4 => VO.h0<|HO.st 0 (vs := [_,_,_,_,_,_,_,_]) (C' := [_,_,_,_,_,_,_,_]) (L' := [_,_]) N165 rfl rfl rfl rfl rfl rfl rfl rfl<|VO.l (LO.as (.r rfl)) rfl<|VO.nil ?_)
        refine VE.seqN ?_
        refine VC.seq ?_
        refine VC.reg (VO.l (LO.mv (.r rfl)) rfl<|VO.nil ?_)
        refine VE.seqN ?_
        refine VC.cond rfl (fun h27 => ?_) (fun h27 => ?_)
        ·
          refine VC.reg (VO.l (LO.mv (.r rfl)) rfl<|VO.l (LO.lda (vs := [_,_,_,_,_,_,_,_]) A165 (.r rfl) (fun _ hw => cells_at hw 0 rfl ⟨_, rfl⟩) rfl) rfl<|VO.h rfl<|HO.bs (ps := [(_,_)]) (vs := [(_,_)]) (Z := [_,_,_,_,_,_,_,_]) (C := [_,_,_,_,_,_,_,_]) S185 Z165 N165 ⟨(.r rfl), trivial⟩ rfl rfl rfl rfl ⟨_, [_,_,_,_,_,_,_,_], [_,_,_,_,_,_,_,_], rfl, rfl, rfl, rfl, rfl⟩ fun b6 => VO.h rfl<|HO.appT ((⟨t, gg, pv, cv, vs, lv⟩ : NtM)) 2 0 (fun R => [_,_, R]) S185 S185 I165 (.r rfl) (.r rfl) rfl rfl rfl rfl rfl rfl rfl (fun _ => rfl) rfl (by omega) fun p3 c3 => VO.h rfl<|HO.lo (LO.as (.r rfl))<|VO.nil ?_)
          refine VE.inN (VE.seqN ?_)
          refine VC.reg (VO.l (LO.add (.r rfl) (.r rfl) (wi (by omega) (by omega))) rfl<|VO.l (LO.mv (.r rfl)) rfl<|VO.nil ?_)
          refine VE.thenN fun a w ha hw => ⟨(j + 1, xs ++ [(⟨t, gg, pv, cv, vs, lv⟩ : NtM)], p3, c3), ⟨by dsimp only; omega, by dsimp only; rw [htk, ntsL_snoc, hX]; first | rfl | exact (List.append_nil _).symm⟩, (by dsimp only; omega), ha.sub (.cons rfl (.cons rfl (.cons rfl (.cons rfl (.cons rfl .nil))))), (by exact selK (L1 := [_]) [2] rfl rfl _ hw)⟩
        ·
          (exfalso; exact h27 rfl)
    ·
      have hxe : xs = ntsL o.lg := by rw [hX, List.take_of_length_le (by omega)]
      subst hxe
      refine VC.exit (VE.thenX (VE.thenX (VE.inX (VE.seqN ?_))))
      refine VC.seq ?_
      refine VC.reg (VO.l (LO.as (.r rfl)) rfl<|VO.nil ?_)
      refine VE.seqN ?_
      refine VC.seq ?_
      refine VC.seq ?_
      refine VC.reg (VO.l (LO.mv (.r rfl)) rfl<|VO.l (LO.nc (.r rfl)) rfl<|VO.l (LO.fa (r := 9) F117_1 (.r rfl) rfl) rfl<|VO.l (LO.ld O113 (.r rfl) (cells_keep (sub_cells (off := 9) (off_cells hh) ⟨_, rfl⟩))) rfl<|VO.l (LO.len S113 (.r rfl) rfl) rfl<|VO.l (LO.mv (.r rfl)) rfl<|VO.nil ?_)
      refine VE.seqN ?_
      refine VC.block ?_
      refine VC.loopK (α := Nat × (List Tal) × (Option Addr) × Nat) 0 (fun gx => [(8, .slice gx.2.2.1 gx.2.1.length gx.2.2.2), (38, .int .i64 (gx.1 : Nat))]) [(0,_), (3,_), (36,_), (37,_)] (fun gx => [own 112 7 gx.2.2.1 gx.2.2.2 (gx.2.1.map Tal.cells)]) (fun gx => gx.1 ≤ o.rc.length ∧ gx.2.1 = (talsL o).take gx.1) (fun gx => o.rc.length - gx.1) (0, [], none, 0) (by exact ⟨Nat.zero_le _, rfl⟩) (.cons rfl (.cons rfl (.cons rfl (.cons rfl (.cons rfl (.cons rfl .nil)))))) (fun _ h => (h.ownNil 112 7)) ?_
      rintro ⟨j, xs, px_, cx_⟩ ⟨hj, hX⟩
      show VC _ _ _ _ _ ([(8, .slice px_ xs.length cx_), (38, .int .i64 (j : Nat))] ++ _) ([own 112 7 px_ cx_ (xs.map Tal.cells)] ++ _) _ _
      dsimp only at hj hX
      have hxl : xs.length ≤ j := by rw [hX, List.length_take]; omega
      refine VC.seq ?_
      refine VC.reg (VO.l (LO.lt (.r rfl) (.r rfl)) rfl<|VO.nil ?_)
      refine VE.seqN ?_
      refine VC.seq ?_
      refine VC.cond rfl (fun h39 => ?_) (fun h39 => ?_)
      ·
        obtain ⟨r, hr⟩ : ∃ r, o.rc[j]? = some r := ⟨_, List.getElem?_eq_getElem (by omega)⟩
        have hrm : r ∈ o.rc := List.mem_of_getElem? hr
        refine VC.skip (VE.seqN ?_)
        refine VC.seq ?_
        refine VC.block ?_
        refine VC.seq ?_
        refine VC.reg (VO.l (LO.ixs S113 N151 hrr.sm (.r rfl) (.r rfl) rfl (by omega)) rfl<|VO.l (LO.ld O151 (.r rfl) (fun w hw => cells_part (off := 0) ((fun w2 hw2 => (hrr.keep w2 hw2).cells _ _ (by rw [List.getElem?_map, hr]; rfl)) w hw) ⟨_, rfl⟩)) rfl<|VO.l (LO.as (.r rfl)) rfl<|VO.nil ?_)
        refine VE.seqN ?_
        refine VC.reg (VO.l (LO.mv (.r rfl)) rfl<|VO.l (LO.mv (.r rfl)) rfl<|VO.l (LO.mv (.r rfl)) rfl<|VO.l (LO.mv (.r rfl)) rfl<|VO.l (LO.call (xs := [_,_,_]) (vs := [_,_,_]) C71 ⟨(.r rfl), (.r rfl), (.r rfl), trivial⟩ (fun w2 hw2 => score_c o r (ntsL o.lg) pn_ cn_ (onF o r) w2 hrm (hlv r hrm) hts hs hcl hcn (by omega) (hrg r hrm).2 (fun t => rfl) (fun n hn2 => ⟨(hnt n hn2).1, own_inv_rows ((St.inv (hh.keep hw2) 9 _ rfl).1 _ (List.mem_flatMap.2 ⟨_, ntsL_mem.1 hn2, .head _⟩)), (hnt n hn2).2 r hrm⟩) (pix_read (St.inv (hh.keep hw2) 2 _ rfl) (hrg r hrm).1) (hh.keep hw2) (own_rows hw2 1 rfl))) rfl<|VO.h rfl<|HO.bs (ps := [(_,_)]) (vs := [(_,_)]) (Z := [_,_,_,_,_,_,_]) (C := [_,_,_,_,_,_,_]) S109 Z112 N112 ⟨(.r rfl), trivial⟩ rfl rfl rfl rfl ⟨_, [_,_,_,_,_,_,_], [_,_,_,_,_,_,_], rfl, rfl, rfl, rfl, rfl⟩ fun b8 => VO.h rfl<|HO.appT ((talF r.i r.x.r.pix (onF o r) (o.cs.map CsM.p) ((ntsL o.lg).map NtM.n))) 1 0 (fun R => [_, R,_]) S109 S109 I112 (.r rfl) (.r rfl) rfl rfl rfl rfl rfl rfl rfl (fun _ => rfl) rfl (by omega) fun p6 c6 => VO.h rfl<|HO.lo (LO.as (.r rfl))<|VO.nil ?_)
        refine VE.inN (VE.seqN ?_)
        refine VC.reg (VO.l (LO.add (.r rfl) (.r rfl) (wi (by omega) (by omega))) rfl<|VO.l (LO.mv (.r rfl)) rfl<|VO.nil ?_)
        refine VE.thenN fun a w ha hw => ⟨(j + 1, xs ++ [talF r.i r.x.r.pix (onF o r) (o.cs.map CsM.p) ((ntsL o.lg).map NtM.n)], p6, c6), ⟨by dsimp only; omega, by dsimp only; rw [List.take_add_one, hX]; unfold talsL; rw [List.getElem?_map, hr]; rfl⟩, (by dsimp only; omega), ha.sub (.cons rfl (.cons rfl (.cons rfl (.cons rfl (.cons rfl (.cons rfl .nil)))))), (by exact selK (L1 := [_,_]) [1,2] rfl rfl _ hw)⟩
      ·
        refine VC.exit (VE.thenX (VE.thenX (VE.inX (VE.seqN ?_))))
        refine VC.seq ?_
        refine VC.reg (VO.l (LO.mv (.r rfl)) rfl<|VO.l (LO.as (.r rfl)) rfl<|VO.nil ?_)
        refine VE.seqN ?_
        refine VC.ret (VE.res (vs := [_]) rfl ⟨rfl, trivial⟩ (fun w hw => ?_))
        have hx2 : xs = talsL o := by rw [hX, List.take_of_length_le (by simp [talsL]; omega)]
        rw [← hx2]
        exact ⟨(px_, cx_), trivial, rfl, hw.sel [0] rfl⟩

end Go.Proofs.Ytdjflomhaljljaa

namespace Go.Proofs.Ytdjflomhaljljaa
open Go.SL Go.Proofs Go.Cast
set_option linter.unusedVariables false

def ntE (x : EnP) : List Nt := if x.lv = 0 then [] else [⟨x.t, x.vs, x.lv⟩]
/-- The notes among entries. -/
def ntP (l : List EnP) : List Nt := l.flatMap ntE
theorem ntP_snoc {l : List EnP} {x : EnP} : ntP (l ++ [x]) = ntP l ++ ntE x := by unfold ntP; rw [List.flatMap_append]; simp
/-- What holds of an office in which entries were played, its notes besides. -/
structure PlB (s : Sp) (l : List EnP) (o : OfM) (n : Nat) : Prop where
  a : PlA s l o n
  nt : (ntsL o.lg).map NtM.n = ntP (l.take n)
  ok : NtOk o
  nz : ∀ m, m ∈ ntsL o.lg → ¬ m.lv = 0
theorem ntsL_st {t : Int} {p : Option Addr} {c : Nat} {l : List CP} {ls : List LgM} : ntsL (ls ++ [.st t p c l]) = ntsL ls := by rw [ntsL_snoc]; exact List.append_nil _
theorem PlB.step {s : Sp} {l : List EnP} {o : OfM} {n : Nat} {x : EnP} {y : StepY} (h : PlB s l o n) (hx : l[n]? = some x) (hlv : x.lv = 0) (hb : x.l.length < 1000000000 ∧ ∀ c, c ∈ x.l → c.sure.length < 1000000000000 ∧ c.may.length < 1000000000000) (hp : StepP o x.t x.l y) (hs : SimO (y.o o x.t) (stP s (l.take n) ++ [⟨x.t, thsP o.sp x.l⟩])) : PlB s l (y.o o x.t) (n + 1) := by
  have ha := h.a.step hx hlv hb hp hs
  have hl : ntsL (y.o o x.t).lg = ntsL o.lg := by
    obtain ⟨_, p, c, m, e1, e2⟩ := hp
    show ntsL (o.lg ++ [y.lg]) = _
    rw [e1, ntsL_st]
  refine ⟨ha, by rw [hl, h.nt, take_en hx, ntP_snoc]; unfold ntE; rw [if_pos hlv, List.append_nil], fun q hq => ?_, by rw [hl]; exact h.nz⟩
  rw [hl] at hq
  obtain ⟨h1, h2⟩ := h.ok q hq
  refine ⟨h1, fun r hr p hp' => ?_⟩
  -- the records' regions are those that were there
  have w1 := h.a.sim.wf
  have w2 := ha.sim.wf
  obtain ⟨k, hk⟩ := List.mem_iff_getElem?.1 hr
  have i2 := (w2.idx k r hk).1
  have hk1 : k < o.rc.length := by
    have := (List.getElem?_eq_some_iff.1 hk).1
    rw [w2.len] at this; rw [w1.len]; exact this
  have i1 := (w1.idx k _ (List.getElem?_eq_getElem hk1)).1
  have e : (y.o o x.t).rg = o.rg := rfl
  rw [e] at i2
  rw [i2] at i1
  have := Option.some.inj i1
  exact h2 _ (List.getElem_mem hk1) p (by rw [← this]; exact hp')
theorem PlB.note {s : Sp} {l : List EnP} {o : OfM} {n : Nat} {x : EnP} {p q : Option Addr} {c d : Nat} (h : PlB s l o n) (hx : l[n]? = some x) (hlv : ¬ x.lv = 0) (he : enE s (l.take n) x = 0) : PlB s l { o with lg := o.lg ++ [LgM.nt x.t x.g p c x.vs x.lv], pl := q, cl := d } (n + 1) := by
  have hne := h.a.nt hlv
  rw [he] at hne
  obtain ⟨k1, k2, k3, k4, k5⟩ := noteOk hne
  have hlen : (x.vs.length : Int) = x.g.wide * x.g.high := by
    unfold fieldE at k3
    split at k3
    · omega
    · split at k3
      · omega
      · rename_i z; exact Classical.not_not.1 z
  refine ⟨h.a.note hx hlv (by exact field_len k3), ?_, fun m hm => ?_, fun m hm => ?_⟩
  · show (ntsL (o.lg ++ [_])).map NtM.n = _
    rw [ntsL_snoc, List.map_append, h.nt, take_en hx, ntP_snoc]
    unfold ntE
    rw [if_neg hlv]; rfl
  · change m ∈ ntsL (o.lg ++ [_]) at hm
    rw [ntsL_snoc] at hm
    rcases List.mem_append.1 hm with z | z
    · exact h.ok m z
    · have := List.mem_singleton.1 z; subst this
      refine ⟨k1, fun r hr p hp => ?_⟩
      have w1 := h.a.sim.wf
      obtain ⟨k, hk⟩ := List.mem_iff_getElem?.1 hr
      have hkl : k < o.rg.length := by rw [← w1.len]; exact (List.getElem?_eq_some_iff.1 hk).1
      have hs := (specOk w1.spec).2.2.2.1 k (by show k < (o.rg.map RG.r).length; rw [List.length_map]; exact hkl)
      have e : o.sp.regs.getD k default = r.x.r := by
        show (o.rg.map RG.r).getD k default = _
        rw [List.getD_eq_getElem?_getD, List.getElem?_map, (w1.idx k r hk).1]; rfl
      rw [e] at hs
      simp only [List.cons.injEq, and_true] at k4
      show 0 ≤ p ∧ p < (x.vs.length : Int)
      rw [hlen, k4.2.2.2.1, k4.2.2.2.2]
      obtain ⟨i, hi, rfl⟩ := List.getElem_of_mem hp
      have z := pix_in hs hi
      rw [List.getD_eq_getElem?_getD, List.getElem?_eq_getElem hi] at z
      change 0 ≤ r.x.r.pix[i] ∧ r.x.r.pix[i] ≤ o.g.wide * o.g.high - 1 at z
      omega
  · change m ∈ ntsL (o.lg ++ [_]) at hm
    rw [ntsL_snoc] at hm
    rcases List.mem_append.1 hm with z | z
    · exact h.nz m z
    · have := List.mem_singleton.1 z; subst this; exact hlv
theorem bg_step {k : Nat} {b m T : Int} {cs : List Cs} (h : ∀ c, c ∈ cs → 0 ≤ c.bg) (hT : 0 ≤ T) : ∀ c, c ∈ stepC k b m T cs → 0 ≤ c.bg := by
  unfold stepC
  split
  · exact h
  · split
    · intro c hc
      rcases List.mem_append.1 hc with q | q
      · exact h c q
      · rw [List.mem_singleton.1 q]; exact hT
    · intro c hc
      obtain ⟨d, hd, rfl⟩ := List.mem_map.1 hc
      have := h d hd
      split
      · exact this
      · exact this
theorem bg_run {H : Int} {st : List Stp} {s : Stp} {cs : List Cs} (h : ∀ c, c ∈ cs → 0 ≤ c.bg) (hT : 0 ≤ s.t) : ∀ j, ∀ c, c ∈ runC H st s cs j → 0 ≤ c.bg
  | 0 => h
  | j + 1 => bg_step (bg_run h hT j) hT
theorem bg_all {H : Int} {n : Nat} {st : List Stp} (h : ∀ x, x ∈ st → 0 ≤ x.t) : ∀ m, m ≤ st.length → ∀ c, c ∈ csA H n st m → 0 ≤ c.bg
  | 0,_ => fun c hc => by cases hc
  | m + 1, hm => bg_run (bg_all h m (by omega)) (h _ (getD_mem (by omega))) n
/-- The tallies, by the entries. -/
def onP (s : Sp) (l : List EnP) (k : Nat) (t : Int) : Bool := !decide (atLv (tsP l) (lvL s.hold k (stP s l)) t = 0)
def talP (s : Sp) (l : List EnP) (k : Nat) : Tal := talF k (s.regs.getD k default).pix (onP s l k) (csF s.hold s.regs.length (stP s l)) (ntP l)
def talsP (s : Sp) (l : List EnP) : List Tal := (List.range s.regs.length).map (talP s l)
theorem PlA.hold {s : Sp} {l : List EnP} {o : OfM} {n : Nat} (h : PlA s l o n) : o.hold = s.hold := congrArg Sp.hold h.sp
theorem PlA.n {s : Sp} {l : List EnP} {o : OfM} {n : Nat} (h : PlA s l o n) : o.rc.length = s.regs.length := by rw [n_eq h.sim.wf, h.sp]
theorem PlA.cs {s : Sp} {l : List EnP} {o : OfM} {n : Nat} (h : PlA s l o n) : o.cs.map CsM.p = csF s.hold s.regs.length (stP s (l.take n)) := by rw [h.sim.cs, h.hold, h.n]
theorem PlB.tals {s : Sp} {l : List EnP} {o : OfM} {n : Nat} (h : PlB s l o n) : talsL o = talsP s (l.take n) := by
  unfold talsL talsP
  refine List.ext_getElem? fun k => ?_
  rw [List.getElem?_map, List.getElem?_map]
  rcases Nat.lt_or_ge k o.rc.length with q | q
  · rw [List.getElem?_eq_getElem q, List.getElem?_range (by rw [← h.a.n]; exact q)]
    simp only [Option.map_some]
    have hi := h.a.sim.wf.idx k _ (List.getElem?_eq_getElem q)
    have hr := h.a.sim.rcs k _ (List.getElem?_eq_getElem q)
    have hp : (s.regs.getD k default).pix = (o.rc[k]).x.r.pix := by
      rw [← h.a.sp]
      show ((o.rg.map RG.r).getD k default).pix = _
      rw [List.getD_eq_getElem?_getD, List.getElem?_map, hi.1]; rfl
    have ho : onF o o.rc[k] = onP s (l.take n) k := by
      funext t
      unfold onF onP
      rw [hr.2.1, h.a.hold, h.a.ts]
    unfold talP
    rw [hi.2, hp, ho, h.nt, h.a.cs]
  · rw [List.getElem?_eq_none q, List.getElem?_eq_none (by rw [List.length_range, ← h.a.n]; exact q)]; rfl
theorem PlA.cnum {s : Sp} {l : List EnP} {o : OfM} {n : Nat} (h : PlA s l o n) : ∀ (j : Nat) (c : CsM), o.cs[j]? = some c → c.nm = (j : Int) + 1 ∧ 0 ≤ c.bg := fun j c hc => by
  have ht : ∀ x, x ∈ stP s (l.take n) → x.t ≠ never := fun x hx => by
    have := h.sim.tb x.t (by rw [h.sim.ts]; exact List.mem_map_of_mem hx)
    unfold never; omega
  have hok := csOk_all (H := o.hold) (n := o.rc.length) _ ht
  rw [← h.sim.cs] at hok
  refine ⟨hok.nm j c.p (by rw [List.getElem?_map, hc]; rfl), ?_⟩
  have hb := bg_all (H := o.hold) (n := o.rc.length) (st := stP s (l.take n)) (fun x hx => (h.sim.tb x.t (by rw [h.sim.ts]; exact List.mem_map_of_mem hx)).1) _ (Nat.le_refl _)
  have : c.p ∈ csF o.hold o.rc.length (stP s (l.take n)) := by rw [← h.sim.cs]; exact List.mem_map_of_mem (List.mem_of_getElem? hc)
  exact hb _ this
end Go.Proofs.Ytdjflomhaljljaa

namespace Go.Proofs.Ytdjflomhaljljaa
open Go.SL Go.Proofs Go.Cast
set_option linter.unusedVariables false

section
variable {s : Sp} {l : List EnP} {o : OfM} {n : Nat}
theorem PlA.levels (h : PlA s l o n) : levelsL o = (List.range s.regs.length).map fun k => lvS s.hold k (stP s (l.take n)) := by
  rw [levels_sim h.sim, h.n, h.hold]
theorem PlA.lvl (h : PlA s l o n) : ∀ r, r ∈ o.rc → r.lv.length = o.ts.length := fun r hr => by
  obtain ⟨q, hq⟩ := List.mem_iff_getElem?.1 hr
  rw [(h.sim.rcs q r hq).2.1, lvL_len, h.sim.ts, List.length_map]
theorem PlA.reg (h : PlA s l o n) : ∀ r, r ∈ o.rc → r.x ∈ o.rg ∧ r.x.r.pix.length < 1000000000000 := fun r hr => ⟨h.sim.wf.reg r hr, h.sim.wf.pix _ (h.sim.wf.reg r hr)⟩
theorem PlA.tsl (h : PlA s l o n) : o.ts.length ≤ n := by
  have h1 := h.sim.wf.ts
  have h2 := h.len
  rw [List.length_take] at h2; omega
theorem PlA.lgl (h : PlA s l o n) : o.lg.length ≤ n := by have h2 := h.len; rw [List.length_take] at h2; omega
theorem PlA.csl (h : PlA s l o n) : o.cs.length ≤ 32 * n := by have h1 := h.sim.wf.cs; have := h.tsl; omega
end
def csC (c : Cs) : List Value := [.int .i64 c.nm, .int .i64 c.rg, .int .i64 c.bg, .int .i64 c.en, .int .i64 c.pk]
theorem cs_C {l : List CsM} : l.map CsM.C = (l.map CsM.p).map csC := by rw [List.map_map]; rfl
end Go.Proofs.Ytdjflomhaljljaa

namespace Go.Proofs.Ytdjflomhaljljaa
open Go.SL Go.Proofs Go.Cast
set_option linter.unusedVariables false

theorem EA62 : FlatA Try.prog 62 7 := ⟨⟨_, Try.underlying62, rfl⟩, by kernel_rfl, by kernel_rfl⟩
theorem EA64 : FlatA Try.prog 64 5 := ⟨⟨_, Try.underlying64, rfl⟩, by kernel_rfl, by kernel_rfl⟩
theorem EA112 : FlatA Try.prog 112 7 := ⟨⟨_, Try.underlying112, rfl⟩, by kernel_rfl, by kernel_rfl⟩
end Go.Proofs.Ytdjflomhaljljaa

namespace Go.Proofs.Ytdjflomhaljljaa
open Go.SL Go.Proofs Go.Cast
set_option linter.unusedVariables false

theorem F122_1 : FieldAt Try.prog 122 1 1 := ⟨_,_, Try.underlying122, rfl, rfl, 19, by kernel_rfl⟩


theorem plb_new {g : Grid} {rgs : List RG} {a b d : Int} {s : Sp} {o : OfM} {l : List EnP} (hn : NewP g rgs a b d o) (hse : s = ⟨g, rgs.map RG.r, a, b, d⟩) (hs : specE s = 0) (hp : ∀ x, x ∈ rgs → x.r.pix.length < 1000000000000) : PlB s l o 0 := by
  have h7 : o.lg = [] := hn.2.2.2.2.2.2.1
  exact ⟨spec_new hn hse hs hp, by rw [h7]; rfl, fun m hm => (by rw [h7] at hm; cases hm), fun m hm => (by rw [h7] at hm; cases hm)⟩
/-- A note by numbers. -/
structure SgM where
  t : Int
  px : List Int
  wd : Int
abbrev SgM.cells (x : SgM) : List Value := .int .u16 x.t :: (x.px.map u8V ++ [.int .u8 x.wd])
def SgM.ok (x : SgM) : Prop := U16 x.t ∧ (x.px.length = 20 ∧ ∀ n, n ∈ x.px → U8 n) ∧ U8 x.wd
theorem SgM.len {x : SgM} (h : x.ok) : x.cells.length = 22 := by
  show (x.px.map u8V ++ _).length + 1 = 22
  rw [List.length_append, List.length_map, h.2.1.1]; rfl
structure SgsM (w : World) (p : Option Addr) (l : List SgM) : Prop where
  rows : RO 22 SgM.cells w p l
  ok : ∀ x, x ∈ l → x.ok
theorem SgsM.keep {w0 w : World} {L : List Res} {p : Option Addr} {l : List SgM} (h : SgsM w0 p l) (hw : St (bs w0) L w) : SgsM w p l := ⟨h.rows.keep w hw, h.ok⟩
/-- The values of a note. -/
def vlF (px : List Int) (wd : Int) (n : Nat) : List Span := (List.range n).map fun p => ⟨px.getD p 0, px.getD p 0 + wd⟩
theorem vlF_s {px : List Int} {wd : Int} {n : Nat} : vlF px wd (n + 1) = vlF px wd n ++ [⟨px.getD n 0, px.getD n 0 + wd⟩] := by unfold vlF; rw [List.range_succ, List.map_append]; rfl
theorem vlF_len {px : List Int} {wd : Int} {n : Nat} : (vlF px wd n).length = n := by simp [vlF]
theorem vlF_get {px : List Int} {wd : Int} {n p : Nat} (h : p < n) : (vlF px wd n).getD p ⟨0,0⟩ = ⟨px.getD p 0, px.getD p 0 + wd⟩ := by
  unfold vlF; rw [List.getD_eq_getElem?_getD, List.getElem?_map, List.getElem?_range h]; rfl
theorem sg_at {x : SgM} {p : Nat} (h : p < x.px.length) : ∃ r, x.cells.toArray.toList.drop (1 + p) = [u8V (x.px.getD p 0)] ++ r := by
  rw [Nat.add_comm]
  exact px_at h
theorem vl_field {px : List Int} {wd : Int} (h : px.length = 20 ∧ ∀ n, n ∈ px → U8 n) (hw : 0 ≤ wd ∧ wd ≤ 255) : fieldE 1073741824 ⟨gD, vlF px wd 20⟩ = 0 := by
  unfold fieldE
  rw [if_neg (fun q => q (show gridOk gD by decide)), if_neg (fun q => q (by show ((vlF px wd 20).length : Int) = 5 * 4; rw [vlF_len]; rfl))]
  refine firstE_zero fun k hk => ?_
  change k < (vlF px wd 20).length at hk
  rw [vlF_len] at hk
  unfold valE
  rw [if_pos]
  show spanOk 1073741824 ((vlF px wd 20).getD k ⟨0,0⟩)
  rw [vlF_get hk]
  have := u8_at h.2 (p := k) (by omega)
  unfold spanOk
  dsimp only
  omega

set_option maxRecDepth 20000 in
theorem field_c (x : SgM) (wd : Int) (w : World) (hx : x.ok) (hwd : 0 ≤ wd ∧ wd ≤ 255) :
  Calls Try.prog 43 #[.agg x.cells.toArray, .int .i64 wd] w fun e w' => ∃ y : Option Addr × Nat, True ∧ e = .returned (.agg #[.int .i64 0, .int .i64 0, .int .i64 1000, .int .i64 5, .int .i64 4, .slice y.1 (vlF x.px wd 20).length y.2]) ∧ St (bs w) [own 76 2 y.1 y.2 ((vlF x.px wd 20).map Span.cells)] w' := by
  obtain ⟨hx1, ⟨hl20, hu8⟩, hx3⟩ := id hx
  refine enter (vs := [_,_]) (env := [(0,_), (1,_)]) Try.func43 rfl rfl rfl rfl ?_
  refine VC.seq ?_
  refine VC.reg (VO.h rfl<|HO.box (C := x.cells.toArray) rfl rfl fun b1 => VO.h rfl<|HO.alloc (C := #[_,_,_,_,_,_]) Z93 rfl fun b2 => VO.nil ?_)
  refine VE.seqN ?_
  refine VC.seq ?_
  refine VC.reg (VO.l (LO.call (xs := []) (vs := []) C51 trivial (fun w _ => grid_c w)) rfl<|VO.l (LO.bd (ps := [(_,_)]) (vs := [(_,_)]) (C := [_,_,_,_,_,_]) B93  ⟨(.r rfl), trivial⟩ rfl ⟨_, [_,_,_,_,_], [_,_,_,_,_,_], rfl, rfl, rfl, rfl, rfl⟩) rfl<|VO.h rfl<|HO.alloc (C := #[_,_,_,_,_,_]) Z93 rfl fun b3 => VO.h0<|HO.st 0 (vs := [_,_,_,_,_,_]) (C' := [_,_,_,_,_,_]) (L' := [_,_,_]) N93 rfl rfl rfl rfl rfl rfl rfl rfl<|VO.nil ?_)
  refine VE.seqN ?_
  refine VC.seq ?_
  refine VC.seq ?_
  refine VC.reg (VO.l (LO.as (.r rfl)) rfl<|VO.nil ?_)
  refine VE.seqN ?_
  refine VC.block ?_
  refine VC.loopK (α := Nat × (List Span) × (Option Addr) × Nat) 1 (fun gx => [(6, .int .i64 (gx.1 : Nat))]) [(1,_), (2,_), (4,_), (5,_)] (fun gx => [blk b3 (.cells #[.int .i64 0, .int .i64 0, .int .i64 1000, .int .i64 5, .int .i64 4, .slice gx.2.2.1 gx.2.1.length gx.2.2.2] 93), own 76 2 gx.2.2.1 gx.2.2.2 (gx.2.1.map Span.cells)]) (fun gx => gx.1 ≤ 20 ∧ gx.2.1 = vlF x.px wd gx.1) (fun gx => 20 - gx.1) (0, [], none, 0) (by exact ⟨Nat.zero_le _, rfl⟩) (.cons rfl (.cons rfl (.cons rfl (.cons rfl (.cons rfl .nil))))) (fun _ h => ((h.ownNil 76 2)).sel [1,0,2,3] rfl) ?_
  rintro ⟨p, vs, pv_, cv_⟩ ⟨hp, hv⟩
  show VC _ _ _ _ _ ([(6, .int .i64 (p : Nat))] ++ _) ([blk b3 (.cells #[.int .i64 0, .int .i64 0, .int .i64 1000, .int .i64 5, .int .i64 4, .slice pv_ vs.length cv_] 93), own 76 2 pv_ cv_ (vs.map Span.cells)] ++ _) _ _
  dsimp only at hp hv
  have hvl : vs.length = p := by rw [hv, vlF_len]
  refine VC.seq ?_
  refine VC.seq ?_
  refine VC.reg (VO.l (LO.mv (.r rfl)) rfl<|VO.l (LO.lt (.r rfl) (.r rfl)) rfl<|VO.nil ?_)
  refine VE.seqN ?_
  refine VC.cond rfl (fun h10 => ?_) (fun h10 => ?_)
  ·
    have hpx := u8_at hu8 (p := p) (by omega)
    refine VC.skip (VE.seqN ?_)
    refine VC.seq ?_
    refine VC.block ?_
    refine VC.drawH [[0,1,2,3], [0,1,2,3], [0,2,3], [2,3]] [some 1, some 1, some 0, some 0, some 0, some 0, some 0, some 0, some 0, some 0, some 0, some 0, some 0, some 0, some 0, none, none, some 2, none] mixed (by kernel_rfl) rfl (LX.l (fun _ hJ => LO.fa (r := 5) F93_1 (.r rfl) rfl) rfl<|LX.l (fun _ hJ => LO.ld O91 (.r rfl) (fun _ hw => cells_at (hJ _ hw) 0 rfl ⟨_, rfl⟩)) rfl<|LX.l (fun _ hJ => LO.mv (.r rfl)) rfl<|LX.l (fun _ hJ => LO.fa (r := 1) F122_1 (.r rfl) rfl) rfl<|LX.l (fun _ hJ => LO.ixa (j := p) (r := 1 + p) Try.underlying45 N5 (.r rfl) (.r rfl) rfl (by omega) (by simp)) rfl<|LX.l (fun _ hJ => LO.ld O5 (.r rfl) (fun _ hw => cells_at (hJ _ hw) 3 rfl (sg_at (by omega)))) rfl<|LX.l (fun _ hJ => LO.cv ⟨_, Try.underlying5⟩ Try.underlying3 (.r rfl) (wi (by omega) (by omega))) rfl<|LX.l (fun _ hJ => LO.mv (.r rfl)) rfl<|LX.l (fun _ hJ => LO.fa (r := 1) F122_1 (.r rfl) rfl) rfl<|LX.l (fun _ hJ => LO.ixa (j := p) (r := 1 + p) Try.underlying45 N5 (.r rfl) (.r rfl) rfl (by omega) (by simp)) rfl<|LX.l (fun _ hJ => LO.ld O5 (.r rfl) (fun _ hw => cells_at (hJ _ hw) 3 rfl (sg_at (by omega)))) rfl<|LX.l (fun _ hJ => LO.cv ⟨_, Try.underlying5⟩ Try.underlying3 (.r rfl) (wi (by omega) (by omega))) rfl<|LX.l (fun _ hJ => LO.mv (.r rfl)) rfl<|LX.l (fun _ hJ => LO.add (.r rfl) (.r rfl) (wi (by omega) (by omega))) rfl<|LX.l (fun _ hJ => LO.bd (ps := [(_,_), (_,_)]) (vs := [(_,_), (_,_)]) (C := [_,_]) B76  ⟨(.r rfl), (.r rfl), trivial⟩ rfl ⟨_, [_], [_,_], rfl, rfl, rfl, rfl, ⟨_, [_], [_,_], rfl, rfl, rfl, rfl, rfl⟩⟩) rfl<|LX.s<|LX.s<|LX.l (fun _ hJ => LO.fa (r := 5) F93_1 (.r rfl) rfl) rfl<|LX.s<|LX.nil) (HX.s<|HX.s<|HX.s<|HX.s<|HX.s<|HX.s<|HX.s<|HX.s<|HX.s<|HX.s<|HX.s<|HX.s<|HX.s<|HX.s<|HX.s<|HX.h rfl<|HO.bs (ps := [(_,_)]) (vs := [(_,_)]) (Z := [_,_]) (C := [_,_]) S91 Z76 N76 ⟨(.r rfl), trivial⟩ rfl rfl rfl rfl ⟨_, [_,_], [_,_], rfl, rfl, rfl, rfl, rfl⟩ fun b9 => ⟨fun _ hw => hw.sel [1,2,3,4] rfl, HX.h rfl<|HO.appT ((⟨x.px.getD p 0, x.px.getD p 0 + wd⟩ : Span)) 2 0 (fun R => [_,_, R,_,_]) S91 S91 I76 (.r rfl) (.r rfl) rfl rfl rfl rfl rfl rfl rfl (fun _ => rfl) rfl (by omega) fun p16 c16 => ⟨fun _ hw => hw.sel [1,3,4] rfl, HX.s<|HX.h0<|HO.st 1 (vs := [_]) (C' := [_,_,_,_,_,_]) (L' := [_,_,_,_,_]) N91 rfl rfl rfl rfl rfl rfl rfl rfl<|⟨fun _ hw => hw.sel [3,4] rfl, HX.nil ?_⟩⟩⟩)
    refine VE.inN (VE.seqN ?_)
    refine VC.reg (VO.l (LO.mv (.r rfl)) rfl<|VO.l (LO.add (.r rfl) (.r rfl) (wi (by omega) (by omega))) rfl<|VO.l (LO.as (.r rfl)) rfl<|VO.nil ?_)
    refine VE.thenN fun a w ha hw => ⟨(p + 1, vs ++ [(⟨x.px.getD p 0, x.px.getD p 0 + wd⟩ : Span)], p16, c16), ⟨by dsimp only; omega, by dsimp only; rw [hv, vlF_s]⟩, (by dsimp only; omega), ha.sub (.cons rfl (.cons rfl (.cons rfl (.cons rfl (.cons rfl .nil))))), hw.sel [1,2,3,4] rfl⟩
  ·
    refine VC.exit (VE.thenX (VE.thenX (VE.inX (VE.seqN ?_))))
    refine VC.seq ?_
    refine VC.reg (VO.l (LO.lda (vs := [_,_,_,_,_,_]) A93 (.r rfl) (fun _ hw => cells_at hw 0 rfl ⟨_, rfl⟩) rfl) rfl<|VO.h0<|HO.st 2 (vs := [_,_,_,_,_,_]) (C' := [_,_,_,_,_,_]) (L' := [_,_,_,_]) N93 rfl rfl rfl rfl rfl rfl rfl rfl<|VO.nil ?_)
    refine VE.seqN ?_
    refine VC.ret (VE.res (vs := [_]) rfl ⟨RV.agg (vs := [_,_,_,_,_,_]) A93 rfl (cells_blk 2 rfl ⟨_, rfl⟩) rfl, trivial⟩ (fun w hw => ?_))
    have hp2 : p = 20 := by omega
    subst hp2
    rw [← hv]
    exact ⟨(pv_, cv_), trivial, rfl, selK (L1 := [_]) [1] rfl rfl _ hw⟩

set_option maxRecDepth 20000 in
theorem Play_b (g : Grid) (rgs : List RG) (pg : Option Addr) (cg : Nat) (a b d : Int) (s : Sp) (log : List EnM) (pl : Option Addr) (cl : Nat) (w : World) (hse : s = ⟨g, rgs.map RG.r, a, b, d⟩) (hs : specE s = 0) (hrl : rgs.length < 1000000000000) (hrg : Regs w pg rgs) (hll : log.length ≤ 256) (hl : LogM w pl log) (hall : ∀ (k : Nat) (x : EnM), log[k]? = some x → enE s ((log.map EnM.p).take k) x.p = 0) :
  Calls Try.prog 33 #[specV g pg rgs.length cg a b d, .slice pl log.length cl] w fun e w' => ∃ y : PlY, (PlB s (log.map EnM.p) y.o log.length ∧ y.es = evP s (log.map EnM.p) log.length) ∧ e = .returned (.tuple #[ptrN y.o.b, .slice y.pe y.es.length y.ce, .int .i64 0]) ∧ St (bs w) (offR y.o ++ [own 62 7 y.pe y.ce (y.es.map evC)]) w' := by
  refine enter (vs := [_,_]) (env := [(0,_), (1,_)]) Try.func33 rfl rfl rfl rfl ?_
  refine VC.seq ?_
  refine VC.reg (VO.h rfl<|HO.box (C := #[_,_,_,_,_,_,_,_,_]) rfl rfl fun b1 => VO.l (LO.as (.r rfl)) rfl<|VO.l (LO.as (.r rfl)) rfl<|VO.l (LO.as (.r rfl)) rfl<|VO.nil ?_)
  refine VE.seqN ?_
  refine VC.seq ?_
  refine VC.reg (VO.l (LO.lda (vs := [_,_,_,_,_,_,_,_,_]) A28 (.r rfl) (fun _ hw => cells_at hw 0 rfl ⟨_, rfl⟩) rfl) rfl<|VO.h rfl<|HO.callx (xs := [_]) (vs := [_]) C26 ⟨(.r rfl), trivial⟩ (fun w hw => New_c g rgs pg cg a b d w hrl (hrg.keep hw) (by rw [← hse]; exact hs)) fun o hn => VO.h rfl<|HO.lo (LO.mv (.r rfl))<|VO.h rfl<|HO.lo (LO.ex (.r rfl) rfl)<|VO.h rfl<|HO.lo (LO.ex (.r rfl) rfl)<|VO.h rfl<|HO.lo (LO.as (.r rfl))<|VO.h rfl<|HO.lo (LO.as (.r rfl))<|VO.nil ?_)
  refine VE.seqN ?_
  refine VC.seq ?_
  refine VC.seq ?_
  refine VC.reg (VO.l (LO.mv (.r rfl)) rfl<|VO.l (LO.ne (.r rfl) (.r rfl)) rfl<|VO.nil ?_)
  refine VE.seqN ?_
  refine VC.cond rfl (fun h21 => ?_) (fun h21 => ?_)
  ·
    (exfalso; exact h21 rfl)
  ·
    refine VC.skip (VE.seqN ?_)
    refine VC.seq ?_
    refine VC.seq ?_
    refine VC.reg (VO.l (LO.mv (.r rfl)) rfl<|VO.l (LO.len S95 (.r rfl) rfl) rfl<|VO.l (LO.gt (.r rfl) (.r rfl)) rfl<|VO.nil ?_)
    refine VE.seqN ?_
    refine VC.cond rfl (fun h25 => ?_) (fun h25 => ?_)
    ·
      (exfalso; omega)
    ·
      refine VC.skip (VE.seqN ?_)
      refine VC.seq ?_
      refine VC.reg (VO.l (LO.as (.r rfl)) rfl<|VO.nil ?_)
      refine VE.seqN ?_
      refine VC.seq ?_
      refine VC.seq ?_
      refine VC.reg (VO.l (LO.mv (.r rfl)) rfl<|VO.l (LO.len S95 (.r rfl) rfl) rfl<|VO.l (LO.mv (.r rfl)) rfl<|VO.nil ?_)
      refine VE.seqN ?_
      refine VC.block ?_
      refine VC.loopK (α := Nat × OfM × (List Ev) × (Option Addr) × Nat) 10 (fun gx => [(9, .slice gx.2.2.2.1 gx.2.2.1.length gx.2.2.2.2), (28, .int .i64 (gx.1 : Nat))]) [(7,_), (26,_), (27,_)] (fun gx => [OfM.blk gx.2.1, OfM.rgR gx.2.1, OfM.pxB gx.2.1, OfM.rcR gx.2.1, OfM.rcB gx.2.1, OfM.tsR gx.2.1, OfM.csR gx.2.1, OfM.csB gx.2.1, OfM.lgR gx.2.1, OfM.lgB gx.2.1, own 62 7 gx.2.2.2.1 gx.2.2.2.2 (gx.2.2.1.map evC)]) (fun gx => gx.1 ≤ log.length ∧ gx.2.1.b = o.b ∧ PlB s (log.map EnM.p) gx.2.1 gx.1 ∧ gx.2.2.1 = evP s (log.map EnM.p) gx.1 ∧ gx.2.2.1.length ≤ 32 * gx.1) (fun gx => log.length - gx.1) (0, o, [], none, 0) (by exact ⟨Nat.zero_le _, rfl, plb_new hn hse hs (fun x hx => (hrg.ok x hx).2), rfl, Nat.zero_le _⟩) (.cons rfl (.cons rfl (.cons rfl (.cons rfl (.cons rfl .nil))))) (fun _ h => ((h.ownNil 62 7)).sel [1,2,3,4,5,6,7,8,9,10,0,11] rfl) ?_
      rintro ⟨i, o_, es_, pe_, ce_⟩ ⟨hi, hob, hR, hE, hel⟩
      show VC _ _ _ _ _ ([(9, .slice pe_ es_.length ce_), (28, .int .i64 (i : Nat))] ++ _) ([OfM.blk o_, OfM.rgR o_, OfM.pxB o_, OfM.rcR o_, OfM.rcB o_, OfM.tsR o_, OfM.csR o_, OfM.csB o_, OfM.lgR o_, OfM.lgB o_, own 62 7 pe_ ce_ (es_.map evC)] ++ _) _ _
      dsimp only at hi hob hR hE hel
      rw [← hob]
      have hrn := hR.a.sim.wf.n
      refine VC.seq ?_
      refine VC.reg (VO.l (LO.lt (.r rfl) (.r rfl)) rfl<|VO.nil ?_)
      refine VE.seqN ?_
      refine VC.seq ?_
      refine VC.cond rfl (fun h29 => ?_) (fun h29 => ?_)
      ·
        obtain ⟨x, hx⟩ : ∃ x, log[i]? = some x := ⟨_, List.getElem?_eq_getElem (by omega)⟩
        have hxo := hl.ok x (List.mem_of_getElem? hx)
        have hex := hall i x hx
        have hxp : (log.map EnM.p)[i]? = some x.p := by rw [List.getElem?_map, hx]; rfl
        have hxb := en_bd hxo hex
        refine VC.skip (VE.seqN ?_)
        refine VC.seq ?_
        refine VC.block ?_
        refine VC.seq ?_
        refine VC.reg (VO.l (LO.ixs S95 N169 hl.rows.sm (.r rfl) (.r rfl) rfl (by omega)) rfl<|VO.l (LO.lda (vs := [_,_,_,_,_,_,_,_,_]) A169 (.r rfl) (fun w hw => cells_part (off := 0) ((fun w2 hw2 => (hl.rows.keep w2 hw2).cells _ _ (by rw [List.getElem?_map, hx]; rfl)) w hw) ⟨_, rfl⟩) rfl) rfl<|VO.h rfl<|HO.alloc (C := #[_,_,_,_,_,_,_,_,_]) Z169 rfl fun b13 => VO.h0<|HO.st 0 (vs := [_,_,_,_,_,_,_,_,_]) (C' := [_,_,_,_,_,_,_,_,_]) (L' := [_,_,_,_,_,_,_,_,_,_,_,_,_]) N169 rfl rfl rfl rfl rfl rfl rfl rfl<|VO.nil ?_)
        refine VE.seqN ?_
        refine VC.seq ?_
        refine VC.reg (VO.l (LO.fa (r := 0) F169_0 (.r rfl) rfl) rfl<|VO.l (LO.ld O3 (.r rfl) (fun _ hw => cells_at hw 0 rfl ⟨_, rfl⟩)) rfl<|VO.l (LO.fa (r := 2) F169_2 (.r rfl) rfl) rfl<|VO.l (LO.lda (vs := [_,_,_,_,_,_]) A93 (.r rfl) (fun _ hw => cells_at hw 0 rfl ⟨_, rfl⟩) rfl) rfl<|VO.l (LO.fa (r := 8) F169_3 (.r rfl) rfl) rfl<|VO.l (LO.ld O3 (.r rfl) (fun _ hw => cells_at hw 0 rfl ⟨_, rfl⟩)) rfl<|VO.l (LO.bd (ps := [(_,_), (_,_), (_,_)]) (vs := [(_,_), (_,_), (_,_)]) (C := [_,_,_,_,_,_,_,_]) B165  ⟨(.r rfl), (.r rfl), (.r rfl), trivial⟩ rfl ⟨_, [_], [_,_,_,_,_,_,_,_], rfl, rfl, rfl, rfl, ⟨_, [_,_,_,_,_,_], [_,_,_,_,_,_,_,_], rfl, rfl, rfl, rfl, ⟨_, [_], [_,_,_,_,_,_,_,_], rfl, rfl, rfl, rfl, rfl⟩⟩⟩) rfl<|VO.l (LO.mi ⟨_, Try.underlying165, rfl⟩ (.r rfl)) rfl<|VO.l (LO.as (.r rfl)) rfl<|VO.nil ?_)
        refine VE.seqN ?_
        refine VC.seq ?_
        refine VC.seq ?_
        refine VC.reg (VO.l (LO.fa (r := 8) F169_3 (.r rfl) rfl) rfl<|VO.l (LO.ld O3 (.r rfl) (fun _ hw => cells_at hw 0 rfl ⟨_, rfl⟩)) rfl<|VO.l (LO.eq (.r rfl) (.r rfl)) rfl<|VO.nil ?_)
        refine VE.seqN ?_
        refine VC.cond rfl (fun h42 => ?_) (fun h42 => ?_)
        ·
          refine VC.reg (VO.l (LO.fa (r := 0) F169_0 (.r rfl) rfl) rfl<|VO.l (LO.ld O3 (.r rfl) (fun _ hw => cells_at hw 0 rfl ⟨_, rfl⟩)) rfl<|VO.l (LO.fa (r := 1) F169_1 (.r rfl) rfl) rfl<|VO.l (LO.ld O29 (.r rfl) (fun _ hw => cells_at hw 0 rfl ⟨_, rfl⟩)) rfl<|VO.l (LO.bd (ps := [(_,_), (_,_)]) (vs := [(_,_), (_,_)]) (C := [_,_]) B158  ⟨(.r rfl), (.r rfl), trivial⟩ rfl ⟨_, [_], [_,_], rfl, rfl, rfl, rfl, ⟨_, [_], [_,_], rfl, rfl, rfl, rfl, rfl⟩⟩) rfl<|VO.l (LO.mi ⟨_, Try.underlying158, rfl⟩ (.r rfl)) rfl<|VO.l (LO.as (.r rfl)) rfl<|VO.nil ?_)
          refine VE.seqN ?_
          refine VC.seq ?_
          refine VC.reg (VO.l (LO.mv (.r rfl)) rfl<|VO.l (LO.mv (.r rfl)) rfl<|VO.h rfl<|HO.inv (xs := [_]) (vs := [_]) [_,_,_,_,_,_,_,_,_,_] [_,_,_] (selK (L1 := [_,_,_,_,_,_,_,_,_,_] ++ [_,_,_]) [1,2,3,4,5,6,7,8,9,10,0,11,12] rfl rfl) (.r rfl) (fun _ => by kernel_rfl) C135 ⟨(.r rfl), trivial⟩ (fun w hw hh => play_st o_ _ x.t x.l x.pc x.cc w hh (fun hs => hxo.1.keep _ (old_in (selK (L1 := offR o_ ++ [_,_,_]) [1,2,3,4,5,6,7,8,9,10,0,11,12] rfl rfl w hw) hs)) hxo.2.2 hR.a.sim (by rw [show stpE o_ x.t (x.l.map CP.c) = _ from hR.a.st (x := x.p) h42]; exact hex)) fun y hy => VO.h rfl<|HO.lo (LO.mv (.r rfl))<|VO.h rfl<|HO.lo (LO.ex (.r rfl) rfl)<|VO.h rfl<|HO.lo (LO.ex (.r rfl) rfl)<|VO.h rfl<|HO.lo (LO.as (.r rfl))<|VO.h rfl<|HO.lo (LO.as (.r rfl))<|VO.nil ?_)
          refine VE.seqN ?_
          refine VC.seq ?_
          refine VC.seq ?_
          refine VC.reg (VO.l (LO.mv (.r rfl)) rfl<|VO.l (LO.ne (.r rfl) (.r rfl)) rfl<|VO.nil ?_)
          refine VE.seqN ?_
          refine VC.cond rfl (fun h56 => ?_) (fun h56 => ?_)
          ·
            (exfalso; exact h56 rfl)
          ·
            refine VC.skip (VE.seqN ?_)
            refine VC.reg (VO.l (LO.mv (.r rfl)) rfl<|VO.l (LO.mv (.r rfl)) rfl<|VO.h rfl<|HO.appN (f := evC) (l := es_) (m := y.es) 12 (fun R => [_,_,_,_,_,_,_,_,_,_,_,_, R,_]) S60 S60 I62 (.r rfl) (.r rfl) rfl (fun w hw => own_rows hw 0 rfl) (fun _ => rfl) (fun _ => rfl) rfl rfl (fun _ => rfl) rfl rfl (by have := add_cl hy.1; omega) fun p2 c2 _ => VO.h rfl<|HO.lo (LO.as (.r rfl))<|VO.nil ?_)
            refine VE.inN (VE.seqN ?_)
            refine VC.reg (VO.l (LO.add (.r rfl) (.r rfl) (wi (by omega) (by omega))) rfl<|VO.l (LO.mv (.r rfl)) rfl<|VO.nil ?_)
            refine VE.thenN fun a w ha hw => ⟨(i + 1, y.o o_ x.t, es_ ++ y.es, p2, c2), ⟨by dsimp only; omega, rfl, hR.step hxp h42 (cl_bd hxo) hy.1 hy.2.1, by dsimp only; rw [hE, hy.2.2, evP_st hR.a hxp h42]; rfl, by dsimp only; have := add_cl hy.1; rw [List.length_append]; omega⟩, (by dsimp only; omega), ha.sub (.cons (congrArg (fun n => some (Value.slice p2 n c2)) (by rw [List.length_append]; try rfl)) (.cons rfl (.cons rfl (.cons rfl (.cons rfl .nil))))), (by exact selK (L1 := [_,_,_,_,_,_,_,_,_,_,_,_]) [1,2,3,4,5,6,7,8,9,10,12,13] rfl rfl _ hw)⟩
        ·
          refine VC.skip (VE.seqN ?_)
          refine VC.seq ?_
          refine VC.reg (VO.l (LO.mv (.r rfl)) rfl<|VO.l (LO.mv (.r rfl)) rfl<|VO.h rfl<|HO.inv (xs := [_]) (vs := [_]) [_,_,_,_,_,_,_,_,_,_] [_,_,_] (selK (L1 := [_,_,_,_,_,_,_,_,_,_] ++ [_,_,_]) [1,2,3,4,5,6,7,8,9,10,0,11,12] rfl rfl) (.r rfl) (fun _ => by kernel_rfl) C137 ⟨(.r rfl), trivial⟩ (fun w hw hh => play_nt o_ x.t ⟨x.g, x.vs⟩ x.pv x.cv x.lv w (by have := hR.a.sim.wf.n; omega) hh (fun hs => hxo.2.1.keep _ (old_in (selK (L1 := offR o_ ++ [_,_,_]) [1,2,3,4,5,6,7,8,9,10,0,11,12] rfl rfl w hw) hs)) (by rw [show noteE o_ x.t ⟨x.g, x.vs⟩ x.lv = _ from hR.a.nt (x := x.p) h42]; exact hex)) fun y _ => VO.h rfl<|HO.lo (LO.mv (.r rfl))<|VO.h rfl<|HO.lo (LO.ex (.r rfl) rfl)<|VO.h rfl<|HO.lo (LO.ex (.r rfl) rfl)<|VO.h rfl<|HO.lo (LO.as (.r rfl))<|VO.h rfl<|HO.lo (LO.as (.r rfl))<|VO.nil ?_)
          refine VE.seqN ?_
          refine VC.seq ?_
          refine VC.seq ?_
          refine VC.reg (VO.l (LO.mv (.r rfl)) rfl<|VO.l (LO.ne (.r rfl) (.r rfl)) rfl<|VO.nil ?_)
          refine VE.seqN ?_
          refine VC.cond rfl (fun h56 => ?_) (fun h56 => ?_)
          ·
            (exfalso; exact h56 rfl)
          ·
            refine VC.skip (VE.seqN ?_)
            refine VC.reg (VO.l (LO.mv (.r rfl)) rfl<|VO.l (LO.mv (.r rfl)) rfl<|VO.h rfl<|HO.appN (f := evC) (l := es_) (m := ([] : List Ev)) 11 (fun R => [_,_,_,_,_,_,_,_,_,_,_, R,_]) S60 S60 I62 (.r rfl) (.r rfl) rfl (fun w hw => RO.nilE) (fun _ => rfl) (fun _ => rfl) rfl rfl (fun _ => rfl) rfl rfl (by omega) fun p2 c2 _ => VO.h rfl<|HO.lo (LO.as (.r rfl))<|VO.nil ?_)
            refine VE.inN (VE.seqN ?_)
            refine VC.reg (VO.l (LO.add (.r rfl) (.r rfl) (wi (by omega) (by omega))) rfl<|VO.l (LO.mv (.r rfl)) rfl<|VO.nil ?_)
            refine VE.thenN fun a w ha hw => ⟨(i + 1, { o_ with lg := o_.lg ++ [LgM.nt x.t x.g y.1.1 y.1.2 x.vs x.lv], pl := y.2.1, cl := y.2.2 }, es_ ++ [], p2, c2), ⟨by dsimp only; omega, rfl, hR.note hxp h42 hex, by dsimp only; rw [hE, evP_nt hxp h42], by dsimp only; rw [List.append_nil]; omega⟩, (by dsimp only; omega), ha.sub (.cons (congrArg (fun n => some (Value.slice p2 n c2)) (by rw [List.length_append]; try rfl)) (.cons rfl (.cons rfl (.cons rfl (.cons rfl .nil))))), (by exact selK (L1 := [_,_,_,_,_,_,_,_,_,_,_,_]) [0,1,2,3,4,5,6,7,8,9,11,12] rfl rfl _ hw)⟩
      ·
        refine VC.exit (VE.thenX (VE.thenX (VE.inX (VE.seqN ?_))))
        refine VC.seq ?_
        refine VC.reg (VO.l (LO.mv (.r rfl)) rfl<|VO.l (LO.mv (.r rfl)) rfl<|VO.l (LO.as (.r rfl)) rfl<|VO.l (LO.as (.r rfl)) rfl<|VO.l (LO.as (.r rfl)) rfl<|VO.nil ?_)
        refine VE.seqN ?_
        refine VC.ret (VE.res (vs := [_,_,_]) rfl ⟨rfl, rfl, rfl, trivial⟩ (fun w hw => ?_))
        have hi2 : i = log.length := by omega
        subst hi2
        exact ⟨⟨o_, es_, pe_, ce_⟩, ⟨hR, hE⟩, rfl, selK (L1 := offR o_ ++ [_]) [0,1,2,3,4,5,6,7,8,9,10] rfl rfl _ hw⟩

end Go.Proofs.Ytdjflomhaljljaa

namespace Go.Proofs.Ytdjflomhaljljaa
open Go.SL Go.Proofs Go.Cast
set_option linter.unusedVariables false



theorem canon_st {t : Int} {p : Option Addr} {c : Nat} {l : List CP} {x : EnP} (h : LgM.enp (.st t p c l) = x.canon) : x.lv = 0 ∧ t = x.t ∧ l.map CP.c = x.l := by
  unfold EnP.canon at h
  split at h
  · rename_i q; exact ⟨q, congrArg EnP.t h, congrArg EnP.l h⟩
  · rename_i q; exact absurd (congrArg EnP.lv h).symm q
theorem canon_nt {t lv : Int} {g : Grid} {p : Option Addr} {c : Nat} {vs : List Span} {x : EnP} (h : LgM.enp (.nt t g p c vs lv) = x.canon) (hl : ¬ lv = 0) : (¬ x.lv = 0) ∧ t = x.t ∧ g = x.g ∧ vs = x.vs ∧ lv = x.lv := by
  unfold EnP.canon at h
  split at h
  · exact absurd (congrArg EnP.lv h) hl
  · rename_i q; exact ⟨q, congrArg EnP.t h, congrArg EnP.g h, congrArg EnP.vs h, congrArg EnP.lv h⟩
theorem cb_of {w : World} {p : Option Addr} {m : List CP} {x : EnP} (h : Clouds w p m ∧ m.length < 1000000000) (e : m.map CP.c = x.l) : x.l.length < 1000000000 ∧ ∀ c, c ∈ x.l → c.sure.length < 1000000000000 ∧ c.may.length < 1000000000000 := by
  refine ⟨by rw [← e, List.length_map]; exact h.2, fun c hc => ?_⟩
  rw [← e] at hc
  obtain ⟨y, hy, rfl⟩ := List.mem_map.1 hc
  exact (h.1.ok y hy).2.2
theorem plb_step {s : Sp} {l : List EnP} {o : OfM} {n : Nat} {x : EnP} {t : Int} {m : List CP} {y : StepY} (h : PlB s l o n) (hx : l[n]? = some x) (h0 : x.lv = 0) (ht : t = x.t) (hm : m.map CP.c = x.l) (hb : x.l.length < 1000000000 ∧ ∀ c, c ∈ x.l → c.sure.length < 1000000000000 ∧ c.may.length < 1000000000000)
    (hy : StepP o t (m.map CP.c) y ∧ SimO (y.o o t) (stP s (l.take n) ++ [⟨t, thsP o.sp (m.map CP.c)⟩])) : PlB s l (y.o o t) (n + 1) := by
  subst ht
  rw [hm] at hy
  exact h.step hx h0 hb hy.1 hy.2
theorem plb_note {s : Sp} {l : List EnP} {o : OfM} {n : Nat} {x : EnP} {t lv : Int} {g : Grid} {vs : List Span} {p q : Option Addr} {c d : Nat} (h : PlB s l o n) (hx : l[n]? = some x) (h0 : ¬ x.lv = 0) (he : enE s (l.take n) x = 0) (ht : t = x.t) (hg : g = x.g) (hv : vs = x.vs) (hlv : lv = x.lv) : PlB s l { o with lg := o.lg ++ [LgM.nt t g p c vs lv], pl := q, cl := d } (n + 1) := by
  subst ht hg hv hlv
  exact h.note hx h0 he

set_option maxRecDepth 20000 in
set_option maxHeartbeats 4000000 in
theorem Copy_c (s : Sp) (l : List EnP) (n : Nat) (o : OfM) (w : World) (ho : PlB s l o n) (hnl : n = l.length) (hall : ∀ (k : Nat) (x : EnP), l[k]? = some x → enE s (l.take k) x = 0) (hl : n ≤ 256) (hh : Has w (offR o)) :
  Calls Try.prog 42 #[ptrN o.b] w fun e w' => ∃ y : OfM, PlB s l y n ∧ e = .returned (ptrN y.b) ∧ St (Go.SL.bs w) (offR y) w' := by
  have hlr : RO 1 LgM.val w o.pl o.lg := RO.of_own hh 8 rfl
  have hon := ho.a.sim.wf.n
  have hlgl := ho.a.len
  have hlt : (l.take n).length = n := by rw [List.length_take]; omega
  have hsp : specE ⟨o.g, o.rg.map RG.r, o.lead, o.step, o.hold⟩ = 0 := ho.a.sim.wf.spec
  have hrgl : o.rg.length ≤ 32 := by rw [← ho.a.sim.wf.len]; exact hon.2
  refine enter (vs := [_]) (env := [(0,_)]) Try.func42 rfl rfl rfl rfl ?_
  refine VC.seq ?_
  refine VC.reg (VO.l (LO.as (.r rfl)) rfl<|VO.nil ?_)
  refine VE.seqN ?_
  refine VC.seq ?_
  refine VC.seq ?_
  refine VC.reg (VO.l (LO.mv (.r rfl)) rfl<|VO.l (LO.call (xs := [_]) (vs := [_]) C53 ⟨(.r rfl), trivial⟩ (fun w hw => nothing_c o w (by omega) (off_cells (hh.keep hw)))) rfl<|VO.nil ?_)
  refine VE.seqN ?_
  refine VC.cond rfl (fun h8 => ?_) (fun h8 => ?_)
  ·
    (exfalso; omega)
  ·
    refine VC.skip (VE.seqN ?_)
    refine VC.seq ?_
    refine VC.reg (VO.l (LO.mv (.r rfl)) rfl<|VO.l (LO.nc (.r rfl)) rfl<|VO.l (LO.fa (r := 0) F117_0 (.r rfl) rfl) rfl<|VO.l (LO.lda (vs := [_,_,_,_,_,_,_,_,_]) A28 (.r rfl) (cells_keep (sub_cells (off := 0) (off_cells hh) ⟨_, rfl⟩)) rfl) rfl<|VO.h rfl<|HO.callx (xs := [_]) (vs := [_]) C26 ⟨(.r rfl), trivial⟩ (fun w hw => New_c o.g o.rg o.pg o.cg o.lead o.step o.hold w (by omega) ⟨RO.of_own (hh.keep hw) 1 rfl, fun x hx => ⟨pix_read (St.inv (hh.keep hw) 2 _ rfl) hx, ho.a.sim.wf.pix x hx⟩⟩ hsp) fun c hn => VO.h rfl<|HO.lo (LO.mv (.r rfl))<|VO.h rfl<|HO.lo (LO.ex (.r rfl) rfl)<|VO.h rfl<|HO.lo (LO.ex (.r rfl) rfl)<|VO.h rfl<|HO.lo (LO.as (.r rfl))<|VO.h rfl<|HO.lo (LO.as (.r rfl))<|VO.nil ?_)
    refine VE.seqN ?_
    refine VC.seq ?_
    refine VC.seq ?_
    refine VC.reg (VO.l (LO.mv (.r rfl)) rfl<|VO.l (LO.nc (.r rfl)) rfl<|VO.l (LO.fa (r := 12) F117_4 (.r rfl) rfl) rfl<|VO.l (LO.ld O115 (.r rfl) (cells_keep (sub_cells (off := 12) (off_cells hh) ⟨_, rfl⟩))) rfl<|VO.l (LO.len S115 (.r rfl) rfl) rfl<|VO.l (LO.mv (.r rfl)) rfl<|VO.nil ?_)
    refine VE.seqN ?_
    refine VC.block ?_
    refine VC.loopK (α := Nat × OfM) 10 (fun gx => [(22, .int .i64 (gx.1 : Nat))]) [(3,_), (20,_), (21,_)] (fun gx => [OfM.blk gx.2, OfM.rgR gx.2, OfM.pxB gx.2, OfM.rcR gx.2, OfM.rcB gx.2, OfM.tsR gx.2, OfM.csR gx.2, OfM.csB gx.2, OfM.lgR gx.2, OfM.lgB gx.2]) (fun gx => gx.1 ≤ n ∧ gx.2.b = c.b ∧ PlB s l gx.2 gx.1) (fun gx => n - gx.1) (0, c) (by exact ⟨Nat.zero_le _, rfl, plb_new hn (by rw [← ho.a.sp]; rfl) (by rw [← ho.a.sp]; exact hsp) ho.a.sim.wf.pix⟩) (.cons rfl (.cons rfl (.cons rfl (.cons rfl .nil)))) (fun _ h => h) ?_
    rintro ⟨i, c_⟩ ⟨hi, hcb, hR⟩
    show VC _ _ _ _ _ ([(22, .int .i64 (i : Nat))] ++ _) ([OfM.blk c_, OfM.rgR c_, OfM.pxB c_, OfM.rcR c_, OfM.rcB c_, OfM.tsR c_, OfM.csR c_, OfM.csB c_, OfM.lgR c_, OfM.lgB c_] ++ _) _ _
    dsimp only at hi hcb hR
    rw [← hcb]
    have hlgn : o.lg.length = n := hlgl.trans hlt
    refine VC.seq ?_
    refine VC.reg (VO.l (LO.lt (.r rfl) (.r rfl)) rfl<|VO.nil ?_)
    refine VE.seqN ?_
    refine VC.seq ?_
    refine VC.cond rfl (fun h23 => ?_) (fun h23 => ?_)
    ·
      obtain ⟨z, hr⟩ : ∃ x, o.lg[i]? = some x := ⟨_, List.getElem?_eq_getElem (by omega)⟩
      have hrm : z ∈ o.lg := List.mem_of_getElem? hr
      obtain ⟨x, hx⟩ : ∃ x, l[i]? = some x := ⟨_, List.getElem?_eq_getElem (by omega)⟩
      have hex := hall i x hx
      have hce : z.enp = x.canon := by have e := congrArg (fun q : List EnP => q[i]?) ho.a.lg; rw [List.getElem?_map, hr, List.getElem?_map, List.getElem?_take, if_pos (by omega), hx] at e; exact Option.some.inj e
      refine VC.skip (VE.seqN ?_)
      refine VC.seq ?_
      refine VC.block ?_
      refine VC.seq ?_
      rcases z with ⟨t, pc, cc, m⟩ | ⟨t, gg, pv, cv, vs, lv⟩
      ·
        have hb := ho.a.ok _ hrm
        have hrd := fun {L : List Res} {v : World} (hv : St (bs w) L v) => lg_st (hh.keep hv) hrm hb
        obtain ⟨hx0, ht, hm⟩ := canon_st hce
        have hcb2 := cb_of (hrd (St.refl w)) hm
        refine VC.reg (VO.l (LO.ixs S115 N167 hlr.sm (.r rfl) (.r rfl) rfl (by omega)) rfl<|VO.l (LO.ld (v := .iface 158 (.agg #[.int .i64 t, .slice pc m.length cc])) O167 (.r rfl) (fun w hw => cells_part (off := 0) ((fun w2 hw2 => (hlr.keep w2 hw2).cells _ _ (by rw [List.getElem?_map, hr]; rfl)) w hw) ⟨_, rfl⟩)) rfl<|VO.l (LO.as (.r rfl)) rfl<|VO.nil ?_)
        refine VE.seqN ?_
        refine VC.reg (VO.l (LO.mv (.r rfl)) rfl<|VO.l (LO.mv (.r rfl)) rfl<|VO.h rfl<|HO.inv (xs := [_]) (vs := [_]) [_,_,_,_,_,_,_,_,_,_] [] (selK (L1 := [_,_,_,_,_,_,_,_,_,_] ++ []) [0,1,2,3,4,5,6,7,8,9] rfl rfl) (.r rfl) (fun _ => by kernel_rfl) C135 ⟨(.r rfl), trivial⟩ (fun w hw hh => play_st c_ _ t m pc cc w hh (fun hs => (hrd (old_in (selK (L1 := offR c_ ++ []) [0,1,2,3,4,5,6,7,8,9] rfl rfl w hw) hs)).1) (hrd hw).2 hR.a.sim (by rw [hm, ht, show stpE c_ x.t x.l = _ from hR.a.st (x := x) hx0]; exact hex)) fun y hy => VO.nil ?_)
        refine VE.inN (VE.seqN ?_)
        refine VC.reg (VO.l (LO.add (.r rfl) (.r rfl) (wi (by omega) (by omega))) rfl<|VO.l (LO.mv (.r rfl)) rfl<|VO.nil ?_)
        refine VE.thenN fun a w ha hw => ⟨(i + 1, y.o c_ t), ⟨by dsimp only; omega, rfl, plb_step hR hx hx0 ht hm hcb2 ⟨hy.1, hy.2.1⟩⟩, (by dsimp only; omega), ha.sub (.cons rfl (.cons rfl (.cons rfl (.cons rfl .nil)))), (by exact selK (L1 := [_,_,_,_,_,_,_,_,_,_]) [1,2,3,4,5,6,7,8,9,10] rfl rfl _ hw)⟩
      ·
        have hb := ho.a.ok _ hrm
        have hrd := fun {L : List Res} {v : World} (hv : St (bs w) L v) => lg_nt (hh.keep hv) hrm hb
        obtain ⟨hx0, ht, hg, hvs, hlv⟩ := canon_nt hce (ho.nz ⟨t, gg, pv, cv, vs, lv⟩ (ntsL_mem.2 hrm))
        refine VC.reg (VO.l (LO.ixs S115 N167 hlr.sm (.r rfl) (.r rfl) rfl (by omega)) rfl<|VO.l (LO.ld (v := .iface 165 (.agg #[.int .i64 t, .int .i64 gg.x, .int .i64 gg.y, .int .i64 gg.size, .int .i64 gg.wide, .int .i64 gg.high, .slice pv vs.length cv, .int .i64 lv])) O167 (.r rfl) (fun w hw => cells_part (off := 0) ((fun w2 hw2 => (hlr.keep w2 hw2).cells _ _ (by rw [List.getElem?_map, hr]; rfl)) w hw) ⟨_, rfl⟩)) rfl<|VO.l (LO.as (.r rfl)) rfl<|VO.nil ?_)
        refine VE.seqN ?_
        refine VC.reg (VO.l (LO.mv (.r rfl)) rfl<|VO.l (LO.mv (.r rfl)) rfl<|VO.h rfl<|HO.inv (xs := [_]) (vs := [_]) [_,_,_,_,_,_,_,_,_,_] [] (selK (L1 := [_,_,_,_,_,_,_,_,_,_] ++ []) [0,1,2,3,4,5,6,7,8,9] rfl rfl) (.r rfl) (fun _ => by kernel_rfl) C137 ⟨(.r rfl), trivial⟩ (fun w hw hh => play_nt c_ t ⟨gg, vs⟩ pv cv lv w (by have := hR.a.sim.wf.n; omega) hh (fun hs => (hrd (old_in (selK (L1 := offR c_ ++ []) [0,1,2,3,4,5,6,7,8,9] rfl rfl w hw) hs)).1) (by rw [ht, hg, hvs, hlv, show noteE c_ x.t ⟨x.g, x.vs⟩ x.lv = _ from hR.a.nt (x := x) hx0]; exact hex)) fun y _ => VO.nil ?_)
        refine VE.inN (VE.seqN ?_)
        refine VC.reg (VO.l (LO.add (.r rfl) (.r rfl) (wi (by omega) (by omega))) rfl<|VO.l (LO.mv (.r rfl)) rfl<|VO.nil ?_)
        refine VE.thenN fun a w ha hw => ⟨(i + 1, { c_ with lg := c_.lg ++ [LgM.nt t gg y.1.1 y.1.2 vs lv], pl := y.2.1, cl := y.2.2 }), ⟨by dsimp only; omega, rfl, plb_note hR hx hx0 hex ht hg hvs hlv⟩, (by dsimp only; omega), ha.sub (.cons rfl (.cons rfl (.cons rfl (.cons rfl .nil)))), (by exact selK (L1 := [_,_,_,_,_,_,_,_,_,_]) [0,1,2,3,4,5,6,7,8,9] rfl rfl _ hw)⟩
    ·
      refine VC.exit (VE.thenX (VE.thenX (VE.inX (VE.seqN ?_))))
      refine VC.seq ?_
      refine VC.reg (VO.l (LO.mv (.r rfl)) rfl<|VO.l (LO.as (.r rfl)) rfl<|VO.nil ?_)
      refine VE.seqN ?_
      refine VC.ret (VE.res (vs := [_]) rfl ⟨rfl, trivial⟩ (fun w hw => ?_))
      have hi2 : i = n := by omega
      subst hi2
      exact ⟨c_, hR, rfl, selK (L1 := offR c_) [0,1,2,3,4,5,6,7,8,9] rfl rfl _ hw⟩

end Go.Proofs.Ytdjflomhaljljaa

namespace Go.Proofs.Ytdjflomhaljljaa
open Go.SL Go.Proofs Go.Cast
set_option linter.unusedVariables false

/-! entries of drafts -/
def stE2 (bs : List BtM) (l : List Cloud) (i : Nat) : EnP := ⟨tAt bs (i + 1), fA bs l i, gZ, [], 0⟩
def stsL (bs : List BtM) (l : List Cloud) (n : Nat) : List EnP := (List.range n).map (stE2 bs l)
def ntE2 (f : Int → Int) (x : SgM) : EnP := ⟨x.t.tmod 5000, [], gD, vlF x.px (f x.wd) 20,100⟩
def ntsE (f : Int → Int) (ns : List SgM) : List EnP := ns.map (ntE2 f)
def ntN (f : Int → Int) (x : SgM) : Nt := ⟨x.t.tmod 5000, vlF x.px (f x.wd) 20,100⟩
section
variable {bs : List BtM} {l : List Cloud} {n i : Nat} {f : Int → Int} {ns : List SgM} {s : Sp} {d : DrM}
theorem sts_len : (stsL bs l n).length = n := by simp [stsL]
theorem sts_get (h : i < n) : (stsL bs l n)[i]? = some (stE2 bs l i) := by unfold stsL; rw [List.getElem?_map, List.getElem?_range h]; rfl
theorem sts_take {m : Nat} (h : m ≤ n) : (stsL bs l n).take m = stsL bs l m := by unfold stsL; rw [← List.map_take, List.take_range, Nat.min_eq_left h]
theorem stP_app {a b : List EnP} : stP s (a ++ b) = stP s a ++ stP s b := by unfold stP; rw [List.filter_append, List.map_append]
theorem tsP_app {a b : List EnP} : tsP (a ++ b) = tsP a ++ tsP b := by unfold tsP; rw [List.filter_append, List.map_append]
theorem ntP_app {a b : List EnP} : ntP (a ++ b) = ntP a ++ ntP b := by unfold ntP; rw [List.flatMap_append]
theorem stP_sts : stP s (stsL bs l n) = stG s (fA bs l) bs n := by
  unfold stP stsL stG
  rw [List.filter_eq_self.2 (fun x hx => by obtain ⟨i,_, rfl⟩ := List.mem_map.1 hx; rfl), List.map_map]; rfl
theorem tsP_sts : tsP (stsL bs l n) = tmB bs n := by
  unfold tsP stsL tmB
  rw [List.filter_eq_self.2 (fun x hx => by obtain ⟨i,_, rfl⟩ := List.mem_map.1 hx; rfl), List.map_map]; rfl
theorem filt_nts : (ntsE f ns).filter isSt = [] := by
  unfold ntsE
  rw [List.filter_eq_nil_iff]
  intro x hx
  obtain ⟨y,_, rfl⟩ := List.mem_map.1 hx
  intro q
  exact absurd (of_decide_eq_true q) (show ¬ (100 : Int) = 0 by decide)
theorem stP_nts : stP s (ntsE f ns) = [] := by unfold stP; rw [filt_nts]; rfl
theorem tsP_nts : tsP (ntsE f ns) = [] := by unfold tsP; rw [filt_nts]; rfl
theorem ntP_sts : ntP (stsL bs l n) = [] := by
  unfold ntP
  rw [List.flatMap_eq_nil_iff]
  intro x hx
  obtain ⟨i,_, rfl⟩ := List.mem_map.1 hx
  rfl
theorem ntP_nts : ntP (ntsE f ns) = ns.map (ntN f) := by
  induction ns with
  | nil => rfl
  | cons x ns ih =>
    show ntE (ntE2 f x) ++ ntP (ntsE f ns) = _
    rw [ih]; rfl
theorem canon_sts : (stsL bs l n).map EnP.canon = stsL bs l n := by
  unfold stsL
  rw [List.map_map]; rfl
theorem canon_nts : (ntsE f ns).map EnP.canon = ntsE f ns := by
  unfold ntsE
  rw [List.map_map]; rfl
/-- A run is an office in which its steps were played. -/
theorem pl_run {rest : List EnP} {y : RnY} (hy : RnP (drSp d) l bs y) (hl : ∀ c, c ∈ l → c.sure.length < 1000000 ∧ c.may.length < 1000000) (hb : ∀ b, b ∈ bs → b.ok) : PlB (drSp d) (stsL bs l bs.length ++ rest) y.o bs.length := by
  obtain ⟨h1, h2,_,_, h5⟩ := hy
  have ht : (stsL bs l bs.length ++ rest).take bs.length = stsL bs l bs.length := by rw [List.take_append_of_le_length (by rw [sts_len]; omega), List.take_of_length_le (by rw [sts_len]; omega)]
  have each : ∀ x, x ∈ y.o.lg → ∃ t p c m i, x = .st t p c m ∧ i < bs.length ∧ t = tAt bs (i + 1) ∧ m.map CP.c = fA bs l i := fun x hx => by
    have : x.ent ∈ lgB l bs bs.length := by rw [← h5]; exact List.mem_map_of_mem hx
    obtain ⟨i, hi, e⟩ := List.mem_map.1 this
    cases x with
    | st t p c m => exact ⟨t, p, c, m, i, rfl, List.mem_range.1 hi, (congrArg (fun z => match z with | .st t _ => t | .nt t _ _ _ => t) e).symm, (congrArg (fun z => match z with | .st _ m => m | .nt _ _ _ _ => []) e).symm⟩
    | nt => cases e
  have enp : ∀ x : LgM, x.enp = (match x.ent with | .st t m => (⟨t, m, gZ, [], 0⟩ : EnP) | .nt t g vs lv => ⟨t, [], g, vs, lv⟩) := fun x => by cases x <;> rfl
  have hn : ntsL y.o.lg = [] := by
    unfold ntsL
    rw [List.flatMap_eq_nil_iff]
    intro x hx
    obtain ⟨t, p, c, m, i, rfl,_⟩ := each x hx
    rfl
  refine ⟨⟨?_, h2, ?_, ?_⟩, ?_, ?_, ?_⟩
  · rw [ht, stP_sts]; exact h1
  · rw [ht, canon_sts]
    have e : y.o.lg.map LgM.enp = (y.o.lg.map LgM.ent).map fun x => (match x with | .st t m => (⟨t, m, gZ, [], 0⟩ : EnP) | .nt t g vs lv => ⟨t, [], g, vs, lv⟩) := by
      rw [List.map_map]; exact List.map_congr_left fun x _ => enp x
    rw [e, h5]
    unfold lgB stsL
    rw [List.map_map]; rfl
  · intro x hx
    obtain ⟨t, p, c, m, i, rfl, hi,_, e⟩ := each x hx
    have hbl := beat_len (b := bs.getD i ⟨0,0,0, true⟩) (l := l)
    refine ⟨?_, fun c hc => ?_, Nat.zero_le _⟩
    · show (m.map CP.c).length < _
      rw [e]; unfold fA; omega
    · have := hl c (fA_mem hb hi (by rw [← e]; exact hc))
      omega
  · rw [hn, ht, ntP_sts]; rfl
  · intro q hq; rw [hn] at hq; cases hq
  · intro q hq; rw [hn] at hq; cases hq
/-! which entries are in order -/
theorem en_step {pre : List EnP} (ht : 0 ≤ tAt bs (i + 1) ∧ tAt bs (i + 1) ≤ 4294967296) (hts : tsP pre = tmB bs i) (hb : ∀ b, b ∈ bs → b.ok) (hi : i < bs.length) (hp : pre.length < 256) (hl : lookE s.g (fA bs l i) = 0) : enE s pre (stE2 bs l i) = 0 := by
  unfold enE
  rw [if_pos (show (stE2 bs l i).lv = 0 from rfl), if_neg (fun q => q ht), hts, if_neg, if_neg (by omega)]
  · exact hl
  · rintro ⟨q1, q2⟩
    cases i with
    | zero => simp [tmB] at q1
    | succ k =>
      rw [tmB_snoc, lastI_snoc] at q2
      have := tAt_lt hb hi
      change tAt bs (k + 1 + 1) ≤ tAt bs (k + 1) at q2
      omega
theorem en_note {pre : List EnP} {x : SgM} (hx : x.ok) (hp : pre.length < 256) (hf : 0 ≤ f x.wd ∧ f x.wd ≤ 255) (hg : s.g = gD) : enE s pre (ntE2 f x) = 0 := by
  have hm := tm hx.1.1 (show (0 : Int) < 5000 by decide)
  unfold enE
  rw [if_neg (by show ¬ (100 : Int) = 0; decide), if_neg (fun q => q (by show 0 ≤ x.t.tmod 5000 ∧ x.t.tmod 5000 ≤ _; omega)), if_neg (by omega), if_neg (fun q => q (vl_field hx.2.1 hf)), if_neg (fun q => q (by rw [hg]; rfl)), if_neg (fun q => q (by show (1 : Int) ≤ 100 ∧ (100 : Int) ≤ _; decide))]
end
/-! tallies whose notes come in another order, or are narrower -/
/-- The least lead of a warning, whatever the notes' order. -/
def LeastOf (S : Int → Prop) (m : Option Int) : Prop := match m with
  | none => ∀ v, ¬ S v
  | some v => S v ∧ ∀ u, S u → v ≤ u
theorem least_eq {S T : Int → Prop} {a b : Option Int} (h : LeastOf S a) (k : LeastOf T b) (e : ∀ v, S v ↔ T v) : a = b := by
  cases a with
  | none =>
    cases b with
    | none => rfl
    | some v => exact absurd ((e v).2 k.1) (h v)
  | some u =>
    cases b with
    | none => exact absurd ((e u).1 h.1) (k u)
    | some v =>
      have h1 := h.2 v ((e v).2 k.1)
      have h2 := k.2 u ((e u).1 h.1)
      rw [show u = v by omega]
section
variable {k : Int} {pix : List Int} {cs : List Cs} {c : Cs} {on : Int → Bool} {N M : List Nt}
theorem firstN_least : ∀ (ns : List Nt), LeastOf (fun v => ∃ n, n ∈ ns ∧ inC pix c n = true ∧ v = n.t - c.bg) (firstN pix c ns) := by
  intro ns
  induction h : ns.length generalizing ns with
  | zero =>
    have : ns = [] := List.eq_nil_of_length_eq_zero h
    subst this
    rintro v ⟨n, hn,_⟩; cases hn
  | succ m ih =>
    rcases List.eq_nil_or_concat ns with q | ⟨l, n, q⟩
    · rw [q] at h; simp at h
    · rw [q, List.concat_eq_append] at h ⊢
      have ih := ih l (by simpa using h)
      rw [firstN_snoc]
      by_cases hi : inC pix c n = true
      · rw [if_pos hi]
        cases hf : firstN pix c l with
        | none =>
          rw [hf] at ih
          refine ⟨⟨n, by simp, hi, rfl⟩, ?_⟩
          rintro u ⟨x, hx, h1, h2⟩
          rcases List.mem_append.1 hx with z | z
          · exact absurd ⟨x, z, h1, h2⟩ (ih u)
          · rw [List.mem_singleton.1 z] at h2; omega
        | some v =>
          rw [hf] at ih
          obtain ⟨⟨x, hx, h1, h2⟩, h3⟩ := ih
          show (∃ y, y ∈ l ++ [n] ∧ inC pix c y = true ∧ min v (n.t - c.bg) = y.t - c.bg) ∧ _
          refine ⟨?_, ?_⟩
          · rcases Int.le_total v (n.t - c.bg) with z | z
            · exact ⟨x, List.mem_append_left _ hx, h1, by rw [Int.min_eq_left z]; exact h2⟩
            · exact ⟨n, by simp, hi, Int.min_eq_right z⟩
          · rintro u ⟨y, hy, g1, g2⟩
            rcases List.mem_append.1 hy with z | z
            · have := h3 u ⟨y, z, g1, g2⟩; omega
            · rw [List.mem_singleton.1 z] at g2; omega
      · rw [if_neg hi]
        cases hf : firstN pix c l with
        | none =>
          rw [hf] at ih
          rintro v ⟨x, hx, h1, h2⟩
          rcases List.mem_append.1 hx with z | z
          · exact ih v ⟨x, z, h1, h2⟩
          · rw [List.mem_singleton.1 z] at h1; exact hi h1
        | some v =>
          rw [hf] at ih
          obtain ⟨⟨x, hx, h1, h2⟩, h3⟩ := ih
          refine ⟨⟨x, List.mem_append_left _ hx, h1, h2⟩, ?_⟩
          rintro u ⟨y, hy, g1, g2⟩
          rcases List.mem_append.1 hy with z | z
          · exact h3 u ⟨y, z, g1, g2⟩
          · rw [List.mem_singleton.1 z] at g1; exact absurd g1 hi
theorem firstN_rev : firstN pix c N.reverse = firstN pix c N := least_eq (firstN_least _) (firstN_least _) fun v => by simp
theorem talF_rev : talF k pix on cs N.reverse = talF k pix on cs N := by
  have e1 : ∀ j, cntK pix on j N.reverse = cntK pix on j N := fun j => by unfold cntK; rw [(List.reverse_perm N).countP_eq]
  have e2 : aheadL k pix cs N.reverse = aheadL k pix cs N := by unfold aheadL; simp only [firstN_rev]
  unfold talF
  simp only [e1, e2]
theorem cnt_sum : ∀ ns : List Nt, cntK pix on 0 ns + cntK pix on 1 ns + cntK pix on 3 ns + cntK pix on 4 ns + cntK pix on 2 ns = ns.length := by
  intro ns
  induction ns with
  | nil => rfl
  | cons n ns ih =>
    have hlt : kNt pix on n < 5 := kN_lt
    have e : ∀ j, cntK pix on j (n :: ns) = cntK pix on j ns + if kNt pix on n = j then 1 else 0 := fun j => by
      unfold cntK
      rw [List.countP_cons]
      by_cases q : kNt pix on n = j
      · simp [q]
      · simp [q]
    rw [e, e, e, e, e, List.length_cons]
    generalize kNt pix on n = x at hlt
    match x, hlt with
    | 0,_ => simp; omega
    | 1,_ => simp; omega
    | 2,_ => simp; omega
    | 3,_ => simp; omega
    | 4,_ => simp; omega
theorem ahead_nn : ∀ v, v ∈ aheadL k pix cs N → 0 ≤ v := fun v hv => by
  unfold aheadL at hv
  obtain ⟨c, hc, e⟩ := List.mem_filterMap.1 hv
  split at e
  · have := firstN_least (pix := pix) (c := c) N
    rw [e] at this
    obtain ⟨⟨n,_, h1, h2⟩,_⟩ := this
    unfold inC at h1
    simp only [Bool.and_eq_true, decide_eq_true_eq] at h1
    omega
  · cases e
theorem tal_span : 0 ≤ (talF k pix on cs N).lo ∧ (talF k pix on cs N).lo ≤ (talF k pix on cs N).hi := by
  show 0 ≤ (spanL (aheadL k pix cs N)).1 ∧ (spanL (aheadL k pix cs N)).1 ≤ (spanL (aheadL k pix cs N)).2
  rcases spanL_of (aheadL k pix cs N) with ⟨h1, h2, h3⟩ | ⟨_, h2, h3⟩
  · exact ⟨ahead_nn _ h1, (h3 _ h2).1⟩
  · rw [h2, h3]; exact ⟨Int.le_refl _, Int.le_refl _⟩
theorem tal_sum : (talF k pix on cs N).h + (talF k pix on cs N).m + (talF k pix on cs N).a + (talF k pix on cs N).q + (talF k pix on cs N).o = N.length := cnt_sum N
/-- Two lists, one by one. -/
inductive Pw2 {α β : Type} (R : α → β → Prop) : List α → List β → Prop where
  | nil : Pw2 R [] []
  | cons {a : α} {b : β} {l : List α} {m : List β} : R a b → Pw2 R l m → Pw2 R (a :: l) (b :: m)
/-- A note that says less. -/
def Narr (pix : List Int) (n n' : Nt) : Prop := n'.t = n.t ∧ hitB pix n'.vs n'.lv = hitB pix n.vs n.lv ∧ (canB pix n'.vs n'.lv = true → canB pix n.vs n.lv = true)
theorem narr_cnt (h : Pw2 (Narr pix) N M) : cntK pix on 0 M = cntK pix on 0 N ∧ cntK pix on 1 M = cntK pix on 1 N ∧ cntK pix on 2 M ≤ cntK pix on 2 N ∧ cntK pix on 3 N ≤ cntK pix on 3 M ∧ cntK pix on 4 N ≤ cntK pix on 4 M := by
  induction h with
  | nil => exact ⟨rfl, rfl, Int.le_refl _, Int.le_refl _, Int.le_refl _⟩
  | @cons n n' N M hn _ ih =>
    have e : ∀ j (n : Nt) ns, cntK pix on j (n :: ns) = cntK pix on j ns + if kNt pix on n = j then 1 else 0 := fun j n ns => by
      unfold cntK
      rw [List.countP_cons]
      by_cases q : kNt pix on n = j
      · simp [q]
      · simp [q]
    simp only [e]
    obtain ⟨g1, g2, g3⟩ := hn
    have hk : kNt pix on n' = kNt pix on n ∨ (kNt pix on n = 2 ∧ (kNt pix on n' = 3 ∨ kNt pix on n' = 4)) := by
      unfold kNt
      rw [g1, g2]
      cases hitB pix n.vs n.lv <;> cases h1 : canB pix n.vs n.lv <;> cases h2 : canB pix n'.vs n'.lv <;> cases on n.t <;> simp_all [kN]
    rcases hk with q | ⟨q1, q2 | q2⟩
    · rw [q]; refine ⟨by omega, by omega, ?_, ?_, ?_⟩ <;> split <;> omega
    · rw [q1, q2]; simp; omega
    · rw [q1, q2]; simp; omega
end
theorem narr_map {pix : List Int} {f g : Int → Int} (hp : ∀ p, p ∈ pix → 0 ≤ p ∧ p < 20) : ∀ (ns : List SgM), (∀ x, x ∈ ns → g x.wd ≤ f x.wd) → Pw2 (Narr pix) (ns.map (ntN f)) (ns.map (ntN g))
  | [],_ => .nil
  | x :: ns, h => by
    refine .cons ⟨rfl, ?_, ?_⟩ (narr_map hp ns fun y hy => h y (List.mem_cons_of_mem _ hy))
    · show hitB pix (vlF x.px (g x.wd) 20) 100 = hitB pix (vlF x.px (f x.wd) 20) 100
      unfold hitB
      rw [Bool.eq_iff_iff, List.any_eq_true, List.any_eq_true]
      constructor
      · rintro ⟨p, h1, h2⟩
        have := hp p h1
        rw [vlF_get (by omega)] at h2
        exact ⟨p, h1, by rw [vlF_get (by omega)]; exact h2⟩
      · rintro ⟨p, h1, h2⟩
        have := hp p h1
        rw [vlF_get (by omega)] at h2
        exact ⟨p, h1, by rw [vlF_get (by omega)]; exact h2⟩
    · show canB pix (vlF x.px (g x.wd) 20) 100 = true → canB pix (vlF x.px (f x.wd) 20) 100 = true
      unfold canB
      rw [List.any_eq_true, List.any_eq_true]
      rintro ⟨p, h1, h2⟩
      refine ⟨p, h1, ?_⟩
      have := hp p h1
      rw [vlF_get (by omega)] at h2 ⊢
      have h3 := h x List.mem_cons_self
      simp only [decide_eq_true_eq] at h2 ⊢
      omega
end Go.Proofs.Ytdjflomhaljljaa

namespace Go.Proofs.Ytdjflomhaljljaa
open Go.SL Go.Proofs Go.Cast
set_option linter.unusedVariables false

def laE (bs : List BtM) (l : List Cloud) (ns : List SgM) (f : Int → Int) : List EnP := stsL bs l bs.length ++ ntsE f ns
def lbE (bs : List BtM) (l : List Cloud) (ns : List SgM) (f : Int → Int) : List EnP := ntsE f ns.reverse ++ stsL bs l bs.length
theorem nts_len {f : Int → Int} {ns : List SgM} : (ntsE f ns).length = ns.length := by simp [ntsE]
section
variable {bs : List BtM} {l : List Cloud} {ns : List SgM} {f g : Int → Int} {s : Sp} {d : DrM} {k i : Nat}
theorem la_len : (laE bs l ns f).length = bs.length + ns.length := by unfold laE; rw [List.length_append, sts_len, nts_len]
theorem lb_len : (lbE bs l ns f).length = ns.length + bs.length := by unfold lbE; rw [List.length_append, sts_len, nts_len, List.length_reverse]
theorem talP_la : talP s (laE bs l ns f) k = talF k (s.regs.getD k default).pix (onP s (stsL bs l bs.length) k) (csF s.hold s.regs.length (stP s (stsL bs l bs.length))) (ns.map (ntN f)) := by
  unfold talP onP laE
  simp only [stP_app, stP_nts, tsP_app, tsP_nts, ntP_app, ntP_sts, ntP_nts, List.append_nil, List.nil_append]
theorem talP_lb : talP s (lbE bs l ns f) k = talP s (laE bs l ns f) k := by
  rw [talP_la, ← talF_rev]
  unfold talP onP lbE
  simp only [stP_app, stP_nts, tsP_app, tsP_nts, ntP_app, ntP_sts, ntP_nts, List.append_nil, List.nil_append, List.map_reverse]
theorem talsP_lb : talsP s (lbE bs l ns f) = talsP s (laE bs l ns f) := by
  unfold talsP
  exact List.map_congr_left fun k _ => talP_lb
def zTal : Tal := ⟨0,0,0,0,0,0,0⟩
theorem talsP_get (h : i < s.regs.length) {le : List EnP} : (talsP s le).getD i zTal = talP s le i := by
  unfold talsP; rw [List.getD_eq_getElem?_getD, List.getElem?_map, List.getElem?_range h]; rfl
theorem talsP_len {le : List EnP} : (talsP s le).length = s.regs.length := by simp [talsP]
/-- What the law says of tallies. -/
def TalOk (n : Nat) (x r : Tal) : Prop := ((0 ≤ x.h ∧ x.h ≤ n) ∧ (0 ≤ x.m ∧ x.m ≤ n) ∧ (0 ≤ x.a ∧ x.a ≤ n) ∧ (0 ≤ x.q ∧ x.q ≤ n) ∧ (0 ≤ x.o ∧ x.o ≤ n)) ∧ x.h + x.m + x.a + x.q + x.o = n ∧ (0 ≤ x.lo ∧ x.lo ≤ x.hi) ∧ r.o ≤ x.o ∧ x.h ≤ r.h ∧ x.m ≤ r.m ∧ x.a ≤ r.a ∧ x.q ≤ r.q
theorem tal_ok (h : i < s.regs.length) (hp : ∀ p, p ∈ (s.regs.getD i default).pix → 0 ≤ p ∧ p < 20) (hg : ∀ x, x ∈ ns → g x.wd ≤ f x.wd) : TalOk ns.length ((talsP s (laE bs l ns f)).getD i zTal) ((talsP s (laE bs l ns g)).getD i zTal) := by
  rw [talsP_get h, talsP_get h, talP_la, talP_la]
  have e : (ns.map (ntN f)).length = ns.length := List.length_map _
  have hn := narr_cnt (on := onP s (stsL bs l bs.length) i) (narr_map hp ns hg)
  refine ⟨?_, ?_, tal_span, ?_⟩
  · unfold talF
    rw [← e]
    exact ⟨cntK_le, cntK_le, cntK_le, cntK_le, cntK_le⟩
  · rw [tal_sum, e]
  · unfold talF
    dsimp only
    omega
theorem evP_app {a b : List EnP} : ∀ n, n ≤ a.length → evP s (a ++ b) n = evP s a n
  | 0,_ => rfl
  | n + 1, h => by
    show evP s (a ++ b) n ++ enEv s ((a ++ b).take n) ((a ++ b).getD n zEn) = evP s a n ++ enEv s (a.take n) (a.getD n zEn)
    rw [evP_app n (by omega), List.take_append_of_le_length (by omega), getD_app_l (by omega)]
theorem evP_sts : ∀ n, n ≤ bs.length → evP s (stsL bs l bs.length) n = (evB s l bs n).flatten
  | 0,_ => rfl
  | n + 1, h => by
    show evP s (stsL bs l bs.length) n ++ enEv s ((stsL bs l bs.length).take n) ((stsL bs l bs.length).getD n zEn) = _
    rw [evP_sts n (by omega), sts_take (by omega), getD_of (sts_get (by omega)), evB_snoc, List.flatten_append]
    congr 1
    unfold enEv
    rw [if_pos (show (stE2 bs l n).lv = 0 from rfl), stP_sts]
    show evF s.hold s.regs.length (stG s (fA bs l) bs n) ⟨tAt bs (n + 1), thsP s (fA bs l n)⟩ = _
    simp only [List.flatten_cons, List.flatten_nil, List.append_nil]
    rfl
theorem evP_nts {a : List EnP} : ∀ n, n ≤ ns.length → evP s (a ++ ntsE f ns) (a.length + n) = evP s a a.length
  | 0,_ => evP_app _ (Nat.le_refl _)
  | n + 1, h => by
    have e : a.length + (n + 1) = (a.length + n) + 1 := by omega
    rw [e]
    show evP s (a ++ ntsE f ns) (a.length + n) ++ enEv s ((a ++ ntsE f ns).take (a.length + n)) ((a ++ ntsE f ns).getD (a.length + n) zEn) = _
    rw [evP_nts n (by omega)]
    have g : (a ++ ntsE f ns).getD (a.length + n) zEn = ntE2 f (ns[n]'(by omega)) := by
      rw [List.getD_eq_getElem?_getD, List.getElem?_append_right (by omega), show a.length + n - a.length = n by omega]
      unfold ntsE
      rw [List.getElem?_map, List.getElem?_eq_getElem (by omega)]; rfl
    rw [g]
    unfold enEv
    rw [if_neg (show ¬ (ntE2 f (ns[n]'(by omega))).lv = 0 by show ¬ (100 : Int) = 0; decide), List.append_nil]
theorem evP_la : evP s (laE bs l ns f) (laE bs l ns f).length = (evB s l bs bs.length).flatten := by
  have h := evP_nts (s := s) (f := f) (ns := ns) (a := stsL bs l bs.length) ns.length (Nat.le_refl _)
  rw [sts_len] at h
  rw [la_len]
  unfold laE
  rw [h]
  have := evP_sts (s := s) (l := l) (bs := bs) bs.length (Nat.le_refl _)
  exact this
theorem canon_la : (laE bs l ns f).map EnP.canon = laE bs l ns f := by unfold laE; rw [List.map_append, canon_sts, canon_nts]
theorem la_st (h : i < bs.length) : (laE bs l ns f)[i]? = some (stE2 bs l i) := by unfold laE; rw [List.getElem?_append_left (by rw [sts_len]; exact h)]; exact sts_get h
theorem la_nt {x : SgM} (h : ns[i]? = some x) : (laE bs l ns f)[bs.length + i]? = some (ntE2 f x) := by
  unfold laE; rw [List.getElem?_append_right (by rw [sts_len]; omega), sts_len, show bs.length + i - bs.length = i by omega]; unfold ntsE; rw [List.getElem?_map, h]; rfl
theorem lb_nt {x : SgM} (h : ns[ns.length - 1 - i]? = some x) (hi : i < ns.length) : (lbE bs l ns f)[i]? = some (ntE2 f x) := by
  unfold lbE
  rw [List.getElem?_append_left (by rw [nts_len, List.length_reverse]; exact hi)]
  unfold ntsE
  rw [List.getElem?_map, List.getElem?_reverse hi, h]; rfl
theorem lb_st (h : i < bs.length) : (lbE bs l ns f)[ns.length + i]? = some (stE2 bs l i) := by
  unfold lbE; rw [List.getElem?_append_right (by rw [nts_len, List.length_reverse]; omega), nts_len, List.length_reverse, show ns.length + i - ns.length = i by omega]; exact sts_get h
/-- All entries of both are in order. -/
theorem la_all (hN : bs.length ≤ 8 ∧ ns.length ≤ 8) (hb : ∀ b, b ∈ bs → b.ok) (hx : ∀ x, x ∈ ns → x.ok) (hf : ∀ x, x ∈ ns → 0 ≤ f x.wd ∧ f x.wd ≤ 255) (hg : s.g = gD) (hl : ClsOk l) : ∀ (k : Nat) (x : EnP), (laE bs l ns f)[k]? = some x → enE s ((laE bs l ns f).take k) x = 0 := fun k x hk => by
  have hkl : k < bs.length + ns.length := by rw [← la_len (l := l) (f := f)]; exact (List.getElem?_eq_some_iff.1 hk).1
  have hpl : ((laE bs l ns f).take k).length < 256 := by rw [List.length_take]; omega
  rcases Nat.lt_or_ge k bs.length with q | q
  · rw [la_st q] at hk
    cases hk
    have ht := tAt_bd hb (k + 1) q
    refine en_step (by omega) ?_ hb q hpl (by rw [hg]; exact fA_look hb q hl)
    unfold laE
    rw [List.take_append_of_le_length (by rw [sts_len]; omega), sts_take (by omega), tsP_sts]
  · have hi : k - bs.length < ns.length := by omega
    have e := la_nt (bs := bs) (l := l) (f := f) (List.getElem?_eq_getElem hi)
    rw [show bs.length + (k - bs.length) = k by omega, hk] at e
    rw [Option.some.inj e]
    exact en_note (hx _ (List.getElem_mem hi)) hpl (hf _ (List.getElem_mem hi)) hg
theorem lb_all (hN : bs.length ≤ 8 ∧ ns.length ≤ 8) (hb : ∀ b, b ∈ bs → b.ok) (hx : ∀ x, x ∈ ns → x.ok) (hf : ∀ x, x ∈ ns → 0 ≤ f x.wd ∧ f x.wd ≤ 255) (hg : s.g = gD) (hl : ClsOk l) : ∀ (k : Nat) (x : EnP), (lbE bs l ns f)[k]? = some x → enE s ((lbE bs l ns f).take k) x = 0 := fun k x hk => by
  have hkl : k < ns.length + bs.length := by rw [← lb_len (l := l) (f := f)]; exact (List.getElem?_eq_some_iff.1 hk).1
  have hpl : ((lbE bs l ns f).take k).length < 256 := by rw [List.length_take]; omega
  rcases Nat.lt_or_ge k ns.length with q | q
  · have hi : ns.length - 1 - k < ns.length := by omega
    rw [lb_nt (List.getElem?_eq_getElem hi) q] at hk
    cases hk
    exact en_note (hx _ (List.getElem_mem hi)) hpl (hf _ (List.getElem_mem hi)) hg
  · have hi : k - ns.length < bs.length := by omega
    have e := lb_st (l := l) (f := f) (ns := ns) hi
    rw [show ns.length + (k - ns.length) = k by omega, hk] at e
    rw [Option.some.inj e]
    have ht := tAt_bd hb (k - ns.length + 1) hi
    refine en_step (by omega) ?_ hb hi hpl (by rw [hg]; exact fA_look hb hi hl)
    have e2 : (lbE bs l ns f).take k = ntsE f ns.reverse ++ stsL bs l (k - ns.length) := by
      unfold lbE
      rw [List.take_append, nts_len, List.length_reverse, List.take_of_length_le (by rw [nts_len, List.length_reverse]; omega), sts_take (by omega)]
    rw [e2, tsP_app, tsP_nts, tsP_sts, List.nil_append]
end
theorem half_wd {w : Int} (h : 0 ≤ w ∧ w ≤ 255) : (0 ≤ w.tdiv 2 ∧ w.tdiv 2 ≤ 255) ∧ w.tdiv 2 ≤ w := by
  rw [Int.tdiv_eq_ediv_of_nonneg h.1]; omega
end Go.Proofs.Ytdjflomhaljljaa

namespace Go.Proofs.Ytdjflomhaljljaa
open Go.SL Go.Proofs Go.Cast
set_option linter.unusedVariables false

section
variable {s : Sp} {l : List EnP} {o : OfM} {n : Nat} {w : World}
theorem Score_p {P : List Tal} (h : PlB s l o n) (hn : n ≤ 256) (hT : talsP s (l.take n) = P) (hh : Has w (offR o)) : Calls Try.prog 41 #[ptrN o.b] w fun e w' => ∃ x : Option Addr × Nat, True ∧ e = .returned (.slice x.1 P.length x.2) ∧ St (bs w) [own 112 7 x.1 x.2 (P.map Tal.cells)] w' := by
  have z := Score_c o w ⟨h.a.sim.wf.n.1, by have := h.a.sim.wf.n.2; omega⟩ (by have := h.a.tsl; omega) (h.a.sim.inc.imp Int.le_of_lt) h.a.lvl (by have := h.a.csl; omega) h.a.cnum (by have := h.a.lgl; omega) h.a.reg h.ok hh
  rw [h.tals, hT] at z; exact z
theorem Cases_p (h : PlB s l o n) (hn : n ≤ 256) (hh : Has w (offR o)) : Calls Try.prog 22 #[ptrN o.b] w fun e w' => ∃ x : Option Addr × Nat, True ∧ e = .returned (.slice x.1 (csF s.hold s.regs.length (stP s (l.take n))).length x.2) ∧ St (bs w) [own 64 5 x.1 x.2 ((csF s.hold s.regs.length (stP s (l.take n))).map csC)] w' := by
  have z := Cases_c o w (by have := h.a.sim.wf.n.2; omega) h.a.sim.wf.n.1 (by have := h.a.csl; omega) hh
  rw [cs_C, h.a.cs, show o.cs.length = (csF s.hold s.regs.length (stP s (l.take n))).length by rw [← h.a.cs, List.length_map]] at z; exact z
theorem Levels_p (h : PlB s l o n) (hn : n ≤ 256) (hh : Has w (offR o)) : Calls Try.prog 24 #[ptrN o.b] w fun e w' => ∃ x : Option Addr × Nat, True ∧ e = .returned (.slice x.1 ((List.range s.regs.length).map fun k => lvS s.hold k (stP s (l.take n))).length x.2) ∧ St (bs w) [own 3 1 x.1 x.2 (((List.range s.regs.length).map fun k => lvS s.hold k (stP s (l.take n))).map iC)] w' := by
  have z := Levels_c o w (by have := h.a.sim.wf.n.2; omega) h.a.sim.wf.n.1 (fun r hr => by have := h.a.lvl r hr; have := h.a.tsl; omega) hh
  rw [h.a.levels] at z; exact z
theorem Log_p (h : PlB s l o n) (hn : n ≤ 256) (hh : Has w (offR o)) : Calls Try.prog 32 #[ptrN o.b] w fun e w' => ∃ x : (Option Addr × Nat) × List EnM, x.2.map EnM.p = (l.take n).map EnP.canon ∧ e = .returned (.slice x.1.1 x.2.length x.1.2) ∧ St (bs w) [own 169 9 x.1.1 x.1.2 (x.2.map EnM.cells), bagD (x.2.flatMap EnM.res)] w' := by
  have z := Log_c o w (by have := h.a.sim.wf.n.2; omega) h.a.sim.wf.n.1 (by have := h.a.lgl; omega) h.a.ok hh
  rw [h.a.lg] at z; exact z
end
/-- What a log read back is: it can be played. -/
theorem log_of {s : Sp} {l : List EnP} {o : OfM} {n : Nat} {w : World} {p : Option Addr} {c : Nat} {xs : List EnM} (h : PlB s l o n) (hp : xs.map EnM.p = (l.take n).map EnP.canon) (h1 : (own 169 9 p c (xs.map EnM.cells)).inv w) (h2 : (bagD (xs.flatMap EnM.res)).inv w) : LogM w p xs :=
  log_frame (o := o) (by rw [hp, h.a.lg]) h.a.ok h1 h2
theorem Play_p (g : Grid) (rgs : List RG) (pg : Option Addr) (cg : Nat) (a b d : Int) (s : Sp) (log : List EnM) (pl : Option Addr) (cl : Nat) (LA : List EnP) (fl : List Ev) (w : World) (hL : log.map EnM.p = LA) (hfl : evP s LA LA.length = fl) (hse : s = ⟨g, rgs.map RG.r, a, b, d⟩) (hs : specE s = 0) (hrl : rgs.length < 1000000000000) (hrg : Regs w pg rgs) (hll : log.length ≤ 256) (hl : LogM w pl log) (hall : ∀ (k : Nat) (x : EnP), LA[k]? = some x → enE s (LA.take k) x = 0) :
    Calls Try.prog 33 #[specV g pg rgs.length cg a b d, .slice pl log.length cl] w fun e w' => ∃ y : PlY, (PlB s LA y.o LA.length ∧ y.es = fl) ∧ e = .returned (.tuple #[ptrN y.o.b, .slice y.pe y.es.length y.ce, .int .i64 0]) ∧ St (bs w) (offR y.o ++ [own 62 7 y.pe y.ce (y.es.map evC)]) w' := by
  subst hL hfl
  have z := Play_b g rgs pg cg a b d s log pl cl w hse hs hrl hrg hll hl (fun k x hx => hall k x.p (by rw [List.getElem?_map, hx]; rfl))
  rw [List.length_map]
  exact z
end Go.Proofs.Ytdjflomhaljljaa
