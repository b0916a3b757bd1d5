/-
  The tally of a region is walked.
  (and more)
-/
import Derived.Test.YtdjflomhaljljaaGreatKKRUN06

set_option maxRecDepth 20000
set_option maxHeartbeats 8000000
namespace Go.Proofs.YtdjflomhaljljaaGreat
open Go.SL Go.Proofs Go.Cast
set_option linter.unusedVariables false
theorem Z146 : ZeroOf Tryz.prog 146 (.agg #[.int .i64 0, .int .i64 0, .int .i64 0, .int .i64 0, .int .i64 0, .int .i64 0, .int .i64 0]) := by unfold ZeroOf; kernel_rfl
theorem S169 : IsSlice Tryz.prog 169 112 := Tryz.underlying169
theorem N112 : (Tryz.prog.info? 112).map (·.size) = some 8 := by kernel_rfl
theorem Z112 : ZeroOf Tryz.prog 112 (.agg #[.int .i64 0, .int .i64 0, .int .i64 0, .int .i64 0, .int .i64 0, .int .i64 0, .slice none 0 0, .int .i64 0]) := by unfold ZeroOf; kernel_rfl
theorem C88 : IsFn Tryz.prog 88 := ⟨_, Tryz.func88, by decide, rfl⟩
theorem F146_0 : FieldAt Tryz.prog 146 0 0 := ⟨_,_, Tryz.underlying146, rfl, rfl, 0, by kernel_rfl⟩
theorem F120_1 : FieldAt Tryz.prog 120 1 1 := ⟨_,_, Tryz.underlying120, rfl, rfl, 0, by kernel_rfl⟩
theorem F120_2 : FieldAt Tryz.prog 120 2 2 := ⟨_,_, Tryz.underlying120, rfl, rfl, 0, by kernel_rfl⟩
theorem F146_1 : FieldAt Tryz.prog 146 1 1 := ⟨_,_, Tryz.underlying146, rfl, rfl, 0, by kernel_rfl⟩
theorem F146_4 : FieldAt Tryz.prog 146 4 4 := ⟨_,_, Tryz.underlying146, rfl, rfl, 0, by kernel_rfl⟩
theorem F146_2 : FieldAt Tryz.prog 146 2 2 := ⟨_,_, Tryz.underlying146, rfl, rfl, 0, by kernel_rfl⟩
theorem F146_3 : FieldAt Tryz.prog 146 3 3 := ⟨_,_, Tryz.underlying146, rfl, rfl, 0, by kernel_rfl⟩
theorem A146 : IsAgg Tryz.prog 146 7 := ⟨⟨_, Tryz.underlying146, rfl⟩, by kernel_rfl⟩
theorem N146 : (Tryz.prog.info? 146).map (·.size) = some 7 := by kernel_rfl
theorem F146_5 : FieldAt Tryz.prog 146 5 5 := ⟨_,_, Tryz.underlying146, rfl, rfl, 1, by kernel_rfl⟩
theorem cnt_le {pix : List Int} {on : Int → Bool} {ns : List Nt} {x : Tal} (h : CntT pix on ns x) : (0 ≤ x.h ∧ x.h ≤ ns.length) ∧ (0 ≤ x.m ∧ x.m ≤ ns.length) ∧ (0 ≤ x.o ∧ x.o ≤ ns.length) ∧ (0 ≤ x.a ∧ x.a ≤ ns.length) ∧ (0 ≤ x.q ∧ x.q ≤ ns.length) := by
  obtain ⟨h0, h1, h2, h3, h4⟩ := h
  rw [h0, h1, h2, h3, h4]
  exact ⟨cntK_le, cntK_le, cntK_le, cntK_le, cntK_le⟩
section
variable {pix : List Int} {on : Int → Bool} {n : NtM} {c : CsM} {k : Int}
theorem kN_0 (h : hitB pix n.vs n.lv = true ∧ on n.t = true) : kNt pix on n.n = 0 := by
  unfold kNt kN; show (if (hitB pix n.vs n.lv && on n.t) = true then 0 else _) = 0; rw [h.1, h.2]; rfl
theorem kN_1 (h : ¬ (hitB pix n.vs n.lv = true ∧ on n.t = true)) (h1 : hitB pix n.vs n.lv = true) : kNt pix on n.n = 1 := by
  unfold kNt; show kN (hitB pix n.vs n.lv) (canB pix n.vs n.lv) (on n.t) = 1
  rw [h1] at h ⊢; cases q : on n.t with
  | true => exact absurd ⟨rfl, q⟩ h
  | false => cases canB pix n.vs n.lv <;> rfl
theorem kN_2 (h : ¬ (hitB pix n.vs n.lv = true ∧ on n.t = true)) (h1 : ¬ hitB pix n.vs n.lv = true) (h2 : canB pix n.vs n.lv = true) : kNt pix on n.n = 2 := by
  unfold kNt; show kN (hitB pix n.vs n.lv) (canB pix n.vs n.lv) (on n.t) = 2
  rw [h2, Bool.eq_false_iff.2 h1]; cases on n.t <;> rfl
theorem kN_3 (h : ¬ (hitB pix n.vs n.lv = true ∧ on n.t = true)) (h1 : ¬ hitB pix n.vs n.lv = true) (h2 : ¬ canB pix n.vs n.lv = true) (h3 : on n.t = true) : kNt pix on n.n = 3 := by
  unfold kNt; show kN (hitB pix n.vs n.lv) (canB pix n.vs n.lv) (on n.t) = 3
  rw [h3, Bool.eq_false_iff.2 h1, Bool.eq_false_iff.2 h2]; rfl
theorem kN_4 (h : ¬ (hitB pix n.vs n.lv = true ∧ on n.t = true)) (h1 : ¬ hitB pix n.vs n.lv = true) (h2 : ¬ canB pix n.vs n.lv = true) (h3 : ¬ on n.t = true) : kNt pix on n.n = 4 := by
  unfold kNt; show kN (hitB pix n.vs n.lv) (canB pix n.vs n.lv) (on n.t) = 4
  rw [Bool.eq_false_iff.2 h3, Bool.eq_false_iff.2 h1, Bool.eq_false_iff.2 h2]; rfl
theorem inC_of (h : ((hitB pix n.vs n.lv = true ∧ c.rg = k) ∧ c.bg ≤ n.t) ∧ n.t < c.en) : inC pix c.p n.n = true := by
  unfold inC; show ((hitB pix n.vs n.lv && decide (c.bg ≤ n.t)) && decide (n.t < c.en)) = true
  rw [h.1.1.1, decide_eq_true h.1.2, decide_eq_true h.2]; rfl
theorem inC_to (hr : c.p.rg = k) (h : inC pix c.p n.n = true) : ((hitB pix n.vs n.lv = true ∧ c.rg = k) ∧ c.bg ≤ n.t) ∧ n.t < c.en := by
  unfold inC at h
  simp only [Bool.and_eq_true, decide_eq_true_eq] at h
  exact ⟨⟨⟨h.1.1, hr⟩, h.1.2⟩, h.2⟩
theorem upd_of {m f : Option Int} {v : Int} (h : m = f) (k : (¬ m.isSome = true) ∨ v < m.getD 0) : f = none ∨ ∃ u, f = some u ∧ v < u := by
  subst h
  cases m with
  | none => exact .inl rfl
  | some u => rcases k with q | q; (· exact absurd rfl q); (· exact .inr ⟨u, rfl, q⟩)
theorem same_of {m f : Option Int} {v : Int} (h : m = f) (k : ¬ ((¬ m.isSome = true) ∨ v < m.getD 0)) : ∃ u, f = some u ∧ u ≤ v := by
  subst h
  cases m with
  | none => exact absurd (.inl (fun q => by cases q)) k
  | some u => exact ⟨u, rfl, by have : ¬ v < u := fun q => k (.inr q); omega⟩
end
theorem score_c (o : OfM) (r : RcM) (ns : List NtM) (p : Option Addr) (c : Nat) (on : Int → Bool) (w : World) (hr : r ∈ o.rc) (hlv : r.lv.length = o.ts.length) (hn : o.ts.length < 1000000) (hs : o.ts.Pairwise (· ≤ ·)) (hcl : o.cs.length < 1000000000) (hcn : ∀ (j : Nat) (c : CsM), o.cs[j]? = some c → c.nm = (j : Int) + 1 ∧ 0 ≤ c.bg) (hnl : ns.length < 1000000000) (hpl : r.x.r.pix.length < 1000000000000) (hon : ∀ t, on t = !decide (atLv o.ts r.lv t = 0)) (hnt : ∀ n, n ∈ ns → (0 ≤ n.t ∧ n.t ≤ 4294967296) ∧ Spans w n.p n.vs ∧ ∀ p, p ∈ r.x.r.pix → 0 ≤ p ∧ p < (n.vs.length : Int)) (hx : Ints w r.x.px r.x.r.pix) (hh : Has w (offR o)) (hN : RO 8 NtM.cells w p ns) :
 Calls Tryz.prog 70 #[ptrN o.b, ptrN r.b, .slice p ns.length c] w fun e w' => e = .returned (.agg (talF r.i r.x.r.pix on (o.cs.map CsM.p) (ns.map NtM.n)).cells.toArray) ∧ St (bs w) [] w' := by
 have hcr : RO 1 csP w o.pk o.cs := RO.of_own hh 6 rfl
 obtain ⟨NS, hNS⟩ : ∃ l, l = ns.map NtM.n := ⟨_, rfl⟩
 obtain ⟨CS, hCS⟩ : ∃ l, l = o.cs.map CsM.p := ⟨_, rfl⟩
 have hNL : NS.length = ns.length := by rw [hNS, List.length_map]
 have hCL : CS.length = o.cs.length := by rw [hCS, List.length_map]
 rw [← hNS, ← hCS]
 refine enter (vs := [_,_,_]) (env := [(0,_), (1,_), (2,_)]) Tryz.func70 rfl rfl rfl rfl ?_
 refine VC.q (VO.h rfl<|HO.alloc (C := #[_,_,_,_,_,_,_]) Z146 rfl fun b1 => VO.n<|VC.q (VO.h rfl<|HO.alloc (C := #[_,_,_,_,_,_,_]) Z146 rfl fun b2 => VO.n<|VC.q (VO.h rfl<|HO.mkmapI fun b3 => VO.h rfl<|HO.lo (LO.as (.r rfl))<|VO.n<|VC.seq<|VC.q (VO.m rfl rfl<|VO.l (LO.len S169 (.r rfl) rfl) rfl<|VO.m rfl rfl<|VO.n ?_))))
 refine VC.block<|VC.perm [1,0,2] rfl<|VC.loopK (α := Nat × Tal × (Array MapEntry) × Nat) 2 (fun gx => [(24, .int .i64 (gx.1 : Nat))]) [(0,_), (1,_), (6,_), (7,_), (8,_), (22,_), (23,_)] (fun gx => [blk b2 (.cells #[.int .i64 gx.2.1.h, .int .i64 gx.2.1.m, .int .i64 gx.2.1.a, .int .i64 gx.2.1.q, .int .i64 gx.2.1.o, .int .i64 0, .int .i64 0] 146), blk b3 (.map gx.2.2.1 gx.2.2.2)]) (fun gx => gx.1 ≤ ns.length ∧ CntT r.x.r.pix on (NS.take gx.1) gx.2.1 ∧ MapE gx.2.2.1.toList (mapF r.i r.x.r.pix CS NS gx.1 0) ∧ Stamps gx.2.2.1.toList gx.2.2.2) (fun gx => ns.length - gx.1) (0, (⟨0,0,0,0,0,0,0⟩ : Tal), #[], 0) (by exact ⟨Nat.zero_le _, ⟨rfl, rfl, rfl, rfl, rfl⟩, by rw [mapF_0]; exact mapE_nil, by simp [Stamps]⟩) (.c4 rfl rfl rfl rfl (.c4 rfl rfl rfl rfl .nil)) (fun _ h => h) ?_
 rintro ⟨i, T, es, ck⟩ ⟨hi, hT, hE, hSt⟩
 show VC _ _ _ _ _ ([(24, .int .i64 (i : Nat))] ++ _) ([blk b2 (.cells #[.int .i64 T.h, .int .i64 T.m, .int .i64 T.a, .int .i64 T.q, .int .i64 T.o, .int .i64 0, .int .i64 0] 146), blk b3 (.map es ck)] ++ _) _ _
 dsimp only at hi hT hE hSt
 refine VC.q (VO.t rfl rfl rfl<|VO.n<|VC.seq<|VC.cond rfl (fun h25 => ?_) (fun h25 => ?_))
 ·
  obtain ⟨nx, hnx⟩ : ∃ x, ns[i]? = some x := ⟨_, List.getElem?_eq_getElem (by omega)⟩
  have hnm := List.mem_of_getElem? hnx
  have hntb := (hnt nx hnm).1
  have hNx : NS[i]? = some nx.n := by rw [hNS, List.getElem?_map, hnx]; rfl
  have hNT : NS.take (i + 1) = NS.take i ++ [nx.n] := by rw [List.take_add_one, hNx]; rfl
  have hTl := cnt_le hT
  have hTl2 : (NS.take i).length ≤ NS.length := by rw [List.length_take]; omega
  refine VC.skip (VE.seqN<|VC.seq<|VC.block<|VC.q (VO.l (LO.ixs S169 N112 hN.sm (.r rfl) (.r rfl) rfl (by omega)) rfl<|VO.l (LO.lda (vs := [_,_,_,_,_,_,_,_]) A112 (.r rfl) (fun w hw => cells_part (off := 0) ((fun w2 hw2 => (hN.keep w2 hw2).cells _ _ (by rw [List.getElem?_map, hnx]; rfl)) w hw) ⟨_, rfl⟩) rfl) rfl<|VO.h rfl<|HO.alloc (C := #[_,_,_,_,_,_,_,_]) Z112 rfl fun b4 => VO.h0<|HO.st 0 (vs := [_,_,_,_,_,_,_,_]) (C' := [_,_,_,_,_,_,_,_]) (L' := [_,_,_,_]) N112 rfl rfl rfl rfl rfl rfl rfl rfl<|VO.n<|VC.seq<|VC.draw mixed (LL.l (LO.lda (vs := [_,_,_,_,_,_,_,_]) A112 (.r rfl) (cells_blk 0 rfl ⟨_, rfl⟩) rfl) rfl<|LL.m rfl rfl<|LL.l (LO.nc (.r rfl)) rfl<|LL.l (LO.fa (r := 0) F98_0 (.r rfl) rfl) rfl<|LL.l (LO.lda (vs := [_,_]) A74 (.r rfl) (cells_keep (sub_cells (off := 0) (rec_read hh hr).1 ⟨_, rfl⟩)) rfl) rfl<|LL.l (LO.call (xs := [_,_]) (vs := [_,_]) C88 ⟨(.r rfl), (.r rfl), trivial⟩ (fun w2 hw2 => hit_c nx r.x w2 ((hnt nx hnm).2.1.keep w2 hw2) (Go.SL.Rows.keep hx w2 hw2) hpl (hnt nx hnm).2.2)) rfl<|LL.m rfl rfl<|LL.l (LO.ex (.r rfl) rfl) rfl<|LL.l (LO.ex (.r rfl) rfl) rfl<|LL.l (LO.as (.r rfl)) rfl<|LL.l (LO.as (.r rfl)) rfl<|LL.nil) (by kernel_rfl)<|VE.seqN<|VC.q (VO.m rfl rfl<|VO.m rfl rfl<|VO.f (r := 0) F112_0 rfl rfl rfl<|VO.c 0 O3 rfl rfl ⟨_, rfl⟩ rfl<|VO.l (LO.call (xs := [_,_,_]) (vs := [_,_,_]) C72 ⟨(.r rfl), (.r rfl), (.r rfl), trivial⟩ (fun w2 hw2 => at_o o r nx.t w2 hr hlv hn hs (hh.keep hw2))) rfl<|VO.u rfl rfl rfl<|VO.a rfl rfl<|VO.nil ?_)))
  rw [show (!decide (atLv o.ts r.lv nx.t = 0)) = on nx.t from (hon nx.t).symm]
  refine VE.seqN<|VC.seq<|VC.block<|VC.q (VO.m rfl rfl<|VO.m rfl rfl<|VO.gt rfl rfl (fun hg => LO.mv (.r rfl)) rfl<|VO.l (LO.pkA (.r rfl) rfl rfl (.r rfl)) rfl<|VO.a rfl rfl<|VO.n<|VC.cond rfl (fun h47 => ?_) (fun h47 => ?_))
  ·
   refine VC.reg (VO.f (r := 0) F146_0 rfl rfl rfl<|VO.c 1 O3 rfl rfl ⟨_, rfl⟩ rfl<|VO.p rfl rfl (by omega) (by omega) rfl<|VO.f (r := 0) F146_0 rfl rfl rfl<|VO.h0<|HO.st 1 (vs := [_]) (C' := [_,_,_,_,_,_,_]) (L' := [_,_,_,_]) N3 rfl rfl rfl rfl rfl rfl rfl rfl<|VO.nil<|VE.inN (VE.seqN<|VC.q (VO.m rfl rfl<|VO.l (LO.nc (.r rfl)) rfl<|VO.f (r := 11) F92_3 rfl rfl rfl<|VO.l (LO.ld O89 (.r rfl) (cells_keep (sub_cells (off := 11) (off_cells hh) ⟨_, rfl⟩))) rfl<|VO.l (LO.len S89 (.r rfl) rfl) rfl<|VO.m rfl rfl<|VO.n<|VC.block<|VC.perm [2,0,1,3] rfl<|VC.loopK (α := Nat × (Array MapEntry) × Nat) 1 (fun gx => [(79, .int .i64 (gx.1 : Nat))]) [(0,_), (1,_), (6,_), (7,_), (8,_), (10,_), (11,_), (22,_), (23,_), (24,_), (77,_), (78,_)] (fun gx => [blk b3 (.map gx.2.1 gx.2.2)]) (fun gx => gx.1 ≤ o.cs.length ∧ MapE gx.2.1.toList (mapF r.i r.x.r.pix CS NS i gx.1) ∧ Stamps gx.2.1.toList gx.2.2) (fun gx => o.cs.length - gx.1) (0, es, ck) (by exact ⟨Nat.zero_le _, hE, hSt⟩) (.c4 rfl rfl rfl rfl (.c4 rfl rfl rfl rfl (.c4 rfl rfl rfl rfl (.cons rfl .nil)))) (fun _ h => h) ?_)))
   rintro ⟨j, es, ck⟩ ⟨hj, hE, hSt⟩
   show VC _ _ _ _ _ ([(79, .int .i64 (j : Nat))] ++ _) ([blk b3 (.map es ck)] ++ _) _ _
   dsimp only at hj hE hSt
   refine VC.q (VO.t rfl rfl rfl<|VO.n<|VC.seq<|VC.cond rfl (fun h80 => ?_) (fun h80 => ?_))
   ·
    obtain ⟨cx, hcx⟩ : ∃ x, o.cs[j]? = some x := ⟨_, List.getElem?_eq_getElem (by omega)⟩
    have hcm := List.mem_of_getElem? hcx
    have hcb := hcn j cx hcx
    have hCx : CS[j]? = some cx.p := by rw [hCS, List.getElem?_map, hcx]; rfl
    refine VC.skip (VE.seqN<|VC.seq<|VC.block<|VC.q (VO.l (LO.ixs S89 N96 hcr.sm (.r rfl) (.r rfl) rfl (by omega)) rfl<|VO.l (LO.ld O96 (.r rfl) (fun w hw => cells_part (off := 0) ((fun w2 hw2 => (hcr.keep w2 hw2).cells _ _ (by rw [List.getElem?_map, hcx]; rfl)) w hw) ⟨_, rfl⟩)) rfl<|VO.a rfl rfl<|VO.n<|VC.seq<|VC.draw mixed (LL.m rfl rfl<|LL.m rfl rfl<|LL.gt rfl rfl (fun hg => LO.mv (.r rfl)) rfl<|LL.gt rfl rfl (fun hg => LO.nc (.g hg rfl)) rfl<|LL.gt rfl rfl (fun hg => LO.fa (r := 1) F120_1 (.g hg rfl) rfl) rfl<|LL.gt rfl rfl (fun hg => LO.ld O3 (.g hg rfl) (cells_keep (sub_cells (off := 1) (case_read hh hcm) ⟨_, rfl⟩))) rfl<|LL.gt rfl rfl (fun hg => LO.mv (.r rfl)) rfl<|LL.gt rfl rfl (fun hg => LO.nc (.g hg rfl)) rfl<|LL.gt rfl rfl (fun hg => LO.fa (r := 2) F98_1 (.g hg rfl) rfl) rfl<|LL.gt rfl rfl (fun hg => LO.ld O3 (.g hg rfl) (cells_keep (sub_cells (off := 2) (rec_read hh hr).1 ⟨_, rfl⟩))) rfl<|LL.gt rfl rfl (fun hg => LO.eq (.g hg rfl) (.g hg rfl)) rfl<|LL.l (LO.pkA (.r rfl) rfl rfl (.r rfl)) rfl<|LL.m rfl rfl<|LL.gt rfl rfl (fun hg => LO.mv (.r rfl)) rfl<|LL.gt rfl rfl (fun hg => LO.nc (.g hg rfl)) rfl<|LL.gt rfl rfl (fun hg => LO.fa (r := 2) F120_2 (.g hg rfl) rfl) rfl<|LL.gt rfl rfl (fun hg => LO.ld O3 (.g hg rfl) (cells_keep (sub_cells (off := 2) (case_read hh hcm) ⟨_, rfl⟩))) rfl<|LL.gt rfl rfl (fun hg => LO.fa (r := 0) F112_0 (.r rfl) rfl) rfl<|LL.gt rfl rfl (fun hg => LO.ld O3 (.g hg rfl) (cells_blk 1 rfl ⟨_, rfl⟩)) rfl<|LL.gt rfl rfl (fun hg => LO.le (.g hg rfl) (.g hg rfl)) rfl<|LL.l (LO.pkA (.r rfl) rfl rfl (.r rfl)) rfl<|LL.m rfl rfl<|LL.gt rfl rfl (fun hg => LO.fa (r := 0) F112_0 (.r rfl) rfl) rfl<|LL.gt rfl rfl (fun hg => LO.ld O3 (.g hg rfl) (cells_blk 1 rfl ⟨_, rfl⟩)) rfl<|LL.gt rfl rfl (fun hg => LO.mv (.r rfl)) rfl<|LL.gt rfl rfl (fun hg => LO.nc (.g hg rfl)) rfl<|LL.gt rfl rfl (fun hg => LO.fa (r := 3) F120_3 (.g hg rfl) rfl) rfl<|LL.gt rfl rfl (fun hg => LO.ld O3 (.g hg rfl) (cells_keep (sub_cells (off := 3) (case_read hh hcm) ⟨_, rfl⟩))) rfl<|LL.gt rfl rfl (fun hg => LO.lt (.g hg rfl) (.g hg rfl)) rfl<|LL.l (LO.pkA (.r rfl) rfl rfl (.r rfl)) rfl<|LL.nil) (by kernel_rfl)<|VE.seqN<|VC.cond rfl (fun h112 => ?_) (fun h112 => ?_)))
    ·
     have hic : inC r.x.r.pix cx.p nx.n = true := inC_of h112
     have hrg : cx.p.rg = (r.i : Int) := h112.1.1.2
     have hbt : cx.bg ≤ nx.t := h112.1.2
     have hat : mapF (r.i : Int) r.x.r.pix CS NS i j cx.nm = firstN r.x.r.pix cx.p (NS.take i) := by rw [hcb.1]; exact mapF_at hCx hrg
     refine VC.q (VO.m rfl rfl<|VO.m rfl rfl<|VO.l (LO.nc (.r rfl)) rfl<|VO.f (r := 0) F120_0 rfl rfl rfl<|VO.l (LO.ld O3 (.r rfl) (cells_keep (sub_cells (off := 0) (case_read hh hcm) ⟨_, rfl⟩))) rfl<|VO.l (LO.lk2 IM208 (.r rfl) (.r rfl) (fun _ hw => ⟨es, ck, St.inv hw 0 _ rfl, hE⟩)) rfl<|VO.m rfl rfl<|VO.l (LO.ex (.r rfl) rfl) rfl<|VO.l (LO.ex (.r rfl) rfl) rfl<|VO.a rfl rfl<|VO.a rfl rfl<|VO.n<|VC.seq<|VC.draw mixed (LL.m rfl rfl<|LL.l (LO.not (.r rfl)) rfl<|LL.m rfl rfl<|LL.gf rfl rfl (fun hg => LO.fa (r := 0) F112_0 (.r rfl) rfl) rfl<|LL.gf rfl rfl (fun hg => LO.ld O3 (.g hg rfl) (cells_blk 1 rfl ⟨_, rfl⟩)) rfl<|LL.gf rfl rfl (fun hg => LO.mv (.r rfl)) rfl<|LL.gf rfl rfl (fun hg => LO.nc (.g hg rfl)) rfl<|LL.gf rfl rfl (fun hg => LO.fa (r := 2) F120_2 (.g hg rfl) rfl) rfl<|LL.gf rfl rfl (fun hg => LO.ld O3 (.g hg rfl) (cells_keep (sub_cells (off := 2) (case_read hh hcm) ⟨_, rfl⟩))) rfl<|LL.gf rfl rfl (fun hg => LO.sub (.g hg rfl) (.g hg rfl) (wi (by omega) (by omega))) rfl<|LL.gf rfl rfl (fun hg => LO.mv (.r rfl)) rfl<|LL.gf rfl rfl (fun hg => LO.lt (.g hg rfl) (.g hg rfl)) rfl<|LL.l (LO.pkO (.r rfl) (.r rfl) rfl rfl) rfl<|LL.nil) (by kernel_rfl)<|VE.seqN<|VC.cond rfl (fun h134 => ?_) (fun h134 => ?_))
     ·
      have hupd := mapF_upd (k := (r.i : Int)) hCx hNx hrg hic (upd_of hat h134)
      refine VC.drawH [[0,1,2,3], [1,2,3]] [some 0, some 0, some 0, some 0, some 0, some 0, some 0, some 0, some 0, some 0, some 0, some 0, none] mixed (by kernel_rfl) rfl (LX.m rfl rfl<|LX.m rfl rfl<|LX.l (fun _ hJ => LO.nc (.r rfl)) rfl<|LX.l (fun _ hJ => LO.fa (r := 0) F120_0 (.r rfl) rfl) rfl<|LX.l (fun _ hJ => LO.ld O3 (.r rfl) (cells_keep (sub_cells (off := 0) (case_read hh hcm) ⟨_, rfl⟩))) rfl<|LX.l (fun _ hJ => LO.fa (r := 0) F112_0 (.r rfl) rfl) rfl<|LX.l (fun _ hJ => LO.ld O3 (.r rfl) (fun _ hw => cells_at (hJ _ hw) 1 rfl ⟨_, rfl⟩)) rfl<|LX.m rfl rfl<|LX.l (fun _ hJ => LO.nc (.r rfl)) rfl<|LX.l (fun _ hJ => LO.fa (r := 2) F120_2 (.r rfl) rfl) rfl<|LX.l (fun _ hJ => LO.ld O3 (.r rfl) (cells_keep (sub_cells (off := 2) (case_read hh hcm) ⟨_, rfl⟩))) rfl<|LX.l (fun _ hJ => LO.sub (.r rfl) (.r rfl) (wi (by omega) (by omega))) rfl<|LX.s<|LX.nil) (HX.s<|HX.s<|HX.s<|HX.s<|HX.s<|HX.s<|HX.s<|HX.s<|HX.s<|HX.s<|HX.s<|HX.s<|HX.h0<|HO.mupI 0 (fun R => [R,_,_,_]) IM208 (.r rfl) (.r rfl) (.r rfl) rfl hE hSt (fun _ => rfl) fun es2 ck2 hE2 hSt2 => ⟨fun _ hw => hw.sel [1,2,3] rfl, HX.nil ?_⟩)
      refine VE.inN (VE.seqN<|VC.reg (VO.p rfl rfl (by omega) (by omega) rfl<|VO.m rfl rfl<|VO.nil<|VE.thenN fun a w ha hw => ⟨(j + 1, es2, ck2), ⟨by dsimp only; omega, by dsimp only; rw [hupd]; rw [hcb.1] at hE2; exact hE2, hSt2⟩, (by dsimp only; omega), ha.sub (.c4 rfl rfl rfl rfl (.c4 rfl rfl rfl rfl (.c4 rfl rfl rfl rfl (.cons rfl .nil)))), (by exact selK (L1 := [_,_,_,_]) [0,1,2,3] rfl rfl _ hw)⟩))
     ·
      obtain ⟨u, hu1, hu2⟩ := same_of hat h134
      have hsame := mapF_same (k := (r.i : Int)) hCx hNx hrg hic hu1 hu2
      refine VC.skip (VE.inN (VE.seqN<|VC.reg (VO.p rfl rfl (by omega) (by omega) rfl<|VO.m rfl rfl<|VO.nil<|VE.thenN fun a w ha hw => ⟨(j + 1, es, ck), ⟨by dsimp only; omega, by dsimp only; rw [hsame]; exact hE, hSt⟩, (by dsimp only; omega), ha.sub (.c4 rfl rfl rfl rfl (.c4 rfl rfl rfl rfl (.c4 rfl rfl rfl rfl (.cons rfl .nil)))), (by exact selK (L1 := [_,_,_,_]) [0,1,2,3] rfl rfl _ hw)⟩)))
    ·
     have hskip := mapF_skip (k := (r.i : Int)) (pix := r.x.r.pix) hCx hNx (fun q => h112 (inC_to q.1 q.2))
     refine VC.skip (VE.inN (VE.seqN<|VC.reg (VO.p rfl rfl (by omega) (by omega) rfl<|VO.m rfl rfl<|VO.nil<|VE.thenN fun a w ha hw => ⟨(j + 1, es, ck), ⟨by dsimp only; omega, by dsimp only; rw [hskip]; exact hE, hSt⟩, (by dsimp only; omega), ha.sub (.c4 rfl rfl rfl rfl (.c4 rfl rfl rfl rfl (.c4 rfl rfl rfl rfl (.cons rfl .nil)))), (by exact selK (L1 := [_,_,_,_]) [0,1,2,3] rfl rfl _ hw)⟩)))
   ·
    have hje : j = CS.length := by omega
    rw [hje, mapF_next] at hE
    refine VC.exit (VE.thenX (VE.thenX (VE.inX (VE.inN (VE.seqN<|VC.reg (VO.p rfl rfl (by omega) (by omega) rfl<|VO.m rfl rfl<|VO.nil<|VE.thenN fun a w ha hw => ⟨(i + 1, (bump 0 T), es, ck), ⟨by dsimp only; omega, by dsimp only; rw [hNT]; exact cnt_bump hT (kN_0 h47), hE, hSt⟩, (by dsimp only; omega), ha.sub (.c4 rfl rfl rfl rfl (.c4 rfl rfl rfl rfl .nil)), (by exact selK (L1 := [_,_,_]) [2,0,3] rfl rfl _ hw)⟩))))))
  ·
   refine VC.q (VO.m rfl rfl<|VO.a rfl rfl<|VO.n<|VC.cond rfl (fun h56 => ?_) (fun h56 => ?_))
   ·
    refine VC.reg (VO.f (r := 1) F146_1 rfl rfl rfl<|VO.c 1 O3 rfl rfl ⟨_, rfl⟩ rfl<|VO.p rfl rfl (by omega) (by omega) rfl<|VO.f (r := 1) F146_1 rfl rfl rfl<|VO.h0<|HO.st 1 (vs := [_]) (C' := [_,_,_,_,_,_,_]) (L' := [_,_,_,_]) N3 rfl rfl rfl rfl rfl rfl rfl rfl<|VO.nil<|VE.inN (VE.seqN<|VC.q (VO.m rfl rfl<|VO.l (LO.nc (.r rfl)) rfl<|VO.f (r := 11) F92_3 rfl rfl rfl<|VO.l (LO.ld O89 (.r rfl) (cells_keep (sub_cells (off := 11) (off_cells hh) ⟨_, rfl⟩))) rfl<|VO.l (LO.len S89 (.r rfl) rfl) rfl<|VO.m rfl rfl<|VO.n<|VC.block<|VC.perm [2,0,1,3] rfl<|VC.loopK (α := Nat × (Array MapEntry) × Nat) 1 (fun gx => [(79, .int .i64 (gx.1 : Nat))]) [(0,_), (1,_), (6,_), (7,_), (8,_), (10,_), (11,_), (22,_), (23,_), (24,_), (77,_), (78,_)] (fun gx => [blk b3 (.map gx.2.1 gx.2.2)]) (fun gx => gx.1 ≤ o.cs.length ∧ MapE gx.2.1.toList (mapF r.i r.x.r.pix CS NS i gx.1) ∧ Stamps gx.2.1.toList gx.2.2) (fun gx => o.cs.length - gx.1) (0, es, ck) (by exact ⟨Nat.zero_le _, hE, hSt⟩) (.c4 rfl rfl rfl rfl (.c4 rfl rfl rfl rfl (.c4 rfl rfl rfl rfl (.cons rfl .nil)))) (fun _ h => h) ?_)))
    rintro ⟨j, es, ck⟩ ⟨hj, hE, hSt⟩
    show VC _ _ _ _ _ ([(79, .int .i64 (j : Nat))] ++ _) ([blk b3 (.map es ck)] ++ _) _ _
    dsimp only at hj hE hSt
    refine VC.q (VO.t rfl rfl rfl<|VO.n<|VC.seq<|VC.cond rfl (fun h80 => ?_) (fun h80 => ?_))
    ·
     obtain ⟨cx, hcx⟩ : ∃ x, o.cs[j]? = some x := ⟨_, List.getElem?_eq_getElem (by omega)⟩
     have hcm := List.mem_of_getElem? hcx
     have hcb := hcn j cx hcx
     have hCx : CS[j]? = some cx.p := by rw [hCS, List.getElem?_map, hcx]; rfl
     refine VC.skip (VE.seqN<|VC.seq<|VC.block<|VC.q (VO.l (LO.ixs S89 N96 hcr.sm (.r rfl) (.r rfl) rfl (by omega)) rfl<|VO.l (LO.ld O96 (.r rfl) (fun w hw => cells_part (off := 0) ((fun w2 hw2 => (hcr.keep w2 hw2).cells _ _ (by rw [List.getElem?_map, hcx]; rfl)) w hw) ⟨_, rfl⟩)) rfl<|VO.a rfl rfl<|VO.n<|VC.seq<|VC.draw mixed (LL.m rfl rfl<|LL.m rfl rfl<|LL.gt rfl rfl (fun hg => LO.mv (.r rfl)) rfl<|LL.gt rfl rfl (fun hg => LO.nc (.g hg rfl)) rfl<|LL.gt rfl rfl (fun hg => LO.fa (r := 1) F120_1 (.g hg rfl) rfl) rfl<|LL.gt rfl rfl (fun hg => LO.ld O3 (.g hg rfl) (cells_keep (sub_cells (off := 1) (case_read hh hcm) ⟨_, rfl⟩))) rfl<|LL.gt rfl rfl (fun hg => LO.mv (.r rfl)) rfl<|LL.gt rfl rfl (fun hg => LO.nc (.g hg rfl)) rfl<|LL.gt rfl rfl (fun hg => LO.fa (r := 2) F98_1 (.g hg rfl) rfl) rfl<|LL.gt rfl rfl (fun hg => LO.ld O3 (.g hg rfl) (cells_keep (sub_cells (off := 2) (rec_read hh hr).1 ⟨_, rfl⟩))) rfl<|LL.gt rfl rfl (fun hg => LO.eq (.g hg rfl) (.g hg rfl)) rfl<|LL.l (LO.pkA (.r rfl) rfl rfl (.r rfl)) rfl<|LL.m rfl rfl<|LL.gt rfl rfl (fun hg => LO.mv (.r rfl)) rfl<|LL.gt rfl rfl (fun hg => LO.nc (.g hg rfl)) rfl<|LL.gt rfl rfl (fun hg => LO.fa (r := 2) F120_2 (.g hg rfl) rfl) rfl<|LL.gt rfl rfl (fun hg => LO.ld O3 (.g hg rfl) (cells_keep (sub_cells (off := 2) (case_read hh hcm) ⟨_, rfl⟩))) rfl<|LL.gt rfl rfl (fun hg => LO.fa (r := 0) F112_0 (.r rfl) rfl) rfl<|LL.gt rfl rfl (fun hg => LO.ld O3 (.g hg rfl) (cells_blk 1 rfl ⟨_, rfl⟩)) rfl<|LL.gt rfl rfl (fun hg => LO.le (.g hg rfl) (.g hg rfl)) rfl<|LL.l (LO.pkA (.r rfl) rfl rfl (.r rfl)) rfl<|LL.m rfl rfl<|LL.gt rfl rfl (fun hg => LO.fa (r := 0) F112_0 (.r rfl) rfl) rfl<|LL.gt rfl rfl (fun hg => LO.ld O3 (.g hg rfl) (cells_blk 1 rfl ⟨_, rfl⟩)) rfl<|LL.gt rfl rfl (fun hg => LO.mv (.r rfl)) rfl<|LL.gt rfl rfl (fun hg => LO.nc (.g hg rfl)) rfl<|LL.gt rfl rfl (fun hg => LO.fa (r := 3) F120_3 (.g hg rfl) rfl) rfl<|LL.gt rfl rfl (fun hg => LO.ld O3 (.g hg rfl) (cells_keep (sub_cells (off := 3) (case_read hh hcm) ⟨_, rfl⟩))) rfl<|LL.gt rfl rfl (fun hg => LO.lt (.g hg rfl) (.g hg rfl)) rfl<|LL.l (LO.pkA (.r rfl) rfl rfl (.r rfl)) rfl<|LL.nil) (by kernel_rfl)<|VE.seqN<|VC.cond rfl (fun h112 => ?_) (fun h112 => ?_)))
     ·
      have hic : inC r.x.r.pix cx.p nx.n = true := inC_of h112
      have hrg : cx.p.rg = (r.i : Int) := h112.1.1.2
      have hbt : cx.bg ≤ nx.t := h112.1.2
      have hat : mapF (r.i : Int) r.x.r.pix CS NS i j cx.nm = firstN r.x.r.pix cx.p (NS.take i) := by rw [hcb.1]; exact mapF_at hCx hrg
      refine VC.q (VO.m rfl rfl<|VO.m rfl rfl<|VO.l (LO.nc (.r rfl)) rfl<|VO.f (r := 0) F120_0 rfl rfl rfl<|VO.l (LO.ld O3 (.r rfl) (cells_keep (sub_cells (off := 0) (case_read hh hcm) ⟨_, rfl⟩))) rfl<|VO.l (LO.lk2 IM208 (.r rfl) (.r rfl) (fun _ hw => ⟨es, ck, St.inv hw 0 _ rfl, hE⟩)) rfl<|VO.m rfl rfl<|VO.l (LO.ex (.r rfl) rfl) rfl<|VO.l (LO.ex (.r rfl) rfl) rfl<|VO.a rfl rfl<|VO.a rfl rfl<|VO.n<|VC.seq<|VC.draw mixed (LL.m rfl rfl<|LL.l (LO.not (.r rfl)) rfl<|LL.m rfl rfl<|LL.gf rfl rfl (fun hg => LO.fa (r := 0) F112_0 (.r rfl) rfl) rfl<|LL.gf rfl rfl (fun hg => LO.ld O3 (.g hg rfl) (cells_blk 1 rfl ⟨_, rfl⟩)) rfl<|LL.gf rfl rfl (fun hg => LO.mv (.r rfl)) rfl<|LL.gf rfl rfl (fun hg => LO.nc (.g hg rfl)) rfl<|LL.gf rfl rfl (fun hg => LO.fa (r := 2) F120_2 (.g hg rfl) rfl) rfl<|LL.gf rfl rfl (fun hg => LO.ld O3 (.g hg rfl) (cells_keep (sub_cells (off := 2) (case_read hh hcm) ⟨_, rfl⟩))) rfl<|LL.gf rfl rfl (fun hg => LO.sub (.g hg rfl) (.g hg rfl) (wi (by omega) (by omega))) rfl<|LL.gf rfl rfl (fun hg => LO.mv (.r rfl)) rfl<|LL.gf rfl rfl (fun hg => LO.lt (.g hg rfl) (.g hg rfl)) rfl<|LL.l (LO.pkO (.r rfl) (.r rfl) rfl rfl) rfl<|LL.nil) (by kernel_rfl)<|VE.seqN<|VC.cond rfl (fun h134 => ?_) (fun h134 => ?_))
      ·
       have hupd := mapF_upd (k := (r.i : Int)) hCx hNx hrg hic (upd_of hat h134)
       refine VC.drawH [[0,1,2,3], [1,2,3]] [some 0, some 0, some 0, some 0, some 0, some 0, some 0, some 0, some 0, some 0, some 0, some 0, none] mixed (by kernel_rfl) rfl (LX.m rfl rfl<|LX.m rfl rfl<|LX.l (fun _ hJ => LO.nc (.r rfl)) rfl<|LX.l (fun _ hJ => LO.fa (r := 0) F120_0 (.r rfl) rfl) rfl<|LX.l (fun _ hJ => LO.ld O3 (.r rfl) (cells_keep (sub_cells (off := 0) (case_read hh hcm) ⟨_, rfl⟩))) rfl<|LX.l (fun _ hJ => LO.fa (r := 0) F112_0 (.r rfl) rfl) rfl<|LX.l (fun _ hJ => LO.ld O3 (.r rfl) (fun _ hw => cells_at (hJ _ hw) 1 rfl ⟨_, rfl⟩)) rfl<|LX.m rfl rfl<|LX.l (fun _ hJ => LO.nc (.r rfl)) rfl<|LX.l (fun _ hJ => LO.fa (r := 2) F120_2 (.r rfl) rfl) rfl<|LX.l (fun _ hJ => LO.ld O3 (.r rfl) (cells_keep (sub_cells (off := 2) (case_read hh hcm) ⟨_, rfl⟩))) rfl<|LX.l (fun _ hJ => LO.sub (.r rfl) (.r rfl) (wi (by omega) (by omega))) rfl<|LX.s<|LX.nil) (HX.s<|HX.s<|HX.s<|HX.s<|HX.s<|HX.s<|HX.s<|HX.s<|HX.s<|HX.s<|HX.s<|HX.s<|HX.h0<|HO.mupI 0 (fun R => [R,_,_,_]) IM208 (.r rfl) (.r rfl) (.r rfl) rfl hE hSt (fun _ => rfl) fun es2 ck2 hE2 hSt2 => ⟨fun _ hw => hw.sel [1,2,3] rfl, HX.nil ?_⟩)
       refine VE.inN (VE.seqN<|VC.reg (VO.p rfl rfl (by omega) (by omega) rfl<|VO.m rfl rfl<|VO.nil<|VE.thenN fun a w ha hw => ⟨(j + 1, es2, ck2), ⟨by dsimp only; omega, by dsimp only; rw [hupd]; rw [hcb.1] at hE2; exact hE2, hSt2⟩, (by dsimp only; omega), ha.sub (.c4 rfl rfl rfl rfl (.c4 rfl rfl rfl rfl (.c4 rfl rfl rfl rfl (.cons rfl .nil)))), (by exact selK (L1 := [_,_,_,_]) [0,1,2,3] rfl rfl _ hw)⟩))
      ·
       obtain ⟨u, hu1, hu2⟩ := same_of hat h134
       have hsame := mapF_same (k := (r.i : Int)) hCx hNx hrg hic hu1 hu2
       refine VC.skip (VE.inN (VE.seqN<|VC.reg (VO.p rfl rfl (by omega) (by omega) rfl<|VO.m rfl rfl<|VO.nil<|VE.thenN fun a w ha hw => ⟨(j + 1, es, ck), ⟨by dsimp only; omega, by dsimp only; rw [hsame]; exact hE, hSt⟩, (by dsimp only; omega), ha.sub (.c4 rfl rfl rfl rfl (.c4 rfl rfl rfl rfl (.c4 rfl rfl rfl rfl (.cons rfl .nil)))), (by exact selK (L1 := [_,_,_,_]) [0,1,2,3] rfl rfl _ hw)⟩)))
     ·
      have hskip := mapF_skip (k := (r.i : Int)) (pix := r.x.r.pix) hCx hNx (fun q => h112 (inC_to q.1 q.2))
      refine VC.skip (VE.inN (VE.seqN<|VC.reg (VO.p rfl rfl (by omega) (by omega) rfl<|VO.m rfl rfl<|VO.nil<|VE.thenN fun a w ha hw => ⟨(j + 1, es, ck), ⟨by dsimp only; omega, by dsimp only; rw [hskip]; exact hE, hSt⟩, (by dsimp only; omega), ha.sub (.c4 rfl rfl rfl rfl (.c4 rfl rfl rfl rfl (.c4 rfl rfl rfl rfl (.cons rfl .nil)))), (by exact selK (L1 := [_,_,_,_]) [0,1,2,3] rfl rfl _ hw)⟩)))
    ·
     have hje : j = CS.length := by omega
     rw [hje, mapF_next] at hE
     refine VC.exit (VE.thenX (VE.thenX (VE.inX (VE.inN (VE.seqN<|VC.reg (VO.p rfl rfl (by omega) (by omega) rfl<|VO.m rfl rfl<|VO.nil<|VE.thenN fun a w ha hw => ⟨(i + 1, (bump 1 T), es, ck), ⟨by dsimp only; omega, by dsimp only; rw [hNT]; exact cnt_bump hT (kN_1 h47 h56), hE, hSt⟩, (by dsimp only; omega), ha.sub (.c4 rfl rfl rfl rfl (.c4 rfl rfl rfl rfl .nil)), (by exact selK (L1 := [_,_,_]) [2,0,3] rfl rfl _ hw)⟩))))))
   ·
    refine VC.q (VO.m rfl rfl<|VO.a rfl rfl<|VO.n<|VC.cond rfl (fun h62 => ?_) (fun h62 => ?_))
    ·
     refine VC.reg (VO.f (r := 4) F146_4 rfl rfl rfl<|VO.c 1 O3 rfl rfl ⟨_, rfl⟩ rfl<|VO.p rfl rfl (by omega) (by omega) rfl<|VO.f (r := 4) F146_4 rfl rfl rfl<|VO.h0<|HO.st 1 (vs := [_]) (C' := [_,_,_,_,_,_,_]) (L' := [_,_,_,_]) N3 rfl rfl rfl rfl rfl rfl rfl rfl<|VO.nil<|VE.inN (VE.seqN<|VC.q (VO.m rfl rfl<|VO.l (LO.nc (.r rfl)) rfl<|VO.f (r := 11) F92_3 rfl rfl rfl<|VO.l (LO.ld O89 (.r rfl) (cells_keep (sub_cells (off := 11) (off_cells hh) ⟨_, rfl⟩))) rfl<|VO.l (LO.len S89 (.r rfl) rfl) rfl<|VO.m rfl rfl<|VO.n<|VC.block<|VC.perm [2,0,1,3] rfl<|VC.loopK (α := Nat × (Array MapEntry) × Nat) 1 (fun gx => [(79, .int .i64 (gx.1 : Nat))]) [(0,_), (1,_), (6,_), (7,_), (8,_), (10,_), (11,_), (22,_), (23,_), (24,_), (77,_), (78,_)] (fun gx => [blk b3 (.map gx.2.1 gx.2.2)]) (fun gx => gx.1 ≤ o.cs.length ∧ MapE gx.2.1.toList (mapF r.i r.x.r.pix CS NS i gx.1) ∧ Stamps gx.2.1.toList gx.2.2) (fun gx => o.cs.length - gx.1) (0, es, ck) (by exact ⟨Nat.zero_le _, hE, hSt⟩) (.c4 rfl rfl rfl rfl (.c4 rfl rfl rfl rfl (.c4 rfl rfl rfl rfl (.cons rfl .nil)))) (fun _ h => h) ?_)))
     rintro ⟨j, es, ck⟩ ⟨hj, hE, hSt⟩
     show VC _ _ _ _ _ ([(79, .int .i64 (j : Nat))] ++ _) ([blk b3 (.map es ck)] ++ _) _ _
     dsimp only at hj hE hSt
     refine VC.q (VO.t rfl rfl rfl<|VO.n<|VC.seq<|VC.cond rfl (fun h80 => ?_) (fun h80 => ?_))
     ·
      obtain ⟨cx, hcx⟩ : ∃ x, o.cs[j]? = some x := ⟨_, List.getElem?_eq_getElem (by omega)⟩
      have hcm := List.mem_of_getElem? hcx
      have hcb := hcn j cx hcx
      have hCx : CS[j]? = some cx.p := by rw [hCS, List.getElem?_map, hcx]; rfl
      refine VC.skip (VE.seqN<|VC.seq<|VC.block<|VC.q (VO.l (LO.ixs S89 N96 hcr.sm (.r rfl) (.r rfl) rfl (by omega)) rfl<|VO.l (LO.ld O96 (.r rfl) (fun w hw => cells_part (off := 0) ((fun w2 hw2 => (hcr.keep w2 hw2).cells _ _ (by rw [List.getElem?_map, hcx]; rfl)) w hw) ⟨_, rfl⟩)) rfl<|VO.a rfl rfl<|VO.n<|VC.seq<|VC.draw mixed (LL.m rfl rfl<|LL.m rfl rfl<|LL.gt rfl rfl (fun hg => LO.mv (.r rfl)) rfl<|LL.gt rfl rfl (fun hg => LO.nc (.g hg rfl)) rfl<|LL.gt rfl rfl (fun hg => LO.fa (r := 1) F120_1 (.g hg rfl) rfl) rfl<|LL.gt rfl rfl (fun hg => LO.ld O3 (.g hg rfl) (cells_keep (sub_cells (off := 1) (case_read hh hcm) ⟨_, rfl⟩))) rfl<|LL.gt rfl rfl (fun hg => LO.mv (.r rfl)) rfl<|LL.gt rfl rfl (fun hg => LO.nc (.g hg rfl)) rfl<|LL.gt rfl rfl (fun hg => LO.fa (r := 2) F98_1 (.g hg rfl) rfl) rfl<|LL.gt rfl rfl (fun hg => LO.ld O3 (.g hg rfl) (cells_keep (sub_cells (off := 2) (rec_read hh hr).1 ⟨_, rfl⟩))) rfl<|LL.gt rfl rfl (fun hg => LO.eq (.g hg rfl) (.g hg rfl)) rfl<|LL.l (LO.pkA (.r rfl) rfl rfl (.r rfl)) rfl<|LL.m rfl rfl<|LL.gt rfl rfl (fun hg => LO.mv (.r rfl)) rfl<|LL.gt rfl rfl (fun hg => LO.nc (.g hg rfl)) rfl<|LL.gt rfl rfl (fun hg => LO.fa (r := 2) F120_2 (.g hg rfl) rfl) rfl<|LL.gt rfl rfl (fun hg => LO.ld O3 (.g hg rfl) (cells_keep (sub_cells (off := 2) (case_read hh hcm) ⟨_, rfl⟩))) rfl<|LL.gt rfl rfl (fun hg => LO.fa (r := 0) F112_0 (.r rfl) rfl) rfl<|LL.gt rfl rfl (fun hg => LO.ld O3 (.g hg rfl) (cells_blk 1 rfl ⟨_, rfl⟩)) rfl<|LL.gt rfl rfl (fun hg => LO.le (.g hg rfl) (.g hg rfl)) rfl<|LL.l (LO.pkA (.r rfl) rfl rfl (.r rfl)) rfl<|LL.m rfl rfl<|LL.gt rfl rfl (fun hg => LO.fa (r := 0) F112_0 (.r rfl) rfl) rfl<|LL.gt rfl rfl (fun hg => LO.ld O3 (.g hg rfl) (cells_blk 1 rfl ⟨_, rfl⟩)) rfl<|LL.gt rfl rfl (fun hg => LO.mv (.r rfl)) rfl<|LL.gt rfl rfl (fun hg => LO.nc (.g hg rfl)) rfl<|LL.gt rfl rfl (fun hg => LO.fa (r := 3) F120_3 (.g hg rfl) rfl) rfl<|LL.gt rfl rfl (fun hg => LO.ld O3 (.g hg rfl) (cells_keep (sub_cells (off := 3) (case_read hh hcm) ⟨_, rfl⟩))) rfl<|LL.gt rfl rfl (fun hg => LO.lt (.g hg rfl) (.g hg rfl)) rfl<|LL.l (LO.pkA (.r rfl) rfl rfl (.r rfl)) rfl<|LL.nil) (by kernel_rfl)<|VE.seqN<|VC.cond rfl (fun h112 => ?_) (fun h112 => ?_)))
      ·
       have hic : inC r.x.r.pix cx.p nx.n = true := inC_of h112
       have hrg : cx.p.rg = (r.i : Int) := h112.1.1.2
       have hbt : cx.bg ≤ nx.t := h112.1.2
       have hat : mapF (r.i : Int) r.x.r.pix CS NS i j cx.nm = firstN r.x.r.pix cx.p (NS.take i) := by rw [hcb.1]; exact mapF_at hCx hrg
       refine VC.q (VO.m rfl rfl<|VO.m rfl rfl<|VO.l (LO.nc (.r rfl)) rfl<|VO.f (r := 0) F120_0 rfl rfl rfl<|VO.l (LO.ld O3 (.r rfl) (cells_keep (sub_cells (off := 0) (case_read hh hcm) ⟨_, rfl⟩))) rfl<|VO.l (LO.lk2 IM208 (.r rfl) (.r rfl) (fun _ hw => ⟨es, ck, St.inv hw 0 _ rfl, hE⟩)) rfl<|VO.m rfl rfl<|VO.l (LO.ex (.r rfl) rfl) rfl<|VO.l (LO.ex (.r rfl) rfl) rfl<|VO.a rfl rfl<|VO.a rfl rfl<|VO.n<|VC.seq<|VC.draw mixed (LL.m rfl rfl<|LL.l (LO.not (.r rfl)) rfl<|LL.m rfl rfl<|LL.gf rfl rfl (fun hg => LO.fa (r := 0) F112_0 (.r rfl) rfl) rfl<|LL.gf rfl rfl (fun hg => LO.ld O3 (.g hg rfl) (cells_blk 1 rfl ⟨_, rfl⟩)) rfl<|LL.gf rfl rfl (fun hg => LO.mv (.r rfl)) rfl<|LL.gf rfl rfl (fun hg => LO.nc (.g hg rfl)) rfl<|LL.gf rfl rfl (fun hg => LO.fa (r := 2) F120_2 (.g hg rfl) rfl) rfl<|LL.gf rfl rfl (fun hg => LO.ld O3 (.g hg rfl) (cells_keep (sub_cells (off := 2) (case_read hh hcm) ⟨_, rfl⟩))) rfl<|LL.gf rfl rfl (fun hg => LO.sub (.g hg rfl) (.g hg rfl) (wi (by omega) (by omega))) rfl<|LL.gf rfl rfl (fun hg => LO.mv (.r rfl)) rfl<|LL.gf rfl rfl (fun hg => LO.lt (.g hg rfl) (.g hg rfl)) rfl<|LL.l (LO.pkO (.r rfl) (.r rfl) rfl rfl) rfl<|LL.nil) (by kernel_rfl)<|VE.seqN<|VC.cond rfl (fun h134 => ?_) (fun h134 => ?_))
       ·
        have hupd := mapF_upd (k := (r.i : Int)) hCx hNx hrg hic (upd_of hat h134)
        refine VC.drawH [[0,1,2,3], [1,2,3]] [some 0, some 0, some 0, some 0, some 0, some 0, some 0, some 0, some 0, some 0, some 0, some 0, none] mixed (by kernel_rfl) rfl (LX.m rfl rfl<|LX.m rfl rfl<|LX.l (fun _ hJ => LO.nc (.r rfl)) rfl<|LX.l (fun _ hJ => LO.fa (r := 0) F120_0 (.r rfl) rfl) rfl<|LX.l (fun _ hJ => LO.ld O3 (.r rfl) (cells_keep (sub_cells (off := 0) (case_read hh hcm) ⟨_, rfl⟩))) rfl<|LX.l (fun _ hJ => LO.fa (r := 0) F112_0 (.r rfl) rfl) rfl<|LX.l (fun _ hJ => LO.ld O3 (.r rfl) (fun _ hw => cells_at (hJ _ hw) 1 rfl ⟨_, rfl⟩)) rfl<|LX.m rfl rfl<|LX.l (fun _ hJ => LO.nc (.r rfl)) rfl<|LX.l (fun _ hJ => LO.fa (r := 2) F120_2 (.r rfl) rfl) rfl<|LX.l (fun _ hJ => LO.ld O3 (.r rfl) (cells_keep (sub_cells (off := 2) (case_read hh hcm) ⟨_, rfl⟩))) rfl<|LX.l (fun _ hJ => LO.sub (.r rfl) (.r rfl) (wi (by omega) (by omega))) rfl<|LX.s<|LX.nil) (HX.s<|HX.s<|HX.s<|HX.s<|HX.s<|HX.s<|HX.s<|HX.s<|HX.s<|HX.s<|HX.s<|HX.s<|HX.h0<|HO.mupI 0 (fun R => [R,_,_,_]) IM208 (.r rfl) (.r rfl) (.r rfl) rfl hE hSt (fun _ => rfl) fun es2 ck2 hE2 hSt2 => ⟨fun _ hw => hw.sel [1,2,3] rfl, HX.nil ?_⟩)
        refine VE.inN (VE.seqN<|VC.reg (VO.p rfl rfl (by omega) (by omega) rfl<|VO.m rfl rfl<|VO.nil<|VE.thenN fun a w ha hw => ⟨(j + 1, es2, ck2), ⟨by dsimp only; omega, by dsimp only; rw [hupd]; rw [hcb.1] at hE2; exact hE2, hSt2⟩, (by dsimp only; omega), ha.sub (.c4 rfl rfl rfl rfl (.c4 rfl rfl rfl rfl (.c4 rfl rfl rfl rfl (.cons rfl .nil)))), (by exact selK (L1 := [_,_,_,_]) [0,1,2,3] rfl rfl _ hw)⟩))
       ·
        obtain ⟨u, hu1, hu2⟩ := same_of hat h134
        have hsame := mapF_same (k := (r.i : Int)) hCx hNx hrg hic hu1 hu2
        refine VC.skip (VE.inN (VE.seqN<|VC.reg (VO.p rfl rfl (by omega) (by omega) rfl<|VO.m rfl rfl<|VO.nil<|VE.thenN fun a w ha hw => ⟨(j + 1, es, ck), ⟨by dsimp only; omega, by dsimp only; rw [hsame]; exact hE, hSt⟩, (by dsimp only; omega), ha.sub (.c4 rfl rfl rfl rfl (.c4 rfl rfl rfl rfl (.c4 rfl rfl rfl rfl (.cons rfl .nil)))), (by exact selK (L1 := [_,_,_,_]) [0,1,2,3] rfl rfl _ hw)⟩)))
      ·
       have hskip := mapF_skip (k := (r.i : Int)) (pix := r.x.r.pix) hCx hNx (fun q => h112 (inC_to q.1 q.2))
       refine VC.skip (VE.inN (VE.seqN<|VC.reg (VO.p rfl rfl (by omega) (by omega) rfl<|VO.m rfl rfl<|VO.nil<|VE.thenN fun a w ha hw => ⟨(j + 1, es, ck), ⟨by dsimp only; omega, by dsimp only; rw [hskip]; exact hE, hSt⟩, (by dsimp only; omega), ha.sub (.c4 rfl rfl rfl rfl (.c4 rfl rfl rfl rfl (.c4 rfl rfl rfl rfl (.cons rfl .nil)))), (by exact selK (L1 := [_,_,_,_]) [0,1,2,3] rfl rfl _ hw)⟩)))
     ·
      have hje : j = CS.length := by omega
      rw [hje, mapF_next] at hE
      refine VC.exit (VE.thenX (VE.thenX (VE.inX (VE.inN (VE.seqN<|VC.reg (VO.p rfl rfl (by omega) (by omega) rfl<|VO.m rfl rfl<|VO.nil<|VE.thenN fun a w ha hw => ⟨(i + 1, (bump 2 T), es, ck), ⟨by dsimp only; omega, by dsimp only; rw [hNT]; exact cnt_bump hT (kN_2 h47 h56 h62), hE, hSt⟩, (by dsimp only; omega), ha.sub (.c4 rfl rfl rfl rfl (.c4 rfl rfl rfl rfl .nil)), (by exact selK (L1 := [_,_,_]) [2,0,3] rfl rfl _ hw)⟩))))))
    ·
     refine VC.q (VO.m rfl rfl<|VO.a rfl rfl<|VO.n<|VC.cond rfl (fun h68 => ?_) (fun h68 => ?_))
     ·
      refine VC.reg (VO.f (r := 2) F146_2 rfl rfl rfl<|VO.c 1 O3 rfl rfl ⟨_, rfl⟩ rfl<|VO.p rfl rfl (by omega) (by omega) rfl<|VO.f (r := 2) F146_2 rfl rfl rfl<|VO.h0<|HO.st 1 (vs := [_]) (C' := [_,_,_,_,_,_,_]) (L' := [_,_,_,_]) N3 rfl rfl rfl rfl rfl rfl rfl rfl<|VO.nil<|VE.inN (VE.seqN<|VC.q (VO.m rfl rfl<|VO.l (LO.nc (.r rfl)) rfl<|VO.f (r := 11) F92_3 rfl rfl rfl<|VO.l (LO.ld O89 (.r rfl) (cells_keep (sub_cells (off := 11) (off_cells hh) ⟨_, rfl⟩))) rfl<|VO.l (LO.len S89 (.r rfl) rfl) rfl<|VO.m rfl rfl<|VO.n<|VC.block<|VC.perm [2,0,1,3] rfl<|VC.loopK (α := Nat × (Array MapEntry) × Nat) 1 (fun gx => [(79, .int .i64 (gx.1 : Nat))]) [(0,_), (1,_), (6,_), (7,_), (8,_), (10,_), (11,_), (22,_), (23,_), (24,_), (77,_), (78,_)] (fun gx => [blk b3 (.map gx.2.1 gx.2.2)]) (fun gx => gx.1 ≤ o.cs.length ∧ MapE gx.2.1.toList (mapF r.i r.x.r.pix CS NS i gx.1) ∧ Stamps gx.2.1.toList gx.2.2) (fun gx => o.cs.length - gx.1) (0, es, ck) (by exact ⟨Nat.zero_le _, hE, hSt⟩) (.c4 rfl rfl rfl rfl (.c4 rfl rfl rfl rfl (.c4 rfl rfl rfl rfl (.cons rfl .nil)))) (fun _ h => h) ?_)))
      rintro ⟨j, es, ck⟩ ⟨hj, hE, hSt⟩
      show VC _ _ _ _ _ ([(79, .int .i64 (j : Nat))] ++ _) ([blk b3 (.map es ck)] ++ _) _ _
      dsimp only at hj hE hSt
      refine VC.q (VO.t rfl rfl rfl<|VO.n<|VC.seq<|VC.cond rfl (fun h80 => ?_) (fun h80 => ?_))
      ·
       obtain ⟨cx, hcx⟩ : ∃ x, o.cs[j]? = some x := ⟨_, List.getElem?_eq_getElem (by omega)⟩
       have hcm := List.mem_of_getElem? hcx
       have hcb := hcn j cx hcx
       have hCx : CS[j]? = some cx.p := by rw [hCS, List.getElem?_map, hcx]; rfl
       refine VC.skip (VE.seqN<|VC.seq<|VC.block<|VC.q (VO.l (LO.ixs S89 N96 hcr.sm (.r rfl) (.r rfl) rfl (by omega)) rfl<|VO.l (LO.ld O96 (.r rfl) (fun w hw => cells_part (off := 0) ((fun w2 hw2 => (hcr.keep w2 hw2).cells _ _ (by rw [List.getElem?_map, hcx]; rfl)) w hw) ⟨_, rfl⟩)) rfl<|VO.a rfl rfl<|VO.n<|VC.seq<|VC.draw mixed (LL.m rfl rfl<|LL.m rfl rfl<|LL.gt rfl rfl (fun hg => LO.mv (.r rfl)) rfl<|LL.gt rfl rfl (fun hg => LO.nc (.g hg rfl)) rfl<|LL.gt rfl rfl (fun hg => LO.fa (r := 1) F120_1 (.g hg rfl) rfl) rfl<|LL.gt rfl rfl (fun hg => LO.ld O3 (.g hg rfl) (cells_keep (sub_cells (off := 1) (case_read hh hcm) ⟨_, rfl⟩))) rfl<|LL.gt rfl rfl (fun hg => LO.mv (.r rfl)) rfl<|LL.gt rfl rfl (fun hg => LO.nc (.g hg rfl)) rfl<|LL.gt rfl rfl (fun hg => LO.fa (r := 2) F98_1 (.g hg rfl) rfl) rfl<|LL.gt rfl rfl (fun hg => LO.ld O3 (.g hg rfl) (cells_keep (sub_cells (off := 2) (rec_read hh hr).1 ⟨_, rfl⟩))) rfl<|LL.gt rfl rfl (fun hg => LO.eq (.g hg rfl) (.g hg rfl)) rfl<|LL.l (LO.pkA (.r rfl) rfl rfl (.r rfl)) rfl<|LL.m rfl rfl<|LL.gt rfl rfl (fun hg => LO.mv (.r rfl)) rfl<|LL.gt rfl rfl (fun hg => LO.nc (.g hg rfl)) rfl<|LL.gt rfl rfl (fun hg => LO.fa (r := 2) F120_2 (.g hg rfl) rfl) rfl<|LL.gt rfl rfl (fun hg => LO.ld O3 (.g hg rfl) (cells_keep (sub_cells (off := 2) (case_read hh hcm) ⟨_, rfl⟩))) rfl<|LL.gt rfl rfl (fun hg => LO.fa (r := 0) F112_0 (.r rfl) rfl) rfl<|LL.gt rfl rfl (fun hg => LO.ld O3 (.g hg rfl) (cells_blk 1 rfl ⟨_, rfl⟩)) rfl<|LL.gt rfl rfl (fun hg => LO.le (.g hg rfl) (.g hg rfl)) rfl<|LL.l (LO.pkA (.r rfl) rfl rfl (.r rfl)) rfl<|LL.m rfl rfl<|LL.gt rfl rfl (fun hg => LO.fa (r := 0) F112_0 (.r rfl) rfl) rfl<|LL.gt rfl rfl (fun hg => LO.ld O3 (.g hg rfl) (cells_blk 1 rfl ⟨_, rfl⟩)) rfl<|LL.gt rfl rfl (fun hg => LO.mv (.r rfl)) rfl<|LL.gt rfl rfl (fun hg => LO.nc (.g hg rfl)) rfl<|LL.gt rfl rfl (fun hg => LO.fa (r := 3) F120_3 (.g hg rfl) rfl) rfl<|LL.gt rfl rfl (fun hg => LO.ld O3 (.g hg rfl) (cells_keep (sub_cells (off := 3) (case_read hh hcm) ⟨_, rfl⟩))) rfl<|LL.gt rfl rfl (fun hg => LO.lt (.g hg rfl) (.g hg rfl)) rfl<|LL.l (LO.pkA (.r rfl) rfl rfl (.r rfl)) rfl<|LL.nil) (by kernel_rfl)<|VE.seqN<|VC.cond rfl (fun h112 => ?_) (fun h112 => ?_)))
       ·
        have hic : inC r.x.r.pix cx.p nx.n = true := inC_of h112
        have hrg : cx.p.rg = (r.i : Int) := h112.1.1.2
        have hbt : cx.bg ≤ nx.t := h112.1.2
        have hat : mapF (r.i : Int) r.x.r.pix CS NS i j cx.nm = firstN r.x.r.pix cx.p (NS.take i) := by rw [hcb.1]; exact mapF_at hCx hrg
        refine VC.q (VO.m rfl rfl<|VO.m rfl rfl<|VO.l (LO.nc (.r rfl)) rfl<|VO.f (r := 0) F120_0 rfl rfl rfl<|VO.l (LO.ld O3 (.r rfl) (cells_keep (sub_cells (off := 0) (case_read hh hcm) ⟨_, rfl⟩))) rfl<|VO.l (LO.lk2 IM208 (.r rfl) (.r rfl) (fun _ hw => ⟨es, ck, St.inv hw 0 _ rfl, hE⟩)) rfl<|VO.m rfl rfl<|VO.l (LO.ex (.r rfl) rfl) rfl<|VO.l (LO.ex (.r rfl) rfl) rfl<|VO.a rfl rfl<|VO.a rfl rfl<|VO.n<|VC.seq<|VC.draw mixed (LL.m rfl rfl<|LL.l (LO.not (.r rfl)) rfl<|LL.m rfl rfl<|LL.gf rfl rfl (fun hg => LO.fa (r := 0) F112_0 (.r rfl) rfl) rfl<|LL.gf rfl rfl (fun hg => LO.ld O3 (.g hg rfl) (cells_blk 1 rfl ⟨_, rfl⟩)) rfl<|LL.gf rfl rfl (fun hg => LO.mv (.r rfl)) rfl<|LL.gf rfl rfl (fun hg => LO.nc (.g hg rfl)) rfl<|LL.gf rfl rfl (fun hg => LO.fa (r := 2) F120_2 (.g hg rfl) rfl) rfl<|LL.gf rfl rfl (fun hg => LO.ld O3 (.g hg rfl) (cells_keep (sub_cells (off := 2) (case_read hh hcm) ⟨_, rfl⟩))) rfl<|LL.gf rfl rfl (fun hg => LO.sub (.g hg rfl) (.g hg rfl) (wi (by omega) (by omega))) rfl<|LL.gf rfl rfl (fun hg => LO.mv (.r rfl)) rfl<|LL.gf rfl rfl (fun hg => LO.lt (.g hg rfl) (.g hg rfl)) rfl<|LL.l (LO.pkO (.r rfl) (.r rfl) rfl rfl) rfl<|LL.nil) (by kernel_rfl)<|VE.seqN<|VC.cond rfl (fun h134 => ?_) (fun h134 => ?_))
        ·
         have hupd := mapF_upd (k := (r.i : Int)) hCx hNx hrg hic (upd_of hat h134)
         refine VC.drawH [[0,1,2,3], [1,2,3]] [some 0, some 0, some 0, some 0, some 0, some 0, some 0, some 0, some 0, some 0, some 0, some 0, none] mixed (by kernel_rfl) rfl (LX.m rfl rfl<|LX.m rfl rfl<|LX.l (fun _ hJ => LO.nc (.r rfl)) rfl<|LX.l (fun _ hJ => LO.fa (r := 0) F120_0 (.r rfl) rfl) rfl<|LX.l (fun _ hJ => LO.ld O3 (.r rfl) (cells_keep (sub_cells (off := 0) (case_read hh hcm) ⟨_, rfl⟩))) rfl<|LX.l (fun _ hJ => LO.fa (r := 0) F112_0 (.r rfl) rfl) rfl<|LX.l (fun _ hJ => LO.ld O3 (.r rfl) (fun _ hw => cells_at (hJ _ hw) 1 rfl ⟨_, rfl⟩)) rfl<|LX.m rfl rfl<|LX.l (fun _ hJ => LO.nc (.r rfl)) rfl<|LX.l (fun _ hJ => LO.fa (r := 2) F120_2 (.r rfl) rfl) rfl<|LX.l (fun _ hJ => LO.ld O3 (.r rfl) (cells_keep (sub_cells (off := 2) (case_read hh hcm) ⟨_, rfl⟩))) rfl<|LX.l (fun _ hJ => LO.sub (.r rfl) (.r rfl) (wi (by omega) (by omega))) rfl<|LX.s<|LX.nil) (HX.s<|HX.s<|HX.s<|HX.s<|HX.s<|HX.s<|HX.s<|HX.s<|HX.s<|HX.s<|HX.s<|HX.s<|HX.h0<|HO.mupI 0 (fun R => [R,_,_,_]) IM208 (.r rfl) (.r rfl) (.r rfl) rfl hE hSt (fun _ => rfl) fun es2 ck2 hE2 hSt2 => ⟨fun _ hw => hw.sel [1,2,3] rfl, HX.nil ?_⟩)
         refine VE.inN (VE.seqN<|VC.reg (VO.p rfl rfl (by omega) (by omega) rfl<|VO.m rfl rfl<|VO.nil<|VE.thenN fun a w ha hw => ⟨(j + 1, es2, ck2), ⟨by dsimp only; omega, by dsimp only; rw [hupd]; rw [hcb.1] at hE2; exact hE2, hSt2⟩, (by dsimp only; omega), ha.sub (.c4 rfl rfl rfl rfl (.c4 rfl rfl rfl rfl (.c4 rfl rfl rfl rfl (.cons rfl .nil)))), (by exact selK (L1 := [_,_,_,_]) [0,1,2,3] rfl rfl _ hw)⟩))
        ·
         obtain ⟨u, hu1, hu2⟩ := same_of hat h134
         have hsame := mapF_same (k := (r.i : Int)) hCx hNx hrg hic hu1 hu2
         refine VC.skip (VE.inN (VE.seqN<|VC.reg (VO.p rfl rfl (by omega) (by omega) rfl<|VO.m rfl rfl<|VO.nil<|VE.thenN fun a w ha hw => ⟨(j + 1, es, ck), ⟨by dsimp only; omega, by dsimp only; rw [hsame]; exact hE, hSt⟩, (by dsimp only; omega), ha.sub (.c4 rfl rfl rfl rfl (.c4 rfl rfl rfl rfl (.c4 rfl rfl rfl rfl (.cons rfl .nil)))), (by exact selK (L1 := [_,_,_,_]) [0,1,2,3] rfl rfl _ hw)⟩)))
       ·
        have hskip := mapF_skip (k := (r.i : Int)) (pix := r.x.r.pix) hCx hNx (fun q => h112 (inC_to q.1 q.2))
        refine VC.skip (VE.inN (VE.seqN<|VC.reg (VO.p rfl rfl (by omega) (by omega) rfl<|VO.m rfl rfl<|VO.nil<|VE.thenN fun a w ha hw => ⟨(j + 1, es, ck), ⟨by dsimp only; omega, by dsimp only; rw [hskip]; exact hE, hSt⟩, (by dsimp only; omega), ha.sub (.c4 rfl rfl rfl rfl (.c4 rfl rfl rfl rfl (.c4 rfl rfl rfl rfl (.cons rfl .nil)))), (by exact selK (L1 := [_,_,_,_]) [0,1,2,3] rfl rfl _ hw)⟩)))
      ·
       have hje : j = CS.length := by omega
       rw [hje, mapF_next] at hE
       refine VC.exit (VE.thenX (VE.thenX (VE.inX (VE.inN (VE.seqN<|VC.reg (VO.p rfl rfl (by omega) (by omega) rfl<|VO.m rfl rfl<|VO.nil<|VE.thenN fun a w ha hw => ⟨(i + 1, (bump 3 T), es, ck), ⟨by dsimp only; omega, by dsimp only; rw [hNT]; exact cnt_bump hT (kN_3 h47 h56 h62 h68), hE, hSt⟩, (by dsimp only; omega), ha.sub (.c4 rfl rfl rfl rfl (.c4 rfl rfl rfl rfl .nil)), (by exact selK (L1 := [_,_,_]) [2,0,3] rfl rfl _ hw)⟩))))))
     ·
      refine VC.reg (VO.f (r := 3) F146_3 rfl rfl rfl<|VO.c 1 O3 rfl rfl ⟨_, rfl⟩ rfl<|VO.p rfl rfl (by omega) (by omega) rfl<|VO.f (r := 3) F146_3 rfl rfl rfl<|VO.h0<|HO.st 1 (vs := [_]) (C' := [_,_,_,_,_,_,_]) (L' := [_,_,_,_]) N3 rfl rfl rfl rfl rfl rfl rfl rfl<|VO.nil<|VE.inN (VE.seqN<|VC.q (VO.m rfl rfl<|VO.l (LO.nc (.r rfl)) rfl<|VO.f (r := 11) F92_3 rfl rfl rfl<|VO.l (LO.ld O89 (.r rfl) (cells_keep (sub_cells (off := 11) (off_cells hh) ⟨_, rfl⟩))) rfl<|VO.l (LO.len S89 (.r rfl) rfl) rfl<|VO.m rfl rfl<|VO.n<|VC.block<|VC.perm [2,0,1,3] rfl<|VC.loopK (α := Nat × (Array MapEntry) × Nat) 1 (fun gx => [(79, .int .i64 (gx.1 : Nat))]) [(0,_), (1,_), (6,_), (7,_), (8,_), (10,_), (11,_), (22,_), (23,_), (24,_), (77,_), (78,_)] (fun gx => [blk b3 (.map gx.2.1 gx.2.2)]) (fun gx => gx.1 ≤ o.cs.length ∧ MapE gx.2.1.toList (mapF r.i r.x.r.pix CS NS i gx.1) ∧ Stamps gx.2.1.toList gx.2.2) (fun gx => o.cs.length - gx.1) (0, es, ck) (by exact ⟨Nat.zero_le _, hE, hSt⟩) (.c4 rfl rfl rfl rfl (.c4 rfl rfl rfl rfl (.c4 rfl rfl rfl rfl (.cons rfl .nil)))) (fun _ h => h) ?_)))
      rintro ⟨j, es, ck⟩ ⟨hj, hE, hSt⟩
      show VC _ _ _ _ _ ([(79, .int .i64 (j : Nat))] ++ _) ([blk b3 (.map es ck)] ++ _) _ _
      dsimp only at hj hE hSt
      refine VC.q (VO.t rfl rfl rfl<|VO.n<|VC.seq<|VC.cond rfl (fun h80 => ?_) (fun h80 => ?_))
      ·
       obtain ⟨cx, hcx⟩ : ∃ x, o.cs[j]? = some x := ⟨_, List.getElem?_eq_getElem (by omega)⟩
       have hcm := List.mem_of_getElem? hcx
       have hcb := hcn j cx hcx
       have hCx : CS[j]? = some cx.p := by rw [hCS, List.getElem?_map, hcx]; rfl
       refine VC.skip (VE.seqN<|VC.seq<|VC.block<|VC.q (VO.l (LO.ixs S89 N96 hcr.sm (.r rfl) (.r rfl) rfl (by omega)) rfl<|VO.l (LO.ld O96 (.r rfl) (fun w hw => cells_part (off := 0) ((fun w2 hw2 => (hcr.keep w2 hw2).cells _ _ (by rw [List.getElem?_map, hcx]; rfl)) w hw) ⟨_, rfl⟩)) rfl<|VO.a rfl rfl<|VO.n<|VC.seq<|VC.draw mixed (LL.m rfl rfl<|LL.m rfl rfl<|LL.gt rfl rfl (fun hg => LO.mv (.r rfl)) rfl<|LL.gt rfl rfl (fun hg => LO.nc (.g hg rfl)) rfl<|LL.gt rfl rfl (fun hg => LO.fa (r := 1) F120_1 (.g hg rfl) rfl) rfl<|LL.gt rfl rfl (fun hg => LO.ld O3 (.g hg rfl) (cells_keep (sub_cells (off := 1) (case_read hh hcm) ⟨_, rfl⟩))) rfl<|LL.gt rfl rfl (fun hg => LO.mv (.r rfl)) rfl<|LL.gt rfl rfl (fun hg => LO.nc (.g hg rfl)) rfl<|LL.gt rfl rfl (fun hg => LO.fa (r := 2) F98_1 (.g hg rfl) rfl) rfl<|LL.gt rfl rfl (fun hg => LO.ld O3 (.g hg rfl) (cells_keep (sub_cells (off := 2) (rec_read hh hr).1 ⟨_, rfl⟩))) rfl<|LL.gt rfl rfl (fun hg => LO.eq (.g hg rfl) (.g hg rfl)) rfl<|LL.l (LO.pkA (.r rfl) rfl rfl (.r rfl)) rfl<|LL.m rfl rfl<|LL.gt rfl rfl (fun hg => LO.mv (.r rfl)) rfl<|LL.gt rfl rfl (fun hg => LO.nc (.g hg rfl)) rfl<|LL.gt rfl rfl (fun hg => LO.fa (r := 2) F120_2 (.g hg rfl) rfl) rfl<|LL.gt rfl rfl (fun hg => LO.ld O3 (.g hg rfl) (cells_keep (sub_cells (off := 2) (case_read hh hcm) ⟨_, rfl⟩))) rfl<|LL.gt rfl rfl (fun hg => LO.fa (r := 0) F112_0 (.r rfl) rfl) rfl<|LL.gt rfl rfl (fun hg => LO.ld O3 (.g hg rfl) (cells_blk 1 rfl ⟨_, rfl⟩)) rfl<|LL.gt rfl rfl (fun hg => LO.le (.g hg rfl) (.g hg rfl)) rfl<|LL.l (LO.pkA (.r rfl) rfl rfl (.r rfl)) rfl<|LL.m rfl rfl<|LL.gt rfl rfl (fun hg => LO.fa (r := 0) F112_0 (.r rfl) rfl) rfl<|LL.gt rfl rfl (fun hg => LO.ld O3 (.g hg rfl) (cells_blk 1 rfl ⟨_, rfl⟩)) rfl<|LL.gt rfl rfl (fun hg => LO.mv (.r rfl)) rfl<|LL.gt rfl rfl (fun hg => LO.nc (.g hg rfl)) rfl<|LL.gt rfl rfl (fun hg => LO.fa (r := 3) F120_3 (.g hg rfl) rfl) rfl<|LL.gt rfl rfl (fun hg => LO.ld O3 (.g hg rfl) (cells_keep (sub_cells (off := 3) (case_read hh hcm) ⟨_, rfl⟩))) rfl<|LL.gt rfl rfl (fun hg => LO.lt (.g hg rfl) (.g hg rfl)) rfl<|LL.l (LO.pkA (.r rfl) rfl rfl (.r rfl)) rfl<|LL.nil) (by kernel_rfl)<|VE.seqN<|VC.cond rfl (fun h112 => ?_) (fun h112 => ?_)))
       ·
        have hic : inC r.x.r.pix cx.p nx.n = true := inC_of h112
        have hrg : cx.p.rg = (r.i : Int) := h112.1.1.2
        have hbt : cx.bg ≤ nx.t := h112.1.2
        have hat : mapF (r.i : Int) r.x.r.pix CS NS i j cx.nm = firstN r.x.r.pix cx.p (NS.take i) := by rw [hcb.1]; exact mapF_at hCx hrg
        refine VC.q (VO.m rfl rfl<|VO.m rfl rfl<|VO.l (LO.nc (.r rfl)) rfl<|VO.f (r := 0) F120_0 rfl rfl rfl<|VO.l (LO.ld O3 (.r rfl) (cells_keep (sub_cells (off := 0) (case_read hh hcm) ⟨_, rfl⟩))) rfl<|VO.l (LO.lk2 IM208 (.r rfl) (.r rfl) (fun _ hw => ⟨es, ck, St.inv hw 0 _ rfl, hE⟩)) rfl<|VO.m rfl rfl<|VO.l (LO.ex (.r rfl) rfl) rfl<|VO.l (LO.ex (.r rfl) rfl) rfl<|VO.a rfl rfl<|VO.a rfl rfl<|VO.n<|VC.seq<|VC.draw mixed (LL.m rfl rfl<|LL.l (LO.not (.r rfl)) rfl<|LL.m rfl rfl<|LL.gf rfl rfl (fun hg => LO.fa (r := 0) F112_0 (.r rfl) rfl) rfl<|LL.gf rfl rfl (fun hg => LO.ld O3 (.g hg rfl) (cells_blk 1 rfl ⟨_, rfl⟩)) rfl<|LL.gf rfl rfl (fun hg => LO.mv (.r rfl)) rfl<|LL.gf rfl rfl (fun hg => LO.nc (.g hg rfl)) rfl<|LL.gf rfl rfl (fun hg => LO.fa (r := 2) F120_2 (.g hg rfl) rfl) rfl<|LL.gf rfl rfl (fun hg => LO.ld O3 (.g hg rfl) (cells_keep (sub_cells (off := 2) (case_read hh hcm) ⟨_, rfl⟩))) rfl<|LL.gf rfl rfl (fun hg => LO.sub (.g hg rfl) (.g hg rfl) (wi (by omega) (by omega))) rfl<|LL.gf rfl rfl (fun hg => LO.mv (.r rfl)) rfl<|LL.gf rfl rfl (fun hg => LO.lt (.g hg rfl) (.g hg rfl)) rfl<|LL.l (LO.pkO (.r rfl) (.r rfl) rfl rfl) rfl<|LL.nil) (by kernel_rfl)<|VE.seqN<|VC.cond rfl (fun h134 => ?_) (fun h134 => ?_))
        ·
         have hupd := mapF_upd (k := (r.i : Int)) hCx hNx hrg hic (upd_of hat h134)
         refine VC.drawH [[0,1,2,3], [1,2,3]] [some 0, some 0, some 0, some 0, some 0, some 0, some 0, some 0, some 0, some 0, some 0, some 0, none] mixed (by kernel_rfl) rfl (LX.m rfl rfl<|LX.m rfl rfl<|LX.l (fun _ hJ => LO.nc (.r rfl)) rfl<|LX.l (fun _ hJ => LO.fa (r := 0) F120_0 (.r rfl) rfl) rfl<|LX.l (fun _ hJ => LO.ld O3 (.r rfl) (cells_keep (sub_cells (off := 0) (case_read hh hcm) ⟨_, rfl⟩))) rfl<|LX.l (fun _ hJ => LO.fa (r := 0) F112_0 (.r rfl) rfl) rfl<|LX.l (fun _ hJ => LO.ld O3 (.r rfl) (fun _ hw => cells_at (hJ _ hw) 1 rfl ⟨_, rfl⟩)) rfl<|LX.m rfl rfl<|LX.l (fun _ hJ => LO.nc (.r rfl)) rfl<|LX.l (fun _ hJ => LO.fa (r := 2) F120_2 (.r rfl) rfl) rfl<|LX.l (fun _ hJ => LO.ld O3 (.r rfl) (cells_keep (sub_cells (off := 2) (case_read hh hcm) ⟨_, rfl⟩))) rfl<|LX.l (fun _ hJ => LO.sub (.r rfl) (.r rfl) (wi (by omega) (by omega))) rfl<|LX.s<|LX.nil) (HX.s<|HX.s<|HX.s<|HX.s<|HX.s<|HX.s<|HX.s<|HX.s<|HX.s<|HX.s<|HX.s<|HX.s<|HX.h0<|HO.mupI 0 (fun R => [R,_,_,_]) IM208 (.r rfl) (.r rfl) (.r rfl) rfl hE hSt (fun _ => rfl) fun es2 ck2 hE2 hSt2 => ⟨fun _ hw => hw.sel [1,2,3] rfl, HX.nil ?_⟩)
         refine VE.inN (VE.seqN<|VC.reg (VO.p rfl rfl (by omega) (by omega) rfl<|VO.m rfl rfl<|VO.nil<|VE.thenN fun a w ha hw => ⟨(j + 1, es2, ck2), ⟨by dsimp only; omega, by dsimp only; rw [hupd]; rw [hcb.1] at hE2; exact hE2, hSt2⟩, (by dsimp only; omega), ha.sub (.c4 rfl rfl rfl rfl (.c4 rfl rfl rfl rfl (.c4 rfl rfl rfl rfl (.cons rfl .nil)))), (by exact selK (L1 := [_,_,_,_]) [0,1,2,3] rfl rfl _ hw)⟩))
        ·
         obtain ⟨u, hu1, hu2⟩ := same_of hat h134
         have hsame := mapF_same (k := (r.i : Int)) hCx hNx hrg hic hu1 hu2
         refine VC.skip (VE.inN (VE.seqN<|VC.reg (VO.p rfl rfl (by omega) (by omega) rfl<|VO.m rfl rfl<|VO.nil<|VE.thenN fun a w ha hw => ⟨(j + 1, es, ck), ⟨by dsimp only; omega, by dsimp only; rw [hsame]; exact hE, hSt⟩, (by dsimp only; omega), ha.sub (.c4 rfl rfl rfl rfl (.c4 rfl rfl rfl rfl (.c4 rfl rfl rfl rfl (.cons rfl .nil)))), (by exact selK (L1 := [_,_,_,_]) [0,1,2,3] rfl rfl _ hw)⟩)))
       ·
        have hskip := mapF_skip (k := (r.i : Int)) (pix := r.x.r.pix) hCx hNx (fun q => h112 (inC_to q.1 q.2))
        refine VC.skip (VE.inN (VE.seqN<|VC.reg (VO.p rfl rfl (by omega) (by omega) rfl<|VO.m rfl rfl<|VO.nil<|VE.thenN fun a w ha hw => ⟨(j + 1, es, ck), ⟨by dsimp only; omega, by dsimp only; rw [hskip]; exact hE, hSt⟩, (by dsimp only; omega), ha.sub (.c4 rfl rfl rfl rfl (.c4 rfl rfl rfl rfl (.c4 rfl rfl rfl rfl (.cons rfl .nil)))), (by exact selK (L1 := [_,_,_,_]) [0,1,2,3] rfl rfl _ hw)⟩)))
      ·
       have hje : j = CS.length := by omega
       rw [hje, mapF_next] at hE
       refine VC.exit (VE.thenX (VE.thenX (VE.inX (VE.inN (VE.seqN<|VC.reg (VO.p rfl rfl (by omega) (by omega) rfl<|VO.m rfl rfl<|VO.nil<|VE.thenN fun a w ha hw => ⟨(i + 1, (bump 4 T), es, ck), ⟨by dsimp only; omega, by dsimp only; rw [hNT]; exact cnt_bump hT (kN_4 h47 h56 h62 h68), hE, hSt⟩, (by dsimp only; omega), ha.sub (.c4 rfl rfl rfl rfl (.c4 rfl rfl rfl rfl .nil)), (by exact selK (L1 := [_,_,_]) [2,0,3] rfl rfl _ hw)⟩))))))
 ·
  have hie : i = ns.length := by omega
  refine VC.exit (VE.thenX (VE.thenX (VE.inX (VE.seqN<|VC.q (VO.a rfl rfl<|VO.n<|VC.seq<|VC.q (VO.m rfl rfl<|VO.h rfl<|HO.rangeM Tryz.underlying192 rfl (fun _ hw => St.inv hw 1 _ rfl) fun b11 => VO.n<|VC.block<|VC.perm [1,0,2,3] rfl<|VC.loopK (α := (Array Nat) × Bool × Int × Int) 2 (fun gx => [(18, .bool gx.2.1)]) [(6,_), (7,_), (150,_)] (fun gx => [blk b2 (.cells #[.int .i64 T.h, .int .i64 T.m, .int .i64 T.a, .int .i64 T.q, .int .i64 T.o, .int .i64 gx.2.2.1, .int .i64 gx.2.2.2] 146), blk b11 (.mapIter (some b3) ck gx.1 ck)]) (fun gx => AhI es.toList gx.1 gx.2.1 gx.2.2.1 gx.2.2.2) (fun gx => (leftOf es gx.1).size) (#[], false, 0,0) (by exact ah_0) (.c4 rfl rfl rfl rfl .nil) (fun _ h => h) ?_))))))
  rintro ⟨seen, sm, lo, hi⟩ hA
  show VC _ _ _ _ _ ([(18, .bool sm)] ++ _) ([blk b2 (.cells #[.int .i64 T.h, .int .i64 T.m, .int .i64 T.a, .int .i64 T.q, .int .i64 T.o, .int .i64 lo, .int .i64 hi] 146), blk b11 (.mapIter (some b3) ck seen ck)] ++ _) _ _
  dsimp only at hA
  refine VC.seq ?_
  by_cases h0 : (leftOf es seen).size = 0
  ·
   refine VC.reg (VO.h rfl<|HO.nextM0 1 rfl rfl (fun _ hw => St.inv hw 2 _ rfl) hSt.2 (Nat.le_refl _) h0<|VO.h rfl<|HO.lo (LO.ex (.r rfl) rfl)<|VO.n<|VC.seq<|VC.cond rfl (fun h152 => ?_) (fun h152 => ?_))
   · (exfalso; cases h152)
   ·
    refine VC.exit (VE.thenX (VE.thenX (VE.inX (VE.seqN<|VC.q (VO.l (LO.lda (vs := [_,_,_,_,_,_,_]) A146 (.r rfl) (cells_blk 0 rfl ⟨_, rfl⟩) rfl) rfl<|VO.h0<|HO.st 3 (vs := [_,_,_,_,_,_,_]) (C' := [_,_,_,_,_,_,_]) (L' := [_,_,_,_]) N146 rfl rfl rfl rfl rfl rfl rfl rfl<|VO.n<|VC.ret (VE.res (vs := [_]) rfl ⟨RV.agg (vs := [_,_,_,_,_,_,_]) A146 rfl (cells_blk 3 rfl ⟨_, rfl⟩) rfl, trivial⟩ (fun w hw => ?_)))))))
    refine ⟨?_, hw.nil⟩
    rw [hie, ← hNL] at hE
    rw [hie, ← hNL, List.take_length] at hT
    obtain ⟨e1, e2⟩ := ah_end hA hE h0
    obtain ⟨g1, g2, g3, g4, g5⟩ := hT
    simp only [resV, talF, ← g1, ← g2, ← g3, ← g4, ← g5, ← e1, ← e2]
  ·
   refine VC.reg (VO.h rfl<|HO.nextM1 1 (fun R => [_, R,_,_]) rfl rfl (fun _ => rfl) (fun _ hw => St.inv hw 2 _ rfl) hSt.2 (Nat.le_refl _) h0 fun e he => VO.h rfl<|HO.lo (LO.ex (.r rfl) rfl)<|VO.n<|VC.seq<|VC.cond rfl (fun h152 => ?_) (fun h152 => ?_))
   ·
    refine VC.skip (VE.seqN<|VC.block<|VC.seq ?_)
    obtain ⟨kn, kv, hk1, hk2,_⟩ := hE.ent e (left_mem.1 he).1
    refine VC.reg (VO.l (LO.entryI (.r rfl) (fun _ hw => St.inv hw 1 _ rfl) (fun _ hw => St.inv hw 2 _ rfl) (left_mem.1 he).1 hSt.1 hk1 hk2) rfl<|VO.l (LO.ex (.r rfl) rfl) rfl<|VO.a rfl rfl<|VO.n<|VC.seq<|VC.q (VO.m rfl rfl<|VO.l (LO.not (.r rfl)) rfl<|VO.n<|VC.cond rfl (fun h156 => ?_) (fun h156 => ?_)))
    ·
     refine VC.reg (VO.m rfl rfl<|VO.m rfl rfl<|VO.l (LO.bd (ps := [(_,_), (_,_)]) (vs := [(_,_), (_,_)]) (C := [_,_]) B77  ⟨(.r rfl), (.r rfl), trivial⟩ rfl ⟨_, [_], [_,_], rfl, rfl, rfl, rfl, ⟨_, [_], [_,_], rfl, rfl, rfl, rfl, rfl⟩⟩) rfl<|VO.f (r := 5) F146_5 rfl rfl rfl<|VO.h0<|HO.st 0 (vs := [_,_]) (C' := [_,_,_,_,_,_,_]) (L' := [_,_,_,_]) N77 rfl rfl rfl rfl rfl rfl rfl rfl<|VO.n<|VC.q (VO.a rfl rfl<|VO.n<|VC.reg (VO.f (r := 5) F146_5 rfl rfl rfl<|VO.f (r := 5) F77_0 rfl rfl rfl<|VO.c 0 O3 rfl rfl ⟨_, rfl⟩ rfl<|VO.m rfl rfl<|VO.l (LO.min (.r rfl) (.r rfl)) rfl<|VO.f (r := 5) F146_5 rfl rfl rfl<|VO.f (r := 6) F77_1 rfl rfl rfl<|VO.c 0 O3 rfl rfl ⟨_, rfl⟩ rfl<|VO.m rfl rfl<|VO.l (LO.max (.r rfl) (.r rfl)) rfl<|VO.l (LO.bd (ps := [(_,_), (_,_)]) (vs := [(_,_), (_,_)]) (C := [_,_]) B77  ⟨(.r rfl), (.r rfl), trivial⟩ rfl ⟨_, [_], [_,_], rfl, rfl, rfl, rfl, ⟨_, [_], [_,_], rfl, rfl, rfl, rfl, rfl⟩⟩) rfl<|VO.f (r := 5) F146_5 rfl rfl rfl<|VO.h0<|HO.st 0 (vs := [_,_]) (C' := [_,_,_,_,_,_,_]) (L' := [_,_,_,_]) N77 rfl rfl rfl rfl rfl rfl rfl rfl<|VO.nil<|VE.inN<|VE.thenN fun a w ha hw => ⟨(seen.push e.born, true, (min kv kv), (max kv kv)), (by dsimp only; have hsm : sm = false := (by simpa using h156); subst hsm; exact ah_first hA hSt.1 (left_mem.1 he).1 hk2), (by dsimp only; exact left_lt he), ha.sub (.c4 rfl rfl rfl rfl .nil), (by exact selK (L1 := [_,_,_,_]) [0,1,2,3] rfl rfl _ hw)⟩)))
    ·
     refine VC.skip (VE.seqN<|VC.q (VO.a rfl rfl<|VO.n<|VC.reg (VO.f (r := 5) F146_5 rfl rfl rfl<|VO.f (r := 5) F77_0 rfl rfl rfl<|VO.c 0 O3 rfl rfl ⟨_, rfl⟩ rfl<|VO.m rfl rfl<|VO.l (LO.min (.r rfl) (.r rfl)) rfl<|VO.f (r := 5) F146_5 rfl rfl rfl<|VO.f (r := 6) F77_1 rfl rfl rfl<|VO.c 0 O3 rfl rfl ⟨_, rfl⟩ rfl<|VO.m rfl rfl<|VO.l (LO.max (.r rfl) (.r rfl)) rfl<|VO.l (LO.bd (ps := [(_,_), (_,_)]) (vs := [(_,_), (_,_)]) (C := [_,_]) B77  ⟨(.r rfl), (.r rfl), trivial⟩ rfl ⟨_, [_], [_,_], rfl, rfl, rfl, rfl, ⟨_, [_], [_,_], rfl, rfl, rfl, rfl, rfl⟩⟩) rfl<|VO.f (r := 5) F146_5 rfl rfl rfl<|VO.h0<|HO.st 0 (vs := [_,_]) (C' := [_,_,_,_,_,_,_]) (L' := [_,_,_,_]) N77 rfl rfl rfl rfl rfl rfl rfl rfl<|VO.nil<|VE.inN<|VE.thenN fun a w ha hw => ⟨(seen.push e.born, true, (min lo kv), (max hi kv)), (by dsimp only; have hsm : sm = true := (by simpa using h156); subst hsm; exact ah_more hA hSt.1 (left_mem.1 he).1 hk2), (by dsimp only; exact left_lt he), ha.sub (.c4 rfl rfl rfl rfl .nil), (by exact selK (L1 := [_,_,_,_]) [0,1,2,3] rfl rfl _ hw)⟩)))
   · (exfalso; exact h152 rfl)
theorem I112 : EInfo Tryz.prog 112 8 80 (.agg #[.int .i64 0, .int .i64 0, .int .i64 0, .int .i64 0, .int .i64 0, .int .i64 0, .slice none 0 0, .int .i64 0]) := ⟨by kernel_rfl, by kernel_rfl, by unfold ZeroOf; kernel_rfl, rfl, by decide⟩
theorem C70 : IsFn Tryz.prog 70 := ⟨_, Tryz.func70, by decide, rfl⟩
theorem S140 : IsSlice Tryz.prog 140 146 := Tryz.underlying140
theorem I146 : EInfo Tryz.prog 146 7 56 (.agg #[.int .i64 0, .int .i64 0, .int .i64 0, .int .i64 0, .int .i64 0, .int .i64 0, .int .i64 0]) := ⟨by kernel_rfl, by kernel_rfl, by unfold ZeroOf; kernel_rfl, rfl, by decide⟩
def LgM.nts : LgM → List NtM
  | .st _ _ _ _ => []
  | .nt t g p c vs lv => [⟨t, g, p, c, vs, lv⟩]
def ntsL (l : List LgM) : List NtM := l.flatMap LgM.nts
theorem ntsL_mem {l : List LgM} {n : NtM} : n ∈ ntsL l ↔ LgM.nt n.t n.g n.p n.c n.vs n.lv ∈ l := by
  unfold ntsL
  rw [List.mem_flatMap]
  constructor
  · rintro ⟨x, hx, h⟩
    cases x with
    | st => cases h
    | nt => rw [List.mem_singleton.1 h]; exact hx
  · exact fun h => ⟨_, h, by simp [LgM.nts]⟩
theorem ntsL_len {l : List LgM} : (ntsL l).length ≤ l.length := by
  induction l with
  | nil => exact Nat.le_refl _
  | cons x l ih =>
    have e : ntsL (x :: l) = LgM.nts x ++ ntsL l := rfl
    have h : (LgM.nts x).length ≤ 1 := by cases x <;> simp [LgM.nts]
    rw [e, List.length_append, List.length_cons]; omega
theorem ntsL_snoc {l : List LgM} {x : LgM} : ntsL (l ++ [x]) = ntsL l ++ LgM.nts x := by
  unfold ntsL; rw [List.flatMap_append]; simp
def onF (o : OfM) (r : RcM) (t : Int) : Bool := !decide (atLv o.ts r.lv t = 0)
def NtOk (o : OfM) : Prop := ∀ n, n ∈ ntsL o.lg → (0 ≤ n.t ∧ n.t ≤ 4294967296) ∧ ∀ r, r ∈ o.rc → ∀ p, p ∈ r.x.r.pix → 0 ≤ p ∧ p < (n.vs.length : Int)
def talsL (o : OfM) : List Tal := o.rc.map fun r => talF r.i r.x.r.pix (onF o r) (o.cs.map CsM.p) ((ntsL o.lg).map NtM.n)
theorem Score_c (o : OfM) (w : World) (hn : 0 < o.rc.length ∧ o.rc.length < 1000000) (hts : o.ts.length < 1000000) (hs : o.ts.Pairwise (· ≤ ·)) (hlv : ∀ r, r ∈ o.rc → r.lv.length = o.ts.length) (hcl : o.cs.length < 1000000000) (hcn : ∀ (j : Nat) (c : CsM), o.cs[j]? = some c → c.nm = (j : Int) + 1 ∧ 0 ≤ c.bg) (hlg : o.lg.length < 1000000000) (hrg : ∀ r, r ∈ o.rc → r.x ∈ o.rg ∧ r.x.r.pix.length < 1000000000000) (hnt : NtOk o) (hh : Has w (offR o)) :
 Calls Tryz.prog 49 #[ptrN o.b] w fun e w' => ∃ x : Option Addr × Nat, True ∧ e = .returned (.slice x.1 (talsL o).length x.2) ∧ St (bs w) [own 146 7 x.1 x.2 ((talsL o).map Tal.cells)] w' := by
 have hrr : RO 1 rcP w o.pc o.rc := RO.of_own hh 3 rfl
 have hlr : RO 1 LgM.val w o.pl o.lg := RO.of_own hh 8 rfl
 have hnlen := ntsL_len (l := o.lg)
 refine enter (vs := [_]) (env := [(0,_)]) Tryz.func49 rfl rfl rfl rfl ?_
 refine VC.q (VO.a rfl rfl<|VO.n<|VC.seq<|VC.q (VO.m rfl rfl<|VO.l (LO.call (xs := [_]) (vs := [_]) C30 ⟨(.r rfl), trivial⟩ (fun w hw => nothing_c o w (by omega) (off_cells (hh.keep hw)))) rfl<|VO.n<|VC.cond rfl (fun h12 => ?_) (fun h12 => ?_)))
 · (exfalso; omega)
 ·
  refine VC.skip (VE.seqN<|VC.q (VO.a rfl rfl<|VO.n<|VC.seq<|VC.q (VO.m rfl rfl<|VO.l (LO.nc (.r rfl)) rfl<|VO.f (r := 12) F92_4 rfl rfl rfl<|VO.l (LO.ld O90 (.r rfl) (cells_keep (sub_cells (off := 12) (off_cells hh) ⟨_, rfl⟩))) rfl<|VO.l (LO.len S90 (.r rfl) rfl) rfl<|VO.m rfl rfl<|VO.n<|VC.block<|VC.loopK (α := Nat × (List NtM) × (Option Addr) × Nat) 0 (fun gx => [(3, .slice gx.2.2.1 gx.2.1.length gx.2.2.2), (18, .int .i64 (gx.1 : Nat))]) [(0,_), (16,_), (17,_)] (fun gx => [own 112 8 gx.2.2.1 gx.2.2.2 (gx.2.1.map NtM.cells)]) (fun gx => gx.1 ≤ o.lg.length ∧ gx.2.1 = ntsL (o.lg.take gx.1)) (fun gx => o.lg.length - gx.1) (0, [], none, 0) (by exact ⟨Nat.zero_le _, rfl⟩) (.c4 rfl rfl rfl rfl (.cons rfl .nil)) (fun _ h => (h.ownNil 112 8)) ?_)))
  rintro ⟨j, xs, pn_, cn_⟩ ⟨hj, hX⟩
  show VC _ _ _ _ _ ([(3, .slice pn_ xs.length cn_), (18, .int .i64 (j : Nat))] ++ _) ([own 112 8 pn_ cn_ (xs.map NtM.cells)] ++ _) _ _
  dsimp only at hj hX
  have hxl : xs.length ≤ j := by rw [hX]; have := ntsL_len (l := o.lg.take j); rw [List.length_take] at this; omega
  refine VC.q (VO.t rfl rfl rfl<|VO.n<|VC.seq<|VC.cond rfl (fun h19 => ?_) (fun h19 => ?_))
  ·
   obtain ⟨x, hr⟩ : ∃ x, o.lg[j]? = some x := ⟨_, List.getElem?_eq_getElem (by omega)⟩
   have htk : o.lg.take (j + 1) = o.lg.take j ++ [x] := by rw [List.take_add_one, hr]; rfl
   refine VC.skip (VE.seqN<|VC.seq<|VC.block<|VC.seq ?_)
   rcases x with ⟨t, pc, cc, l⟩ | ⟨t, gg, pv, cv, vs, lv⟩
   ·
    refine VC.reg (VO.l (LO.ixs S90 N149 hlr.sm (.r rfl) (.r rfl) rfl (by omega)) rfl<|VO.l (LO.ld (v := .iface 118 (.agg #[.int .i64 t, .slice pc l.length cc])) O149 (.r rfl) (fun w hw => cells_part (off := 0) ((fun w2 hw2 => (hlr.keep w2 hw2).cells _ _ (by rw [List.getElem?_map, hr]; rfl)) w hw) ⟨_, rfl⟩)) rfl<|VO.a rfl rfl<|VO.n<|VC.q (VO.m rfl rfl<|VO.l (LO.taF ⟨_, Tryz.underlying112⟩ Z112 (.r rfl) (by decide)) rfl<|VO.m rfl rfl<|VO.l (LO.ex (.r rfl) rfl) rfl<|VO.l (LO.ex (.r rfl) rfl) rfl<|VO.h rfl<|HO.alloc (C := #[_,_,_,_,_,_,_,_]) Z112 rfl fun b2 => VO.h0<|HO.st 0 (vs := [_,_,_,_,_,_,_,_]) (C' := [_,_,_,_,_,_,_,_]) (L' := [_,_]) N112 rfl rfl rfl rfl rfl rfl rfl rfl<|VO.a rfl rfl<|VO.n<|VC.q (VO.m rfl rfl<|VO.n<|VC.cond rfl (fun h27 => ?_) (fun h27 => ?_))))
    · (exfalso; cases h27)
    ·
     refine VC.skip (VE.inN (VE.seqN<|VC.reg (VO.p rfl rfl (by omega) (by omega) rfl<|VO.m rfl rfl<|VO.nil<|VE.thenN fun a w ha hw => ⟨(j + 1, xs, pn_, cn_), ⟨by dsimp only; omega, by dsimp only; rw [htk, ntsL_snoc, hX]; first | rfl | exact (List.append_nil _).symm⟩, (by dsimp only; omega), ha.sub (.c4 rfl rfl rfl rfl (.cons rfl .nil)), (by exact selK (L1 := [_]) [1] rfl rfl _ hw)⟩)))
   ·
    refine VC.reg (VO.l (LO.ixs S90 N149 hlr.sm (.r rfl) (.r rfl) rfl (by omega)) rfl<|VO.l (LO.ld (v := .iface 112 (.agg #[.int .i64 t, .int .i64 gg.x, .int .i64 gg.y, .int .i64 gg.size, .int .i64 gg.wide, .int .i64 gg.high, .slice pv vs.length cv, .int .i64 lv])) O149 (.r rfl) (fun w hw => cells_part (off := 0) ((fun w2 hw2 => (hlr.keep w2 hw2).cells _ _ (by rw [List.getElem?_map, hr]; rfl)) w hw) ⟨_, rfl⟩)) rfl<|VO.a rfl rfl<|VO.n<|VC.q (VO.m rfl rfl<|VO.l (LO.taT ⟨_, Tryz.underlying112⟩ (.r rfl)) rfl<|VO.m rfl rfl<|VO.l (LO.ex (.r rfl) rfl) rfl<|VO.l (LO.ex (.r rfl) rfl) rfl<|VO.h rfl<|HO.alloc (C := #[_,_,_,_,_,_,_,_]) Z112 rfl fun b4 => VO.h0<|HO.st 0 (vs := [_,_,_,_,_,_,_,_]) (C' := [_,_,_,_,_,_,_,_]) (L' := [_,_]) N112 rfl rfl rfl rfl rfl rfl rfl rfl<|VO.a rfl rfl<|VO.n<|VC.q (VO.m rfl rfl<|VO.n<|VC.cond rfl (fun h27 => ?_) (fun h27 => ?_))))
    ·
     refine VC.reg (VO.m rfl rfl<|VO.l (LO.lda (vs := [_,_,_,_,_,_,_,_]) A112 (.r rfl) (cells_blk 0 rfl ⟨_, rfl⟩) rfl) rfl<|VO.h rfl<|HO.bs (ps := [(_,_)]) (vs := [(_,_)]) (Z := [_,_,_,_,_,_,_,_]) (C := [_,_,_,_,_,_,_,_]) S169 Z112 N112 ⟨(.r rfl), trivial⟩ rfl rfl rfl rfl ⟨_, [_,_,_,_,_,_,_,_], [_,_,_,_,_,_,_,_], rfl, rfl, rfl, rfl, rfl⟩ fun b6 => VO.h rfl<|HO.appT ((⟨t, gg, pv, cv, vs, lv⟩ : NtM)) 2 0 (fun R => [_,_, R]) S169 S169 I112 (.r rfl) (.r rfl) rfl rfl rfl rfl rfl rfl rfl (fun _ => rfl) rfl (by omega) fun p3 c3 => VO.h rfl<|HO.lo (LO.as (.r rfl))<|VO.nil<|VE.inN (VE.seqN<|VC.reg (VO.p rfl rfl (by omega) (by omega) rfl<|VO.m rfl rfl<|VO.nil<|VE.thenN fun a w ha hw => ⟨(j + 1, xs ++ [(⟨t, gg, pv, cv, vs, lv⟩ : NtM)], p3, c3), ⟨by dsimp only; omega, by dsimp only; rw [htk, ntsL_snoc, hX]; first | rfl | exact (List.append_nil _).symm⟩, (by dsimp only; omega), ha.sub (.c4 rfl rfl rfl rfl (.cons rfl .nil)), (by exact selK (L1 := [_]) [2] rfl rfl _ hw)⟩)))
    · (exfalso; exact h27 rfl)
  ·
   have hxe : xs = ntsL o.lg := by rw [hX, List.take_of_length_le (by omega)]
   subst hxe
   refine VC.exit (VE.thenX (VE.thenX (VE.inX (VE.seqN<|VC.q (VO.a rfl rfl<|VO.n<|VC.seq<|VC.q (VO.m rfl rfl<|VO.l (LO.nc (.r rfl)) rfl<|VO.f (r := 9) F92_1 rfl rfl rfl<|VO.l (LO.ld O88 (.r rfl) (cells_keep (sub_cells (off := 9) (off_cells hh) ⟨_, rfl⟩))) rfl<|VO.l (LO.len S88 (.r rfl) rfl) rfl<|VO.m rfl rfl<|VO.n<|VC.block<|VC.loopK (α := Nat × (List Tal) × (Option Addr) × Nat) 0 (fun gx => [(8, .slice gx.2.2.1 gx.2.1.length gx.2.2.2), (38, .int .i64 (gx.1 : Nat))]) [(0,_), (3,_), (36,_), (37,_)] (fun gx => [own 146 7 gx.2.2.1 gx.2.2.2 (gx.2.1.map Tal.cells)]) (fun gx => gx.1 ≤ o.rc.length ∧ gx.2.1 = (talsL o).take gx.1) (fun gx => o.rc.length - gx.1) (0, [], none, 0) (by exact ⟨Nat.zero_le _, rfl⟩) (.c4 rfl rfl rfl rfl (.cons rfl (.cons rfl .nil))) (fun _ h => (h.ownNil 146 7)) ?_))))))
   rintro ⟨j, xs, px_, cx_⟩ ⟨hj, hX⟩
   show VC _ _ _ _ _ ([(8, .slice px_ xs.length cx_), (38, .int .i64 (j : Nat))] ++ _) ([own 146 7 px_ cx_ (xs.map Tal.cells)] ++ _) _ _
   dsimp only at hj hX
   have hxl : xs.length ≤ j := by rw [hX, List.length_take]; omega
   refine VC.q (VO.t rfl rfl rfl<|VO.n<|VC.seq<|VC.cond rfl (fun h39 => ?_) (fun h39 => ?_))
   ·
    obtain ⟨r, hr⟩ : ∃ r, o.rc[j]? = some r := ⟨_, List.getElem?_eq_getElem (by omega)⟩
    have hrm : r ∈ o.rc := List.mem_of_getElem? hr
    refine VC.skip (VE.seqN<|VC.seq<|VC.block<|VC.q (VO.l (LO.ixs S88 N94 hrr.sm (.r rfl) (.r rfl) rfl (by omega)) rfl<|VO.l (LO.ld O94 (.r rfl) (fun w hw => cells_part (off := 0) ((fun w2 hw2 => (hrr.keep w2 hw2).cells _ _ (by rw [List.getElem?_map, hr]; rfl)) w hw) ⟨_, rfl⟩)) rfl<|VO.a rfl rfl<|VO.n<|VC.reg (VO.m rfl rfl<|VO.m rfl rfl<|VO.m rfl rfl<|VO.m rfl rfl<|VO.l (LO.call (xs := [_,_,_]) (vs := [_,_,_]) C70 ⟨(.r rfl), (.r rfl), (.r rfl), trivial⟩ (fun w2 hw2 => score_c o r (ntsL o.lg) pn_ cn_ (onF o r) w2 hrm (hlv r hrm) hts hs hcl hcn (by omega) (hrg r hrm).2 (fun t => rfl) (fun n hn2 => ⟨(hnt n hn2).1, own_inv_rows ((St.inv (hh.keep hw2) 9 _ rfl).1 _ (List.mem_flatMap.2 ⟨_, ntsL_mem.1 hn2, .head _⟩)), (hnt n hn2).2 r hrm⟩) (pix_read (St.inv (hh.keep hw2) 2 _ rfl) (hrg r hrm).1) (hh.keep hw2) (own_rows hw2 1 rfl))) rfl<|VO.h rfl<|HO.bs (ps := [(_,_)]) (vs := [(_,_)]) (Z := [_,_,_,_,_,_,_]) (C := [_,_,_,_,_,_,_]) S140 Z146 N146 ⟨(.r rfl), trivial⟩ rfl rfl rfl rfl ⟨_, [_,_,_,_,_,_,_], [_,_,_,_,_,_,_], rfl, rfl, rfl, rfl, rfl⟩ fun b8 => VO.h rfl<|HO.appT ((talF r.i r.x.r.pix (onF o r) (o.cs.map CsM.p) ((ntsL o.lg).map NtM.n))) 1 0 (fun R => [_, R,_]) S140 S140 I146 (.r rfl) (.r rfl) rfl rfl rfl rfl rfl rfl rfl (fun _ => rfl) rfl (by omega) fun p6 c6 => VO.h rfl<|HO.lo (LO.as (.r rfl))<|VO.nil<|VE.inN (VE.seqN<|VC.reg (VO.p rfl rfl (by omega) (by omega) rfl<|VO.m rfl rfl<|VO.nil<|VE.thenN fun a w ha hw => ⟨(j + 1, xs ++ [talF r.i r.x.r.pix (onF o r) (o.cs.map CsM.p) ((ntsL o.lg).map NtM.n)], p6, c6), ⟨by dsimp only; omega, by dsimp only; rw [List.take_add_one, hX]; unfold talsL; rw [List.getElem?_map, hr]; rfl⟩, (by dsimp only; omega), ha.sub (.c4 rfl rfl rfl rfl (.cons rfl (.cons rfl .nil))), (by exact selK (L1 := [_,_]) [1,2] rfl rfl _ hw)⟩)))))
   ·
    refine VC.exit (VE.thenX (VE.thenX (VE.inX (VE.seqN<|VC.q (VO.m rfl rfl<|VO.a rfl rfl<|VO.n<|VC.ret (VE.s rfl rfl (fun w hw => ?_)))))))
    have hx2 : xs = talsL o := by rw [hX, List.take_of_length_le (by simp [talsL]; omega)]
    rw [← hx2]
    exact ⟨(px_, cx_), trivial, rfl, hw.sel [0] rfl⟩
def ntE (x : EnP) : List Nt := if x.lv = 0 then [] else [⟨x.t, x.vs, x.lv⟩]
def ntP (l : List EnP) : List Nt := l.flatMap ntE
theorem ntP_snoc {l : List EnP} {x : EnP} : ntP (l ++ [x]) = ntP l ++ ntE x := by unfold ntP; rw [List.flatMap_append]; simp
structure PlB (s : Sp) (l : List EnP) (o : OfM) (n : Nat) : Prop where
  a : PlA s l o n
  nt : (ntsL o.lg).map NtM.n = ntP (l.take n)
  ok : NtOk o
  nz : ∀ m, m ∈ ntsL o.lg → ¬ m.lv = 0
theorem ntsL_st {t : Int} {p : Option Addr} {c : Nat} {l : List CP} {ls : List LgM} : ntsL (ls ++ [.st t p c l]) = ntsL ls := by rw [ntsL_snoc]; exact List.append_nil _
theorem PlB.step {s : Sp} {l : List EnP} {o : OfM} {n : Nat} {x : EnP} {y : StepY} (h : PlB s l o n) (hx : l[n]? = some x) (hlv : x.lv = 0) (hb : x.l.length < 1000000000 ∧ ∀ c, c ∈ x.l → c.sure.length < 1000000000000 ∧ c.may.length < 1000000000000) (hp : StepP o x.t x.l y) (hs : SimO (y.o o x.t) (stP s (l.take n) ++ [⟨x.t, thsP o.sp x.l⟩])) : PlB s l (y.o o x.t) (n + 1) := by
  have ha := h.a.step hx hlv hb hp hs
  have hl : ntsL (y.o o x.t).lg = ntsL o.lg := by
    obtain ⟨_, p, c, m, e1, e2⟩ := hp
    show ntsL (o.lg ++ [y.lg]) = _
    rw [e1, ntsL_st]
  refine ⟨ha, by rw [hl, h.nt, take_en hx, ntP_snoc]; unfold ntE; rw [if_pos hlv, List.append_nil], fun q hq => ?_, by rw [hl]; exact h.nz⟩
  rw [hl] at hq
  obtain ⟨h1, h2⟩ := h.ok q hq
  refine ⟨h1, fun r hr p hp' => ?_⟩
  -- the records' regions are those that were there
  have w1 := h.a.sim.wf
  have w2 := ha.sim.wf
  obtain ⟨k, hk⟩ := List.mem_iff_getElem?.1 hr
  have i2 := (w2.idx k r hk).1
  have hk1 : k < o.rc.length := by
    have := (List.getElem?_eq_some_iff.1 hk).1
    rw [w2.len] at this; rw [w1.len]; exact this
  have i1 := (w1.idx k _ (List.getElem?_eq_getElem hk1)).1
  have e : (y.o o x.t).rg = o.rg := rfl
  rw [e] at i2
  rw [i2] at i1
  have := Option.some.inj i1
  exact h2 _ (List.getElem_mem hk1) p (by rw [← this]; exact hp')
theorem PlB.note {s : Sp} {l : List EnP} {o : OfM} {n : Nat} {x : EnP} {p q : Option Addr} {c d : Nat} (h : PlB s l o n) (hx : l[n]? = some x) (hlv : ¬ x.lv = 0) (he : enE s (l.take n) x = 0) : PlB s l { o with lg := o.lg ++ [LgM.nt x.t x.g p c x.vs x.lv], pl := q, cl := d } (n + 1) := by
  have hne := h.a.nt hlv
  rw [he] at hne
  obtain ⟨k1, k2, k3, k4, k5⟩ := noteOk hne
  have hlen : (x.vs.length : Int) = x.g.wide * x.g.high := by
    unfold fieldE at k3
    split at k3
    · omega
    · split at k3
      · omega
      · rename_i z; exact Classical.not_not.1 z
  refine ⟨h.a.note hx hlv (by exact field_len k3), ?_, fun m hm => ?_, fun m hm => ?_⟩
  · show (ntsL (o.lg ++ [_])).map NtM.n = _
    rw [ntsL_snoc, List.map_append, h.nt, take_en hx, ntP_snoc]
    unfold ntE
    rw [if_neg hlv]; rfl
  · change m ∈ ntsL (o.lg ++ [_]) at hm
    rw [ntsL_snoc] at hm
    rcases List.mem_append.1 hm with z | z
    · exact h.ok m z
    · have := List.mem_singleton.1 z; subst this
      refine ⟨k1, fun r hr p hp => ?_⟩
      have w1 := h.a.sim.wf
      obtain ⟨k, hk⟩ := List.mem_iff_getElem?.1 hr
      have hkl : k < o.rg.length := by rw [← w1.len]; exact (List.getElem?_eq_some_iff.1 hk).1
      have hs := (specOk w1.spec).2.2.2.1 k (by show k < (o.rg.map RG.r).length; rw [List.length_map]; exact hkl)
      have e : o.sp.regs.getD k default = r.x.r := by
        show (o.rg.map RG.r).getD k default = _
        rw [List.getD_eq_getElem?_getD, List.getElem?_map, (w1.idx k r hk).1]; rfl
      rw [e] at hs
      simp only [List.cons.injEq, and_true] at k4
      show 0 ≤ p ∧ p < (x.vs.length : Int)
      rw [hlen, k4.2.2.2.1, k4.2.2.2.2]
      obtain ⟨i, hi, rfl⟩ := List.getElem_of_mem hp
      have z := pix_in hs hi
      rw [List.getD_eq_getElem?_getD, List.getElem?_eq_getElem hi] at z
      change 0 ≤ r.x.r.pix[i] ∧ r.x.r.pix[i] ≤ o.g.wide * o.g.high - 1 at z
      omega
  · change m ∈ ntsL (o.lg ++ [_]) at hm
    rw [ntsL_snoc] at hm
    rcases List.mem_append.1 hm with z | z
    · exact h.nz m z
    · have := List.mem_singleton.1 z; subst this; exact hlv
theorem bg_step {k : Nat} {b m T : Int} {cs : List Cs} (h : ∀ c, c ∈ cs → 0 ≤ c.bg) (hT : 0 ≤ T) : ∀ c, c ∈ stepC k b m T cs → 0 ≤ c.bg := by
  unfold stepC
  split
  · exact h
  · split
    · intro c hc
      rcases List.mem_append.1 hc with q | q
      · exact h c q
      · rw [List.mem_singleton.1 q]; exact hT
    · intro c hc
      obtain ⟨d, hd, rfl⟩ := List.mem_map.1 hc
      have := h d hd
      split
      · exact this
      · exact this
theorem bg_run {H : Int} {st : List Stp} {s : Stp} {cs : List Cs} (h : ∀ c, c ∈ cs → 0 ≤ c.bg) (hT : 0 ≤ s.t) : ∀ j, ∀ c, c ∈ runC H st s cs j → 0 ≤ c.bg
  | 0 => h
  | j + 1 => bg_step (bg_run h hT j) hT
theorem bg_all {H : Int} {n : Nat} {st : List Stp} (h : ∀ x, x ∈ st → 0 ≤ x.t) : ∀ m, m ≤ st.length → ∀ c, c ∈ csA H n st m → 0 ≤ c.bg
  | 0,_ => fun c hc => by cases hc
  | m + 1, hm => bg_run (bg_all h m (by omega)) (h _ (getD_mem (by omega))) n
def onP (s : Sp) (l : List EnP) (k : Nat) (t : Int) : Bool := !decide (atLv (tsP l) (lvL s.hold k (stP s l)) t = 0)
def talP (s : Sp) (l : List EnP) (k : Nat) : Tal := talF k (s.regs.getD k default).pix (onP s l k) (csF s.hold s.regs.length (stP s l)) (ntP l)
def talsP (s : Sp) (l : List EnP) : List Tal := (List.range s.regs.length).map (talP s l)
theorem PlA.hold {s : Sp} {l : List EnP} {o : OfM} {n : Nat} (h : PlA s l o n) : o.hold = s.hold := congrArg Sp.hold h.sp
theorem PlA.n {s : Sp} {l : List EnP} {o : OfM} {n : Nat} (h : PlA s l o n) : o.rc.length = s.regs.length := by rw [n_eq h.sim.wf, h.sp]
theorem PlA.cs {s : Sp} {l : List EnP} {o : OfM} {n : Nat} (h : PlA s l o n) : o.cs.map CsM.p = csF s.hold s.regs.length (stP s (l.take n)) := by rw [h.sim.cs, h.hold, h.n]
theorem PlB.tals {s : Sp} {l : List EnP} {o : OfM} {n : Nat} (h : PlB s l o n) : talsL o = talsP s (l.take n) := by
  unfold talsL talsP
  refine List.ext_getElem? fun k => ?_
  rw [List.getElem?_map, List.getElem?_map]
  rcases Nat.lt_or_ge k o.rc.length with q | q
  · rw [List.getElem?_eq_getElem q, List.getElem?_range (by rw [← h.a.n]; exact q)]
    simp only [Option.map_some]
    have hi := h.a.sim.wf.idx k _ (List.getElem?_eq_getElem q)
    have hr := h.a.sim.rcs k _ (List.getElem?_eq_getElem q)
    have hp : (s.regs.getD k default).pix = (o.rc[k]).x.r.pix := by
      rw [← h.a.sp]
      show ((o.rg.map RG.r).getD k default).pix = _
      rw [List.getD_eq_getElem?_getD, List.getElem?_map, hi.1]; rfl
    have ho : onF o o.rc[k] = onP s (l.take n) k := by
      funext t
      unfold onF onP
      rw [hr.2.1, h.a.hold, h.a.ts]
    unfold talP
    rw [hi.2, hp, ho, h.nt, h.a.cs]
  · rw [List.getElem?_eq_none q, List.getElem?_eq_none (by rw [List.length_range, ← h.a.n]; exact q)]; rfl
theorem PlA.cnum {s : Sp} {l : List EnP} {o : OfM} {n : Nat} (h : PlA s l o n) : ∀ (j : Nat) (c : CsM), o.cs[j]? = some c → c.nm = (j : Int) + 1 ∧ 0 ≤ c.bg := fun j c hc => by
  have ht : ∀ x, x ∈ stP s (l.take n) → x.t ≠ never := fun x hx => by
    have := h.sim.tb x.t (by rw [h.sim.ts]; exact List.mem_map_of_mem hx)
    unfold never; omega
  have hok := csOk_all (H := o.hold) (n := o.rc.length) _ ht
  rw [← h.sim.cs] at hok
  refine ⟨hok.nm j c.p (by rw [List.getElem?_map, hc]; rfl), ?_⟩
  have hb := bg_all (H := o.hold) (n := o.rc.length) (st := stP s (l.take n)) (fun x hx => (h.sim.tb x.t (by rw [h.sim.ts]; exact List.mem_map_of_mem hx)).1) _ (Nat.le_refl _)
  have : c.p ∈ csF o.hold o.rc.length (stP s (l.take n)) := by rw [← h.sim.cs]; exact List.mem_map_of_mem (List.mem_of_getElem? hc)
  exact hb _ this
theorem F103_2 : FieldAt Tryz.prog 103 2 10 := ⟨_,_, Tryz.underlying103, rfl, rfl, 0, by kernel_rfl⟩
theorem F103_0 : FieldAt Tryz.prog 103 0 0 := ⟨_,_, Tryz.underlying103, rfl, rfl, 8, by kernel_rfl⟩
theorem F103_3 : FieldAt Tryz.prog 103 3 11 := ⟨_,_, Tryz.underlying103, rfl, rfl, 0, by kernel_rfl⟩
theorem O101 : IsOne Tryz.prog 101 := ⟨⟨_, Tryz.underlying101, rfl⟩, by kernel_rfl⟩
theorem S101 : IsSlice Tryz.prog 101 131 := Tryz.underlying101
theorem N131 : (Tryz.prog.info? 131).map (·.size) = some 1 := by kernel_rfl
theorem O131 : IsOne Tryz.prog 131 := ⟨⟨_, Tryz.underlying131, rfl⟩, by kernel_rfl⟩
structure DoM where
  b : Nat
  g : Grid
  rg : List RG
  pg : Option Addr
  cg : Nat
  lead : Int
  step : Int
  hold : Int
  lg : List EnM
  pl : Option Addr
  cl : Nat
  ts : List Int
  pt : Option Addr
  ct : Nat
  th : List (RowA Thr)
  ph : Option Addr
  ch : Nat
abbrev DoM.C (o : DoM) : List Value := [.int .i64 o.g.x, .int .i64 o.g.y, .int .i64 o.g.size, .int .i64 o.g.wide, .int .i64 o.g.high, .slice o.pg o.rg.length o.cg, .int .i64 o.lead, .int .i64 o.step, .int .i64 o.hold, .slice o.pl o.lg.length o.cl, .slice o.pt o.ts.length o.ct, .slice o.ph o.th.length o.ch]
def EnM.rres (x : EnM) : List Res := [own 107 7 x.pc x.cc (x.l.map CP.cells), bagD (x.l.flatMap cpR), own 77 2 x.pv x.cv (x.vs.map Span.cells)]
abbrev dofR (o : DoM) : List Res := [blk o.b (.cells o.C.toArray 103), own 100 2 o.pg o.cg (o.rg.map RG.cells), bagD (o.rg.map pixR), own 55 9 o.pl o.cl (o.lg.map EnM.cells), bagD (o.lg.flatMap EnM.rres), own 3 1 o.pt o.ct (o.ts.map iC), own 131 1 o.ph o.ch (o.th.map rowC), bagR 168 3 thrC o.th]
def DoM.sp (o : DoM) : Sp := ⟨o.g, o.rg.map RG.r, o.lead, o.step, o.hold⟩
structure DoS (o : DoM) (st : List Stp) : Prop where
  ts : o.ts = st.map Stp.t
  th : o.th.map RowA.l = st.map Stp.th
  len : st.length ≤ 256
  tb : ∀ s, s ∈ st → 0 ≤ s.t ∧ s.t ≤ 4294967296
  rl : ∀ s, s ∈ st → s.th.length = o.rg.length
  hd : 0 ≤ o.hold ∧ o.hold ≤ 1000000
  rn : 0 < o.rg.length ∧ o.rg.length ≤ 32
def lvX (H T : Int) (k : Nat) (l : List Stp) : Int := l.foldl (fun m s => if T - H ≤ s.t then max m (s.th.getD k zT).lv else m) 0
theorem lvX_snoc {H T : Int} {k : Nat} {l : List Stp} {s : Stp} : lvX H T k (l ++ [s]) = if T - H ≤ s.t then max (lvX H T k l) (s.th.getD k zT).lv else lvX H T k l := by
  unfold lvX; rw [List.foldl_append]; rfl
theorem lvX_keep {H T : Int} {k : Nat} : ∀ (l : List Stp) (m : Int), l.foldl (fun m s => if T - H ≤ s.t then max m (s.th.getD k zT).lv else m) m = (keepR T H (histR k l)).foldl (fun m x => max m x.lv) m
  | [], m => rfl
  | s :: l, m => by
    have ih := lvX_keep (H := H) (T := T) (k := k) l
    unfold histR keepR at ih ⊢
    rw [List.foldl_cons, List.map_cons, List.filter_cons, ih]
    by_cases q : T - H ≤ s.t
    · rw [if_pos q, if_pos (by unfold oldR; simp; omega), List.foldl_cons]
    · rw [if_neg q, if_neg (by unfold oldR; simp; omega)]
theorem lvX_eq {H : Int} {k : Nat} {l : List Stp} : lvX H (lastT l) k l = lvS H k l := lvX_keep l 0
theorem dof_cells {o : DoM} {w : World} (hh : Has w (dofR o)) : Cells w ⟨o.b, 0, none⟩ o.C := cells_inv (St.inv hh 0 _ rfl)
theorem dof_rows {o : DoM} {w : World} (hh : Has w (dofR o)) : RR 3 thrC w o.ph o.th := RR.of_own hh 6 7 rfl rfl
theorem DoS.tsl {o : DoM} {st : List Stp} (h : DoS o st) : o.ts.length = st.length := by rw [h.ts, List.length_map]
theorem DoS.thl {o : DoM} {st : List Stp} (h : DoS o st) : o.th.length = st.length := by rw [← List.length_map (f := RowA.l), h.th, List.length_map]
theorem DoS.tget {o : DoM} {st : List Stp} (h : DoS o st) {j : Nat} (hj : j < st.length) : o.ts.getD j 0 = (st.getD j zS).t := by
  rw [h.ts, List.getD_eq_getElem?_getD, List.getElem?_map, List.getD_eq_getElem?_getD, List.getElem?_eq_getElem hj]; rfl
theorem DoS.thget {o : DoM} {st : List Stp} (h : DoS o st) {j : Nat} (hj : j < st.length) : (o.th.getD j RowA.z).l = (st.getD j zS).th := by
  have e := congrArg (fun l : List (List Thr) => l[j]?) h.th
  rw [List.getElem?_map, List.getElem?_map, List.getElem?_eq_getElem (by rw [h.thl]; exact hj), List.getElem?_eq_getElem hj] at e
  rw [List.getD_eq_getElem?_getD, List.getD_eq_getElem?_getD, List.getElem?_eq_getElem (by rw [h.thl]; exact hj), List.getElem?_eq_getElem hj]
  exact Option.some.inj e
theorem DoS.tbd {o : DoM} {st : List Stp} (h : DoS o st) {j : Nat} (hj : j < st.length) : 0 ≤ o.ts.getD j 0 ∧ o.ts.getD j 0 ≤ 4294967296 := by
  rw [h.tget hj]; exact h.tb _ (getD_mem hj)
theorem dof_th {o : DoM} {st : List Stp} {w : World} (hh : Has w (dofR o)) (h : DoS o st) {j k : Nat} (hj : j < st.length) (hk : k < o.rg.length) : (o.th.getD j RowA.z).l.length = o.rg.length ∧ (o.th.getD j RowA.z).l[k]? = some ((st.getD j zS).th.getD k zT) := by
  have e := h.thget hj
  have hl := h.rl _ (getD_mem (d := zS) hj)
  rw [e]
  refine ⟨hl, ?_⟩
  rw [List.getD_eq_getElem?_getD (l := (st.getD j zS).th), List.getElem?_eq_getElem (by omega)]; rfl
theorem DoS.lvs {o : DoM} {st : List Stp} (h : DoS o st) {H T : Int} {k i : Nat} (hi : i < st.length) : lvX H T k (st.take (i + 1)) = if T - H ≤ o.ts.getD i 0 then max (lvX H T k (st.take i)) ((o.th.getD i RowA.z).l.getD k zT).lv else lvX H T k (st.take i) := by
  rw [List.take_add_one, List.getElem?_eq_getElem hi]
  show lvX H T k (st.take i ++ [st[i]]) = _
  rw [lvX_snoc, h.tget hi, h.thget hi, List.getD_eq_getElem?_getD (l := st), List.getElem?_eq_getElem hi]; rfl
theorem rlevel_c (o : DoM) (st : List Stp) (k n : Nat) (w : World) (hd : DoS o st) (hk : k < o.rg.length) (hn : n ≤ st.length) (hh : Has w (dofR o)) :
  Calls Tryz.prog 68 #[ptrN o.b, .int .i64 (k : Nat), .int .i64 ((n : Nat) - 1 : Int)] w fun e w' => e = .returned (.int .i64 (lvS o.hold k (st.take n))) ∧ St (bs w) [] w' := by
  have hTs : RO 1 iC w o.pt o.ts := RO.of_own hh 5 rfl
  have hTh := dof_rows hh
  have htl := hd.tsl
  have hhl := hd.thl
  obtain ⟨hh0, hh1⟩ := hd.hd
  have hsl := hd.len
  obtain ⟨hrn0, hrn1⟩ := hd.rn
  obtain ⟨T, hT⟩ : ∃ T, T = o.ts.getD (n - 1) 0 := ⟨_, rfl⟩
  have hT3 : 0 < n → lastT (st.take n) = T := fun h => by rw [hT, hd.tget (by omega)]; unfold lastT; rw [List.length_take, Nat.min_eq_left hn, List.getD_eq_getElem?_getD, List.getElem?_take, if_pos (by omega), ← List.getD_eq_getElem?_getD]
  refine enter (vs := [_,_,_]) (env := [(0,_), (1,_), (2,_)]) Tryz.func68 rfl rfl rfl rfl ?_
  refine VC.q (VO.a rfl rfl<|VO.n<|VC.q (VO.a rfl rfl<|VO.n<|VC.seq<|VC.q (VO.a rfl rfl<|VO.n<|VC.block<|VC.loopK (α := Nat) 0 (fun gx => [(7, .int .i64 (lvX o.hold T k (st.take gx))), (8, .int .i64 (gx : Nat))]) [(0,_), (1,_), (2,_)] (fun gx => []) (fun gx => gx ≤ n) (fun gx => n - gx) 0 (by omega) (.c4 rfl rfl rfl rfl (.cons rfl .nil)) (fun _ h => h) ?_)))
  rintro i hi
  refine VC.seq<|VC.q (VO.m rfl rfl<|VO.m rfl rfl<|VO.l (LO.le (.r rfl) (.r rfl)) rfl<|VO.n<|VC.cond rfl (fun h11 => ?_) (fun h11 => ?_))
  ·
    have hin : i < n := by omega
    have htb := hd.tbd (j := i) (by omega)
    have htb2 := hd.tbd (j := n - 1) (by omega)
    have hee := dof_th hh hd (j := i) (k := k) (by omega) hk
    have hte := (hTh.2 _ (getD_mem (d := RowA.z) (l := o.th) (j := i) (by omega))).2
    have htg := hd.tget (j := i) (by omega)
    refine VC.skip (VE.seqN<|VC.seq<|VC.block<|VC.seq<|VC.draw mixed (LL.m rfl rfl<|LL.l (LO.nc (.r rfl)) rfl<|LL.l (LO.fa (r := 10) F103_2 (.r rfl) rfl) rfl<|LL.l (LO.ld O72 (.r rfl) (cells_keep (sub_cells (off := 10) (dof_cells hh) ⟨_, rfl⟩))) rfl<|LL.m rfl rfl<|LL.l (LO.ixs S72 N3 hTs.sm (.r rfl) (.r rfl) rfl (by omega)) rfl<|LL.l (LO.ld O3 (.r rfl) (fun w hw => cells_part (off := 0) ((hTs.at 0 (j := i) (by omega)) w hw) ⟨_, rfl⟩)) rfl<|LL.m rfl rfl<|LL.l (LO.nc (.r rfl)) rfl<|LL.l (LO.fa (r := 10) F103_2 (.r rfl) rfl) rfl<|LL.l (LO.ld O72 (.r rfl) (cells_keep (sub_cells (off := 10) (dof_cells hh) ⟨_, rfl⟩))) rfl<|LL.m rfl rfl<|LL.l (LO.ixs S72 N3 hTs.sm (.r rfl) (.r rfl) (by omega) (by omega)) rfl<|LL.l (LO.ld O3 (.r rfl) (fun w hw => cells_part (off := 0) ((hTs.at 0 (j := (n - 1)) (by omega)) w hw) ⟨_, rfl⟩)) rfl<|LL.m rfl rfl<|LL.l (LO.nc (.r rfl)) rfl<|LL.l (LO.fa (r := 0) F103_0 (.r rfl) rfl) rfl<|LL.l (LO.fa (r := 6) F42_2 (.r rfl) rfl) rfl<|LL.l (LO.fa (r := 8) F40_2 (.r rfl) rfl) rfl<|LL.l (LO.ld O3 (.r rfl) (cells_keep (sub_cells (off := 8) (dof_cells hh) ⟨_, rfl⟩))) rfl<|LL.l (LO.sub (.r rfl) (.r rfl) (wi (by omega) (by omega))) rfl<|LL.l (LO.ge (.r rfl) (.r rfl)) rfl<|LL.nil) (by kernel_rfl)<|VE.seqN<|VC.cond rfl (fun h35 => ?_) (fun h35 => ?_))
    ·
      have hv := (hd.lvs (H := o.hold) (T := T) (k := k) (i := i) (by omega)).trans (if_pos (by rw [hT]; omega))
      refine VC.reg (VO.m rfl rfl<|VO.m rfl rfl<|VO.l (LO.nc (.r rfl)) rfl<|VO.f (r := 11) F103_3 rfl rfl rfl<|VO.l (LO.ld O101 (.r rfl) (cells_keep (sub_cells (off := 11) (dof_cells hh) ⟨_, rfl⟩))) rfl<|VO.m rfl rfl<|VO.l (LO.ixs S101 N131 hTh.1.sm (.r rfl) (.r rfl) rfl (by omega)) rfl<|VO.l (LO.ld O131 (.r rfl) (fun w hw => cells_part (off := 0) ((hTh.1.at RowA.z (j := i) (by omega)) w hw) ⟨_, rfl⟩)) rfl<|VO.m rfl rfl<|VO.l (LO.ixs S131 N168 hte.sm (.r rfl) (.r rfl) rfl (by omega)) rfl<|VO.f F168_0 rfl rfl rfl<|VO.l (LO.ld O3 (.r rfl) (fun w hw => cells_part (off := 0) ((hte.at zT (j := k) (by omega)) w hw) ⟨_, rfl⟩)) rfl<|VO.l (LO.max (.r rfl) (.r rfl)) rfl<|VO.a rfl rfl<|VO.nil<|VE.inN (VE.seqN<|VC.reg (VO.m rfl rfl<|VO.p rfl rfl (by omega) (by omega) rfl<|VO.a rfl rfl<|VO.nil<|VE.thenN fun a w ha hw => ⟨i + 1, (by omega), (by omega), ha.sub (.cons (congrArg (fun z => some (Value.int .i64 z)) hv.symm) (.c4 rfl rfl rfl rfl .nil)), hw⟩)))
    ·
      have hv := (hd.lvs (H := o.hold) (T := T) (k := k) (i := i) (by omega)).trans (if_neg (by rw [hT]; omega))
      refine VC.skip (VE.inN (VE.seqN<|VC.reg (VO.m rfl rfl<|VO.p rfl rfl (by omega) (by omega) rfl<|VO.a rfl rfl<|VO.nil<|VE.thenN fun a w ha hw => ⟨i + 1, (by omega), (by omega), ha.sub (.cons (congrArg (fun z => some (Value.int .i64 z)) hv.symm) (.c4 rfl rfl rfl rfl .nil)), hw⟩)))
  ·
    refine VC.exit (VE.thenX (VE.thenX (VE.inX (VE.seqN<|VC.q (VO.m rfl rfl<|VO.a rfl rfl<|VO.n<|VC.ret (VE.s rfl rfl (fun w hw => ?_)))))))
    refine ⟨?_, hw.nil⟩
    have hin : i = n := by omega
    subst hin
    simp only [resV]
    rcases Nat.eq_zero_or_pos i with q | q
    · subst q; rfl
    · rw [← hT3 q, lvX_eq]
theorem C68 : IsFn Tryz.prog 68 := ⟨_, Tryz.func68, by decide, rfl⟩
theorem S128 : IsSlice Tryz.prog 128 139 := Tryz.underlying128
theorem B139 : Builds Tryz.prog 139 [(0,1), (1,1), (2,1), (3,1), (4,1)] [.int .i64 0, .int .i64 0, .int .i64 0, .int .i64 0, .int .i64 0] := Builds.mk fun _ => by kernel_rfl
theorem Z139 : ZeroOf Tryz.prog 139 (.agg #[.int .i64 0, .int .i64 0, .int .i64 0, .int .i64 0, .int .i64 0]) := by unfold ZeroOf; kernel_rfl
theorem N139 : (Tryz.prog.info? 139).map (·.size) = some 5 := by kernel_rfl
theorem I139 : EInfo Tryz.prog 139 5 40 (.agg #[.int .i64 0, .int .i64 0, .int .i64 0, .int .i64 0, .int .i64 0]) := ⟨by kernel_rfl, by kernel_rfl, by unfold ZeroOf; kernel_rfl, rfl, by decide⟩
theorem F139_1 : FieldAt Tryz.prog 139 1 1 := ⟨_,_, Tryz.underlying139, rfl, rfl, 0, by kernel_rfl⟩
theorem F139_3 : FieldAt Tryz.prog 139 3 3 := ⟨_,_, Tryz.underlying139, rfl, rfl, 0, by kernel_rfl⟩
theorem F139_4 : FieldAt Tryz.prog 139 4 4 := ⟨_,_, Tryz.underlying139, rfl, rfl, 0, by kernel_rfl⟩
def csC (c : Cs) : List Value := [.int .i64 c.nm, .int .i64 c.rg, .int .i64 c.bg, .int .i64 c.en, .int .i64 c.pk]
theorem cs_C {l : List CsM} : l.map CsM.C = (l.map CsM.p).map csC := by rw [List.map_map]; rfl
theorem St.rowsEq {β : Bs} {w : World} {L : List Res} {E z c : Nat} {p : Option Addr} {rows rows' : List (List Value)} (h : St β L w) (i : Nat) (hi : L[i]? = some (own E z p c rows)) (e : rows = rows') : St β (L.set i (own E z p c rows')) w := by
  subst e
  have : L.set i (own E z p c rows) = L := by
    refine List.ext_getElem? fun k => ?_
    rw [List.getElem?_set]
    split
    · rename_i q; subst q
      split
      · exact hi.symm
      · rename_i q2; rw [List.getElem?_eq_none (by omega)]
    · rfl
  rw [this]; exact h
def updC (k : Nat) (n T : Int) (c : Cs) : Cs := if opn k c = true then { c with en := if n = 0 then T else c.en, pk := max c.pk n } else c
def docC (k : Nat) (b n T : Int) (cs : List Cs) : List Cs := if b = 0 ∧ n ≠ 0 then cs ++ [⟨cs.length + 1, k, T, never, n⟩] else cs.map (updC k n T)
theorem docC_eq {N k : Nat} {lv : Nat → Int} {cs : List Cs} {b n T : Int} (h : CsOk N lv cs) (hb : lv k = b) : docC k b n T cs = stepC k b n T cs := by
  have same : (∀ (j : Nat) (c : Cs), cs[j]? = some c → updC k n T c = c) → cs.map (updC k n T) = cs := fun q => by
    refine List.ext_getElem? fun j => ?_
    rw [List.getElem?_map]
    cases e : cs[j]? with
    | none => rfl
    | some c => rw [Option.map_some, q j c e]
  have lvk : ∀ (c : Cs), opn k c = true → lv c.rg.toNat = b := fun c hc => by rw [(opn_iff.1 hc).1]; simpa using hb
  unfold docC stepC
  by_cases e1 : b = n
  · subst e1
    rw [if_pos rfl]
    by_cases e2 : b = 0
    · rw [if_neg (by omega)]
      refine same fun j c hj => ?_
      unfold updC
      by_cases q : opn k c = true
      · exact absurd (lvk c q) (by rw [e2]; exact h.op j c hj (opn_iff.1 q).2)
      · rw [if_neg q]
    · rw [if_neg (by omega)]
      refine same fun j c hj => ?_
      unfold updC
      by_cases q : opn k c = true
      · have hp := h.pk j c hj (opn_iff.1 q).2
        rw [lvk c q] at hp
        rw [if_pos q, if_neg e2, Int.max_eq_left hp]
      · rw [if_neg q]
  · rw [if_neg e1]
    by_cases e2 : b = 0
    · rw [if_pos e2, if_pos ⟨e2, by omega⟩]
    · rw [if_neg e2, if_neg (by omega)]; rfl
theorem upd_step {k : Nat} {n T : Int} {ys zs : List Cs} {j : Nat} {c : Cs} (hz : zs = (ys.take j).map (updC k n T) ++ ys.drop j) (hc : ys[j]? = some c) : zs[j]? = some c ∧ zs.set j (updC k n T c) = (ys.take (j + 1)).map (updC k n T) ++ ys.drop (j + 1) := by
  have hj : j < ys.length := (List.getElem?_eq_some_iff.1 hc).1
  have hl : ((ys.take j).map (updC k n T)).length = j := by rw [List.length_map, List.length_take]; omega
  have hd : ys.drop j = c :: ys.drop (j + 1) := by rw [List.drop_eq_getElem_cons hj]; rw [List.getElem?_eq_getElem hj] at hc; rw [Option.some.inj hc]
  refine ⟨?_, ?_⟩
  · rw [hz, List.getElem?_append_right (by omega), hl, hd]; simp
  · rw [hz, List.set_append_right _ _ (by omega), hl, hd, List.take_add_one, hc]
    simp
theorem cs_self {zs : List Cs} {j : Nat} {c : Cs} (h : zs[j]? = some c) : zs.set j c = zs := by
  refine List.ext_getElem? fun k => ?_
  rw [List.getElem?_set]
  split
  · rename_i q; subst q
    split
    · exact h.symm
    · rename_i q2; rw [List.getElem?_eq_none (by omega)]
  · rfl
theorem DoS.take {o : DoM} {st : List Stp} {k : Nat} (hk : k < st.length) : st.take (k + 1) = st.take k ++ [st.getD k zS] := by
  rw [List.take_add_one, List.getElem?_eq_getElem hk, List.getD_eq_getElem?_getD, List.getElem?_eq_getElem hk]; rfl
theorem run_doc {o : DoM} {st : List Stp} (hd : DoS o st) {k i : Nat} (hk : k < st.length) (hi : i < o.rg.length) : runC o.hold (st.take k) (st.getD k zS) (csF o.hold o.rg.length (st.take k)) (i + 1) = docC i (lvS o.hold i (st.take k)) (lvS o.hold i (st.take (k + 1))) (st.getD k zS).t (runC o.hold (st.take k) (st.getD k zS) (csF o.hold o.rg.length (st.take k)) i) := by
  have hT : ∀ s, s ∈ st → s.t ≠ never := fun s hs => by have := hd.tb s hs; unfold never; omega
  have h1 := csOk_all (H := o.hold) (n := o.rg.length) (st.take k) (fun s hs => hT s (List.mem_of_mem_take hs))
  have h2 := csOk_run h1 (hT _ (getD_mem (d := zS) hk)) i (by omega)
  rw [DoS.take (o := o) hk]
  rw [docC_eq h2 (b := lvS o.hold i (st.take k)) (by unfold lvM; rw [if_neg (by omega)])]; rfl
theorem rcases_c (o : DoM) (st : List Stp) (m : Nat) (w : World) (hd : DoS o st) (hm : m ≤ st.length) (hh : Has w (dofR o)) :
 Calls Tryz.prog 42 #[ptrN o.b, .int .i64 ((m : Nat) - 1 : Int)] w fun e w' => ∃ x : Option Addr × Nat, True ∧ e = .returned (.slice x.1 (csF o.hold o.rg.length (st.take m)).length x.2) ∧ St (bs w) [own 139 5 x.1 x.2 ((csF o.hold o.rg.length (st.take m)).map csC)] w' := by
 have hTs : RO 1 iC w o.pt o.ts := RO.of_own hh 5 rfl
 have hTh := dof_rows hh
 have htl := hd.tsl
 have hhl := hd.thl
 obtain ⟨hh0, hh1⟩ := hd.hd
 have hsl := hd.len
 obtain ⟨hrn0, hrn1⟩ := hd.rn
 refine enter (vs := [_,_]) (env := [(0,_), (1,_)]) Tryz.func42 rfl rfl rfl rfl ?_
 refine VC.seq ?_
 refine VC.reg (VO.a rfl rfl<|VO.nil ?_)
 refine VE.seqN ?_
 refine VC.seq ?_
 refine VC.reg (VO.a rfl rfl<|VO.nil ?_)
 refine VE.seqN ?_
 refine VC.seq ?_
 refine VC.seq ?_
 refine VC.reg (VO.a rfl rfl<|VO.nil ?_)
 refine VE.seqN ?_
 refine VC.block ?_
 refine VC.loopK (α := Nat × (List Cs) × (Option Addr) × Nat) 0 (fun gx => [(5, .slice gx.2.2.1 gx.2.1.length gx.2.2.2), (6, .int .i64 (gx.1 : Nat))]) [(0,_), (1,_)] (fun gx => [own 139 5 gx.2.2.1 gx.2.2.2 (gx.2.1.map csC)]) (fun gx => (gx.1 ≤ m ∧ gx.2.1.length ≤ gx.1 * 32) ∧ gx.2.1 = csF o.hold o.rg.length (st.take gx.1)) (fun gx => m - gx.1) (0, [], none, 0) (by exact ⟨⟨Nat.zero_le _, Nat.zero_le _⟩, rfl⟩) (.c4 rfl rfl rfl rfl .nil) (fun _ h => (h.ownNil 139 5)) ?_
 rintro ⟨k, xs, pc_, cc_⟩ ⟨⟨hk, hxl⟩, hX⟩
 show VC _ _ _ _ _ ([(5, .slice pc_ xs.length cc_), (6, .int .i64 (k : Nat))] ++ _) ([own 139 5 pc_ cc_ (xs.map csC)] ++ _) _ _
 dsimp only at hk hxl hX
 refine VC.seq ?_
 refine VC.seq ?_
 refine VC.reg (VO.m rfl rfl<|VO.m rfl rfl<|VO.l (LO.le (.r rfl) (.r rfl)) rfl<|VO.nil ?_)
 refine VE.seqN ?_
 refine VC.cond rfl (fun h13 => ?_) (fun h13 => ?_)
 ·
  have hkl : k < st.length := by omega
  have htk := DoS.take (o := o) hkl
  have htg : o.ts.getD k 0 = (st.getD k zS).t := hd.tget hkl
  refine VC.skip (VE.seqN ?_)
  refine VC.seq ?_
  refine VC.block ?_
  refine VC.seq ?_
  refine VC.reg (VO.a rfl rfl<|VO.nil ?_)
  refine VE.seqN ?_
  refine VC.block ?_
  refine VC.loopK (α := Nat × (List Cs) × (Option Addr) × Nat) 1 (fun gx => [(5, .slice gx.2.2.1 gx.2.1.length gx.2.2.2), (7, .int .i64 (gx.1 : Nat))]) [(0,_), (1,_), (6,_)] (fun gx => [own 139 5 gx.2.2.1 gx.2.2.2 (gx.2.1.map csC)]) (fun gx => (gx.1 ≤ o.rg.length ∧ gx.2.1.length ≤ k * 32 + gx.1) ∧ gx.2.1 = runC o.hold (st.take k) (st.getD k zS) (csF o.hold o.rg.length (st.take k)) gx.1) (fun gx => o.rg.length - gx.1) (0, xs, pc_, cc_) (by exact ⟨⟨Nat.zero_le _, hxl⟩, hX⟩) (.c4 rfl rfl rfl rfl (.cons rfl .nil)) (fun _ h => h) ?_
  rintro ⟨i, ys, pc_, cc_⟩ ⟨⟨hi, hyl⟩, hR⟩
  show VC _ _ _ _ _ ([(5, .slice pc_ ys.length cc_), (7, .int .i64 (i : Nat))] ++ _) ([own 139 5 pc_ cc_ (ys.map csC)] ++ _) _ _
  dsimp only at hi hyl hR
  refine VC.seq ?_
  refine VC.seq ?_
  refine VC.reg (VO.m rfl rfl<|VO.m rfl rfl<|VO.l (LO.nc (.r rfl)) rfl<|VO.f (r := 0) F103_0 rfl rfl rfl<|VO.f (r := 5) F42_1 rfl rfl rfl<|VO.l (LO.ld O39 (.r rfl) (cells_keep (sub_cells (off := 5) (dof_cells hh) ⟨_, rfl⟩))) rfl<|VO.l (LO.len S39 (.r rfl) rfl) rfl<|VO.t rfl rfl rfl<|VO.nil ?_)
  refine VE.seqN ?_
  refine VC.cond rfl (fun h23 => ?_) (fun h23 => ?_)
  ·
   have hil : i < o.rg.length := by omega
   have hrd := run_doc hd hkl hil
   rw [← hR, ← htg] at hrd
   refine VC.skip (VE.seqN ?_)
   refine VC.seq ?_
   refine VC.block ?_
   refine VC.seq ?_
   refine VC.reg (VO.m rfl rfl<|VO.m rfl rfl<|VO.m rfl rfl<|VO.l (LO.sub (.r rfl) (.r rfl) (wi (by omega) (by omega))) rfl<|VO.l (LO.call (xs := [_,_,_]) (vs := [_,_,_]) C68 ⟨(.r rfl), (.r rfl), (.r rfl), trivial⟩ (fun w hw => rlevel_c o st i k w hd (by omega) (by omega) (hh.keep hw))) rfl<|VO.m rfl rfl<|VO.m rfl rfl<|VO.m rfl rfl<|VO.l (LO.call (xs := [_,_,_]) (vs := [_,_,_]) C68 ⟨(.r rfl), (.r rfl), (.r rfl), trivial⟩ (fun w hw => by have z := rlevel_c o st i (k + 1) w hd (by omega) (by omega) (hh.keep hw); rw [show (((k + 1 : Nat) : Int) - 1) = (k : Int) by omega] at z; exact z)) rfl<|VO.a rfl rfl<|VO.a rfl rfl<|VO.nil ?_)
   refine VE.seqN ?_
   refine VC.seq ?_
   refine VC.seq ?_
   refine VC.reg (VO.m rfl rfl<|VO.l (LO.eq (.r rfl) (.r rfl)) rfl<|VO.m rfl rfl<|VO.gt rfl rfl (fun hg => LO.mv (.r rfl)) rfl<|VO.gt rfl rfl (fun hg => LO.ne (.g hg rfl) (.r rfl)) rfl<|VO.l (LO.pkA (.r rfl) rfl rfl (.r rfl)) rfl<|VO.nil ?_)
   refine VE.seqN ?_
   refine VC.cond rfl (fun h40 => ?_) (fun h40 => ?_)
   ·
    refine VC.seq ?_
    refine VC.reg (VO.m rfl rfl<|VO.m rfl rfl<|VO.l (LO.len S128 (.r rfl) rfl) rfl<|VO.p rfl rfl (by omega) (by omega) rfl<|VO.m rfl rfl<|VO.m rfl rfl<|VO.l (LO.nc (.r rfl)) rfl<|VO.f (r := 10) F103_2 rfl rfl rfl<|VO.l (LO.ld O72 (.r rfl) (cells_keep (sub_cells (off := 10) (dof_cells hh) ⟨_, rfl⟩))) rfl<|VO.m rfl rfl<|VO.l (LO.ixs S72 N3 hTs.sm (.r rfl) (.r rfl) rfl (by omega)) rfl<|VO.l (LO.ld O3 (.r rfl) (fun w hw => cells_part (off := 0) ((hTs.at 0 (j := k) (by omega)) w hw) ⟨_, rfl⟩)) rfl<|VO.m rfl rfl<|VO.l (LO.bd (ps := [(_,_), (_,_), (_,_), (_,_), (_,_)]) (vs := [(_,_), (_,_), (_,_), (_,_), (_,_)]) (C := [_,_,_,_,_]) B139  ⟨(.r rfl), (.r rfl), (.r rfl), (.r rfl), (.r rfl), trivial⟩ rfl ⟨_, [_], [_,_,_,_,_], rfl, rfl, rfl, rfl, ⟨_, [_], [_,_,_,_,_], rfl, rfl, rfl, rfl, ⟨_, [_], [_,_,_,_,_], rfl, rfl, rfl, rfl, ⟨_, [_], [_,_,_,_,_], rfl, rfl, rfl, rfl, ⟨_, [_], [_,_,_,_,_], rfl, rfl, rfl, rfl, rfl⟩⟩⟩⟩⟩) rfl<|VO.h rfl<|HO.bs (ps := [(_,_)]) (vs := [(_,_)]) (Z := [_,_,_,_,_]) (C := [_,_,_,_,_]) S128 Z139 N139 ⟨(.r rfl), trivial⟩ rfl rfl rfl rfl ⟨_, [_,_,_,_,_], [_,_,_,_,_], rfl, rfl, rfl, rfl, rfl⟩ fun b2 => VO.h rfl<|HO.appT ((Cs.mk ((ys.length : Int) + 1) i (o.ts.getD k 0) never (lvS o.hold i (st.take (k + 1))))) 1 0 (fun R => [_, R]) S128 S128 I139 (.r rfl) (.r rfl) rfl rfl rfl rfl rfl rfl rfl (fun _ => rfl) rfl (by omega) fun p15 c15 => VO.h rfl<|HO.lo (LO.as (.r rfl))<|VO.nil ?_)
    refine VE.seqN ?_
    refine VC.exit (VE.thenX (VE.inX (VE.seqN ?_)))
    refine VC.reg (VO.m rfl rfl<|VO.p rfl rfl (by omega) (by omega) rfl<|VO.a rfl rfl<|VO.nil ?_)
    refine VE.thenN fun a w ha hw => ⟨(i + 1, ys ++ [Cs.mk ((ys.length : Int) + 1) i (o.ts.getD k 0) never (lvS o.hold i (st.take (k + 1)))], p15, c15), ⟨⟨by dsimp only; omega, by dsimp only; rw [List.length_append, List.length_singleton]; omega⟩, by dsimp only; rw [hrd]; exact (if_pos h40).symm⟩, (by dsimp only; omega), ha.sub (.cons (by first | exact congrArg (fun n => some (Value.slice pc_ n cc_)) hzl.symm | exact congrArg (fun n => some (Value.slice p15 n c15)) (by rw [List.length_append]; try rfl)) (.c4 rfl rfl rfl rfl .nil)), (by exact selK (L1 := [_]) [1] rfl rfl _ hw)⟩
   ·
    have hup : docC i (lvS o.hold i (st.take k)) (lvS o.hold i (st.take (k + 1))) (o.ts.getD k 0) ys = ys.map (updC i (lvS o.hold i (st.take (k + 1))) (o.ts.getD k 0)) := if_neg h40
    refine VC.skip (VE.seqN ?_)
    refine VC.seq ?_
    refine VC.reg (VO.a rfl rfl<|VO.nil ?_)
    refine VE.seqN ?_
    refine VC.block ?_
    refine VC.loopK (α := Nat × (List Cs)) 1 (fun gx => [(10, .int .i64 (gx.1 : Nat))]) [(0,_), (1,_), (5,_), (6,_), (7,_), (9,_)] (fun gx => [own 139 5 pc_ cc_ (gx.2.map csC)]) (fun gx => (gx.1 ≤ ys.length ∧ gx.2.length = ys.length) ∧ gx.2 = (ys.take gx.1).map (updC i (lvS o.hold i (st.take (k + 1))) (o.ts.getD k 0)) ++ ys.drop gx.1) (fun gx => ys.length - gx.1) (0, ys) (by exact ⟨⟨Nat.zero_le _, rfl⟩, rfl⟩) (.c4 rfl rfl rfl rfl (.cons rfl (.cons rfl (.cons rfl .nil)))) (fun _ h => h) ?_
    rintro ⟨j, zs⟩ ⟨⟨hj, hzl⟩, hZ⟩
    show VC _ _ _ _ _ ([(10, .int .i64 (j : Nat))] ++ _) ([own 139 5 pc_ cc_ (zs.map csC)] ++ _) _ _
    dsimp only at hj hzl hZ
    refine VC.seq ?_
    refine VC.seq ?_
    refine VC.reg (VO.m rfl rfl<|VO.m rfl rfl<|VO.l (LO.len S128 (.r rfl) rfl) rfl<|VO.t rfl rfl rfl<|VO.nil ?_)
    refine VE.seqN ?_
    refine VC.cond rfl (fun h60 => ?_) (fun h60 => ?_)
    ·
     obtain ⟨c, hyc⟩ : ∃ c, ys[j]? = some c := ⟨_, List.getElem?_eq_getElem (by omega)⟩
     obtain ⟨hzj, hset⟩ := upd_step hZ hyc
     refine VC.skip (VE.seqN ?_)
     refine VC.seq ?_
     refine VC.block ?_
     refine VC.seq ?_
     refine VC.reg (VO.m rfl rfl<|VO.m rfl rfl<|VO.l (LO.ixo S128 N139 (fun _ hw => (own_rows hw 0 rfl).some (by simp only [List.length_map, List.length_set]; omega)) (.r rfl) (.r rfl) rfl (by omega)) rfl<|VO.f F139_1 rfl rfl rfl<|VO.l (LO.ld O3 (.r rfl) (fun w hw => cells_part (off := 1) (own_cell hw 0 rfl hzj) ⟨_, rfl⟩)) rfl<|VO.m rfl rfl<|VO.l (LO.eq (.r rfl) (.r rfl)) rfl<|VO.m rfl rfl<|VO.gt rfl rfl (fun hg => LO.mv (.r rfl)) rfl<|VO.gt rfl rfl (fun hg => LO.mv (.r rfl)) rfl<|VO.gt rfl rfl (fun hg => LO.ixo S128 N139 (fun _ hw => (own_rows hw 0 rfl).some (by simp only [List.length_map, List.length_set]; omega)) (.g hg rfl) (.g hg rfl) rfl (by omega)) rfl<|VO.gt rfl rfl (fun hg => LO.fa F139_3 (.g hg rfl) rfl) rfl<|VO.gt rfl rfl (fun hg => LO.ld O3 (.g hg rfl) (fun w hw => cells_part (off := 3) (own_cell hw 0 rfl hzj) ⟨_, rfl⟩)) rfl<|VO.gt rfl rfl (fun hg => LO.eq (.g hg rfl) (.r rfl)) rfl<|VO.l (LO.pkA (.r rfl) rfl rfl (.r rfl)) rfl<|VO.nil ?_)
     refine VE.seqN ?_
     refine VC.cond rfl (fun h77 => ?_) (fun h77 => ?_)
     ·
      have hu : updC i (lvS o.hold i (st.take (k + 1))) (o.ts.getD k 0) c = { c with en := if (lvS o.hold i (st.take (k + 1))) = 0 then (o.ts.getD k 0) else c.en, pk := max c.pk (lvS o.hold i (st.take (k + 1))) } := if_pos (opn_iff.2 h77)
      refine VC.seq ?_
      refine VC.seq ?_
      refine VC.reg (VO.m rfl rfl<|VO.l (LO.eq (.r rfl) (.r rfl)) rfl<|VO.nil ?_)
      refine VE.seqN ?_
      refine VC.cond rfl (fun h79 => ?_) (fun h79 => ?_)
      ·
       rw [if_pos h79] at hu
       refine VC.reg (VO.m rfl rfl<|VO.m rfl rfl<|VO.m rfl rfl<|VO.l (LO.nc (.r rfl)) rfl<|VO.f (r := 10) F103_2 rfl rfl rfl<|VO.l (LO.ld O72 (.r rfl) (cells_keep (sub_cells (off := 10) (dof_cells hh) ⟨_, rfl⟩))) rfl<|VO.m rfl rfl<|VO.l (LO.ixs S72 N3 hTs.sm (.r rfl) (.r rfl) rfl (by omega)) rfl<|VO.l (LO.ld O3 (.r rfl) (fun w hw => cells_part (off := 0) ((hTs.at 0 (j := k) (by omega)) w hw) ⟨_, rfl⟩)) rfl<|VO.l (LO.ixo S128 N139 (fun _ hw => (own_rows hw 0 rfl).some (by simp only [List.length_map, List.length_set]; omega)) (.r rfl) (.r rfl) rfl (by omega)) rfl<|VO.f F139_3 rfl rfl rfl<|VO.h0<|HO.sto 0 (fun R => [R]) (o := 3) (vs := [_]) N3 (.r rfl) (.r rfl) rfl (by rw [List.getElem?_map, hzj]; rfl) rfl rfl (Nat.le_of_ble_eq_true rfl) rfl (fun _ => rfl)<|VO.nil ?_)
       refine VE.seqN ?_
       refine VC.res (fun w hw => St.rowsEq hw 0 rfl (List.map_set (l := zs) (i := j) (a := (Cs.mk c.nm c.rg c.bg (o.ts.getD k 0) c.pk)) (f := csC)).symm) ?_
       have hzj0 := hzj
       have hzj : (zs.set j (Cs.mk c.nm c.rg c.bg (o.ts.getD k 0) c.pk))[j]? = some (Cs.mk c.nm c.rg c.bg (o.ts.getD k 0) c.pk) := by rw [List.getElem?_set_self (by omega)]
       refine VC.reg (VO.m rfl rfl<|VO.m rfl rfl<|VO.m rfl rfl<|VO.m rfl rfl<|VO.l (LO.ixo S128 N139 (fun _ hw => (own_rows hw 0 rfl).some (by simp only [List.length_map, List.length_set]; omega)) (.r rfl) (.r rfl) rfl (by omega)) rfl<|VO.f F139_4 rfl rfl rfl<|VO.l (LO.ld O3 (.r rfl) (fun w hw => cells_part (off := 4) (own_cell hw 0 rfl hzj) ⟨_, rfl⟩)) rfl<|VO.m rfl rfl<|VO.l (LO.max (.r rfl) (.r rfl)) rfl<|VO.l (LO.ixo S128 N139 (fun _ hw => (own_rows hw 0 rfl).some (by simp only [List.length_map, List.length_set]; omega)) (.r rfl) (.r rfl) rfl (by omega)) rfl<|VO.f F139_4 rfl rfl rfl<|VO.h0<|HO.sto 0 (fun R => [R]) (o := 4) (vs := [_]) N3 (.r rfl) (.r rfl) rfl (by rw [List.getElem?_map, hzj]; rfl) rfl rfl (Nat.le_of_ble_eq_true rfl) rfl (fun _ => rfl)<|VO.nil ?_)
       refine VE.inN (VE.seqN ?_)
       refine VC.res (fun w hw => St.rowsEq hw 0 rfl (List.map_set (l := (zs.set j (Cs.mk c.nm c.rg c.bg (o.ts.getD k 0) c.pk))) (i := j) (a := (Cs.mk c.nm c.rg c.bg (o.ts.getD k 0) (max c.pk (lvS o.hold i (st.take (k + 1)))))) (f := csC)).symm) ?_
       refine VC.reg (VO.m rfl rfl<|VO.p rfl rfl (by omega) (by omega) rfl<|VO.a rfl rfl<|VO.nil ?_)
       refine VE.thenN fun a w ha hw => ⟨(j + 1, (zs.set j (Cs.mk c.nm c.rg c.bg (o.ts.getD k 0) c.pk)).set j (Cs.mk c.nm c.rg c.bg (o.ts.getD k 0) (max c.pk (lvS o.hold i (st.take (k + 1)))))), ⟨⟨by dsimp only; omega, by dsimp only; first | exact hzl | (simp only [List.length_set]; exact hzl)⟩, by dsimp only; rw [← hset, hu]; rw [List.set_set]⟩, (by dsimp only; omega), ha.sub (.c4 rfl rfl rfl rfl (.cons rfl (.cons rfl (.cons rfl .nil)))), hw⟩
      ·
       rw [if_neg h79] at hu
       refine VC.skip (VE.seqN ?_)
       refine VC.reg (VO.m rfl rfl<|VO.m rfl rfl<|VO.m rfl rfl<|VO.m rfl rfl<|VO.l (LO.ixo S128 N139 (fun _ hw => (own_rows hw 0 rfl).some (by simp only [List.length_map, List.length_set]; omega)) (.r rfl) (.r rfl) rfl (by omega)) rfl<|VO.f F139_4 rfl rfl rfl<|VO.l (LO.ld O3 (.r rfl) (fun w hw => cells_part (off := 4) (own_cell hw 0 rfl hzj) ⟨_, rfl⟩)) rfl<|VO.m rfl rfl<|VO.l (LO.max (.r rfl) (.r rfl)) rfl<|VO.l (LO.ixo S128 N139 (fun _ hw => (own_rows hw 0 rfl).some (by simp only [List.length_map, List.length_set]; omega)) (.r rfl) (.r rfl) rfl (by omega)) rfl<|VO.f F139_4 rfl rfl rfl<|VO.h0<|HO.sto 0 (fun R => [R]) (o := 4) (vs := [_]) N3 (.r rfl) (.r rfl) rfl (by rw [List.getElem?_map, hzj]; rfl) rfl rfl (Nat.le_of_ble_eq_true rfl) rfl (fun _ => rfl)<|VO.nil ?_)
       refine VE.inN (VE.seqN ?_)
       refine VC.res (fun w hw => St.rowsEq hw 0 rfl (List.map_set (l := zs) (i := j) (a := (Cs.mk c.nm c.rg c.bg c.en (max c.pk (lvS o.hold i (st.take (k + 1)))))) (f := csC)).symm) ?_
       refine VC.reg (VO.m rfl rfl<|VO.p rfl rfl (by omega) (by omega) rfl<|VO.a rfl rfl<|VO.nil ?_)
       refine VE.thenN fun a w ha hw => ⟨(j + 1, zs.set j (Cs.mk c.nm c.rg c.bg c.en (max c.pk (lvS o.hold i (st.take (k + 1)))))), ⟨⟨by dsimp only; omega, by dsimp only; first | exact hzl | (simp only [List.length_set]; exact hzl)⟩, by dsimp only; rw [← hset, hu]⟩, (by dsimp only; omega), ha.sub (.c4 rfl rfl rfl rfl (.cons rfl (.cons rfl (.cons rfl .nil)))), hw⟩
     ·
      have hu : updC i (lvS o.hold i (st.take (k + 1))) (o.ts.getD k 0) c = c := if_neg (fun q => h77 (opn_iff.1 q))
      refine VC.skip (VE.inN (VE.seqN ?_))
      refine VC.reg (VO.m rfl rfl<|VO.p rfl rfl (by omega) (by omega) rfl<|VO.a rfl rfl<|VO.nil ?_)
      refine VE.thenN fun a w ha hw => ⟨(j + 1, zs), ⟨⟨by dsimp only; omega, by dsimp only; first | exact hzl | (simp only [List.length_set]; exact hzl)⟩, by dsimp only; rw [← hset, hu]; exact (cs_self hzj).symm⟩, (by dsimp only; omega), ha.sub (.c4 rfl rfl rfl rfl (.cons rfl (.cons rfl (.cons rfl .nil)))), hw⟩
    ·
     refine VC.exit (VE.thenX (VE.thenX (VE.inX (VE.inN (VE.seqN ?_)))))
     refine VC.reg (VO.m rfl rfl<|VO.p rfl rfl (by omega) (by omega) rfl<|VO.a rfl rfl<|VO.nil ?_)
     refine VE.thenN fun a w ha hw => ⟨(i + 1, zs, pc_, cc_), ⟨⟨by dsimp only; omega, by dsimp only; omega⟩, by dsimp only; rw [hrd, hup, hZ, show j = ys.length by omega, List.take_length, List.drop_length, List.append_nil]⟩, (by dsimp only; omega), ha.sub (.cons (by first | exact congrArg (fun n => some (Value.slice pc_ n cc_)) hzl.symm | exact congrArg (fun n => some (Value.slice p15 n c15)) (by rw [List.length_append]; try rfl)) (.c4 rfl rfl rfl rfl .nil)), (by exact selK (L1 := [_]) [0] rfl rfl _ hw)⟩
  ·
   refine VC.exit (VE.thenX (VE.thenX (VE.inX (VE.inN (VE.seqN ?_)))))
   refine VC.reg (VO.m rfl rfl<|VO.p rfl rfl (by omega) (by omega) rfl<|VO.a rfl rfl<|VO.nil ?_)
   refine VE.thenN fun a w ha hw => ⟨(k + 1, ys, pc_, cc_), ⟨⟨by dsimp only; omega, by dsimp only; omega⟩, by dsimp only; rw [htk, csF_snoc, ← hX, hR, show i = o.rg.length by omega, hX]⟩, (by dsimp only; omega), ha.sub (.c4 rfl rfl rfl rfl .nil), hw⟩
 ·
  refine VC.exit (VE.thenX (VE.thenX (VE.inX (VE.seqN ?_))))
  refine VC.seq ?_
  refine VC.reg (VO.m rfl rfl<|VO.a rfl rfl<|VO.nil ?_)
  refine VE.seqN ?_
  refine VC.ret (VE.s rfl rfl (fun w hw => ?_))
  have hkm : k = m := by omega
  subst hkm
  rw [← hX]
  exact ⟨(pc_, cc_), trivial, rfl, selK (L1 := [_]) [0] rfl rfl _ hw⟩
theorem C42 : IsFn Tryz.prog 42 := ⟨_, Tryz.func42, by decide, rfl⟩
def lastLe (ts : List Int) (T : Int) : Nat → Nat
  | 0 => 0
  | k + 1 => if ts.getD k 0 ≤ T then k + 1 else lastLe ts T k
theorem lastLe_le {ts : List Int} {T : Int} : ∀ k, lastLe ts T k ≤ k
  | 0 => Nat.le_refl _
  | k + 1 => by unfold lastLe; split; exact Nat.le_refl _; have := lastLe_le (ts := ts) (T := T) k; omega
theorem lastLe_kAt {ts : List Int} {T : Int} (h : ts.Pairwise (· < ·)) : ∀ k, k ≤ ts.length → lastLe ts T k = kAt (ts.take k) T
  | 0,_ => by simp [lastLe, kAt]
  | k + 1, hk => by
    have ih := lastLe_kAt (T := T) h k (by omega)
    have hx : ts[k]? = some (ts.getD k 0) := by rw [List.getD_eq_getElem?_getD, List.getElem?_eq_getElem (by omega)]; rfl
    have he : ts.take (k + 1) = ts.take k ++ [ts.getD k 0] := by rw [List.take_add_one, hx]; rfl
    have hlt : ∀ y, y ∈ ts.take k → y < ts.getD k 0 := fun y hy => by
      have hp := h.sublist (List.take_sublist (k + 1) ts)
      rw [he] at hp
      exact (List.pairwise_append.1 hp).2.2 y hy _ (by simp)
    have hl : (ts.take k).length = k := by rw [List.length_take]; omega
    unfold lastLe
    rw [he]
    clear hx he
    generalize ts.getD k 0 = x at hlt ⊢
    unfold kAt
    rw [List.countP_append]
    by_cases q : x ≤ T
    · rw [if_pos q]
      have h1 : (ts.take k).countP (fun t => decide (t < T)) = k := by
        rw [List.countP_eq_length.2 (fun y hy => by have := hlt y hy; simp; omega), hl]
      have h2 : (ts.take k).contains T = false := by
        rw [Bool.eq_false_iff]; intro z
        have := hlt T (by simpa using z); omega
      rw [h1]
      by_cases q2 : x = T
      · have e1 : ([x].countP fun t => decide (t < T)) = 0 := by simp; omega
        have e2 : (ts.take k ++ [x]).contains T = true := by rw [q2]; simp
        rw [e1, if_pos e2]
      · have e1 : ([x].countP fun t => decide (t < T)) = 1 := by
          rw [List.countP_eq_length.2 (fun y hy => by rw [List.mem_singleton.1 hy]; simp; omega)]; rfl
        have e2 : ¬ (ts.take k ++ [x]).contains T = true := by
          intro z
          rcases List.mem_append.1 (by simpa using z : T ∈ ts.take k ++ [x]) with z | z
          · exact absurd (by simpa using z : (ts.take k).contains T = true) (by rw [h2]; decide)
          · exact q2 (List.mem_singleton.1 z).symm
        rw [e1, if_neg e2]
    · rw [if_neg q, ih]
      unfold kAt
      have e1 : ([x].countP fun t => decide (t < T)) = 0 := by simp; omega
      rw [e1, Nat.add_zero]
      congr 1
      by_cases q2 : (ts.take k).contains T = true
      · rw [if_pos q2, if_pos (by simp at q2 ⊢; exact .inl q2)]
      · rw [if_neg q2, if_neg (fun z => q2 (by
          rcases List.mem_append.1 (by simpa using z : T ∈ ts.take k ++ [x]) with z | z
          · simpa using z
          · exact absurd (List.mem_singleton.1 z) (by omega)))]
theorem lastLe_lv {ts : List Int} {T H : Int} {k : Nat} {st : List Stp} (h : ts.Pairwise (· < ·)) (hl : ts.length = st.length) : lvS H k (st.take (lastLe ts T ts.length)) = atLv ts (lvL H k st) T := by
  rw [lastLe_kAt h _ (Nat.le_refl _), List.take_length]
  unfold atLv
  by_cases q : kAt ts T = 0
  · rw [if_pos q, q]; rfl
  · have hk := kAt_le (ts := ts) (T := T)
    rw [if_neg q]
    unfold lvL
    rw [List.getD_eq_getElem?_getD, List.getElem?_map, List.getElem?_range (by omega), show kAt ts T = kAt ts T - 1 + 1 by omega]; rfl
theorem rCases_c (o : DoM) (st : List Stp) (w : World) (hd : DoS o st) (hh : Has w (dofR o)) :
 Calls Tryz.prog 47 #[ptrN o.b] w fun e w' => ∃ x : Option Addr × Nat, True ∧ e = .returned (.slice x.1 (csF o.hold o.rg.length st).length x.2) ∧ St (bs w) [own 139 5 x.1 x.2 ((csF o.hold o.rg.length st).map csC)] w' := by
 have hTs : RO 1 iC w o.pt o.ts := RO.of_own hh 5 rfl
 have hTh := dof_rows hh
 have htl := hd.tsl
 have hhl := hd.thl
 obtain ⟨hh0, hh1⟩ := hd.hd
 have hsl := hd.len
 obtain ⟨hrn0, hrn1⟩ := hd.rn
 refine enter (vs := [_]) (env := [(0,_)]) Tryz.func47 rfl rfl rfl rfl ?_
 refine VC.q (VO.a rfl rfl<|VO.n<|VC.q (VO.m rfl rfl<|VO.m rfl rfl<|VO.l (LO.nc (.r rfl)) rfl<|VO.f (r := 10) F103_2 rfl rfl rfl<|VO.l (LO.ld O72 (.r rfl) (cells_keep (sub_cells (off := 10) (dof_cells hh) ⟨_, rfl⟩))) rfl<|VO.l (LO.len S72 (.r rfl) rfl) rfl<|VO.l (LO.sub (.r rfl) (.r rfl) (wi (by omega) (by omega))) rfl<|VO.h rfl<|HO.callx (xs := [_,_]) (vs := [_,_]) C42 ⟨(.r rfl), (.r rfl), trivial⟩ (fun w hw => by have z := rcases_c o st o.ts.length w hd (by omega) (hh.keep hw); rw [show st.take o.ts.length = st by rw [htl, List.take_length]] at z; exact z) fun x _ => VO.h rfl<|HO.lo (LO.as (.r rfl))<|VO.n<|VC.ret (VE.s rfl rfl (fun w hw => ?_))))
 exact ⟨x, trivial, rfl, hw.sel [0] rfl⟩
theorem rLevels_c (o : DoM) (st : List Stp) (w : World) (hd : DoS o st) (hh : Has w (dofR o)) :
 Calls Tryz.prog 48 #[ptrN o.b] w fun e w' => ∃ x : Option Addr × Nat, True ∧ e = .returned (.slice x.1 ((List.range o.rg.length).map fun k => lvS o.hold k st).length x.2) ∧ St (bs w) [own 3 1 x.1 x.2 (((List.range o.rg.length).map fun k => lvS o.hold k st).map iC)] w' := by
 have hTs : RO 1 iC w o.pt o.ts := RO.of_own hh 5 rfl
 have hTh := dof_rows hh
 have htl := hd.tsl
 have hhl := hd.thl
 obtain ⟨hh0, hh1⟩ := hd.hd
 have hsl := hd.len
 obtain ⟨hrn0, hrn1⟩ := hd.rn
 refine enter (vs := [_]) (env := [(0,_)]) Tryz.func48 rfl rfl rfl rfl ?_
 refine VC.q (VO.a rfl rfl<|VO.n<|VC.q (VO.a rfl rfl<|VO.n<|VC.seq<|VC.q (VO.a rfl rfl<|VO.n<|VC.block<|VC.loopK (α := Nat × (List Int) × (Option Addr) × Nat) 0 (fun gx => [(3, .slice gx.2.2.1 gx.2.1.length gx.2.2.2), (4, .int .i64 (gx.1 : Nat))]) [(0,_)] (fun gx => [own 3 1 gx.2.2.1 gx.2.2.2 (gx.2.1.map iC)]) (fun gx => gx.1 ≤ o.rg.length ∧ gx.2.1 = (List.range gx.1).map fun k => lvS o.hold k st) (fun gx => o.rg.length - gx.1) (0, [], none, 0) (by exact ⟨Nat.zero_le _, rfl⟩) (.cons rfl (.cons rfl (.cons rfl .nil))) (fun _ h => (h.ownNil 3 1)) ?_)))
 rintro ⟨j, xs, px_, cx_⟩ ⟨hj, hX⟩
 show VC _ _ _ _ _ ([(3, .slice px_ xs.length cx_), (4, .int .i64 (j : Nat))] ++ _) ([own 3 1 px_ cx_ (xs.map iC)] ++ _) _ _
 dsimp only at hj hX
 have hxl : xs.length = j := by rw [hX]; simp
 refine VC.seq<|VC.q (VO.m rfl rfl<|VO.m rfl rfl<|VO.l (LO.nc (.r rfl)) rfl<|VO.f (r := 0) F103_0 rfl rfl rfl<|VO.f (r := 5) F42_1 rfl rfl rfl<|VO.l (LO.ld O39 (.r rfl) (cells_keep (sub_cells (off := 5) (dof_cells hh) ⟨_, rfl⟩))) rfl<|VO.l (LO.len S39 (.r rfl) rfl) rfl<|VO.t rfl rfl rfl<|VO.n<|VC.cond rfl (fun h12 => ?_) (fun h12 => ?_))
 ·
  refine VC.skip (VE.seqN<|VC.seq<|VC.block<|VC.reg (VO.m rfl rfl<|VO.m rfl rfl<|VO.m rfl rfl<|VO.m rfl rfl<|VO.l (LO.nc (.r rfl)) rfl<|VO.f (r := 10) F103_2 rfl rfl rfl<|VO.l (LO.ld O72 (.r rfl) (cells_keep (sub_cells (off := 10) (dof_cells hh) ⟨_, rfl⟩))) rfl<|VO.l (LO.len S72 (.r rfl) rfl) rfl<|VO.l (LO.sub (.r rfl) (.r rfl) (wi (by omega) (by omega))) rfl<|VO.l (LO.call (xs := [_,_,_]) (vs := [_,_,_]) C68 ⟨(.r rfl), (.r rfl), (.r rfl), trivial⟩ (fun w hw => by have z := rlevel_c o st j o.ts.length w hd (by omega) (by omega) (hh.keep hw); rw [show st.take o.ts.length = st by rw [htl, List.take_length]] at z; exact z)) rfl<|VO.h rfl<|HO.bs (ps := [(_,_)]) (vs := [(_,_)]) (Z := [_]) (C := [_]) S72 Z3 N3 ⟨(.r rfl), trivial⟩ rfl rfl rfl rfl ⟨_, [_], [_], rfl, rfl, rfl, rfl, rfl⟩ fun b2 => VO.h rfl<|HO.appT ((lvS o.hold j st)) 1 0 (fun R => [_, R]) S72 S72 I3 (.r rfl) (.r rfl) rfl rfl rfl rfl rfl rfl rfl (fun _ => rfl) rfl (by omega) fun p11 c11 => VO.h rfl<|HO.lo (LO.as (.r rfl))<|VO.nil<|VE.inN (VE.seqN<|VC.reg (VO.m rfl rfl<|VO.p rfl rfl (by omega) (by omega) rfl<|VO.a rfl rfl<|VO.nil<|VE.thenN fun a w ha hw => ⟨(j + 1, xs ++ [lvS o.hold j st], p11, c11), ⟨by dsimp only; omega, by dsimp only; rw [List.range_succ, List.map_append, hX]; rfl⟩, (by dsimp only; omega), ha.sub (.cons rfl (.cons rfl (.cons rfl .nil))), hw.sel [1] rfl⟩))))
 ·
  refine VC.exit (VE.thenX (VE.thenX (VE.inX (VE.seqN<|VC.q (VO.m rfl rfl<|VO.a rfl rfl<|VO.n<|VC.ret (VE.s rfl rfl (fun w hw => ?_)))))))
  have hj2 : j = o.rg.length := by omega
  subst hj2
  rw [← hX]
  exact ⟨(px_, cx_), trivial, rfl, hw.sel [0] rfl⟩
theorem dAt_e (o : DoM) (st : List Stp) (T : Int) (w : World) (hd : DoS o st) (hs : o.ts.Pairwise (· < ·)) (hh : Has w (dofR o)) (hT : ¬ (0 ≤ T ∧ T ≤ 4294967296)) :
 Calls Tryz.prog 52 #[ptrN o.b, .int .i64 T] w fun e w' => e = .returned (.tuple #[.slice none 0 0, .int .i64 3]) ∧ St (bs w) [] w' := by
 have hTs : RO 1 iC w o.pt o.ts := RO.of_own hh 5 rfl
 have hTh := dof_rows hh
 have htl := hd.tsl
 have hhl := hd.thl
 obtain ⟨hh0, hh1⟩ := hd.hd
 have hsl := hd.len
 obtain ⟨hrn0, hrn1⟩ := hd.rn
 refine enter (vs := [_,_]) (env := [(0,_), (1,_)]) Tryz.func52 rfl rfl rfl rfl ?_
 refine VC.q (VO.a rfl rfl<|VO.a rfl rfl<|VO.n<|VC.seq<|VC.q (VO.m rfl rfl<|VO.l (LO.call (xs := [_,_,_]) (vs := [_,_,_]) C34 ⟨(.r rfl), (.r rfl), (.r rfl), trivial⟩ (fun w _ => In_c _ _ _ w)) rfl<|VO.l (LO.not (.r rfl)) rfl<|VO.n<|VC.cond rfl (fun h12 => ?_) (fun h12 => ?_)))
 ·
  refine VC.q (VO.a rfl rfl<|VO.a rfl rfl<|VO.n<|VC.ret (VE.thenR (VE.res (vs := [_,_]) rfl ⟨rfl, rfl, trivial⟩ (fun w hw => ?_))))
  exact ⟨rfl, hw.nil⟩
 · (exfalso; exact hT (by omega))
theorem dAt_c (o : DoM) (st : List Stp) (T : Int) (w : World) (hd : DoS o st) (hs : o.ts.Pairwise (· < ·)) (hh : Has w (dofR o)) (hT1 : 0 ≤ T) (hT2 : T ≤ 4294967296) :
 Calls Tryz.prog 52 #[ptrN o.b, .int .i64 T] w fun e w' => ∃ x : Option Addr × Nat, True ∧ e = .returned (.tuple #[.slice x.1 ((List.range o.rg.length).map fun k => atLv o.ts (lvL o.hold k st) T).length x.2, .int .i64 0]) ∧ St (bs w) [own 3 1 x.1 x.2 (((List.range o.rg.length).map fun k => atLv o.ts (lvL o.hold k st) T).map iC)] w' := by
 have hTs : RO 1 iC w o.pt o.ts := RO.of_own hh 5 rfl
 have hTh := dof_rows hh
 have htl := hd.tsl
 have hhl := hd.thl
 obtain ⟨hh0, hh1⟩ := hd.hd
 have hsl := hd.len
 obtain ⟨hrn0, hrn1⟩ := hd.rn
 rw [show (List.range o.rg.length).map (fun k => atLv o.ts (lvL o.hold k st) T) = (List.range o.rg.length).map (fun k => lvS o.hold k (st.take (lastLe o.ts T o.ts.length))) from List.map_congr_left fun k _ => (lastLe_lv hs htl).symm]
 have hll := lastLe_le (ts := o.ts) (T := T) o.ts.length
 refine enter (vs := [_,_]) (env := [(0,_), (1,_)]) Tryz.func52 rfl rfl rfl rfl ?_
 refine VC.q (VO.a rfl rfl<|VO.a rfl rfl<|VO.n<|VC.seq<|VC.q (VO.m rfl rfl<|VO.l (LO.call (xs := [_,_,_]) (vs := [_,_,_]) C34 ⟨(.r rfl), (.r rfl), (.r rfl), trivial⟩ (fun w _ => In_c _ _ _ w)) rfl<|VO.l (LO.not (.r rfl)) rfl<|VO.n<|VC.cond rfl (fun h12 => ?_) (fun h12 => ?_)))
 · (exfalso; omega)
 ·
  refine VC.skip (VE.seqN<|VC.q (VO.a rfl rfl<|VO.n<|VC.seq<|VC.q (VO.a rfl rfl<|VO.n<|VC.block<|VC.loopK (α := Nat) 0 (fun gx => [(6, .int .i64 ((lastLe o.ts T gx : Nat) - 1 : Int)), (7, .int .i64 (gx : Nat))]) [(0,_), (1,_)] (fun gx => []) (fun gx => gx ≤ o.ts.length) (fun gx => o.ts.length - gx) 0 (by exact Nat.zero_le _) (.c4 rfl rfl rfl rfl .nil) (fun _ h => h) ?_)))
  rintro i hi
  refine VC.seq<|VC.q (VO.m rfl rfl<|VO.m rfl rfl<|VO.l (LO.nc (.r rfl)) rfl<|VO.f (r := 10) F103_2 rfl rfl rfl<|VO.l (LO.ld O72 (.r rfl) (cells_keep (sub_cells (off := 10) (dof_cells hh) ⟨_, rfl⟩))) rfl<|VO.l (LO.len S72 (.r rfl) rfl) rfl<|VO.t rfl rfl rfl<|VO.n<|VC.cond rfl (fun h19 => ?_) (fun h19 => ?_))
  ·
   refine VC.skip (VE.seqN<|VC.seq<|VC.block<|VC.q (VO.m rfl rfl<|VO.l (LO.nc (.r rfl)) rfl<|VO.f (r := 10) F103_2 rfl rfl rfl<|VO.l (LO.ld O72 (.r rfl) (cells_keep (sub_cells (off := 10) (dof_cells hh) ⟨_, rfl⟩))) rfl<|VO.m rfl rfl<|VO.l (LO.ixs S72 N3 hTs.sm (.r rfl) (.r rfl) rfl (by omega)) rfl<|VO.l (LO.ld O3 (.r rfl) (fun w hw => cells_part (off := 0) ((hTs.at 0 (j := i) (by omega)) w hw) ⟨_, rfl⟩)) rfl<|VO.m rfl rfl<|VO.l (LO.le (.r rfl) (.r rfl)) rfl<|VO.n<|VC.cond rfl (fun h30 => ?_) (fun h30 => ?_)))
   ·
    have hv : ((lastLe o.ts T (i + 1) : Nat) : Int) - 1 = (i : Int) := by unfold lastLe; rw [if_pos h30]; omega
    refine VC.reg (VO.m rfl rfl<|VO.a rfl rfl<|VO.nil<|VE.inN (VE.seqN<|VC.reg (VO.m rfl rfl<|VO.p rfl rfl (by omega) (by omega) rfl<|VO.a rfl rfl<|VO.nil<|VE.thenN fun a w ha hw => ⟨i + 1, (by omega), (by omega), ha.sub (.cons (congrArg (fun z => some (Value.int .i64 z)) hv.symm) (.cons rfl (.cons rfl (.cons rfl .nil)))), hw⟩)))
   ·
    have hv : ((lastLe o.ts T (i + 1) : Nat) : Int) - 1 = ((lastLe o.ts T i : Nat) : Int) - 1 := by conv => lhs; unfold lastLe; rw [if_neg h30]
    refine VC.skip (VE.inN (VE.seqN<|VC.reg (VO.m rfl rfl<|VO.p rfl rfl (by omega) (by omega) rfl<|VO.a rfl rfl<|VO.nil<|VE.thenN fun a w ha hw => ⟨i + 1, (by omega), (by omega), ha.sub (.cons (congrArg (fun z => some (Value.int .i64 z)) hv.symm) (.cons rfl (.cons rfl (.cons rfl .nil)))), hw⟩)))
  ·
   have hiT : i = o.ts.length := by omega
   subst hiT
   refine VC.exit (VE.thenX (VE.thenX (VE.inX (VE.seqN<|VC.q (VO.a rfl rfl<|VO.n<|VC.seq<|VC.q (VO.a rfl rfl<|VO.n<|VC.block<|VC.loopK (α := Nat × (List Int) × (Option Addr) × Nat) 0 (fun gx => [(8, .slice gx.2.2.1 gx.2.1.length gx.2.2.2), (9, .int .i64 (gx.1 : Nat))]) [(0,_), (6,_)] (fun gx => [own 3 1 gx.2.2.1 gx.2.2.2 (gx.2.1.map iC)]) (fun gx => gx.1 ≤ o.rg.length ∧ gx.2.1 = (List.range gx.1).map fun k => lvS o.hold k (st.take (lastLe o.ts T o.ts.length))) (fun gx => o.rg.length - gx.1) (0, [], none, 0) (by exact ⟨Nat.zero_le _, rfl⟩) (.c4 rfl rfl rfl rfl .nil) (fun _ h => (h.ownNil 3 1)) ?_))))))
   rintro ⟨j, xs, px_, cx_⟩ ⟨hj, hX⟩
   show VC _ _ _ _ _ ([(8, .slice px_ xs.length cx_), (9, .int .i64 (j : Nat))] ++ _) ([own 3 1 px_ cx_ (xs.map iC)] ++ _) _ _
   dsimp only at hj hX
   have hxl : xs.length = j := by rw [hX]; simp
   refine VC.seq<|VC.q (VO.m rfl rfl<|VO.m rfl rfl<|VO.l (LO.nc (.r rfl)) rfl<|VO.f (r := 0) F103_0 rfl rfl rfl<|VO.f (r := 5) F42_1 rfl rfl rfl<|VO.l (LO.ld O39 (.r rfl) (cells_keep (sub_cells (off := 5) (dof_cells hh) ⟨_, rfl⟩))) rfl<|VO.l (LO.len S39 (.r rfl) rfl) rfl<|VO.t rfl rfl rfl<|VO.n<|VC.cond rfl (fun h39 => ?_) (fun h39 => ?_))
   ·
    refine VC.skip (VE.seqN<|VC.seq<|VC.block<|VC.reg (VO.m rfl rfl<|VO.m rfl rfl<|VO.m rfl rfl<|VO.m rfl rfl<|VO.l (LO.call (xs := [_,_,_]) (vs := [_,_,_]) C68 ⟨(.r rfl), (.r rfl), (.r rfl), trivial⟩ (fun w hw => rlevel_c o st j (lastLe o.ts T o.ts.length) w hd (by omega) (by omega) (hh.keep hw))) rfl<|VO.h rfl<|HO.bs (ps := [(_,_)]) (vs := [(_,_)]) (Z := [_]) (C := [_]) S72 Z3 N3 ⟨(.r rfl), trivial⟩ rfl rfl rfl rfl ⟨_, [_], [_], rfl, rfl, rfl, rfl, rfl⟩ fun b2 => VO.h rfl<|HO.appT ((lvS o.hold j (st.take (lastLe o.ts T o.ts.length)))) 1 0 (fun R => [_, R]) S72 S72 I3 (.r rfl) (.r rfl) rfl rfl rfl rfl rfl rfl rfl (fun _ => rfl) rfl (by omega) fun p6 c6 => VO.h rfl<|HO.lo (LO.as (.r rfl))<|VO.nil<|VE.inN (VE.seqN<|VC.reg (VO.m rfl rfl<|VO.p rfl rfl (by omega) (by omega) rfl<|VO.a rfl rfl<|VO.nil<|VE.thenN fun a w ha hw => ⟨(j + 1, xs ++ [lvS o.hold j (st.take (lastLe o.ts T o.ts.length))], p6, c6), ⟨by dsimp only; omega, by dsimp only; rw [List.range_succ, List.map_append, hX]; rfl⟩, (by dsimp only; omega), ha.sub (.c4 rfl rfl rfl rfl .nil), hw.sel [1] rfl⟩))))
   ·
    refine VC.exit (VE.thenX (VE.thenX (VE.inX (VE.seqN<|VC.q (VO.m rfl rfl<|VO.a rfl rfl<|VO.a rfl rfl<|VO.n<|VC.ret (VE.res (vs := [_,_]) rfl ⟨rfl, rfl, trivial⟩ (fun w hw => ?_)))))))
    have hj2 : j = o.rg.length := by omega
    subst hj2
    rw [← hX]
    exact ⟨(px_, cx_), trivial, rfl, hw.sel [0] rfl⟩
theorem F139_0 : FieldAt Tryz.prog 139 0 0 := ⟨_,_, Tryz.underlying139, rfl, rfl, 0, by kernel_rfl⟩
def lastNm (k : Nat) (cs : List Cs) : Int := cs.foldl (fun m c => if c.rg = (k : Int) then c.nm else m) 0
theorem lastNm_snoc {k : Nat} {cs : List Cs} {c : Cs} : lastNm k (cs ++ [c]) = if c.rg = (k : Int) then c.nm else lastNm k cs := by unfold lastNm; rw [List.foldl_append]; rfl
theorem last_take {k j : Nat} {cs : List Cs} {c : Cs} (h : cs[j]? = some c) : lastNm k (cs.take (j + 1)) = if c.rg = (k : Int) then c.nm else lastNm k (cs.take j) := by
  rw [List.take_add_one, h]; exact lastNm_snoc
theorem last_map {k : Nat} {f : Cs → Cs} (hf : ∀ c, (f c).rg = c.rg ∧ (f c).nm = c.nm) : ∀ (cs : List Cs) (m : Int), (cs.map f).foldl (fun m c => if c.rg = (k : Int) then c.nm else m) m = cs.foldl (fun m c => if c.rg = (k : Int) then c.nm else m) m
  | [], m => rfl
  | c :: cs, m => by
    rw [List.map_cons, List.foldl_cons, List.foldl_cons, (hf c).1, (hf c).2]; exact last_map hf cs _
theorem last_step {i j : Nat} {b n T : Int} {cs : List Cs} (h : j ≠ i) : lastNm i (stepC j b n T cs) = lastNm i cs := by
  unfold stepC
  split
  · rfl
  · split
    · rw [lastNm_snoc, if_neg (by show ¬ (j : Int) = (i : Int); omega)]
    · exact last_map (fun c => by split <;> exact ⟨rfl, rfl⟩) cs 0
theorem last_run {H : Int} {st : List Stp} {s : Stp} {cs : List Cs} {i : Nat} : ∀ k, k ≤ i → lastNm i (runC H st s cs k) = lastNm i cs
  | 0,_ => rfl
  | k + 1, h => by
    unfold runC
    rw [last_step (by omega), last_run k (by omega)]
def LOp (cs : List Cs) : Bool → Prop := fun _ => ∀ (i j : Nat) (c d : Cs), i < j → cs[i]? = some c → cs[j]? = some d → c.rg = d.rg → c.en ≠ never
theorem lo_step {n k : Nat} {lv : Nat → Int} {cs : List Cs} {b m T : Int} (h : CsOk n lv cs) (hb : lv k = b) (hl : LOp cs true) : LOp (stepC k b m T cs) true := by
  unfold stepC
  split
  · exact hl
  · split
    · rename_i e2
      intro i j c d hij hi hj hr
      have hil : i < cs.length := by
        have := (List.getElem?_eq_some_iff.1 hj).1
        rw [List.length_append, List.length_singleton] at this; omega
      rw [List.getElem?_append_left hil] at hi
      rcases Nat.lt_or_ge j cs.length with q | q
      · rw [List.getElem?_append_left q] at hj
        exact hl i j c d hij hi hj hr
      · have hjl := (List.getElem?_eq_some_iff.1 hj).1
        rw [List.length_append, List.length_singleton] at hjl
        rw [List.getElem?_append_right q, show j - cs.length = 0 by omega] at hj
        cases hj
        intro he
        have := h.op i c hi he
        rw [hr] at this
        apply this
        simpa [hb] using e2
    · intro i j c d hij hi hj hr
      rw [List.getElem?_map] at hi hj
      cases ei : cs[i]? with
      | none => rw [ei] at hi; cases hi
      | some c0 =>
        cases ej : cs[j]? with
        | none => rw [ej] at hj; cases hj
        | some d0 =>
          rw [ei] at hi; rw [ej] at hj
          simp only [Option.map_some, Option.some.injEq] at hi hj
          have hr0 : c0.rg = d0.rg := by
            rw [← hi, ← hj] at hr
            have e1 : ∀ c : Cs, (if opn k c = true then { c with en := if m = 0 then T else c.en, pk := max c.pk m } else c : Cs).rg = c.rg := fun c => by split <;> rfl
            rw [e1, e1] at hr; exact hr
          have h0 := hl i j c0 d0 hij ei ej hr0
          rw [← hi]
          split
          · rename_i q; exact absurd (opn_iff.1 q).2 h0
          · exact h0
theorem lo_run {H : Int} {n : Nat} {st : List Stp} {s : Stp} {cs : List Cs} (h : CsOk n (fun i => lvS H i st) cs) (hl : LOp cs true) (hT : s.t ≠ never) : ∀ k, k ≤ n → LOp (runC H st s cs k) true
  | 0,_ => hl
  | k + 1, hk => by
    have h1 := csOk_run h hT k (by omega)
    exact lo_step h1 (b := lvS H k st) (by unfold lvM; rw [if_neg (by omega)]) (lo_run h hl hT k (by omega))
theorem lo_all {H : Int} {n : Nat} : ∀ (st : List Stp), (∀ s, s ∈ st → s.t ≠ never) → LOp (csF H n st) true := by
  intro st
  induction h : st.length generalizing st with
  | zero =>
    intro _
    have : st = [] := List.eq_nil_of_length_eq_zero h
    subst this
    intro i j c d _ hi _ _; cases hi
  | succ m ih =>
    intro ht
    rcases List.eq_nil_or_concat st with q | ⟨l, s, q⟩
    · rw [q] at h; simp at h
    · rw [q, List.concat_eq_append] at h ht ⊢
      rw [csF_snoc]
      have h1 := csOk_all (H := H) (n := n) l (fun s hs => ht s (by simp [hs]))
      exact lo_run h1 (ih l (by simpa using h) (fun s hs => ht s (by simp [hs]))) (ht s (by simp)) n (Nat.le_refl _)
theorem last_skip {k : Nat} : ∀ (cs : List Cs) (m : Int), (∀ c, c ∈ cs → c.rg ≠ (k : Int)) → cs.foldl (fun m c => if c.rg = (k : Int) then c.nm else m) m = m
  | [], m,_ => rfl
  | c :: cs, m, h => by
    rw [List.foldl_cons, if_neg (h c List.mem_cons_self)]
    exact last_skip cs m fun d hd => h d (List.mem_cons_of_mem _ hd)
theorem last_open {n k : Nat} {lv : Nat → Int} {cs : List Cs} (h : CsOk n lv cs) (hl : LOp cs true) (hk : k < n) (h0 : lv k ≠ 0) : lastNm k cs = openNm k cs := by
  obtain ⟨j, c, h1, h2, h3⟩ := h.has k hk h0
  have hq : cs.findIdx (opn k) < cs.length := List.findIdx_lt_length_of_exists ⟨c, List.mem_of_getElem? h1, opn_iff.2 ⟨h2, h3⟩⟩
  have hp := List.findIdx_getElem (w := hq)
  obtain ⟨q, hqe⟩ : ∃ q, q = cs.findIdx (opn k) := ⟨_, rfl⟩
  unfold openNm
  rw [← hqe]
  have hql : q < cs.length := by omega
  have hpq : opn k cs[q] = true := by subst hqe; exact hp
  have e : cs = cs.take (q + 1) ++ cs.drop (q + 1) := (List.take_append_drop _ _).symm
  have ec : cs[q]? = some cs[q] := List.getElem?_eq_getElem hql
  have e2 : lastNm k cs = lastNm k (cs.take (q + 1)) := by
    conv => lhs; rw [e]
    unfold lastNm
    rw [List.foldl_append]
    refine last_skip _ _ fun d hd hr => ?_
    obtain ⟨i, hi, rfl⟩ := List.getElem_of_mem hd
    have hi2 : (cs.drop (q + 1))[i]? = cs[q + 1 + i]? := List.getElem?_drop
    rw [List.getElem?_eq_getElem hi] at hi2
    exact hl q (q + 1 + i) _ _ (by omega) ec hi2.symm (by rw [(opn_iff.1 hpq).1, hr]) (opn_iff.1 hpq).2
  rw [e2, last_take ec, if_pos (opn_iff.1 hpq).1, List.getD_eq_getElem?_getD, ec]; rfl
theorem last_ev {o : DoM} {st : List Stp} {s : Stp} {i : Nat} (hd : DoS o (st ++ [s])) (hi : i < o.rg.length) (h0 : lvS o.hold i st ≠ 0) : lastNm i (csF o.hold o.rg.length st) = openNm i (runC o.hold st s (csF o.hold o.rg.length st) i) := by
  have hT : ∀ x, x ∈ st ++ [s] → x.t ≠ never := fun x hx => by have := hd.tb x hx; unfold never; omega
  have h1 := csOk_all (H := o.hold) (n := o.rg.length) st (fun x hx => hT x (by simp [hx]))
  have h2 := csOk_run h1 (hT s (by simp)) i (by omega)
  have h3 := lo_run h1 (lo_all st fun x hx => hT x (by simp [hx])) (hT s (by simp)) i (by omega)
  rw [← last_run (H := o.hold) (st := st) (s := s) (cs := csF o.hold o.rg.length st) i (Nat.le_refl _)]
  exact last_open h2 h3 hi (by unfold lvM; rw [if_neg (by omega)]; exact h0)
theorem runC_len {H : Int} {st : List Stp} {s : Stp} {cs : List Cs} : ∀ k, (runC H st s cs k).length ≤ cs.length + k
  | 0 => Nat.le_refl _
  | k + 1 => by
    have := runC_len (H := H) (st := st) (s := s) (cs := cs) k
    unfold runC stepC
    split
    · omega
    · split
      · rw [List.length_append, List.length_singleton]; omega
      · rw [List.length_map]; omega
theorem csF_len {H : Int} {n : Nat} {st : List Stp} : (csF H n st).length ≤ st.length * n := by
  have key : ∀ m, (csA H n st m).length ≤ m * n := by
    intro m
    induction m with
    | zero => exact Nat.zero_le _
    | succ m ih => unfold csA; have := runC_len (H := H) (st := st.take m) (s := st.getD m zS) (cs := csA H n st m) n; rw [Nat.succ_mul]; omega
  exact key _
theorem csF_bd {o : DoM} {st : List Stp} (hd : DoS o st) {m : Nat} : (csF o.hold o.rg.length (st.take m)).length ≤ 8192 := by
  have h1 := csF_len (H := o.hold) (n := o.rg.length) (st := st.take m)
  have h2 := hd.len
  have h3 := hd.rn
  have h4 : (st.take m).length ≤ 256 := by rw [List.length_take]; omega
  have := Nat.mul_le_mul h4 h3.2
  omega
theorem last_c (o : DoM) (st : List Stp) (k n : Nat) (w : World) (hd : DoS o st) (hn : n ≤ st.length) (hh : Has w (dofR o)) :
 Calls Tryz.prog 69 #[ptrN o.b, .int .i64 (k : Nat), .int .i64 ((n : Nat) - 1 : Int)] w fun e w' => e = .returned (.int .i64 (lastNm k (csF o.hold o.rg.length (st.take n)))) ∧ St (bs w) [] w' := by
 obtain ⟨CX, hCX⟩ : ∃ c, c = csF o.hold o.rg.length (st.take n) := ⟨_, rfl⟩
 have hcb := csF_bd hd (m := n)
 rw [← hCX] at hcb ⊢
 refine enter (vs := [_,_,_]) (env := [(0,_), (1,_), (2,_)]) Tryz.func69 rfl rfl rfl rfl ?_
 refine VC.q (VO.a rfl rfl<|VO.n<|VC.q (VO.m rfl rfl<|VO.m rfl rfl<|VO.h rfl<|HO.callx (xs := [_,_]) (vs := [_,_]) C42 ⟨(.r rfl), (.r rfl), trivial⟩ (fun w hw => by have z := rcases_c o st n w hd hn (hh.keep hw); rw [← hCX] at z; exact z) fun x _ => VO.h rfl<|HO.lo (LO.as (.r rfl))<|VO.n<|VC.q (VO.a rfl rfl<|VO.n<|VC.seq<|VC.q (VO.a rfl rfl<|VO.n ?_))))
 refine VC.block<|VC.loopK (α := Nat) 0 (fun gx => [(8, .int .i64 (lastNm k (CX.take gx))), (9, .int .i64 (gx : Nat))]) [(1,_), (7,_)] (fun gx => []) (fun gx => gx ≤ CX.length) (fun gx => CX.length - gx) 0 (by exact Nat.zero_le _) (.c4 rfl rfl rfl rfl .nil) (fun _ h => h) ?_
 rintro j hj
 refine VC.seq<|VC.q (VO.m rfl rfl<|VO.m rfl rfl<|VO.l (LO.len S128 (.r rfl) rfl) rfl<|VO.t rfl rfl rfl<|VO.n<|VC.cond rfl (fun h16 => ?_) (fun h16 => ?_))
 ·
  obtain ⟨c, hcj⟩ : ∃ c, CX[j]? = some c := ⟨_, List.getElem?_eq_getElem (by omega)⟩
  have hlt := last_take (k := k) hcj
  refine VC.skip (VE.seqN<|VC.seq<|VC.block<|VC.q (VO.m rfl rfl<|VO.m rfl rfl<|VO.l (LO.ixo S128 N139 (fun _ hw => (own_rows hw 0 rfl).some (by rw [List.length_map])) (.r rfl) (.r rfl) rfl (by omega)) rfl<|VO.f F139_1 rfl rfl rfl<|VO.l (LO.ld O3 (.r rfl) (fun w hw => cells_part (off := 1) (own_cell hw 0 rfl hcj) ⟨_, rfl⟩)) rfl<|VO.m rfl rfl<|VO.l (LO.eq (.r rfl) (.r rfl)) rfl<|VO.n<|VC.cond rfl (fun h25 => ?_) (fun h25 => ?_)))
  ·
   have hv := hlt.trans (if_pos h25)
   refine VC.reg (VO.m rfl rfl<|VO.m rfl rfl<|VO.l (LO.ixo S128 N139 (fun _ hw => (own_rows hw 0 rfl).some (by rw [List.length_map])) (.r rfl) (.r rfl) rfl (by omega)) rfl<|VO.f F139_0 rfl rfl rfl<|VO.l (LO.ld O3 (.r rfl) (fun w hw => cells_part (off := 0) (own_cell hw 0 rfl hcj) ⟨_, rfl⟩)) rfl<|VO.a rfl rfl<|VO.nil<|VE.inN (VE.seqN<|VC.reg (VO.m rfl rfl<|VO.p rfl rfl (by omega) (by omega) rfl<|VO.a rfl rfl<|VO.nil<|VE.thenN fun a w ha hw => ⟨j + 1, (by omega), (by omega), ha.sub (.cons (congrArg (fun z => some (Value.int .i64 z)) hv.symm) (.cons rfl (.cons rfl (.cons rfl .nil)))), hw⟩)))
  ·
   have hv := hlt.trans (if_neg h25)
   refine VC.skip (VE.inN (VE.seqN<|VC.reg (VO.m rfl rfl<|VO.p rfl rfl (by omega) (by omega) rfl<|VO.a rfl rfl<|VO.nil<|VE.thenN fun a w ha hw => ⟨j + 1, (by omega), (by omega), ha.sub (.cons (congrArg (fun z => some (Value.int .i64 z)) hv.symm) (.cons rfl (.cons rfl (.cons rfl .nil)))), hw⟩)))
 ·
  refine VC.exit (VE.thenX (VE.thenX (VE.inX (VE.seqN<|VC.q (VO.m rfl rfl<|VO.a rfl rfl<|VO.n<|VC.ret (VE.s rfl rfl (fun w hw => ?_)))))))
  refine ⟨?_, hw.nil⟩
  simp only [resV]
  rw [show j = CX.length by omega, List.take_length]
end Go.Proofs.YtdjflomhaljljaaGreat
