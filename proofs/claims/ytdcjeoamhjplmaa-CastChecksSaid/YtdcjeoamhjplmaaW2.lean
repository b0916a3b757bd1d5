/-
  The walks about clouds.
-/
import Derived.Test.YtdcjeoamhjplmaaW1
namespace Go.Proofs.Ytdcjeoamhjplmaa
open Go.SL Go.Proofs Go.Cast
set_option linter.unusedVariables false

theorem A23 : IsAgg Try.prog 23 5 := ⟨⟨_, Try.underlying23, rfl⟩, by kernel_rfl⟩
theorem C50 : IsFn Try.prog 50 := ⟨_, Try.func50, by decide, rfl⟩
theorem F34_2 : FieldAt Try.prog 34 2 2 := ⟨_, _, Try.underlying34, rfl, rfl, 3, by kernel_rfl⟩
theorem A32 : IsAgg Try.prog 32 4 := ⟨⟨_, Try.underlying32, rfl⟩, by kernel_rfl⟩
theorem C34 : IsFn Try.prog 34 := ⟨_, Try.func34, by decide, rfl⟩
theorem F34_3 : FieldAt Try.prog 34 3 6 := ⟨_, _, Try.underlying34, rfl, rfl, 0, by kernel_rfl⟩
theorem C52 : IsFn Try.prog 52 := ⟨_, Try.func52, by decide, rfl⟩
theorem F34_1 : FieldAt Try.prog 34 1 1 := ⟨_, _, Try.underlying34, rfl, rfl, 0, by kernel_rfl⟩
theorem O28 : IsOne Try.prog 28 := ⟨⟨_, Try.underlying28, rfl⟩, by kernel_rfl⟩
theorem C76 : IsFn Try.prog 76 := ⟨_, Try.func76, by decide, rfl⟩
theorem F34_0 : FieldAt Try.prog 34 0 0 := ⟨_, _, Try.underlying34, rfl, rfl, 0, by kernel_rfl⟩


abbrev cloudV (ps : Option Addr) (cs : Nat) (pm : Option Addr) (cm : Nat) (c : Cloud) : Value := .agg #[.slice ps c.sure.length cs, .slice pm c.may.length cm, .int .i64 c.flow.a, .int .i64 c.flow.b, .int .i64 c.flow.c, .int .i64 c.flow.d, .int .i64 c.grow]

set_option maxRecDepth 20000 in
theorem checkCloud_c (g : Grid) (c : Cloud) (ps pm : Option Addr) (cs cm : Nat) (w : World) (hns : c.sure.length < 1000000000000) (hnm : c.may.length < 1000000000000) (hs : Ints w ps c.sure) (hm : Ints w pm c.may) :
  Calls Try.prog 45 #[gridV g, cloudV ps cs pm cm c] w fun e w' => e = .returned (.int .i64 (cloudE g c)) ∧ St (bs w) [] w' := by
  refine enter (vs := [_, _]) (env := [(0, _), (1, _)]) Try.func45 rfl rfl rfl rfl ?_
  refine VC.seq ?_
  refine VC.reg (VO.h rfl <| HO.box (C := #[_, _, _, _, _]) rfl rfl fun b1 => VO.h rfl <| HO.box (C := #[_, _, _, _, _, _, _]) rfl rfl fun b2 => VO.l (LO.as (.r rfl)) rfl <| VO.nil ?_)
  refine VE.seqN ?_
  refine VC.seq ?_
  refine VC.seq ?_
  refine VC.reg (VO.l (LO.lda (vs := [_, _, _, _, _]) A23 (.r rfl) (fun _ hw => cells_at hw 1 rfl ⟨_, rfl⟩) rfl) rfl <| VO.l (LO.call (xs := [_]) (vs := [_]) C50 ⟨(.r rfl), trivial⟩ (fun w _ => checkGrid_c g w)) rfl <| VO.l (LO.as (.r rfl)) rfl <| VO.nil ?_)
  refine VE.seqN ?_
  refine VC.seq ?_
  refine VC.reg (VO.l (LO.mv (.r rfl)) rfl <| VO.l (LO.ne (.r rfl) (.r rfl)) rfl <| VO.nil ?_)
  refine VE.seqN ?_
  refine VC.cond rfl (fun h1 => ?_) (fun h1 => ?_)
  ·
    refine VC.seq ?_
    refine VC.reg (VO.l (LO.mv (.r rfl)) rfl <| VO.l (LO.as (.r rfl)) rfl <| VO.nil ?_)
    refine VE.seqN ?_
    refine VC.ret (VE.thenR (VE.res (vs := [_]) rfl ⟨rfl, trivial⟩ (fun w hw => ?_)))
    refine ⟨?_, hw.nil⟩
    simp only [resV]
    congr 2
    first | exact cE1 h1 | exact cE2 hgo h2 | exact cE3 hgo hfo h3 | exact cE4 hgo hfo h3 h4 | exact cE5 hgo hfo h3 h4 hz h5 h6 | exact cE6 hgo hfo h3 h4 hz h5 h6 h7 | exact cE7 hgo hfo h3 h4 hm0 hz h8 h9 | exact cE8 hgo hfo h3 h4 hm0 hz h8 h9 h10 | exact cE9 hgo hfo h3 h4 hm0 hz h8
  ·
    have hgo : gridOk g := gridOk_of h1
    have har := area_bd hgo
    refine VC.skip (VE.seqN ?_)
    refine VC.seq ?_
    refine VC.seq ?_
    refine VC.reg (VO.l (LO.fa (r := 2) F34_2 (.r rfl) rfl) rfl <| VO.l (LO.lda (vs := [_, _, _, _]) A32 (.r rfl) (fun _ hw => cells_at hw 0 rfl ⟨_, rfl⟩) rfl) rfl <| VO.l (LO.call (xs := [_]) (vs := [_]) C34 ⟨(.r rfl), trivial⟩ (fun w _ => checkFlow_c c.flow w)) rfl <| VO.l (LO.as (.r rfl)) rfl <| VO.nil ?_)
    refine VE.seqN ?_
    refine VC.seq ?_
    refine VC.reg (VO.l (LO.mv (.r rfl)) rfl <| VO.l (LO.ne (.r rfl) (.r rfl)) rfl <| VO.nil ?_)
    refine VE.seqN ?_
    refine VC.cond rfl (fun h2 => ?_) (fun h2 => ?_)
    ·
      refine VC.seq ?_
      refine VC.reg (VO.l (LO.mv (.r rfl)) rfl <| VO.l (LO.as (.r rfl)) rfl <| VO.nil ?_)
      refine VE.seqN ?_
      refine VC.ret (VE.thenR (VE.res (vs := [_]) rfl ⟨rfl, trivial⟩ (fun w hw => ?_)))
      refine ⟨?_, hw.nil⟩
      simp only [resV]
      congr 2
      first | exact cE1 h1 | exact cE2 hgo h2 | exact cE3 hgo hfo h3 | exact cE4 hgo hfo h3 h4 | exact cE5 hgo hfo h3 h4 hz h5 h6 | exact cE6 hgo hfo h3 h4 hz h5 h6 h7 | exact cE7 hgo hfo h3 h4 hm0 hz h8 h9 | exact cE8 hgo hfo h3 h4 hm0 hz h8 h9 h10 | exact cE9 hgo hfo h3 h4 hm0 hz h8
    ·
      have hfo : flowOk c.flow := flowOk_of h2
      refine VC.skip (VE.seqN ?_)
      refine VC.seq ?_
      refine VC.block ?_
      refine VC.seq ?_
      refine VC.reg (VO.l (LO.fa (r := 6) F34_3 (.r rfl) rfl) rfl <| VO.l (LO.ld O3 (.r rfl) (fun _ hw => cells_at hw 0 rfl ⟨_, rfl⟩)) rfl <| VO.l (LO.call (xs := [_, _, _]) (vs := [_, _, _]) C52 ⟨(.r rfl), (.r rfl), (.r rfl), trivial⟩ (fun w _ => within_c _ _ _ w)) rfl <| VO.l (LO.not (.r rfl)) rfl <| VO.l (LO.as (.r rfl)) rfl <| VO.nil ?_)
      refine VE.seqN ?_
      refine VC.cond rfl (fun h3 => ?_) (fun h3 => ?_)
      ·
        refine VC.seq ?_
        refine VC.reg (VO.l (LO.as (.r rfl)) rfl <| VO.nil ?_)
        refine VE.seqN ?_
        refine VC.ret (VE.inR (VE.thenR (VE.res (vs := [_]) rfl ⟨rfl, trivial⟩ (fun w hw => ?_))))
        refine ⟨?_, hw.nil⟩
        simp only [resV]
        congr 2
        first | exact cE1 h1 | exact cE2 hgo h2 | exact cE3 hgo hfo h3 | exact cE4 hgo hfo h3 h4 | exact cE5 hgo hfo h3 h4 hz h5 h6 | exact cE6 hgo hfo h3 h4 hz h5 h6 h7 | exact cE7 hgo hfo h3 h4 hm0 hz h8 h9 | exact cE8 hgo hfo h3 h4 hm0 hz h8 h9 h10 | exact cE9 hgo hfo h3 h4 hm0 hz h8
      ·
        refine VC.seq ?_
        refine VC.reg (VO.l (LO.fa (r := 1) F34_1 (.r rfl) rfl) rfl <| VO.l (LO.ld O28 (.r rfl) (fun _ hw => cells_at hw 0 rfl ⟨_, rfl⟩)) rfl <| VO.l (LO.len S28 (.r rfl) rfl) rfl <| VO.l (LO.eq (.r rfl) (.r rfl)) rfl <| VO.l (LO.as (.r rfl)) rfl <| VO.nil ?_)
        refine VE.seqN ?_
        refine VC.cond rfl (fun h4 => ?_) (fun h4 => ?_)
        ·
          refine VC.seq ?_
          refine VC.reg (VO.l (LO.as (.r rfl)) rfl <| VO.nil ?_)
          refine VE.seqN ?_
          refine VC.ret (VE.inR (VE.thenR (VE.res (vs := [_]) rfl ⟨rfl, trivial⟩ (fun w hw => ?_))))
          refine ⟨?_, hw.nil⟩
          simp only [resV]
          congr 2
          first | exact cE1 h1 | exact cE2 hgo h2 | exact cE3 hgo hfo h3 | exact cE4 hgo hfo h3 h4 | exact cE5 hgo hfo h3 h4 hz h5 h6 | exact cE6 hgo hfo h3 h4 hz h5 h6 h7 | exact cE7 hgo hfo h3 h4 hm0 hz h8 h9 | exact cE8 hgo hfo h3 h4 hm0 hz h8 h9 h10 | exact cE9 hgo hfo h3 h4 hm0 hz h8
        ·
          refine VC.skip (VE.inN (VE.seqN ?_))
          refine VC.seq ?_
          refine VC.seq ?_
          refine VC.reg (VO.l (LO.fa (r := 1) F34_1 (.r rfl) rfl) rfl <| VO.l (LO.ld O28 (.r rfl) (fun _ hw => cells_at hw 0 rfl ⟨_, rfl⟩)) rfl <| VO.l (LO.len S28 (.r rfl) rfl) rfl <| VO.l (LO.mv (.r rfl)) rfl <| VO.nil ?_)
          refine VE.seqN ?_
          refine VC.block ?_
          refine VC.loopK 0 (fun j => [(36, .int .i64 (j : Nat))]) [(2, _), (3, _), (34, _), (35, _)] (fun j => []) (fun j => j ≤ c.may.length ∧ ∀ k, k < j → mayE g c.may k = 0) (fun j => c.may.length - j) 0 (by exact ⟨by omega, fun k hk => by omega⟩) (.cons rfl (.cons rfl (.cons rfl (.cons rfl (.cons rfl .nil))))) (fun _ h => h) ?_
          rintro j ⟨hj, hz⟩
          refine VC.seq ?_
          refine VC.reg (VO.l (LO.lt (.r rfl) (.r rfl)) rfl <| VO.nil ?_)
          refine VE.seqN ?_
          refine VC.seq ?_
          refine VC.cond rfl (fun h5 => ?_) (fun h5 => ?_)
          ·
            refine VC.skip (VE.seqN ?_)
            refine VC.seq ?_
            refine VC.block ?_
            refine VC.seq ?_
            refine VC.reg (VO.l (LO.mv (.r rfl)) rfl <| VO.l (LO.ixs S28 N3 hm.some (.r rfl) (.r rfl) rfl (by omega)) rfl <| VO.l (LO.ld O3 (.r rfl) (hm.at (j := _) (by omega))) rfl <| VO.l (LO.as (.r rfl)) rfl <| VO.l (LO.as (.r rfl)) rfl <| VO.nil ?_)
            refine VE.seqN ?_
            refine VC.block ?_
            refine VC.seq ?_
            refine VC.reg (VO.l (LO.mv (.r rfl)) rfl <| VO.l (LO.fa (r := 3) F23_3 (.r rfl) rfl) rfl <| VO.l (LO.ld O3 (.r rfl) (fun _ hw => cells_at hw 1 rfl ⟨_, rfl⟩)) rfl <| VO.l (LO.fa (r := 4) F23_4 (.r rfl) rfl) rfl <| VO.l (LO.ld O3 (.r rfl) (fun _ hw => cells_at hw 1 rfl ⟨_, rfl⟩)) rfl <| VO.l (LO.mul (.r rfl) (.r rfl) (wi (by omega) (by omega))) rfl <| VO.l (LO.sub (.r rfl) (.r rfl) (wi (by omega) (by omega))) rfl <| VO.l (LO.call (xs := [_, _, _]) (vs := [_, _, _]) C52 ⟨(.r rfl), (.r rfl), (.r rfl), trivial⟩ (fun w _ => within_c _ _ _ w)) rfl <| VO.l (LO.not (.r rfl)) rfl <| VO.l (LO.as (.r rfl)) rfl <| VO.nil ?_)
            refine VE.seqN ?_
            refine VC.cond rfl (fun h6 => ?_) (fun h6 => ?_)
            ·
              refine VC.seq ?_
              refine VC.reg (VO.l (LO.as (.r rfl)) rfl <| VO.nil ?_)
              refine VE.seqN ?_
              refine VC.ret (VE.inR (VE.inR (VE.thenR (VE.thenR (VE.inR (VE.thenR (VE.res (vs := [_]) rfl ⟨rfl, trivial⟩ (fun w hw => ?_))))))))
              refine ⟨?_, hw.nil⟩
              simp only [resV]
              congr 2
              first | exact cE1 h1 | exact cE2 hgo h2 | exact cE3 hgo hfo h3 | exact cE4 hgo hfo h3 h4 | exact cE5 hgo hfo h3 h4 hz h5 h6 | exact cE6 hgo hfo h3 h4 hz h5 h6 h7 | exact cE7 hgo hfo h3 h4 hm0 hz h8 h9 | exact cE8 hgo hfo h3 h4 hm0 hz h8 h9 h10 | exact cE9 hgo hfo h3 h4 hm0 hz h8
            ·
              refine VC.seq ?_
              refine VC.reg (VO.l (LO.mv (.r rfl)) rfl <| VO.l (LO.gt (.r rfl) (.r rfl)) rfl <| VO.l (LO.mv (.r rfl)) rfl <| VO.lg rfl rfl (GD.t _) (fun hg => LO.mv (.r rfl)) rfl <| VO.lg rfl rfl (GD.t _) (fun hg => LO.fa (r := 1) F34_1 (.r rfl) rfl) rfl <| VO.lg rfl rfl (GD.t _) (fun hg => LO.ld O28 (.g hg rfl) (fun _ hw => cells_at hw 0 rfl ⟨_, rfl⟩)) rfl <| VO.lg rfl rfl (GD.t _) (fun hg => LO.mv (.r rfl)) rfl <| VO.lg rfl rfl (GD.t _) (fun hg => LO.sub (.g hg rfl) (.r rfl) (wi (by omega) (by omega))) rfl <| VO.lg rfl rfl (GD.t _) (fun hg => LO.ixs S28 N3 hm.some (.g hg rfl) (.g hg rfl) (by have := of_decide_eq_true hg; omega) (by omega)) rfl <| VO.lg rfl rfl (GD.t _) (fun hg => LO.ld O3 (.g hg rfl) (hm.at (j := (j - 1)) (by omega))) rfl <| VO.lg rfl rfl (GD.t _) (fun hg => LO.le (.g hg rfl) (.g hg rfl)) rfl <| VO.l (LO.pkA (.r rfl) rfl rfl (.r rfl)) rfl <| VO.l (LO.as (.r rfl)) rfl <| VO.nil ?_)
              refine VE.seqN ?_
              refine VC.cond rfl (fun h7 => ?_) (fun h7 => ?_)
              ·
                refine VC.seq ?_
                refine VC.reg (VO.l (LO.as (.r rfl)) rfl <| VO.nil ?_)
                refine VE.seqN ?_
                refine VC.ret (VE.inR (VE.inR (VE.thenR (VE.thenR (VE.inR (VE.thenR (VE.res (vs := [_]) rfl ⟨rfl, trivial⟩ (fun w hw => ?_))))))))
                refine ⟨?_, hw.nil⟩
                simp only [resV]
                congr 2
                first | exact cE1 h1 | exact cE2 hgo h2 | exact cE3 hgo hfo h3 | exact cE4 hgo hfo h3 h4 | exact cE5 hgo hfo h3 h4 hz h5 h6 | exact cE6 hgo hfo h3 h4 hz h5 h6 h7 | exact cE7 hgo hfo h3 h4 hm0 hz h8 h9 | exact cE8 hgo hfo h3 h4 hm0 hz h8 h9 h10 | exact cE9 hgo hfo h3 h4 hm0 hz h8
              ·
                refine VC.skip (VE.inN (VE.inN (VE.seqN ?_)))
                refine VC.reg (VO.l (LO.add (.r rfl) (.r rfl) (wi (by omega) (by omega))) rfl <| VO.l (LO.mv (.r rfl)) rfl <| VO.nil ?_)
                refine VE.thenN fun a w ha hw => ⟨j + 1, ⟨by omega, step_zero hz (mayE_zero h6 h7)⟩, by omega, ha.sub (.cons rfl (.cons rfl (.cons rfl (.cons rfl (.cons rfl .nil))))), hw⟩
          ·
            refine VC.exit (VE.thenX (VE.thenX (VE.inX (VE.seqN ?_))))
            refine VC.seq ?_
            have hm0 : firstE (mayE g c.may) c.may.length = 0 := firstE_zero (fun k hk => hz k (by omega))
            refine VC.reg (VO.l (LO.fa (r := 1) F34_1 (.r rfl) rfl) rfl <| VO.l (LO.ld O28 (.r rfl) (fun _ hw => cells_at hw 0 rfl ⟨_, rfl⟩)) rfl <| VO.h rfl <| HO.callx (xs := [_]) (vs := [_]) C76 ⟨(.r rfl), trivial⟩ (fun w hw => set_c _ _ _ w (by omega) (hm.keep w hw)) fun qhm _ => VO.h rfl <| HO.lo (LO.as (.r rfl)) <| VO.nil ?_)
            refine VE.seqN ?_
            refine VC.seq ?_
            refine VC.seq ?_
            refine VC.reg (VO.l (LO.fa (r := 0) F34_0 (.r rfl) rfl) rfl <| VO.l (LO.ld O28 (.r rfl) (fun _ hw => cells_at hw 1 rfl ⟨_, rfl⟩)) rfl <| VO.l (LO.len S28 (.r rfl) rfl) rfl <| VO.l (LO.mv (.r rfl)) rfl <| VO.nil ?_)
            refine VE.seqN ?_
            refine VC.block ?_
            refine VC.loopK 0 (fun j => [(71, .int .i64 (j : Nat))]) [(2, _), (3, _), (9, _), (69, _), (70, _)] (fun j => []) (fun j => j ≤ c.sure.length ∧ ∀ k, k < j → sureE c.may c.sure k = 0) (fun j => c.sure.length - j) 0 (by exact ⟨by omega, fun k hk => by omega⟩) (.cons rfl (.cons rfl (.cons rfl (.cons rfl (.cons rfl (.cons rfl .nil)))))) (fun _ h => h) ?_
            rintro j ⟨hj, hz⟩
            refine VC.seq ?_
            refine VC.reg (VO.l (LO.lt (.r rfl) (.r rfl)) rfl <| VO.nil ?_)
            refine VE.seqN ?_
            refine VC.seq ?_
            refine VC.cond rfl (fun h8 => ?_) (fun h8 => ?_)
            ·
              refine VC.skip (VE.seqN ?_)
              refine VC.seq ?_
              refine VC.block ?_
              refine VC.seq ?_
              refine VC.reg (VO.l (LO.mv (.r rfl)) rfl <| VO.l (LO.ixs S28 N3 hs.some (.r rfl) (.r rfl) rfl (by omega)) rfl <| VO.l (LO.ld O3 (.r rfl) (hs.at (j := j) (by omega))) rfl <| VO.l (LO.as (.r rfl)) rfl <| VO.l (LO.as (.r rfl)) rfl <| VO.nil ?_)
              refine VE.seqN ?_
              refine VC.block ?_
              refine VC.seq ?_
              refine VC.reg (VO.l (LO.mv (.r rfl)) rfl <| VO.l (LO.gt (.r rfl) (.r rfl)) rfl <| VO.l (LO.mv (.r rfl)) rfl <| VO.lg rfl rfl (GD.t _) (fun hg => LO.mv (.r rfl)) rfl <| VO.lg rfl rfl (GD.t _) (fun hg => LO.fa (r := 0) F34_0 (.r rfl) rfl) rfl <| VO.lg rfl rfl (GD.t _) (fun hg => LO.ld O28 (.g hg rfl) (fun _ hw => cells_at hw 1 rfl ⟨_, rfl⟩)) rfl <| VO.lg rfl rfl (GD.t _) (fun hg => LO.mv (.r rfl)) rfl <| VO.lg rfl rfl (GD.t _) (fun hg => LO.sub (.g hg rfl) (.r rfl) (wi (by omega) (by omega))) rfl <| VO.lg rfl rfl (GD.t _) (fun hg => LO.ixs S28 N3 hs.some (.g hg rfl) (.g hg rfl) (by have := of_decide_eq_true hg; omega) (by omega)) rfl <| VO.lg rfl rfl (GD.t _) (fun hg => LO.ld O3 (.g hg rfl) (hs.at (j := (j - 1)) (by omega))) rfl <| VO.lg rfl rfl (GD.t _) (fun hg => LO.le (.g hg rfl) (.g hg rfl)) rfl <| VO.l (LO.pkA (.r rfl) rfl rfl (.r rfl)) rfl <| VO.l (LO.as (.r rfl)) rfl <| VO.nil ?_)
              refine VE.seqN ?_
              refine VC.cond rfl (fun h9 => ?_) (fun h9 => ?_)
              ·
                refine VC.seq ?_
                refine VC.reg (VO.l (LO.as (.r rfl)) rfl <| VO.nil ?_)
                refine VE.seqN ?_
                refine VC.ret (VE.inR (VE.inR (VE.thenR (VE.thenR (VE.inR (VE.thenR (VE.res (vs := [_]) rfl ⟨rfl, trivial⟩ (fun w hw => ?_))))))))
                refine ⟨?_, hw.nil⟩
                simp only [resV]
                congr 2
                first | exact cE1 h1 | exact cE2 hgo h2 | exact cE3 hgo hfo h3 | exact cE4 hgo hfo h3 h4 | exact cE5 hgo hfo h3 h4 hz h5 h6 | exact cE6 hgo hfo h3 h4 hz h5 h6 h7 | exact cE7 hgo hfo h3 h4 hm0 hz h8 h9 | exact cE8 hgo hfo h3 h4 hm0 hz h8 h9 h10 | exact cE9 hgo hfo h3 h4 hm0 hz h8
              ·
                refine VC.seq ?_
                refine VC.reg (VO.l (LO.mv (.r rfl)) rfl <| VO.l (LO.mv (.r rfl)) rfl <| VO.l (LO.lk M118 (.r rfl) (.r rfl) (fun _ hw => St.inv hw 0 _ rfl)) rfl <| VO.l (LO.not (.r rfl)) rfl <| VO.l (LO.as (.r rfl)) rfl <| VO.nil ?_)
                refine VE.seqN ?_
                refine VC.cond rfl (fun h10 => ?_) (fun h10 => ?_)
                ·
                  refine VC.seq ?_
                  refine VC.reg (VO.l (LO.as (.r rfl)) rfl <| VO.nil ?_)
                  refine VE.seqN ?_
                  refine VC.ret (VE.inR (VE.inR (VE.thenR (VE.thenR (VE.inR (VE.thenR (VE.res (vs := [_]) rfl ⟨rfl, trivial⟩ (fun w hw => ?_))))))))
                  refine ⟨?_, hw.nil⟩
                  simp only [resV]
                  congr 2
                  first | exact cE1 h1 | exact cE2 hgo h2 | exact cE3 hgo hfo h3 | exact cE4 hgo hfo h3 h4 | exact cE5 hgo hfo h3 h4 hz h5 h6 | exact cE6 hgo hfo h3 h4 hz h5 h6 h7 | exact cE7 hgo hfo h3 h4 hm0 hz h8 h9 | exact cE8 hgo hfo h3 h4 hm0 hz h8 h9 h10 | exact cE9 hgo hfo h3 h4 hm0 hz h8
                ·
                  refine VC.skip (VE.inN (VE.inN (VE.seqN ?_)))
                  refine VC.reg (VO.l (LO.add (.r rfl) (.r rfl) (wi (by omega) (by omega))) rfl <| VO.l (LO.mv (.r rfl)) rfl <| VO.nil ?_)
                  refine VE.thenN fun a w ha hw => ⟨j + 1, ⟨by omega, step_zero hz (sureE_zero h9 h10)⟩, by omega, ha.sub (.cons rfl (.cons rfl (.cons rfl (.cons rfl (.cons rfl (.cons rfl .nil)))))), hw⟩
            ·
              refine VC.exit (VE.thenX (VE.thenX (VE.inX (VE.seqN ?_))))
              refine VC.seq ?_
              refine VC.reg (VO.l (LO.as (.r rfl)) rfl <| VO.nil ?_)
              refine VE.seqN ?_
              refine VC.ret (VE.res (vs := [_]) rfl ⟨rfl, trivial⟩ (fun w hw => ?_))
              refine ⟨?_, hw.nil⟩
              simp only [resV]
              congr 2
              first | exact cE1 h1 | exact cE2 hgo h2 | exact cE3 hgo hfo h3 | exact cE4 hgo hfo h3 h4 | exact cE5 hgo hfo h3 h4 hz h5 h6 | exact cE6 hgo hfo h3 h4 hz h5 h6 h7 | exact cE7 hgo hfo h3 h4 hm0 hz h8 h9 | exact cE8 hgo hfo h3 h4 hm0 hz h8 h9 h10 | exact cE9 hgo hfo h3 h4 hm0 hz h8

end Go.Proofs.Ytdcjeoamhjplmaa
