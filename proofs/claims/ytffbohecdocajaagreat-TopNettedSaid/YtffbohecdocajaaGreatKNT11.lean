/-
  Walks of package mosaic: the map of a node.
  Walks of package mosaic: the field of a node.
  Walks of package mosaic: no clashes.
  Walks of the law on networks: its input.
  Walks of package mosaic: nodes begin.
  Walks of package mosaic: snapshots.
  Walks of package mosaic: snapshots, second part.
  Walks of package mosaic: a snapshot.
  The law on networks: plain.
  The law on networks: areas, plain; the example.
  The law on networks: what its walk speaks of.
-/
import Derived.Test.YtffbohecdocajaaGreatKNT10

set_option linter.unusedSimpArgs false
namespace Go.Proofs.YtffbohecdocajaaGreat
open Go.SL Go.Proofs Go.Pulse
set_option linter.unusedVariables false

theorem C100 : IsFn Tryz.prog 100 := ⟨_, Tryz.func100, by decide, rfl⟩
theorem C101 : IsFn Tryz.prog 101 := ⟨_, Tryz.func101, by decide, rfl⟩
theorem F293_2 : FieldAt Tryz.prog 293 2 4 := ⟨_,_, Tryz.underlying293, rfl, rfl, 0, by kernel_rfl⟩
theorem O291 : IsOne Tryz.prog 291 := ⟨⟨_, Tryz.underlying291, rfl⟩, by kernel_rfl⟩
theorem C102 : IsFn Tryz.prog 102 := ⟨_, Tryz.func102, by decide, rfl⟩
theorem F293_0 : FieldAt Tryz.prog 293 0 0 := ⟨_,_, Tryz.underlying293, rfl, rfl, 2, by kernel_rfl⟩
theorem C105 : IsFn Tryz.prog 105 := ⟨_, Tryz.func105, by decide, rfl⟩
theorem B163 : Builds Tryz.prog 163 [(0,2), (2,3)] [.int .i64 0, .int .i64 0, .string ByteArray.empty, .int .i64 0, .int .i64 0] := Builds.mk fun _ => by kernel_rfl
theorem Z163 : ZeroOf Tryz.prog 163 (.agg #[.int .i64 0, .int .i64 0, .string ByteArray.empty, .int .i64 0, .int .i64 0]) := by unfold ZeroOf; kernel_rfl
theorem N163 : (Tryz.prog.info? 163).map (·.size) = some 5 := by kernel_rfl
theorem F293_1 : FieldAt Tryz.prog 293 1 3 := ⟨_,_, Tryz.underlying293, rfl, rfl, 0, by kernel_rfl⟩
theorem A163 : IsAgg Tryz.prog 163 5 := ⟨⟨_, Tryz.underlying163, rfl⟩, by kernel_rfl⟩
theorem S146 : IsSlice Tryz.prog 146 163 := Tryz.underlying146
theorem I163 : EInfo Tryz.prog 163 5 48 (.agg #[.int .i64 0, .int .i64 0, .string ByteArray.empty, .int .i64 0, .int .i64 0]) := ⟨by kernel_rfl, by kernel_rfl, by unfold ZeroOf; kernel_rfl, rfl, by decide⟩



set_option maxRecDepth 20000 in
set_option maxHeartbeats 16000000 in
theorem Map_c (bn : Nat) (q : NdQ) (c : Nat) (S : KeyM → List (List Span)) (M : KeyM → Option TY) (ts : List TY) (vs : List VY) (R : Fin 3 → Option (Option RdM)) (C : KeyW → Option VY) (ls : List VY) (T : Int) (w : World) (hS : NdS S M ts vs c) (hc : c < 1000) (hOk : RdsOk R S) (hSn : ∀ k v, v ∈ S k → v.length = q.w * q.h) (hT : 0 ≤ T ∧ T ≤ 100000) (hW : 1 ≤ q.w ∧ q.w ≤ 6) (hH : 1 ≤ q.h ∧ q.h ≤ 6) (hI : LkI R q.w q.h C ls) (hh : Has w [mapR wV lkV q.lm C, bagD (ls.map vOwn)]) (hF : ∀ L w2, St ⟨w, fpL [mapR wV lkV q.lm C, bagD (ls.map vOwn)]⟩ L w2 → NdW w2 bn q c M ts vs ∧ (mapR nmV rdV q.rm R).inv w2) :
  Calls Tryz.prog 39 #[.pointer (some ⟨bn, 0, none⟩), .int .i64 T] w fun e w' => ∃ y : (List PxM × (KeyW → Option VY) × List VY) × Option Addr × Nat, ((∃ hs, HdA S R q.w q.h T vs y.1.2.2 hs ∧ y.1.1 = (List.range (q.w * q.h)).map (pxF (hs.map HdY.t))) ∧ LkI R q.w q.h y.1.2.1 y.1.2.2 ∧ ∀ z, z ∈ ls → z ∈ y.1.2.2) ∧ e = .returned (.tuple #[.slice y.2.1 y.1.1.length y.2.2, .int .i64 0]) ∧ St ⟨w, fpL [mapR wV lkV q.lm C, bagD (ls.map vOwn)]⟩ [own 163 5 y.2.1 y.2.2 (y.1.1.map pxC), mapR wV lkV q.lm y.1.2.1, bagD (y.1.2.2.map vOwn)] w' := by
  have hWH : (q.w : Int) * (q.h : Int) = ((q.w * q.h : Nat) : Int) := by rw [Int.natCast_mul]
  have hWH2 : q.w * q.h ≤ 36 := Nat.mul_le_mul hW.2 hH.2
  refine enterO (vs := [_,_]) (env := [(0,_), (1,_)]) hh.enter Tryz.func39 rfl rfl rfl rfl ?_
  refine VC.seq ?_
  refine VC.reg (VO.l (LO.as (.r rfl)) rfl<|VO.l (LO.as (.r rfl)) rfl<|VO.nil ?_)
  refine VE.seqN ?_
  refine VC.seq ?_
  refine VC.seq ?_
  refine VC.reg (VO.l (LO.mv (.r rfl)) rfl<|VO.l (LO.mv (.r rfl)) rfl<|VO.l (LO.call (xs := [_,_]) (vs := [_,_]) C100 ⟨(.r rfl), (.r rfl), trivial⟩ (fun w hw => asked_c bn q c T w hT (hF _ _ hw).1.B)) rfl<|VO.l (LO.as (.r rfl)) rfl<|VO.nil ?_)
  refine VE.seqN ?_
  refine VC.seq ?_
  refine VC.reg (VO.l (LO.mv (.r rfl)) rfl<|VO.l (LO.ne (.r rfl) (.r rfl)) rfl<|VO.nil ?_)
  refine VE.seqN ?_
  refine VC.cond rfl (fun h18 => ?_) (fun h18 => ?_)
  ·
    (exfalso; exact h18 rfl)
  ·
    refine VC.skip (VE.seqN ?_)
    refine VC.seq ?_
    refine VC.reg (VO.l (LO.mv (.r rfl)) rfl<|VO.l (LO.mv (.r rfl)) rfl<|VO.h rfl<|HO.callP (first := []) (cap := []) (xs := [_,_]) (vs := [_,_]) [_,_] [] (selK (L1 := [_,_] ++ []) [0,1] rfl rfl) (.r rfl) C101 ⟨(.r rfl), (.r rfl), trivial⟩ (fun w hw hh => at_c bn q c S M ts vs R C ls T w hS hc hOk hT hW hH hI hh (fun L w2 h2 => hF _ w2 (St.fz (selK (L1 := [_,_] ++ []) [0,1] rfl rfl w hw) h2))) fun yh ⟨hak, hap, hai, hal, hal2⟩ => VO.h rfl<|HO.lo (LO.as (.r rfl))<|VO.nil ?_)
    refine VE.seqN ?_
    refine VC.seq ?_
    obtain ⟨hl, hhl⟩ : ∃ hl, hl = yh.1.1 := ⟨_, rfl⟩
    rw [← hhl] at hak hap hal ⊢
    have hla : ∀ j, j < hl.length → HdP S R q.w q.h vs yh.1.2.2 (hl.getD j zHd) := fun j hj => hap _ (hd_mem hj)
    refine VC.pur (φ := SlSome yh.2.1 hl.length ∧ ∀ j, j < hl.length → SlSome (hl.getD j zHd).l.p (hl.getD j zHd).l.v.length ∧ SlSome (hl.getD j zHd).m.p (hl.getD j zHd).m.v.length) (fun w hw => ⟨(RO.of_own hw 0 rfl).sm, fun j hj => ⟨(bag_sp hw 2 rfl (hla j hj).l.1).sm, ((hF _ _ hw).1.V _ (hla j hj).m.1).sm⟩⟩) fun hsp => ?_
    refine VC.reg (VO.l (LO.as (.r rfl)) rfl<|VO.nil ?_)
    refine VE.seqN ?_
    refine VC.seq ?_
    refine VC.seq ?_
    refine VC.draw mixed (LL.l (LO.mv (.r rfl)) rfl<|LL.l (LO.nc (.r rfl)) rfl<|LL.l (LO.fa (r := 0) F277_0 (.r rfl) rfl) rfl<|LL.l (LO.fa (r := 0) F131_0 (.r rfl) rfl) rfl<|LL.l (LO.fa (r := 3) F88_3 (.r rfl) rfl) rfl<|LL.l (LO.ld O3 (.r rfl) (fun _ hw => sub_cells (off := 3) (hF _ _ hw).1.B ⟨_, rfl⟩)) rfl<|LL.l (LO.mv (.r rfl)) rfl<|LL.l (LO.nc (.r rfl)) rfl<|LL.l (LO.fa (r := 0) F277_0 (.r rfl) rfl) rfl<|LL.l (LO.fa (r := 0) F131_0 (.r rfl) rfl) rfl<|LL.l (LO.fa (r := 4) F88_4 (.r rfl) rfl) rfl<|LL.l (LO.ld O3 (.r rfl) (fun _ hw => sub_cells (off := 4) (hF _ _ hw).1.B ⟨_, rfl⟩)) rfl<|LL.l (LO.mul (.r rfl) (.r rfl) (wi (by omega) (by omega))) rfl<|LL.l (LO.mv (.r rfl)) rfl<|LL.nil) (by kernel_rfl) ?_
    refine VE.seqN ?_
    refine VC.block ?_
    refine VC.loopK (α := Nat × (List PxM) × Nat × (Option Addr) × Nat) 0 (fun gx => [(8, .slice gx.2.2.2.1 gx.2.2.1 gx.2.2.2.2), (36, .int .i64 (gx.1 : Nat))]) [(7,_), (35,_)] (fun gx => [own 163 5 gx.2.2.2.1 gx.2.2.2.2 (gx.2.1.map pxC)]) (fun gx => gx.1 ≤ q.w * q.h ∧ gx.2.2.1 = gx.2.1.length ∧ gx.2.1.length = gx.1 ∧ gx.2.1 = (List.range gx.1).map (pxF (hl.map HdY.t))) (fun gx => q.w * q.h - gx.1) (0, [], 0, none, 0) (by exact ⟨Nat.zero_le _, rfl, rfl, rfl⟩) (.cons rfl (.cons rfl (.cons rfl (.cons rfl .nil)))) (fun _ h => (h.ownNil 163 5)) ?_
    rintro ⟨i, o, n, po, co⟩ ⟨hi, hno, hol, hoe⟩
    show VC _ _ _ _ _ ([(8, .slice po n co), (36, .int .i64 (i : Nat))] ++ _) ([own 163 5 po co (o.map pxC)] ++ _) _ _
    dsimp only at hi hno hol hoe
    refine VC.seq ?_
    refine VC.reg (VO.l (LO.lt (.r rfl) (.r rfl)) rfl<|VO.nil ?_)
    refine VE.seqN ?_
    refine VC.seq ?_
    refine VC.cond rfl (fun h37 => ?_) (fun h37 => ?_)
    ·
      refine VC.skip (VE.seqN ?_)
      refine VC.seq ?_
      refine VC.block ?_
      refine VC.seq ?_
      refine VC.reg (VO.l (LO.mv (.r rfl)) rfl<|VO.l (LO.as (.r rfl)) rfl<|VO.nil ?_)
      refine VE.seqN ?_
      refine VC.seq ?_
      refine VC.reg (VO.l (LO.as (.r rfl)) rfl<|VO.nil ?_)
      refine VE.seqN ?_
      refine VC.seq ?_
      refine VC.seq ?_
      refine VC.reg (VO.l (LO.mv (.r rfl)) rfl<|VO.l (LO.len S288 (.r rfl) rfl) rfl<|VO.l (LO.mv (.r rfl)) rfl<|VO.nil ?_)
      refine VE.seqN ?_
      refine VC.block ?_
      refine VC.loopK (α := Nat × (Option Nat)) 0 (fun gx => [(10, bestV yh.2.1 gx.2), (41, .int .i64 (gx.1 : Nat))]) [(7,_), (8,_), (9,_), (35,_), (36,_), (40,_)] (fun gx => []) (fun gx => gx.1 ≤ hl.length ∧ gx.2 = bstF (hl.map HdY.t) i gx.1) (fun gx => hl.length - gx.1) (0, none) (by exact ⟨Nat.zero_le _, rfl⟩) (.cons rfl (.cons rfl (.cons rfl (.cons rfl (.cons rfl (.cons rfl (.cons rfl (.cons rfl .nil)))))))) (fun _ h => h) ?_
      rintro ⟨j, bst⟩ ⟨hj, hb⟩
      show VC _ _ _ _ _ ([(10, bestV yh.2.1 bst), (41, .int .i64 (j : Nat))] ++ _) ([] ++ _) _ _
      dsimp only at hj hb
      refine VC.seq ?_
      refine VC.reg (VO.l (LO.lt (.r rfl) (.r rfl)) rfl<|VO.nil ?_)
      refine VE.seqN ?_
      refine VC.seq ?_
      refine VC.cond rfl (fun h42 => ?_) (fun h42 => ?_)
      ·
        refine VC.skip (VE.seqN ?_)
        refine VC.seq ?_
        refine VC.block ?_
        refine VC.seq ?_
        refine VC.reg (VO.l (LO.mv (.r rfl)) rfl<|VO.l (LO.as (.r rfl)) rfl<|VO.nil ?_)
        refine VE.seqN ?_
        refine VC.seq ?_
        refine VC.reg (VO.l (LO.mv (.r rfl)) rfl<|VO.l (LO.mv (.r rfl)) rfl<|VO.l (LO.ixs S288 N293 hsp.1 (.r rfl) (.r rfl) rfl (by omega)) rfl<|VO.l (LO.as (.r rfl)) rfl<|VO.nil ?_)
        refine VE.seqN ?_
        refine VC.seq ?_
        refine VC.seq ?_
        refine VC.reg (VO.l (LO.mv (.r rfl)) rfl<|VO.l (LO.nc (.r rfl)) rfl<|VO.l (LO.fa F293_2 (.r rfl) rfl) rfl<|VO.l (LO.ld O291 (.r rfl) (fun w hw => cells_part (off := 4) ((fun w2 hw2 => (own_rows hw2 1 rfl).cells _ _ (hd_map (j := j) (by omega))) w hw) ⟨_, rfl⟩)) rfl<|VO.l (LO.mv (.r rfl)) rfl<|VO.l (LO.ixs S291 N25 (hsp.2 j (by omega)).1 (.r rfl) (.r rfl) (j := i) rfl (by have := (hla j (by omega)).l.2; omega)) rfl<|VO.l (LO.lda (vs := [_,_]) A25 (.r rfl) (fun w hw => cells_part (off := 0) ((fun w2 hw2 => (bag_sp hw2 3 rfl (hla j (by omega)).l.1).here zs (j := i) (by have := (hla j (by omega)).l.2; omega)) w hw) ⟨_, rfl⟩) rfl) rfl<|VO.l (LO.call (xs := [_]) (vs := [_]) C102 ⟨(.r rfl), trivial⟩ (fun w _ => seen_c _ w)) rfl<|VO.l (LO.not (.r rfl)) rfl<|VO.nil ?_)
        refine VE.seqN ?_
        refine VC.cond rfl (fun h55 => ?_) (fun h55 => ?_)
        ·
          have hse : ¬ seeH i ((hl.map HdY.t).getD j zHT) := by rw [getD_t]; exact h55
          refine VC.exit (VE.thenX (VE.inX (VE.seqN ?_)))
          refine VC.reg (VO.l (LO.add (.r rfl) (.r rfl) (wi (by omega) (by omega))) rfl<|VO.l (LO.mv (.r rfl)) rfl<|VO.nil ?_)
          refine VE.thenN fun a w ha hw => ⟨(j + 1, bst), ⟨by dsimp only; omega, by dsimp only; rw [bst_n hse]; exact hb⟩, (by dsimp only; omega), ha.sub (.cons rfl (.cons rfl (.cons rfl (.cons rfl (.cons rfl (.cons rfl (.cons rfl (.cons rfl .nil)))))))), hw⟩
        ·
          have hse : seeH i ((hl.map HdY.t).getD j zHT) := by rw [getD_t]; exact Classical.not_not.1 h55
          refine VC.skip (VE.seqN ?_)
          refine VC.seq ?_
          rcases bst with _ | b0
          ·
            refine VC.draw mixed (LL.l (LO.mv (.r rfl)) rfl<|LL.l (LO.eqP0 ⟨_, Tryz.underlying290⟩ (.r rfl) (.r rfl)) rfl<|LL.l (LO.mv (.r rfl)) rfl<|LL.lg rfl rfl (GD.f _) (fun hg => (show LO _ _ _ _ _ (.bool false) from by cases hg)) rfl<|LL.lg rfl rfl (GD.f _) (fun hg => (show LO _ _ _ _ _ (.bool false) from by cases hg)) rfl<|LL.lg rfl rfl (GD.f _) (fun hg => (show LO _ _ _ _ _ (.bool false) from by cases hg)) rfl<|LL.lg rfl rfl (GD.f _) (fun hg => (show LO _ _ _ _ _ (.bool false) from by cases hg)) rfl<|LL.lg rfl rfl (GD.f _) (fun hg => (show LO _ _ _ _ _ (.bool false) from by cases hg)) rfl<|LL.lg rfl rfl (GD.f _) (fun hg => (show LO _ _ _ _ _ (.bool false) from by cases hg)) rfl<|LL.lg rfl rfl (GD.f _) (fun hg => (show LO _ _ _ _ _ (.bool false) from by cases hg)) rfl<|LL.lg rfl rfl (GD.f _) (fun hg => (show LO _ _ _ _ _ (.bool false) from by cases hg)) rfl<|LL.lg rfl rfl (GD.f _) (fun hg => (show LO _ _ _ _ _ (.bool false) from by cases hg)) rfl<|LL.lg rfl rfl (GD.f _) (fun hg => (show LO _ _ _ _ _ (.bool false) from by cases hg)) rfl<|LL.lg rfl rfl (GD.f _) (fun hg => (show LO _ _ _ _ _ (.bool false) from by cases hg)) rfl<|LL.lg rfl rfl (GD.f _) (fun hg => (show LO _ _ _ _ _ (.bool false) from by cases hg)) rfl<|LL.lg rfl rfl (GD.f _) (fun hg => (show LO _ _ _ _ _ (.bool false) from by cases hg)) rfl<|LL.lg rfl rfl (GD.f _) (fun hg => (show LO _ _ _ _ _ (.bool false) from by cases hg)) rfl<|LL.lg rfl rfl (GD.f _) (fun hg => (show LO _ _ _ _ _ (.bool false) from by cases hg)) rfl<|LL.lg rfl rfl (GD.f _) (fun hg => (show LO _ _ _ _ _ (.bool false) from by cases hg)) rfl<|LL.lg rfl rfl (GD.f _) (fun hg => (show LO _ _ _ _ _ (.bool false) from by cases hg)) rfl<|LL.lg rfl rfl (GD.f _) (fun hg => (show LO _ _ _ _ _ (.bool false) from by cases hg)) rfl<|LL.lg rfl rfl (GD.f _) (fun hg => (show LO _ _ _ _ _ (.bool false) from by cases hg)) rfl<|LL.lg rfl rfl (GD.f _) (fun hg => (show LO _ _ _ _ _ (.bool false) from by cases hg)) rfl<|LL.lg rfl rfl (GD.f _) (fun hg => (show LO _ _ _ _ _ (.bool false) from by cases hg)) rfl<|LL.lg rfl rfl (GD.f _) (fun hg => (show LO _ _ _ _ _ (.bool false) from by cases hg)) rfl<|LL.lg rfl rfl (GD.f _) (fun hg => (show LO _ _ _ _ _ (.bool false) from by cases hg)) rfl<|LL.lg rfl rfl (GD.f _) (fun hg => (show LO _ _ _ _ _ (.bool false) from by cases hg)) rfl<|LL.lg rfl rfl (GD.f _) (fun hg => (show LO _ _ _ _ _ (.bool false) from by cases hg)) rfl<|LL.lg rfl rfl (GD.f _) (fun hg => (show LO _ _ _ _ _ (.bool false) from by cases hg)) rfl<|LL.lg rfl rfl (GD.f _) (fun hg => (show LO _ _ _ _ _ (.bool false) from by cases hg)) rfl<|LL.lg rfl rfl (GD.f _) (fun hg => (show LO _ _ _ _ _ (.bool false) from by cases hg)) rfl<|LL.lg rfl rfl (GD.f _) (fun hg => (show LO _ _ _ _ _ (.bool false) from by cases hg)) rfl<|LL.lg rfl rfl (GD.f _) (fun hg => (show LO _ _ _ _ _ (.bool false) from by cases hg)) rfl<|LL.lg rfl rfl (GD.f _) (fun hg => (show LO _ _ _ _ _ (.bool false) from by cases hg)) rfl<|LL.lg rfl rfl (GD.f _) (fun hg => (show LO _ _ _ _ _ (.bool false) from by cases hg)) rfl<|LL.lg rfl rfl (GD.f _) (fun hg => (show LO _ _ _ _ _ (.bool false) from by cases hg)) rfl<|LL.lg rfl rfl (GD.f _) (fun hg => (show LO _ _ _ _ _ (.bool false) from by cases hg)) rfl<|LL.lg rfl rfl (GD.f _) (fun hg => (show LO _ _ _ _ _ (.bool false) from by cases hg)) rfl<|LL.lg rfl rfl (GD.f _) (fun hg => (show LO _ _ _ _ _ (.bool false) from by cases hg)) rfl<|LL.lg rfl rfl (GD.f _) (fun hg => (show LO _ _ _ _ _ (.bool false) from by cases hg)) rfl<|LL.lg rfl rfl (GD.f _) (fun hg => (show LO _ _ _ _ _ (.bool false) from by cases hg)) rfl<|LL.lg rfl rfl (GD.f _) (fun hg => (show LO _ _ _ _ _ (.bool false) from by cases hg)) rfl<|LL.lg rfl rfl (GD.f _) (fun hg => (show LO _ _ _ _ _ (.bool false) from by cases hg)) rfl<|LL.lg rfl rfl (GD.f _) (fun hg => (show LO _ _ _ _ _ (.bool false) from by cases hg)) rfl<|LL.lg rfl rfl (GD.f _) (fun hg => (show LO _ _ _ _ _ (.bool false) from by cases hg)) rfl<|LL.lg rfl rfl (GD.f _) (fun hg => (show LO _ _ _ _ _ (.bool false) from by cases hg)) rfl<|LL.lg rfl rfl (GD.f _) (fun hg => (show LO _ _ _ _ _ (.bool false) from by cases hg)) rfl<|LL.lg rfl rfl (GD.f _) (fun hg => (show LO _ _ _ _ _ (.bool false) from by cases hg)) rfl<|LL.lg rfl rfl (GD.f _) (fun hg => (show LO _ _ _ _ _ (.bool false) from by cases hg)) rfl<|LL.lg rfl rfl (GD.f _) (fun hg => (show LO _ _ _ _ _ (.bool false) from by cases hg)) rfl<|LL.lg rfl rfl (GD.f _) (fun hg => (show LO _ _ _ _ _ (.bool false) from by cases hg)) rfl<|LL.lg rfl rfl (GD.f _) (fun hg => (show LO _ _ _ _ _ (.bool false) from by cases hg)) rfl<|LL.lg rfl rfl (GD.f _) (fun hg => (show LO _ _ _ _ _ (.bool false) from by cases hg)) rfl<|LL.lg rfl rfl (GD.f _) (fun hg => (show LO _ _ _ _ _ (.bool false) from by cases hg)) rfl<|LL.lg rfl rfl (GD.f _) (fun hg => (show LO _ _ _ _ _ (.bool false) from by cases hg)) rfl<|LL.lg rfl rfl (GD.f _) (fun hg => (show LO _ _ _ _ _ (.bool false) from by cases hg)) rfl<|LL.lg rfl rfl (GD.f _) (fun hg => (show LO _ _ _ _ _ (.bool false) from by cases hg)) rfl<|LL.lg rfl rfl (GD.f _) (fun hg => (show LO _ _ _ _ _ (.bool false) from by cases hg)) rfl<|LL.lg rfl rfl (GD.f _) (fun hg => (show LO _ _ _ _ _ (.bool false) from by cases hg)) rfl<|LL.lg rfl rfl (GD.f _) (fun hg => (show LO _ _ _ _ _ (.bool false) from by cases hg)) rfl<|LL.lg rfl rfl (GD.f _) (fun hg => (show LO _ _ _ _ _ (.bool false) from by cases hg)) rfl<|LL.lg rfl rfl (GD.f _) (fun hg => (show LO _ _ _ _ _ (.bool false) from by cases hg)) rfl<|LL.lg rfl rfl (GD.f _) (fun hg => (show LO _ _ _ _ _ (.bool false) from by cases hg)) rfl<|LL.lg rfl rfl (GD.f _) (fun hg => (show LO _ _ _ _ _ (.bool false) from by cases hg)) rfl<|LL.lg rfl rfl (GD.f _) (fun hg => (show LO _ _ _ _ _ (.bool false) from by cases hg)) rfl<|LL.lg rfl rfl (GD.f _) (fun hg => (show LO _ _ _ _ _ (.bool false) from by cases hg)) rfl<|LL.lg rfl rfl (GD.f _) (fun hg => (show LO _ _ _ _ _ (.bool false) from by cases hg)) rfl<|LL.lg rfl rfl (GD.f _) (fun hg => (show LO _ _ _ _ _ (.bool false) from by cases hg)) rfl<|LL.lg rfl rfl (GD.f _) (fun hg => (show LO _ _ _ _ _ (.bool false) from by cases hg)) rfl<|LL.lg rfl rfl (GD.f _) (fun hg => (show LO _ _ _ _ _ (.bool false) from by cases hg)) rfl<|LL.lg rfl rfl (GD.f _) (fun hg => (show LO _ _ _ _ _ (.bool false) from by cases hg)) rfl<|LL.lg rfl rfl (GD.f _) (fun hg => (show LO _ _ _ _ _ (.bool false) from by cases hg)) rfl<|LL.lg rfl rfl (GD.f _) (fun hg => (show LO _ _ _ _ _ (.bool false) from by cases hg)) rfl<|LL.l (LO.pkO (.r rfl) (.r rfl) rfl rfl) rfl<|LL.nil) (by kernel_rfl) ?_
            refine VE.seqN ?_
            refine VC.cond rfl (fun h129 => ?_) (fun h129 => ?_)
            ·
              try have hcm : cmpH i ((hl.map HdY.t).getD j zHT) ((hl.map HdY.t).getD b0 zHT) < 0 := by rw [getD_t, getD_t]; exact h129.resolve_left (by decide)
              refine VC.reg (VO.l (LO.mv (.r rfl)) rfl<|VO.l (LO.as (.r rfl)) rfl<|VO.nil ?_)
              refine VE.inN (VE.seqN ?_)
              refine VC.reg (VO.l (LO.add (.r rfl) (.r rfl) (wi (by omega) (by omega))) rfl<|VO.l (LO.mv (.r rfl)) rfl<|VO.nil ?_)
              refine VE.thenN fun a w ha hw => ⟨(j + 1, some j), ⟨by dsimp only; omega, (bst_0 hse hb.symm).symm⟩, (by dsimp only; omega), ha.sub (.cons rfl (.cons rfl (.cons rfl (.cons rfl (.cons rfl (.cons rfl (.cons rfl (.cons rfl .nil)))))))), hw⟩
            ·
              try have hcm : ¬ cmpH i ((hl.map HdY.t).getD j zHT) ((hl.map HdY.t).getD b0 zHT) < 0 := by rw [getD_t, getD_t]; exact fun z => h129 (.inr z)
              (exfalso; exact h129 (.inl rfl))
          ·
            have hbj := bst_lt hb.symm
            refine VC.drawG [] [71] [[0,1,2,3], [0,1,2,3], [0,1,2,3]] [some 0, some 0, some 0, some 0, some 0, some 0, some 0, some 0, some 0, some 0, some 0, some 0, some 0, some 0, some 0, some 0, some 0, some 0, some 0, some 0, some 0, some 0, some 0, some 0, some 0, some 0, some 0, some 0, some 0, some 0, some 0, some 0, some 0, some 0, some 0, some 0, some 0, some 0, some 0, some 0, some 0, some 0, some 0, some 0, some 0, some 0, some 0, some 0, some 0, some 0, some 0, some 0, some 0, some 0, some 0, some 0, some 0, some 0, some 0, some 0, some 0, some 0, some 0, some 0, some 0, some 0, some 0, some 0, some 0, some 0, none, none, some 2, some 2] mixed (by kernel_rfl) rfl (LXD.l (fun _ hJ => LO.mv (.r rfl)) rfl<|LXD.l (fun _ hJ => LO.eqP1 ⟨_, Tryz.underlying290⟩ (.r rfl) (.r rfl)) rfl<|LXD.l (fun _ hJ => LO.mv (.r rfl)) rfl<|LXD.lg rfl rfl (GD.f _) (fun hg _ hJ => LO.mv (.r rfl)) rfl<|LXD.lg rfl rfl (GD.f _) (fun hg _ hJ => LO.nc (.g hg rfl)) rfl<|LXD.lg rfl rfl (GD.f _) (fun hg _ hJ => LO.fa F293_2 (.g hg rfl) rfl) rfl<|LXD.lg rfl rfl (GD.f _) (fun hg _ hJ => LO.ld O291 (.g hg rfl) (fun w hw => cells_part (off := 4) ((fun w2 hw2 => (own_rows hw2 1 rfl).cells _ _ (hd_map (j := j) (by omega))) w (hJ _ hw)) ⟨_, rfl⟩)) rfl<|LXD.lg rfl rfl (GD.f _) (fun hg _ hJ => LO.mv (.r rfl)) rfl<|LXD.lg rfl rfl (GD.f _) (fun hg _ hJ => LO.ixs S291 N25 (hsp.2 j (by omega)).1 (.g hg rfl) (.g hg rfl) (j := i) rfl (by have := (hla j (by omega)).l.2; omega)) rfl<|LXD.lg rfl rfl (GD.f _) (fun hg _ hJ => LO.fa F25_1 (.g hg rfl) rfl) rfl<|LXD.lg rfl rfl (GD.f _) (fun hg _ hJ => LO.ld O3 (.g hg rfl) (fun w hw => cells_part (off := 1) ((fun w2 hw2 => (bag_sp hw2 3 rfl (hla j (by omega)).l.1).here zs (j := i) (by have := (hla j (by omega)).l.2; omega)) w (hJ _ hw)) ⟨_, rfl⟩)) rfl<|LXD.lg rfl rfl (GD.f _) (fun hg _ hJ => LO.mv (.r rfl)) rfl<|LXD.lg rfl rfl (GD.f _) (fun hg _ hJ => LO.nc (.g hg rfl)) rfl<|LXD.lg rfl rfl (GD.f _) (fun hg _ hJ => LO.fa F293_2 (.g hg rfl) rfl) rfl<|LXD.lg rfl rfl (GD.f _) (fun hg _ hJ => LO.ld O291 (.g hg rfl) (fun w hw => cells_part (off := 4) ((fun w2 hw2 => (own_rows hw2 1 rfl).cells _ _ (hd_map (j := b0) (by omega))) w (hJ _ hw)) ⟨_, rfl⟩)) rfl<|LXD.lg rfl rfl (GD.f _) (fun hg _ hJ => LO.mv (.r rfl)) rfl<|LXD.lg rfl rfl (GD.f _) (fun hg _ hJ => LO.ixs S291 N25 (hsp.2 b0 (by omega)).1 (.g hg rfl) (.g hg rfl) (j := i) rfl (by have := (hla b0 (by omega)).l.2; omega)) rfl<|LXD.lg rfl rfl (GD.f _) (fun hg _ hJ => LO.fa F25_1 (.g hg rfl) rfl) rfl<|LXD.lg rfl rfl (GD.f _) (fun hg _ hJ => LO.ld O3 (.g hg rfl) (fun w hw => cells_part (off := 1) ((fun w2 hw2 => (bag_sp hw2 3 rfl (hla b0 (by omega)).l.1).here zs (j := i) (by have := (hla b0 (by omega)).l.2; omega)) w (hJ _ hw)) ⟨_, rfl⟩)) rfl<|LXD.lg rfl rfl (GD.f _) (fun hg _ hJ => LO.call (xs := [_,_]) (vs := [_,_]) C104 ⟨(.g hg rfl), (.g hg rfl), trivial⟩ (fun w _ => cmpI_c _ _ w)) rfl<|LXD.lg rfl rfl (GD.f _) (fun hg _ hJ => LO.mv (.r rfl)) rfl<|LXD.lg rfl rfl (GD.f _) (fun hg _ hJ => LO.nc (.g hg rfl)) rfl<|LXD.lg rfl rfl (GD.f _) (fun hg _ hJ => LO.fa F293_2 (.g hg rfl) rfl) rfl<|LXD.lg rfl rfl (GD.f _) (fun hg _ hJ => LO.ld O291 (.g hg rfl) (fun w hw => cells_part (off := 4) ((fun w2 hw2 => (own_rows hw2 1 rfl).cells _ _ (hd_map (j := j) (by omega))) w (hJ _ hw)) ⟨_, rfl⟩)) rfl<|LXD.lg rfl rfl (GD.f _) (fun hg _ hJ => LO.mv (.r rfl)) rfl<|LXD.lg rfl rfl (GD.f _) (fun hg _ hJ => LO.ixs S291 N25 (hsp.2 j (by omega)).1 (.g hg rfl) (.g hg rfl) (j := i) rfl (by have := (hla j (by omega)).l.2; omega)) rfl<|LXD.lg rfl rfl (GD.f _) (fun hg _ hJ => LO.fa F25_0 (.g hg rfl) rfl) rfl<|LXD.lg rfl rfl (GD.f _) (fun hg _ hJ => LO.ld O3 (.g hg rfl) (fun w hw => cells_part (off := 0) ((fun w2 hw2 => (bag_sp hw2 3 rfl (hla j (by omega)).l.1).here zs (j := i) (by have := (hla j (by omega)).l.2; omega)) w (hJ _ hw)) ⟨_, rfl⟩)) rfl<|LXD.lg rfl rfl (GD.f _) (fun hg _ hJ => LO.mv (.r rfl)) rfl<|LXD.lg rfl rfl (GD.f _) (fun hg _ hJ => LO.nc (.g hg rfl)) rfl<|LXD.lg rfl rfl (GD.f _) (fun hg _ hJ => LO.fa F293_2 (.g hg rfl) rfl) rfl<|LXD.lg rfl rfl (GD.f _) (fun hg _ hJ => LO.ld O291 (.g hg rfl) (fun w hw => cells_part (off := 4) ((fun w2 hw2 => (own_rows hw2 1 rfl).cells _ _ (hd_map (j := b0) (by omega))) w (hJ _ hw)) ⟨_, rfl⟩)) rfl<|LXD.lg rfl rfl (GD.f _) (fun hg _ hJ => LO.mv (.r rfl)) rfl<|LXD.lg rfl rfl (GD.f _) (fun hg _ hJ => LO.ixs S291 N25 (hsp.2 b0 (by omega)).1 (.g hg rfl) (.g hg rfl) (j := i) rfl (by have := (hla b0 (by omega)).l.2; omega)) rfl<|LXD.lg rfl rfl (GD.f _) (fun hg _ hJ => LO.fa F25_0 (.g hg rfl) rfl) rfl<|LXD.lg rfl rfl (GD.f _) (fun hg _ hJ => LO.ld O3 (.g hg rfl) (fun w hw => cells_part (off := 0) ((fun w2 hw2 => (bag_sp hw2 3 rfl (hla b0 (by omega)).l.1).here zs (j := i) (by have := (hla b0 (by omega)).l.2; omega)) w (hJ _ hw)) ⟨_, rfl⟩)) rfl<|LXD.lg rfl rfl (GD.f _) (fun hg _ hJ => LO.call (xs := [_,_]) (vs := [_,_]) C104 ⟨(.g hg rfl), (.g hg rfl), trivial⟩ (fun w _ => cmpI_c _ _ w)) rfl<|LXD.lg rfl rfl (GD.f _) (fun hg _ hJ => LO.mv (.r rfl)) rfl<|LXD.lg rfl rfl (GD.f _) (fun hg _ hJ => LO.nc (.g hg rfl)) rfl<|LXD.lg rfl rfl (GD.f _) (fun hg _ hJ => LO.fa F293_0 (.g hg rfl) rfl) rfl<|LXD.lg rfl rfl (GD.f _) (fun hg _ hJ => LO.fa F139_2 (.g hg rfl) rfl) rfl<|LXD.lg rfl rfl (GD.f _) (fun hg _ hJ => LO.ld O3 (.g hg rfl) (fun w hw => cells_part (off := 2) ((fun w2 hw2 => (own_rows hw2 1 rfl).cells _ _ (hd_map (j := b0) (by omega))) w (hJ _ hw)) ⟨_, rfl⟩)) rfl<|LXD.lg rfl rfl (GD.f _) (fun hg _ hJ => LO.mv (.r rfl)) rfl<|LXD.lg rfl rfl (GD.f _) (fun hg _ hJ => LO.nc (.g hg rfl)) rfl<|LXD.lg rfl rfl (GD.f _) (fun hg _ hJ => LO.fa F293_0 (.g hg rfl) rfl) rfl<|LXD.lg rfl rfl (GD.f _) (fun hg _ hJ => LO.fa F139_2 (.g hg rfl) rfl) rfl<|LXD.lg rfl rfl (GD.f _) (fun hg _ hJ => LO.ld O3 (.g hg rfl) (fun w hw => cells_part (off := 2) ((fun w2 hw2 => (own_rows hw2 1 rfl).cells _ _ (hd_map (j := j) (by omega))) w (hJ _ hw)) ⟨_, rfl⟩)) rfl<|LXD.lg rfl rfl (GD.f _) (fun hg _ hJ => LO.call (xs := [_,_]) (vs := [_,_]) C104 ⟨(.g hg rfl), (.g hg rfl), trivial⟩ (fun w _ => cmpI_c _ _ w)) rfl<|LXD.lg rfl rfl (GD.f _) (fun hg _ hJ => LO.mv (.r rfl)) rfl<|LXD.lg rfl rfl (GD.f _) (fun hg _ hJ => LO.nc (.g hg rfl)) rfl<|LXD.lg rfl rfl (GD.f _) (fun hg _ hJ => LO.fa F293_0 (.g hg rfl) rfl) rfl<|LXD.lg rfl rfl (GD.f _) (fun hg _ hJ => LO.fa F139_0 (.g hg rfl) rfl) rfl<|LXD.lg rfl rfl (GD.f _) (fun hg _ hJ => LO.ld O9 (.g hg rfl) (fun w hw => cells_part (off := 0) ((fun w2 hw2 => (own_rows hw2 1 rfl).cells _ _ (hd_map (j := j) (by omega))) w (hJ _ hw)) ⟨_, rfl⟩)) rfl<|LXD.lg rfl rfl (GD.f _) (fun hg _ hJ => LO.mv (.r rfl)) rfl<|LXD.lg rfl rfl (GD.f _) (fun hg _ hJ => LO.nc (.g hg rfl)) rfl<|LXD.lg rfl rfl (GD.f _) (fun hg _ hJ => LO.fa F293_0 (.g hg rfl) rfl) rfl<|LXD.lg rfl rfl (GD.f _) (fun hg _ hJ => LO.fa F139_0 (.g hg rfl) rfl) rfl<|LXD.lg rfl rfl (GD.f _) (fun hg _ hJ => LO.ld O9 (.g hg rfl) (fun w hw => cells_part (off := 0) ((fun w2 hw2 => (own_rows hw2 1 rfl).cells _ _ (hd_map (j := b0) (by omega))) w (hJ _ hw)) ⟨_, rfl⟩)) rfl<|LXD.lg rfl rfl (GD.f _) (fun hg _ hJ => LO.call (xs := [_,_]) (vs := [_,_]) C105 ⟨(.g hg rfl), (.g hg rfl), trivial⟩ (fun w _ => cmpS_c _ _ w)) rfl<|LXD.lg rfl rfl (GD.f _) (fun hg _ hJ => LO.mv (.r rfl)) rfl<|LXD.lg rfl rfl (GD.f _) (fun hg _ hJ => LO.nc (.g hg rfl)) rfl<|LXD.lg rfl rfl (GD.f _) (fun hg _ hJ => LO.fa F293_0 (.g hg rfl) rfl) rfl<|LXD.lg rfl rfl (GD.f _) (fun hg _ hJ => LO.fa F139_1 (.g hg rfl) rfl) rfl<|LXD.lg rfl rfl (GD.f _) (fun hg _ hJ => LO.ld O3 (.g hg rfl) (fun w hw => cells_part (off := 1) ((fun w2 hw2 => (own_rows hw2 1 rfl).cells _ _ (hd_map (j := j) (by omega))) w (hJ _ hw)) ⟨_, rfl⟩)) rfl<|LXD.lg rfl rfl (GD.f _) (fun hg _ hJ => LO.mv (.r rfl)) rfl<|LXD.lg rfl rfl (GD.f _) (fun hg _ hJ => LO.nc (.g hg rfl)) rfl<|LXD.lg rfl rfl (GD.f _) (fun hg _ hJ => LO.fa F293_0 (.g hg rfl) rfl) rfl<|LXD.lg rfl rfl (GD.f _) (fun hg _ hJ => LO.fa F139_1 (.g hg rfl) rfl) rfl<|LXD.lg rfl rfl (GD.f _) (fun hg _ hJ => LO.ld O3 (.g hg rfl) (fun w hw => cells_part (off := 1) ((fun w2 hw2 => (own_rows hw2 1 rfl).cells _ _ (hd_map (j := b0) (by omega))) w (hJ _ hw)) ⟨_, rfl⟩)) rfl<|LXD.lg rfl rfl (GD.f _) (fun hg _ hJ => LO.call (xs := [_,_]) (vs := [_,_]) C104 ⟨(.g hg rfl), (.g hg rfl), trivial⟩ (fun w _ => cmpI_c _ _ w)) rfl<|LXD.s rfl<|LXD.dg (.int .i64 (cmpH i (hl.getD j zHd).t (hl.getD b0 zHd).t)) rfl<|LXD.lg rfl rfl (GD.f _) (fun hg _ hJ => LO.lt (.r rfl) (.r rfl)) rfl<|LXD.l (fun _ hJ => LO.pkO (.r rfl) (.r rfl) rfl rfl) rfl<|LXD.nil) (trivial) (HYE.s<|HYE.s<|HYE.s<|HYE.s<|HYE.s<|HYE.s<|HYE.s<|HYE.s<|HYE.s<|HYE.s<|HYE.s<|HYE.s<|HYE.s<|HYE.s<|HYE.s<|HYE.s<|HYE.s<|HYE.s<|HYE.s<|HYE.s<|HYE.s<|HYE.s<|HYE.s<|HYE.s<|HYE.s<|HYE.s<|HYE.s<|HYE.s<|HYE.s<|HYE.s<|HYE.s<|HYE.s<|HYE.s<|HYE.s<|HYE.s<|HYE.s<|HYE.s<|HYE.s<|HYE.s<|HYE.s<|HYE.s<|HYE.s<|HYE.s<|HYE.s<|HYE.s<|HYE.s<|HYE.s<|HYE.s<|HYE.s<|HYE.s<|HYE.s<|HYE.s<|HYE.s<|HYE.s<|HYE.s<|HYE.s<|HYE.s<|HYE.s<|HYE.s<|HYE.s<|HYE.s<|HYE.s<|HYE.s<|HYE.s<|HYE.s<|HYE.s<|HYE.s<|HYE.s<|HYE.s<|HYE.s<|HYE.hG rfl rfl rfl rfl rfl fun X => have hg := (rfl : (!false) = true); HO.bs (ps := [(_,_), (_,_), (_,_), (_,_), (_,_)]) (vs := [(_,_), (_,_), (_,_), (_,_), (_,_)]) (Z := [_,_,_,_,_]) (C := [_,_,_,_,_]) S112 Z3 N3 ⟨(.g hg rfl), (.g hg rfl), (.g hg rfl), (.g hg rfl), (.g hg rfl), trivial⟩ rfl rfl rfl rfl ⟨_, [_], [_,_,_,_,_], rfl, rfl, rfl, rfl, ⟨_, [_], [_,_,_,_,_], rfl, rfl, rfl, rfl, ⟨_, [_], [_,_,_,_,_], rfl, rfl, rfl, rfl, ⟨_, [_], [_,_,_,_,_], rfl, rfl, rfl, rfl, ⟨_, [_], [_,_,_,_,_], rfl, rfl, rfl, rfl, rfl⟩⟩⟩⟩⟩ fun b8 => ⟨[_,_,_,_,_], rfl, selJ (L1 := [_,_,_,_]) [1,2,3,4] rfl rfl rfl, HYE.dG rfl rfl rfl rfl fun X => have hg := (rfl : (!false) = true); HO.lo (LO.call (xs := [_]) (vs := [_]) C103 ⟨(.r rfl), trivial⟩ (fun w hw => orI_c [cmpI ((hl.getD j zHd).l.v.getD i zs).hi ((hl.getD b0 zHd).l.v.getD i zs).hi, cmpI ((hl.getD j zHd).l.v.getD i zs).lo ((hl.getD b0 zHd).l.v.getD i zs).lo, cmpI (hl.getD b0 zHd).k.2.2 (hl.getD j zHd).k.2.2, cmpI (fI (hl.getD j zHd).k.1) (fI (hl.getD b0 zHd).k.1), cmpI (hl.getD j zHd).k.2.1 (hl.getD b0 zHd).k.2.1] (some ⟨b8,0, none⟩) 5 w (show 5 < 1000000 by decide) (RO.ofC (fun _ => rfl) (cells_at hw 0 rfl ⟨_, rfl⟩))))<|⟨rfl, [_,_,_,_,_], rfl, selJ (L1 := [_,_,_,_]) [1,2,3,4] rfl rfl rfl, HYE.s<|HYE.s<|HYE.nil ?_⟩⟩)
            refine VE.seqN ?_
            refine VC.cond rfl (fun h129 => ?_) (fun h129 => ?_)
            ·
              try have hcm : cmpH i ((hl.map HdY.t).getD j zHT) ((hl.map HdY.t).getD b0 zHT) < 0 := by rw [getD_t, getD_t]; exact h129.resolve_left (by decide)
              refine VC.reg (VO.l (LO.mv (.r rfl)) rfl<|VO.l (LO.as (.r rfl)) rfl<|VO.nil ?_)
              refine VE.inN (VE.seqN ?_)
              refine VC.reg (VO.l (LO.add (.r rfl) (.r rfl) (wi (by omega) (by omega))) rfl<|VO.l (LO.mv (.r rfl)) rfl<|VO.nil ?_)
              refine VE.thenN fun a w ha hw => ⟨(j + 1, some j), ⟨by dsimp only; omega, (bst_y hse hb.symm hcm).symm⟩, (by dsimp only; omega), ha.sub (.cons rfl (.cons rfl (.cons rfl (.cons rfl (.cons rfl (.cons rfl (.cons rfl (.cons rfl .nil)))))))), hw.sel [1,2,3,4] rfl⟩
            ·
              try have hcm : ¬ cmpH i ((hl.map HdY.t).getD j zHT) ((hl.map HdY.t).getD b0 zHT) < 0 := by rw [getD_t, getD_t]; exact fun z => h129 (.inr z)
              refine VC.skip (VE.inN (VE.seqN ?_))
              refine VC.reg (VO.l (LO.add (.r rfl) (.r rfl) (wi (by omega) (by omega))) rfl<|VO.l (LO.mv (.r rfl)) rfl<|VO.nil ?_)
              refine VE.thenN fun a w ha hw => ⟨(j + 1, some b0), ⟨by dsimp only; omega, (bst_z hse hb.symm hcm).symm⟩, (by dsimp only; omega), ha.sub (.cons rfl (.cons rfl (.cons rfl (.cons rfl (.cons rfl (.cons rfl (.cons rfl (.cons rfl .nil)))))))), hw.sel [1,2,3,4] rfl⟩
      ·
        have hje : j = hl.length := by omega
        refine VC.exit (VE.thenX (VE.thenX (VE.inX (VE.seqN ?_))))
        refine VC.seq ?_
        refine VC.reg (VO.l (LO.bd (ps := [(_,_)]) (vs := [(_,_)]) (C := [_,_]) B25  ⟨(.r rfl), trivial⟩ rfl ⟨_, [_], [_,_], rfl, rfl, rfl, rfl, rfl⟩) rfl<|VO.l (LO.bd (ps := [(_,_)]) (vs := [(_,_)]) (C := [_,_,_,_,_]) B163  ⟨(.r rfl), trivial⟩ rfl ⟨_, [_,_], [_,_,_,_,_], rfl, rfl, rfl, rfl, rfl⟩) rfl<|VO.h rfl<|HO.alloc (C := #[_,_,_,_,_]) Z163 rfl fun b9 => VO.h0<|HO.st 0 (vs := [_,_,_,_,_]) (C' := [_,_,_,_,_]) (L' := [_,_,_,_,_]) N163 rfl rfl rfl rfl rfl rfl rfl rfl<|VO.nil ?_)
        refine VE.seqN ?_
        refine VC.seq ?_
        refine VC.seq ?_
        refine VC.reg (VO.l (LO.mv (.r rfl)) rfl<|VO.l (LO.neB_ ⟨_, Tryz.underlying290⟩ (.r rfl) (.r rfl)) rfl<|VO.nil ?_)
        refine VE.seqN ?_
        refine VC.cond rfl (fun h135 => ?_) (fun h135 => ?_)
        ·
          obtain ⟨b0, rfl⟩ := Option.isSome_iff_exists.1 h135
          have hbj := bst_lt hb.symm
          have hml : (hl.getD b0 zHd).m.v.length = q.w * q.h := hSn (hl.getD b0 zHd).k _ (by rw [(hla b0 (by omega)).m.2]; exact List.mem_cons_self)
          have hpx : pxF (hl.map HdY.t) i = (⟨(hl.getD b0 zHd).m.v.getD i zs, keyO (hl.getD b0 zHd).k⟩ : PxM) := by unfold pxF; rw [List.length_map, ← hje, ← hb]; dsimp only; rw [getD_t]; rfl
          refine VC.drawH [[0,1,2,3,4], [1,2,3,4]] [some 0, some 0, some 0, some 0, some 0, some 0, some 0, some 0, some 0, some 0, some 0, some 0, none] mixed (by kernel_rfl) rfl (LX.l (fun _ hJ => LO.mv (.r rfl)) rfl<|LX.l (fun _ hJ => LO.nc (.r rfl)) rfl<|LX.l (fun _ hJ => LO.fa F293_1 (.r rfl) rfl) rfl<|LX.l (fun _ hJ => LO.ld O45 (.r rfl) (fun w hw => cells_part (off := 3) ((fun w2 hw2 => (own_rows hw2 2 rfl).cells _ _ (hd_map (j := b0) (by omega))) w (hJ _ hw)) ⟨_, rfl⟩)) rfl<|LX.l (fun _ hJ => LO.mv (.r rfl)) rfl<|LX.l (fun _ hJ => LO.ixs S45 N25 (hsp.2 b0 (by omega)).2 (.r rfl) (.r rfl) (j := i) rfl (by omega)) rfl<|LX.l (fun _ hJ => LO.lda (vs := [_,_]) A25 (.r rfl) (fun w hw => cells_part (off := 0) ((fun w2 hw2 => ((hF _ _ hw2).1.V _ (hla b0 (by omega)).m.1).here zs (j := i) (by omega)) w (hJ _ hw)) ⟨_, rfl⟩) rfl) rfl<|LX.l (fun _ hJ => LO.mv (.r rfl)) rfl<|LX.l (fun _ hJ => LO.nc (.r rfl)) rfl<|LX.l (fun _ hJ => LO.fa F293_0 (.r rfl) rfl) rfl<|LX.l (fun _ hJ => LO.lda (vs := [_,_,_]) A139 (.r rfl) (fun w hw => cells_part (off := 0) ((fun w2 hw2 => (own_rows hw2 2 rfl).cells _ _ (hd_map (j := b0) (by omega))) w (hJ _ hw)) ⟨_, rfl⟩) rfl) rfl<|LX.l (fun _ hJ => LO.bd (ps := [(_,_), (_,_)]) (vs := [(_,_), (_,_)]) (C := [_,_,_,_,_]) B163  ⟨(.r rfl), (.r rfl), trivial⟩ rfl ⟨_, [_,_], [_,_,_,_,_], rfl, rfl, rfl, rfl, ⟨_, [_,_,_], [_,_,_,_,_], rfl, rfl, rfl, rfl, rfl⟩⟩) rfl<|LX.s<|LX.nil) (HX.s<|HX.s<|HX.s<|HX.s<|HX.s<|HX.s<|HX.s<|HX.s<|HX.s<|HX.s<|HX.s<|HX.s<|HX.h0<|HO.st 0 (vs := [_,_,_,_,_]) (C' := [_,_,_,_,_]) (L' := [_,_,_,_,_]) N163 rfl rfl rfl rfl rfl rfl rfl rfl<|⟨fun _ hw => hw.sel [1,2,3,4] rfl, HX.nil ?_⟩)
          refine VE.seqN ?_
          refine VC.reg (VO.l (LO.mv (.r rfl)) rfl<|VO.l (LO.lda (vs := [_,_,_,_,_]) A163 (.r rfl) (fun _ hw => cells_at hw 0 rfl ⟨_, rfl⟩) rfl) rfl<|VO.h rfl<|HO.bs (ps := [(_,_)]) (vs := [(_,_)]) (Z := [_,_,_,_,_]) (C := [_,_,_,_,_]) S146 Z163 N163 ⟨(.r rfl), trivial⟩ rfl rfl rfl rfl ⟨_, [_,_,_,_,_], [_,_,_,_,_], rfl, rfl, rfl, rfl, rfl⟩ fun b13 => VO.h rfl<|HO.appT ((⟨(hl.getD b0 zHd).m.v.getD i zs, keyO (hl.getD b0 zHd).k⟩ : PxM)) 2 0 (fun R => [_,_, R,_,_,_]) S146 S146 I163 (.r rfl) (.r rfl) rfl rfl rfl rfl rfl rfl rfl (fun _ => rfl) (by omega) (by omega) fun p3 c3 => VO.h rfl<|HO.lo (LO.as (.r rfl))<|VO.nil ?_)
          refine VE.inN (VE.seqN ?_)
          refine VC.reg (VO.l (LO.add (.r rfl) (.r rfl) (wi (by omega) (by omega))) rfl<|VO.l (LO.mv (.r rfl)) rfl<|VO.nil ?_)
          refine VE.thenN fun a w ha hw => ⟨(i + 1, o ++ [(⟨(hl.getD b0 zHd).m.v.getD i zs, keyO (hl.getD b0 zHd).k⟩ : PxM)], (o ++ [(⟨(hl.getD b0 zHd).m.v.getD i zs, keyO (hl.getD b0 zHd).k⟩ : PxM)]).length, p3, c3), ⟨by dsimp only; omega, rfl, by dsimp only; rw [List.length_append]; show _ + 1 = _; omega, by dsimp only; rw [List.range_succ, List.map_append, ← hoe, ← hpx]; rfl⟩, (by dsimp only; omega), ha.sub (.cons rfl (.cons rfl (.cons rfl (.cons rfl .nil)))), hw.sel [2,3,4,5] rfl⟩
        ·
          obtain rfl : bst = none := by simpa using h135
          have hpx : pxF (hl.map HdY.t) i = (⟨⟨0,1000000⟩, zKO⟩ : PxM) := by unfold pxF; rw [List.length_map, ← hje, ← hb]
          refine VC.skip (VE.seqN ?_)
          refine VC.reg (VO.l (LO.mv (.r rfl)) rfl<|VO.l (LO.lda (vs := [_,_,_,_,_]) A163 (.r rfl) (fun _ hw => cells_at hw 0 rfl ⟨_, rfl⟩) rfl) rfl<|VO.h rfl<|HO.bs (ps := [(_,_)]) (vs := [(_,_)]) (Z := [_,_,_,_,_]) (C := [_,_,_,_,_]) S146 Z163 N163 ⟨(.r rfl), trivial⟩ rfl rfl rfl rfl ⟨_, [_,_,_,_,_], [_,_,_,_,_], rfl, rfl, rfl, rfl, rfl⟩ fun b14 => VO.h rfl<|HO.appT ((⟨⟨0,1000000⟩, zKO⟩ : PxM)) 2 0 (fun R => [_,_, R,_,_,_]) S146 S146 I163 (.r rfl) (.r rfl) rfl rfl rfl rfl rfl rfl rfl (fun _ => rfl) (by omega) (by omega) fun p3 c3 => VO.h rfl<|HO.lo (LO.as (.r rfl))<|VO.nil ?_)
          refine VE.inN (VE.seqN ?_)
          refine VC.reg (VO.l (LO.add (.r rfl) (.r rfl) (wi (by omega) (by omega))) rfl<|VO.l (LO.mv (.r rfl)) rfl<|VO.nil ?_)
          refine VE.thenN fun a w ha hw => ⟨(i + 1, o ++ [(⟨⟨0,1000000⟩, zKO⟩ : PxM)], (o ++ [(⟨⟨0,1000000⟩, zKO⟩ : PxM)]).length, p3, c3), ⟨by dsimp only; omega, rfl, by dsimp only; rw [List.length_append]; show _ + 1 = _; omega, by dsimp only; rw [List.range_succ, List.map_append, ← hoe, ← hpx]; rfl⟩, (by dsimp only; omega), ha.sub (.cons rfl (.cons rfl (.cons rfl (.cons rfl .nil)))), hw.sel [2,3,4,5] rfl⟩
    ·
      have hie : i = q.w * q.h := by omega
      refine VC.exit (VE.thenX (VE.thenX (VE.inX (VE.seqN ?_))))
      refine VC.seq ?_
      refine VC.reg (VO.l (LO.mv (.r rfl)) rfl<|VO.l (LO.as (.r rfl)) rfl<|VO.l (LO.as (.r rfl)) rfl<|VO.nil ?_)
      refine VE.seqN ?_
      refine VC.ret (VE.res (vs := [_,_]) rfl ⟨rfl, rfl, trivial⟩ (fun w hw => ?_))
      exact ⟨((o, yh.1.2.1, yh.1.2.2), po, co), ⟨⟨hl, ⟨hak, hap⟩, by show o = _; rw [hoe, hie]⟩, hai, hal2⟩, by rw [hno]; rfl, hw.sel [0,2,3] rfl⟩

end Go.Proofs.YtffbohecdocajaaGreat

namespace Go.Proofs.YtffbohecdocajaaGreat
open Go.SL Go.Proofs Go.Pulse
set_option linter.unusedVariables false

theorem Z108 : ZeroOf Tryz.prog 108 (.agg #[.int .i64 0, .int .i64 0, .int .i64 0, .int .i64 0, .int .i64 0, .slice none 0 0]) := by unfold ZeroOf; kernel_rfl
theorem C39 : IsFn Tryz.prog 39 := ⟨_, Tryz.func39, by decide, rfl⟩
theorem B108 : Builds Tryz.prog 108 [(0,5), (5,1)] [.int .i64 0, .int .i64 0, .int .i64 0, .int .i64 0, .int .i64 0, .slice none 0 0] := Builds.mk fun _ => by kernel_rfl
theorem N108 : (Tryz.prog.info? 108).map (·.size) = some 6 := by kernel_rfl
theorem F163_0 : FieldAt Tryz.prog 163 0 0 := ⟨_,_, Tryz.underlying163, rfl, rfl, 1, by kernel_rfl⟩


def zPx : PxM := ⟨zs, zKO⟩
/-- What a node's map is. -/
structure MapP (S : KeyM → List (List Span)) (R : Fin 3 → Option (Option RdM)) (W H : Nat) (T : Int) (vs ls : List VY) (y : List PxM × (KeyW → Option VY) × List VY) : Prop where
  p : ∃ hs, HdA S R W H T vs y.2.2 hs ∧ y.1 = (List.range (W * H)).map (pxF (hs.map HdY.t))
  i : LkI R W H y.2.1 y.2.2
  l : ∀ z, z ∈ ls → z ∈ y.2.2
theorem MapP.len {S : KeyM → List (List Span)} {R : Fin 3 → Option (Option RdM)} {W H : Nat} {T : Int} {vs ls : List VY} {y : List PxM × (KeyW → Option VY) × List VY} (h : MapP S R W H T vs ls y) : y.1.length = W * H := by
  obtain ⟨hs,_, e⟩ := h.p
  rw [e, List.length_map, List.length_range]
theorem fld_next {l : List PxM} {i : Nat} (h : i < l.length) : (l.take (i + 1)).map PxM.s = (l.take i).map PxM.s ++ [(l.getD i zPx).s] := by
  rw [List.take_add_one, List.getElem?_eq_getElem h, List.map_append, List.getD_eq_getElem?_getD, List.getElem?_eq_getElem h]; rfl

set_option maxRecDepth 20000 in
set_option maxHeartbeats 4000000 in
theorem Field_c (bn : Nat) (q : NdQ) (c : Nat) (S : KeyM → List (List Span)) (M : KeyM → Option TY) (ts : List TY) (vs : List VY) (R : Fin 3 → Option (Option RdM)) (C : KeyW → Option VY) (ls : List VY) (T : Int) (w : World) (hS : NdS S M ts vs c) (hc : c < 1000) (hOk : RdsOk R S) (hSn : ∀ k v, v ∈ S k → v.length = q.w * q.h) (hT : 0 ≤ T ∧ T ≤ 100000) (hW : 1 ≤ q.w ∧ q.w ≤ 6) (hH : 1 ≤ q.h ∧ q.h ≤ 6) (hI : LkI R q.w q.h C ls) (hh : Has w [mapR wV lkV q.lm C, bagD (ls.map vOwn)]) (hF : ∀ L w2, St ⟨w, fpL [mapR wV lkV q.lm C, bagD (ls.map vOwn)]⟩ L w2 → NdW w2 bn q c M ts vs ∧ (mapR nmV rdV q.rm R).inv w2) :
  Calls Tryz.prog 41 #[.pointer (some ⟨bn, 0, none⟩), .int .i64 T] w fun e w' => ∃ y : (List PxM × (KeyW → Option VY) × List VY) × Option Addr × Nat, MapP S R q.w q.h T vs ls y.1 ∧ e = .returned (.tuple #[.agg #[.int .i64 0, .int .i64 0, .int .i64 1000, .int .i64 (q.w : Nat), .int .i64 (q.h : Nat), .slice y.2.1 y.1.1.length y.2.2], .int .i64 0]) ∧ St ⟨w, fpL [mapR wV lkV q.lm C, bagD (ls.map vOwn)]⟩ [own 25 2 y.2.1 y.2.2 ((y.1.1.map PxM.s).map spanC), mapR wV lkV q.lm y.1.2.1, bagD (y.1.2.2.map vOwn)] w' := by
  have hWH2 : q.w * q.h ≤ 36 := Nat.mul_le_mul hW.2 hH.2
  refine enterO (vs := [_,_]) (env := [(0,_), (1,_)]) hh.enter Tryz.func41 rfl rfl rfl rfl ?_
  refine VC.seq ?_
  refine VC.reg (VO.h rfl<|HO.alloc (C := #[_,_,_,_,_,_]) Z108 rfl fun b3 => VO.l (LO.as (.r rfl)) rfl<|VO.nil ?_)
  refine VE.seqN ?_
  refine VC.seq ?_
  refine VC.reg (VO.l (LO.mv (.r rfl)) rfl<|VO.l (LO.mv (.r rfl)) rfl<|VO.h rfl<|HO.callP (first := []) (cap := []) (xs := [_,_]) (vs := [_,_]) [_,_] [_] (selK (L1 := [_,_] ++ [_]) [1,2,0] rfl rfl) (.r rfl) C39 ⟨(.r rfl), (.r rfl), trivial⟩ (fun w hw hh => Map_c bn q c S M ts vs R C ls T w hS hc hOk hSn hT hW hH hI hh (fun L w2 h2 => hF _ w2 (St.fz (selK (L1 := [_,_] ++ [_]) [1,2,0] rfl rfl w hw) h2))) fun ym ⟨hmp, hml1, hml2⟩ => VO.h rfl<|HO.lo (LO.mv (.r rfl))<|VO.h rfl<|HO.lo (LO.ex (.r rfl) rfl)<|VO.h rfl<|HO.lo (LO.ex (.r rfl) rfl)<|VO.h rfl<|HO.lo (LO.as (.r rfl))<|VO.h rfl<|HO.lo (LO.as (.r rfl))<|VO.nil ?_)
  have hMP : MapP S R q.w q.h T vs ls ym.1 := ⟨hmp, hml1, hml2⟩
  have hpl := hMP.len
  refine VE.seqN ?_
  refine VC.seq ?_
  refine VC.seq ?_
  refine VC.reg (VO.l (LO.mv (.r rfl)) rfl<|VO.l (LO.ne (.r rfl) (.r rfl)) rfl<|VO.nil ?_)
  refine VE.seqN ?_
  refine VC.cond rfl (fun h18 => ?_) (fun h18 => ?_)
  ·
    (exfalso; exact h18 rfl)
  ·
    refine VC.skip (VE.seqN ?_)
    refine VC.seq ?_
    refine VC.reg (VO.l (LO.mv (.r rfl)) rfl<|VO.l (LO.nc (.r rfl)) rfl<|VO.l (LO.fa (r := 0) F277_0 (.r rfl) rfl) rfl<|VO.l (LO.fa (r := 0) F131_0 (.r rfl) rfl) rfl<|VO.l (LO.lda (vs := [_,_,_,_,_]) A88 (.r rfl) (fun _ hw => sub_cells (off := 0) (hF _ _ hw).1.B ⟨_, rfl⟩) rfl) rfl<|VO.l (LO.bd (ps := [(_,_)]) (vs := [(_,_)]) (C := [_,_,_,_,_,_]) B108  ⟨(.r rfl), trivial⟩ rfl ⟨_, [_,_,_,_,_], [_,_,_,_,_,_], rfl, rfl, rfl, rfl, rfl⟩) rfl<|VO.h rfl<|HO.alloc (C := #[_,_,_,_,_,_]) Z108 rfl fun b7 => VO.h0<|HO.st 0 (vs := [_,_,_,_,_,_]) (C' := [_,_,_,_,_,_]) (L' := [_,_,_,_,_]) N108 rfl rfl rfl rfl rfl rfl rfl rfl<|VO.nil ?_)
    refine VE.seqN ?_
    refine VC.seq ?_
    refine VC.seq ?_
    refine VC.reg (VO.l (LO.mv (.r rfl)) rfl<|VO.l (LO.len S146 (.r rfl) rfl) rfl<|VO.l (LO.mv (.r rfl)) rfl<|VO.nil ?_)
    refine VE.seqN ?_
    refine VC.block ?_
    refine VC.loopK (α := Nat × (List Span) × (Option Addr) × Nat) 1 (fun gx => [(29, .int .i64 (gx.1 : Nat))]) [(4,_), (8,_), (27,_), (28,_)] (fun gx => [own 25 2 gx.2.2.1 gx.2.2.2 (gx.2.1.map spanC), blk b7 (.cells #[.int .i64 0, .int .i64 0, .int .i64 1000, .int .i64 (q.w : Nat), .int .i64 (q.h : Nat), .slice gx.2.2.1 gx.2.1.length gx.2.2.2] 108)]) (fun gx => gx.1 ≤ ym.1.1.length ∧ gx.2.1 = (ym.1.1.take gx.1).map PxM.s) (fun gx => ym.1.1.length - gx.1) (0, [], none, 0) (by exact ⟨Nat.zero_le _, rfl⟩) (.cons rfl (.cons rfl (.cons rfl (.cons rfl (.cons rfl .nil))))) (fun _ h => (h.ownNil 25 2)) ?_
    rintro ⟨i, o, po, co⟩ ⟨hi, ho⟩
    show VC _ _ _ _ _ ([(29, .int .i64 (i : Nat))] ++ _) ([own 25 2 po co (o.map spanC), blk b7 (.cells #[.int .i64 0, .int .i64 0, .int .i64 1000, .int .i64 (q.w : Nat), .int .i64 (q.h : Nat), .slice po o.length co] 108)] ++ _) _ _
    dsimp only at hi ho
    have hol : o.length = i := by rw [ho, List.length_map, List.length_take]; omega
    refine VC.seq ?_
    refine VC.reg (VO.l (LO.lt (.r rfl) (.r rfl)) rfl<|VO.nil ?_)
    refine VE.seqN ?_
    refine VC.seq ?_
    refine VC.cond rfl (fun h30 => ?_) (fun h30 => ?_)
    ·
      refine VC.skip (VE.seqN ?_)
      refine VC.seq ?_
      refine VC.block ?_
      refine VC.seq ?_
      refine VC.reg (VO.l (LO.ixo S146 N163 (fun _ hw => (own_rows hw 2 rfl).some (by rw [List.length_map])) (.r rfl) (.r rfl) rfl (by omega)) rfl<|VO.l (LO.lda (vs := [_,_,_,_,_]) A163 (.r rfl) (fun w hw => cells_part (off := 0) (own_cell hw 2 rfl (getD_some (d := zPx) (i := i) (by omega))) ⟨_, rfl⟩) rfl) rfl<|VO.h rfl<|HO.alloc (C := #[_,_,_,_,_]) Z163 rfl fun b11 => VO.h0<|HO.st 0 (vs := [_,_,_,_,_]) (C' := [_,_,_,_,_]) (L' := [_,_,_,_,_,_,_]) N163 rfl rfl rfl rfl rfl rfl rfl rfl<|VO.nil ?_)
      refine VE.seqN ?_
      refine VC.reg (VO.l (LO.fa (r := 5) F108_1 (.r rfl) rfl) rfl<|VO.l (LO.ld O45 (.r rfl) (fun _ hw => cells_at hw 2 rfl ⟨_, rfl⟩)) rfl<|VO.l (LO.fa (r := 0) F163_0 (.r rfl) rfl) rfl<|VO.l (LO.lda (vs := [_,_]) A25 (.r rfl) (fun _ hw => cells_at hw 0 rfl ⟨_, rfl⟩) rfl) rfl<|VO.h rfl<|HO.bs (ps := [(_,_)]) (vs := [(_,_)]) (Z := [_,_]) (C := [_,_]) S45 Z25 N25 ⟨(.r rfl), trivial⟩ rfl rfl rfl rfl ⟨_, [_,_], [_,_], rfl, rfl, rfl, rfl, rfl⟩ fun b13 => VO.h rfl<|HO.appT ((ym.1.1.getD i zPx).s) 2 0 (fun R => [_,_, R,_,_,_,_,_]) S45 S45 I25 (.r rfl) (.r rfl) rfl rfl rfl rfl rfl rfl rfl (fun _ => rfl) rfl (by omega) fun p5 c5 => VO.l (LO.fa (r := 5) F108_1 (.r rfl) rfl) rfl<|VO.h0<|HO.st 3 (vs := [_]) (C' := [_,_,_,_,_,_]) (L' := [_,_,_,_,_,_,_,_]) N45 rfl rfl rfl rfl rfl rfl rfl rfl<|VO.nil ?_)
      refine VE.inN (VE.seqN ?_)
      refine VC.reg (VO.l (LO.add (.r rfl) (.r rfl) (wi (by omega) (by omega))) rfl<|VO.l (LO.mv (.r rfl)) rfl<|VO.nil ?_)
      refine VE.thenN fun a w ha hw => ⟨(i + 1, o ++ [(ym.1.1.getD i zPx).s], p5, c5), ⟨by dsimp only; omega, by dsimp only; rw [ho, fld_next (by omega)]⟩, (by dsimp only; omega), ha.sub (.cons rfl (.cons rfl (.cons rfl (.cons rfl (.cons rfl .nil))))), hw.sel [2,3,4,5,6,7] rfl⟩
    ·
      have hie : i = ym.1.1.length := by omega
      refine VC.exit (VE.thenX (VE.thenX (VE.inX (VE.seqN ?_))))
      refine VC.seq ?_
      refine VC.reg (VO.l (LO.lda (vs := [_,_,_,_,_,_]) A108 (.r rfl) (fun _ hw => cells_at hw 1 rfl ⟨_, rfl⟩) rfl) rfl<|VO.h0<|HO.st 5 (vs := [_,_,_,_,_,_]) (C' := [_,_,_,_,_,_]) (L' := [_,_,_,_,_,_]) N108 rfl rfl rfl rfl rfl rfl rfl rfl<|VO.l (LO.as (.r rfl)) rfl<|VO.nil ?_)
      refine VE.seqN ?_
      refine VC.ret (VE.res (vs := [_,_]) rfl ⟨RV.agg (vs := [_,_,_,_,_,_]) A108 rfl (cells_blk 5 rfl ⟨_, rfl⟩) rfl, rfl, trivial⟩ (fun w hw => ?_))
      rw [hie, List.take_length] at ho
      subst ho
      exact ⟨(ym.1, po, co), hMP, by simp only [resV, List.length_map], hw.sel [0,3,4] rfl⟩

end Go.Proofs.YtffbohecdocajaaGreat

namespace Go.Proofs.YtffbohecdocajaaGreat
open Go.SL Go.Proofs Go.Pulse
set_option linter.unusedVariables false

theorem A293 : IsAgg Tryz.prog 293 5 := ⟨⟨_, Tryz.underlying293, rfl⟩, by kernel_rfl⟩
theorem C106 : IsFn Tryz.prog 106 := ⟨_, Tryz.func106, by decide, rfl⟩


theorem hd_drop {l : List HdY} {j k : Nat} (hj : j + 1 + k < l.length) : ((l.map hdC).drop (j + 1))[k]? = some (hdC (l.getD (j + 1 + k) zHd)) := by
  rw [List.getElem?_drop]; exact hd_map hj

set_option maxRecDepth 20000 in
set_option maxHeartbeats 8000000 in
theorem Clashes_c (bn : Nat) (q : NdQ) (c : Nat) (S : KeyM → List (List Span)) (M : KeyM → Option TY) (ts : List TY) (vs : List VY) (R : Fin 3 → Option (Option RdM)) (C : KeyW → Option VY) (ls : List VY) (T : Int) (w : World) (hS : NdS S M ts vs c) (hc : c < 1000) (hOk : RdsOk R S) (hSn : ∀ k v, v ∈ S k → v.length = q.w * q.h) (hT : 0 ≤ T ∧ T ≤ 100000) (hW : 1 ≤ q.w ∧ q.w ≤ 6) (hH : 1 ≤ q.h ∧ q.h ≤ 6) (hI : LkI R q.w q.h C ls) (hh : Has w [mapR wV lkV q.lm C, bagD (ls.map vOwn)]) (hF : ∀ L w2, St ⟨w, fpL [mapR wV lkV q.lm C, bagD (ls.map vOwn)]⟩ L w2 → NdW w2 bn q c M ts vs ∧ (mapR nmV rdV q.rm R).inv w2) (tr : Nat → Int) (hTr : ∀ k v, v ∈ S k → ∀ i, i < q.w * q.h → (v.getD i zs).lo ≤ tr i ∧ tr i ≤ (v.getD i zs).hi) :
  Calls Tryz.prog 40 #[.pointer (some ⟨bn, 0, none⟩), .int .i64 T] w fun e w' => ∃ y : (KeyW → Option VY) × List VY, (LkI R q.w q.h y.1 y.2 ∧ ∀ z, z ∈ ls → z ∈ y.2) ∧ e = .returned (.tuple #[.slice none 0 0, .int .i64 0]) ∧ St ⟨w, fpL [mapR wV lkV q.lm C, bagD (ls.map vOwn)]⟩ [mapR wV lkV q.lm y.1, bagD (y.2.map vOwn)] w' := by
  have hWH : (q.w : Int) * (q.h : Int) = ((q.w * q.h : Nat) : Int) := by rw [Int.natCast_mul]
  have hWH2 : q.w * q.h ≤ 36 := Nat.mul_le_mul hW.2 hH.2
  refine enterO (vs := [_,_]) (env := [(0,_), (1,_)]) hh.enter Tryz.func40 rfl rfl rfl rfl ?_
  refine VC.seq ?_
  refine VC.reg (VO.l (LO.as (.r rfl)) rfl<|VO.l (LO.as (.r rfl)) rfl<|VO.nil ?_)
  refine VE.seqN ?_
  refine VC.seq ?_
  refine VC.seq ?_
  refine VC.reg (VO.l (LO.mv (.r rfl)) rfl<|VO.l (LO.mv (.r rfl)) rfl<|VO.l (LO.call (xs := [_,_]) (vs := [_,_]) C100 ⟨(.r rfl), (.r rfl), trivial⟩ (fun w hw => asked_c bn q c T w hT (hF _ _ hw).1.B)) rfl<|VO.l (LO.as (.r rfl)) rfl<|VO.nil ?_)
  refine VE.seqN ?_
  refine VC.seq ?_
  refine VC.reg (VO.l (LO.mv (.r rfl)) rfl<|VO.l (LO.ne (.r rfl) (.r rfl)) rfl<|VO.nil ?_)
  refine VE.seqN ?_
  refine VC.cond rfl (fun h18 => ?_) (fun h18 => ?_)
  ·
    (exfalso; exact h18 rfl)
  ·
    refine VC.skip (VE.seqN ?_)
    refine VC.seq ?_
    refine VC.reg (VO.l (LO.mv (.r rfl)) rfl<|VO.l (LO.mv (.r rfl)) rfl<|VO.h rfl<|HO.callP (first := []) (cap := []) (xs := [_,_]) (vs := [_,_]) [_,_] [] (selK (L1 := [_,_] ++ []) [0,1] rfl rfl) (.r rfl) C101 ⟨(.r rfl), (.r rfl), trivial⟩ (fun w hw hh => at_c bn q c S M ts vs R C ls T w hS hc hOk hT hW hH hI hh (fun L w2 h2 => hF _ w2 (St.fz (selK (L1 := [_,_] ++ []) [0,1] rfl rfl w hw) h2))) fun yh ⟨hak, hap, hai, hal, hal2⟩ => VO.h rfl<|HO.lo (LO.as (.r rfl))<|VO.nil ?_)
    refine VE.seqN ?_
    refine VC.seq ?_
    obtain ⟨hl, hhl⟩ : ∃ hl, hl = yh.1.1 := ⟨_, rfl⟩
    rw [← hhl] at hak hap hal ⊢
    have hla : ∀ j, j < hl.length → HdP S R q.w q.h vs yh.1.2.2 (hl.getD j zHd) := fun j hj => hap _ (hd_mem hj)
    have hml : ∀ j, j < hl.length → (hl.getD j zHd).m.v.length = q.w * q.h := fun j hj => hSn (hl.getD j zHd).k _ (by rw [(hla j hj).m.2]; exact List.mem_cons_self)
    have htr : ∀ j, j < hl.length → ∀ i, i < q.w * q.h → ((hl.getD j zHd).m.v.getD i zs).lo ≤ tr i ∧ tr i ≤ ((hl.getD j zHd).m.v.getD i zs).hi := fun j hj i hi => hTr (hl.getD j zHd).k _ (by rw [(hla j hj).m.2]; exact List.mem_cons_self) i hi
    refine VC.pur (φ := (SlSome yh.2.1 hl.length ∧ hl.length ≤ yh.2.2) ∧ (∀ j, j < hl.length → SlSome (hl.getD j zHd).l.p (hl.getD j zHd).l.v.length ∧ SlSome (hl.getD j zHd).m.p (hl.getD j zHd).m.v.length) ∧ ∀ j, j < hl.length → SlSome (slFrom yh.2.1 yh.2.2 (j + 1) 5) (hl.length - (j + 1))) (fun w hw => ?_) fun hsp => ?_
    · have hcp : hl.length ≤ yh.2.2 := by have z := (hw.inv 0 _ rfl).1; rwa [List.length_map] at z
      exact ⟨⟨(RO.of_own hw 0 rfl).sm, hcp⟩, fun j hj => ⟨(bag_sp hw 2 rfl (hla j hj).l.1).sm, ((hF _ _ hw).1.V _ (hla j hj).m.1).sm⟩, fun j hj => Go.SL.Rows.some (rows_drop (own_rows hw 0 rfl) (k := j + 1) (by rw [List.length_map]; omega) (by rw [List.length_map]; exact hcp)) (by rw [List.length_drop, List.length_map])⟩
    refine VC.reg (VO.l (LO.as (.r rfl)) rfl<|VO.nil ?_)
    refine VE.seqN ?_
    refine VC.seq ?_
    refine VC.seq ?_
    refine VC.draw mixed (LL.l (LO.mv (.r rfl)) rfl<|LL.l (LO.nc (.r rfl)) rfl<|LL.l (LO.fa (r := 0) F277_0 (.r rfl) rfl) rfl<|LL.l (LO.fa (r := 0) F131_0 (.r rfl) rfl) rfl<|LL.l (LO.fa (r := 3) F88_3 (.r rfl) rfl) rfl<|LL.l (LO.ld O3 (.r rfl) (fun _ hw => sub_cells (off := 3) (hF _ _ hw).1.B ⟨_, rfl⟩)) rfl<|LL.l (LO.mv (.r rfl)) rfl<|LL.l (LO.nc (.r rfl)) rfl<|LL.l (LO.fa (r := 0) F277_0 (.r rfl) rfl) rfl<|LL.l (LO.fa (r := 0) F131_0 (.r rfl) rfl) rfl<|LL.l (LO.fa (r := 4) F88_4 (.r rfl) rfl) rfl<|LL.l (LO.ld O3 (.r rfl) (fun _ hw => sub_cells (off := 4) (hF _ _ hw).1.B ⟨_, rfl⟩)) rfl<|LL.l (LO.mul (.r rfl) (.r rfl) (wi (by omega) (by omega))) rfl<|LL.l (LO.mv (.r rfl)) rfl<|LL.nil) (by kernel_rfl) ?_
    refine VE.seqN ?_
    refine VC.block ?_
    refine VC.loopK (α := Nat) 0 (fun gx => [(8, .slice none 0 0), (36, .int .i64 (gx : Nat))]) [(7,_), (35,_)] (fun gx => []) (fun gx => gx ≤ q.w * q.h) (fun gx => q.w * q.h - gx) 0 (by exact Nat.zero_le _) (.cons rfl (.cons rfl (.cons rfl (.cons rfl .nil)))) (fun _ h => h) ?_
    rintro i hi
    refine VC.seq ?_
    refine VC.reg (VO.l (LO.lt (.r rfl) (.r rfl)) rfl<|VO.nil ?_)
    refine VE.seqN ?_
    refine VC.seq ?_
    refine VC.cond rfl (fun h37 => ?_) (fun h37 => ?_)
    ·
      refine VC.skip (VE.seqN ?_)
      refine VC.seq ?_
      refine VC.block ?_
      refine VC.seq ?_
      refine VC.reg (VO.l (LO.mv (.r rfl)) rfl<|VO.l (LO.as (.r rfl)) rfl<|VO.nil ?_)
      refine VE.seqN ?_
      refine VC.scope ?_
      refine VC.seq ?_
      refine VC.label (VE.seqN ?_)
      refine VC.seq ?_
      refine VC.reg (VO.l (LO.mv (.r rfl)) rfl<|VO.l (LO.len S288 (.r rfl) rfl) rfl<|VO.l (LO.mv (.r rfl)) rfl<|VO.nil ?_)
      refine VE.seqN ?_
      refine VC.block ?_
      refine VC.loopK (α := Nat) 0 (fun gx => [(8, .slice none 0 0), (41, .int .i64 (gx : Nat))]) [(7,_), (9,_), (35,_), (36,_), (39,_), (40,_)] (fun gx => []) (fun gx => gx ≤ hl.length) (fun gx => hl.length - gx) 0 (by exact Nat.zero_le _) (.cons rfl (.cons rfl (.cons rfl (.cons rfl (.cons rfl (.cons rfl (.cons rfl (.cons rfl .nil)))))))) (fun _ h => h) ?_
      rintro j hj
      refine VC.seq ?_
      refine VC.reg (VO.l (LO.lt (.r rfl) (.r rfl)) rfl<|VO.nil ?_)
      refine VE.seqN ?_
      refine VC.seq ?_
      refine VC.cond rfl (fun h42 => ?_) (fun h42 => ?_)
      ·
        refine VC.skip (VE.seqN ?_)
        refine VC.seq ?_
        refine VC.block ?_
        refine VC.seq ?_
        refine VC.reg (VO.l (LO.mv (.r rfl)) rfl<|VO.l (LO.ixs S288 N293 hsp.1.1 (.r rfl) (.r rfl) rfl (by omega)) rfl<|VO.l (LO.lda (vs := [_,_,_,_,_]) A293 (.r rfl) (fun w hw => cells_part (off := 0) ((fun w2 hw2 => (own_rows hw2 0 rfl).cells _ _ (hd_map (j := j) (by omega))) w hw) ⟨_, rfl⟩) rfl) rfl<|VO.h rfl<|HO.alloc (C := #[_,_,_,_,_]) Z293 rfl fun b6 => VO.l (LO.as (.r rfl)) rfl<|VO.h0<|HO.st 0 (vs := [_,_,_,_,_]) (C' := [_,_,_,_,_]) (L' := [_,_,_,_]) N293 rfl rfl rfl rfl rfl rfl rfl rfl<|VO.nil ?_)
        refine VE.seqN ?_
        refine VC.seq ?_
        refine VC.seq ?_
        refine VC.reg (VO.l (LO.fa (r := 4) F293_2 (.r rfl) rfl) rfl<|VO.l (LO.ld O291 (.r rfl) (fun _ hw => cells_at hw 0 rfl ⟨_, rfl⟩)) rfl<|VO.l (LO.mv (.r rfl)) rfl<|VO.l (LO.ixs S291 N25 (hsp.2.1 j (by omega)).1 (.r rfl) (.r rfl) (j := i) rfl (by have := (hla j (by omega)).l.2; omega)) rfl<|VO.l (LO.lda (vs := [_,_]) A25 (.r rfl) (fun w hw => cells_part (off := 0) ((fun w2 hw2 => (bag_sp hw2 3 rfl (hla j (by omega)).l.1).here zs (j := i) (by have := (hla j (by omega)).l.2; omega)) w hw) ⟨_, rfl⟩) rfl) rfl<|VO.l (LO.call (xs := [_]) (vs := [_]) C102 ⟨(.r rfl), trivial⟩ (fun w _ => seen_c _ w)) rfl<|VO.l (LO.not (.r rfl)) rfl<|VO.nil ?_)
        refine VE.seqN ?_
        refine VC.cond rfl (fun h52 => ?_) (fun h52 => ?_)
        ·
          refine VC.exit (VE.thenX (VE.inX (VE.seqN ?_)))
          refine VC.reg (VO.l (LO.add (.r rfl) (.r rfl) (wi (by omega) (by omega))) rfl<|VO.l (LO.mv (.r rfl)) rfl<|VO.nil ?_)
          refine VE.thenN fun a w ha hw => ⟨j + 1, (by omega), (by omega), ha.sub (.cons rfl (.cons rfl (.cons rfl (.cons rfl (.cons rfl (.cons rfl (.cons rfl (.cons rfl .nil)))))))), hw.sel [1,2,3] rfl⟩
        ·
          refine VC.skip (VE.seqN ?_)
          refine VC.seq ?_
          refine VC.reg (VO.l (LO.mv (.r rfl)) rfl<|VO.l (LO.mv (.r rfl)) rfl<|VO.l (LO.add (.r rfl) (.r rfl) (wi (by omega) (by omega))) rfl<|VO.l (LO.sl (l := (j + 1)) S288 N293 (.r rfl) (.r rfl) (by omega) (by omega)) rfl<|VO.l (LO.len S288 (.r rfl) rfl) rfl<|VO.l (LO.mv (.r rfl)) rfl<|VO.nil ?_)
          refine VE.seqN ?_
          refine VC.block ?_
          refine VC.loopK (α := Nat) 0 (fun gx => [(8, .slice none 0 0), (58, .int .i64 (gx : Nat))]) [(7,_), (9,_), (11,_), (35,_), (36,_), (39,_), (40,_), (41,_), (56,_), (57,_)] (fun gx => []) (fun gx => gx ≤ hl.length - (j + 1)) (fun gx => hl.length - (j + 1) - gx) 0 (by exact Nat.zero_le _) (.cons rfl (.cons rfl (.cons rfl (.cons rfl (.cons rfl (.cons rfl (.cons rfl (.cons rfl (.cons rfl (.cons rfl (.cons rfl (.cons rfl .nil)))))))))))) (fun _ h => h) ?_
          rintro k hk
          refine VC.seq ?_
          refine VC.reg (VO.l (LO.lt (.r rfl) (.r rfl)) rfl<|VO.nil ?_)
          refine VE.seqN ?_
          refine VC.seq ?_
          refine VC.cond rfl (fun h59 => ?_) (fun h59 => ?_)
          ·
            have hx1 := htr j (by omega) i (by omega)
            have hy1 := htr (j + 1 + k) (by omega) i (by omega)
            refine VC.skip (VE.seqN ?_)
            refine VC.seq ?_
            refine VC.block ?_
            refine VC.seq ?_
            refine VC.reg (VO.l (LO.ixs S288 N293 (hsp.2.2 j (by omega)) (.r rfl) (.r rfl) rfl (by omega)) rfl<|VO.l (LO.lda (vs := [_,_,_,_,_]) A293 (.r rfl) (fun w hw => cells_part (off := 0) ((fun w2 hw2 => (rows_drop (own_rows hw2 1 rfl) (k := j + 1) (by rw [List.length_map]; omega) (by rw [List.length_map]; exact hsp.1.2)).cells _ _ (hd_drop (j := j) (k := k) (by omega))) w hw) ⟨_, rfl⟩) rfl) rfl<|VO.h rfl<|HO.alloc (C := #[_,_,_,_,_]) Z293 rfl fun b8 => VO.h0<|HO.st 0 (vs := [_,_,_,_,_]) (C' := [_,_,_,_,_]) (L' := [_,_,_,_,_]) N293 rfl rfl rfl rfl rfl rfl rfl rfl<|VO.nil ?_)
            refine VE.seqN ?_
            refine VC.seq ?_
            refine VC.seq ?_
            refine VC.draw mixed (LL.l (LO.fa (r := 0) F293_0 (.r rfl) rfl) rfl<|LL.l (LO.fa (r := 0) F139_0 (.r rfl) rfl) rfl<|LL.l (LO.ld O9 (.r rfl) (fun _ hw => cells_at hw 1 rfl ⟨_, rfl⟩)) rfl<|LL.l (LO.fa (r := 0) F293_0 (.r rfl) rfl) rfl<|LL.l (LO.fa (r := 0) F139_0 (.r rfl) rfl) rfl<|LL.l (LO.ld O9 (.r rfl) (fun _ hw => cells_at hw 0 rfl ⟨_, rfl⟩)) rfl<|LL.l (LO.eqS (.r rfl) (.r rfl)) rfl<|LL.l (LO.mv (.r rfl)) rfl<|LL.lg rfl rfl (GD.f _) (fun hg => LO.fa (r := 4) F293_2 (.r rfl) rfl) rfl<|LL.lg rfl rfl (GD.f _) (fun hg => LO.ld O291 (.g hg rfl) (fun _ hw => cells_at hw 0 rfl ⟨_, rfl⟩)) rfl<|LL.lg rfl rfl (GD.f _) (fun hg => LO.mv (.r rfl)) rfl<|LL.lg rfl rfl (GD.f _) (fun hg => LO.ixs S291 N25 (hsp.2.1 (j + 1 + k) (by omega)).1 (.g hg rfl) (.g hg rfl) (j := i) rfl (by have := (hla (j + 1 + k) (by omega)).l.2; omega)) rfl<|LL.lg rfl rfl (GD.f _) (fun hg => LO.lda (vs := [_,_]) A25 (.g hg rfl) (fun w hw => cells_part (off := 0) ((fun w2 hw2 => (bag_sp hw2 4 rfl (hla (j + 1 + k) (by omega)).l.1).here zs (j := i) (by have := (hla (j + 1 + k) (by omega)).l.2; omega)) w hw) ⟨_, rfl⟩) rfl) rfl<|LL.lg rfl rfl (GD.f _) (fun hg => LO.call (xs := [_]) (vs := [_]) C102 ⟨(.g hg rfl), trivial⟩ (fun w _ => seen_c _ w)) rfl<|LL.lg rfl rfl (GD.f _) (fun hg => LO.not (.g hg rfl)) rfl<|LL.l (LO.pkO (.r rfl) (.r rfl) rfl rfl) rfl<|LL.l (LO.mv (.r rfl)) rfl<|LL.lg rfl rfl (GD.f _) (fun hg => LO.fa (r := 4) F293_2 (.r rfl) rfl) rfl<|LL.lg rfl rfl (GD.f _) (fun hg => LO.ld O291 (.g hg rfl) (fun _ hw => cells_at hw 1 rfl ⟨_, rfl⟩)) rfl<|LL.lg rfl rfl (GD.f _) (fun hg => LO.mv (.r rfl)) rfl<|LL.lg rfl rfl (GD.f _) (fun hg => LO.ixs S291 N25 (hsp.2.1 j (by omega)).1 (.g hg rfl) (.g hg rfl) (j := i) rfl (by have := (hla j (by omega)).l.2; omega)) rfl<|LL.lg rfl rfl (GD.f _) (fun hg => LO.lda (vs := [_,_]) A25 (.g hg rfl) (fun w hw => cells_part (off := 0) ((fun w2 hw2 => (bag_sp hw2 4 rfl (hla j (by omega)).l.1).here zs (j := i) (by have := (hla j (by omega)).l.2; omega)) w hw) ⟨_, rfl⟩) rfl) rfl<|LL.lg rfl rfl (GD.f _) (fun hg => LO.fa (r := 4) F293_2 (.r rfl) rfl) rfl<|LL.lg rfl rfl (GD.f _) (fun hg => LO.ld O291 (.g hg rfl) (fun _ hw => cells_at hw 0 rfl ⟨_, rfl⟩)) rfl<|LL.lg rfl rfl (GD.f _) (fun hg => LO.mv (.r rfl)) rfl<|LL.lg rfl rfl (GD.f _) (fun hg => LO.ixs S291 N25 (hsp.2.1 (j + 1 + k) (by omega)).1 (.g hg rfl) (.g hg rfl) (j := i) rfl (by have := (hla (j + 1 + k) (by omega)).l.2; omega)) rfl<|LL.lg rfl rfl (GD.f _) (fun hg => LO.lda (vs := [_,_]) A25 (.g hg rfl) (fun w hw => cells_part (off := 0) ((fun w2 hw2 => (bag_sp hw2 4 rfl (hla (j + 1 + k) (by omega)).l.1).here zs (j := i) (by have := (hla (j + 1 + k) (by omega)).l.2; omega)) w hw) ⟨_, rfl⟩) rfl) rfl<|LL.lg rfl rfl (GD.f _) (fun hg => LO.call (xs := [_,_]) (vs := [_,_]) C106 ⟨(.g hg rfl), (.g hg rfl), trivial⟩ (fun w _ => apart_c _ _ w)) rfl<|LL.l (LO.pkO (.r rfl) (.r rfl) rfl rfl) rfl<|LL.l (LO.mv (.r rfl)) rfl<|LL.lg rfl rfl (GD.f _) (fun hg => LO.fa (r := 3) F293_1 (.r rfl) rfl) rfl<|LL.lg rfl rfl (GD.f _) (fun hg => LO.ld O45 (.g hg rfl) (fun _ hw => cells_at hw 1 rfl ⟨_, rfl⟩)) rfl<|LL.lg rfl rfl (GD.f _) (fun hg => LO.mv (.r rfl)) rfl<|LL.lg rfl rfl (GD.f _) (fun hg => LO.ixs S45 N25 (hsp.2.1 j (by omega)).2 (.g hg rfl) (.g hg rfl) (j := i) rfl (by have := hml j (by omega); omega)) rfl<|LL.lg rfl rfl (GD.f _) (fun hg => LO.lda (vs := [_,_]) A25 (.g hg rfl) (fun w hw => cells_part (off := 0) ((fun w2 hw2 => ((hF _ _ hw2).1.V _ (hla j (by omega)).m.1).here zs (j := i) (by have := hml j (by omega); omega)) w hw) ⟨_, rfl⟩) rfl) rfl<|LL.lg rfl rfl (GD.f _) (fun hg => LO.fa (r := 3) F293_1 (.r rfl) rfl) rfl<|LL.lg rfl rfl (GD.f _) (fun hg => LO.ld O45 (.g hg rfl) (fun _ hw => cells_at hw 0 rfl ⟨_, rfl⟩)) rfl<|LL.lg rfl rfl (GD.f _) (fun hg => LO.mv (.r rfl)) rfl<|LL.lg rfl rfl (GD.f _) (fun hg => LO.ixs S45 N25 (hsp.2.1 (j + 1 + k) (by omega)).2 (.g hg rfl) (.g hg rfl) (j := i) rfl (by have := hml (j + 1 + k) (by omega); omega)) rfl<|LL.lg rfl rfl (GD.f _) (fun hg => LO.lda (vs := [_,_]) A25 (.g hg rfl) (fun w hw => cells_part (off := 0) ((fun w2 hw2 => ((hF _ _ hw2).1.V _ (hla (j + 1 + k) (by omega)).m.1).here zs (j := i) (by have := hml (j + 1 + k) (by omega); omega)) w hw) ⟨_, rfl⟩) rfl) rfl<|LL.lg rfl rfl (GD.f _) (fun hg => LO.call (xs := [_,_]) (vs := [_,_]) C106 ⟨(.g hg rfl), (.g hg rfl), trivial⟩ (fun w _ => apart_c ((hl.getD j zHd).m.v.getD i zs) ((hl.getD (j + 1 + k) zHd).m.v.getD i zs) w)) rfl<|LL.lg rfl rfl (GD.f _) (fun hg => LO.not (.g hg rfl)) rfl<|LL.l (LO.pkO (.r rfl) (.r rfl) rfl rfl) rfl<|LL.nil) (by kernel_rfl) ?_
            refine VE.seqN ?_
            refine VC.cond rfl (fun h104 => ?_) (fun h104 => ?_)
            ·
              refine VC.exit (VE.thenX (VE.inX (VE.seqN ?_)))
              refine VC.reg (VO.l (LO.add (.r rfl) (.r rfl) (wi (by omega) (by omega))) rfl<|VO.l (LO.mv (.r rfl)) rfl<|VO.nil ?_)
              refine VE.thenN fun a w ha hw => ⟨k + 1, (by omega), (by omega), ha.sub (.cons rfl (.cons rfl (.cons rfl (.cons rfl (.cons rfl (.cons rfl (.cons rfl (.cons rfl (.cons rfl (.cons rfl (.cons rfl (.cons rfl .nil)))))))))))), hw.sel [1,2,3,4] rfl⟩
            ·
              (exfalso; (exact h104 (.inr (by omega))))
          ·
            refine VC.exit (VE.thenX (VE.thenX (VE.inX (VE.inN (VE.seqN ?_)))))
            refine VC.reg (VO.l (LO.add (.r rfl) (.r rfl) (wi (by omega) (by omega))) rfl<|VO.l (LO.mv (.r rfl)) rfl<|VO.nil ?_)
            refine VE.thenN fun a w ha hw => ⟨j + 1, (by omega), (by omega), ha.sub (.cons rfl (.cons rfl (.cons rfl (.cons rfl (.cons rfl (.cons rfl (.cons rfl (.cons rfl .nil)))))))), hw.sel [1,2,3] rfl⟩
      ·
        refine VC.exit (VE.thenX (VE.thenX (VE.inX (VE.scN (VE.inN (VE.seqN ?_))))))
        refine VC.reg (VO.l (LO.add (.r rfl) (.r rfl) (wi (by omega) (by omega))) rfl<|VO.l (LO.mv (.r rfl)) rfl<|VO.nil ?_)
        refine VE.thenN fun a w ha hw => ⟨i + 1, (by omega), (by omega), ha.sub (.cons rfl (.cons rfl (.cons rfl (.cons rfl .nil)))), hw⟩
    ·
      have hie : i = q.w * q.h := by omega
      refine VC.exit (VE.thenX (VE.thenX (VE.inX (VE.seqN ?_))))
      refine VC.seq ?_
      refine VC.reg (VO.l (LO.mv (.r rfl)) rfl<|VO.l (LO.as (.r rfl)) rfl<|VO.l (LO.as (.r rfl)) rfl<|VO.nil ?_)
      refine VE.seqN ?_
      refine VC.ret (VE.res (vs := [_,_]) rfl ⟨rfl, rfl, trivial⟩ (fun w hw => ?_))
      exact ⟨yh.1.2, ⟨hai, hal2⟩, rfl, hw.sel [1,2] rfl⟩

end Go.Proofs.YtffbohecdocajaaGreat

namespace Go.Proofs.YtffbohecdocajaaGreat
open Go.SL Go.Proofs Go.Pulse
set_option linter.unusedVariables false

theorem F128_2 : FieldAt Tryz.prog 128 2 2 := ⟨_,_, Tryz.underlying128, rfl, rfl, 0, by kernel_rfl⟩
theorem O55 : IsOne Tryz.prog 55 := ⟨⟨_, Tryz.underlying55, rfl⟩, by kernel_rfl⟩
theorem S55 : IsSlice Tryz.prog 55 28 := Tryz.underlying55
theorem Z131 : ZeroOf Tryz.prog 131 (.agg #[.int .i64 0, .int .i64 0, .int .i64 0, .int .i64 0, .int .i64 0, .int .i64 0, .int .i64 0, .slice none 0 0, .int .i64 0]) := by unfold ZeroOf; kernel_rfl
theorem S191 : IsSlice Tryz.prog 191 9 := Tryz.underlying191
theorem Z9 : ZeroOf Tryz.prog 9 (.string ByteArray.empty) := by unfold ZeroOf; kernel_rfl
theorem N9 : (Tryz.prog.info? 9).map (·.size) = some 1 := by kernel_rfl
theorem F128_0 : FieldAt Tryz.prog 128 0 0 := ⟨_,_, Tryz.underlying128, rfl, rfl, 0, by kernel_rfl⟩
theorem O5 : IsOne Tryz.prog 5 := ⟨⟨_, Tryz.underlying5, rfl⟩, by kernel_rfl⟩
theorem F128_1 : FieldAt Tryz.prog 128 1 1 := ⟨_,_, Tryz.underlying128, rfl, rfl, 0, by kernel_rfl⟩
theorem B88 : Builds Tryz.prog 88 [(0,1), (1,1), (2,1), (3,1), (4,1)] [.int .i64 0, .int .i64 0, .int .i64 0, .int .i64 0, .int .i64 0] := Builds.mk fun _ => by kernel_rfl
theorem B131 : Builds Tryz.prog 131 [(0,5), (5,2), (7,1), (8,1)] [.int .i64 0, .int .i64 0, .int .i64 0, .int .i64 0, .int .i64 0, .int .i64 0, .int .i64 0, .slice none 0 0, .int .i64 0] := Builds.mk fun _ => by kernel_rfl
theorem N131 : (Tryz.prog.info? 131).map (·.size) = some 9 := by kernel_rfl
theorem F128_3 : FieldAt Tryz.prog 128 3 3 := ⟨_,_, Tryz.underlying128, rfl, rfl, 0, by kernel_rfl⟩
theorem O125 : IsOne Tryz.prog 125 := ⟨⟨_, Tryz.underlying125, rfl⟩, by kernel_rfl⟩
theorem S125 : IsSlice Tryz.prog 125 268 := Tryz.underlying125
theorem N268 : (Tryz.prog.info? 268).map (·.size) = some 4 := by kernel_rfl
theorem A268 : IsAgg Tryz.prog 268 4 := ⟨⟨_, Tryz.underlying268, rfl⟩, by kernel_rfl⟩
theorem Z268 : ZeroOf Tryz.prog 268 (.agg #[.int .u8 0, .int .u8 0, .int .u8 0, .int .u8 0]) := by unfold ZeroOf; kernel_rfl
theorem N5 : (Tryz.prog.info? 5).map (·.size) = some 1 := by kernel_rfl
theorem B59 : Builds Tryz.prog 59 [(0,1), (1,1), (2,1), (3,1), (4,1), (5,1), (6,1), (7,1)] [.string ByteArray.empty, .int .i64 0, .int .i64 0, .int .i64 0, .int .i64 0, .int .i64 0, .int .i64 0, .int .i64 0] := Builds.mk fun _ => by kernel_rfl
theorem B270 : Builds Tryz.prog 270 [(0,8), (8,2)] [.string ByteArray.empty, .int .i64 0, .int .i64 0, .int .i64 0, .int .i64 0, .int .i64 0, .int .i64 0, .int .i64 0, .int .i64 0, .int .i64 0] := Builds.mk fun _ => by kernel_rfl
theorem N129 : (Tryz.prog.info? 129).map (·.size) = some 1 := by kernel_rfl
theorem F270_0 : FieldAt Tryz.prog 270 0 0 := ⟨_,_, Tryz.underlying270, rfl, rfl, 7, by kernel_rfl⟩
theorem B139 : Builds Tryz.prog 139 [(0,1), (1,1), (2,1)] [.string ByteArray.empty, .int .i64 0, .int .i64 0] := Builds.mk fun _ => by kernel_rfl
theorem A128 : IsAgg Tryz.prog 128 8 := ⟨⟨_, Tryz.underlying128, rfl⟩, by kernel_rfl⟩
theorem C44 : IsFn Tryz.prog 44 := ⟨_, Tryz.func44, by decide, rfl⟩


abbrev B4 := Int × Int × Int × Int
abbrev B5 := Int × Int × Int × Int × Int
def u8C (b : Int) : List Value := [.int .u8 b]
def u16C (b : Int) : List Value := [.int .u16 b]
def b4C (b : B4) : List Value := [.int .u8 b.1, .int .u8 b.2.1, .int .u8 b.2.2.1, .int .u8 b.2.2.2]
def b5C (b : B5) : List Value := [.int .u8 b.1, .int .u8 b.2.1, .int .u8 b.2.2.1, .int .u8 b.2.2.2.1, .int .u8 b.2.2.2.2]
def zB4 : B4 := (0,0,0,0)
abbrev u8 (x : Int) : Prop := 0 ≤ x ∧ x ≤ 255
/-- The law's input. -/
structure NtI where
  wd : Int
  hg : Int
  rn : List Int
  rd : List B4
  ms : List B5
  tn : List Int
  tm : Int
  lv : Int
/-- Where it lies. -/
structure NtA where
  p2 : Option Addr
  c2 : Nat
  p3 : Option Addr
  c3 : Nat
  p4 : Option Addr
  c4 : Nat
  p5 : Option Addr
  c5 : Nat
abbrev ntL (x : NtI) (a : NtA) : List Value := [.int .u8 x.wd, .int .u8 x.hg, .slice a.p2 x.rn.length a.c2, .slice a.p3 x.rd.length a.c3, .slice a.p4 x.ms.length a.c4, .slice a.p5 x.tn.length a.c5, .int .u16 x.tm, .int .u16 x.lv]
structure NtB (x : NtI) : Prop where
  wd : 0 ≤ x.wd ∧ x.wd ≤ 255
  hg : 0 ≤ x.hg ∧ x.hg ≤ 255
  rn : x.rn.length ≤ 9223372036854775807 ∧ ∀ v, v ∈ x.rn → 0 ≤ v ∧ v ≤ 65535
  rd : x.rd.length ≤ 9223372036854775807 ∧ ∀ v : B4, v ∈ x.rd → u8 v.1 ∧ u8 v.2.1 ∧ u8 v.2.2.1 ∧ u8 v.2.2.2
  ms : x.ms.length ≤ 9223372036854775807 ∧ ∀ v : B5, v ∈ x.ms → (u8 v.1 ∧ u8 v.2.1) ∧ u8 v.2.2.1 ∧ u8 v.2.2.2.1 ∧ u8 v.2.2.2.2
  tn : x.tn.length ≤ 9223372036854775807 ∧ ∀ v, v ∈ x.tn → 0 ≤ v ∧ v ≤ 255
  tm : 0 ≤ x.tm ∧ x.tm ≤ 65535
  lv : 0 ≤ x.lv ∧ x.lv ≤ 65535
structure NtM (x : NtI) (a : NtA) (w : World) : Prop where
  rn : RO 1 u16C w a.p2 x.rn
  rd : RO 4 b4C w a.p3 x.rd
  ms : RO 5 b5C w a.p4 x.ms
  tn : RO 1 u8C w a.p5 x.tn
theorem NtM.keep {x : NtI} {a : NtA} {w0 w : World} {L : List Res} (h : NtM x a w0) (hw : St (bs w0) L w) : NtM x a w := ⟨h.rn.keep w hw, h.rd.keep w hw, h.ms.keep w hw, h.tn.keep w hw⟩
/-- The rain of a pixel. -/
def rainF (l : List Int) (i : Nat) : Int := if l.length = 0 then 0 else l.getD (i % l.length) 0
theorem rain_0 {l : List Int} {i : Nat} (h : l.length = 0) : rainF l i = 0 := if_pos h
theorem rain_y {l : List Int} {i : Nat} (h : ¬ l.length = 0) : rainF l i = l.getD (i % l.length) 0 := if_neg h
theorem tm_bd {x n : Int} (hx : 0 ≤ x) (hn : 0 < n) : 0 ≤ x.tmod n ∧ x.tmod n < n := ⟨Int.tmod_nonneg _ hx, Int.tmod_lt_of_pos _ hn⟩
/-- The radars of a network. -/
def fin3 (i : Nat) : Fin 3 := ⟨i % 3, Nat.mod_lt _ (by decide)⟩
def rdN (i : Nat) (b : B4) : RdM := ⟨fin3 i, b.1.tmod 8 * 1000, b.2.1.tmod 8 * 1000, b.2.2.2,1 + b.2.2.1.tmod 8⟩
def rdsF (l : List B4) (n : Nat) : List RdM := (List.range n).map fun i => rdN i (l.getD i zB4)
theorem rds_next {l : List B4} {n : Nat} : rdsF l (n + 1) = rdsF l n ++ [rdN n (l.getD n zB4)] := by unfold rdsF; rw [List.range_succ, List.map_append]; rfl
theorem rds_len {l : List B4} {n : Nat} : (rdsF l n).length = n := by unfold rdsF; rw [List.length_map, List.length_range]
def nmC (r : Fin 3) : List Value := [.string (nmT r)]
theorem nm_at {i : Nat} (h : i < 3) : (([0,1,2] : List (Fin 3)).map nmC)[i]? = some (nmC (fin3 i)) := by
  match i, h with
  | 0,_ => rfl
  | 1,_ => rfl
  | 2,_ => rfl
theorem mem_gd {α : Type} {l : List α} {d : α} {i : Nat} (h : i < l.length) : l.getD i d ∈ l := by
  rw [List.getD_eq_getElem?_getD, List.getElem?_eq_getElem h]; exact List.getElem_mem h
theorem tmodT {b : Int} {n : Nat} (hb : 0 ≤ b) : b.tmod ((n : Nat) : Int) = ((b.toNat % n : Nat) : Int) := by
  obtain ⟨m, rfl⟩ := Int.eq_ofNat_of_zero_le hb
  rw [Int.tmod_eq_emod_of_nonneg (by omega)]; simp
/-- A message of the law's. -/
def msgK (rds : List RdM) (b : B5) : KeyM := ((rds.getD (b.1.toNat % rds.length) zRd).r, b.2.1.tmod 3, b.2.2.1.tmod 20 * 100)
def msgS (l : List Int) (b : B5) (i : Nat) : Span := ⟨max 0 (rainF l i - b.2.2.2.1), rainF l i + b.2.2.2.2⟩
def msgV (l : List Int) (b : B5) (n : Nat) : List Span := (List.range n).map (msgS l b)
theorem msg_next {l : List Int} {b : B5} {n : Nat} : msgV l b (n + 1) = msgV l b n ++ [msgS l b n] := by unfold msgV; rw [List.range_succ, List.map_append]; rfl
theorem msg_len {l : List Int} {b : B5} {n : Nat} : (msgV l b n).length = n := by unfold msgV; rw [List.length_map, List.length_range]
theorem rain_bd {x : NtI} (hx : NtB x) (i : Nat) : 0 ≤ rainF x.rn i ∧ rainF x.rn i ≤ 65535 := by
  unfold rainF
  split
  · omega
  · refine hx.rn.2 _ ?_
    have : i % x.rn.length < x.rn.length := Nat.mod_lt _ (by omega)
    rw [List.getD_eq_getElem?_getD, List.getElem?_eq_getElem this]; exact List.getElem_mem this
theorem tmodN {i n : Nat} : ((i : Nat) : Int).tmod ((n : Nat) : Int) = ((i % n : Nat) : Int) := by rw [Int.tmod_eq_emod_of_nonneg (by omega), Int.natCast_emod]

set_option maxRecDepth 20000 in
theorem rain_c (x : NtI) (p : NtA) (i : Nat) (hi : i < 1000000) (hx : NtB x) (w : World) (hM : NtM x p w) :
  Calls Tryz.prog 44 #[.agg (ntL x p).toArray, .int .i64 (i : Nat)] w fun e w' => e = .returned (.int .i64 (rainF x.rn i)) ∧ St (bs w) [] w' := by
  have hb := hx.rn
  refine enter (vs := [_,_]) (env := [(0,_), (1,_)]) Tryz.func44 rfl rfl rfl rfl ?_
  refine VC.seq ?_
  refine VC.reg (VO.h rfl<|HO.box (C := #[_,_,_,_,_,_,_,_]) rfl rfl fun b1 => VO.l (LO.as (.r rfl)) rfl<|VO.nil ?_)
  refine VE.seqN ?_
  refine VC.seq ?_
  refine VC.seq ?_
  refine VC.reg (VO.l (LO.fa (r := 2) F128_2 (.r rfl) rfl) rfl<|VO.l (LO.ld O55 (.r rfl) (fun _ hw => cells_at hw 0 rfl ⟨_, rfl⟩)) rfl<|VO.l (LO.len S55 (.r rfl) rfl) rfl<|VO.l (LO.eq (.r rfl) (.r rfl)) rfl<|VO.nil ?_)
  refine VE.seqN ?_
  refine VC.cond rfl (fun h8 => ?_) (fun h8 => ?_)
  ·
    refine VC.seq ?_
    refine VC.reg (VO.l (LO.as (.r rfl)) rfl<|VO.nil ?_)
    refine VE.seqN ?_
    refine VC.ret (VE.thenR (VE.res (vs := [_]) rfl ⟨rfl, trivial⟩ (fun w hw => ?_)))
    first | exact ⟨by rw [rain_0 (by omega)]; rfl, hw.nil⟩ | exact ⟨by rw [rain_y (by omega)]; rfl, hw.nil⟩
  ·
    have hml : i % x.rn.length < x.rn.length := Nat.mod_lt _ (by omega)
    have hv := hb.2 (x.rn.getD (i % x.rn.length) 0) (by rw [List.getD_eq_getElem?_getD, List.getElem?_eq_getElem hml]; exact List.getElem_mem hml)
    refine VC.skip (VE.seqN ?_)
    refine VC.seq ?_
    refine VC.draw mixed (LL.l (LO.fa (r := 2) F128_2 (.r rfl) rfl) rfl<|LL.l (LO.ld O55 (.r rfl) (fun _ hw => cells_at hw 0 rfl ⟨_, rfl⟩)) rfl<|LL.l (LO.mv (.r rfl)) rfl<|LL.l (LO.fa (r := 2) F128_2 (.r rfl) rfl) rfl<|LL.l (LO.ld O55 (.r rfl) (fun _ hw => cells_at hw 0 rfl ⟨_, rfl⟩)) rfl<|LL.l (LO.len S55 (.r rfl) rfl) rfl<|LL.l (LO.rem (.r rfl) (.r rfl) (by omega)) rfl<|LL.l (LO.ixs S55 N28 hM.rn.sm (.r rfl) (.r rfl) (j := i % x.rn.length) tmodN (by omega)) rfl<|LL.l (LO.ld O28 (.r rfl) (fun w hw => cells_part (off := 0) ((hM.rn.at (0 : Int) (j := i % x.rn.length) (by omega)) w hw) ⟨_, rfl⟩)) rfl<|LL.l (LO.cv ⟨_, Tryz.underlying28⟩ Tryz.underlying3 (.r rfl) (wi (by omega) (by omega))) rfl<|LL.l (LO.as (.r rfl)) rfl<|LL.nil) (by kernel_rfl) ?_
    refine VE.seqN ?_
    refine VC.ret (VE.res (vs := [_]) rfl ⟨rfl, trivial⟩ (fun w hw => ?_))
    first | exact ⟨by rw [rain_0 (by omega)]; rfl, hw.nil⟩ | exact ⟨by rw [rain_y (by omega)]; rfl, hw.nil⟩

set_option maxRecDepth 20000 in
set_option maxHeartbeats 2000000 in
theorem spec_c (x : NtI) (p : NtA) (hx : NtB x) (w : World) (hM : NtM x p w) :
  Calls Tryz.prog 34 #[.agg (ntL x p).toArray] w fun e w' => ∃ y : Option Addr × Nat, True ∧ e = .returned (.agg #[.int .i64 0, .int .i64 0, .int .i64 1000, .int .i64 (1 + x.wd.tmod 6), .int .i64 (1 + x.hg.tmod 6), .int .i64 8000000, .int .i64 9000000, .slice y.1 (rdsF x.rd (min x.rd.length 3)).length y.2, .int .i64 600]) ∧ St (bs w) [own 270 10 y.1 y.2 ((rdsF x.rd (min x.rd.length 3)).map rdC)] w' := by
  have hwd := hx.wd
  have hhg := hx.hg
  have tw := tm_bd (x := x.wd) (n := 6) hwd.1 (by decide)
  have th := tm_bd (x := x.hg) (n := 6) hhg.1 (by decide)
  have hrl := hx.rd.1
  refine enter (vs := [_]) (env := [(0,_)]) Tryz.func34 rfl rfl rfl rfl ?_
  refine VC.seq ?_
  refine VC.reg (VO.h rfl<|HO.box (C := #[_,_,_,_,_,_,_,_]) rfl rfl fun b1 => VO.h rfl<|HO.alloc (C := #[_,_,_,_,_,_,_,_,_]) Z131 rfl fun b2 => VO.nil ?_)
  refine VE.seqN ?_
  refine VC.seq ?_
  refine VC.reg (VO.h rfl<|HO.bs (ps := [(_,_), (_,_), (_,_)]) (vs := [(_,_), (_,_), (_,_)]) (Z := [_,_,_]) (C := [_,_,_]) S191 Z9 N9 ⟨(.r rfl), (.r rfl), (.r rfl), trivial⟩ rfl rfl rfl rfl ⟨_, [_], [_,_,_], rfl, rfl, rfl, rfl, ⟨_, [_], [_,_,_], rfl, rfl, rfl, rfl, ⟨_, [_], [_,_,_], rfl, rfl, rfl, rfl, rfl⟩⟩⟩ fun b3 => VO.h rfl<|HO.lo (LO.as (.r rfl))<|VO.nil ?_)
  refine VE.seqN ?_
  refine VC.seq ?_
  refine VC.reg (VO.l (LO.fa (r := 0) F128_0 (.r rfl) rfl) rfl<|VO.l (LO.ld O5 (.r rfl) (fun _ hw => cells_at hw 2 rfl ⟨_, rfl⟩)) rfl<|VO.l (LO.cv ⟨_, Tryz.underlying5⟩ Tryz.underlying3 (.r rfl) (wi (by omega) (by omega))) rfl<|VO.l (LO.rem (.r rfl) (.r rfl) (by omega)) rfl<|VO.l (LO.add (.r rfl) (.r rfl) (wi (by omega) (by omega))) rfl<|VO.l (LO.fa (r := 1) F128_1 (.r rfl) rfl) rfl<|VO.l (LO.ld O5 (.r rfl) (fun _ hw => cells_at hw 2 rfl ⟨_, rfl⟩)) rfl<|VO.l (LO.cv ⟨_, Tryz.underlying5⟩ Tryz.underlying3 (.r rfl) (wi (by omega) (by omega))) rfl<|VO.l (LO.rem (.r rfl) (.r rfl) (by omega)) rfl<|VO.l (LO.add (.r rfl) (.r rfl) (wi (by omega) (by omega))) rfl<|VO.l (LO.bd (ps := [(_,_), (_,_), (_,_)]) (vs := [(_,_), (_,_), (_,_)]) (C := [_,_,_,_,_]) B88  ⟨(.r rfl), (.r rfl), (.r rfl), trivial⟩ rfl ⟨_, [_], [_,_,_,_,_], rfl, rfl, rfl, rfl, ⟨_, [_], [_,_,_,_,_], rfl, rfl, rfl, rfl, ⟨_, [_], [_,_,_,_,_], rfl, rfl, rfl, rfl, rfl⟩⟩⟩) rfl<|VO.l (LO.bd (ps := [(_,_), (_,_)]) (vs := [(_,_), (_,_)]) (C := [_,_]) B25  ⟨(.r rfl), (.r rfl), trivial⟩ rfl ⟨_, [_], [_,_], rfl, rfl, rfl, rfl, ⟨_, [_], [_,_], rfl, rfl, rfl, rfl, rfl⟩⟩) rfl<|VO.l (LO.bd (ps := [(_,_), (_,_), (_,_)]) (vs := [(_,_), (_,_), (_,_)]) (C := [_,_,_,_,_,_,_,_,_]) B131  ⟨(.r rfl), (.r rfl), (.r rfl), trivial⟩ rfl ⟨_, [_,_,_,_,_], [_,_,_,_,_,_,_,_,_], rfl, rfl, rfl, rfl, ⟨_, [_,_], [_,_,_,_,_,_,_,_,_], rfl, rfl, rfl, rfl, ⟨_, [_], [_,_,_,_,_,_,_,_,_], rfl, rfl, rfl, rfl, rfl⟩⟩⟩) rfl<|VO.h rfl<|HO.alloc (C := #[_,_,_,_,_,_,_,_,_]) Z131 rfl fun b4 => VO.h0<|HO.st 0 (vs := [_,_,_,_,_,_,_,_,_]) (C' := [_,_,_,_,_,_,_,_,_]) (L' := [_,_,_,_]) N131 rfl rfl rfl rfl rfl rfl rfl rfl<|VO.nil ?_)
  refine VE.seqN ?_
  refine VC.seq ?_
  refine VC.seq ?_
  refine VC.reg (VO.l (LO.as (.r rfl)) rfl<|VO.nil ?_)
  refine VE.seqN ?_
  refine VC.block ?_
  refine VC.loopK (α := Nat × (List RdM) × (Option Addr) × Nat) 1 (fun gx => [(5, .int .i64 (gx.1 : Nat))]) [(1,_), (2,_), (3,_), (4,_)] (fun gx => [own 270 10 gx.2.2.1 gx.2.2.2 (gx.2.1.map rdC), blk b4 (.cells #[.int .i64 0, .int .i64 0, .int .i64 1000, .int .i64 (1 + x.wd.tmod 6), .int .i64 (1 + x.hg.tmod 6), .int .i64 8000000, .int .i64 9000000, .slice gx.2.2.1 gx.2.1.length gx.2.2.2, .int .i64 600] 131)]) (fun gx => gx.1 ≤ min x.rd.length 3 ∧ gx.2.1 = rdsF x.rd gx.1) (fun gx => min x.rd.length 3 - gx.1) (0, [], none, 0) (by exact ⟨Nat.zero_le _, rfl⟩) (.cons rfl (.cons rfl (.cons rfl (.cons rfl (.cons rfl .nil))))) (fun _ h => (h.ownNil 270 10)) ?_
  rintro ⟨i, o, po, co⟩ ⟨hi, ho⟩
  show VC _ _ _ _ _ ([(5, .int .i64 (i : Nat))] ++ _) ([own 270 10 po co (o.map rdC), blk b4 (.cells #[.int .i64 0, .int .i64 0, .int .i64 1000, .int .i64 (1 + x.wd.tmod 6), .int .i64 (1 + x.hg.tmod 6), .int .i64 8000000, .int .i64 9000000, .slice po o.length co, .int .i64 600] 131)] ++ _) _ _
  dsimp only at hi ho
  have hol : o.length = i := by rw [ho, rds_len]
  refine VC.seq ?_
  refine VC.seq ?_
  refine VC.reg (VO.l (LO.mv (.r rfl)) rfl<|VO.l (LO.fa (r := 3) F128_3 (.r rfl) rfl) rfl<|VO.l (LO.ld O125 (.r rfl) (fun _ hw => cells_at hw 4 rfl ⟨_, rfl⟩)) rfl<|VO.l (LO.len S125 (.r rfl) rfl) rfl<|VO.l (LO.lt (.r rfl) (.r rfl)) rfl<|VO.l (LO.mv (.r rfl)) rfl<|VO.lg rfl rfl (GD.t _) (fun hg => LO.mv (.r rfl)) rfl<|VO.lg rfl rfl (GD.t _) (fun hg => LO.lt (.g hg rfl) (.r rfl)) rfl<|VO.l (LO.pkA (.r rfl) rfl rfl (.r rfl)) rfl<|VO.nil ?_)
  refine VE.seqN ?_
  refine VC.cond rfl (fun h29 => ?_) (fun h29 => ?_)
  ·
    have hbb := hx.rd.2 (x.rd.getD i zB4) (mem_gd (by omega))
    have t0 := tm_bd (x := (x.rd.getD i zB4).1) (n := 8) hbb.1.1 (by decide)
    have t1 := tm_bd (x := (x.rd.getD i zB4).2.1) (n := 8) hbb.2.1.1 (by decide)
    have t2 := tm_bd (x := (x.rd.getD i zB4).2.2.1) (n := 8) hbb.2.2.1.1 (by decide)
    have hb4 := hbb.2.2.2
    refine VC.skip (VE.seqN ?_)
    refine VC.seq ?_
    refine VC.block ?_
    refine VC.seq ?_
    refine VC.reg (VO.l (LO.fa (r := 3) F128_3 (.r rfl) rfl) rfl<|VO.l (LO.ld O125 (.r rfl) (fun _ hw => cells_at hw 4 rfl ⟨_, rfl⟩)) rfl<|VO.l (LO.mv (.r rfl)) rfl<|VO.l (LO.ixs S125 N268 hM.rd.sm (.r rfl) (.r rfl) rfl (by omega)) rfl<|VO.l (LO.lda (vs := [_,_,_,_]) A268 (.r rfl) (fun w hw => cells_part (off := 0) ((hM.rd.at zB4 (j := i) (by omega)) w hw) ⟨_, rfl⟩) rfl) rfl<|VO.h rfl<|HO.alloc (C := #[_,_,_,_]) Z268 rfl fun b8 => VO.h0<|HO.st 0 (vs := [_,_,_,_]) (C' := [_,_,_,_]) (L' := [_,_,_,_,_,_]) N268 rfl rfl rfl rfl rfl rfl rfl rfl<|VO.nil ?_)
    refine VE.seqN ?_
    refine VC.drawH [[0,1,2,3,4,5], [0,1,2,3,4,5], [0,2,3,4,5], [0,3,4,5]] [some 1, some 1, some 0, some 0, some 0, some 0, some 0, some 0, some 0, some 0, some 0, some 0, some 0, some 0, some 0, some 0, some 0, some 0, some 0, some 0, some 0, some 0, some 0, some 0, some 0, some 0, none, none, some 2, none] mixed (by kernel_rfl) rfl (LX.l (fun _ hJ => LO.fa (r := 7) F131_2 (.r rfl) rfl) rfl<|LX.l (fun _ hJ => LO.ld O129 (.r rfl) (fun _ hw => cells_at (hJ _ hw) 2 rfl ⟨_, rfl⟩)) rfl<|LX.l (fun _ hJ => LO.mv (.r rfl)) rfl<|LX.l (fun _ hJ => LO.mv (.r rfl)) rfl<|LX.l (fun _ hJ => LO.ixs S191 N9 (fun _ => rfl) (.r rfl) (.r rfl) rfl (by omega)) rfl<|LX.l (fun _ hJ => LO.ld O9 (.r rfl) (fun w hw => cells_part (off := 0) ((fun w2 hw2 => Go.SL.Rows.cells (RO.ofC (f := nmC) (l := [0,1,2]) (fun _ => rfl) (cells_at hw2 3 rfl ⟨_, rfl⟩)) _ _ (nm_at (by omega))) w (hJ _ hw)) ⟨_, rfl⟩)) rfl<|LX.l (fun _ hJ => LO.ixa (j := 0) (r := 0) Tryz.underlying268 N5 (.r rfl) (.r rfl) rfl (by decide) rfl) rfl<|LX.l (fun _ hJ => LO.ld O5 (.r rfl) (fun _ hw => cells_at (hJ _ hw) 0 rfl ⟨_, rfl⟩)) rfl<|LX.l (fun _ hJ => LO.cv ⟨_, Tryz.underlying5⟩ Tryz.underlying3 (.r rfl) (wi (by omega) (by omega))) rfl<|LX.l (fun _ hJ => LO.rem (.r rfl) (.r rfl) (by omega)) rfl<|LX.l (fun _ hJ => LO.mul (.r rfl) (.r rfl) (wi (by omega) (by omega))) rfl<|LX.l (fun _ hJ => LO.ixa (j := 1) (r := 1) Tryz.underlying268 N5 (.r rfl) (.r rfl) rfl (by decide) rfl) rfl<|LX.l (fun _ hJ => LO.ld O5 (.r rfl) (fun _ hw => cells_at (hJ _ hw) 0 rfl ⟨_, rfl⟩)) rfl<|LX.l (fun _ hJ => LO.cv ⟨_, Tryz.underlying5⟩ Tryz.underlying3 (.r rfl) (wi (by omega) (by omega))) rfl<|LX.l (fun _ hJ => LO.rem (.r rfl) (.r rfl) (by omega)) rfl<|LX.l (fun _ hJ => LO.mul (.r rfl) (.r rfl) (wi (by omega) (by omega))) rfl<|LX.l (fun _ hJ => LO.ixa (j := 3) (r := 3) Tryz.underlying268 N5 (.r rfl) (.r rfl) rfl (by decide) rfl) rfl<|LX.l (fun _ hJ => LO.ld O5 (.r rfl) (fun _ hw => cells_at (hJ _ hw) 0 rfl ⟨_, rfl⟩)) rfl<|LX.l (fun _ hJ => LO.cv ⟨_, Tryz.underlying5⟩ Tryz.underlying3 (.r rfl) (wi (by omega) (by omega))) rfl<|LX.l (fun _ hJ => LO.ixa (j := 2) (r := 2) Tryz.underlying268 N5 (.r rfl) (.r rfl) rfl (by decide) rfl) rfl<|LX.l (fun _ hJ => LO.ld O5 (.r rfl) (fun _ hw => cells_at (hJ _ hw) 0 rfl ⟨_, rfl⟩)) rfl<|LX.l (fun _ hJ => LO.cv ⟨_, Tryz.underlying5⟩ Tryz.underlying3 (.r rfl) (wi (by omega) (by omega))) rfl<|LX.l (fun _ hJ => LO.rem (.r rfl) (.r rfl) (by omega)) rfl<|LX.l (fun _ hJ => LO.add (.r rfl) (.r rfl) (wi (by omega) (by omega))) rfl<|LX.l (fun _ hJ => LO.bd (ps := [(_,_), (_,_), (_,_), (_,_), (_,_), (_,_), (_,_)]) (vs := [(_,_), (_,_), (_,_), (_,_), (_,_), (_,_), (_,_)]) (C := [_,_,_,_,_,_,_,_]) B59  ⟨(.r rfl), (.r rfl), (.r rfl), (.r rfl), (.r rfl), (.r rfl), (.r rfl), trivial⟩ rfl ⟨_, [_], [_,_,_,_,_,_,_,_], rfl, rfl, rfl, rfl, ⟨_, [_], [_,_,_,_,_,_,_,_], rfl, rfl, rfl, rfl, ⟨_, [_], [_,_,_,_,_,_,_,_], rfl, rfl, rfl, rfl, ⟨_, [_], [_,_,_,_,_,_,_,_], rfl, rfl, rfl, rfl, ⟨_, [_], [_,_,_,_,_,_,_,_], rfl, rfl, rfl, rfl, ⟨_, [_], [_,_,_,_,_,_,_,_], rfl, rfl, rfl, rfl, ⟨_, [_], [_,_,_,_,_,_,_,_], rfl, rfl, rfl, rfl, rfl⟩⟩⟩⟩⟩⟩⟩) rfl<|LX.l (fun _ hJ => LO.bd (ps := [(_,_)]) (vs := [(_,_)]) (C := [_,_,_,_,_,_,_,_,_,_]) B270  ⟨(.r rfl), trivial⟩ rfl ⟨_, [_,_,_,_,_,_,_,_], [_,_,_,_,_,_,_,_,_,_], rfl, rfl, rfl, rfl, rfl⟩) rfl<|LX.s<|LX.s<|LX.l (fun _ hJ => LO.fa (r := 7) F131_2 (.r rfl) rfl) rfl<|LX.s<|LX.nil) (HX.s<|HX.s<|HX.s<|HX.s<|HX.s<|HX.s<|HX.s<|HX.s<|HX.s<|HX.s<|HX.s<|HX.s<|HX.s<|HX.s<|HX.s<|HX.s<|HX.s<|HX.s<|HX.s<|HX.s<|HX.s<|HX.s<|HX.s<|HX.s<|HX.s<|HX.s<|HX.h rfl<|HO.bs (ps := [(_,_)]) (vs := [(_,_)]) (Z := [_,_,_,_,_,_,_,_,_,_]) (C := [_,_,_,_,_,_,_,_,_,_]) S129 Z270 N270 ⟨(.r rfl), trivial⟩ rfl rfl rfl rfl ⟨_, [_,_,_,_,_,_,_,_,_,_], [_,_,_,_,_,_,_,_,_,_], rfl, rfl, rfl, rfl, rfl⟩ fun b12 => ⟨fun _ hw => hw.sel [1,2,3,4,5,6] rfl, HX.h rfl<|HO.appT ((rdN i (x.rd.getD i zB4))) 2 0 (fun R => [_,_, R,_,_,_,_]) S129 S129 I270 (.r rfl) (.r rfl) rfl rfl rfl rfl rfl rfl rfl (fun _ => rfl) rfl (by omega) fun p27 c27 => ⟨fun _ hw => hw.sel [1,3,4,5,6] rfl, HX.s<|HX.h0<|HO.st 3 (vs := [_]) (C' := [_,_,_,_,_,_,_,_,_]) (L' := [_,_,_,_,_,_,_]) N129 rfl rfl rfl rfl rfl rfl rfl rfl<|⟨fun _ hw => hw.sel [1,4,5,6] rfl, HX.nil ?_⟩⟩⟩)
    refine VE.inN (VE.seqN ?_)
    refine VC.reg (VO.l (LO.mv (.r rfl)) rfl<|VO.l (LO.add (.r rfl) (.r rfl) (wi (by omega) (by omega))) rfl<|VO.l (LO.as (.r rfl)) rfl<|VO.nil ?_)
    refine VE.thenN fun a w ha hw => ⟨(i + 1, o ++ [rdN i (x.rd.getD i zB4)], p27, c27), ⟨by dsimp only; omega, by dsimp only; rw [ho, rds_next]⟩, (by dsimp only; omega), ha.sub (.cons rfl (.cons rfl (.cons rfl (.cons rfl (.cons rfl .nil))))), hw.sel [2,3,4,5,6] rfl⟩
  ·
    have hie : i = min x.rd.length 3 := by omega
    refine VC.exit (VE.thenX (VE.thenX (VE.inX (VE.seqN ?_))))
    refine VC.seq ?_
    refine VC.reg (VO.l (LO.lda (vs := [_,_,_,_,_,_,_,_,_]) A131 (.r rfl) (fun _ hw => cells_at hw 1 rfl ⟨_, rfl⟩) rfl) rfl<|VO.h0<|HO.st 3 (vs := [_,_,_,_,_,_,_,_,_]) (C' := [_,_,_,_,_,_,_,_,_]) (L' := [_,_,_,_,_]) N131 rfl rfl rfl rfl rfl rfl rfl rfl<|VO.nil ?_)
    refine VE.seqN ?_
    refine VC.ret (VE.res (vs := [_]) rfl ⟨RV.agg (vs := [_,_,_,_,_,_,_,_,_]) A131 rfl (cells_blk 3 rfl ⟨_, rfl⟩) rfl, trivial⟩ (fun w hw => ?_))
    subst ho
    rw [hie] at hw
    exact ⟨(po, co), trivial, by simp only [resV]; rw [hie], hw.sel [0] rfl⟩

set_option maxRecDepth 20000 in
set_option maxHeartbeats 2000000 in
theorem message_c (x : NtI) (p : NtA) (hx : NtB x) (W H : Nat) (hW : 1 ≤ W ∧ W ≤ 6) (hH : 1 ≤ H ∧ H ≤ 6) (rds : List RdM) (ps : Option Addr) (cs : Nat) (hr0 : 0 < rds.length) (hr9 : rds.length < 1000) (b : B5) (hb : (u8 b.1 ∧ u8 b.2.1) ∧ u8 b.2.2.1 ∧ u8 b.2.2.2.1 ∧ u8 b.2.2.2.2) (w : World) (hM : NtM x p w) (hR : RO 10 rdC w ps rds) :
  Calls Tryz.prog 37 #[.agg (ntL x p).toArray, .agg #[.int .i64 0, .int .i64 0, .int .i64 1000, .int .i64 (W : Nat), .int .i64 (H : Nat), .int .i64 8000000, .int .i64 9000000, .slice ps rds.length cs, .int .i64 600], .agg (b5C b).toArray] w fun e w' => ∃ y : Option Addr × Nat, True ∧ e = .returned (.agg (mgC (msgK rds b) (msgV x.rn b (W * H)) y.1 y.2).toArray) ∧ St (bs w) [own 25 2 y.1 y.2 ((msgV x.rn b (W * H)).map spanC)] w' := by
  obtain ⟨⟨⟨b1_, b1x⟩, b2_, b2x⟩, ⟨b3_, b3x⟩, ⟨b4_, b4x⟩, b5_, b5x⟩ := hb
  have tj := tm_bd (x := b.2.1) (n := 3) b2_ (by decide)
  have tk := tm_bd (x := b.2.2.1) (n := 20) b3_ (by decide)
  have hjl : b.1.toNat % rds.length < rds.length := Nat.mod_lt _ hr0
  have hWH : (W : Int) * (H : Int) = ((W * H : Nat) : Int) := by rw [Int.natCast_mul]
  have hWH2 : W * H ≤ 36 := Nat.mul_le_mul hW.2 hH.2
  refine enter (vs := [_,_,_]) (env := [(0,_), (1,_), (2,_)]) Tryz.func37 rfl rfl rfl rfl ?_
  refine VC.seq ?_
  refine VC.reg (VO.h rfl<|HO.box (C := #[_,_,_,_,_,_,_,_]) rfl rfl fun b1 => VO.h rfl<|HO.box (C := #[_,_,_,_,_,_,_,_,_]) rfl rfl fun b2 => VO.h rfl<|HO.box (C := #[_,_,_,_,_]) rfl rfl fun b3 => VO.h rfl<|HO.alloc (C := #[_,_,_,_]) Z141 rfl fun b4 => VO.nil ?_)
  refine VE.seqN ?_
  refine VC.seq ?_
  refine VC.drawH [[0,1,2,3], [0,1,2,3], [0,1,2,3]] [some 1, some 1, some 1, some 1, some 1, some 1, some 1, some 1, some 1, some 1, some 1, some 1, some 1, some 1, some 1, some 1, some 1, some 1, some 1, some 1, some 1, some 1, some 1, some 1, none, none] mixed (by kernel_rfl) rfl (LX.l (fun _ hJ => LO.fa (r := 7) F131_2 (.r rfl) rfl) rfl<|LX.l (fun _ hJ => LO.ld O129 (.r rfl) (fun _ hw => cells_at (hJ _ hw) 2 rfl ⟨_, rfl⟩)) rfl<|LX.l (fun _ hJ => LO.ixa (j := 0) (r := 0) Tryz.underlying143 N5 (.r rfl) (.r rfl) rfl (by decide) rfl) rfl<|LX.l (fun _ hJ => LO.ld O5 (.r rfl) (fun _ hw => cells_at (hJ _ hw) 1 rfl ⟨_, rfl⟩)) rfl<|LX.l (fun _ hJ => LO.cv ⟨_, Tryz.underlying5⟩ Tryz.underlying3 (.r rfl) (wi (by omega) (by omega))) rfl<|LX.l (fun _ hJ => LO.fa (r := 7) F131_2 (.r rfl) rfl) rfl<|LX.l (fun _ hJ => LO.ld O129 (.r rfl) (fun _ hw => cells_at (hJ _ hw) 2 rfl ⟨_, rfl⟩)) rfl<|LX.l (fun _ hJ => LO.len S129 (.r rfl) rfl) rfl<|LX.l (fun _ hJ => LO.rem (.r rfl) (.r rfl) (by omega)) rfl<|LX.l (fun _ hJ => LO.ixs S129 N270 hR.sm (.r rfl) (.r rfl) (j := b.1.toNat % rds.length) (tmodT b1_) hjl) rfl<|LX.l (fun _ hJ => LO.fa F270_0 (.r rfl) rfl) rfl<|LX.l (fun _ hJ => LO.fa F59_0 (.r rfl) rfl) rfl<|LX.l (fun _ hJ => LO.ld O9 (.r rfl) (fun w hw => cells_part (off := 0) ((hR.at zRd (j := b.1.toNat % rds.length) (by omega)) w (hJ _ hw)) ⟨_, rfl⟩)) rfl<|LX.l (fun _ hJ => LO.ixa (j := 1) (r := 1) Tryz.underlying143 N5 (.r rfl) (.r rfl) rfl (by decide) rfl) rfl<|LX.l (fun _ hJ => LO.ld O5 (.r rfl) (fun _ hw => cells_at (hJ _ hw) 1 rfl ⟨_, rfl⟩)) rfl<|LX.l (fun _ hJ => LO.cv ⟨_, Tryz.underlying5⟩ Tryz.underlying3 (.r rfl) (wi (by omega) (by omega))) rfl<|LX.l (fun _ hJ => LO.rem (.r rfl) (.r rfl) (by omega)) rfl<|LX.l (fun _ hJ => LO.ixa (j := 2) (r := 2) Tryz.underlying143 N5 (.r rfl) (.r rfl) rfl (by decide) rfl) rfl<|LX.l (fun _ hJ => LO.ld O5 (.r rfl) (fun _ hw => cells_at (hJ _ hw) 1 rfl ⟨_, rfl⟩)) rfl<|LX.l (fun _ hJ => LO.cv ⟨_, Tryz.underlying5⟩ Tryz.underlying3 (.r rfl) (wi (by omega) (by omega))) rfl<|LX.l (fun _ hJ => LO.rem (.r rfl) (.r rfl) (by omega)) rfl<|LX.l (fun _ hJ => LO.mul (.r rfl) (.r rfl) (wi (by omega) (by omega))) rfl<|LX.l (fun _ hJ => LO.bd (ps := [(_,_), (_,_), (_,_)]) (vs := [(_,_), (_,_), (_,_)]) (C := [_,_,_]) B139  ⟨(.r rfl), (.r rfl), (.r rfl), trivial⟩ rfl ⟨_, [_], [_,_,_], rfl, rfl, rfl, rfl, ⟨_, [_], [_,_,_], rfl, rfl, rfl, rfl, ⟨_, [_], [_,_,_], rfl, rfl, rfl, rfl, rfl⟩⟩⟩) rfl<|LX.l (fun _ hJ => LO.bd (ps := [(_,_)]) (vs := [(_,_)]) (C := [_,_,_,_]) B141  ⟨(.r rfl), trivial⟩ rfl ⟨_, [_,_,_], [_,_,_,_], rfl, rfl, rfl, rfl, rfl⟩) rfl<|LX.s<|LX.s<|LX.nil) (HX.s<|HX.s<|HX.s<|HX.s<|HX.s<|HX.s<|HX.s<|HX.s<|HX.s<|HX.s<|HX.s<|HX.s<|HX.s<|HX.s<|HX.s<|HX.s<|HX.s<|HX.s<|HX.s<|HX.s<|HX.s<|HX.s<|HX.s<|HX.s<|HX.h rfl<|HO.alloc (C := #[_,_,_,_]) Z141 rfl fun b7 => ⟨fun _ hw => hw.sel [1,2,3,4] rfl, HX.h0<|HO.st 0 (vs := [_,_,_,_]) (C' := [_,_,_,_]) (L' := [_,_,_,_,_]) N141 rfl rfl rfl rfl rfl rfl rfl rfl<|⟨fun _ hw => hw.sel [1,2,3,4] rfl, HX.nil ?_⟩⟩)
  refine VE.seqN ?_
  refine VC.seq ?_
  refine VC.seq ?_
  refine VC.reg (VO.l (LO.as (.r rfl)) rfl<|VO.nil ?_)
  refine VE.seqN ?_
  refine VC.block ?_
  refine VC.loopK (α := Nat × (List Span) × (Option Addr) × Nat) 1 (fun gx => [(8, .int .i64 (gx.1 : Nat))]) [(3,_), (4,_), (5,_), (6,_), (7,_)] (fun gx => [own 25 2 gx.2.2.1 gx.2.2.2 (gx.2.1.map spanC), blk b7 (.cells #[.string (nmT (msgK rds b).1), .int .i64 (msgK rds b).2.1, .int .i64 (msgK rds b).2.2, .slice gx.2.2.1 gx.2.1.length gx.2.2.2] 141)]) (fun gx => gx.1 ≤ W * H ∧ gx.2.1 = msgV x.rn b gx.1) (fun gx => W * H - gx.1) (0, [], none, 0) (by exact ⟨Nat.zero_le _, rfl⟩) (.cons rfl (.cons rfl (.cons rfl (.cons rfl (.cons rfl (.cons rfl .nil)))))) (fun _ h => (h.ownNil 25 2)) ?_
  rintro ⟨i, o, po, co⟩ ⟨hi, ho⟩
  show VC _ _ _ _ _ ([(8, .int .i64 (i : Nat))] ++ _) ([own 25 2 po co (o.map spanC), blk b7 (.cells #[.string (nmT (msgK rds b).1), .int .i64 (msgK rds b).2.1, .int .i64 (msgK rds b).2.2, .slice po o.length co] 141)] ++ _) _ _
  dsimp only at hi ho
  have hol : o.length = i := by rw [ho, msg_len]
  refine VC.seq ?_
  refine VC.seq ?_
  refine VC.reg (VO.l (LO.mv (.r rfl)) rfl<|VO.l (LO.fa (r := 0) F131_0 (.r rfl) rfl) rfl<|VO.l (LO.fa (r := 3) F88_3 (.r rfl) rfl) rfl<|VO.l (LO.ld O3 (.r rfl) (fun _ hw => cells_at hw 4 rfl ⟨_, rfl⟩)) rfl<|VO.l (LO.fa (r := 0) F131_0 (.r rfl) rfl) rfl<|VO.l (LO.fa (r := 4) F88_4 (.r rfl) rfl) rfl<|VO.l (LO.ld O3 (.r rfl) (fun _ hw => cells_at hw 4 rfl ⟨_, rfl⟩)) rfl<|VO.l (LO.mul (.r rfl) (.r rfl) (wi (by omega) (by omega))) rfl<|VO.l (LO.lt (.r rfl) (.r rfl)) rfl<|VO.nil ?_)
  refine VE.seqN ?_
  refine VC.cond rfl (fun h42 => ?_) (fun h42 => ?_)
  ·
    have hrb := rain_bd hx i
    refine VC.skip (VE.seqN ?_)
    refine VC.seq ?_
    refine VC.block ?_
    refine VC.seq ?_
    refine VC.reg (VO.l (LO.lda (vs := [_,_,_,_,_,_,_,_]) A128 (.r rfl) (fun _ hw => cells_at hw 5 rfl ⟨_, rfl⟩) rfl) rfl<|VO.l (LO.mv (.r rfl)) rfl<|VO.l (LO.call (xs := [_,_]) (vs := [_,_]) C44 ⟨(.r rfl), (.r rfl), trivial⟩ (fun w hw => rain_c x p i (by omega) hx w (hM.keep hw))) rfl<|VO.l (LO.as (.r rfl)) rfl<|VO.nil ?_)
    refine VE.seqN ?_
    refine VC.reg (VO.l (LO.fa (r := 3) F141_1 (.r rfl) rfl) rfl<|VO.l (LO.ld O45 (.r rfl) (fun _ hw => cells_at hw 1 rfl ⟨_, rfl⟩)) rfl<|VO.l (LO.mv (.r rfl)) rfl<|VO.l (LO.ixa (j := 3) (r := 3) Tryz.underlying143 N5 (.r rfl) (.r rfl) rfl (by decide) rfl) rfl<|VO.l (LO.ld O5 (.r rfl) (fun _ hw => cells_at hw 3 rfl ⟨_, rfl⟩)) rfl<|VO.l (LO.cv ⟨_, Tryz.underlying5⟩ Tryz.underlying3 (.r rfl) (wi (by omega) (by omega))) rfl<|VO.l (LO.sub (.r rfl) (.r rfl) (wi (by omega) (by omega))) rfl<|VO.l (LO.max (.r rfl) (.r rfl)) rfl<|VO.l (LO.mv (.r rfl)) rfl<|VO.l (LO.ixa (j := 4) (r := 4) Tryz.underlying143 N5 (.r rfl) (.r rfl) rfl (by decide) rfl) rfl<|VO.l (LO.ld O5 (.r rfl) (fun _ hw => cells_at hw 3 rfl ⟨_, rfl⟩)) rfl<|VO.l (LO.cv ⟨_, Tryz.underlying5⟩ Tryz.underlying3 (.r rfl) (wi (by omega) (by omega))) rfl<|VO.l (LO.add (.r rfl) (.r rfl) (wi (by omega) (by omega))) rfl<|VO.l (LO.bd (ps := [(_,_), (_,_)]) (vs := [(_,_), (_,_)]) (C := [_,_]) B25  ⟨(.r rfl), (.r rfl), trivial⟩ rfl ⟨_, [_], [_,_], rfl, rfl, rfl, rfl, ⟨_, [_], [_,_], rfl, rfl, rfl, rfl, rfl⟩⟩) rfl<|VO.h rfl<|HO.bs (ps := [(_,_)]) (vs := [(_,_)]) (Z := [_,_]) (C := [_,_]) S45 Z25 N25 ⟨(.r rfl), trivial⟩ rfl rfl rfl rfl ⟨_, [_,_], [_,_], rfl, rfl, rfl, rfl, rfl⟩ fun b11 => VO.h rfl<|HO.appT ((msgS x.rn b i)) 1 0 (fun R => [_, R,_,_,_,_,_]) S45 S45 I25 (.r rfl) (.r rfl) rfl rfl rfl rfl rfl rfl rfl (fun _ => rfl) rfl (by omega) fun p15 c15 => VO.l (LO.fa (r := 3) F141_1 (.r rfl) rfl) rfl<|VO.h0<|HO.st 2 (vs := [_]) (C' := [_,_,_,_]) (L' := [_,_,_,_,_,_,_]) N45 rfl rfl rfl rfl rfl rfl rfl rfl<|VO.nil ?_)
    refine VE.inN (VE.seqN ?_)
    refine VC.reg (VO.l (LO.mv (.r rfl)) rfl<|VO.l (LO.add (.r rfl) (.r rfl) (wi (by omega) (by omega))) rfl<|VO.l (LO.as (.r rfl)) rfl<|VO.nil ?_)
    refine VE.thenN fun a w ha hw => ⟨(i + 1, o ++ [msgS x.rn b i], p15, c15), ⟨by dsimp only; omega, by dsimp only; rw [ho, msg_next]⟩, (by dsimp only; omega), ha.sub (.cons rfl (.cons rfl (.cons rfl (.cons rfl (.cons rfl (.cons rfl .nil)))))), hw.sel [1,2,3,4,5,6] rfl⟩
  ·
    have hie : i = W * H := by omega
    refine VC.exit (VE.thenX (VE.thenX (VE.inX (VE.seqN ?_))))
    refine VC.seq ?_
    refine VC.reg (VO.l (LO.lda (vs := [_,_,_,_]) A141 (.r rfl) (fun _ hw => cells_at hw 1 rfl ⟨_, rfl⟩) rfl) rfl<|VO.h0<|HO.st 2 (vs := [_,_,_,_]) (C' := [_,_,_,_]) (L' := [_,_,_,_,_,_]) N141 rfl rfl rfl rfl rfl rfl rfl rfl<|VO.nil ?_)
    refine VE.seqN ?_
    refine VC.ret (VE.res (vs := [_]) rfl ⟨RV.agg (vs := [_,_,_,_]) A141 rfl (cells_blk 2 rfl ⟨_, rfl⟩) rfl, trivial⟩ (fun w hw => ?_))
    subst ho
    rw [hie] at hw
    exact ⟨(po, co), trivial, by simp only [resV]; rw [hie], hw.sel [0] rfl⟩

end Go.Proofs.YtffbohecdocajaaGreat

namespace Go.Proofs.YtffbohecdocajaaGreat
open Go.SL Go.Proofs Go.Pulse
set_option linter.unusedVariables false

theorem F270_1 : FieldAt Tryz.prog 270 1 8 := ⟨_,_, Tryz.underlying270, rfl, rfl, 1, by kernel_rfl⟩
theorem C90 : IsFn Tryz.prog 90 := ⟨_, Tryz.func90, by decide, rfl⟩
theorem C91 : IsFn Tryz.prog 91 := ⟨_, Tryz.func91, by decide, rfl⟩
theorem B277 : Builds Tryz.prog 277 [(0,9), (9,1), (10,1), (11,1), (12,1), (13,1)] [.int .i64 0, .int .i64 0, .int .i64 0, .int .i64 0, .int .i64 0, .int .i64 0, .int .i64 0, .slice none 0 0, .int .i64 0, .map none, .int .i64 0, .map none, .int .i64 0, .map none] := Builds.mk fun _ => by kernel_rfl


theorem map370 : IsMapG Tryz.prog 370 nmV Value.bool false := ⟨_,_, Tryz.underlying370, key9, by unfold ZeroOf; kernel_rfl⟩
/-- The radars that a node is told. -/
structure RdL (rds : List RdM) : Prop where
  n : 1 ≤ rds.length ∧ rds.length ≤ 3
  r : ∀ i x, rds[i]? = some x → x.r = fin3 i ∧ RdOk x
def snN (i : Nat) : Fin 3 → Option Bool := fun r => if r.val < i then some true else none
def rdR (rds : List RdM) (i : Nat) : Fin 3 → Option (Option RdM) := fun r => if r.val < i then some (some (rds.getD r.val zRd)) else none
theorem fin3_val {i : Nat} (h : i < 3) : (fin3 i).val = i := Nat.mod_eq_of_lt h
theorem snN_next {i : Nat} (h : i < 3) : updG (snN i) (fin3 i) true = snN (i + 1) := funext fun r => by
  unfold updG snN
  have hv := fin3_val h
  by_cases q : r = fin3 i
  · rw [if_pos q, if_pos (by rw [q, hv]; omega)]
  · rw [if_neg q]
    have : r.val ≠ i := fun z => q (Fin.ext (by rw [hv]; exact z))
    by_cases z : r.val < i
    · rw [if_pos z, if_pos (by omega)]
    · rw [if_neg z, if_neg (by omega)]
theorem snN_at {i : Nat} (h : i < 3) : snN i (fin3 i) = none := by unfold snN; rw [fin3_val h, if_neg (Nat.lt_irrefl _)]
theorem snN_0 : snN 0 = fun _ => none := funext fun r => if_neg (Nat.not_lt_zero _)
theorem rdR_next {rds : List RdM} {i : Nat} {x : RdM} (h : i < 3) (hx : rds[i]? = some x) : updG (rdR rds i) (fin3 i) (some x) = rdR rds (i + 1) := funext fun r => by
  unfold updG rdR
  have hv := fin3_val h
  have hg : rds.getD i zRd = x := by rw [List.getD_eq_getElem?_getD, hx]; rfl
  by_cases q : r = fin3 i
  · rw [if_pos q, if_pos (by rw [q, hv]; omega), q, hv, hg]
  · rw [if_neg q]
    have : r.val ≠ i := fun z => q (Fin.ext (by rw [hv]; exact z))
    by_cases z : r.val < i
    · rw [if_pos z, if_pos (by omega)]
    · rw [if_neg z, if_neg (by omega)]
theorem rdR_0 {rds : List RdM} : rdR rds 0 = fun _ => none := funext fun r => if_neg (Nat.not_lt_zero _)

set_option maxRecDepth 20000 in
set_option maxHeartbeats 1000000 in
theorem checkM_c (W H : Nat) (hW : 1 ≤ W ∧ W ≤ 6) (hH : 1 ≤ H ∧ H ≤ 6) (rds : List RdM) (ps : Option Addr) (cs : Nat) (hL : RdL rds) (w : World) (hR : RO 10 rdC w ps rds) :
  Calls Tryz.prog 90 #[.agg #[.int .i64 0, .int .i64 0, .int .i64 1000, .int .i64 (W : Nat), .int .i64 (H : Nat), .int .i64 8000000, .int .i64 9000000, .slice ps rds.length cs, .int .i64 600]] w fun e w' => e = .returned (.int .i64 0) ∧ St (bs w) [] w' := by
  have hn := hL.n
  refine enter (vs := [_]) (env := [(0,_)]) Tryz.func90 rfl rfl rfl rfl ?_
  refine VC.seq ?_
  refine VC.reg (VO.h rfl<|HO.box (C := #[_,_,_,_,_,_,_,_,_]) rfl rfl fun b1 => VO.l (LO.as (.r rfl)) rfl<|VO.nil ?_)
  refine VE.seqN ?_
  refine VC.seq ?_
  refine VC.seq ?_
  refine VC.reg (VO.l (LO.fa (r := 0) F131_0 (.r rfl) rfl) rfl<|VO.l (LO.lda (vs := [_,_,_,_,_]) A88 (.r rfl) (fun _ hw => cells_at hw 0 rfl ⟨_, rfl⟩) rfl) rfl<|VO.l (LO.call (xs := [_]) (vs := [_]) C83 ⟨(.r rfl), trivial⟩ (fun w _ => gridN_c W H hW hH w)) rfl<|VO.l (LO.as (.r rfl)) rfl<|VO.nil ?_)
  refine VE.seqN ?_
  refine VC.seq ?_
  refine VC.reg (VO.l (LO.mv (.r rfl)) rfl<|VO.l (LO.ne (.r rfl) (.r rfl)) rfl<|VO.nil ?_)
  refine VE.seqN ?_
  refine VC.cond rfl (fun h12 => ?_) (fun h12 => ?_)
  ·
    (exfalso; exact h12 rfl)
  ·
    refine VC.skip (VE.seqN ?_)
    refine VC.seq ?_
    refine VC.block ?_
    refine VC.seq ?_
    refine VC.reg (VO.l (LO.fa (r := 5) F131_1 (.r rfl) rfl) rfl<|VO.l (LO.lda (vs := [_,_]) A25 (.r rfl) (fun _ hw => cells_at hw 0 rfl ⟨_, rfl⟩) rfl) rfl<|VO.l (LO.call (xs := [_,_,_]) (vs := [_,_,_]) C161 ⟨(.r rfl), (.r rfl), (.r rfl), trivial⟩ (fun w _ => inside_t ⟨8000000,9000000⟩ 1000000 100000000 w (by decide))) rfl<|VO.l (LO.not (.r rfl)) rfl<|VO.l (LO.mv (.r rfl)) rfl<|VO.lg rfl rfl (GD.f _) (fun hg => LO.fa (r := 8) F131_3 (.r rfl) rfl) rfl<|VO.lg rfl rfl (GD.f _) (fun hg => LO.ld O3 (.g hg rfl) (fun _ hw => cells_at hw 0 rfl ⟨_, rfl⟩)) rfl<|VO.lg rfl rfl (GD.f _) (fun hg => LO.call (xs := [_,_,_]) (vs := [_,_,_]) C162 ⟨(.g hg rfl), (.r rfl), (.r rfl), trivial⟩ (fun w _ => within_t 600 1 86400 w (by decide))) rfl<|VO.lg rfl rfl (GD.f _) (fun hg => LO.not (.g hg rfl)) rfl<|VO.l (LO.pkO (.r rfl) (.r rfl) rfl rfl) rfl<|VO.l (LO.as (.r rfl)) rfl<|VO.nil ?_)
    refine VE.seqN ?_
    refine VC.cond rfl (fun h14 => ?_) (fun h14 => ?_)
    ·
      (exfalso; (simp at h14))
    ·
      refine VC.seq ?_
      refine VC.reg (VO.l (LO.fa (r := 7) F131_2 (.r rfl) rfl) rfl<|VO.l (LO.ld O129 (.r rfl) (fun _ hw => cells_at hw 0 rfl ⟨_, rfl⟩)) rfl<|VO.l (LO.len S129 (.r rfl) rfl) rfl<|VO.l (LO.eq (.r rfl) (.r rfl)) rfl<|VO.l (LO.as (.r rfl)) rfl<|VO.nil ?_)
      refine VE.seqN ?_
      refine VC.cond rfl (fun h25 => ?_) (fun h25 => ?_)
      ·
        (exfalso; omega)
      ·
        refine VC.seq ?_
        refine VC.reg (VO.l (LO.fa (r := 7) F131_2 (.r rfl) rfl) rfl<|VO.l (LO.ld O129 (.r rfl) (fun _ hw => cells_at hw 0 rfl ⟨_, rfl⟩)) rfl<|VO.l (LO.len S129 (.r rfl) rfl) rfl<|VO.l (LO.gt (.r rfl) (.r rfl)) rfl<|VO.l (LO.as (.r rfl)) rfl<|VO.nil ?_)
        refine VE.seqN ?_
        refine VC.cond rfl (fun h30 => ?_) (fun h30 => ?_)
        ·
          (exfalso; omega)
        ·
          refine VC.skip (VE.inN (VE.seqN ?_))
          refine VC.seq ?_
          refine VC.reg (VO.h rfl<|HO.mkmapG nmV Value.bool fun b2 => VO.h rfl<|HO.lo (LO.as (.r rfl))<|VO.nil ?_)
          refine VE.seqN ?_
          refine VC.seq ?_
          refine VC.seq ?_
          refine VC.reg (VO.l (LO.fa (r := 7) F131_2 (.r rfl) rfl) rfl<|VO.l (LO.ld O129 (.r rfl) (fun _ hw => cells_at hw 1 rfl ⟨_, rfl⟩)) rfl<|VO.l (LO.len S129 (.r rfl) rfl) rfl<|VO.l (LO.mv (.r rfl)) rfl<|VO.nil ?_)
          refine VE.seqN ?_
          refine VC.block ?_
          refine VC.loopK (α := Nat) 1 (fun gx => [(39, .int .i64 (gx : Nat))]) [(4,_), (37,_), (38,_)] (fun gx => [mapR nmV Value.bool b2 (snN gx)]) (fun gx => gx ≤ rds.length) (fun gx => rds.length - gx) 0 (by exact Nat.zero_le _) (.cons rfl (.cons rfl (.cons rfl (.cons rfl .nil)))) (fun _ h => by rw [snN_0]; exact h) ?_
          rintro i hi
          refine VC.seq ?_
          refine VC.reg (VO.l (LO.lt (.r rfl) (.r rfl)) rfl<|VO.nil ?_)
          refine VE.seqN ?_
          refine VC.seq ?_
          refine VC.cond rfl (fun h40 => ?_) (fun h40 => ?_)
          ·
            obtain ⟨x, hxi⟩ : ∃ x, rds[i]? = some x := ⟨_, List.getElem?_eq_getElem (by omega)⟩
            obtain ⟨hxr, hxo⟩ := hL.r i x hxi
            have hsE := hxo.site
            have hs0 : (snN i x.r).getD false = false := by rw [hxr, snN_at (by omega)]; rfl
            have hsn : updG (snN i) x.r true = snN (i + 1) := by rw [hxr]; exact snN_next (by omega)
            refine VC.skip (VE.seqN ?_)
            refine VC.seq ?_
            refine VC.block ?_
            refine VC.seq ?_
            refine VC.reg (VO.l (LO.ixs S129 N270 hR.sm (.r rfl) (.r rfl) rfl (by omega)) rfl<|VO.l (LO.lda (vs := [_,_,_,_,_,_,_,_,_,_]) A270 (.r rfl) (fun w hw => cells_part (off := 0) ((fun w2 hw2 => (hR.keep w2 hw2).cells _ _ (by rw [List.getElem?_map, hxi]; rfl)) w hw) ⟨_, rfl⟩) rfl) rfl<|VO.h rfl<|HO.alloc (C := #[_,_,_,_,_,_,_,_,_,_]) Z270 rfl fun b3 => VO.h0<|HO.st 0 (vs := [_,_,_,_,_,_,_,_,_,_]) (C' := [_,_,_,_,_,_,_,_,_,_]) (L' := [_,_,_]) N270 rfl rfl rfl rfl rfl rfl rfl rfl<|VO.nil ?_)
            refine VE.seqN ?_
            refine VC.seq ?_
            refine VC.seq ?_
            refine VC.reg (VO.l (LO.fa (r := 0) F270_0 (.r rfl) rfl) rfl<|VO.l (LO.lda (vs := [_,_,_,_,_,_,_,_]) A59 (.r rfl) (fun _ hw => cells_at hw 0 rfl ⟨_, rfl⟩) rfl) rfl<|VO.l (LO.call (xs := [_]) (vs := [_]) C53 ⟨(.r rfl), trivial⟩ (fun w _ => CheckSite_c ⟨nmT x.r, x.x, x.y, x.z, 2, x.g, 1000,0⟩ w)) rfl<|VO.l (LO.as (.r rfl)) rfl<|VO.nil ?_)
            refine VE.seqN ?_
            refine VC.seq ?_
            refine VC.reg (VO.l (LO.mv (.r rfl)) rfl<|VO.l (LO.ne (.r rfl) (.r rfl)) rfl<|VO.nil ?_)
            refine VE.seqN ?_
            refine VC.cond rfl (fun h47 => ?_) (fun h47 => ?_)
            ·
              (exfalso; exact h47 hsE)
            ·
              refine VC.skip (VE.seqN ?_)
              refine VC.seq ?_
              refine VC.block ?_
              refine VC.seq ?_
              refine VC.reg (VO.l (LO.mv (.r rfl)) rfl<|VO.l (LO.fa (r := 0) F270_0 (.r rfl) rfl) rfl<|VO.l (LO.fa (r := 0) F59_0 (.r rfl) rfl) rfl<|VO.l (LO.ld O9 (.r rfl) (fun _ hw => cells_at hw 0 rfl ⟨_, rfl⟩)) rfl<|VO.l (LO.lkG1 (n := x.r) map370 (.r rfl) (.r rfl) (fun w hw => St.inv hw 1 _ rfl)) rfl<|VO.l (LO.as (.r rfl)) rfl<|VO.nil ?_)
              refine VE.seqN ?_
              refine VC.cond rfl (fun h49 => ?_) (fun h49 => ?_)
              ·
                (exfalso; (rw [hs0] at h49; cases h49))
              ·
                refine VC.seq ?_
                refine VC.reg (VO.l (LO.fa (r := 8) F270_1 (.r rfl) rfl) rfl<|VO.l (LO.lda (vs := [_,_]) A25 (.r rfl) (fun _ hw => cells_at hw 0 rfl ⟨_, rfl⟩) rfl) rfl<|VO.l (LO.call (xs := [_,_,_]) (vs := [_,_,_]) C161 ⟨(.r rfl), (.r rfl), (.r rfl), trivial⟩ (fun w _ => inside_t ⟨0,0⟩ (-3600) 3600 w (by decide))) rfl<|VO.l (LO.not (.r rfl)) rfl<|VO.l (LO.as (.r rfl)) rfl<|VO.nil ?_)
                refine VE.seqN ?_
                refine VC.cond rfl (fun h55 => ?_) (fun h55 => ?_)
                ·
                  (exfalso; (simp at h55))
                ·
                  refine VC.skip (VE.inN (VE.seqN ?_))
                  refine VC.reg (VO.l (LO.mv (.r rfl)) rfl<|VO.l (LO.fa (r := 0) F270_0 (.r rfl) rfl) rfl<|VO.l (LO.fa (r := 0) F59_0 (.r rfl) rfl) rfl<|VO.l (LO.ld O9 (.r rfl) (fun _ hw => cells_at hw 0 rfl ⟨_, rfl⟩)) rfl<|VO.h0<|HO.mupG 1 (fun R => [_, R,_]) (x.r) true map370 (.r rfl) (.r rfl) (.r rfl) rfl (fun _ => rfl)<|VO.nil ?_)
                  refine VE.inN (VE.seqN ?_)
                  refine VC.reg (VO.l (LO.add (.r rfl) (.r rfl) (wi (by omega) (by omega))) rfl<|VO.l (LO.mv (.r rfl)) rfl<|VO.nil ?_)
                  refine VE.thenN fun a w ha hw => ⟨i + 1, (by omega), (by omega), ha.sub (.cons rfl (.cons rfl (.cons rfl (.cons rfl .nil)))), (hsn ▸ hw.sel [1,2] rfl)⟩
          ·
            refine VC.exit (VE.thenX (VE.thenX (VE.inX (VE.seqN ?_))))
            refine VC.seq ?_
            refine VC.reg (VO.l (LO.as (.r rfl)) rfl<|VO.nil ?_)
            refine VE.seqN ?_
            refine VC.ret (VE.res (vs := [_]) rfl ⟨rfl, trivial⟩ (fun w hw => ?_))
            exact ⟨rfl, hw.nil⟩

set_option maxRecDepth 20000 in
set_option maxHeartbeats 2000000 in
theorem New_c (W H : Nat) (hW : 1 ≤ W ∧ W ≤ 6) (hH : 1 ≤ H ∧ H ≤ 6) (rds : List RdM) (ps : Option Addr) (cs : Nat) (hL : RdL rds) (w : World) (hR : RO 10 rdC w ps rds) :
  Calls Tryz.prog 35 #[.agg #[.int .i64 0, .int .i64 0, .int .i64 1000, .int .i64 (W : Nat), .int .i64 (H : Nat), .int .i64 8000000, .int .i64 9000000, .slice ps rds.length cs, .int .i64 600]] w fun e w' => ∃ y : Nat × NdQ, (y.2.w = W ∧ y.2.h = H ∧ y.2.nr = rds.length) ∧ e = .returned (.tuple #[.pointer (some ⟨y.1,0, none⟩), .int .i64 0]) ∧ St (bs w) [ndB y.1 y.2 0, own 270 10 y.2.pr y.2.cr (rds.map rdC), mapR nmV rdV y.2.rm (rdR rds rds.length), mapR keyV tV y.2.km (fun _ => none), mapR wV lkV y.2.lm (fun _ => none)] w' := by
  have hn := hL.n
  refine enter (vs := [_]) (env := [(0,_)]) Tryz.func35 rfl rfl rfl rfl ?_
  refine VC.seq ?_
  refine VC.reg (VO.h rfl<|HO.box (C := #[_,_,_,_,_,_,_,_,_]) rfl rfl fun b1 => VO.l (LO.as (.r rfl)) rfl<|VO.l (LO.as (.r rfl)) rfl<|VO.nil ?_)
  refine VE.seqN ?_
  refine VC.seq ?_
  refine VC.seq ?_
  refine VC.reg (VO.l (LO.lda (vs := [_,_,_,_,_,_,_,_,_]) A131 (.r rfl) (fun _ hw => cells_at hw 0 rfl ⟨_, rfl⟩) rfl) rfl<|VO.l (LO.call (xs := [_]) (vs := [_]) C90 ⟨(.r rfl), trivial⟩ (fun w hw => checkM_c W H hW hH rds ps cs hL w (hR.keep w hw))) rfl<|VO.l (LO.as (.r rfl)) rfl<|VO.nil ?_)
  refine VE.seqN ?_
  refine VC.seq ?_
  refine VC.reg (VO.l (LO.mv (.r rfl)) rfl<|VO.l (LO.ne (.r rfl) (.r rfl)) rfl<|VO.nil ?_)
  refine VE.seqN ?_
  refine VC.cond rfl (fun h11 => ?_) (fun h11 => ?_)
  ·
    (exfalso; exact h11 rfl)
  ·
    refine VC.skip (VE.seqN ?_)
    refine VC.seq ?_
    refine VC.reg (VO.l (LO.fa (r := 7) F131_2 (.r rfl) rfl) rfl<|VO.l (LO.ld O129 (.r rfl) (fun _ hw => cells_at hw 0 rfl ⟨_, rfl⟩)) rfl<|VO.h rfl<|HO.callx (xs := [_]) (vs := [_]) C91 ⟨(.r rfl), trivial⟩ (fun w hw => CloneRd_c rds ps cs w (by omega) (hR.keep w hw)) fun yc _ => VO.l (LO.fa (r := 7) F131_2 (.r rfl) rfl) rfl<|VO.h0<|HO.st 1 (vs := [_]) (C' := [_,_,_,_,_,_,_,_,_]) (L' := [_,_]) N129 rfl rfl rfl rfl rfl rfl rfl rfl<|VO.nil ?_)
    refine VE.seqN ?_
    refine VC.seq ?_
    refine VC.reg (VO.l (LO.lda (vs := [_,_,_,_,_,_,_,_,_]) A131 (.r rfl) (fun _ hw => cells_at hw 1 rfl ⟨_, rfl⟩) rfl) rfl<|VO.h rfl<|HO.mkmapG nmV rdV fun b4 => VO.h rfl<|HO.mkmapG keyV tV fun b5 => VO.h rfl<|HO.mkmapG wV lkV fun b6 => VO.h rfl<|HO.lo (LO.bd (ps := [(_,_), (_,_), (_,_), (_,_)]) (vs := [(_,_), (_,_), (_,_), (_,_)]) (C := [_,_,_,_,_,_,_,_,_,_,_,_,_,_]) B277  ⟨(.r rfl), (.r rfl), (.r rfl), (.r rfl), trivial⟩ rfl ⟨_, [_,_,_,_,_,_,_,_,_], [_,_,_,_,_,_,_,_,_,_,_,_,_,_], rfl, rfl, rfl, rfl, ⟨_, [_], [_,_,_,_,_,_,_,_,_,_,_,_,_,_], rfl, rfl, rfl, rfl, ⟨_, [_], [_,_,_,_,_,_,_,_,_,_,_,_,_,_], rfl, rfl, rfl, rfl, ⟨_, [_], [_,_,_,_,_,_,_,_,_,_,_,_,_,_], rfl, rfl, rfl, rfl, rfl⟩⟩⟩⟩)<|VO.h rfl<|HO.box (C := #[_,_,_,_,_,_,_,_,_,_,_,_,_,_]) rfl rfl fun b7 => VO.h rfl<|HO.lo (LO.as (.r rfl))<|VO.nil ?_)
    refine VE.seqN ?_
    refine VC.seq ?_
    refine VC.seq ?_
    refine VC.reg (VO.l (LO.fa (r := 7) F131_2 (.r rfl) rfl) rfl<|VO.l (LO.ld O129 (.r rfl) (fun _ hw => cells_at hw 5 rfl ⟨_, rfl⟩)) rfl<|VO.l (LO.len S129 (.r rfl) rfl) rfl<|VO.l (LO.mv (.r rfl)) rfl<|VO.nil ?_)
    refine VE.seqN ?_
    refine VC.block ?_
    refine VC.perm [3,0,1,2,4,5] rfl ?_
    refine VC.loopK (α := Nat) 1 (fun gx => [(26, .int .i64 (gx : Nat))]) [(5,_), (24,_), (25,_)] (fun gx => [mapR nmV rdV b4 (rdR rds gx)]) (fun gx => gx ≤ rds.length) (fun gx => rds.length - gx) 0 (by exact Nat.zero_le _) (.cons rfl (.cons rfl (.cons rfl (.cons rfl .nil)))) (fun _ h => by rw [rdR_0]; exact h) ?_
    rintro i hi
    refine VC.seq ?_
    refine VC.reg (VO.l (LO.lt (.r rfl) (.r rfl)) rfl<|VO.nil ?_)
    refine VE.seqN ?_
    refine VC.seq ?_
    refine VC.cond rfl (fun h27 => ?_) (fun h27 => ?_)
    ·
      obtain ⟨x, hxi⟩ : ∃ x, rds[i]? = some x := ⟨_, List.getElem?_eq_getElem (by omega)⟩
      obtain ⟨hxr, hxo⟩ := hL.r i x hxi
      have hsn : updG (rdR rds i) x.r (some x) = rdR rds (i + 1) := by rw [hxr]; exact rdR_next (by omega) hxi
      refine VC.skip (VE.seqN ?_)
      refine VC.seq ?_
      refine VC.block ?_
      refine VC.seq ?_
      refine VC.reg (VO.l (LO.ixo S129 N270 (fun _ hw => (own_rows hw 4 rfl).some (by rw [List.length_map])) (.r rfl) (.r rfl) rfl (by omega)) rfl<|VO.l (LO.lda (vs := [_,_,_,_,_,_,_,_,_,_]) A270 (.r rfl) (fun w hw => cells_part (off := 0) (own_cell hw 4 rfl hxi) ⟨_, rfl⟩) rfl) rfl<|VO.h rfl<|HO.alloc (C := #[_,_,_,_,_,_,_,_,_,_]) Z270 rfl fun b8 => VO.h0<|HO.st 0 (vs := [_,_,_,_,_,_,_,_,_,_]) (C' := [_,_,_,_,_,_,_,_,_,_]) (L' := [_,_,_,_,_,_,_]) N270 rfl rfl rfl rfl rfl rfl rfl rfl<|VO.nil ?_)
      refine VE.seqN ?_
      refine VC.drawH [[0,1,2,3,4,5,6], [0,2,3,4,5,6]] [some 0, some 0, some 0, some 0, some 0, some 0, some 0, some 0, none] mixed (by kernel_rfl) rfl (LX.l (fun _ hJ => LO.mv (.r rfl)) rfl<|LX.l (fun _ hJ => LO.nc (.r rfl)) rfl<|LX.l (fun _ hJ => LO.fa (r := 9) F277_1 (.r rfl) rfl) rfl<|LX.l (fun _ hJ => LO.ld O273 (.r rfl) (fun _ hw => cells_at (hJ _ hw) 2 rfl ⟨_, rfl⟩)) rfl<|LX.l (fun _ hJ => LO.fa (r := 0) F270_0 (.r rfl) rfl) rfl<|LX.l (fun _ hJ => LO.fa (r := 0) F59_0 (.r rfl) rfl) rfl<|LX.l (fun _ hJ => LO.ld O9 (.r rfl) (fun _ hw => cells_at (hJ _ hw) 0 rfl ⟨_, rfl⟩)) rfl<|LX.l (fun _ hJ => LO.lda (vs := [_,_,_,_,_,_,_,_,_,_]) A270 (.r rfl) (fun _ hw => cells_at (hJ _ hw) 0 rfl ⟨_, rfl⟩) rfl) rfl<|LX.s<|LX.nil) (HX.s<|HX.s<|HX.s<|HX.s<|HX.s<|HX.s<|HX.s<|HX.s<|HX.h0<|HO.mupG 1 (fun R => [_, R,_,_,_,_,_]) (x.r) (some x) map273 (.r rfl) (.r rfl) (.r rfl) rfl (fun _ => rfl)<|⟨fun _ hw => hw.sel [0,2,3,4,5,6] rfl, HX.nil ?_⟩)
      refine VE.inN (VE.seqN ?_)
      refine VC.reg (VO.l (LO.add (.r rfl) (.r rfl) (wi (by omega) (by omega))) rfl<|VO.l (LO.mv (.r rfl)) rfl<|VO.nil ?_)
      refine VE.thenN fun a w ha hw => ⟨i + 1, (by omega), (by omega), ha.sub (.cons rfl (.cons rfl (.cons rfl (.cons rfl .nil)))), (hsn ▸ hw.sel [1,2,3,4,5,6] rfl)⟩
    ·
      have hie : i = rds.length := by omega
      refine VC.exit (VE.thenX (VE.thenX (VE.inX (VE.seqN ?_))))
      refine VC.seq ?_
      refine VC.reg (VO.l (LO.mv (.r rfl)) rfl<|VO.l (LO.as (.r rfl)) rfl<|VO.l (LO.as (.r rfl)) rfl<|VO.nil ?_)
      refine VE.seqN ?_
      refine VC.ret (VE.res (vs := [_,_]) rfl ⟨rfl, rfl, trivial⟩ (fun w hw => ?_))
      rw [hie] at hw
      exact ⟨(b7, (⟨W, H, rds.length, yc.1, yc.2, b4, b5, b6⟩ : NdQ)), ⟨rfl, rfl, rfl⟩, rfl, hw.sel [1,4,0,3,2] rfl⟩

end Go.Proofs.YtffbohecdocajaaGreat

namespace Go.Proofs.YtffbohecdocajaaGreat
open Go.SL Go.Proofs Go.Pulse
set_option linter.unusedVariables false

theorem S31 : IsSlice Tryz.prog 31 5 := Tryz.underlying31
theorem Z5 : ZeroOf Tryz.prog 5 (.int .u8 0) := by unfold ZeroOf; kernel_rfl
theorem I5 : EInfo Tryz.prog 5 1 1 (.int .u8 0) := ⟨by kernel_rfl, by kernel_rfl, by unfold ZeroOf; kernel_rfl, rfl, by decide⟩


/-- A number, seven bits at a time. -/
def numF : Nat → Int → List Int
  | 0,_ => []
  | k + 1, n => if n < 128 then [n] else (n.tmod 128 + 128) :: numF k (n.tdiv 128)
theorem num_y {k : Nat} {n : Int} (h : n < 128) : numF (k + 1) n = [n] := if_pos h
theorem num_n {k : Nat} {n : Int} (h : ¬ n < 128) : numF (k + 1) n = (n.tmod 128 + 128) :: numF k (n.tdiv 128) := if_neg h
theorem num_step {k : Nat} {n : Int} (h0 : 128 ≤ n) (h : n < 128 ^ (k + 1)) : ∃ m, k = m + 1 ∧ 0 ≤ n.tdiv 128 ∧ n.tdiv 128 < 128 ^ (m + 1) ∧ 0 ≤ n.tmod 128 ∧ n.tmod 128 < 128 ∧ n.tdiv 128 ≤ n := by
  cases k with
  | zero => simp at h; omega
  | succ m =>
    refine ⟨m, rfl, Int.tdiv_nonneg (by omega) (by decide), ?_, Int.tmod_nonneg _ (by omega), Int.tmod_lt_of_pos _ (by decide), by rw [Int.tdiv_eq_ediv_of_nonneg (by omega)]; exact Int.ediv_le_self _ (by omega)⟩
    rw [Int.tdiv_eq_ediv_of_nonneg (by omega)]
    refine Int.ediv_lt_of_lt_mul (by decide) ?_
    rw [Int.pow_succ] at h; exact h
theorem wb {m : Int} (h0 : 0 ≤ m) (h1 : m < 256) : IntKind.u8.wrap m = m := by simp [IntKind.wrap, IntKind.bits, IntKind.signed]; omega
theorem num_len : ∀ (k : Nat) (n : Int), (numF k n).length ≤ k
  | 0,_ => Nat.le_refl _
  | k + 1, n => by
    unfold numF
    split
    · simp
    · rw [List.length_cons]; have := num_len k (n.tdiv 128); omega

set_option maxRecDepth 20000 in
set_option maxHeartbeats 1000000 in
theorem number_c (l : List Int) (p : Option Addr) (cap : Nat) (n0 : Int) (hn0 : 0 ≤ n0) (hn9 : n0 < 34359738368) (hl : l.length < 1000000000) (w : World) (hh : Has w [own 5 1 p cap (l.map byC)]) :
  Calls Tryz.prog 107 #[.slice p l.length cap, .int .i64 n0] w fun e w' => ∃ y : Option Addr × Nat, True ∧ e = .returned (.slice y.1 (l ++ numF 5 n0).length y.2) ∧ St ⟨w, fpL [own 5 1 p cap (l.map byC)]⟩ [own 5 1 y.1 y.2 ((l ++ numF 5 n0).map byC)] w' := by
  refine enterO (vs := [_,_]) (env := [(0,_), (1,_)]) hh.enter Tryz.func107 rfl rfl rfl rfl ?_
  refine VC.seq ?_
  refine VC.reg (VO.l (LO.as (.r rfl)) rfl<|VO.nil ?_)
  refine VE.seqN ?_
  refine VC.seq ?_
  refine VC.block ?_
  refine VC.loopK (α := Int × Nat × (List Int) × Nat × (Option Addr) × Nat) 1 (fun gx => [(0, .slice gx.2.2.2.2.1 gx.2.2.2.1 gx.2.2.2.2.2), (1, .int .i64 gx.1)]) [] (fun gx => [own 5 1 gx.2.2.2.2.1 gx.2.2.2.2.2 (gx.2.2.1.map byC)]) (fun gx => (((0 ≤ gx.1 ∧ gx.1 < 34359738368) ∧ gx.1 < 128 ^ (gx.2.1 + 1)) ∧ gx.2.2.2.1 = gx.2.2.1.length ∧ gx.2.2.1.length + gx.2.1 ≤ l.length + 4) ∧ gx.2.2.1 ++ numF (gx.2.1 + 1) gx.1 = l ++ numF 5 n0) (fun gx => gx.2.1) (n0,4, l, l.length, p, cap) (by exact ⟨⟨⟨⟨hn0, hn9⟩, by dsimp only; omega⟩, rfl, Nat.le_refl _⟩, rfl⟩) (.cons rfl (.cons rfl .nil)) (fun _ h => h) ?_
  rintro ⟨n, k, o, no, po, co⟩ ⟨⟨⟨⟨hn1, hnx⟩, hn2⟩, hno, hol⟩, hoe⟩
  show VC _ _ _ _ _ ([(0, .slice po no co), (1, .int .i64 n)] ++ _) ([own 5 1 po co (o.map byC)] ++ _) _ _
  dsimp only at hn1 hnx hn2 hno hol hoe
  refine VC.seq ?_
  refine VC.seq ?_
  refine VC.reg (VO.l (LO.mv (.r rfl)) rfl<|VO.l (LO.ge (.r rfl) (.r rfl)) rfl<|VO.nil ?_)
  refine VE.seqN ?_
  refine VC.cond rfl (fun h6 => ?_) (fun h6 => ?_)
  ·
    obtain ⟨m, rfl, hm1, hm2, hm3, hm4, hm5⟩ := num_step (by omega) hn2
    refine VC.skip (VE.seqN ?_)
    refine VC.seq ?_
    refine VC.block ?_
    refine VC.reg (VO.l (LO.mv (.r rfl)) rfl<|VO.l (LO.mv (.r rfl)) rfl<|VO.l (LO.rem (.r rfl) (.r rfl) (by omega)) rfl<|VO.l (LO.add (.r rfl) (.r rfl) (wi (by omega) (by omega))) rfl<|VO.l (LO.cv ⟨_, Tryz.underlying3⟩ Tryz.underlying5 (.r rfl) (wb (by omega) (by omega))) rfl<|VO.h rfl<|HO.bs (ps := [(_,_)]) (vs := [(_,_)]) (Z := [_]) (C := [_]) S31 Z5 N5 ⟨(.r rfl), trivial⟩ rfl rfl rfl rfl ⟨_, [_], [_], rfl, rfl, rfl, rfl, rfl⟩ fun b2 => VO.h rfl<|HO.appT ((n.tmod 128 + 128)) 1 0 (fun R => [_, R]) S31 S31 I5 (.r rfl) (.r rfl) rfl rfl rfl rfl rfl rfl rfl (fun _ => rfl) (by omega) (by omega) fun p6 c6 => VO.h rfl<|HO.lo (LO.as (.r rfl))<|VO.nil ?_)
    refine VE.inN (VE.seqN ?_)
    refine VC.reg (VO.l (LO.mv (.r rfl)) rfl<|VO.l (LO.quo (.r rfl) (.r rfl) (by omega) (wi (by omega) (by omega))) rfl<|VO.l (LO.as (.r rfl)) rfl<|VO.nil ?_)
    refine VE.thenN fun a w ha hw => ⟨(n.tdiv 128, m, o ++ [n.tmod 128 + 128], (o ++ [n.tmod 128 + 128]).length, p6, c6), ⟨⟨⟨⟨hm1, by dsimp only; omega⟩, hm2⟩, rfl, by dsimp only; rw [List.length_append]; show _ + 1 + _ ≤ _; omega⟩, by dsimp only; rw [List.append_assoc]; show o ++ (_ :: numF (m + 1) _) = _; rw [← num_n (by omega)]; exact hoe⟩, (by dsimp only; omega), ha.sub (.cons rfl (.cons rfl .nil)), hw.sel [1] rfl⟩
  ·
    rw [num_y (by omega)] at hoe
    refine VC.exit (VE.thenX (VE.thenX (VE.inX (VE.seqN ?_))))
    refine VC.seq ?_
    refine VC.reg (VO.l (LO.mv (.r rfl)) rfl<|VO.l (LO.mv (.r rfl)) rfl<|VO.l (LO.cv ⟨_, Tryz.underlying3⟩ Tryz.underlying5 (.r rfl) (wb (by omega) (by omega))) rfl<|VO.h rfl<|HO.bs (ps := [(_,_)]) (vs := [(_,_)]) (Z := [_]) (C := [_]) S31 Z5 N5 ⟨(.r rfl), trivial⟩ rfl rfl rfl rfl ⟨_, [_], [_], rfl, rfl, rfl, rfl, rfl⟩ fun b3 => VO.h rfl<|HO.appT (n) 1 0 (fun R => [_, R]) S31 S31 I5 (.r rfl) (.r rfl) rfl rfl rfl rfl rfl rfl rfl (fun _ => rfl) (by omega) (by omega) fun p4 c4 => VO.h rfl<|HO.lo (LO.as (.r rfl))<|VO.nil ?_)
    refine VE.seqN ?_
    refine VC.ret (VE.res (vs := [_]) rfl ⟨rfl, trivial⟩ (fun w hw => ?_))
    rw [← hoe]
    exact ⟨(p4, c4), trivial, rfl, hw.sel [1] rfl⟩

end Go.Proofs.YtffbohecdocajaaGreat

namespace Go.Proofs.YtffbohecdocajaaGreat
open Go.SL Go.Proofs Go.Pulse
set_option linter.unusedVariables false



/-- What checks some bytes. -/
def chkS (h b : Int) : Int := IntKind.u32.wrap (IntKind.u32.wrap (IntKind.u32.wrap (31 * h) + IntKind.u32.wrap b) + 1)
def chk4 (h : Int) : List Int := [IntKind.u8.wrap (h.fdiv (2 ^ (Min.min (24 : Int).toNat IntKind.u32.bits))), IntKind.u8.wrap (h.fdiv (2 ^ (Min.min (16 : Int).toNat IntKind.u32.bits))), IntKind.u8.wrap (h.fdiv (2 ^ (Min.min (8 : Int).toNat IntKind.u32.bits))), IntKind.u8.wrap h]
def chkF (l : List Int) : Int := l.foldl chkS 1
theorem chk_next {l : List Int} {i : Nat} (h : i < l.length) : chkF (l.take (i + 1)) = chkS (chkF (l.take i)) (l.getD i 0) := by
  unfold chkF
  rw [List.take_add_one, List.getElem?_eq_getElem h, List.foldl_append, List.getD_eq_getElem?_getD, List.getElem?_eq_getElem h]; rfl

set_option maxRecDepth 20000 in
theorem number0_c (l : List Int) (p : Option Addr) (n : Int) (hn0 : 0 ≤ n) (hn9 : n < 128) (hl : l.length < 1000000000) (w : World) (hr : RO 1 byC w p l) :
  Calls Tryz.prog 107 #[.slice p l.length l.length, .int .i64 n] w fun e w' => ∃ y : Option Addr × Nat, True ∧ e = .returned (.slice y.1 (l ++ [n]).length y.2) ∧ St (bs w) [own 5 1 y.1 y.2 ((l ++ [n]).map byC)] w' := by
  refine enter (vs := [_,_]) (env := [(0,_), (1,_)]) Tryz.func107 rfl rfl rfl rfl ?_
  refine VC.seq ?_
  refine VC.reg (VO.l (LO.as (.r rfl)) rfl<|VO.nil ?_)
  refine VE.seqN ?_
  refine VC.seq ?_
  refine VC.block ?_
  refine VC.loopK (α := Nat) 0 (fun gx => [(0, .slice p l.length l.length), (1, .int .i64 n)]) [] (fun gx => []) (fun gx => True) (fun gx => gx) 0 (by exact trivial) (.cons rfl (.cons rfl .nil)) (fun _ h => h) ?_
  rintro k _
  refine VC.seq ?_
  refine VC.seq ?_
  refine VC.reg (VO.l (LO.mv (.r rfl)) rfl<|VO.l (LO.ge (.r rfl) (.r rfl)) rfl<|VO.nil ?_)
  refine VE.seqN ?_
  refine VC.cond rfl (fun h6 => ?_) (fun h6 => ?_)
  ·
    (exfalso; omega)
  ·
    refine VC.exit (VE.thenX (VE.thenX (VE.inX (VE.seqN ?_))))
    refine VC.seq ?_
    refine VC.reg (VO.l (LO.mv (.r rfl)) rfl<|VO.l (LO.mv (.r rfl)) rfl<|VO.l (LO.cv ⟨_, Tryz.underlying3⟩ Tryz.underlying5 (.r rfl) (wb (by omega) (by omega))) rfl<|VO.h rfl<|HO.bs (ps := [(_,_)]) (vs := [(_,_)]) (Z := [_]) (C := [_]) S31 Z5 N5 ⟨(.r rfl), trivial⟩ rfl rfl rfl rfl ⟨_, [_], [_], rfl, rfl, rfl, rfl, rfl⟩ fun b1 => VO.h rfl<|HO.appF (f := byC) (l := l) (m := [n]) S31 S31 I5 (.r rfl) (.r rfl) (fun w hw => hr.keep w hw) (fun w hw => RO.ofC (f := byC) (l := [n]) (fun _ => rfl) (cells_at hw 0 rfl ⟨_, rfl⟩)) (fun _ => rfl) rfl rfl rfl rfl (Nat.succ_pos _) (by omega) fun b2 c_ => VO.h rfl<|HO.lo (LO.as (.r rfl))<|VO.nil ?_)
    refine VE.seqN ?_
    refine VC.ret (VE.res (vs := [_]) rfl ⟨rfl, trivial⟩ (fun w hw => ?_))
    exact ⟨(_,_), trivial, by rw [List.length_append]; rfl, hw.sel [0] rfl⟩

set_option maxRecDepth 20000 in
theorem check_cn (l : List Int) (p : Option Addr) (c : Nat) (hl : l.length < 1000000000) (w : World) (hr : RO 1 byC w p l) :
  Calls Tryz.prog 108 #[.slice p l.length c] w fun e w' => ∃ b : Nat, True ∧ e = .returned (.slice (some ⟨b, 0, none⟩) 4 4) ∧ St (bs w) [blk b (.cells ((chk4 (chkF l)).map fun x => Value.int .u8 x).toArray 5)] w' := by
  refine enter (vs := [_]) (env := [(0,_)]) Tryz.func108 rfl rfl rfl rfl ?_
  refine VC.seq ?_
  refine VC.reg (VO.l (LO.as (.r rfl)) rfl<|VO.nil ?_)
  refine VE.seqN ?_
  refine VC.seq ?_
  refine VC.reg (VO.l (LO.as (.r rfl)) rfl<|VO.nil ?_)
  refine VE.seqN ?_
  refine VC.seq ?_
  refine VC.seq ?_
  refine VC.reg (VO.l (LO.mv (.r rfl)) rfl<|VO.l (LO.len S31 (.r rfl) rfl) rfl<|VO.l (LO.mv (.r rfl)) rfl<|VO.nil ?_)
  refine VE.seqN ?_
  refine VC.block ?_
  refine VC.loopK (α := Nat) 0 (fun gx => [(3, .int .u32 (chkF (l.take gx))), (8, .int .i64 (gx : Nat))]) [(6,_), (7,_)] (fun gx => []) (fun gx => gx ≤ l.length) (fun gx => l.length - gx) 0 (by exact Nat.zero_le _) (.cons rfl (.cons rfl (.cons rfl (.cons rfl .nil)))) (fun _ h => h) ?_
  rintro i hi
  refine VC.seq ?_
  refine VC.reg (VO.l (LO.lt (.r rfl) (.r rfl)) rfl<|VO.nil ?_)
  refine VE.seqN ?_
  refine VC.seq ?_
  refine VC.cond rfl (fun h9 => ?_) (fun h9 => ?_)
  ·
    refine VC.skip (VE.seqN ?_)
    refine VC.seq ?_
    refine VC.block ?_
    refine VC.seq ?_
    refine VC.reg (VO.l (LO.ixs S31 N5 hr.sm (.r rfl) (.r rfl) rfl (by omega)) rfl<|VO.l (LO.ld O5 (.r rfl) (fun w hw => cells_part (off := 0) ((hr.at (0 : Int) (j := i) (by omega)) w hw) ⟨_, rfl⟩)) rfl<|VO.l (LO.as (.r rfl)) rfl<|VO.nil ?_)
    refine VE.seqN ?_
    refine VC.reg (VO.l (LO.mv (.r rfl)) rfl<|VO.l (LO.mul (.r rfl) (.r rfl) rfl) rfl<|VO.l (LO.mv (.r rfl)) rfl<|VO.l (LO.cv ⟨_, Tryz.underlying5⟩ Tryz.underlying32 (.r rfl) rfl) rfl<|VO.l (LO.add (.r rfl) (.r rfl) rfl) rfl<|VO.l (LO.add (.r rfl) (.r rfl) rfl) rfl<|VO.l (LO.as (.r rfl)) rfl<|VO.nil ?_)
    refine VE.inN (VE.seqN ?_)
    refine VC.reg (VO.l (LO.add (.r rfl) (.r rfl) (wi (by omega) (by omega))) rfl<|VO.l (LO.mv (.r rfl)) rfl<|VO.nil ?_)
    refine VE.thenN fun a w ha hw => ⟨i + 1, (by omega), (by omega), ha.sub (.cons (congrArg (fun z => some (Value.int .u32 z)) (chk_next (by omega)).symm) (.cons rfl (.cons rfl (.cons rfl .nil)))), hw⟩
  ·
    have hie : i = l.length := by omega
    rw [hie, List.take_length]
    refine VC.exit (VE.thenX (VE.thenX (VE.inX (VE.seqN ?_))))
    refine VC.seq ?_
    refine VC.reg (VO.l (LO.mv (.r rfl)) rfl<|VO.l (LO.shr (.r rfl) (.r rfl) (by omega)) rfl<|VO.l (LO.cv ⟨_, Tryz.underlying32⟩ Tryz.underlying5 (.r rfl) rfl) rfl<|VO.l (LO.mv (.r rfl)) rfl<|VO.l (LO.shr (.r rfl) (.r rfl) (by omega)) rfl<|VO.l (LO.cv ⟨_, Tryz.underlying32⟩ Tryz.underlying5 (.r rfl) rfl) rfl<|VO.l (LO.mv (.r rfl)) rfl<|VO.l (LO.shr (.r rfl) (.r rfl) (by omega)) rfl<|VO.l (LO.cv ⟨_, Tryz.underlying32⟩ Tryz.underlying5 (.r rfl) rfl) rfl<|VO.l (LO.mv (.r rfl)) rfl<|VO.l (LO.cv ⟨_, Tryz.underlying32⟩ Tryz.underlying5 (.r rfl) rfl) rfl<|VO.h rfl<|HO.bs (ps := [(_,_), (_,_), (_,_), (_,_)]) (vs := [(_,_), (_,_), (_,_), (_,_)]) (Z := [_,_,_,_]) (C := [_,_,_,_]) S31 Z5 N5 ⟨(.r rfl), (.r rfl), (.r rfl), (.r rfl), trivial⟩ rfl rfl rfl rfl ⟨_, [_], [_,_,_,_], rfl, rfl, rfl, rfl, ⟨_, [_], [_,_,_,_], rfl, rfl, rfl, rfl, ⟨_, [_], [_,_,_,_], rfl, rfl, rfl, rfl, ⟨_, [_], [_,_,_,_], rfl, rfl, rfl, rfl, rfl⟩⟩⟩⟩ fun b1 => VO.h rfl<|HO.lo (LO.as (.r rfl))<|VO.nil ?_)
    refine VE.seqN ?_
    refine VC.ret (VE.res (vs := [_]) rfl ⟨rfl, trivial⟩ (fun w hw => ?_))
    exact ⟨b1, trivial, rfl, hw⟩

end Go.Proofs.YtffbohecdocajaaGreat

namespace Go.Proofs.YtffbohecdocajaaGreat
open Go.SL Go.Proofs Go.Pulse
set_option linter.unusedVariables false

theorem C108 : IsFn Tryz.prog 108 := ⟨_, Tryz.func108, by decide, rfl⟩


theorem C107 : IsFn Tryz.prog 107 := ⟨_, Tryz.func107, by decide, rfl⟩
def hdrB : List Int := [82,68,77,49]
def snapS (s : Span) : List Int := numF 5 s.lo ++ numF 5 (s.hi - s.lo)
def snapK (k : KeyM) : List Int := (numF 5 ((nmT k.1).size : Nat) ++ bysS (nmT k.1)) ++ (numF 5 k.2.1 ++ numF 5 k.2.2)
def snapM (m : KeyM × List Span) : List Int := snapK m.1 ++ m.2.flatMap snapS
def snapB (c : Nat) (ms : List (KeyM × List Span)) : List Int := ((hdrB ++ [0]) ++ numF 5 (c : Nat)) ++ ms.flatMap snapM
def snapF (c : Nat) (ms : List (KeyM × List Span)) : List Int := snapB c ms ++ chk4 (chkF (snapB c ms))
theorem nmT_size : ∀ r : Fin 3, (nmT r).size = 1 := by decide +kernel
theorem snapB_next {c : Nat} {l : List MgY} {i : Nat} {m : MgY} (h : l[i]? = some m) : snapB c ((l.take (i + 1)).map mgP) = snapB c ((l.take i).map mgP) ++ (snapK m.1 ++ m.2.v.flatMap snapS) := by
  have e : (l.take (i + 1)).map mgP = (l.take i).map mgP ++ [mgP m] := by rw [List.take_add_one, h, List.map_append]; rfl
  unfold snapB
  generalize (hdrB ++ [0]) ++ numF 5 (c : Nat) = X
  have e2 : [mgP m].flatMap snapM = snapK m.1 ++ m.2.v.flatMap snapS := List.append_nil (snapM (mgP m))
  rw [e, List.flatMap_append, e2]
  exact (List.append_assoc X _ _).symm
theorem snapS_next {v : List Span} {j : Nat} {s : Span} (h : v[j]? = some s) : (v.take (j + 1)).flatMap snapS = (v.take j).flatMap snapS ++ snapS s := by
  rw [List.take_add_one, h, List.flatMap_append]; simp
theorem fro_RO {w : World} {b E : Nat} {l : List Int} {fr : Nat × Nat} {C : Array Value} (h : w.heap[b]? = some (.cells C E fr)) (hC : C.toList = (l.map byC).flatten) : RO 1 byC w (some ⟨b, 0, none⟩) l := by
  refine RO.ofC (fun _ => rfl) fun j v hv => ?_
  rw [← hC] at hv
  have e : (⟨b, 0, none⟩ : Addr).add j = ⟨b, j, none⟩ := by unfold Addr.add; split <;> simp_all
  rw [e]
  unfold World.cell?
  rw [h]
  simp only [Option.isSome_none, Bool.false_eq_true, if_false]
  rw [← Array.getElem?_toList]; exact hv

set_option maxRecDepth 20000 in
set_option maxHeartbeats 8000000 in
theorem Snapshot_c (bn : Nat) (q : NdQ) (c : Nat) (S : KeyM → List (List Span)) (M : KeyM → Option TY) (ts : List TY) (vs : List VY) (w : World) (hS : NdS S M ts vs c) (hc : c < 1000) (hKt : ∀ k, S k ≠ [] → (0 ≤ k.2.1 ∧ k.2.1 ≤ 2) ∧ 0 ≤ k.2.2 ∧ k.2.2 ≤ 2000) (hVs : ∀ k v, v ∈ S k → ∀ s, s ∈ v → 0 ≤ s.lo ∧ s.lo ≤ s.hi ∧ s.hi ≤ 1000000) (hh : NdW w bn q c M ts vs) :
  Calls Tryz.prog 42 #[.pointer (some ⟨bn, 0, none⟩)] w fun e w' => ∃ y : List Int × Option Addr × Nat, (∃ ks, KeysOf S ks ∧ y.1 = snapF c (allP S ks)) ∧ e = .returned (.slice y.2.1 y.1.length y.2.2) ∧ St (bs w) [own 5 1 y.2.1 y.2.2 (y.1.map byC)] w' := by
  refine enter (vs := [_]) (env := [(0,_)]) Tryz.func42 rfl rfl rfl rfl ?_
  refine VC.seq ?_
  refine VC.reg (VO.l (LO.as (.r rfl)) rfl<|VO.nil ?_)
  refine VE.seqN ?_
  refine VC.seq ?_
  refine VC.seq ?_
  refine VC.reg (VO.l (LO.mv (.r rfl)) rfl<|VO.l (LO.call (xs := [_]) (vs := [_]) C92 ⟨(.r rfl), trivial⟩ (fun w hw => nothing_c bn q c w (hh.keep hw).B)) rfl<|VO.nil ?_)
  refine VE.seqN ?_
  refine VC.cond rfl (fun h9 => ?_) (fun h9 => ?_)
  ·
    (exfalso; (simp at h9))
  ·
    refine VC.skip (VE.seqN ?_)
    refine VC.seq ?_
    refine VC.drawH [[], [], [], [], [], []] [none, none, some 2, some 2, some 2, some 2, none, some 3, some 3, some 3, some 3, none, none] mixed (by kernel_rfl) rfl (LX.s<|LX.s<|LX.l (fun _ hJ => LO.mv (.r rfl)) rfl<|LX.l (fun _ hJ => LO.nc (.r rfl)) rfl<|LX.l (fun _ hJ => LO.fa (r := 10) F277_2 (.r rfl) rfl) rfl<|LX.l (fun _ hJ => LO.ld O3 (.r rfl) (cells_keep (sub_cells (off := 10) hh.B ⟨_, rfl⟩))) rfl<|LX.s<|LX.l (fun _ hJ => LO.mv (.r rfl)) rfl<|LX.l (fun _ hJ => LO.nc (.r rfl)) rfl<|LX.l (fun _ hJ => LO.fa (r := 12) F277_4 (.r rfl) rfl) rfl<|LX.l (fun _ hJ => LO.ld O3 (.r rfl) (cells_keep (sub_cells (off := 12) hh.B ⟨_, rfl⟩))) rfl<|LX.s<|LX.s<|LX.nil) (HX.h rfl<|HO.bs (ps := [(_,_), (_,_), (_,_), (_,_)]) (vs := [(_,_), (_,_), (_,_), (_,_)]) (Z := [_,_,_,_]) (C := [_,_,_,_]) S31 Z5 N5 ⟨(.r rfl), (.r rfl), (.r rfl), (.r rfl), trivial⟩ rfl rfl rfl rfl ⟨_, [_], [_,_,_,_], rfl, rfl, rfl, rfl, ⟨_, [_], [_,_,_,_], rfl, rfl, rfl, rfl, ⟨_, [_], [_,_,_,_], rfl, rfl, rfl, rfl, ⟨_, [_], [_,_,_,_], rfl, rfl, rfl, rfl, rfl⟩⟩⟩⟩ fun b4 => ⟨fun _ hw => hw.sel [] rfl, HX.h rfl<|HO.cvB 0 (fun R => [R]) S31 Tryz.underlying5 (.r rfl) rfl (fun _ => rfl)<|⟨fun _ hw => hw.sel [] rfl, HX.s<|HX.s<|HX.s<|HX.s<|HX.h rfl<|HO.callx (xs := [_,_]) (vs := [_,_]) C107 ⟨(.r rfl), (.r rfl), trivial⟩ (fun w hw => number0_c hdrB (some ⟨b4,0, none⟩) 0 (by decide) (by decide) (by decide) w (fro_RO (hw.inv 0 _ rfl) rfl)) fun yo _ => ⟨fun _ hw => hw.sel [] rfl, HX.s<|HX.s<|HX.s<|HX.s<|HX.h rfl<|HO.callP (first := []) (cap := []) (xs := [_,_]) (vs := [_,_]) [_] [_] (selK (L1 := [_] ++ [_]) [0,1] rfl rfl) (.r rfl) C107 ⟨(.r rfl), (.r rfl), trivial⟩ (fun w hw hh => number_c (hdrB ++ [0]) yo.1 yo.2 (c : Nat) (by omega) (by omega) (by simp [hdrB]) w hh) fun yc _ => ⟨fun _ hw => hw.sel [] rfl, HX.h rfl<|HO.lo (LO.as (.r rfl))<|⟨fun _ hw => hw.sel [] rfl, HX.nil ?_⟩⟩⟩⟩⟩)
    refine VE.seqN ?_
    refine VC.seq ?_
    refine VC.seq ?_
    refine VC.reg (VO.l (LO.mv (.r rfl)) rfl<|VO.h rfl<|HO.callx (xs := [_]) (vs := [_]) C99 ⟨(.r rfl), trivial⟩ (fun w hw => all_c bn q c S M ts vs w hS hc (hh.keep hw)) fun yl ⟨⟨ks, hks, hpl⟩, hml, hll⟩ => VO.h rfl<|HO.lo (LO.len S285 (.r rfl) rfl)<|VO.l (LO.mv (.r rfl)) rfl<|VO.nil ?_)
    refine VE.seqN ?_
    refine VC.block ?_
    refine VC.perm [2,0,1,3] rfl ?_
    refine VC.loopK (α := Nat × (List Int) × Nat × (Option Addr) × Nat) 1 (fun gx => [(3, .slice gx.2.2.2.1 gx.2.2.1 gx.2.2.2.2), (25, .int .i64 (gx.1 : Nat))]) [(23,_), (24,_)] (fun gx => [own 5 1 gx.2.2.2.1 gx.2.2.2.2 (gx.2.1.map byC)]) (fun gx => (gx.1 ≤ yl.1.1.length ∧ gx.2.2.1 = gx.2.1.length ∧ gx.2.1.length ≤ 100 + 1000 * gx.1) ∧ gx.2.1 = snapB c ((yl.1.1.take gx.1).map mgP)) (fun gx => yl.1.1.length - gx.1) (0, ((hdrB ++ [0]) ++ numF 5 (c : Nat)),_, yc.1, yc.2) (by exact ⟨⟨Nat.zero_le _, rfl, by have z := num_len 5 ((c : Nat) : Int); dsimp only; rw [List.length_append]; show 5 + _ ≤ _; omega⟩, (List.append_nil _).symm⟩) (.cons rfl (.cons rfl (.cons rfl (.cons rfl .nil)))) (fun _ h => h) ?_
    rintro ⟨i, o, no, po, co⟩ ⟨⟨hi, hno, hol⟩, hoe⟩
    show VC _ _ _ _ _ ([(3, .slice po no co), (25, .int .i64 (i : Nat))] ++ _) ([own 5 1 po co (o.map byC)] ++ _) _ _
    dsimp only at hi hno hol hoe
    refine VC.seq ?_
    have hlen : yl.1.1.length ≤ c := by have h1 := allP_len hS.n hks hS.k.s; have h2 := congrArg List.length hpl; rw [List.length_map] at h2; omega
    refine VC.reg (VO.l (LO.lt (.r rfl) (.r rfl)) rfl<|VO.nil ?_)
    refine VE.seqN ?_
    refine VC.seq ?_
    refine VC.cond rfl (fun h26 => ?_) (fun h26 => ?_)
    ·
      obtain ⟨m, hmi⟩ : ∃ m, yl.1.1[i]? = some m := ⟨_, List.getElem?_eq_getElem (by omega)⟩
      have hmm := hml m (List.mem_of_getElem? hmi)
      have hmb : m.2.v ∈ S m.1 := (allP_mem hks _ _).1 (hpl ▸ List.mem_map_of_mem (f := mgP) (List.mem_of_getElem? hmi))
      have hkt := hKt m.1 (fun e => by rw [e] at hmb; cases hmb)
      have hvs := hVs m.1 m.2.v hmb
      have hsz := nmT_size m.1.1
      subst hno
      refine VC.skip (VE.seqN ?_)
      refine VC.seq ?_
      refine VC.block ?_
      refine VC.seq ?_
      refine VC.reg (VO.l (LO.ixo S285 N141 (fun _ hw => (own_rows hw 1 rfl).some (by rw [List.length_map])) (.r rfl) (.r rfl) rfl (by omega)) rfl<|VO.l (LO.lda (vs := [_,_,_,_]) A141 (.r rfl) (fun w hw => cells_part (off := 0) (own_cell hw 1 rfl hmi) ⟨_, rfl⟩) rfl) rfl<|VO.h rfl<|HO.alloc (C := #[_,_,_,_]) Z141 rfl fun b9 => VO.h0<|HO.st 0 (vs := [_,_,_,_]) (C' := [_,_,_,_]) (L' := [_,_,_,_,_]) N141 rfl rfl rfl rfl rfl rfl rfl rfl<|VO.nil ?_)
      refine VE.seqN ?_
      refine VC.seq ?_
      refine VC.drawH [[0,1,2,3,4], [0,2,3,4], [0,2,3,4], [0,2,3,4]] [some 0, some 0, some 0, some 0, some 0, none, some 1, some 1, some 1, none, none] mixed (by kernel_rfl) rfl (LX.l (fun _ hJ => LO.mv (.r rfl)) rfl<|LX.l (fun _ hJ => LO.fa (r := 0) F141_0 (.r rfl) rfl) rfl<|LX.l (fun _ hJ => LO.fa (r := 0) F139_0 (.r rfl) rfl) rfl<|LX.l (fun _ hJ => LO.ld O9 (.r rfl) (fun _ hw => cells_at (hJ _ hw) 0 rfl ⟨_, rfl⟩)) rfl<|LX.l (fun _ hJ => LO.lenS Tryz.underlying9 (.r rfl) rfl) rfl<|LX.s<|LX.l (fun _ hJ => LO.fa (r := 0) F141_0 (.r rfl) rfl) rfl<|LX.l (fun _ hJ => LO.fa (r := 0) F139_0 (.r rfl) rfl) rfl<|LX.l (fun _ hJ => LO.ld O9 (.r rfl) (fun _ hw => cells_at (hJ _ hw) 0 rfl ⟨_, rfl⟩)) rfl<|LX.s<|LX.s<|LX.nil) (HX.s<|HX.s<|HX.s<|HX.s<|HX.s<|HX.h rfl<|HO.callP (first := []) (cap := []) (xs := [_,_]) (vs := [_,_]) [_] [_,_,_,_] (selK (L1 := [_] ++ [_,_,_,_]) [1,0,2,3,4] rfl rfl) (.r rfl) C107 ⟨(.r rfl), (.r rfl), trivial⟩ (fun w hw hh => number_c o po co ((nmT m.1.1).size : Nat) (by omega) (by omega) (by omega) w hh) fun y7 _ => ⟨fun _ hw => hw.sel [1,2,3,4] rfl, HX.s<|HX.s<|HX.s<|HX.h rfl<|HO.appS 0 (fun R => [R,_,_,_,_]) S31 Tryz.underlying9 I5 (.r rfl) (.r rfl) rfl rfl rfl (fun _ => rfl) rfl (by have := num_len 5 ((nmT m.1.1).size : Nat); rw [List.length_append]; omega) fun pS cS => ⟨fun _ hw => hw.sel [1,2,3,4] rfl, HX.h rfl<|HO.lo (LO.as (.r rfl))<|⟨fun _ hw => hw.sel [1,2,3,4] rfl, HX.nil ?_⟩⟩⟩)
      obtain ⟨o1, ho1⟩ : ∃ l, l = (o ++ numF 5 ((nmT m.1.1).size : Nat)) ++ bysS (nmT m.1.1) := ⟨_, rfl⟩
      have hl7 : (o ++ numF 5 ((nmT m.1.1).size : Nat)).length + (nmT m.1.1).size = o1.length := by rw [ho1]; exact (List.length_append.trans (congrArg _ (bysS_len _))).symm
      rw [hl7, ← ho1]
      have ho1l : o1.length ≤ o.length + 6 := by have z := num_len 5 ((nmT m.1.1).size : Nat); rw [← hl7, List.length_append]; omega
      refine VE.seqN ?_
      refine VC.seq ?_
      refine VC.drawH [[0,1,2,3,4], [1,2,3,4], [1,2,3,4], [1,2,3,4]] [some 0, some 0, some 0, some 0, none, some 1, some 1, some 1, none, none] mixed (by kernel_rfl) rfl (LX.l (fun _ hJ => LO.mv (.r rfl)) rfl<|LX.l (fun _ hJ => LO.fa (r := 0) F141_0 (.r rfl) rfl) rfl<|LX.l (fun _ hJ => LO.fa (r := 1) F139_1 (.r rfl) rfl) rfl<|LX.l (fun _ hJ => LO.ld O3 (.r rfl) (fun _ hw => cells_at (hJ _ hw) 1 rfl ⟨_, rfl⟩)) rfl<|LX.s<|LX.l (fun _ hJ => LO.fa (r := 0) F141_0 (.r rfl) rfl) rfl<|LX.l (fun _ hJ => LO.fa (r := 2) F139_2 (.r rfl) rfl) rfl<|LX.l (fun _ hJ => LO.ld O3 (.r rfl) (fun _ hw => cells_at (hJ _ hw) 0 rfl ⟨_, rfl⟩)) rfl<|LX.s<|LX.s<|LX.nil) (HX.s<|HX.s<|HX.s<|HX.s<|HX.h rfl<|HO.callP (first := []) (cap := []) (xs := [_,_]) (vs := [_,_]) [_] [_,_,_,_] (selK (L1 := [_] ++ [_,_,_,_]) [0,1,2,3,4] rfl rfl) (.r rfl) C107 ⟨(.r rfl), (.r rfl), trivial⟩ (fun w hw hh => number_c o1 pS cS m.1.2.1 (by omega) (by omega) (by omega) w hh) fun y8a _ => ⟨fun _ hw => hw.sel [1,2,3,4] rfl, HX.s<|HX.s<|HX.s<|HX.h rfl<|HO.callP (first := []) (cap := []) (xs := [_,_]) (vs := [_,_]) [_] [_,_,_,_] (selK (L1 := [_] ++ [_,_,_,_]) [0,1,2,3,4] rfl rfl) (.r rfl) C107 ⟨(.r rfl), (.r rfl), trivial⟩ (fun w hw hh => number_c (o1 ++ numF 5 m.1.2.1) y8a.1 y8a.2 m.1.2.2 (by omega) (by omega) (by have z1 := num_len 5 m.1.2.1; rw [List.length_append]; omega) w hh) fun y8b _ => ⟨fun _ hw => hw.sel [1,2,3,4] rfl, HX.h rfl<|HO.lo (LO.as (.r rfl))<|⟨fun _ hw => hw.sel [1,2,3,4] rfl, HX.nil ?_⟩⟩⟩)
      obtain ⟨o2, ho2⟩ : ∃ l, l = (o1 ++ numF 5 m.1.2.1) ++ numF 5 m.1.2.2 := ⟨_, rfl⟩
      rw [← ho2]
      have ho2l : o2.length ≤ o.length + 16 := by have z1 := num_len 5 m.1.2.1; have z2 := num_len 5 m.1.2.2; rw [ho2, List.length_append, List.length_append]; omega
      have ho2e : o2 = o ++ snapK m.1 := by rw [ho2, ho1]; unfold snapK; simp only [List.append_assoc]
      refine VE.seqN ?_
      refine VC.seq ?_
      refine VC.pur (φ := SlSome m.2.p m.2.v.length) (fun w hw => (bag_sp hw 3 rfl hmm.1).sm) fun hvsm => ?_
      refine VC.reg (VO.l (LO.fa (r := 3) F141_1 (.r rfl) rfl) rfl<|VO.l (LO.ld O45 (.r rfl) (fun _ hw => cells_at hw 1 rfl ⟨_, rfl⟩)) rfl<|VO.l (LO.len S45 (.r rfl) rfl) rfl<|VO.l (LO.mv (.r rfl)) rfl<|VO.nil ?_)
      refine VE.seqN ?_
      refine VC.block ?_
      refine VC.loopK (α := Nat × (List Int) × Nat × (Option Addr) × Nat) 1 (fun gx => [(3, .slice gx.2.2.2.1 gx.2.2.1 gx.2.2.2.2), (51, .int .i64 (gx.1 : Nat))]) [(23,_), (24,_), (25,_), (49,_), (50,_)] (fun gx => [own 5 1 gx.2.2.2.1 gx.2.2.2.2 (gx.2.1.map byC)]) (fun gx => (gx.1 ≤ m.2.v.length ∧ gx.2.2.1 = gx.2.1.length ∧ gx.2.1.length ≤ o.length + 20 + 10 * gx.1) ∧ gx.2.1 = o2 ++ (m.2.v.take gx.1).flatMap snapS) (fun gx => m.2.v.length - gx.1) (0, o2, o2.length, y8b.1, y8b.2) (by exact ⟨⟨Nat.zero_le _, rfl, by dsimp only; omega⟩, (List.append_nil _).symm⟩) (.cons rfl (.cons rfl (.cons rfl (.cons rfl (.cons rfl (.cons rfl (.cons rfl .nil))))))) (fun _ h => h) ?_
      rintro ⟨j, u, nu, pu, cu⟩ ⟨⟨hj, hnu, hul⟩, hue⟩
      show VC _ _ _ _ _ ([(3, .slice pu nu cu), (51, .int .i64 (j : Nat))] ++ _) ([own 5 1 pu cu (u.map byC)] ++ _) _ _
      dsimp only at hj hnu hul hue
      refine VC.seq ?_
      refine VC.reg (VO.l (LO.lt (.r rfl) (.r rfl)) rfl<|VO.nil ?_)
      refine VE.seqN ?_
      refine VC.seq ?_
      refine VC.cond rfl (fun h52 => ?_) (fun h52 => ?_)
      ·
        have hsj : m.2.v[j]? = some (m.2.v.getD j zs) := getD_some (by omega)
        have hsb := hvs (m.2.v.getD j zs) (List.mem_of_getElem? hsj)
        subst hnu
        refine VC.skip (VE.seqN ?_)
        refine VC.seq ?_
        refine VC.block ?_
        refine VC.seq ?_
        refine VC.reg (VO.l (LO.ixs S45 N25 hvsm (.r rfl) (.r rfl) rfl (by omega)) rfl<|VO.l (LO.lda (vs := [_,_]) A25 (.r rfl) (fun w hw => cells_part (off := 0) ((fun w2 hw2 => (bag_sp hw2 3 rfl hmm.1).here zs (j := j) (by omega)) w hw) ⟨_, rfl⟩) rfl) rfl<|VO.h rfl<|HO.alloc (C := #[_,_]) Z25 rfl fun b17 => VO.h0<|HO.st 0 (vs := [_,_]) (C' := [_,_]) (L' := [_,_,_,_,_,_]) N25 rfl rfl rfl rfl rfl rfl rfl rfl<|VO.nil ?_)
        refine VE.seqN ?_
        refine VC.drawH [[0,1,2,3,4,5], [0,2,3,4,5], [0,2,3,4,5], [0,2,3,4,5]] [some 0, some 0, some 0, none, some 1, some 1, some 1, some 1, some 1, none, none] mixed (by kernel_rfl) rfl (LX.l (fun _ hJ => LO.mv (.r rfl)) rfl<|LX.l (fun _ hJ => LO.fa (r := 0) F25_0 (.r rfl) rfl) rfl<|LX.l (fun _ hJ => LO.ld O3 (.r rfl) (fun _ hw => cells_at (hJ _ hw) 0 rfl ⟨_, rfl⟩)) rfl<|LX.s<|LX.l (fun _ hJ => LO.fa (r := 1) F25_1 (.r rfl) rfl) rfl<|LX.l (fun _ hJ => LO.ld O3 (.r rfl) (fun _ hw => cells_at (hJ _ hw) 0 rfl ⟨_, rfl⟩)) rfl<|LX.l (fun _ hJ => LO.fa (r := 0) F25_0 (.r rfl) rfl) rfl<|LX.l (fun _ hJ => LO.ld O3 (.r rfl) (fun _ hw => cells_at (hJ _ hw) 0 rfl ⟨_, rfl⟩)) rfl<|LX.l (fun _ hJ => LO.sub (.r rfl) (.r rfl) (wi (by omega) (by omega))) rfl<|LX.s<|LX.s<|LX.nil) (HX.s<|HX.s<|HX.s<|HX.h rfl<|HO.callP (first := []) (cap := []) (xs := [_,_]) (vs := [_,_]) [_] [_,_,_,_,_] (selK (L1 := [_] ++ [_,_,_,_,_]) [1,0,2,3,4,5] rfl rfl) (.r rfl) C107 ⟨(.r rfl), (.r rfl), trivial⟩ (fun w hw hh => number_c u pu cu (m.2.v.getD j zs).lo (by omega) (by omega) (by omega) w hh) fun y12a _ => ⟨fun _ hw => hw.sel [1,2,3,4,5] rfl, HX.s<|HX.s<|HX.s<|HX.s<|HX.s<|HX.h rfl<|HO.callP (first := []) (cap := []) (xs := [_,_]) (vs := [_,_]) [_] [_,_,_,_,_] (selK (L1 := [_] ++ [_,_,_,_,_]) [0,1,2,3,4,5] rfl rfl) (.r rfl) C107 ⟨(.r rfl), (.r rfl), trivial⟩ (fun w hw hh => number_c (u ++ numF 5 (m.2.v.getD j zs).lo) y12a.1 y12a.2 ((m.2.v.getD j zs).hi - (m.2.v.getD j zs).lo) (by omega) (by omega) (by have z1 := num_len 5 (m.2.v.getD j zs).lo; rw [List.length_append]; omega) w hh) fun y12b _ => ⟨fun _ hw => hw.sel [1,2,3,4,5] rfl, HX.h rfl<|HO.lo (LO.as (.r rfl))<|⟨fun _ hw => hw.sel [1,2,3,4,5] rfl, HX.nil ?_⟩⟩⟩)
        refine VE.inN (VE.seqN ?_)
        refine VC.reg (VO.l (LO.add (.r rfl) (.r rfl) (wi (by omega) (by omega))) rfl<|VO.l (LO.mv (.r rfl)) rfl<|VO.nil ?_)
        refine VE.thenN fun a w ha hw => ⟨(j + 1, ((u ++ numF 5 (m.2.v.getD j zs).lo) ++ numF 5 ((m.2.v.getD j zs).hi - (m.2.v.getD j zs).lo)), ((u ++ numF 5 (m.2.v.getD j zs).lo) ++ numF 5 ((m.2.v.getD j zs).hi - (m.2.v.getD j zs).lo)).length, y12b.1, y12b.2), ⟨⟨by dsimp only; omega, rfl, by have z1 := num_len 5 (m.2.v.getD j zs).lo; have z2 := num_len 5 ((m.2.v.getD j zs).hi - (m.2.v.getD j zs).lo); dsimp only; rw [List.length_append, List.length_append]; omega⟩, by dsimp only; rw [snapS_next hsj, ← List.append_assoc, ← hue]; unfold snapS; rw [List.append_assoc]⟩, (by dsimp only; omega), ha.sub (.cons rfl (.cons rfl (.cons rfl (.cons rfl (.cons rfl (.cons rfl (.cons rfl .nil))))))), hw.sel [0,2,3,4,5] rfl⟩
      ·
        have hje : j = m.2.v.length := by omega
        subst hnu
        refine VC.exit (VE.thenX (VE.thenX (VE.inX (VE.inN (VE.seqN ?_)))))
        refine VC.reg (VO.l (LO.add (.r rfl) (.r rfl) (wi (by omega) (by omega))) rfl<|VO.l (LO.mv (.r rfl)) rfl<|VO.nil ?_)
        refine VE.thenN fun a w ha hw => ⟨(i + 1, u, u.length, pu, cu), ⟨⟨by dsimp only; omega, rfl, by dsimp only; omega⟩, by dsimp only; rw [snapB_next hmi, ← hoe, ← List.append_assoc, ← ho2e, hue, hje, List.take_length]⟩, (by dsimp only; omega), ha.sub (.cons rfl (.cons rfl (.cons rfl (.cons rfl .nil)))), hw.sel [0,2,3,4] rfl⟩
    ·
      have hie : i = yl.1.1.length := by omega
      subst hno
      have hoe2 := hoe
      rw [hie, List.take_length] at hoe2
      refine VC.exit (VE.thenX (VE.thenX (VE.inX (VE.seqN ?_))))
      refine VC.seq ?_
      refine VC.reg (VO.l (LO.mv (.r rfl)) rfl<|VO.l (LO.mv (.r rfl)) rfl<|VO.h rfl<|HO.callx (xs := [_]) (vs := [_]) C108 ⟨(.r rfl), trivial⟩ (fun w hw => check_cn o po co (by omega) w (own_rows hw 0 rfl)) fun bk _ => VO.h rfl<|HO.appN (f := byC) (l := o) (m := chk4 (chkF o)) 1 (fun R => [_, R,_,_,_]) S31 S31 I5 (.r rfl) (.r rfl) rfl (fun w hw => fro_RO (hw.inv 0 _ rfl) rfl) (fun _ => rfl) (fun _ => rfl) rfl rfl (fun _ => rfl) rfl rfl (by omega) fun pN cN _ => VO.h rfl<|HO.lo (LO.as (.r rfl))<|VO.nil ?_)
      refine VE.seqN ?_
      refine VC.ret (VE.res (vs := [_]) rfl ⟨rfl, trivial⟩ (fun w hw => ?_))
      exact ⟨(_, pN, cN), ⟨ks, hks, by rw [← hpl]; unfold snapF; rw [← hoe2]⟩, by simp only [resV, List.length_append]; rfl, hw.sel [1] rfl⟩

end Go.Proofs.YtffbohecdocajaaGreat

namespace Go.Proofs.YtffbohecdocajaaGreat
open Go.SL Go.Proofs Go.Pulse
set_option linter.unusedVariables false
/-- The messages that a node has, by their numbers. -/
structure SetP (x : NtI) (rds : List RdM) (n : Nat) (P : Nat → Prop) (S : KeyM → List (List Span)) : Prop where
  m : ∀ k v, v ∈ S k ↔ ∃ j b, (P j ∧ x.ms[j]? = some b) ∧ msgK rds b = k ∧ msgV x.rn b n = v
section
variable {x : NtI} {rds : List RdM} {n : Nat} {P Q : Nat → Prop} {S S2 : KeyM → List (List Span)}
theorem SetP.zero : SetP x rds n (fun _ => False) (fun _ => []) := ⟨fun k v => ⟨fun h => (by cases h), fun ⟨j, b, ⟨h,_⟩,_⟩ => h.elim⟩⟩
theorem SetP.congr (h : SetP x rds n P S) (hq : ∀ j, j < x.ms.length → (P j ↔ Q j)) : SetP x rds n Q S := ⟨fun k v => by
  rw [h.m]
  constructor
  · rintro ⟨j, b, ⟨h1, h2⟩, h3⟩
    exact ⟨j, b, ⟨(hq j (List.getElem?_eq_some_iff.1 h2).1).1 h1, h2⟩, h3⟩
  · rintro ⟨j, b, ⟨h1, h2⟩, h3⟩
    exact ⟨j, b, ⟨(hq j (List.getElem?_eq_some_iff.1 h2).1).2 h1, h2⟩, h3⟩⟩
theorem SetP.add (h : SetP x rds n P S) {j : Nat} {b : B5} (hb : x.ms[j]? = some b) : SetP x rds n (fun t => P t ∨ t = j) (addS S (msgK rds b) (msgV x.rn b n)) := ⟨fun k v => by
  rw [addS_mem, h.m]
  constructor
  · rintro (⟨j2, b2, ⟨h1, h2⟩, h3⟩ | ⟨h1, h2⟩)
    · exact ⟨j2, b2, ⟨.inl h1, h2⟩, h3⟩
    · exact ⟨j, b, ⟨.inr rfl, hb⟩, h1.symm, h2.symm⟩
  · rintro ⟨j2, b2, ⟨h1 | h1, h2⟩, h3, h4⟩
    · exact .inl ⟨j2, b2, ⟨h1, h2⟩, h3, h4⟩
    · subst h1
      rw [hb] at h2
      cases h2
      exact .inr ⟨h3.symm, h4.symm⟩⟩
theorem SetP.join {S3 : KeyM → List (List Span)} (h : SetP x rds n P S) (h2 : SetP x rds n Q S2) (hm : ∀ k v, v ∈ S3 k ↔ v ∈ S k ∨ v ∈ S2 k) : SetP x rds n (fun t => P t ∨ Q t) S3 := ⟨fun k v => by
  rw [hm, h.m, h2.m]
  constructor
  · rintro (⟨j, b, ⟨h1, h2⟩, h3⟩ | ⟨j, b, ⟨h1, h2⟩, h3⟩)
    · exact ⟨j, b, ⟨.inl h1, h2⟩, h3⟩
    · exact ⟨j, b, ⟨.inr h1, h2⟩, h3⟩
  · rintro ⟨j, b, ⟨h1 | h1, h2⟩, h3⟩
    · exact .inl ⟨j, b, ⟨h1, h2⟩, h3⟩
    · exact .inr ⟨j, b, ⟨h1, h2⟩, h3⟩⟩
theorem SetP.uniq (h : SetP x rds n P S) (h2 : SetP x rds n P S2) (s : ∀ k, SrtV (S k)) (s2 : ∀ k, SrtV (S2 k)) : S = S2 := S_uniq s s2 fun k v => by rw [h.m, h2.m]
/-- What a node's messages have. -/
theorem SetP.key (h : SetP x rds n P S) {k : KeyM} (hk : S k ≠ []) : ∃ b, b ∈ x.ms ∧ msgK rds b = k := by
  cases q : S k with
  | nil => exact absurd q hk
  | cons v l =>
    obtain ⟨j, b, ⟨_, h2⟩, h3,_⟩ := (h.m k v).1 (by rw [q]; exact List.mem_cons_self)
    exact ⟨b, List.mem_of_getElem? h2, h3⟩
theorem SetP.val (h : SetP x rds n P S) {k : KeyM} {v : List Span} (hv : v ∈ S k) : ∃ b, b ∈ x.ms ∧ msgV x.rn b n = v := by
  obtain ⟨j, b, ⟨_, h2⟩,_, h4⟩ := (h.m k v).1 hv
  exact ⟨b, List.mem_of_getElem? h2, h4⟩
end
/-- The radars of the law. -/
theorem rdN_ok {i : Nat} {b : B4} (hb : u8 b.1 ∧ u8 b.2.1 ∧ u8 b.2.2.1 ∧ u8 b.2.2.2) : RdOk (rdN i b) := by
  have t0 := tm_bd (x := b.1) (n := 8) hb.1.1 (by decide)
  have t1 := tm_bd (x := b.2.1) (n := 8) hb.2.1.1 (by decide)
  have t2 := tm_bd (x := b.2.2.1) (n := 8) hb.2.2.1.1 (by decide)
  refine ⟨⟨(b.1.tmod 8).toNat, by omega, ?_⟩, ⟨(b.2.1.tmod 8).toNat, by omega, ?_⟩, hb.2.2.2, ?_⟩
  · show b.1.tmod 8 * 1000 = _; omega
  · show b.2.1.tmod 8 * 1000 = _; omega
  · show 1 ≤ 1 + b.2.2.1.tmod 8 ∧ 1 + b.2.2.1.tmod 8 ≤ 8; omega
theorem rds_L {x : NtI} (hx : NtB x) (h0 : x.rd.length ≠ 0) : RdL (rdsF x.rd (min x.rd.length 3)) := by
  refine ⟨by rw [rds_len]; omega, fun i r hr => ?_⟩
  have hi : i < min x.rd.length 3 := by have := (List.getElem?_eq_some_iff.1 hr).1; rwa [rds_len] at this
  unfold rdsF at hr
  rw [List.getElem?_map, List.getElem?_range hi] at hr
  cases hr
  exact ⟨rfl, rdN_ok (hx.rd.2 _ (mem_gd (by omega)))⟩
theorem rdR_at {rds : List RdM} (hL : RdL rds) {i : Nat} (hi : i < rds.length) : rdR rds rds.length (rds.getD i zRd).r = some (some (rds.getD i zRd)) := by
  have hn := hL.n
  have hg : rds[i]? = some (rds.getD i zRd) := by rw [List.getD_eq_getElem?_getD, List.getElem?_eq_getElem hi]; rfl
  have hr := (hL.r i _ hg).1
  unfold rdR
  rw [hr, fin3_val (by omega), if_pos hi]
theorem msgK_r {rds : List RdM} (hL : RdL rds) (b : B5) : ∃ r, rdR rds rds.length (msgK rds b).1 = some (some r) ∧ RdOk r := by
  have hn := hL.n
  have hi : b.1.toNat % rds.length < rds.length := Nat.mod_lt _ (by omega)
  have hg : rds[b.1.toNat % rds.length]? = some (rds.getD (b.1.toNat % rds.length) zRd) := by rw [List.getD_eq_getElem?_getD, List.getElem?_eq_getElem hi]; rfl
  exact ⟨_, rdR_at hL hi, (hL.r _ _ hg).2⟩
theorem msgK_bd {x : NtI} (hx : NtB x) {rds : List RdM} {b : B5} (hb : b ∈ x.ms) : (0 ≤ (msgK rds b).2.1 ∧ (msgK rds b).2.1 ≤ 2) ∧ 0 ≤ (msgK rds b).2.2 ∧ (msgK rds b).2.2 ≤ 2000 := by
  have h := hx.ms.2 b hb
  have tj := tm_bd (x := b.2.1) (n := 3) h.1.2.1 (by decide)
  have tk := tm_bd (x := b.2.2.1) (n := 20) h.2.1.1 (by decide)
  unfold msgK
  dsimp only
  omega
theorem msgS_bd {x : NtI} (hx : NtB x) {b : B5} (hb : b ∈ x.ms) (i : Nat) : (0 ≤ (msgS x.rn b i).lo ∧ (msgS x.rn b i).lo ≤ rainF x.rn i) ∧ rainF x.rn i ≤ (msgS x.rn b i).hi ∧ (msgS x.rn b i).hi ≤ 65790 := by
  have h := hx.ms.2 b hb
  have hr := rain_bd hx i
  unfold msgS u8 at *
  dsimp only
  omega
theorem msgV_get {l : List Int} {b : B5} {n i : Nat} (h : i < n) : (msgV l b n).getD i zs = msgS l b i := by
  unfold msgV
  rw [List.getD_eq_getElem?_getD, List.getElem?_map, List.getElem?_range h]; rfl
theorem msgV_mem {l : List Int} {b : B5} {n : Nat} {s : Span} (h : s ∈ msgV l b n) : ∃ i, i < n ∧ s = msgS l b i := by
  unfold msgV at h
  obtain ⟨i, hi, rfl⟩ := List.mem_map.1 h
  exact ⟨i, List.mem_range.1 hi, rfl⟩
theorem msg_ok {x : NtI} (hx : NtB x) {rds : List RdM} (hL : RdL rds) {q : NdQ} {b : B5} (hb : b ∈ x.ms) (hW : q.w ≤ 6) (hH : q.h ≤ 6) : MgOk q (rdR rds rds.length) (msgK rds b) (msgV x.rn b (q.w * q.h)) := by
  obtain ⟨r, hr,_⟩ := msgK_r hL b
  have hk := msgK_bd hx (rds := rds) hb
  refine ⟨⟨r, hr⟩, by omega, by omega, by rw [msg_len, Int.natCast_mul], by rw [msg_len]; exact Nat.mul_le_mul hW hH, fun s hs => ?_⟩
  obtain ⟨i,_, rfl⟩ := msgV_mem hs
  have := msgS_bd hx hb i
  omega
section
variable {x : NtI} {rds : List RdM} {n : Nat} {P : Nat → Prop} {S : KeyM → List (List Span)}
theorem SetP.ok (h : SetP x rds n P S) (hx : NtB x) (hL : RdL rds) : RdsOk (rdR rds rds.length) S := by
  refine ⟨fun k hk => ?_, fun k hk => ?_, fun k hk => ?_⟩
  · obtain ⟨b,_, rfl⟩ := h.key hk
    exact msgK_r hL b
  · obtain ⟨b, hb, rfl⟩ := h.key hk
    exact (msgK_bd hx hb).1
  · obtain ⟨b, hb, rfl⟩ := h.key hk
    exact (msgK_bd hx hb).2
theorem SetP.len (h : SetP x rds n P S) (k : KeyM) (v : List Span) (hv : v ∈ S k) : v.length = n := by
  obtain ⟨b,_, rfl⟩ := h.val hv
  exact msg_len
theorem SetP.kt (h : SetP x rds n P S) (hx : NtB x) (k : KeyM) (hk : S k ≠ []) : (0 ≤ k.2.1 ∧ k.2.1 ≤ 2) ∧ 0 ≤ k.2.2 ∧ k.2.2 ≤ 2000 := by
  obtain ⟨b, hb, rfl⟩ := h.key hk
  exact msgK_bd hx hb
theorem SetP.vs (h : SetP x rds n P S) (hx : NtB x) (k : KeyM) (v : List Span) (hv : v ∈ S k) (s : Span) (hs : s ∈ v) : 0 ≤ s.lo ∧ s.lo ≤ s.hi ∧ s.hi ≤ 1000000 := by
  obtain ⟨b, hb, rfl⟩ := h.val hv
  obtain ⟨i,_, rfl⟩ := msgV_mem hs
  have := msgS_bd hx hb i
  omega
theorem SetP.tr (h : SetP x rds n P S) (hx : NtB x) (k : KeyM) (v : List Span) (hv : v ∈ S k) (i : Nat) (hi : i < n) : (v.getD i zs).lo ≤ rainF x.rn i ∧ rainF x.rn i ≤ (v.getD i zs).hi := by
  obtain ⟨b, hb, rfl⟩ := h.val hv
  rw [msgV_get hi]
  have := msgS_bd hx hb i
  omega
/-- What is shown at a pixel. -/
structure PxP (x : NtI) (i : Nat) (p : PxM) : Prop where
  t : p.s.lo ≤ rainF x.rn i ∧ rainF x.rn i ≤ p.s.hi
  b : 0 ≤ p.s.lo ∧ p.s.hi ≤ 1000000
  n : p.k.1 = none → p.s.hi = 1000000
theorem SetP.px {W H : Nat} {R : Fin 3 → Option (Option RdM)} {T : Int} {vs ls : List VY} {hs : List HdY} (h : SetP x rds n P S) (hx : NtB x) (ha : HdA S R W H T vs ls hs) {i : Nat} (hi : i < n) : PxP x i (pxF (hs.map HdY.t) i) := by
  have hr := rain_bd hx i
  unfold pxF
  cases q : bstF (hs.map HdY.t) i (hs.map HdY.t).length with
  | none => exact ⟨by dsimp only; omega, by dsimp only; omega, fun _ => rfl⟩
  | some b =>
    have hb := bst_lt q
    rw [List.length_map] at hb
    dsimp only
    rw [getD_t]
    have hm := (ha.h _ (hd_mem hb)).m.2
    obtain ⟨c, hc, e⟩ := h.val (k := (hs.getD b zHd).k) (v := (hs.getD b zHd).m.v) (by rw [hm]; exact List.mem_singleton.2 rfl)
    have hmb := msgS_bd hx hc i
    have e2 : (hs.getD b zHd).t.2.1.getD i zs = msgS x.rn c i := by show (hs.getD b zHd).m.v.getD i zs = _; rw [← e, msgV_get hi]
    rw [e2]
    exact ⟨by dsimp only; omega, by dsimp only; omega, fun z => by cases z⟩
end
/-- What is heard is the same for the same messages. -/
theorem HdA.uniq {S : KeyM → List (List Span)} {R : Fin 3 → Option (Option RdM)} {W H : Nat} {T : Int} {vs vs2 ls ls2 : List VY} {hs hs2 : List HdY} (hOk : RdsOk R S) (h : HdA S R W H T vs ls hs) (h2 : HdA S R W H T vs2 ls2 hs2) : hs.map HdY.t = hs2.map HdY.t := by
  obtain ⟨ks, hk, e⟩ := h.k
  obtain ⟨ks2, hk2, e2⟩ := h2.k
  rw [← hk.uniq hk2] at e2
  have ek : hs.map HdY.k = hs2.map HdY.k := e.trans e2.symm
  have el : hs.length = hs2.length := by have := congrArg List.length ek; rwa [List.length_map, List.length_map] at this
  refine List.ext_getElem? fun i => ?_
  rw [List.getElem?_map, List.getElem?_map]
  rcases Nat.lt_or_ge i hs.length with q | q
  · have z := congrArg (fun l => l[i]?) ek
    rw [List.getElem?_map, List.getElem?_map, List.getElem?_eq_getElem q, List.getElem?_eq_getElem (by omega)] at z
    rw [List.getElem?_eq_getElem q, List.getElem?_eq_getElem (by omega)]
    have zk : hs[i].k = hs2[i].k := Option.some.inj z
    have p1 := h.h _ (List.getElem_mem q)
    have p2 := h2.h _ (List.getElem_mem (show i < hs2.length by omega))
    have m1 := p1.m.2
    have m2 := p2.m.2
    rw [zk, m2] at m1
    have mv : hs2[i].m.v = hs[i].m.v := (List.cons.inj m1).1
    obtain ⟨x1, r1, l1⟩ := p1.x
    obtain ⟨x2, r2, l2⟩ := p2.x
    rw [zk, r2] at r1
    cases r1
    rw [zk] at l1
    have hne : S hs2[i].k ≠ [] := by rw [m2]; exact List.cons_ne_nil _ _
    have ht := hOk.t _ hne
    have lv := l1.uniq (by omega) (by omega) l2 (by rw [p1.l.2, p2.l.2])
    show some (HdY.t _) = some (HdY.t _)
    unfold HdY.t
    rw [zk, mv, lv]
  · rw [List.getElem?_eq_none q, List.getElem?_eq_none (by omega)]
theorem MapP.uniq {S : KeyM → List (List Span)} {R : Fin 3 → Option (Option RdM)} {W H : Nat} {T : Int} {vs vs2 ls ls2 : List VY} {y y2 : List PxM × (KeyW → Option VY) × List VY} (hOk : RdsOk R S) (h : MapP S R W H T vs ls y) (h2 : MapP S R W H T vs2 ls2 y2) : y.1 = y2.1 := by
  obtain ⟨hs, a, e⟩ := h.p
  obtain ⟨hs2, a2, e2⟩ := h2.p
  rw [e, e2, a.uniq hOk a2]
theorem MapP.px {x : NtI} {rds : List RdM} {P : Nat → Prop} {S : KeyM → List (List Span)} {R : Fin 3 → Option (Option RdM)} {W H : Nat} {T : Int} {vs ls : List VY} {y : List PxM × (KeyW → Option VY) × List VY} (hx : NtB x) (hS : SetP x rds (W * H) P S) (h : MapP S R W H T vs ls y) {i : Nat} (hi : i < W * H) : PxP x i (y.1.getD i zPx) := by
  obtain ⟨hs, a, e⟩ := h.p
  have : y.1.getD i zPx = pxF (hs.map HdY.t) i := by rw [e, List.getD_eq_getElem?_getD, List.getElem?_map, List.getElem?_range hi]; rfl
  rw [this]
  exact hS.px hx a hi
/-- The turns of a list of numbers. -/
def swpF (o : List Nat) (k j : Nat) : List Nat := (o.set k (o.getD j 0)).set j (o.getD k 0)
theorem swp_perm {o : List Nat} {k j : Nat} (hk : k < o.length) (hj : j < o.length) : (swpF o k j).Perm o := by
  unfold swpF
  have h1 : o.getD j 0 = o[j] := by rw [List.getD_eq_getElem?_getD, List.getElem?_eq_getElem hj]; rfl
  have h2 : o.getD k 0 = o[k] := by rw [List.getD_eq_getElem?_getD, List.getElem?_eq_getElem hk]; rfl
  rw [h1, h2]
  exact List.set_set_perm hk hj
/-- The messages that one of two nodes gets. -/
def halfP (o : List Nat) (r i : Nat) (j : Nat) : Prop := ∃ t, t < i ∧ t % 2 = r ∧ o[t]? = some j
theorem hlf_0 {o : List Nat} {r j : Nat} : ¬ halfP o r 0 j := fun ⟨_, h,_⟩ => Nat.not_lt_zero _ h
theorem hlf_y {o : List Nat} {r i a j : Nat} (h : i % 2 = r) (ha : o[i]? = some a) : (halfP o r i j ∨ j = a) ↔ halfP o r (i + 1) j := by
  constructor
  · rintro (⟨t, h1, h2⟩ | rfl)
    · exact ⟨t, by omega, h2⟩
    · exact ⟨i, by omega, h, ha⟩
  · rintro ⟨t, h1, h2, h3⟩
    rcases Nat.lt_or_ge t i with q | q
    · exact .inl ⟨t, q, h2, h3⟩
    · have e : t = i := by omega
      subst e
      rw [ha] at h3
      exact .inr (Option.some.inj h3).symm
theorem hlf_n {o : List Nat} {r i j : Nat} (h : i % 2 ≠ r) : halfP o r i j ↔ halfP o r (i + 1) j := by
  constructor
  · rintro ⟨t, h1, h2⟩
    exact ⟨t, by omega, h2⟩
  · rintro ⟨t, h1, h2, h3⟩
    refine ⟨t, ?_, h2, h3⟩
    rcases Nat.lt_or_ge t i with q | q
    · exact q
    · have e : t = i := by omega
      subst e
      exact absurd h2 h
theorem hlf_all {o : List Nat} {n j : Nat} (h : o.Perm (List.range n)) (hj : j < n) : (halfP o 0 o.length j ∨ halfP o 1 o.length j) ↔ True := by
  refine ⟨fun _ => trivial, fun _ => ?_⟩
  have hm : j ∈ o := h.mem_iff.2 (List.mem_range.2 hj)
  obtain ⟨t, ht⟩ := List.mem_iff_getElem?.1 hm
  have hl := (List.getElem?_eq_some_iff.1 ht).1
  rcases Nat.mod_two_eq_zero_or_one t with q | q
  · exact .inl ⟨t, hl, q, ht⟩
  · exact .inr ⟨t, hl, q, ht⟩
theorem ord_bd {o : List Nat} {n t a : Nat} (h : o.Perm (List.range n)) (ha : o[t]? = some a) : a < n := List.mem_range.1 (h.mem_iff.1 (List.mem_of_getElem? ha))
end Go.Proofs.YtffbohecdocajaaGreat

namespace Go.Proofs.YtffbohecdocajaaGreat
open Go.SL Go.Proofs Go.Pulse Go.Cast Go.Cell
set_option linter.unusedVariables false
def toV (s : Span) : Spanv := ⟨s.lo, s.hi⟩
theorem toV_rows {l : List Span} : l.map spanC = (l.map toV).map Spanv.cells := by rw [List.map_map]; rfl
theorem toV_get {l : List Span} {i : Nat} : (l.map toV).getD i ⟨0,0⟩ = toV (l.getD i ⟨0,0⟩) := by
  rw [List.getD_eq_getElem?_getD, List.getD_eq_getElem?_getD, List.getElem?_map]
  cases l[i]? <;> rfl
theorem open_0 {l : List Span} {W H : Nat} {lv : Int} (hW : 1 ≤ W ∧ W ≤ 6) (hH : 1 ≤ H ∧ H ≤ 6) (hl : l.length = W * H) (hs : ∀ i, i < W * H → 0 ≤ (l.getD i ⟨0,0⟩).lo ∧ (l.getD i ⟨0,0⟩).lo ≤ (l.getD i ⟨0,0⟩).hi ∧ (l.getD i ⟨0,0⟩).hi ≤ 1000000) (h1 : 1 ≤ lv) (h2 : lv ≤ 70000) :
    openE ⟨0,0,1000, (W : Nat), (H : Nat)⟩ (l.map toV) lv = 0 := by
  have hg : gridOk ⟨0,0,1000, (W : Nat), (H : Nat)⟩ := by unfold gridOk; dsimp only; omega
  have hf : fieldE 1073741824 ⟨⟨0,0,1000, (W : Nat), (H : Nat)⟩, l.map toV⟩ = 0 := by
    unfold fieldE
    rw [if_neg (fun q => q hg), if_neg (fun q => q (by show (((l.map toV).length : Nat) : Int) = (W : Int) * (H : Int); rw [List.length_map, hl, Int.natCast_mul]))]
    refine firstE_zero fun k hk => if_pos ?_
    have hk2 : k < W * H := by
      have : k < (l.map toV).length := hk
      rw [List.length_map, hl] at this; exact this
    show spanOk _ ((l.map toV).getD k ⟨0,0⟩)
    rw [toV_get]
    have := hs k hk2
    unfold spanOk toV
    dsimp only
    omega
  unfold openE
  rw [if_neg (fun q => q hf), if_neg (by omega)]
theorem may_V {l : List Span} {lv : Int} {p : Nat} (h : lv ≤ (l.getD p ⟨0,0⟩).hi) : mayB (l.map toV) lv p = true := by
  unfold mayB; rw [toV_get]; exact decide_eq_true h
theorem in_V {l : List Span} {lv : Int} {p : Nat} (h : inBv (l.map toV) lv p = true) : lv ≤ (l.getD p ⟨0,0⟩).lo := by
  unfold inBv at h; rw [toV_get] at h; exact of_decide_eq_true h
/-- Areas have all pixels that may be in. -/
theorem ar_may {W H : Nat} {vs : List Spanv} {lv : Int} {y : ArY} (h : ArP W H vs lv y) {p : Nat} (hp : p < W * H) (hm : mayB vs lv p = true) : ∃ a, a ∈ y.l ∧ p ∈ a.px.l := by
  obtain ⟨l, h1, h2⟩ := parts_all (p := W * H) (Nat.le_refl _) hp hm
  have h3 : areaM W H vs lv l ∈ y.l.map AreaR.m := by rw [h.m]; exact List.mem_map_of_mem (f := areaM W H vs lv) h1
  obtain ⟨a, ha, e⟩ := List.mem_map.1 h3
  refine ⟨a, ha, ?_⟩
  have e2 : a.px.l = l := congrArg AreaM.px e
  rw [e2]; exact h2
theorem ar_px {W H : Nat} {vs : List Spanv} {lv : Int} {y : ArY} (h : ArP W H vs lv y) {a : AreaR} (ha : a ∈ y.l) {p : Nat} (hp : p ∈ a.px.l) : p < W * H := by
  have h3 : AreaR.m a ∈ areasM W H vs lv := by rw [← h.m]; exact List.mem_map_of_mem ha
  obtain ⟨l, hl, e⟩ := List.mem_map.1 h3
  have e2 : l = a.px.l := congrArg AreaM.px e
  rw [← e2] at hp
  exact (parts_cn (Nat.le_refl _) hl hp).2.1
theorem ar_kr {W H : Nat} {vs : List Spanv} {lv : Int} {y : ArY} (h : ArP W H vs lv y) {a : AreaR} (ha : a ∈ y.l) {k : RowA Nat} (hk : k ∈ a.kr) {p : Nat} (hp : p ∈ k.l) : p < W * H ∧ inBv vs lv p = true := by
  have h3 : AreaR.m a ∈ areasM W H vs lv := by rw [← h.m]; exact List.mem_map_of_mem ha
  obtain ⟨l, hl, e⟩ := List.mem_map.1 h3
  have e2 : (areaM W H vs lv l).ks = a.kr.map RowA.l := congrArg AreaM.ks e
  have h4 : k.l ∈ (areaM W H vs lv l).ks := by rw [e2]; exact List.mem_map_of_mem hk
  have h5 := (List.mem_filter.1 h4).1
  have := parts_cn (Nat.le_refl _) h5 hp
  exact ⟨this.2.1, this.1⟩
theorem parts_le {W H : Nat} {S : Nat → Bool} {l : List Nat} (hl : l ∈ partsL W H S) : l.length ≤ W * H := by
  obtain ⟨p, hp, hs, rfl⟩ := mem_partsTo (p := W * H) hl
  have hn : (compL W H S p).Nodup := (compL_sorted hp).imp fun h => Nat.ne_of_lt h
  have := length_le_of_subset (m := List.range (W * H)) hn (fun x hx => List.mem_range.2 (compL_lt hp hx))
  simpa using this
theorem ar_len {W H : Nat} {vs : List Spanv} {lv : Int} {y : ArY} (h : ArP W H vs lv y) {a : AreaR} (ha : a ∈ y.l) : a.px.l.length ≤ W * H ∧ ∀ k, k ∈ a.kr → k.l.length ≤ W * H := by
  have h3 : AreaR.m a ∈ areasM W H vs lv := by rw [← h.m]; exact List.mem_map_of_mem ha
  obtain ⟨l, hl, e⟩ := List.mem_map.1 h3
  have e1 : l = a.px.l := congrArg AreaM.px e
  have e2 : (areaM W H vs lv l).ks = a.kr.map RowA.l := congrArg AreaM.ks e
  refine ⟨by rw [← e1]; exact parts_le hl, fun k hk => ?_⟩
  have h4 : k.l ∈ (areaM W H vs lv l).ks := by rw [e2]; exact List.mem_map_of_mem hk
  exact parts_le (List.mem_filter.1 h4).1
theorem partsTo_len {W H : Nat} {S : Nat → Bool} : ∀ {p : Nat}, (partsTo W H S p).length ≤ p
  | 0 => Nat.le_refl _
  | p + 1 => by
    have := partsTo_len (W := W) (H := H) (S := S) (p := p)
    show (if _ then _ else _ : List (List Nat)).length ≤ p + 1
    split
    · rw [List.length_append]; simp; omega
    · omega
theorem ar_cnt {W H : Nat} {vs : List Spanv} {lv : Int} {y : ArY} (h : ArP W H vs lv y) : y.l.length ≤ W * H ∧ ∀ a, a ∈ y.l → a.kr.length ≤ W * H := by
  constructor
  · have e := congrArg List.length h.m
    unfold areasM at e
    rw [List.length_map, List.length_map] at e
    rw [e]
    exact partsTo_len
  · intro a ha
    have h3 : AreaR.m a ∈ areasM W H vs lv := by rw [← h.m]; exact List.mem_map_of_mem ha
    obtain ⟨l, hl, e⟩ := List.mem_map.1 h3
    have e2 : (areaM W H vs lv l).ks = a.kr.map RowA.l := congrArg AreaM.ks e
    have e3 := congrArg List.length e2
    rw [List.length_map] at e3
    rw [← e3]
    exact Nat.le_trans (List.length_filter_le _ _) partsTo_len
/-- What is marked while areas are read. -/
structure MrkI (n : Nat) (vs : List Spanv) (lv : Int) (P : Nat → Prop) (my sr : List Bool) : Prop where
  l : my.length = n ∧ sr.length = n
  m : ∀ p, p < n → P p → my.getD p false = true
  s : ∀ p, sr.getD p false = true → inBv vs lv p = true
theorem getD_setB {l : List Bool} {i p : Nat} {v : Bool} : (l.set i v).getD p false = if i = p ∧ i < l.length then v else l.getD p false := by
  rw [List.getD_eq_getElem?_getD, List.getD_eq_getElem?_getD, List.getElem?_set]
  by_cases e : i = p
  · subst e
    rw [if_pos rfl]
    by_cases q : i < l.length
    · rw [if_pos q, if_pos ⟨rfl, q⟩]; rfl
    · rw [if_neg q, if_neg (fun z => q z.2), List.getElem?_eq_none (by omega)]
  · rw [if_neg e, if_neg (fun z => e z.1)]
theorem getD_rep {n p : Nat} : (List.replicate n false).getD p false = false := by
  rw [List.getD_eq_getElem?_getD, List.getElem?_replicate]; split <;> rfl
section
variable {n : Nat} {vs : List Spanv} {lv : Int} {P Q : Nat → Prop} {my sr : List Bool}
theorem MrkI.zero : MrkI n vs lv (fun _ => False) (List.replicate n false) (List.replicate n false) :=
  ⟨⟨List.length_replicate, List.length_replicate⟩, fun _ _ h => h.elim, fun p h => by rw [getD_rep] at h; cases h⟩
theorem MrkI.to (h : MrkI n vs lv P my sr) (hq : ∀ p, p < n → Q p → P p) : MrkI n vs lv Q my sr := ⟨h.l, fun p hp q => h.m p hp (hq p hp q), h.s⟩
theorem MrkI.putM (h : MrkI n vs lv P my sr) {q : Nat} (hq : q < n) : MrkI n vs lv (fun p => P p ∨ p = q) (my.set q true) sr := by
  refine ⟨⟨by rw [List.length_set]; exact h.l.1, h.l.2⟩, fun p hp z => ?_, h.s⟩
  rw [getD_setB]
  split
  · rfl
  · rename_i w
    rcases z with z | z
    · exact h.m p hp z
    · exact absurd ⟨z.symm, by rw [h.l.1]; exact hq⟩ w
theorem MrkI.putS (h : MrkI n vs lv P my sr) {q : Nat} (hq : inBv vs lv q = true) : MrkI n vs lv P my (sr.set q true) := by
  refine ⟨⟨h.l.1, by rw [List.length_set]; exact h.l.2⟩, h.m, fun p z => ?_⟩
  rw [getD_setB] at z
  split at z
  · rename_i w; rw [← w.1]; exact hq
  · exact h.s p z
end
/-- The pixels of the first areas. -/
def pxTo (l : List AreaR) (i : Nat) (p : Nat) : Prop := ∃ a, a ∈ l.take i ∧ p ∈ a.px.l
theorem pxTo_0 {l : List AreaR} {p : Nat} : ¬ pxTo l 0 p := fun ⟨a, h,_⟩ => by rw [List.take_zero] at h; cases h
theorem pxTo_next {l : List AreaR} {i p : Nat} {a : AreaR} (h : l[i]? = some a) (hp : pxTo l (i + 1) p) : pxTo l i p ∨ p ∈ a.px.l := by
  obtain ⟨b, hb, hp⟩ := hp
  rw [List.take_add_one, h] at hb
  rcases List.mem_append.1 hb with q | q
  · exact .inl ⟨b, q, hp⟩
  · have : b = a := by simpa using q
    subst this; exact .inr hp
theorem pk_next {l : List Nat} {k p q : Nat} (h : l[k]? = some q) (hp : p ∈ l.take (k + 1)) : p ∈ l.take k ∨ p = q := by
  rw [List.take_add_one, h] at hp
  rcases List.mem_append.1 hp with z | z
  · exact .inl z
  · exact .inr (by simpa using z)
/-- The example. -/
def exI : NtI := ⟨3,0, [9,9,0,9], [(0,0,7,10)], [(0,0,1,1,1)], [], 0,0⟩
theorem exB : NtB exI := by
  refine ⟨by decide, by decide, ⟨by decide, by decide⟩, ⟨by decide, fun v hv => ?_⟩, ⟨by decide, fun v hv => ?_⟩, ⟨by decide, by decide⟩, by decide, by decide⟩
  · have := List.mem_singleton.1 hv; subst this; decide
  · have := List.mem_singleton.1 hv; subst this; decide
def exR : List RdM := [⟨0,0,0,10,8⟩]
theorem ex_rds : rdsF exI.rd (min exI.rd.length 3) = exR := by decide
def exM : B5 := (0,0,1,1,1)
def exK : KeyM := (0,0,100)
def exV : List Span := [⟨8,10⟩, ⟨8,10⟩, ⟨0,1⟩, ⟨8,10⟩]
theorem ex_k : msgK exR exM = exK := by decide
theorem ex_v : msgV exI.rn exM (4 * 1) = exV := by decide
theorem ex_L : RdL exR := ⟨by decide, fun i x h => by
  match i, h with
  | 0, h => cases h; exact ⟨rfl, ⟨0, by decide, by decide⟩, ⟨0, by decide, by decide⟩, by decide, by decide⟩
  | i + 1, h => cases h⟩
theorem ex_mg {q : NdQ} (hw : q.w = 4) (hh : q.h = 1) : MgOk q (rdR exR exR.length) (msgK exR exM) (msgV exI.rn exM (4 * 1)) := by
  have := msg_ok (x := exI) exB ex_L (q := q) (b := exM) (List.mem_singleton.2 rfl) (by omega) (by omega)
  rwa [hw, hh] at this
def exS : KeyM → List (List Span) := addS (fun _ => []) (msgK exR exM) (msgV exI.rn exM (4 * 1))
theorem add_one {k m : KeyM} {v : List Span} : addS (fun _ => []) k v m = if m = k then [v] else [] := by
  unfold addS
  rw [if_neg (by intro h; cases h)]
  rfl
theorem ex_S (m : KeyM) : exS m = if m = exK then [exV] else [] := by unfold exS; rw [add_one, ex_k, ex_v]
theorem ex_SetP : SetP exI exR (4 * 1) (fun t => False ∨ t = 0) exS := SetP.zero.add (x := exI) (j := 0) (b := exM) rfl
theorem ex_Ok : RdsOk (rdR exR exR.length) exS := ex_SetP.ok exB ex_L
theorem ex_ks {ks : List KeyM} (h : KeysOf exS ks) : ks = [exK] := h.uniq ⟨List.pairwise_singleton _ _, fun k => by
  rw [ex_S]
  by_cases q : k = exK
  · rw [if_pos q]; simp [q]
  · rw [if_neg q]; simp [q]⟩
theorem ex_hd : hdK exS 100 [exK] [exK] = [exK] := by
  have ho : okK exS 100 exK := by
    unfold okK
    rw [ex_S, if_pos rfl]
    decide
  have hb : hdB exS 100 [exK] exK := by
    unfold hdB nwK
    rw [List.foldl_cons, if_pos ho, List.foldl_nil]
    unfold updG
    rw [if_pos rfl]; rfl
  unfold hdK
  rw [List.filter_cons_of_pos (by simpa using hb)]; rfl
def exX : RdM := ⟨0,0,0,10,8⟩
def exL : List Span := [lkS exX 0 0, lkS exX 0 1, lkS exX 0 2, lkS exX 0 3]
theorem ex_lk : LkP exX 0 4 exL := fun i v h => by
  match i, h with
  | 0, h => cases h; exact ⟨0, ⟨.inr (by decide +kernel)⟩, rfl⟩
  | 1, h => cases h; exact ⟨1, ⟨.inr (by decide +kernel)⟩, rfl⟩
  | 2, h => cases h; exact ⟨2, ⟨.inr (by decide +kernel)⟩, rfl⟩
  | 3, h => cases h; exact ⟨3, ⟨.inr (by decide +kernel)⟩, rfl⟩
  | i + 4, h => cases h
theorem ex_px : (((List.range (4 * 1)).map (pxF [(exK, exV, exL)])).map PxM.s) = exV := by decide +kernel
theorem ex_hs {vs ls : List VY} {hs : List HdY} (h : HdA exS (rdR exR exR.length) 4 1 100 vs ls hs) : hs.map HdY.t = [(exK, exV, exL)] := by
  obtain ⟨ks, hk, e⟩ := h.k
  rw [ex_ks hk, ex_hd] at e
  match hs, e, h.h with
  | [], e,_ => exact absurd (congrArg List.length e) (by simp)
  | [a], e, hh =>
    have ek : a.k = exK := (List.cons.inj e).1
    have p := hh a List.mem_cons_self
    have m := p.m.2
    rw [ek, ex_S, if_pos rfl] at m
    have mv : exV = a.m.v := (List.cons.inj m).1
    obtain ⟨x, hx, hl⟩ := p.x
    rw [ek] at hx hl
    have ex : x = exX := by
      have : rdR exR exR.length exK.1 = some (some exX) := by decide +kernel
      rw [this] at hx
      cases hx; rfl
    subst ex
    have lv := hl.uniq (by decide) (by decide) ex_lk (by rw [p.l.2]; rfl)
    show [(a.k, a.m.v, a.l.v)] = _
    rw [ek, ← mv, lv]
  | a :: b :: l, e,_ => exact absurd (congrArg List.length e) (by simp)
theorem ex_map {vs ls : List VY} {y : List PxM × (KeyW → Option VY) × List VY} (h : MapP exS (rdR exR exR.length) 4 1 100 vs ls y) : y.1.map PxM.s = exV := by
  obtain ⟨hs, a, e⟩ := h.p
  rw [e, ex_hs a]
  exact ex_px
def exW : List Spanv := exV.map toV
theorem ex_ar : (areasM 4 1 exW 8).map (fun a => (a.px, a.ks.length)) = [([0,1], 1), ([3], 1)] := by decide +kernel
theorem ex_open : openE ⟨0,0,1000, (4 : Nat), (1 : Nat)⟩ exW 8 = 0 := open_0 (l := exV) (W := 4) (H := 1) (by decide) (by decide) rfl (by decide) (by decide) (by decide)
/-- The areas of the example. -/
structure ExA (l : List AreaR) : Prop where
  h : ∃ a b, l = [a, b] ∧ (a.px.l.length = 2 ∧ a.kr.length = 1) ∧ b.px.l = [3]
theorem ex_area {y : ArY} (h : ArP 4 1 exW 8 y) : ExA y.l := by
  have e := ex_ar
  rw [← h.m, List.map_map] at e
  match hl : y.l, e with
  | [], e => exact absurd (congrArg List.length e) (by simp)
  | [a], e => exact absurd (congrArg List.length e) (by simp)
  | [a, b], e =>
    have e1 := (List.cons.inj e).1
    have e2 := (List.cons.inj (List.cons.inj e).2).1
    have p1 : a.px.l = [0,1] := congrArg Prod.fst e1
    have p2 : (a.kr.map RowA.l).length = 1 := congrArg Prod.snd e1
    have p3 : b.px.l = [3] := congrArg Prod.fst e2
    exact ⟨a, b, rfl, ⟨by rw [p1]; rfl, by rwa [List.length_map] at p2⟩, p3⟩
  | a :: b :: c :: l, e => exact absurd (congrArg List.length e) (by simp)
end Go.Proofs.YtffbohecdocajaaGreat

namespace Go.Proofs.YtffbohecdocajaaGreat
open Go.SL Go.Proofs Go.Pulse Go.Cast Go.Cell
set_option linter.unusedVariables false
/-- What is read of areas, pixels too. -/
structure ArRd (w : World) (y : ArY) : Prop where
  ar : RO 8 AreaR.cells w y.p y.l
  px : ∀ a, a ∈ y.l → RO 1 nC w a.px.p a.px.l
  kr : ∀ a, a ∈ y.l → RR 1 nC w a.kp a.kr
theorem ArRd.of_res {β : Bs} {L : List Res} {w : World} {y : ArY} {of : List Int} {W H : Nat} {vs : List Spanv} {lv : Int} (hw : St β (y.R of ++ L) w) (hp : ArP W H vs lv y) : ArRd w y := by
  have hR : RR 1 nC w y.pr y.rs := RR.of_own hw 5 6 rfl rfl
  refine ⟨RO.of_own hw 0 rfl, fun a ha => (hR.2 a.px (by rw [← hp.px]; exact List.mem_map_of_mem ha)).2, fun a ha => ⟨own_inv_rows ((hw.inv 1 _ rfl).1 _ (List.mem_map_of_mem (f := AreaR.kR) ha)), fun x hx => ?_⟩⟩
  have h := hw.inv 3 _ rfl _ (List.mem_map_of_mem (f := fun x : RowA Nat => own 3 1 x.p x.c (x.l.map nC)) (hp.kr a ha x hx))
  refine ⟨?_, own_inv_rows h⟩
  have := h.1
  rwa [List.length_map] at this
theorem ArRd.keep {w0 : World} {y : ArY} (h : ArRd w0 y) : ∀ {L : List Res} (w : World), St (bs w0) L w → ArRd w y := fun w hw => ⟨h.ar.keep w hw, fun a ha => (h.px a ha).keep w hw, fun a ha => (h.kr a ha).keep w hw⟩
theorem spV {w : World} {p : Option Addr} {l : List Span} (h : Go.SL.Rows w 2 p (l.map spanC)) : Spansv w p (l.map toV) := by unfold Spansv; rw [← toV_rows]; exact h
theorem nmO_n : ∀ {k : Option (Fin 3)}, ((nmO k).toList == (⟨#[]⟩ : ByteArray).toList) = true → k = none
  | none,_ => rfl
  | some r, h => by revert h; revert r; decide +kernel
/-- Where a node's parts lie. -/
structure NdR where
  pr : Option Addr
  cr : Nat
  rm : Nat
  km : Nat
  lm : Nat
abbrev mkQ (W H n : Nat) (r : NdR) : NdQ := ⟨W, H, n, r.pr, r.cr, r.rm, r.km, r.lm⟩
theorem New_q (W H : Nat) (hW : 1 ≤ W ∧ W ≤ 6) (hH : 1 ≤ H ∧ H ≤ 6) (rds : List RdM) (ps : Option Addr) (cs : Nat) (hL : RdL rds) (w : World) (hR : RO 10 rdC w ps rds) :
    Calls Tryz.prog 35 #[.agg #[.int .i64 0, .int .i64 0, .int .i64 1000, .int .i64 (W : Nat), .int .i64 (H : Nat), .int .i64 8000000, .int .i64 9000000, .slice ps rds.length cs, .int .i64 600]] w fun e w' => ∃ y : Nat × NdR, True ∧ e = .returned (.tuple #[.pointer (some ⟨y.1,0, none⟩), .int .i64 0]) ∧ St (bs w) [ndB y.1 (mkQ W H rds.length y.2) 0, own 270 10 y.2.pr y.2.cr (rds.map rdC), mapR nmV rdV y.2.rm (rdR rds rds.length), mapR keyV tV y.2.km (fun _ => none), mapR wV lkV y.2.lm (fun _ => none)] w' :=
  (New_c W H hW hH rds ps cs hL w hR).mono fun e w' ⟨⟨b, q⟩, ⟨h1, h2, h3⟩, he, hs⟩ => by
    obtain ⟨qw, qh, qn, pr, cr, rm, km, lm⟩ := q
    dsimp only at h1 h2 h3
    subst h1; subst h2; subst h3
    exact ⟨(b, ⟨pr, cr, rm, km, lm⟩), trivial, he, hs⟩
theorem spec_q (x : NtI) (p : NtA) (hx : NtB x) (W H : Nat) (rds : List RdM) (eW : 1 + x.wd.tmod 6 = ((W : Nat) : Int)) (eH : 1 + x.hg.tmod 6 = ((H : Nat) : Int)) (eR : rdsF x.rd (min x.rd.length 3) = rds) (w : World) (hM : NtM x p w) :
    Calls Tryz.prog 34 #[.agg (ntL x p).toArray] w fun e w' => ∃ y : Option Addr × Nat, True ∧ e = .returned (.agg #[.int .i64 0, .int .i64 0, .int .i64 1000, .int .i64 (W : Nat), .int .i64 (H : Nat), .int .i64 8000000, .int .i64 9000000, .slice y.1 rds.length y.2, .int .i64 600]) ∧ St (bs w) [own 270 10 y.1 y.2 (rds.map rdC)] w' := by
  have h := spec_c x p hx w hM
  rw [eW, eH, eR] at h
  exact h
/-- What changes of a node. -/
structure NdG where
  S : KeyM → List (List Span)
  M : KeyM → Option TY
  c : Nat
def NdG.zero : NdG := ⟨fun _ => [], fun _ => none, 0⟩
def NdG.off (g : NdG) (k : KeyM) (v : List Span) (y : NdY) : NdG := ⟨addS g.S k v, y.1, y.2.2.2⟩
/-- A node has some of the messages. -/
structure NodeP (x : NtI) (rds : List RdM) (n : Nat) (P : Nat → Prop) (g : NdG) (ts : List TY) (vs : List VY) (m : Nat) : Prop where
  s : NdS g.S g.M ts vs g.c
  p : SetP x rds n P g.S
  c : g.c ≤ m
section
variable {x : NtI} {rds : List RdM} {n : Nat} {P Q : Nat → Prop} {g g2 : NdG} {ts ts2 : List TY} {vs vs2 : List VY} {m : Nat}
theorem NodeP.zero : NodeP x rds n (fun _ => False) NdG.zero [] [] 0 := ⟨⟨NdK.zero, NdN.zero⟩, SetP.zero, Nat.le_refl _⟩
theorem NodeP.mono (h : NodeP x rds n P g ts vs m) (h1 : ∀ e, e ∈ ts → e ∈ ts2) (h2 : ∀ e, e ∈ vs → e ∈ vs2) : NodeP x rds n P g ts2 vs2 m := ⟨⟨h.s.k.mono h1 h2, h.s.n⟩, h.p, h.c⟩
theorem NodeP.le (h : NodeP x rds n P g ts vs m) {k : Nat} (hk : m ≤ k) : NodeP x rds n P g ts vs k := ⟨h.s, h.p, Nat.le_trans h.c hk⟩
theorem NodeP.congr (h : NodeP x rds n P g ts vs m) (hq : ∀ j, j < x.ms.length → (P j ↔ Q j)) : NodeP x rds n Q g ts vs m := ⟨h.s, h.p.congr hq, h.c⟩
theorem NodeP.off (h : NodeP x rds n P g ts vs m) {j : Nat} {b : B5} (hb : x.ms[j]? = some b) {y : NdY} (hy : OfP g.S ts vs g.c (msgK rds b) (msgV x.rn b n) y) : NodeP x rds n (fun t => P t ∨ t = j) (g.off (msgK rds b) (msgV x.rn b n) y) y.2.1 y.2.2.1 (m + 1) :=
  ⟨hy.s, h.p.add hb, Nat.le_trans hy.c (Nat.succ_le_succ h.c)⟩
end
theorem LkI.nil {R : Fin 3 → Option (Option RdM)} {W H : Nat} {ls : List VY} : LkI R W H (fun _ => none) ls := fun k y h => by cases h
abbrev mkC (b : Bool) : List Value := [.bool b]
/-- The values of a map. -/
def vW (l : List PxM) : List Spanv := (l.map PxM.s).map toV
theorem vW_get {l : List PxM} {i : Nat} (h : i < l.length) : (l.map PxM.s).getD i ⟨0,0⟩ = (l.getD i zPx).s := by
  rw [List.getD_eq_getElem?_getD, List.getD_eq_getElem?_getD, List.getElem?_map, List.getElem?_eq_getElem h]; rfl
theorem vW_may {l : List PxM} {lv : Int} {p : Nat} (hp : p < l.length) (h : lv ≤ (l.getD p zPx).s.hi) : mayB (vW l) lv p = true := may_V (by rw [vW_get hp]; exact h)
theorem vW_in {l : List PxM} {lv : Int} {p : Nat} (hp : p < l.length) (h : inBv (vW l) lv p = true) : lv ≤ (l.getD p zPx).s.lo := by
  have := in_V h
  rwa [vW_get hp] at this
theorem Areas_q (W H : Nat) (hW : 1 ≤ W ∧ W ≤ 6) (hH : 1 ≤ H ∧ H ≤ 6) (l : List PxM) (p : Option Addr) (c : Nat) (lv : Int) (w : World) (hr : RO 2 spanC w p (l.map PxM.s)) (hl : l.length = W * H) (hs : ∀ i, i < W * H → 0 ≤ (l.getD i zPx).s.lo ∧ (l.getD i zPx).s.lo ≤ (l.getD i zPx).s.hi ∧ (l.getD i zPx).s.hi ≤ 1000000) (h1 : 1 ≤ lv) (h2 : lv ≤ 70000) :
    Calls Tryz.prog 43 #[.agg #[.int .i64 0, .int .i64 0, .int .i64 1000, .int .i64 (W : Nat), .int .i64 (H : Nat), .slice p l.length c], .int .i64 lv] w fun e w' => ∃ y : ArY, ArP W H (vW l) lv y ∧ e = .returned (.tuple #[.slice y.p y.l.length y.c, .int .i64 0]) ∧ St (bs w) (y.R (ofL W H (mayB (vW l) lv))) w' := by
  have hll : (l.map PxM.s).length = W * H := by rw [List.length_map]; exact hl
  have hok : openE ⟨0,0,1000, (W : Nat), (H : Nat)⟩ (vW l) lv = 0 := open_0 hW hH hll (fun i hi => by rw [vW_get (by omega)]; exact hs i hi) h1 h2
  have h := Areas_ok ⟨0,0,1000, (W : Nat), (H : Nat)⟩ (vW l) p c lv w (spV hr) hok
  have hv : (vW l).length = l.length := by unfold vW; rw [List.length_map, List.length_map]
  rw [hv] at h
  exact h
theorem agg139p : IsAgg Tryz.prog 139 3 := ⟨⟨_, Tryz.underlying139, rfl⟩, by kernel_rfl⟩
theorem self139o (k : KO) (d : Nat) : SelfE Tryz.prog 139 (d + 2) (.agg #[.string (nmO k.1), .int .i64 k.2.1, .int .i64 k.2.2]) := by
  refine SelfE.struct Tryz.underlying139 (by kernel_rfl) fun F hF => ?_
  simp only [List.mem_cons, List.not_mem_nil, or_false] at hF
  rcases hF with rfl | rfl | rfl
  · exact ⟨nmOV k.1, part_one one9 rfl, SelfE.one cell9o _ _⟩
  all_goals exact ⟨intV _, part_one one3 rfl, SelfE.one cell3 _ _⟩
theorem self163 (x : PxM) : SelfE Tryz.prog 163 10000 (.agg (pxC x).toArray) := by
  refine SelfE.struct (d := 9999) Tryz.underlying163 (by kernel_rfl) fun F hF => ?_
  simp only [List.mem_cons, List.not_mem_nil, or_false] at hF
  rcases hF with rfl | rfl
  · exact ⟨_, part_agg agg25, SelfE.flat (xs := [x.s.lo, x.s.hi]) flat25 rfl (by decide)⟩
  · exact ⟨_, part_agg agg139p, self139o x.k 9997⟩
theorem guard163 : Tryz.prog.eqGuardType Tryz.prog.depth 163 = false := by kernel_rfl
/-- What a map shows and what areas mark. -/
theorem px_may {x : NtI} {W H p : Nat} {l : List PxM} {lv : Int} {y : ArY} {my sr : List Bool} (hl : l.length = W * H) (hy : ArP W H (vW l) lv y) (hm : MrkI (W * H) (vW l) lv (pxTo y.l y.l.length) my sr) (hp : p < W * H) (hx : PxP x p (l.getD p zPx)) (hv : lv ≤ rainF x.rn p) : my.getD p false = true := by
  have ht := hx.t
  obtain ⟨a, ha, hpa⟩ := ar_may hy hp (vW_may (by omega) (by omega))
  exact hm.m p hp ⟨a, by rw [List.take_length]; exact ha, hpa⟩
theorem px_sure {x : NtI} {W H p : Nat} {l : List PxM} {lv : Int} {P : Nat → Prop} {my sr : List Bool} (hl : l.length = W * H) (hm : MrkI (W * H) (vW l) lv P my sr) (hp : p < W * H) (hx : PxP x p (l.getD p zPx)) (hv : rainF x.rn p < lv) : sr.getD p false = false := by
  have ht := hx.t
  cases q : sr.getD p false with
  | false => rfl
  | true =>
    have := vW_in (by omega) (hm.s p q)
    omega
theorem px_end {x : NtI} {W H p : Nat} {l l2 : List PxM} {lv : Int} {y : ArY} {my sr : List Bool} (hl : l.length = W * H) (e2 : l2 = l) (hy : ArP W H (vW l2) lv y) (hm : MrkI (W * H) (vW l2) lv (pxTo y.l y.l.length) my sr) (hp : p < W * H) (hx : PxP x p (l.getD p zPx))
    (h : (((((false = true ∨ rainF x.rn p < (l.getD p zPx).s.lo) ∨ (l.getD p zPx).s.hi < rainF x.rn p) ∨ ¬[(l.getD p zPx).s.lo, (l.getD p zPx).s.hi] = [((List.map PxM.s l2).getD p zs).lo, ((List.map PxM.s l2).getD p zs).hi]) ∨ ((nmO (l.getD p zPx).k.1).toList == (⟨#[]⟩ : ByteArray).toList) = true ∧ ¬(l.getD p zPx).s.hi = 1000000) ∨ lv ≤ rainF x.rn p ∧ ¬my.getD p false = true) ∨ rainF x.rn p < lv ∧ sr.getD p false = true) : False := by
  subst e2
  have ht := hx.t
  rcases h with ((((((z | z) | z) | z) | ⟨z1, z2⟩) | ⟨z1, z2⟩) | ⟨z1, z2⟩)
  · cases z
  · omega
  · omega
  · rw [show (l2.map PxM.s).getD p zs = (l2.getD p zPx).s from vW_get (by omega)] at z
    exact z rfl
  · exact z2 (hx.n (nmO_n z1))
  · exact z2 (px_may hl hy hm hp hx z1)
  · rw [px_sure hl hm hp hx z1] at z2
    cases z2
end Go.Proofs.YtffbohecdocajaaGreat
