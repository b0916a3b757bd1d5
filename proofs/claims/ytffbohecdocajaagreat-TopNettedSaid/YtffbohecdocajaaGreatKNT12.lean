/-
  The law on networks: the example.
  The law on networks, walked.
  What a reading says of a network.
-/
import Derived.Test.YtffbohecdocajaaGreatKNT11

set_option linter.unusedSimpArgs false
namespace Go.Proofs.YtffbohecdocajaaGreat
open Go.SL Go.Proofs Go.Pulse Go.Cast Go.Cell
set_option linter.unusedVariables false

theorem Z28 : ZeroOf Tryz.prog 28 (.int .u16 0) := by unfold ZeroOf; kernel_rfl
theorem B268 : BuildsA Tryz.prog 268 [(0,1), (1,1), (2,1), (3,1)] [.int .u8 0, .int .u8 0, .int .u8 0, .int .u8 0] := BuildsA.mk (z := 1) (n := 4) (fun _ => by kernel_rfl) rfl
theorem B143 : BuildsA Tryz.prog 143 [(0,1), (1,1), (2,1), (3,1), (4,1)] [.int .u8 0, .int .u8 0, .int .u8 0, .int .u8 0, .int .u8 0] := BuildsA.mk (z := 1) (n := 5) (fun _ => by kernel_rfl) rfl
theorem S126 : IsSlice Tryz.prog 126 143 := Tryz.underlying126
theorem Z143 : ZeroOf Tryz.prog 143 (.agg #[.int .u8 0, .int .u8 0, .int .u8 0, .int .u8 0, .int .u8 0]) := by unfold ZeroOf; kernel_rfl
theorem N143 : (Tryz.prog.info? 143).map (·.size) = some 5 := by kernel_rfl
theorem B128 : Builds Tryz.prog 128 [(0,1), (1,1), (2,1), (3,1), (4,1), (5,1), (6,1), (7,1)] [.int .u8 0, .int .u8 0, .slice none 0 0, .slice none 0 0, .slice none 0 0, .slice none 0 0, .int .u16 0, .int .u16 0] := Builds.mk fun _ => by kernel_rfl
theorem Z128 : ZeroOf Tryz.prog 128 (.agg #[.int .u8 0, .int .u8 0, .slice none 0 0, .slice none 0 0, .slice none 0 0, .slice none 0 0, .int .u16 0, .int .u16 0]) := by unfold ZeroOf; kernel_rfl
theorem N128 : (Tryz.prog.info? 128).map (·.size) = some 8 := by kernel_rfl
theorem C34 : IsFn Tryz.prog 34 := ⟨_, Tryz.func34, by decide, rfl⟩
theorem C35 : IsFn Tryz.prog 35 := ⟨_, Tryz.func35, by decide, rfl⟩
theorem F128_4 : FieldAt Tryz.prog 128 4 4 := ⟨_,_, Tryz.underlying128, rfl, rfl, 0, by kernel_rfl⟩
theorem O126 : IsOne Tryz.prog 126 := ⟨⟨_, Tryz.underlying126, rfl⟩, by kernel_rfl⟩
theorem A143 : IsAgg Tryz.prog 143 5 := ⟨⟨_, Tryz.underlying143, rfl⟩, by kernel_rfl⟩
theorem C37 : IsFn Tryz.prog 37 := ⟨_, Tryz.func37, by decide, rfl⟩
theorem C36 : IsFn Tryz.prog 36 := ⟨_, Tryz.func36, by decide, rfl⟩
theorem C41 : IsFn Tryz.prog 41 := ⟨_, Tryz.func41, by decide, rfl⟩
theorem C43 : IsFn Tryz.prog 43 := ⟨_, Tryz.func43, by decide, rfl⟩
theorem F160_0 : FieldAt Tryz.prog 160 0 0 := ⟨_,_, Tryz.underlying160, rfl, rfl, 0, by kernel_rfl⟩


set_option maxRecDepth 20000 in
set_option maxHeartbeats 4000000 in
theorem works_n (w : World) :
  Calls Tryz.prog 33 #[] w fun e w' => e = .returned (.bool true) ∧ St (bs w) [] w' := by
  refine enter (vs := []) (env := []) Tryz.func33 rfl rfl rfl rfl ?_
  refine VC.seq ?_
  refine VC.reg (VO.l (LO.as (.r rfl)) rfl<|VO.nil ?_)
  refine VE.seqN ?_
  refine VC.seq ?_
  refine VC.reg (VO.h rfl<|HO.bs (ps := [(_,_), (_,_), (_,_), (_,_)]) (vs := [(_,_), (_,_), (_,_), (_,_)]) (Z := [_,_,_,_]) (C := [_,_,_,_]) S55 Z28 N28 ⟨(.r rfl), (.r rfl), (.r rfl), (.r rfl), trivial⟩ rfl rfl rfl rfl ⟨_, [_], [_,_,_,_], rfl, rfl, rfl, rfl, ⟨_, [_], [_,_,_,_], rfl, rfl, rfl, rfl, ⟨_, [_], [_,_,_,_], rfl, rfl, rfl, rfl, ⟨_, [_], [_,_,_,_], rfl, rfl, rfl, rfl, rfl⟩⟩⟩⟩ fun b1 => VO.l (LO.bda (ps := [(_,_), (_,_), (_,_), (_,_)]) (vs := [(_,_), (_,_), (_,_), (_,_)]) (C := [_,_,_,_]) B268 rfl ⟨(.r rfl), (.r rfl), (.r rfl), (.r rfl), trivial⟩ rfl ⟨_, [_], [_,_,_,_], rfl, rfl, rfl, rfl, ⟨_, [_], [_,_,_,_], rfl, rfl, rfl, rfl, ⟨_, [_], [_,_,_,_], rfl, rfl, rfl, rfl, ⟨_, [_], [_,_,_,_], rfl, rfl, rfl, rfl, rfl⟩⟩⟩⟩) rfl<|VO.h rfl<|HO.bs (ps := [(_,_)]) (vs := [(_,_)]) (Z := [_,_,_,_]) (C := [_,_,_,_]) S125 Z268 N268 ⟨(.r rfl), trivial⟩ rfl rfl rfl rfl ⟨_, [_,_,_,_], [_,_,_,_], rfl, rfl, rfl, rfl, rfl⟩ fun b2 => VO.l (LO.bda (ps := [(_,_), (_,_), (_,_), (_,_), (_,_)]) (vs := [(_,_), (_,_), (_,_), (_,_), (_,_)]) (C := [_,_,_,_,_]) B143 rfl ⟨(.r rfl), (.r rfl), (.r rfl), (.r rfl), (.r rfl), trivial⟩ rfl ⟨_, [_], [_,_,_,_,_], rfl, rfl, rfl, rfl, ⟨_, [_], [_,_,_,_,_], rfl, rfl, rfl, rfl, ⟨_, [_], [_,_,_,_,_], rfl, rfl, rfl, rfl, ⟨_, [_], [_,_,_,_,_], rfl, rfl, rfl, rfl, ⟨_, [_], [_,_,_,_,_], rfl, rfl, rfl, rfl, rfl⟩⟩⟩⟩⟩) rfl<|VO.h rfl<|HO.bs (ps := [(_,_)]) (vs := [(_,_)]) (Z := [_,_,_,_,_]) (C := [_,_,_,_,_]) S126 Z143 N143 ⟨(.r rfl), trivial⟩ rfl rfl rfl rfl ⟨_, [_,_,_,_,_], [_,_,_,_,_], rfl, rfl, rfl, rfl, rfl⟩ fun b3 => VO.h rfl<|HO.lo (LO.bd (ps := [(_,_), (_,_), (_,_), (_,_)]) (vs := [(_,_), (_,_), (_,_), (_,_)]) (C := [_,_,_,_,_,_,_,_]) B128  ⟨(.r rfl), (.r rfl), (.r rfl), (.r rfl), trivial⟩ rfl ⟨_, [_], [_,_,_,_,_,_,_,_], rfl, rfl, rfl, rfl, ⟨_, [_], [_,_,_,_,_,_,_,_], rfl, rfl, rfl, rfl, ⟨_, [_], [_,_,_,_,_,_,_,_], rfl, rfl, rfl, rfl, ⟨_, [_], [_,_,_,_,_,_,_,_], rfl, rfl, rfl, rfl, rfl⟩⟩⟩⟩)<|VO.h rfl<|HO.alloc (C := #[_,_,_,_,_,_,_,_]) Z128 rfl fun b4 => VO.h0<|HO.st 0 (vs := [_,_,_,_,_,_,_,_]) (C' := [_,_,_,_,_,_,_,_]) (L' := [_,_,_,_]) N128 rfl rfl rfl rfl rfl rfl rfl rfl<|VO.nil ?_)
  refine VE.seqN ?_
  refine VC.seq ?_
  refine VC.reg (VO.l (LO.lda (vs := [_,_,_,_,_,_,_,_]) A128 (.r rfl) (fun _ hw => cells_at hw 0 rfl ⟨_, rfl⟩) rfl) rfl<|VO.h rfl<|HO.callx (xs := [_]) (vs := [_]) C34 ⟨(.r rfl), trivial⟩ (fun w hw => spec_q exI ⟨some ⟨b1,0, none⟩, 4, some ⟨b2,0, none⟩, 1, some ⟨b3,0, none⟩, 1, none, 0⟩ exB 4 1 exR rfl rfl ex_rds w (⟨RO.ofC (fun _ => rfl) (cells_at hw 3 rfl ⟨_, rfl⟩), RO.ofC (fun _ => rfl) (cells_at hw 2 rfl ⟨_, rfl⟩), RO.ofC (fun _ => rfl) (cells_at hw 1 rfl ⟨_, rfl⟩), RO.ofNil rfl rfl⟩)) fun ys _ => VO.h rfl<|HO.alloc (C := #[_,_,_,_,_,_,_,_,_]) Z131 rfl fun b7 => VO.h0<|HO.st 0 (vs := [_,_,_,_,_,_,_,_,_]) (C' := [_,_,_,_,_,_,_,_,_]) (L' := [_,_,_,_,_,_]) N131 rfl rfl rfl rfl rfl rfl rfl rfl<|VO.nil ?_)
  refine VE.seqN ?_
  refine VC.seq ?_
  refine VC.reg (VO.l (LO.lda (vs := [_,_,_,_,_,_,_,_,_]) A131 (.r rfl) (fun _ hw => cells_at hw 0 rfl ⟨_, rfl⟩) rfl) rfl<|VO.h rfl<|HO.callx (xs := [_]) (vs := [_]) C35 ⟨(.r rfl), trivial⟩ (fun w hw => New_q 4 1 (by decide) (by decide) exR ys.1 ys.2 ex_L w (own_rows hw 1 rfl)) fun yn _ => VO.l (LO.mv (.r rfl)) rfl<|VO.l (LO.ex (.r rfl) rfl) rfl<|VO.l (LO.ex (.r rfl) rfl) rfl<|VO.l (LO.as (.r rfl)) rfl<|VO.l (LO.as (.r rfl)) rfl<|VO.nil ?_)
  refine VE.seqN ?_
  refine VC.seq ?_
  refine VC.seq ?_
  refine VC.reg (VO.l (LO.mv (.r rfl)) rfl<|VO.l (LO.ne (.r rfl) (.r rfl)) rfl<|VO.nil ?_)
  refine VE.seqN ?_
  refine VC.cond rfl (fun h24 => ?_) (fun h24 => ?_)
  ·
    (exfalso; exact h24 rfl)
  ·
    refine VC.skip (VE.seqN ?_)
    refine VC.seq ?_
    refine VC.res (fun _ h => (St.bagD (Rs := ([] : List TY).map tOwn) (St.bagD (Rs := ([] : List VY).map vOwn) h))) ?_
    show VC _ _ _ _ _ _ [_,_,_,_,_,_,_,_,_,_,_,_,_] _ _
    refine VC.drawFL (G := (Option Addr × Nat) × NdY) (fun y => [(5, .bool (!decide ((msgV exI.rn exM (4 * 1)) ∈ ([] : List (List Span))))), (4, .int .i64 0)]) [(3,_)] (fun y => [own 25 2 y.1.1 y.1.2 ((msgV exI.rn exM (4 * 1)).map spanC), ndB yn.1 (mkQ 4 1 exR.length yn.2) y.2.2.2.2, mapR keyV tV yn.2.km y.2.1, bagD (y.2.2.1.map tOwn), bagD (y.2.2.2.1.map vOwn)]) [_,_,_,_,_,_,_,_,_] (fun y => OfP (fun _ => []) [] [] 0 (msgK exR exM) (msgV exI.rn exM (4 * 1)) y.2) (selK (L1 := [_,_,_,_,_,_,_,_,_]) [3,4,6,7,8,9,10,11,12] rfl rfl) 8 [some 0, some 0, some 0, some 0, some 0, some 0, some 0, none, none, none, none, none, none, none] mixed (by kernel_rfl) (LX.l (fun _ hJ => LO.mv (.r rfl)) rfl<|LX.l (fun _ hJ => LO.lda (vs := [_,_,_,_,_,_,_,_]) A128 (.r rfl) (fun _ hw => cells_at (hJ _ hw) 5 rfl ⟨_, rfl⟩) rfl) rfl<|LX.l (fun _ hJ => LO.lda (vs := [_,_,_,_,_,_,_,_,_]) A131 (.r rfl) (fun _ hw => cells_at (hJ _ hw) 3 rfl ⟨_, rfl⟩) rfl) rfl<|LX.l (fun _ hJ => LO.fa (r := 4) F128_4 (.r rfl) rfl) rfl<|LX.l (fun _ hJ => LO.ld O126 (.r rfl) (fun _ hw => cells_at (hJ _ hw) 5 rfl ⟨_, rfl⟩)) rfl<|LX.l (fun _ hJ => LO.ix (j := 0) S126 N143 (.r rfl) (.r rfl) (by decide)) rfl<|LX.l (fun _ hJ => LO.lda (vs := [_,_,_,_,_]) A143 (.r rfl) (fun _ hw => cells_at (hJ _ hw) 6 rfl ⟨_, rfl⟩) rfl) rfl<|LX.s<|LX.s<|LX.s<|LX.s<|LX.s<|LX.s<|LX.s<|LX.nil) (fun hf => (HE.mk [7] (by kernel_rfl) rfl ⟨(HEo.op rfl rfl<|HO.callx (xs := [_,_,_]) (vs := [_,_,_]) C37 ⟨(.r rfl), (.r rfl), (.r rfl), trivial⟩ (fun w hw => message_c exI ⟨some ⟨b1,0, none⟩, 4, some ⟨b2,0, none⟩, 1, some ⟨b3,0, none⟩, 1, none, 0⟩ exB 4 1 (by decide) (by decide) exR ys.1 ys.2 (by decide) (by decide) exM (by decide) w (⟨RO.ofC (fun _ => rfl) (cells_at hw 12 rfl ⟨_, rfl⟩), RO.ofC (fun _ => rfl) (cells_at hw 11 rfl ⟨_, rfl⟩), RO.ofC (fun _ => rfl) (cells_at hw 10 rfl ⟨_, rfl⟩), RO.ofNil rfl rfl⟩) (own_rows hw 8 rfl)) fun ym _ => ⟨selK (L1 := [_,_,_,_,_,_,_,_,_]) [4,5,7,8,9,10,11,12,13] rfl rfl, (HE.mk [8] (by kernel_rfl) rfl ⟨(HEo.op rfl rfl<|HO.callP (first := []) (cap := []) (xs := [_,_]) (vs := [_,_]) [_,_,_,_] [_,_,_,_,_,_,_,_,_,_] (selK (L1 := [_,_,_,_] ++ [_,_,_,_,_,_,_,_,_,_]) [3,6,1,2,0,4,5,7,8,9,10,11,12,13] rfl rfl) (.r rfl) C36 ⟨(.r rfl), (.r rfl), trivial⟩ (fun w hw hh => Offer_c yn.1 (mkQ 4 1 exR.length yn.2) 0 (fun _ => []) (fun _ => none) [] [] (rdR exR exR.length) (msgK exR exM) (msgV exI.rn exM (4 * 1)) ym.1 ym.2 w ⟨NdK.zero, NdN.zero⟩ (by decide) (ex_mg rfl rfl) hh (fun L w2 h2 => own_inv_rows ((St.rightOf (St.fz (selK (L1 := [_,_,_,_] ++ [_,_,_,_,_,_,_,_,_,_]) [3,6,1,2,0,4,5,7,8,9,10,11,12,13] rfl rfl w hw) h2)).inv 0 _ rfl)) (fun L w2 h2 => (St.rightOf (St.fz (selK (L1 := [_,_,_,_] ++ [_,_,_,_,_,_,_,_,_,_]) [3,6,1,2,0,4,5,7,8,9,10,11,12,13] rfl rfl w hw) h2)).inv 2 _ rfl)) fun yf hyf => ⟨selK (L1 := [_,_,_,_,_,_,_,_,_]) [5,6,7,8,9,10,11,12,13] rfl rfl, (HE.mk [9] (by kernel_rfl) rfl ⟨(HEo.op rfl rfl<|HO.lo (LO.mv (.r rfl))<|⟨selK (L1 := [_,_,_,_,_,_,_,_,_]) [5,6,7,8,9,10,11,12,13] rfl rfl, (HE.mk [10,11] (by kernel_rfl) rfl ⟨(HEo.op rfl rfl<|HO.lo (LO.ex (.r rfl) rfl)<|⟨selK (L1 := [_,_,_,_,_,_,_,_,_]) [5,6,7,8,9,10,11,12,13] rfl rfl, (HE.mk [11,12] (by kernel_rfl) rfl ⟨(HEo.op rfl rfl<|HO.lo (LO.ex (.r rfl) rfl)<|⟨selK (L1 := [_,_,_,_,_,_,_,_,_]) [5,6,7,8,9,10,11,12,13] rfl rfl, (HE.mk [12] (by kernel_rfl) rfl ⟨(HEo.op rfl rfl<|HO.lo (LO.as (.r rfl))<|⟨selK (L1 := [_,_,_,_,_,_,_,_,_]) [5,6,7,8,9,10,11,12,13] rfl rfl, (HE.mk [13] (by kernel_rfl) rfl ⟨(HEo.op rfl rfl<|HO.lo (LO.as (.r rfl))<|⟨selK (L1 := [_,_,_,_,_,_,_,_,_]) [5,6,7,8,9,10,11,12,13] rfl rfl, (HE.fin (by kernel_rfl) (VE.weak (.cons rfl (.cons rfl (.cons rfl .nil))) (selK (L1 := [_,_,_,_,_] ++ [_,_,_,_,_,_,_,_,_]) [4,0,1,2,3,5,6,7,8,9,10,11,12,13] rfl rfl) (hf (ym, yf) hyf)))⟩), trivial⟩)⟩), trivial⟩)⟩), (HEo.op rfl rfl<|HO.lo (LO.as (.r rfl))<|⟨selK (L1 := [_,_,_,_,_,_,_,_,_]) [5,6,7,8,9,10,11,12,13] rfl rfl, (HE.mk [11] (by kernel_rfl) rfl ⟨(HEo.op rfl rfl<|HO.lo (LO.ex (.r rfl) rfl)<|⟨selK (L1 := [_,_,_,_,_,_,_,_,_]) [5,6,7,8,9,10,11,12,13] rfl rfl, (HE.mk [13] (by kernel_rfl) rfl ⟨(HEo.op rfl rfl<|HO.lo (LO.as (.r rfl))<|⟨selK (L1 := [_,_,_,_,_,_,_,_,_]) [5,6,7,8,9,10,11,12,13] rfl rfl, (HE.fin (by kernel_rfl) (VE.weak (.cons rfl (.cons rfl (.cons rfl .nil))) (selK (L1 := [_,_,_,_,_] ++ [_,_,_,_,_,_,_,_,_]) [4,0,1,2,3,5,6,7,8,9,10,11,12,13] rfl rfl) (hf (ym, yf) hyf)))⟩), trivial⟩)⟩), trivial⟩)⟩), trivial⟩)⟩), (HEo.op rfl rfl<|HO.lo (LO.ex (.r rfl) rfl)<|⟨selK (L1 := [_,_,_,_,_,_,_,_,_]) [5,6,7,8,9,10,11,12,13] rfl rfl, (HE.mk [10] (by kernel_rfl) rfl ⟨(HEo.op rfl rfl<|HO.lo (LO.ex (.r rfl) rfl)<|⟨selK (L1 := [_,_,_,_,_,_,_,_,_]) [5,6,7,8,9,10,11,12,13] rfl rfl, (HE.mk [12] (by kernel_rfl) rfl ⟨(HEo.op rfl rfl<|HO.lo (LO.as (.r rfl))<|⟨selK (L1 := [_,_,_,_,_,_,_,_,_]) [5,6,7,8,9,10,11,12,13] rfl rfl, (HE.mk [13] (by kernel_rfl) rfl ⟨(HEo.op rfl rfl<|HO.lo (LO.as (.r rfl))<|⟨selK (L1 := [_,_,_,_,_,_,_,_,_]) [5,6,7,8,9,10,11,12,13] rfl rfl, (HE.fin (by kernel_rfl) (VE.weak (.cons rfl (.cons rfl (.cons rfl .nil))) (selK (L1 := [_,_,_,_,_] ++ [_,_,_,_,_,_,_,_,_]) [4,0,1,2,3,5,6,7,8,9,10,11,12,13] rfl rfl) (hf (ym, yf) hyf)))⟩), trivial⟩)⟩), trivial⟩)⟩), trivial⟩)⟩), trivial⟩)⟩), trivial⟩)⟩), trivial⟩)⟩), trivial⟩)) (fun y hy => ?_)

    refine VE.seqN ?_
    refine VC.seq ?_
    refine VC.res (fun _ h => (St.bagD (Rs := ([] : List VY).map vOwn) h)) ?_
    show VC _ _ _ _ _ _ [_,_,_,_,_,_,_,_,_,_,_,_,_,_,_] _ _
    refine VC.reg (VO.l (LO.mv (.r rfl)) rfl<|VO.h rfl<|HO.callP (first := []) (cap := []) (xs := [_,_]) (vs := [_,_]) [_,_] [_,_,_,_,_,_,_,_,_,_,_,_,_] (selK (L1 := [_,_] ++ [_,_,_,_,_,_,_,_,_,_,_,_,_]) [8,0,1,2,3,4,5,6,7,9,10,11,12,13,14] rfl rfl) (.r rfl) C41 ⟨(.r rfl), (.r rfl), trivial⟩ (fun w hw hh => Field_c yn.1 (mkQ 4 1 exR.length yn.2) y.2.2.2.2 exS y.2.1 y.2.2.1 y.2.2.2.1 (rdR exR exR.length) (fun _ => none) [] 100 w hy.s (by have := hy.c; omega) ex_Ok ex_SetP.len (by decide) (show 1 ≤ 4 ∧ 4 ≤ 6 by decide) (show 1 ≤ 1 ∧ 1 ≤ 6 by decide) LkI.nil hh (fun L w2 h2 => ⟨NdW.of (St.rightOf (St.fz (selK (L1 := [_,_] ++ [_,_,_,_,_,_,_,_,_,_,_,_,_]) [8,0,1,2,3,4,5,6,7,9,10,11,12,13,14] rfl rfl w hw) h2)) 1 2 3 4 rfl rfl rfl rfl, (St.rightOf (St.fz (selK (L1 := [_,_] ++ [_,_,_,_,_,_,_,_,_,_,_,_,_]) [8,0,1,2,3,4,5,6,7,9,10,11,12,13,14] rfl rfl w hw) h2)).inv 6 _ rfl⟩)) fun y7 hfm => VO.h rfl<|HO.lo (LO.mv (.r rfl))<|VO.h rfl<|HO.lo (LO.ex (.r rfl) rfl)<|VO.h rfl<|HO.lo (LO.ex (.r rfl) rfl)<|VO.h rfl<|HO.alloc (C := #[_,_,_,_,_,_]) Z108 rfl fun b25 => VO.h0<|HO.st 0 (vs := [_,_,_,_,_,_]) (C' := [_,_,_,_,_,_]) (L' := [_,_,_,_,_,_,_,_,_,_,_,_,_,_,_,_,_]) N108 rfl rfl rfl rfl rfl rfl rfl rfl<|VO.h rfl<|HO.lo (LO.as (.r rfl))<|VO.nil ?_)
    have hpx := ex_map hfm
    have hln : y7.1.1.length = 4 := by have := congrArg List.length hpx; rwa [List.length_map] at this
    rw [hpx, hln]
    refine VE.seqN ?_
    refine VC.seq ?_
    refine VC.reg (VO.l (LO.lda (vs := [_,_,_,_,_,_]) A108 (.r rfl) (fun _ hw => cells_at hw 0 rfl ⟨_, rfl⟩) rfl) rfl<|VO.h rfl<|HO.callx (xs := [_,_]) (vs := [_,_]) C43 ⟨(.r rfl), (.r rfl), trivial⟩ (fun w hw => Areas_ok ⟨0,0,1000, (4 : Nat), (1 : Nat)⟩ exW y7.2.1 y7.2.2 8 w (spV (l := exV) (own_rows hw 1 rfl)) ex_open) fun ya hya => VO.h rfl<|HO.lo (LO.mv (.r rfl))<|VO.h rfl<|HO.lo (LO.ex (.r rfl) rfl)<|VO.h rfl<|HO.lo (LO.ex (.r rfl) rfl)<|VO.h rfl<|HO.lo (LO.as (.r rfl))<|VO.h rfl<|HO.lo (LO.as (.r rfl))<|VO.nil ?_)
    refine VE.seqN ?_
    refine VC.seq ?_
    refine VC.rebase fun w1 hst1 => ?_
    have hrd : ArRd w1 ya := ArRd.of_res (of := ofL 4 1 (mayB exW 8)) (L := [_,_,_,_,_,_,_,_,_,_,_,_,_,_,_,_,_]) (selK (L1 := [_,_,_,_,_,_,_,_,_,_,_,_,_,_,_,_,_,_,_,_,_,_,_,_,_]) [0,1,2,3,4,5,6,7,8,9,10,11,12,13,14,15,16,17,18,19,20,21,22,23,24] rfl rfl _ hst1) hya
    obtain ⟨a, b, hl, ⟨hpa, hka⟩, hpb⟩ := (ex_area (y := ya) hya).h
    have hll : ya.l.length = 2 := by rw [hl]; rfl
    have haa0 : ya.l[0]? = some a := by rw [hl]; rfl
    have haa1 : ya.l[1]? = some b := by rw [hl]; rfl
    have hbm : b ∈ ya.l := List.mem_of_getElem? haa1
    have hb3 : b.px.l[0]? = some 3 := by rw [hpb]; rfl
    have hbl : b.px.l.length = 1 := by rw [hpb]; rfl
    refine VC.reg (VO.l (LO.mv (.r rfl)) rfl<|VO.l (LO.mv (.r rfl)) rfl<|VO.lg rfl rfl (GD.t _) (fun hg => LO.mv (.r rfl)) rfl<|VO.lg rfl rfl (GD.t _) (fun hg => LO.eq (.g hg rfl) (.r rfl)) rfl<|VO.l (LO.pkA (.r rfl) rfl rfl (.r rfl)) rfl<|VO.l (LO.mv (.r rfl)) rfl<|VO.lg rfl rfl (GD.t _) (fun hg => LO.mv (.r rfl)) rfl<|VO.lg rfl rfl (GD.t _) (fun hg => LO.eq (.g hg rfl) (.r rfl)) rfl<|VO.l (LO.pkA (.r rfl) rfl rfl (.r rfl)) rfl<|VO.l (LO.mv (.r rfl)) rfl<|VO.lg rfl rfl (GD.t _) (fun hg => LO.mv (.r rfl)) rfl<|VO.lg rfl rfl (GD.t _) (fun hg => LO.eq (.g hg rfl) (.r rfl)) rfl<|VO.l (LO.pkA (.r rfl) rfl rfl (.r rfl)) rfl<|VO.l (LO.mv (.r rfl)) rfl<|VO.lg rfl rfl (GD.t _) (fun hg => LO.mv (.r rfl)) rfl<|VO.lg rfl rfl (GD.t _) (fun hg => LO.len S155 (.g hg rfl) rfl) rfl<|VO.lg rfl rfl (GD.t _) (fun hg => LO.eq (.g hg rfl) (.r rfl)) rfl<|VO.l (LO.pkA (.r rfl) rfl rfl (.r rfl)) rfl<|VO.l (LO.mv (.r rfl)) rfl<|VO.lg rfl rfl (GD.t _) (fun hg => LO.mv (.r rfl)) rfl<|VO.lg rfl rfl (GD.t _) (fun hg => LO.ixs S155 N160 hrd.ar.sm (.g hg rfl) (.r rfl) (j := 0) rfl (by omega)) rfl<|VO.lg rfl rfl (GD.t _) (fun hg => LO.fa F160_0 (.g hg rfl) rfl) rfl<|VO.lg rfl rfl (GD.t _) (fun hg => LO.ld O112 (.g hg rfl) (fun w hw => cells_part (off := 0) ((fun w3 h3 => RO.cel (hrd.keep w3 h3).ar haa0) w hw) ⟨_, rfl⟩)) rfl<|VO.lg rfl rfl (GD.t _) (fun hg => LO.len S112 (.g hg rfl) rfl) rfl<|VO.lg rfl rfl (GD.t _) (fun hg => LO.eq (.g hg rfl) (.r rfl)) rfl<|VO.l (LO.pkA (.r rfl) rfl rfl (.r rfl)) rfl<|VO.l (LO.mv (.r rfl)) rfl<|VO.lg rfl rfl (GD.t _) (fun hg => LO.mv (.r rfl)) rfl<|VO.lg rfl rfl (GD.t _) (fun hg => LO.ixs S155 N160 hrd.ar.sm (.g hg rfl) (.r rfl) (j := 0) rfl (by omega)) rfl<|VO.lg rfl rfl (GD.t _) (fun hg => LO.fa F160_1 (.g hg rfl) rfl) rfl<|VO.lg rfl rfl (GD.t _) (fun hg => LO.ld O158 (.g hg rfl) (fun w hw => cells_part (off := 1) ((fun w3 h3 => RO.cel (hrd.keep w3 h3).ar haa0) w hw) ⟨_, rfl⟩)) rfl<|VO.lg rfl rfl (GD.t _) (fun hg => LO.len S158 (.g hg rfl) rfl) rfl<|VO.lg rfl rfl (GD.t _) (fun hg => LO.eq (.g hg rfl) (.r rfl)) rfl<|VO.l (LO.pkA (.r rfl) rfl rfl (.r rfl)) rfl<|VO.l (LO.mv (.r rfl)) rfl<|VO.lg rfl rfl (GD.t _) (fun hg => LO.mv (.r rfl)) rfl<|VO.lg rfl rfl (GD.t _) (fun hg => LO.ixs S155 N160 hrd.ar.sm (.g hg rfl) (.r rfl) (j := 1) rfl (by omega)) rfl<|VO.lg rfl rfl (GD.t _) (fun hg => LO.fa F160_0 (.g hg rfl) rfl) rfl<|VO.lg rfl rfl (GD.t _) (fun hg => LO.ld O112 (.g hg rfl) (fun w hw => cells_part (off := 0) ((fun w3 h3 => RO.cel (hrd.keep w3 h3).ar haa1) w hw) ⟨_, rfl⟩)) rfl<|VO.lg rfl rfl (GD.t _) (fun hg => LO.ixs S112 N3 (hrd.px b hbm).sm (.g hg rfl) (.r rfl) (j := 0) rfl (by omega)) rfl<|VO.lg rfl rfl (GD.t _) (fun hg => LO.ld O3 (.g hg rfl) (fun w hw => cells_part (off := 0) ((fun w3 h3 => RO.cel ((hrd.keep w3 h3).px b hbm) hb3) w hw) ⟨_, rfl⟩)) rfl<|VO.lg rfl rfl (GD.t _) (fun hg => LO.eq (.g hg rfl) (.r rfl)) rfl<|VO.l (LO.pkA (.r rfl) rfl rfl (.r rfl)) rfl<|VO.l (LO.as (.r rfl)) rfl<|VO.nil ?_)
    refine VE.seqN ?_
    refine VC.ret (VE.res (vs := [_]) rfl ⟨rfl, trivial⟩ (fun w hw => ?_))
    exact ⟨by simp [resV, hll, hpa, hka], St.based hst1 hw⟩

end Go.Proofs.YtffbohecdocajaaGreat

namespace Go.Proofs.YtffbohecdocajaaGreat
open Go.SL Go.Proofs Go.Pulse Go.Cast Go.Cell
set_option linter.unusedVariables false

theorem C33 : IsFn Tryz.prog 33 := ⟨_, Tryz.func33, by decide, rfl⟩
theorem F128_5 : FieldAt Tryz.prog 128 5 5 := ⟨_,_, Tryz.underlying128, rfl, rfl, 0, by kernel_rfl⟩
theorem O31 : IsOne Tryz.prog 31 := ⟨⟨_, Tryz.underlying31, rfl⟩, by kernel_rfl⟩
theorem C38 : IsFn Tryz.prog 38 := ⟨_, Tryz.func38, by decide, rfl⟩
theorem F128_6 : FieldAt Tryz.prog 128 6 6 := ⟨_,_, Tryz.underlying128, rfl, rfl, 0, by kernel_rfl⟩
theorem C40 : IsFn Tryz.prog 40 := ⟨_, Tryz.func40, by decide, rfl⟩
theorem S149 : IsSlice Tryz.prog 149 300 := Tryz.underlying149
theorem C42 : IsFn Tryz.prog 42 := ⟨_, Tryz.func42, by decide, rfl⟩
theorem F128_7 : FieldAt Tryz.prog 128 7 7 := ⟨_,_, Tryz.underlying128, rfl, rfl, 0, by kernel_rfl⟩
theorem S82 : IsSlice Tryz.prog 82 4 := Tryz.underlying82
theorem I4 : EInfo Tryz.prog 4 1 1 (.bool false) := ⟨by kernel_rfl, by kernel_rfl, by unfold ZeroOf; kernel_rfl, rfl, by decide⟩
theorem N4 : (Tryz.prog.info? 4).map (·.size) = some 1 := by kernel_rfl
theorem F163_1 : FieldAt Tryz.prog 163 1 2 := ⟨_,_, Tryz.underlying163, rfl, rfl, 2, by kernel_rfl⟩
theorem O4 : IsOne Tryz.prog 4 := ⟨⟨_, Tryz.underlying4, rfl⟩, by kernel_rfl⟩


set_option maxRecDepth 20000 in
set_option maxHeartbeats 64000000 in
theorem TopNetted_w (x : NtI) (p : NtA) (hx : NtB x) (w : World) (hM : NtM x p w) :
  Calls Tryz.prog 6 #[.agg (ntL x p).toArray] w fun e w' => e = .returned (.bool true) ∧ St (bs w) [] w' := by
  have hwd := hx.wd
  have hhg := hx.hg
  have tw := tm_bd (x := x.wd) (n := 6) hwd.1 (by decide)
  have th := tm_bd (x := x.hg) (n := 6) hhg.1 (by decide)
  have htm := hx.tm
  have hlv := hx.lv
  have ttm := tm_bd (x := x.tm) (n := 3000) htm.1 (by decide)
  have tlv := tm_bd (x := x.lv) (n := 70000) hlv.1 (by decide)
  obtain ⟨W, eW⟩ : ∃ W : Nat, 1 + x.wd.tmod 6 = ((W : Nat) : Int) := ⟨(1 + x.wd.tmod 6).toNat, by omega⟩
  obtain ⟨H, eH⟩ : ∃ H : Nat, 1 + x.hg.tmod 6 = ((H : Nat) : Int) := ⟨(1 + x.hg.tmod 6).toNat, by omega⟩
  have hW : 1 ≤ W ∧ W ≤ 6 := by omega
  have hH : 1 ≤ H ∧ H ≤ 6 := by omega
  have hWH : (W : Int) * (H : Int) = ((W * H : Nat) : Int) := by rw [Int.natCast_mul]
  have hWH2 : W * H ≤ 36 := Nat.mul_le_mul hW.2 hH.2
  have hT : 0 ≤ x.tm.tmod 3000 ∧ x.tm.tmod 3000 ≤ 100000 := by omega
  have hrl := hx.rd.1
  have hml := hx.ms.1
  have htl := hx.tn.1
  have hrn := hx.rn.1
  refine enter (vs := [_]) (env := [(0,_)]) Tryz.func6 rfl rfl rfl rfl ?_
  refine VC.seq ?_
  refine VC.reg (VO.h rfl<|HO.box (C := #[_,_,_,_,_,_,_,_]) rfl rfl fun b1 => VO.l (LO.as (.r rfl)) rfl<|VO.nil ?_)
  refine VE.seqN ?_
  refine VC.seq ?_
  refine VC.seq ?_
  refine VC.reg (VO.l (LO.fa (r := 3) F128_3 (.r rfl) rfl) rfl<|VO.l (LO.ld O125 (.r rfl) (fun _ hw => cells_at hw 0 rfl ⟨_, rfl⟩)) rfl<|VO.l (LO.len S125 (.r rfl) rfl) rfl<|VO.l (LO.eq (.r rfl) (.r rfl)) rfl<|VO.l (LO.mv (.r rfl)) rfl<|VO.lg rfl rfl (GD.f _) (fun hg => LO.fa (r := 4) F128_4 (.r rfl) rfl) rfl<|VO.lg rfl rfl (GD.f _) (fun hg => LO.ld O126 (.g hg rfl) (fun _ hw => cells_at hw 0 rfl ⟨_, rfl⟩)) rfl<|VO.lg rfl rfl (GD.f _) (fun hg => LO.len S126 (.g hg rfl) rfl) rfl<|VO.lg rfl rfl (GD.f _) (fun hg => LO.gt (.g hg rfl) (.r rfl)) rfl<|VO.l (LO.pkO (.r rfl) (.r rfl) rfl rfl) rfl<|VO.nil ?_)
  refine VE.seqN ?_
  refine VC.cond rfl (fun h44 => ?_) (fun h44 => ?_)
  ·
    refine VC.seq ?_
    refine VC.reg (VO.l (LO.call (xs := []) (vs := []) C33 trivial (fun w2 _ => works_n w2)) rfl<|VO.l (LO.as (.r rfl)) rfl<|VO.nil ?_)
    refine VE.seqN ?_
    refine VC.ret (VE.thenR (VE.res (vs := [_]) rfl ⟨rfl, trivial⟩ (fun w hw => ?_)))
    exact ⟨rfl, hw.nil⟩
  ·
    have h0 : x.rd.length ≠ 0 := by omega
    have h15 : x.ms.length ≤ 15 := by omega
    obtain ⟨rds, eR⟩ : ∃ l, rdsF x.rd (min x.rd.length 3) = l := ⟨_, rfl⟩
    have hL : RdL rds := eR ▸ rds_L hx h0
    have hrn3 := hL.n
    have hr0 : 0 < rds.length := by omega
    have hr9 : rds.length < 1000 := by omega
    refine VC.skip (VE.seqN ?_)
    refine VC.seq ?_
    refine VC.reg (VO.l (LO.lda (vs := [_,_,_,_,_,_,_,_]) A128 (.r rfl) (fun _ hw => cells_at hw 0 rfl ⟨_, rfl⟩) rfl) rfl<|VO.h rfl<|HO.callx (xs := [_]) (vs := [_]) C34 ⟨(.r rfl), trivial⟩ (fun w hw => spec_q x p hx W H rds eW eH eR w (hM.keep hw)) fun ys _ => VO.h rfl<|HO.alloc (C := #[_,_,_,_,_,_,_,_,_]) Z131 rfl fun b3 => VO.h0<|HO.st 0 (vs := [_,_,_,_,_,_,_,_,_]) (C' := [_,_,_,_,_,_,_,_,_]) (L' := [_,_,_]) N131 rfl rfl rfl rfl rfl rfl rfl rfl<|VO.nil ?_)
    refine VE.seqN ?_
    refine VC.seq ?_
    refine VC.rebase fun w1 hst1 => ?_
    have hXB : Cells w1 ⟨b1,0, none⟩ (ntL x p) := cells_inv (hst1.inv 2 _ rfl)
    have hSB : Cells w1 ⟨b3,0, none⟩ [.int .i64 0, .int .i64 0, .int .i64 1000, .int .i64 (W : Nat), .int .i64 (H : Nat), .int .i64 8000000, .int .i64 9000000, .slice ys.1 rds.length ys.2, .int .i64 600] := cells_inv (hst1.inv 0 _ rfl)
    have hRD : RO 10 rdC w1 ys.1 rds := RO.of_own hst1 1 rfl
    have hM1 : NtM x p w1 := hM.keep hst1
    refine VC.reg (VO.l (LO.lda (vs := [_,_,_,_,_,_,_,_,_]) A131 (.r rfl) (cells_keep (sub_cells (off := 0) hSB ⟨_, rfl⟩)) rfl) rfl<|VO.h rfl<|HO.callx (xs := [_]) (vs := [_]) C35 ⟨(.r rfl), trivial⟩ (fun w hw => New_q W H hW hH rds ys.1 ys.2 hL w (hRD.keep w hw)) fun yA _ => VO.h rfl<|HO.lo (LO.mv (.r rfl))<|VO.h rfl<|HO.lo (LO.ex (.r rfl) rfl)<|VO.h rfl<|HO.lo (LO.ex (.r rfl) rfl)<|VO.h rfl<|HO.lo (LO.as (.r rfl))<|VO.h rfl<|HO.lo (LO.as (.r rfl))<|VO.nil ?_)
    refine VE.seqN ?_
    refine VC.seq ?_
    refine VC.reg (VO.l (LO.lda (vs := [_,_,_,_,_,_,_,_,_]) A131 (.r rfl) (cells_keep (sub_cells (off := 0) hSB ⟨_, rfl⟩)) rfl) rfl<|VO.h rfl<|HO.callx (xs := [_]) (vs := [_]) C35 ⟨(.r rfl), trivial⟩ (fun w hw => New_q W H hW hH rds ys.1 ys.2 hL w (hRD.keep w hw)) fun yB _ => VO.h rfl<|HO.lo (LO.mv (.r rfl))<|VO.h rfl<|HO.lo (LO.ex (.r rfl) rfl)<|VO.h rfl<|HO.lo (LO.ex (.r rfl) rfl)<|VO.h rfl<|HO.lo (LO.as (.r rfl))<|VO.h rfl<|HO.lo (LO.as (.r rfl))<|VO.nil ?_)
    refine VE.seqN ?_
    refine VC.seq ?_
    refine VC.reg (VO.l (LO.lda (vs := [_,_,_,_,_,_,_,_,_]) A131 (.r rfl) (cells_keep (sub_cells (off := 0) hSB ⟨_, rfl⟩)) rfl) rfl<|VO.h rfl<|HO.callx (xs := [_]) (vs := [_]) C35 ⟨(.r rfl), trivial⟩ (fun w hw => New_q W H hW hH rds ys.1 ys.2 hL w (hRD.keep w hw)) fun yC _ => VO.h rfl<|HO.lo (LO.mv (.r rfl))<|VO.h rfl<|HO.lo (LO.ex (.r rfl) rfl)<|VO.h rfl<|HO.lo (LO.ex (.r rfl) rfl)<|VO.h rfl<|HO.lo (LO.as (.r rfl))<|VO.h rfl<|HO.lo (LO.as (.r rfl))<|VO.nil ?_)
    refine VE.seqN ?_
    refine VC.seq ?_
    refine VC.seq ?_
    refine VC.reg (VO.l (LO.mv (.r rfl)) rfl<|VO.l (LO.ne (.r rfl) (.r rfl)) rfl<|VO.l (LO.mv (.r rfl)) rfl<|VO.lg rfl rfl (GD.f _) (fun hg => LO.mv (.r rfl)) rfl<|VO.lg rfl rfl (GD.f _) (fun hg => LO.ne (.g hg rfl) (.r rfl)) rfl<|VO.l (LO.pkO (.r rfl) (.r rfl) rfl rfl) rfl<|VO.l (LO.mv (.r rfl)) rfl<|VO.lg rfl rfl (GD.f _) (fun hg => LO.mv (.r rfl)) rfl<|VO.lg rfl rfl (GD.f _) (fun hg => LO.ne (.g hg rfl) (.r rfl)) rfl<|VO.l (LO.pkO (.r rfl) (.r rfl) rfl rfl) rfl<|VO.nil ?_)
    refine VE.seqN ?_
    refine VC.cond rfl (fun h72 => ?_) (fun h72 => ?_)
    ·
      (exfalso; (simp at h72))
    ·
      refine VC.skip (VE.seqN ?_)
      refine VC.seq ?_
      refine VC.reg (VO.l (LO.as (.r rfl)) rfl<|VO.nil ?_)
      refine VE.seqN ?_
      refine VC.seq ?_
      refine VC.seq ?_
      refine VC.reg (VO.l (LO.as (.r rfl)) rfl<|VO.nil ?_)
      refine VE.seqN ?_
      refine VC.block ?_
      refine VC.perm [10,13,0,1,2,3,4,5,6,7,8,9,11,12,14] rfl ?_
      refine VC.loopK (α := Nat × NdG × (List TY) × (List VY) × (List Nat) × (Option Addr) × Nat) 2 (fun gx => [(10, .slice gx.2.2.2.2.2.1 gx.2.2.2.2.1.length gx.2.2.2.2.2.2), (11, .int .i64 (gx.1 : Nat))]) [(1,_), (3,_), (4,_), (6,_), (8,_)] (fun gx => [ndB yA.1 (mkQ W H rds.length yA.2) gx.2.1.c, mapR keyV tV yA.2.km gx.2.1.M, bagD (gx.2.2.1.map tOwn), bagD (gx.2.2.2.1.map vOwn), own 3 1 gx.2.2.2.2.2.1 gx.2.2.2.2.2.2 (gx.2.2.2.2.1.map nC)]) (fun gx => gx.1 ≤ x.ms.length ∧ gx.2.2.2.2.1 = List.range gx.1 ∧ NodeP x rds (W * H) (fun t => t < gx.1) gx.2.1 gx.2.2.1 gx.2.2.2.1 gx.1) (fun gx => x.ms.length - gx.1) (0, NdG.zero, [], [], [], none, 0) (by exact ⟨Nat.zero_le _, rfl, NodeP.zero.congr fun j _ => ⟨False.elim, fun h => absurd h (Nat.not_lt_zero _)⟩⟩) (.cons rfl (.cons rfl (.cons rfl (.cons rfl (.cons rfl (.cons rfl (.cons rfl .nil))))))) (fun _ h => ((St.bagD (Rs := []) (St.bagD (Rs := []) (h.ownNil 3 1)))).sel [3,4,0,1,2,5,6,7,8,9,10,11,12,13,14,15,16,17] rfl) ?_
      rintro ⟨i, gA, ts, vs, o, po, co⟩ ⟨hi, ho, hA⟩
      show VC _ _ _ _ _ ([(10, .slice po o.length co), (11, .int .i64 (i : Nat))] ++ _) ([ndB yA.1 (mkQ W H rds.length yA.2) gA.c, mapR keyV tV yA.2.km gA.M, bagD (ts.map tOwn), bagD (vs.map vOwn), own 3 1 po co (o.map nC)] ++ _) _ _
      dsimp only at hi ho hA
      have hol : o.length = i := by rw [ho, List.length_range]
      refine VC.seq ?_
      refine VC.seq ?_
      refine VC.reg (VO.l (LO.mv (.r rfl)) rfl<|VO.l (LO.fa (r := 4) F128_4 (.r rfl) rfl) rfl<|VO.l (LO.ld O126 (.r rfl) (cells_keep (sub_cells (off := 4) hXB ⟨_, rfl⟩))) rfl<|VO.l (LO.len S126 (.r rfl) rfl) rfl<|VO.l (LO.lt (.r rfl) (.r rfl)) rfl<|VO.nil ?_)
      refine VE.seqN ?_
      refine VC.cond rfl (fun h77 => ?_) (fun h77 => ?_)
      ·
        obtain ⟨b, hb⟩ : ∃ b, x.ms[i]? = some b := ⟨_, List.getElem?_eq_getElem (by omega)⟩
        have hbm : b ∈ x.ms := List.mem_of_getElem? hb
        have hbb := hx.ms.2 b hbm
        refine VC.skip (VE.seqN ?_)
        refine VC.seq ?_
        refine VC.block ?_
        refine VC.seq ?_
        refine VC.drawFL (G := (Option Addr × Nat) × NdY) (fun y => [(13, .int .i64 0)]) [(1,_), (3,_), (4,_), (6,_), (8,_), (10,_), (11,_)] (fun y => [own 25 2 y.1.1 y.1.2 ((msgV x.rn b (W * H)).map spanC), ndB yA.1 (mkQ W H rds.length yA.2) y.2.2.2.2, mapR keyV tV yA.2.km y.2.1, bagD (y.2.2.1.map tOwn), bagD (y.2.2.2.1.map vOwn)]) [_,_,_,_,_,_,_,_,_,_,_,_,_,_] (fun y => OfP gA.S ts vs gA.c (msgK rds b) (msgV x.rn b (W * H)) y.2) (selK (L1 := [_,_,_,_,_,_,_,_,_,_,_,_,_,_]) [4,5,6,7,8,9,10,11,12,13,14,15,16,17] rfl rfl) 8 [some 0, some 0, some 0, some 0, some 0, some 0, some 0, some 0, none, none, none, none, none, none, none] mixed (by kernel_rfl) (LX.l (fun _ hJ => LO.mv (.r rfl)) rfl<|LX.l (fun _ hJ => LO.lda (vs := [_,_,_,_,_,_,_,_]) A128 (.r rfl) (cells_keep (sub_cells (off := 0) hXB ⟨_, rfl⟩)) rfl) rfl<|LX.l (fun _ hJ => LO.lda (vs := [_,_,_,_,_,_,_,_,_]) A131 (.r rfl) (cells_keep (sub_cells (off := 0) hSB ⟨_, rfl⟩)) rfl) rfl<|LX.l (fun _ hJ => LO.fa (r := 4) F128_4 (.r rfl) rfl) rfl<|LX.l (fun _ hJ => LO.ld O126 (.r rfl) (cells_keep (sub_cells (off := 4) hXB ⟨_, rfl⟩))) rfl<|LX.l (fun _ hJ => LO.mv (.r rfl)) rfl<|LX.l (fun _ hJ => LO.ixs S126 N143 hM1.ms.sm (.r rfl) (.r rfl) rfl (by omega)) rfl<|LX.l (fun _ hJ => LO.lda (vs := [_,_,_,_,_]) A143 (.r rfl) (fun w hw => cells_part (off := 0) ((fun w3 h3 => RO.cel (hM1.ms.keep w3 h3) hb) w (hJ _ hw)) ⟨_, rfl⟩) rfl) rfl<|LX.s<|LX.s<|LX.s<|LX.s<|LX.s<|LX.s<|LX.s<|LX.nil) (fun hf => (HE.mk [8] (by kernel_rfl) rfl ⟨(HEo.op rfl rfl<|HO.callx (xs := [_,_,_]) (vs := [_,_,_]) C37 ⟨(.r rfl), (.r rfl), (.r rfl), trivial⟩ (fun w hw => message_c x p hx W H hW hH rds ys.1 ys.2 hr0 hr9 b hbb w (hM1.keep hw) (hRD.keep w hw)) fun ym _ => ⟨selK (L1 := [_,_,_,_,_,_,_,_,_,_,_,_,_,_]) [5,6,7,8,9,10,11,12,13,14,15,16,17,18] rfl rfl, (HE.mk [9] (by kernel_rfl) rfl ⟨(HEo.op rfl rfl<|HO.callP (first := []) (cap := []) (xs := [_,_]) (vs := [_,_]) [_,_,_,_] [_,_,_,_,_,_,_,_,_,_,_,_,_,_,_] (selK (L1 := [_,_,_,_] ++ [_,_,_,_,_,_,_,_,_,_,_,_,_,_,_]) [1,2,3,4,0,5,6,7,8,9,10,11,12,13,14,15,16,17,18] rfl rfl) (.r rfl) C36 ⟨(.r rfl), (.r rfl), trivial⟩ (fun w hw hh => Offer_c yA.1 (mkQ W H rds.length yA.2) gA.c gA.S gA.M ts vs (rdR rds rds.length) (msgK rds b) (msgV x.rn b (W * H)) ym.1 ym.2 w hA.s (by have := hA.c; omega) (msg_ok (q := (mkQ W H rds.length yA.2)) hx hL hbm hW.2 hH.2) hh (fun L w2 h2 => own_inv_rows ((St.rightOf (St.fz (selK (L1 := [_,_,_,_] ++ [_,_,_,_,_,_,_,_,_,_,_,_,_,_,_]) [1,2,3,4,0,5,6,7,8,9,10,11,12,13,14,15,16,17,18] rfl rfl w hw) h2)).inv 0 _ rfl)) (fun L w2 h2 => (St.rightOf (St.fz (selK (L1 := [_,_,_,_] ++ [_,_,_,_,_,_,_,_,_,_,_,_,_,_,_]) [1,2,3,4,0,5,6,7,8,9,10,11,12,13,14,15,16,17,18] rfl rfl w hw) h2)).inv 13 _ rfl)) fun yf hyf => ⟨selK (L1 := [_,_,_,_,_,_,_,_,_,_,_,_,_,_]) [5,6,7,8,9,10,11,12,13,14,15,16,17,18] rfl rfl, (HE.mk [10] (by kernel_rfl) rfl ⟨(HEo.op rfl rfl<|HO.lo (LO.mv (.r rfl))<|⟨selK (L1 := [_,_,_,_,_,_,_,_,_,_,_,_,_,_]) [5,6,7,8,9,10,11,12,13,14,15,16,17,18] rfl rfl, (HE.mk [11,12] (by kernel_rfl) rfl ⟨(HEo.op rfl rfl<|HO.lo (LO.ex (.r rfl) rfl)<|⟨selK (L1 := [_,_,_,_,_,_,_,_,_,_,_,_,_,_]) [5,6,7,8,9,10,11,12,13,14,15,16,17,18] rfl rfl, (HE.mk [12,13] (by kernel_rfl) rfl ⟨(HEo.op rfl rfl<|HO.lo (LO.ex (.r rfl) rfl)<|⟨selK (L1 := [_,_,_,_,_,_,_,_,_,_,_,_,_,_]) [5,6,7,8,9,10,11,12,13,14,15,16,17,18] rfl rfl, (HE.mk [13] (by kernel_rfl) rfl ⟨(HEo.op rfl rfl<|HO.lo (LO.as (.r rfl))<|⟨selK (L1 := [_,_,_,_,_,_,_,_,_,_,_,_,_,_]) [5,6,7,8,9,10,11,12,13,14,15,16,17,18] rfl rfl, (HE.mk [14] (by kernel_rfl) rfl ⟨(HEo.op rfl rfl<|HO.lo (LO.as (.r rfl))<|⟨selK (L1 := [_,_,_,_,_,_,_,_,_,_,_,_,_,_]) [5,6,7,8,9,10,11,12,13,14,15,16,17,18] rfl rfl, (HE.fin (by kernel_rfl) (VE.weak (.cons rfl (.cons rfl (.cons rfl (.cons rfl (.cons rfl (.cons rfl (.cons rfl (.cons rfl .nil)))))))) (selK (L1 := [_,_,_,_,_] ++ [_,_,_,_,_,_,_,_,_,_,_,_,_,_]) [4,0,1,2,3,5,6,7,8,9,10,11,12,13,14,15,16,17,18] rfl rfl) (hf (ym, yf) hyf)))⟩), trivial⟩)⟩), trivial⟩)⟩), (HEo.op rfl rfl<|HO.lo (LO.as (.r rfl))<|⟨selK (L1 := [_,_,_,_,_,_,_,_,_,_,_,_,_,_]) [5,6,7,8,9,10,11,12,13,14,15,16,17,18] rfl rfl, (HE.mk [12] (by kernel_rfl) rfl ⟨(HEo.op rfl rfl<|HO.lo (LO.ex (.r rfl) rfl)<|⟨selK (L1 := [_,_,_,_,_,_,_,_,_,_,_,_,_,_]) [5,6,7,8,9,10,11,12,13,14,15,16,17,18] rfl rfl, (HE.mk [14] (by kernel_rfl) rfl ⟨(HEo.op rfl rfl<|HO.lo (LO.as (.r rfl))<|⟨selK (L1 := [_,_,_,_,_,_,_,_,_,_,_,_,_,_]) [5,6,7,8,9,10,11,12,13,14,15,16,17,18] rfl rfl, (HE.fin (by kernel_rfl) (VE.weak (.cons rfl (.cons rfl (.cons rfl (.cons rfl (.cons rfl (.cons rfl (.cons rfl (.cons rfl .nil)))))))) (selK (L1 := [_,_,_,_,_] ++ [_,_,_,_,_,_,_,_,_,_,_,_,_,_]) [4,0,1,2,3,5,6,7,8,9,10,11,12,13,14,15,16,17,18] rfl rfl) (hf (ym, yf) hyf)))⟩), trivial⟩)⟩), trivial⟩)⟩), trivial⟩)⟩), (HEo.op rfl rfl<|HO.lo (LO.ex (.r rfl) rfl)<|⟨selK (L1 := [_,_,_,_,_,_,_,_,_,_,_,_,_,_]) [5,6,7,8,9,10,11,12,13,14,15,16,17,18] rfl rfl, (HE.mk [11] (by kernel_rfl) rfl ⟨(HEo.op rfl rfl<|HO.lo (LO.ex (.r rfl) rfl)<|⟨selK (L1 := [_,_,_,_,_,_,_,_,_,_,_,_,_,_]) [5,6,7,8,9,10,11,12,13,14,15,16,17,18] rfl rfl, (HE.mk [13] (by kernel_rfl) rfl ⟨(HEo.op rfl rfl<|HO.lo (LO.as (.r rfl))<|⟨selK (L1 := [_,_,_,_,_,_,_,_,_,_,_,_,_,_]) [5,6,7,8,9,10,11,12,13,14,15,16,17,18] rfl rfl, (HE.mk [14] (by kernel_rfl) rfl ⟨(HEo.op rfl rfl<|HO.lo (LO.as (.r rfl))<|⟨selK (L1 := [_,_,_,_,_,_,_,_,_,_,_,_,_,_]) [5,6,7,8,9,10,11,12,13,14,15,16,17,18] rfl rfl, (HE.fin (by kernel_rfl) (VE.weak (.cons rfl (.cons rfl (.cons rfl (.cons rfl (.cons rfl (.cons rfl (.cons rfl (.cons rfl .nil)))))))) (selK (L1 := [_,_,_,_,_] ++ [_,_,_,_,_,_,_,_,_,_,_,_,_,_]) [4,0,1,2,3,5,6,7,8,9,10,11,12,13,14,15,16,17,18] rfl rfl) (hf (ym, yf) hyf)))⟩), trivial⟩)⟩), trivial⟩)⟩), trivial⟩)⟩), trivial⟩)⟩), trivial⟩)⟩), trivial⟩)⟩), trivial⟩)) (fun y hy => ?_)

        refine VE.seqN ?_
        refine VC.seq ?_
        refine VC.seq ?_
        refine VC.reg (VO.l (LO.mv (.r rfl)) rfl<|VO.l (LO.ne (.r rfl) (.r rfl)) rfl<|VO.nil ?_)
        refine VE.seqN ?_
        refine VC.cond rfl (fun h94 => ?_) (fun h94 => ?_)
        ·
          (exfalso; exact h94 rfl)
        ·
          refine VC.skip (VE.seqN ?_)
          refine VC.reg (VO.l (LO.mv (.r rfl)) rfl<|VO.l (LO.mv (.r rfl)) rfl<|VO.h rfl<|HO.bs (ps := [(_,_)]) (vs := [(_,_)]) (Z := [_]) (C := [_]) S112 Z3 N3 ⟨(.r rfl), trivial⟩ rfl rfl rfl rfl ⟨_, [_], [_], rfl, rfl, rfl, rfl, rfl⟩ fun b28 => VO.h rfl<|HO.appT (i) 6 0 (fun R => [_,_,_,_,_,_, R,_,_,_,_,_,_,_,_,_,_,_,_,_]) S112 S112 I3 (.r rfl) (.r rfl) rfl rfl rfl rfl rfl rfl rfl (fun _ => rfl) rfl (by omega) fun p3 c3 => VO.h rfl<|HO.lo (LO.as (.r rfl))<|VO.nil ?_)
          refine VE.inN (VE.seqN ?_)
          refine VC.reg (VO.l (LO.mv (.r rfl)) rfl<|VO.l (LO.add (.r rfl) (.r rfl) (wi (by omega) (by omega))) rfl<|VO.l (LO.as (.r rfl)) rfl<|VO.nil ?_)
          refine VE.thenN fun a w ha hw => ⟨(i + 1, gA.off (msgK rds b) (msgV x.rn b (W * H)) y.2, y.2.2.1, y.2.2.2.1, o ++ [i], p3, c3), ⟨by dsimp only; omega, by dsimp only; rw [ho, List.range_succ], (hA.off hb hy).congr fun j _ => (show (j < i ∨ j = i) ↔ j < i + 1 by omega)⟩, (by dsimp only; omega), ha.sub (.cons rfl (.cons rfl (.cons rfl (.cons rfl (.cons rfl (.cons rfl (.cons rfl .nil))))))), hw.sel [2,3,4,5,6,7,8,9,10,11,12,13,14,15,16,17,18,19] rfl⟩
      ·
        have hie : i = x.ms.length := by omega
        refine VC.exit (VE.thenX (VE.thenX (VE.inX (VE.seqN ?_))))
        refine VC.seq ?_
        refine VC.seq ?_
        refine VC.pur (φ := SlSome po o.length) (fun w hw => (RO.of_own (l := o) hw 4 rfl).sm) fun hps => ?_
        refine VC.reg (VO.l (LO.as (.r rfl)) rfl<|VO.nil ?_)
        refine VE.seqN ?_
        refine VC.block ?_
        refine VC.perm [4,0,1,2,3,5,6,7,8,9,10,11,12,13,14,15,16,17] rfl ?_
        refine VC.loopK (α := Nat × (List Nat)) 1 (fun gx => [(14, .int .i64 (gx.1 : Nat))]) [(1,_), (3,_), (4,_), (6,_), (8,_), (10,_)] (fun gx => [own 3 1 po co (gx.2.map nC)]) (fun gx => gx.1 ≤ x.tn.length ∧ gx.2.Perm o) (fun gx => x.tn.length - gx.1) (0, o) (by exact ⟨Nat.zero_le _, List.Perm.refl _⟩) (.cons rfl (.cons rfl (.cons rfl (.cons rfl (.cons rfl (.cons rfl (.cons rfl .nil))))))) (fun _ h => h) ?_
        rintro ⟨k2, o2⟩ ⟨hk2, hpm⟩
        show VC _ _ _ _ _ ([(14, .int .i64 (k2 : Nat))] ++ _) ([own 3 1 po co (o2.map nC)] ++ _) _ _
        dsimp only at hk2 hpm
        have hol2 : o2.length = o.length := hpm.length_eq
        refine VC.seq ?_
        refine VC.seq ?_
        refine VC.reg (VO.l (LO.mv (.r rfl)) rfl<|VO.l (LO.fa (r := 5) F128_5 (.r rfl) rfl) rfl<|VO.l (LO.ld O31 (.r rfl) (cells_keep (sub_cells (off := 5) hXB ⟨_, rfl⟩))) rfl<|VO.l (LO.len S31 (.r rfl) rfl) rfl<|VO.l (LO.lt (.r rfl) (.r rfl)) rfl<|VO.l (LO.mv (.r rfl)) rfl<|VO.lg rfl rfl (GD.t _) (fun hg => LO.mv (.r rfl)) rfl<|VO.lg rfl rfl (GD.t _) (fun hg => LO.len S112 (.g hg rfl) rfl) rfl<|VO.lg rfl rfl (GD.t _) (fun hg => LO.gt (.g hg rfl) (.r rfl)) rfl<|VO.l (LO.pkA (.r rfl) rfl rfl (.r rfl)) rfl<|VO.nil ?_)
        refine VE.seqN ?_
        refine VC.cond rfl (fun h108 => ?_) (fun h108 => ?_)
        ·
          have hk9 : k2 < x.tn.length ∧ 0 < o.length := by omega
          have htn := hx.tn.2 (x.tn.getD k2 0) (mem_gd (by omega))
          obtain ⟨kk, hkk⟩ : ∃ m, k2 % o.length = m := ⟨_, rfl⟩
          have hkl : kk < o.length := hkk ▸ Nat.mod_lt _ hk9.2
          obtain ⟨jj, hjj⟩ : ∃ m, (x.tn.getD k2 0).toNat % o.length = m := ⟨_, rfl⟩
          have hjl : jj < o.length := hjj ▸ Nat.mod_lt _ hk9.2
          refine VC.skip (VE.seqN ?_)
          refine VC.seq ?_
          refine VC.block ?_
          refine VC.seq ?_
          refine VC.draw mixed (LL.l (LO.mv (.r rfl)) rfl<|LL.l (LO.mv (.r rfl)) rfl<|LL.l (LO.len S112 (.r rfl) rfl) rfl<|LL.l (LO.rem (.r rfl) (.r rfl) (by omega)) rfl<|LL.l (LO.fa (r := 5) F128_5 (.r rfl) rfl) rfl<|LL.l (LO.ld O31 (.r rfl) (cells_keep (sub_cells (off := 5) hXB ⟨_, rfl⟩))) rfl<|LL.l (LO.mv (.r rfl)) rfl<|LL.l (LO.ixs S31 N5 hM1.tn.sm (.r rfl) (.r rfl) rfl (by omega)) rfl<|LL.l (LO.ld O5 (.r rfl) (fun w hw => cells_part (off := 0) ((hM1.tn.at (0 : Int) (j := k2) (by omega)) w hw) ⟨_, rfl⟩)) rfl<|LL.l (LO.cv ⟨_, Tryz.underlying5⟩ Tryz.underlying3 (.r rfl) (wi (by omega) (by omega))) rfl<|LL.l (LO.mv (.r rfl)) rfl<|LL.l (LO.len S112 (.r rfl) rfl) rfl<|LL.l (LO.rem (.r rfl) (.r rfl) (by omega)) rfl<|LL.l (LO.as (.r rfl)) rfl<|LL.l (LO.as (.r rfl)) rfl<|LL.nil) (by kernel_rfl) ?_
          refine VE.seqN ?_
          refine VC.drawH [[0,1,2,3,4,5,6,7,8,9,10,11,12,13,14,15,16,17], [1,2,3,4,5,6,7,8,9,10,11,12,13,14,15,16,17], [1,2,3,4,5,6,7,8,9,10,11,12,13,14,15,16,17]] [some 0, some 0, some 1, some 1, some 0, some 0, some 0, some 0, some 0, some 0, some 0, some 0, some 0, none, some 1, none] mixed (by kernel_rfl) rfl (LX.l (fun _ hJ => LO.mv (.r rfl)) rfl<|LX.l (fun _ hJ => LO.mv (.r rfl)) rfl<|LX.l (fun _ hJ => LO.mv (.r rfl)) rfl<|LX.l (fun _ hJ => LO.mv (.r rfl)) rfl<|LX.l (fun _ hJ => LO.mv (.r rfl)) rfl<|LX.l (fun _ hJ => LO.mv (.r rfl)) rfl<|LX.l (fun _ hJ => LO.ixs S112 N3 hps (.r rfl) (.r rfl) (j := jj) (by rw [tmodT htn.1, hjj]) (by omega)) rfl<|LX.l (fun _ hJ => LO.ld O3 (.r rfl) (fun w hw => cells_part (off := 0) (own_cell (hJ _ hw) 0 rfl (getD_some (d := 0) (i := jj) (by omega))) ⟨_, rfl⟩)) rfl<|LX.l (fun _ hJ => LO.mv (.r rfl)) rfl<|LX.l (fun _ hJ => LO.mv (.r rfl)) rfl<|LX.l (fun _ hJ => LO.ixs S112 N3 hps (.r rfl) (.r rfl) (j := kk) (by rw [tmodN, hkk]) (by omega)) rfl<|LX.l (fun _ hJ => LO.ld O3 (.r rfl) (fun w hw => cells_part (off := 0) (own_cell (hJ _ hw) 0 rfl (getD_some (d := 0) (i := kk) (by omega))) ⟨_, rfl⟩)) rfl<|LX.l (fun _ hJ => LO.ixs S112 N3 hps (.r rfl) (.r rfl) (j := kk) (by rw [tmodN, hkk]) (by omega)) rfl<|LX.s<|LX.l (fun _ hJ => LO.ixs S112 N3 hps (.r rfl) (.r rfl) (j := jj) (by rw [tmodT htn.1, hjj]) (by omega)) rfl<|LX.s<|LX.nil) (HX.s<|HX.s<|HX.s<|HX.s<|HX.s<|HX.s<|HX.s<|HX.s<|HX.s<|HX.s<|HX.s<|HX.s<|HX.s<|HX.h0<|HO.stm 0 (fun R => [R,_,_,_,_,_,_,_,_,_,_,_,_,_,_,_,_,_]) ((o2.getD jj 0)) (vs := [_]) N3 (.r rfl) (.r rfl) rfl (by omega) rfl rfl rfl rfl rfl (fun _ => rfl)<|⟨selJ (L1 := [_,_,_,_,_,_,_,_,_,_,_,_,_,_,_,_,_]) [1,2,3,4,5,6,7,8,9,10,11,12,13,14,15,16,17] rfl rfl rfl, HX.s<|HX.h0<|HO.stm 0 (fun R => [R,_,_,_,_,_,_,_,_,_,_,_,_,_,_,_,_,_]) ((o2.getD kk 0)) (vs := [_]) N3 (.r rfl) (.r rfl) rfl (by rw [List.length_set]; omega) rfl rfl rfl rfl rfl (fun _ => rfl)<|⟨selJ (L1 := [_,_,_,_,_,_,_,_,_,_,_,_,_,_,_,_,_]) [1,2,3,4,5,6,7,8,9,10,11,12,13,14,15,16,17] rfl rfl rfl, HX.nil ?_⟩⟩)
          refine VE.inN (VE.seqN ?_)
          refine VC.reg (VO.l (LO.mv (.r rfl)) rfl<|VO.l (LO.add (.r rfl) (.r rfl) (wi (by omega) (by omega))) rfl<|VO.l (LO.as (.r rfl)) rfl<|VO.nil ?_)
          refine VE.thenN fun a w ha hw => ⟨(k2 + 1, swpF o2 kk jj), ⟨by dsimp only; omega, (swp_perm (by omega) (by omega)).trans hpm⟩, (by dsimp only; omega), ha.sub (.cons rfl (.cons rfl (.cons rfl (.cons rfl (.cons rfl (.cons rfl (.cons rfl .nil))))))), hw⟩
        ·
          refine VC.exit (VE.thenX (VE.thenX (VE.inX (VE.seqN ?_))))
          refine VC.seq ?_
          refine VC.seq ?_
          refine VC.reg (VO.l (LO.as (.r rfl)) rfl<|VO.nil ?_)
          refine VE.seqN ?_
          refine VC.block ?_
          refine VC.perm [10,13,5,8,3,4,0,1,2,6,7,9,11,12,14,15,16,17] rfl ?_
          refine VC.loopK (α := Nat × NdG × NdG × (List TY) × (List VY)) 6 (fun gx => [(17, .int .i64 (gx.1 : Nat))]) [(1,_), (3,_), (4,_), (6,_), (8,_), (10,_)] (fun gx => [ndB yB.1 (mkQ W H rds.length yB.2) gx.2.1.c, mapR keyV tV yB.2.km gx.2.1.M, ndB yC.1 (mkQ W H rds.length yC.2) gx.2.2.1.c, mapR keyV tV yC.2.km gx.2.2.1.M, bagD (gx.2.2.2.1.map tOwn), bagD (gx.2.2.2.2.map vOwn)]) (fun gx => (gx.1 ≤ o.length ∧ (∀ e, e ∈ ts → e ∈ gx.2.2.2.1) ∧ ∀ e, e ∈ vs → e ∈ gx.2.2.2.2) ∧ NodeP x rds (W * H) (halfP o2 0 gx.1) gx.2.1 gx.2.2.2.1 gx.2.2.2.2 gx.1 ∧ NodeP x rds (W * H) (halfP o2 1 gx.1) gx.2.2.1 gx.2.2.2.1 gx.2.2.2.2 gx.1) (fun gx => o.length - gx.1) (0, NdG.zero, NdG.zero, ts, vs) (by exact ⟨⟨Nat.zero_le _, fun _ h => h, fun _ h => h⟩, (NodeP.zero.congr fun j _ => ⟨False.elim, fun h => hlf_0 h⟩).mono (fun _ h => by cases h) (fun _ h => by cases h), (NodeP.zero.congr fun j _ => ⟨False.elim, fun h => hlf_0 h⟩).mono (fun _ h => by cases h) (fun _ h => by cases h)⟩) (.cons rfl (.cons rfl (.cons rfl (.cons rfl (.cons rfl (.cons rfl (.cons rfl .nil))))))) (fun _ h => h) ?_
          rintro ⟨i3, gB, gC, t3, v3⟩ ⟨⟨hi3, hts, hvs⟩, hB, hC⟩
          show VC _ _ _ _ _ ([(17, .int .i64 (i3 : Nat))] ++ _) ([ndB yB.1 (mkQ W H rds.length yB.2) gB.c, mapR keyV tV yB.2.km gB.M, ndB yC.1 (mkQ W H rds.length yC.2) gC.c, mapR keyV tV yC.2.km gC.M, bagD (t3.map tOwn), bagD (v3.map vOwn)] ++ _) _ _
          dsimp only at hi3 hts hvs hB hC
          replace hpm : o2.Perm (List.range i) := ho ▸ hpm
          refine VC.seq ?_
          refine VC.seq ?_
          refine VC.reg (VO.l (LO.mv (.r rfl)) rfl<|VO.l (LO.mv (.r rfl)) rfl<|VO.l (LO.len S112 (.r rfl) rfl) rfl<|VO.l (LO.lt (.r rfl) (.r rfl)) rfl<|VO.nil ?_)
          refine VE.seqN ?_
          refine VC.cond rfl (fun h141 => ?_) (fun h141 => ?_)
          ·
            obtain ⟨a1, ha1⟩ : ∃ a, o2[i3]? = some a := ⟨_, List.getElem?_eq_getElem (by omega)⟩
            have ha2 : a1 < x.ms.length := hie ▸ ord_bd hpm ha1
            obtain ⟨b, hb⟩ : ∃ b, x.ms[a1]? = some b := ⟨_, List.getElem?_eq_getElem ha2⟩
            have hbm : b ∈ x.ms := List.mem_of_getElem? hb
            have hbb := hx.ms.2 b hbm
            refine VC.skip (VE.seqN ?_)
            refine VC.seq ?_
            refine VC.block ?_
            refine VC.seq ?_
            refine VC.drawB [⟨11,18, fun b => .pointer (some ⟨b, 0, none⟩), 141, #[.string ByteArray.empty, .int .i64 0, .int .i64 0, .slice none 0 0]⟩] [[0,1,2,3,4,5,6,7,8,9,10,11,12,13,14,15,16,17], [0,1,2,3,4,5,6,7,8,9,10,11,12,13,14,15,16,17], [0,1,2,3,4,5,6,7,8,9,10,11,12,13,14,15,16,17], [0,1,2,3,4,5,6,7,8,9,10,11,12,13,14,15,16,17]] [some 2, some 2, some 2, some 2, some 2, some 2, some 2, some 2, some 2, some 2, none, none, none] mixed (by kernel_rfl) rfl (LX.l (fun _ hJ => LO.lda (vs := [_,_,_,_,_,_,_,_]) A128 (.r rfl) (cells_keep (sub_cells (off := 0) hXB ⟨_, rfl⟩)) rfl) rfl<|LX.l (fun _ hJ => LO.lda (vs := [_,_,_,_,_,_,_,_,_]) A131 (.r rfl) (cells_keep (sub_cells (off := 0) hSB ⟨_, rfl⟩)) rfl) rfl<|LX.l (fun _ hJ => LO.fa (r := 4) F128_4 (.r rfl) rfl) rfl<|LX.l (fun _ hJ => LO.ld O126 (.r rfl) (cells_keep (sub_cells (off := 4) hXB ⟨_, rfl⟩))) rfl<|LX.l (fun _ hJ => LO.mv (.r rfl)) rfl<|LX.l (fun _ hJ => LO.mv (.r rfl)) rfl<|LX.l (fun _ hJ => LO.ixs S112 N3 hps (.r rfl) (.r rfl) rfl (by omega)) rfl<|LX.l (fun _ hJ => LO.ld O3 (.r rfl) (fun w hw => cells_part (off := 0) (own_cell (hJ _ hw) 6 rfl ha1) ⟨_, rfl⟩)) rfl<|LX.l (fun _ hJ => LO.ixs S126 N143 hM1.ms.sm (.r rfl) (.r rfl) rfl (by omega)) rfl<|LX.l (fun _ hJ => LO.lda (vs := [_,_,_,_,_]) A143 (.r rfl) (fun w hw => cells_part (off := 0) ((fun w3 h3 => RO.cel (hM1.ms.keep w3 h3) hb) w (hJ _ hw)) ⟨_, rfl⟩) rfl) rfl<|LX.s<|LX.s<|LX.s<|LX.nil) (⟨⟨rfl,_, rfl, FO.alloc Z141 rfl⟩, trivial⟩) (HY.s<|HY.s<|HY.s<|HY.s<|HY.s<|HY.s<|HY.s<|HY.s<|HY.s<|HY.s<|HY.h rfl rfl fun X => HO.callx (xs := [_,_,_]) (vs := [_,_,_]) C37 ⟨(.r rfl), (.r rfl), (.r rfl), trivial⟩ (fun w hw => message_c x p hx W H hW hH rds ys.1 ys.2 hr0 hr9 b hbb w (hM1.keep hw) (hRD.keep w hw)) fun ym _ => ⟨[_,_,_,_,_,_,_,_,_,_,_,_,_,_,_,_,_,_,_], rfl, selJ (L1 := [_,_,_,_,_,_,_,_,_,_,_,_,_,_,_,_,_,_]) [1,2,3,4,5,6,7,8,9,10,11,12,13,14,15,16,17,18] rfl rfl rfl, HY.f rfl fun b33 => ⟨selJ (L1 := [_,_,_,_,_,_,_,_,_,_,_,_,_,_,_,_,_,_]) [2,3,4,5,6,7,8,9,10,11,12,13,14,15,16,17,18,19] rfl rfl rfl, HY.h0 rfl fun X => HO.st 0 (vs := [_,_,_,_]) (C' := [_,_,_,_]) (L' := [_,_,_,_,_,_,_,_,_,_,_,_,_,_,_,_,_,_,_,_] ++ X) N141 rfl rfl rfl rfl rfl rfl rfl rfl<|⟨[_,_,_,_,_,_,_,_,_,_,_,_,_,_,_,_,_,_,_,_], rfl, selJ (L1 := [_,_,_,_,_,_,_,_,_,_,_,_,_,_,_,_,_,_]) [2,3,4,5,6,7,8,9,10,11,12,13,14,15,16,17,18,19] rfl rfl rfl, HY.nil ?_⟩⟩⟩)
            refine VE.seqN ?_
            refine VC.seq ?_
            refine VC.reg (VO.l (LO.mv (.r rfl)) rfl<|VO.l (LO.rem (.r rfl) (.r rfl) (by omega)) rfl<|VO.l (LO.eq (.r rfl) (.r rfl)) rfl<|VO.nil ?_)
            refine VE.seqN ?_
            refine VC.cond rfl (fun h157 => ?_) (fun h157 => ?_)
            ·
              have h2 : i3 % 2 = 0 := by rw [show (2 : Int) = ((2 : Nat) : Int) from rfl, tmodN] at h157; omega
              refine VC.reg (VO.l (LO.mv (.r rfl)) rfl<|VO.l (LO.lda (vs := [_,_,_,_]) A141 (.r rfl) (fun _ hw => cells_at hw 0 rfl ⟨_, rfl⟩) rfl) rfl<|VO.h rfl<|HO.callP (first := []) (cap := []) (xs := [_,_]) (vs := [_,_]) [_,_,_,_] [_,_,_,_,_,_,_,_,_,_,_,_,_,_,_,_] (selK (L1 := [_,_,_,_] ++ [_,_,_,_,_,_,_,_,_,_,_,_,_,_,_,_]) [2,3,6,7,0,1,4,5,8,9,10,11,12,13,14,15,16,17,18,19] rfl rfl) (.r rfl) C36 ⟨(.r rfl), (.r rfl), trivial⟩ (fun w hw hh => Offer_c yB.1 (mkQ W H rds.length yB.2) gB.c gB.S gB.M t3 v3 (rdR rds rds.length) (msgK rds b) (msgV x.rn b (W * H)) ym.1 ym.2 w hB.s (by have := hB.c; omega) (msg_ok (q := (mkQ W H rds.length yB.2)) hx hL hbm hW.2 hH.2) hh (fun L w2 h2 => own_inv_rows ((St.rightOf (St.fz (selK (L1 := [_,_,_,_] ++ [_,_,_,_,_,_,_,_,_,_,_,_,_,_,_,_]) [2,3,6,7,0,1,4,5,8,9,10,11,12,13,14,15,16,17,18,19] rfl rfl w hw) h2)).inv 1 _ rfl)) (fun L w2 h2 => (St.rightOf (St.fz (selK (L1 := [_,_,_,_] ++ [_,_,_,_,_,_,_,_,_,_,_,_,_,_,_,_]) [2,3,6,7,0,1,4,5,8,9,10,11,12,13,14,15,16,17,18,19] rfl rfl w hw) h2)).inv 11 _ rfl)) fun yo hyo => VO.nil ?_)
              refine VE.inN (VE.seqN ?_)
              refine VC.reg (VO.l (LO.mv (.r rfl)) rfl<|VO.l (LO.add (.r rfl) (.r rfl) (wi (by omega) (by omega))) rfl<|VO.l (LO.as (.r rfl)) rfl<|VO.nil ?_)
              refine VE.thenN fun a w ha hw => ⟨(i3 + 1, gB.off (msgK rds b) (msgV x.rn b (W * H)) yo, gC, yo.2.1, yo.2.2.1), ⟨⟨by dsimp only; omega, fun e he => hyo.t e (hts e he), fun e he => hyo.v e (hvs e he)⟩, ((hB.off hb hyo).congr fun j _ => hlf_y h2 ha1), (((hC.mono hyo.t hyo.v).congr fun j _ => hlf_n (by omega)).le (Nat.le_succ _))⟩, (by dsimp only; omega), ha.sub (.cons rfl (.cons rfl (.cons rfl (.cons rfl (.cons rfl (.cons rfl (.cons rfl .nil))))))), hw.sel [0,1,6,7,2,3,8,9,10,11,12,13,14,15,16,17,18,19] rfl⟩
            ·
              have h2 : i3 % 2 ≠ 0 := by rw [show (2 : Int) = ((2 : Nat) : Int) from rfl, tmodN] at h157; omega
              refine VC.reg (VO.l (LO.mv (.r rfl)) rfl<|VO.l (LO.lda (vs := [_,_,_,_]) A141 (.r rfl) (fun _ hw => cells_at hw 0 rfl ⟨_, rfl⟩) rfl) rfl<|VO.h rfl<|HO.callP (first := []) (cap := []) (xs := [_,_]) (vs := [_,_]) [_,_,_,_] [_,_,_,_,_,_,_,_,_,_,_,_,_,_,_,_] (selK (L1 := [_,_,_,_] ++ [_,_,_,_,_,_,_,_,_,_,_,_,_,_,_,_]) [4,5,6,7,0,1,2,3,8,9,10,11,12,13,14,15,16,17,18,19] rfl rfl) (.r rfl) C36 ⟨(.r rfl), (.r rfl), trivial⟩ (fun w hw hh => Offer_c yC.1 (mkQ W H rds.length yC.2) gC.c gC.S gC.M t3 v3 (rdR rds rds.length) (msgK rds b) (msgV x.rn b (W * H)) ym.1 ym.2 w hC.s (by have := hC.c; omega) (msg_ok (q := (mkQ W H rds.length yC.2)) hx hL hbm hW.2 hH.2) hh (fun L w2 h2 => own_inv_rows ((St.rightOf (St.fz (selK (L1 := [_,_,_,_] ++ [_,_,_,_,_,_,_,_,_,_,_,_,_,_,_,_]) [4,5,6,7,0,1,2,3,8,9,10,11,12,13,14,15,16,17,18,19] rfl rfl w hw) h2)).inv 1 _ rfl)) (fun L w2 h2 => (St.rightOf (St.fz (selK (L1 := [_,_,_,_] ++ [_,_,_,_,_,_,_,_,_,_,_,_,_,_,_,_]) [4,5,6,7,0,1,2,3,8,9,10,11,12,13,14,15,16,17,18,19] rfl rfl w hw) h2)).inv 8 _ rfl)) fun yo hyo => VO.nil ?_)
              refine VE.inN (VE.seqN ?_)
              refine VC.reg (VO.l (LO.mv (.r rfl)) rfl<|VO.l (LO.add (.r rfl) (.r rfl) (wi (by omega) (by omega))) rfl<|VO.l (LO.as (.r rfl)) rfl<|VO.nil ?_)
              refine VE.thenN fun a w ha hw => ⟨(i3 + 1, gB, gC.off (msgK rds b) (msgV x.rn b (W * H)) yo, yo.2.1, yo.2.2.1), ⟨⟨by dsimp only; omega, fun e he => hyo.t e (hts e he), fun e he => hyo.v e (hvs e he)⟩, (((hB.mono hyo.t hyo.v).congr fun j _ => hlf_n (by omega)).le (Nat.le_succ _)), ((hC.off hb hyo).congr fun j _ => hlf_y (by omega) ha1)⟩, (by dsimp only; omega), ha.sub (.cons rfl (.cons rfl (.cons rfl (.cons rfl (.cons rfl (.cons rfl (.cons rfl .nil))))))), hw.sel [6,7,0,1,2,3,8,9,10,11,12,13,14,15,16,17,18,19] rfl⟩
          ·
            have hi3 : i3 = o2.length := by omega
            refine VC.exit (VE.thenX (VE.thenX (VE.inX (VE.seqN ?_))))
            refine VC.seq ?_
            refine VC.reg (VO.l (LO.mv (.r rfl)) rfl<|VO.l (LO.mv (.r rfl)) rfl<|VO.h rfl<|HO.callP (first := []) (cap := []) (xs := [_,_]) (vs := [_,_]) [_,_,_,_] [_,_,_,_,_,_,_,_,_,_,_,_,_,_] (selK (L1 := [_,_,_,_] ++ [_,_,_,_,_,_,_,_,_,_,_,_,_,_]) [0,1,4,5,2,3,6,7,8,9,10,11,12,13,14,15,16,17] rfl rfl) (.r rfl) C38 ⟨(.r rfl), (.r rfl), trivial⟩ (fun w hw hh => Merge_c yB.1 yC.1 (mkQ W H rds.length yB.2) (mkQ W H rds.length yC.2) gB.c gC.c gB.S gC.S gB.M gC.M t3 v3 (fun _ => none) rds w hB.s hC.s (by have h1 := hB.c; have h2 := hC.c; omega) (fun k hk => (hB.p.kt hx k hk).2.1) (fun k hk => (hC.p.kt hx k hk).2.1) rfl rfl rfl rfl hr9 hh (fun L w2 h2 => have z := St.rightOf (St.fz (selK (L1 := [_,_,_,_] ++ [_,_,_,_,_,_,_,_,_,_,_,_,_,_]) [0,1,4,5,2,3,6,7,8,9,10,11,12,13,14,15,16,17] rfl rfl w hw) h2); ⟨cells_inv (z.inv 0 _ rfl), z.inv 1 _ rfl, RO.of_own z 8 rfl, RO.of_own z 5 rfl, z.inv 10 _ rfl⟩)) fun ym hym => VO.h rfl<|HO.lo (LO.mv (.r rfl))<|VO.h rfl<|HO.lo (LO.ex (.r rfl) rfl)<|VO.h rfl<|HO.lo (LO.ex (.r rfl) rfl)<|VO.h rfl<|HO.lo (LO.as (.r rfl))<|VO.nil ?_)
            refine VE.seqN ?_
            refine VC.seq ?_
            refine VC.seq ?_
            refine VC.reg (VO.l (LO.mv (.r rfl)) rfl<|VO.l (LO.ne (.r rfl) (.r rfl)) rfl<|VO.nil ?_)
            refine VE.seqN ?_
            refine VC.cond rfl (fun h171 => ?_) (fun h171 => ?_)
            ·
              (exfalso; exact h171 rfl)
            ·
              have hSj := hB.p.join hC.p hym.m
              have hSm : SetP x rds (W * H) (fun t => t < x.ms.length) ym.1.1 := hSj.congr fun j hj => by rw [hi3, hlf_all hpm (by omega)]; exact ⟨fun _ => hj, fun _ => trivial⟩
              have hA2 : NodeP x rds (W * H) (fun t => t < x.ms.length) gA ym.1.2.2.1 ym.1.2.2.2.1 i := (hA.congr fun j hj => by rw [hie]).mono (fun e he => hym.t e (hts e he)) (fun e he => hym.v e (hvs e he))
              have eS : ym.1.1 = gA.S := hSm.uniq hA2.p hym.s.k.s hA2.s.k.s
              have eC : ym.1.2.2.2.2 = gA.c := (eS ▸ hym.s.n : NdN gA.S ym.1.2.2.2.2).uniq hA2.s.n
              refine VC.skip (VE.seqN ?_)
              refine VC.seq ?_
              refine VC.reg (VO.l (LO.fa (r := 6) F128_6 (.r rfl) rfl) rfl<|VO.l (LO.ld O28 (.r rfl) (cells_keep (sub_cells (off := 6) hXB ⟨_, rfl⟩))) rfl<|VO.l (LO.cv ⟨_, Tryz.underlying28⟩ Tryz.underlying3 (.r rfl) (wi (by omega) (by omega))) rfl<|VO.l (LO.rem (.r rfl) (.r rfl) (by omega)) rfl<|VO.l (LO.as (.r rfl)) rfl<|VO.nil ?_)
              refine VE.seqN ?_
              refine VC.seq ?_
              refine VC.res (fun _ h => (St.bagD (Rs := ([] : List VY).map vOwn) h)) ?_
              show VC _ _ _ _ _ _ [_,_,_,_,_,_,_,_,_,_,_,_,_,_,_,_,_,_,_] _ _
              refine VC.reg (VO.l (LO.mv (.r rfl)) rfl<|VO.l (LO.mv (.r rfl)) rfl<|VO.h rfl<|HO.callP (first := []) (cap := []) (xs := [_,_]) (vs := [_,_]) [_,_] [_,_,_,_,_,_,_,_,_,_,_,_,_,_,_,_,_] (selK (L1 := [_,_] ++ [_,_,_,_,_,_,_,_,_,_,_,_,_,_,_,_,_]) [18,0,1,2,3,4,5,6,7,8,9,10,11,12,13,14,15,16,17] rfl rfl) (.r rfl) C39 ⟨(.r rfl), (.r rfl), trivial⟩ (fun w hw hh => Map_c yA.1 (mkQ W H rds.length yA.2) gA.c gA.S gA.M ym.1.2.2.1 ym.1.2.2.2.1 (rdR rds rds.length) (fun _ => none) [] (x.tm.tmod 3000) w hA2.s (by have := hA2.c; omega) (hA2.p.ok hx hL) hA2.p.len hT hW hH LkI.nil hh (fun L w2 h2 => ⟨NdW.of (St.rightOf (St.fz (selK (L1 := [_,_] ++ [_,_,_,_,_,_,_,_,_,_,_,_,_,_,_,_,_]) [18,0,1,2,3,4,5,6,7,8,9,10,11,12,13,14,15,16,17] rfl rfl w hw) h2)) 7 8 2 3 rfl rfl rfl rfl, (St.rightOf (St.fz (selK (L1 := [_,_] ++ [_,_,_,_,_,_,_,_,_,_,_,_,_,_,_,_,_]) [18,0,1,2,3,4,5,6,7,8,9,10,11,12,13,14,15,16,17] rfl rfl w hw) h2)).inv 16 _ rfl⟩)) fun yM hyM => VO.h rfl<|HO.lo (LO.mv (.r rfl))<|VO.h rfl<|HO.lo (LO.ex (.r rfl) rfl)<|VO.h rfl<|HO.lo (LO.ex (.r rfl) rfl)<|VO.h rfl<|HO.lo (LO.as (.r rfl))<|VO.h rfl<|HO.lo (LO.as (.r rfl))<|VO.nil ?_)
              refine VE.seqN ?_
              refine VC.seq ?_
              refine VC.reg (VO.l (LO.mv (.r rfl)) rfl<|VO.l (LO.mv (.r rfl)) rfl<|VO.h rfl<|HO.callP (first := []) (cap := []) (xs := [_,_]) (vs := [_,_]) [_,_] [_,_,_,_,_,_,_,_,_,_,_,_,_,_,_,_,_,_] (selK (L1 := [_,_] ++ [_,_,_,_,_,_,_,_,_,_,_,_,_,_,_,_,_,_]) [17,2,0,1,3,4,5,6,7,8,9,10,11,12,13,14,15,16,18,19] rfl rfl) (.r rfl) C39 ⟨(.r rfl), (.r rfl), trivial⟩ (fun w hw hh => Map_c yB.1 (qM (mkQ W H rds.length yB.2) ym.2 yB.2.lm) ym.1.2.2.2.2 ym.1.1 ym.1.2.1 ym.1.2.2.1 ym.1.2.2.2.1 (rdR rds rds.length) (fun _ => none) yM.1.2.2 (x.tm.tmod 3000) w hym.s (by have := hym.c; have h1 := hB.c; have h2 := hC.c; omega) (hSm.ok hx hL) hSm.len hT hW hH LkI.nil hh (fun L w2 h2 => ⟨NdW.of (St.rightOf (St.fz (selK (L1 := [_,_] ++ [_,_,_,_,_,_,_,_,_,_,_,_,_,_,_,_,_,_]) [17,2,0,1,3,4,5,6,7,8,9,10,11,12,13,14,15,16,18,19] rfl rfl w hw) h2)) 2 3 4 5 rfl rfl rfl rfl, (St.rightOf (St.fz (selK (L1 := [_,_] ++ [_,_,_,_,_,_,_,_,_,_,_,_,_,_,_,_,_,_]) [17,2,0,1,3,4,5,6,7,8,9,10,11,12,13,14,15,16,18,19] rfl rfl w hw) h2)).inv 15 _ rfl⟩)) fun yN hyN => VO.h rfl<|HO.lo (LO.mv (.r rfl))<|VO.h rfl<|HO.lo (LO.ex (.r rfl) rfl)<|VO.h rfl<|HO.lo (LO.ex (.r rfl) rfl)<|VO.h rfl<|HO.lo (LO.as (.r rfl))<|VO.h rfl<|HO.lo (LO.as (.r rfl))<|VO.nil ?_)
              refine VE.seqN ?_
              refine VC.seq ?_
              refine VC.reg (VO.l (LO.mv (.r rfl)) rfl<|VO.l (LO.mv (.r rfl)) rfl<|VO.h rfl<|HO.callP (first := []) (cap := []) (xs := [_,_]) (vs := [_,_]) [_,_] [_,_,_,_,_,_,_,_,_,_,_,_,_,_,_,_,_,_,_] (selK (L1 := [_,_] ++ [_,_,_,_,_,_,_,_,_,_,_,_,_,_,_,_,_,_,_]) [4,2,0,1,3,5,6,7,8,9,10,11,12,13,14,15,16,17,18,19,20] rfl rfl) (.r rfl) C40 ⟨(.r rfl), (.r rfl), trivial⟩ (fun w hw hh => Clashes_c yA.1 (mkQ W H rds.length yA.2) gA.c gA.S gA.M ym.1.2.2.1 ym.1.2.2.2.1 (rdR rds rds.length) yM.1.2.1 yN.1.2.2 (x.tm.tmod 3000) w hA2.s (by have := hA2.c; omega) (hA2.p.ok hx hL) hA2.p.len hT hW hH (hyM.2.1.mono hyN.2.2) hh (fun L w2 h2 => ⟨NdW.of (St.rightOf (St.fz (selK (L1 := [_,_] ++ [_,_,_,_,_,_,_,_,_,_,_,_,_,_,_,_,_,_,_]) [4,2,0,1,3,5,6,7,8,9,10,11,12,13,14,15,16,17,18,19,20] rfl rfl w hw) h2)) 10 11 5 6 rfl rfl rfl rfl, (St.rightOf (St.fz (selK (L1 := [_,_] ++ [_,_,_,_,_,_,_,_,_,_,_,_,_,_,_,_,_,_,_]) [4,2,0,1,3,5,6,7,8,9,10,11,12,13,14,15,16,17,18,19,20] rfl rfl w hw) h2)).inv 18 _ rfl⟩) (rainF x.rn) (hA2.p.tr hx)) fun yC1 hyC1 => VO.h rfl<|HO.lo (LO.mv (.r rfl))<|VO.h rfl<|HO.lo (LO.ex (.r rfl) rfl)<|VO.h rfl<|HO.lo (LO.ex (.r rfl) rfl)<|VO.h rfl<|HO.lo (LO.as (.r rfl))<|VO.h rfl<|HO.lo (LO.as (.r rfl))<|VO.nil ?_)
              refine VE.seqN ?_
              refine VC.seq ?_
              refine VC.reg (VO.l (LO.mv (.r rfl)) rfl<|VO.l (LO.mv (.r rfl)) rfl<|VO.h rfl<|HO.callP (first := []) (cap := []) (xs := [_,_]) (vs := [_,_]) [_,_] [_,_,_,_,_,_,_,_,_,_,_,_,_,_,_,_,_,_,_] (selK (L1 := [_,_] ++ [_,_,_,_,_,_,_,_,_,_,_,_,_,_,_,_,_,_,_]) [0,1,2,3,4,5,6,7,8,9,10,11,12,13,14,15,16,17,18,19,20] rfl rfl) (.r rfl) C41 ⟨(.r rfl), (.r rfl), trivial⟩ (fun w hw hh => Field_c yA.1 (mkQ W H rds.length yA.2) gA.c gA.S gA.M ym.1.2.2.1 ym.1.2.2.2.1 (rdR rds rds.length) yC1.1 yC1.2 (x.tm.tmod 3000) w hA2.s (by have := hA2.c; omega) (hA2.p.ok hx hL) hA2.p.len hT hW hH hyC1.1 hh (fun L w2 h2 => ⟨NdW.of (St.rightOf (St.fz (selK (L1 := [_,_] ++ [_,_,_,_,_,_,_,_,_,_,_,_,_,_,_,_,_,_,_]) [0,1,2,3,4,5,6,7,8,9,10,11,12,13,14,15,16,17,18,19,20] rfl rfl w hw) h2)) 10 11 5 6 rfl rfl rfl rfl, (St.rightOf (St.fz (selK (L1 := [_,_] ++ [_,_,_,_,_,_,_,_,_,_,_,_,_,_,_,_,_,_,_]) [0,1,2,3,4,5,6,7,8,9,10,11,12,13,14,15,16,17,18,19,20] rfl rfl w hw) h2)).inv 18 _ rfl⟩)) fun yF hyF => VO.h rfl<|HO.lo (LO.mv (.r rfl))<|VO.h rfl<|HO.lo (LO.ex (.r rfl) rfl)<|VO.h rfl<|HO.lo (LO.ex (.r rfl) rfl)<|VO.h rfl<|HO.alloc (C := #[_,_,_,_,_,_]) Z108 rfl fun b59 => VO.h0<|HO.st 0 (vs := [_,_,_,_,_,_]) (C' := [_,_,_,_,_,_]) (L' := [_,_,_,_,_,_,_,_,_,_,_,_,_,_,_,_,_,_,_,_,_,_,_]) N108 rfl rfl rfl rfl rfl rfl rfl rfl<|VO.h rfl<|HO.lo (LO.as (.r rfl))<|VO.nil ?_)
              refine VE.seqN ?_
              refine VC.seq ?_
              refine VC.seq ?_
              have hMP : MapP gA.S (rdR rds rds.length) W H (x.tm.tmod 3000) ym.1.2.2.2.1 [] yM.1 := ⟨hyM.1, hyM.2.1, hyM.2.2⟩
              have hNP : MapP ym.1.1 (rdR rds rds.length) W H (x.tm.tmod 3000) ym.1.2.2.2.1 yM.1.2.2 yN.1 := ⟨hyN.1, hyN.2.1, hyN.2.2⟩
              have hFP : MapP gA.S (rdR rds rds.length) W H (x.tm.tmod 3000) ym.1.2.2.2.1 yC1.2 yF.1 := hyF
              have hML : yM.1.1.length = W * H := hMP.len
              have hNL : yN.1.1.length = W * H := hNP.len
              have hFL : yF.1.1.length = W * H := hFP.len
              have hF37 : (((((((!decide ((0 : Int) = 0) || !decide ((0 : Int) = 0)) || !decide ((0 : Int) = 0)) || !decide ((0 : Int) = 0)) || !decide (((yM.1.1.length : Nat) : Int) = (W : Int) * (H : Int))) || !decide (((yN.1.1.length : Nat) : Int) = ((yM.1.1.length : Nat) : Int))) || !decide (((0 : Nat) : Int) = 0)) || !decide (((yF.1.1.length : Nat) : Int) = ((yM.1.1.length : Nat) : Int))) = false := by rw [hML, hNL, hFL, hWH]; simp
              have hG37 : (!(((((((!decide ((0 : Int) = 0) || !decide ((0 : Int) = 0)) || !decide ((0 : Int) = 0)) || !decide ((0 : Int) = 0)) || !decide (((yM.1.1.length : Nat) : Int) = (W : Int) * (H : Int))) || !decide (((yN.1.1.length : Nat) : Int) = ((yM.1.1.length : Nat) : Int))) || !decide (((0 : Nat) : Int) = 0)) || !decide (((yF.1.1.length : Nat) : Int) = ((yM.1.1.length : Nat) : Int)))) = true := by rw [hF37]; rfl
              refine VC.drawF (G := (List Int × Option Addr × Nat) × (List Int × Option Addr × Nat)) (fun y => [(254, .bool (!((strB y.1.1).toList == (strB y.2.1).toList)))]) [(1,_), (20,_), (21,_), (23,_)] (fun y => [own 5 1 y.1.2.1 y.1.2.2 (y.1.1.map byC), own 5 1 y.2.2.1 y.2.2.2 (y.2.1.map byC)]) [_,_,_,_,_,_,_,_,_,_,_,_,_,_,_,_,_,_,_,_,_,_,_] (fun y => (∃ ks, KeysOf gA.S ks ∧ y.1.1 = snapF gA.c (allP gA.S ks)) ∧ ∃ ks, KeysOf ym.1.1 ks ∧ y.2.1 = snapF ym.1.2.2.2.2 (allP ym.1.1 ks)) 7 [some 0, some 0, some 0, some 0, some 0, some 0, some 0, some 0, some 0, some 0, some 0, some 0, some 0, some 0, some 0, some 0, some 0, some 0, some 0, some 0, some 0, some 0, some 0, some 0, some 0, some 0, some 0, some 0, some 0, some 0, some 0, some 0, some 0, some 0, some 0, some 0, some 0, some 0, some 0, some 0, some 0, some 0, some 0, some 0, some 0, some 0, some 0, some 0, none, none, some 0, none, none, none, none] mixed (by kernel_rfl) (LX.l (fun _ hJ => LO.mv (.r rfl)) rfl<|LX.l (fun _ hJ => LO.ne (.r rfl) (.r rfl)) rfl<|LX.l (fun _ hJ => LO.mv (.r rfl)) rfl<|LX.lg rfl rfl (GD.f _) (fun hg _ hJ => LO.mv (.r rfl)) rfl<|LX.lg rfl rfl (GD.f _) (fun hg _ hJ => LO.ne (.g hg rfl) (.r rfl)) rfl<|LX.l (fun _ hJ => LO.pkO (.r rfl) (.r rfl) rfl rfl) rfl<|LX.l (fun _ hJ => LO.mv (.r rfl)) rfl<|LX.lg rfl rfl (GD.f _) (fun hg _ hJ => LO.mv (.r rfl)) rfl<|LX.lg rfl rfl (GD.f _) (fun hg _ hJ => LO.ne (.g hg rfl) (.r rfl)) rfl<|LX.l (fun _ hJ => LO.pkO (.r rfl) (.r rfl) rfl rfl) rfl<|LX.l (fun _ hJ => LO.mv (.r rfl)) rfl<|LX.lg rfl rfl (GD.f _) (fun hg _ hJ => LO.mv (.r rfl)) rfl<|LX.lg rfl rfl (GD.f _) (fun hg _ hJ => LO.ne (.g hg rfl) (.r rfl)) rfl<|LX.l (fun _ hJ => LO.pkO (.r rfl) (.r rfl) rfl rfl) rfl<|LX.l (fun _ hJ => LO.mv (.r rfl)) rfl<|LX.lg rfl rfl (GD.f _) (fun hg _ hJ => LO.mv (.r rfl)) rfl<|LX.lg rfl rfl (GD.f _) (fun hg _ hJ => LO.len S146 (.g hg rfl) rfl) rfl<|LX.lg rfl rfl (GD.f _) (fun hg _ hJ => LO.fa (r := 0) F131_0 (.r rfl) rfl) rfl<|LX.lg rfl rfl (GD.f _) (fun hg _ hJ => LO.fa (r := 3) F88_3 (.g hg rfl) rfl) rfl<|LX.lg rfl rfl (GD.f _) (fun hg _ hJ => LO.ld O3 (.g hg rfl) (cells_keep (sub_cells (off := 3) hSB ⟨_, rfl⟩))) rfl<|LX.lg rfl rfl (GD.f _) (fun hg _ hJ => LO.fa (r := 0) F131_0 (.r rfl) rfl) rfl<|LX.lg rfl rfl (GD.f _) (fun hg _ hJ => LO.fa (r := 4) F88_4 (.g hg rfl) rfl) rfl<|LX.lg rfl rfl (GD.f _) (fun hg _ hJ => LO.ld O3 (.g hg rfl) (cells_keep (sub_cells (off := 4) hSB ⟨_, rfl⟩))) rfl<|LX.lg rfl rfl (GD.f _) (fun hg _ hJ => LO.mul (.g hg rfl) (.g hg rfl) (wi (by omega) (by omega))) rfl<|LX.lg rfl rfl (GD.f _) (fun hg _ hJ => LO.ne (.g hg rfl) (.g hg rfl)) rfl<|LX.l (fun _ hJ => LO.pkO (.r rfl) (.r rfl) rfl rfl) rfl<|LX.l (fun _ hJ => LO.mv (.r rfl)) rfl<|LX.lg rfl rfl (GD.f _) (fun hg _ hJ => LO.mv (.r rfl)) rfl<|LX.lg rfl rfl (GD.f _) (fun hg _ hJ => LO.len S146 (.g hg rfl) rfl) rfl<|LX.lg rfl rfl (GD.f _) (fun hg _ hJ => LO.mv (.r rfl)) rfl<|LX.lg rfl rfl (GD.f _) (fun hg _ hJ => LO.len S146 (.g hg rfl) rfl) rfl<|LX.lg rfl rfl (GD.f _) (fun hg _ hJ => LO.ne (.g hg rfl) (.g hg rfl)) rfl<|LX.l (fun _ hJ => LO.pkO (.r rfl) (.r rfl) rfl rfl) rfl<|LX.l (fun _ hJ => LO.mv (.r rfl)) rfl<|LX.lg rfl rfl (GD.f _) (fun hg _ hJ => LO.mv (.r rfl)) rfl<|LX.lg rfl rfl (GD.f _) (fun hg _ hJ => LO.len S149 (.g hg rfl) rfl) rfl<|LX.lg rfl rfl (GD.f _) (fun hg _ hJ => LO.ne (.g hg rfl) (.r rfl)) rfl<|LX.l (fun _ hJ => LO.pkO (.r rfl) (.r rfl) rfl rfl) rfl<|LX.l (fun _ hJ => LO.mv (.r rfl)) rfl<|LX.lg rfl rfl (GD.f _) (fun hg _ hJ => LO.fa (r := 5) F108_1 (.r rfl) rfl) rfl<|LX.lg rfl rfl (GD.f _) (fun hg _ hJ => LO.ld O45 (.g hg rfl) (fun _ hw => cells_at (hJ _ hw) 0 rfl ⟨_, rfl⟩)) rfl<|LX.lg rfl rfl (GD.f _) (fun hg _ hJ => LO.len S45 (.g hg rfl) rfl) rfl<|LX.lg rfl rfl (GD.f _) (fun hg _ hJ => LO.mv (.r rfl)) rfl<|LX.lg rfl rfl (GD.f _) (fun hg _ hJ => LO.len S146 (.g hg rfl) rfl) rfl<|LX.lg rfl rfl (GD.f _) (fun hg _ hJ => LO.ne (.g hg rfl) (.g hg rfl)) rfl<|LX.l (fun _ hJ => LO.pkO (.r rfl) (.r rfl) rfl rfl) rfl<|LX.l (fun _ hJ => LO.mv (.r rfl)) rfl<|LX.lg rfl rfl (GD.f _) (fun hg _ hJ => LO.mv (.r rfl)) rfl<|LX.s<|LX.s<|LX.lg rfl rfl (GD.f _) (fun hg _ hJ => LO.mv (.r rfl)) rfl<|LX.s<|LX.s<|LX.s<|LX.s<|LX.nil) (fun hf => (HE.mk [48] (by kernel_rfl) rfl ⟨(HEo.opG rfl rfl rfl (congrArg (fun z => some (Value.bool z)) hF37)<|HO.callx (xs := [_]) (vs := [_]) C42 ⟨(.g (by first | exact hG37 | exact hF37) rfl), trivial⟩ (fun w hw => Snapshot_c yA.1 (mkQ W H rds.length yA.2) gA.c gA.S gA.M ym.1.2.2.1 ym.1.2.2.2.1 w hA2.s (by have := hA2.c; omega) (hA2.p.kt hx) (hA2.p.vs hx) (NdW.of hw 14 15 9 10 rfl rfl rfl rfl)) fun ySA hySA => ⟨selK (L1 := [_,_,_,_,_,_,_,_,_,_,_,_,_,_,_,_,_,_,_,_,_,_,_]) [1,2,3,4,5,6,7,8,9,10,11,12,13,14,15,16,17,18,19,20,21,22,23] rfl rfl, (HE.mk [49,51] (by kernel_rfl) rfl ⟨(HEo.opG rfl rfl rfl (congrArg (fun z => some (Value.bool z)) hF37)<|HO.lo (LO.b2s (l := ySA.1) S31 Tryz.underlying5 Tryz.underlying9 (.r rfl) rfl (fun w hw => RO.of_own hw 0 rfl))<|⟨selK (L1 := [_,_,_,_,_,_,_,_,_,_,_,_,_,_,_,_,_,_,_,_,_,_,_]) [1,2,3,4,5,6,7,8,9,10,11,12,13,14,15,16,17,18,19,20,21,22,23] rfl rfl, (HE.mk [51] (by kernel_rfl) rfl ⟨(HEo.opG rfl rfl rfl (congrArg (fun z => some (Value.bool z)) hF37)<|HO.callx (xs := [_]) (vs := [_]) C42 ⟨(.g (by first | exact hG37 | exact hF37) rfl), trivial⟩ (fun w hw => Snapshot_c yB.1 (qM (mkQ W H rds.length yB.2) ym.2 yB.2.lm) ym.1.2.2.2.2 ym.1.1 ym.1.2.1 ym.1.2.2.1 ym.1.2.2.2.1 w hym.s (by have := hym.c; have h1 := hB.c; have h2 := hC.c; omega) (hSm.kt hx) (hSm.vs hx) (NdW.of hw 8 9 10 11 rfl rfl rfl rfl)) fun ySB hySB => ⟨selK (L1 := [_,_,_,_,_,_,_,_,_,_,_,_,_,_,_,_,_,_,_,_,_,_,_]) [2,3,4,5,6,7,8,9,10,11,12,13,14,15,16,17,18,19,20,21,22,23,24] rfl rfl, (HE.mk [52] (by kernel_rfl) rfl ⟨(HEo.opG rfl rfl rfl (congrArg (fun z => some (Value.bool z)) hF37)<|HO.lo (LO.b2s (l := ySB.1) S31 Tryz.underlying5 Tryz.underlying9 (.r rfl) rfl (fun w hw => RO.of_own hw 0 rfl))<|⟨selK (L1 := [_,_,_,_,_,_,_,_,_,_,_,_,_,_,_,_,_,_,_,_,_,_,_]) [2,3,4,5,6,7,8,9,10,11,12,13,14,15,16,17,18,19,20,21,22,23,24] rfl rfl, (HE.mk [53] (by kernel_rfl) rfl ⟨(HEo.opG rfl rfl rfl (congrArg (fun z => some (Value.bool z)) hF37)<|HO.lo (LO.neS (.r rfl) (.r rfl))<|⟨selK (L1 := [_,_,_,_,_,_,_,_,_,_,_,_,_,_,_,_,_,_,_,_,_,_,_]) [2,3,4,5,6,7,8,9,10,11,12,13,14,15,16,17,18,19,20,21,22,23,24] rfl rfl, (HE.mk [54] (by kernel_rfl) rfl ⟨(HEo.op rfl rfl<|HO.lo (LO.pkF (.r rfl) (by first | exact hG37 | exact hF37) (.r rfl))<|⟨selK (L1 := [_,_,_,_,_,_,_,_,_,_,_,_,_,_,_,_,_,_,_,_,_,_,_]) [2,3,4,5,6,7,8,9,10,11,12,13,14,15,16,17,18,19,20,21,22,23,24] rfl rfl, (HE.fin (by kernel_rfl) (VE.weak (.cons rfl (.cons rfl (.cons rfl (.cons rfl (.cons rfl .nil))))) (selK (L1 := [_,_] ++ [_,_,_,_,_,_,_,_,_,_,_,_,_,_,_,_,_,_,_,_,_,_,_]) [1,0,2,3,4,5,6,7,8,9,10,11,12,13,14,15,16,17,18,19,20,21,22,23,24] rfl rfl) (hf (ySA, ySB) ⟨hySA, hySB⟩)))⟩), trivial⟩)⟩), trivial⟩)⟩), trivial⟩)⟩), trivial⟩)⟩), (HEo.opG rfl rfl rfl (congrArg (fun z => some (Value.bool z)) hF37)<|HO.callx (xs := [_]) (vs := [_]) C42 ⟨(.g (by first | exact hG37 | exact hF37) rfl), trivial⟩ (fun w hw => Snapshot_c yB.1 (qM (mkQ W H rds.length yB.2) ym.2 yB.2.lm) ym.1.2.2.2.2 ym.1.1 ym.1.2.1 ym.1.2.2.1 ym.1.2.2.2.1 w hym.s (by have := hym.c; have h1 := hB.c; have h2 := hC.c; omega) (hSm.kt hx) (hSm.vs hx) (NdW.of hw 8 9 10 11 rfl rfl rfl rfl)) fun ySB hySB => ⟨selK (L1 := [_,_,_,_,_,_,_,_,_,_,_,_,_,_,_,_,_,_,_,_,_,_,_]) [2,3,4,5,6,7,8,9,10,11,12,13,14,15,16,17,18,19,20,21,22,23,24] rfl rfl, (HE.mk [49,52] (by kernel_rfl) rfl ⟨(HEo.opG rfl rfl rfl (congrArg (fun z => some (Value.bool z)) hF37)<|HO.lo (LO.b2s (l := ySA.1) S31 Tryz.underlying5 Tryz.underlying9 (.r rfl) rfl (fun w hw => RO.of_own hw 1 rfl))<|⟨selK (L1 := [_,_,_,_,_,_,_,_,_,_,_,_,_,_,_,_,_,_,_,_,_,_,_]) [2,3,4,5,6,7,8,9,10,11,12,13,14,15,16,17,18,19,20,21,22,23,24] rfl rfl, (HE.mk [52] (by kernel_rfl) rfl ⟨(HEo.opG rfl rfl rfl (congrArg (fun z => some (Value.bool z)) hF37)<|HO.lo (LO.b2s (l := ySB.1) S31 Tryz.underlying5 Tryz.underlying9 (.r rfl) rfl (fun w hw => RO.of_own hw 0 rfl))<|⟨selK (L1 := [_,_,_,_,_,_,_,_,_,_,_,_,_,_,_,_,_,_,_,_,_,_,_]) [2,3,4,5,6,7,8,9,10,11,12,13,14,15,16,17,18,19,20,21,22,23,24] rfl rfl, (HE.mk [53] (by kernel_rfl) rfl ⟨(HEo.opG rfl rfl rfl (congrArg (fun z => some (Value.bool z)) hF37)<|HO.lo (LO.neS (.r rfl) (.r rfl))<|⟨selK (L1 := [_,_,_,_,_,_,_,_,_,_,_,_,_,_,_,_,_,_,_,_,_,_,_]) [2,3,4,5,6,7,8,9,10,11,12,13,14,15,16,17,18,19,20,21,22,23,24] rfl rfl, (HE.mk [54] (by kernel_rfl) rfl ⟨(HEo.op rfl rfl<|HO.lo (LO.pkF (.r rfl) (by first | exact hG37 | exact hF37) (.r rfl))<|⟨selK (L1 := [_,_,_,_,_,_,_,_,_,_,_,_,_,_,_,_,_,_,_,_,_,_,_]) [2,3,4,5,6,7,8,9,10,11,12,13,14,15,16,17,18,19,20,21,22,23,24] rfl rfl, (HE.fin (by kernel_rfl) (VE.weak (.cons rfl (.cons rfl (.cons rfl (.cons rfl (.cons rfl .nil))))) (selK (L1 := [_,_] ++ [_,_,_,_,_,_,_,_,_,_,_,_,_,_,_,_,_,_,_,_,_,_,_]) [1,0,2,3,4,5,6,7,8,9,10,11,12,13,14,15,16,17,18,19,20,21,22,23,24] rfl rfl) (hf (ySA, ySB) ⟨hySA, hySB⟩)))⟩), trivial⟩)⟩), trivial⟩)⟩), trivial⟩)⟩), (HEo.opG rfl rfl rfl (congrArg (fun z => some (Value.bool z)) hF37)<|HO.lo (LO.b2s (l := ySB.1) S31 Tryz.underlying5 Tryz.underlying9 (.r rfl) rfl (fun w hw => RO.of_own hw 0 rfl))<|⟨selK (L1 := [_,_,_,_,_,_,_,_,_,_,_,_,_,_,_,_,_,_,_,_,_,_,_]) [2,3,4,5,6,7,8,9,10,11,12,13,14,15,16,17,18,19,20,21,22,23,24] rfl rfl, (HE.mk [49] (by kernel_rfl) rfl ⟨(HEo.opG rfl rfl rfl (congrArg (fun z => some (Value.bool z)) hF37)<|HO.lo (LO.b2s (l := ySA.1) S31 Tryz.underlying5 Tryz.underlying9 (.r rfl) rfl (fun w hw => RO.of_own hw 1 rfl))<|⟨selK (L1 := [_,_,_,_,_,_,_,_,_,_,_,_,_,_,_,_,_,_,_,_,_,_,_]) [2,3,4,5,6,7,8,9,10,11,12,13,14,15,16,17,18,19,20,21,22,23,24] rfl rfl, (HE.mk [53] (by kernel_rfl) rfl ⟨(HEo.opG rfl rfl rfl (congrArg (fun z => some (Value.bool z)) hF37)<|HO.lo (LO.neS (.r rfl) (.r rfl))<|⟨selK (L1 := [_,_,_,_,_,_,_,_,_,_,_,_,_,_,_,_,_,_,_,_,_,_,_]) [2,3,4,5,6,7,8,9,10,11,12,13,14,15,16,17,18,19,20,21,22,23,24] rfl rfl, (HE.mk [54] (by kernel_rfl) rfl ⟨(HEo.op rfl rfl<|HO.lo (LO.pkF (.r rfl) (by first | exact hG37 | exact hF37) (.r rfl))<|⟨selK (L1 := [_,_,_,_,_,_,_,_,_,_,_,_,_,_,_,_,_,_,_,_,_,_,_]) [2,3,4,5,6,7,8,9,10,11,12,13,14,15,16,17,18,19,20,21,22,23,24] rfl rfl, (HE.fin (by kernel_rfl) (VE.weak (.cons rfl (.cons rfl (.cons rfl (.cons rfl (.cons rfl .nil))))) (selK (L1 := [_,_] ++ [_,_,_,_,_,_,_,_,_,_,_,_,_,_,_,_,_,_,_,_,_,_,_]) [1,0,2,3,4,5,6,7,8,9,10,11,12,13,14,15,16,17,18,19,20,21,22,23,24] rfl rfl) (hf (ySA, ySB) ⟨hySA, hySB⟩)))⟩), trivial⟩)⟩), trivial⟩)⟩), trivial⟩)⟩), trivial⟩)⟩), trivial⟩)⟩), trivial⟩)) (fun y hy => ?_)

              obtain ⟨ySA, ySB⟩ := y
              obtain ⟨⟨ka, hka, ea⟩, kb, hkb, eb⟩ := hy
              dsimp only at ea eb
              have eSn : ySB.1 = ySA.1 := by rw [ea, eb]; rw [eS] at hkb ⊢; rw [hkb.uniq hka, eC]
              refine VE.seqN ?_
              refine VC.cond rfl (fun h254 => ?_) (fun h254 => ?_)
              ·
                (exfalso; (simp [eSn] at h254))
              ·
                refine VC.skip (VE.seqN ?_)
                refine VC.seq ?_
                refine VC.reg (VO.l (LO.fa (r := 7) F128_7 (.r rfl) rfl) rfl<|VO.l (LO.ld O28 (.r rfl) (cells_keep (sub_cells (off := 7) hXB ⟨_, rfl⟩))) rfl<|VO.l (LO.cv ⟨_, Tryz.underlying28⟩ Tryz.underlying3 (.r rfl) (wi (by omega) (by omega))) rfl<|VO.l (LO.rem (.r rfl) (.r rfl) (by omega)) rfl<|VO.l (LO.add (.r rfl) (.r rfl) (wi (by omega) (by omega))) rfl<|VO.l (LO.as (.r rfl)) rfl<|VO.nil ?_)
                refine VE.seqN ?_
                refine VC.seq ?_
                have eN : yN.1.1 = yM.1.1 := (eS ▸ hNP).uniq (hA2.p.ok hx hL) hMP
                have eF : yF.1.1 = yM.1.1 := hFP.uniq (hA2.p.ok hx hL) hMP
                have hPx : ∀ i, i < W * H → PxP x i (yM.1.1.getD i zPx) := fun i hi => hMP.px hx hA2.p hi
                have hFB : ∀ i, i < W * H → 0 ≤ (yF.1.1.getD i zPx).s.lo ∧ (yF.1.1.getD i zPx).s.lo ≤ (yF.1.1.getD i zPx).s.hi ∧ (yF.1.1.getD i zPx).s.hi ≤ 1000000 := fun i hi => by rw [eF]; have q := hPx i hi; have q1 := q.t; have q2 := q.b; omega
                refine VC.reg (VO.l (LO.lda (vs := [_,_,_,_,_,_]) A108 (.r rfl) (fun _ hw => cells_at hw 2 rfl ⟨_, rfl⟩) rfl) rfl<|VO.l (LO.mv (.r rfl)) rfl<|VO.h rfl<|HO.callx (xs := [_,_]) (vs := [_,_]) C43 ⟨(.r rfl), (.r rfl), trivial⟩ (fun w hw => Areas_q W H hW hH yF.1.1 yF.2.1 yF.2.2 (1 + x.lv.tmod 70000) w (RO.of_own hw 3 rfl) hFL hFB (by omega) (by omega)) fun ya hya => VO.h rfl<|HO.lo (LO.mv (.r rfl))<|VO.h rfl<|HO.lo (LO.ex (.r rfl) rfl)<|VO.h rfl<|HO.lo (LO.ex (.r rfl) rfl)<|VO.h rfl<|HO.lo (LO.as (.r rfl))<|VO.h rfl<|HO.lo (LO.as (.r rfl))<|VO.nil ?_)
                refine VE.seqN ?_
                refine VC.seq ?_
                refine VC.seq ?_
                refine VC.reg (VO.l (LO.mv (.r rfl)) rfl<|VO.l (LO.ne (.r rfl) (.r rfl)) rfl<|VO.nil ?_)
                refine VE.seqN ?_
                refine VC.cond rfl (fun h267 => ?_) (fun h267 => ?_)
                ·
                  (exfalso; exact h267 rfl)
                ·
                  refine VC.skip (VE.seqN ?_)
                  refine VC.seq ?_
                  refine VC.rebase fun w2 hst2 => ?_
                  have hrd : ArRd w2 ya := ArRd.of_res (of := ofL W H (mayB (vW yF.1.1) (1 + x.lv.tmod 70000))) (L := [_,_,_,_,_,_,_,_,_,_,_,_,_,_,_,_,_,_,_,_,_,_,_,_,_]) (selK (L1 := [_,_,_,_,_,_,_,_,_,_,_,_,_,_,_,_,_,_,_,_,_,_,_,_,_,_,_,_,_,_,_,_,_]) [0,1,2,3,4,5,6,7,8,9,10,11,12,13,14,15,16,17,18,19,20,21,22,23,24,25,26,27,28,29,30,31,32] rfl rfl _ hst2) hya
                  have hXB2 : Cells w2 _ (ntL x p) := cells_keep hXB w2 hst2
                  have hM2 : NtM x p w2 := hM1.keep hst2
                  have hr1 : RO 5 pxC w2 yM.2.1 yM.1.1 := RO.of_own hst2 16 rfl
                  have hr2 : RO 5 pxC w2 yN.2.1 yM.1.1 := eN ▸ RO.of_own hst2 14 rfl
                  have hr3 : RO 2 spanC w2 yF.2.1 (yF.1.1.map PxM.s) := RO.of_own hst2 11 rfl
                  have hFC : Cells w2 ⟨b59,0, none⟩ [.int .i64 0, .int .i64 0, .int .i64 1000, .int .i64 (W : Nat), .int .i64 (H : Nat), .slice yF.2.1 yF.1.1.length yF.2.2] := cells_inv (hst2.inv 10 _ rfl)
                  have hr3l : (yF.1.1.map PxM.s).length = W * H := by rw [List.length_map]; exact hFL
                  have hcna := (ar_cnt hya).1
                  refine VC.drawF (G := Nat × Nat) (fun y => [(27, .slice (some ⟨y.1,0, none⟩) yM.1.1.length yM.1.1.length), (28, .slice (some ⟨y.2,0, none⟩) yM.1.1.length yM.1.1.length)]) [(1,_), (20,_), (21,_), (23,_), (25,_), (26,_)] (fun y => [own 4 1 (some ⟨y.1,0, none⟩) yM.1.1.length ((List.replicate yM.1.1.length false).map mkC), own 4 1 (some ⟨y.2,0, none⟩) yM.1.1.length ((List.replicate yM.1.1.length false).map mkC)]) [] (fun y => True) 5 [some 0, some 0, none, some 0, some 0, none, none, none] mixed (by kernel_rfl) (LX.l (fun _ hJ => LO.mv (.r rfl)) rfl<|LX.l (fun _ hJ => LO.len S146 (.r rfl) rfl) rfl<|LX.s<|LX.l (fun _ hJ => LO.mv (.r rfl)) rfl<|LX.l (fun _ hJ => LO.len S146 (.r rfl) rfl) rfl<|LX.s<|LX.s<|LX.s<|LX.nil) (fun hf => (HE.mk [2,5] (by kernel_rfl) rfl ⟨(HEo.op rfl rfl<|HO.mksM (f := mkC) (z0 := false) (n := yM.1.1.length) rfl S82 I4 (.r rfl) (.r rfl) rfl (by decide) (by omega) (by omega) fun b71 => ⟨selK (L1 := []) [] rfl rfl, (HE.mk [5,6] (by kernel_rfl) rfl ⟨(HEo.op rfl rfl<|HO.mksM (f := mkC) (z0 := false) (n := yM.1.1.length) rfl S82 I4 (.r rfl) (.r rfl) rfl (by decide) (by omega) (by omega) fun b72 => ⟨selK (L1 := []) [] rfl rfl, (HE.mk [6] (by kernel_rfl) rfl ⟨(HEo.op rfl rfl<|HO.lo (LO.as (.r rfl))<|⟨selK (L1 := []) [] rfl rfl, (HE.mk [7] (by kernel_rfl) rfl ⟨(HEo.op rfl rfl<|HO.lo (LO.as (.r rfl))<|⟨selK (L1 := []) [] rfl rfl, (HE.fin (by kernel_rfl) (VE.weak (.cons rfl (.cons rfl (.cons rfl (.cons rfl (.cons rfl (.cons rfl (.cons rfl (.cons rfl .nil)))))))) (selK (L1 := [_,_] ++ []) [1,0] rfl rfl) (hf (b71, b72) trivial)))⟩), trivial⟩)⟩), trivial⟩)⟩), (HEo.op rfl rfl<|HO.lo (LO.as (.r rfl))<|⟨selK (L1 := []) [] rfl rfl, (HE.mk [5] (by kernel_rfl) rfl ⟨(HEo.op rfl rfl<|HO.mksM (f := mkC) (z0 := false) (n := yM.1.1.length) rfl S82 I4 (.r rfl) (.r rfl) rfl (by decide) (by omega) (by omega) fun b72 => ⟨selK (L1 := []) [] rfl rfl, (HE.mk [7] (by kernel_rfl) rfl ⟨(HEo.op rfl rfl<|HO.lo (LO.as (.r rfl))<|⟨selK (L1 := []) [] rfl rfl, (HE.fin (by kernel_rfl) (VE.weak (.cons rfl (.cons rfl (.cons rfl (.cons rfl (.cons rfl (.cons rfl (.cons rfl (.cons rfl .nil)))))))) (selK (L1 := [_,_] ++ []) [1,0] rfl rfl) (hf (b71, b72) trivial)))⟩), trivial⟩)⟩), trivial⟩)⟩), trivial⟩)⟩), (HEo.op rfl rfl<|HO.mksM (f := mkC) (z0 := false) (n := yM.1.1.length) rfl S82 I4 (.r rfl) (.r rfl) rfl (by decide) (by omega) (by omega) fun b71 => ⟨selK (L1 := []) [] rfl rfl, (HE.mk [2] (by kernel_rfl) rfl ⟨(HEo.op rfl rfl<|HO.mksM (f := mkC) (z0 := false) (n := yM.1.1.length) rfl S82 I4 (.r rfl) (.r rfl) rfl (by decide) (by omega) (by omega) fun b72 => ⟨selK (L1 := []) [] rfl rfl, (HE.mk [6] (by kernel_rfl) rfl ⟨(HEo.op rfl rfl<|HO.lo (LO.as (.r rfl))<|⟨selK (L1 := []) [] rfl rfl, (HE.mk [7] (by kernel_rfl) rfl ⟨(HEo.op rfl rfl<|HO.lo (LO.as (.r rfl))<|⟨selK (L1 := []) [] rfl rfl, (HE.fin (by kernel_rfl) (VE.weak (.cons rfl (.cons rfl (.cons rfl (.cons rfl (.cons rfl (.cons rfl (.cons rfl (.cons rfl .nil)))))))) (selK (L1 := [_,_] ++ []) [0,1] rfl rfl) (hf (b72, b71) trivial)))⟩), trivial⟩)⟩), trivial⟩)⟩), trivial⟩)⟩), trivial⟩)) (fun y hy => ?_)

                  refine VE.seqN ?_
                  refine VC.seq ?_
                  refine VC.seq ?_
                  refine VC.reg (VO.l (LO.as (.r rfl)) rfl<|VO.nil ?_)
                  refine VE.seqN ?_
                  refine VC.block ?_
                  refine VC.loopK (α := Nat × (List Bool) × (List Bool)) 2 (fun gx => [(29, .int .i64 (gx.1 : Nat))]) [(1,_), (20,_), (21,_), (23,_), (25,_), (26,_), (27,_), (28,_)] (fun gx => [own 4 1 (some ⟨y.1,0, none⟩) yM.1.1.length (gx.2.1.map mkC), own 4 1 (some ⟨y.2,0, none⟩) yM.1.1.length (gx.2.2.map mkC)]) (fun gx => gx.1 ≤ ya.l.length ∧ MrkI (W * H) (vW yF.1.1) (1 + x.lv.tmod 70000) (pxTo ya.l gx.1) gx.2.1 gx.2.2) (fun gx => ya.l.length - gx.1) (0, (List.replicate yM.1.1.length false), (List.replicate yM.1.1.length false)) (by exact ⟨Nat.zero_le _, by rw [hML]; exact MrkI.zero.to fun q _ h => pxTo_0 h⟩) (.cons rfl (.cons rfl (.cons rfl (.cons rfl (.cons rfl (.cons rfl (.cons rfl (.cons rfl (.cons rfl .nil))))))))) (fun _ h => h) ?_
                  rintro ⟨i4, my, sr⟩ ⟨hi4, hmk⟩
                  show VC _ _ _ _ _ ([(29, .int .i64 (i4 : Nat))] ++ _) ([own 4 1 (some ⟨y.1,0, none⟩) yM.1.1.length (my.map mkC), own 4 1 (some ⟨y.2,0, none⟩) yM.1.1.length (sr.map mkC)] ++ _) _ _
                  dsimp only at hi4 hmk
                  have hmyl := hmk.l.1
                  have hsrl := hmk.l.2
                  refine VC.seq ?_
                  refine VC.seq ?_
                  refine VC.reg (VO.l (LO.mv (.r rfl)) rfl<|VO.l (LO.mv (.r rfl)) rfl<|VO.l (LO.len S155 (.r rfl) rfl) rfl<|VO.l (LO.lt (.r rfl) (.r rfl)) rfl<|VO.nil ?_)
                  refine VE.seqN ?_
                  refine VC.cond rfl (fun h277 => ?_) (fun h277 => ?_)
                  ·
                    obtain ⟨aa, haa⟩ : ∃ z, ya.l[i4]? = some z := ⟨_, List.getElem?_eq_getElem (by omega)⟩
                    have ham : aa ∈ ya.l := List.mem_of_getElem? haa
                    have hale := ar_len hya ham
                    have hcnt := (ar_cnt hya).2 aa ham
                    refine VC.skip (VE.seqN ?_)
                    refine VC.seq ?_
                    refine VC.block ?_
                    refine VC.seq ?_
                    refine VC.seq ?_
                    refine VC.reg (VO.l (LO.as (.r rfl)) rfl<|VO.nil ?_)
                    refine VE.seqN ?_
                    refine VC.block ?_
                    refine VC.loopK (α := Nat × (List Bool)) 1 (fun gx => [(30, .int .i64 (gx.1 : Nat))]) [(1,_), (20,_), (21,_), (23,_), (25,_), (26,_), (27,_), (28,_), (29,_)] (fun gx => [own 4 1 (some ⟨y.1,0, none⟩) yM.1.1.length (gx.2.map mkC)]) (fun gx => gx.1 ≤ aa.px.l.length ∧ MrkI (W * H) (vW yF.1.1) (1 + x.lv.tmod 70000) (fun u => pxTo ya.l i4 u ∨ u ∈ aa.px.l.take gx.1) gx.2 sr) (fun gx => aa.px.l.length - gx.1) (0, my) (by exact ⟨Nat.zero_le _, hmk.to fun u _ h => h.resolve_right (by simp)⟩) (.cons rfl (.cons rfl (.cons rfl (.cons rfl (.cons rfl (.cons rfl (.cons rfl (.cons rfl (.cons rfl (.cons rfl .nil)))))))))) (fun _ h => h) ?_
                    rintro ⟨k4, m4⟩ ⟨hk4, hm4⟩
                    show VC _ _ _ _ _ ([(30, .int .i64 (k4 : Nat))] ++ _) ([own 4 1 (some ⟨y.1,0, none⟩) yM.1.1.length (m4.map mkC)] ++ _) _ _
                    dsimp only at hk4 hm4
                    refine VC.seq ?_
                    refine VC.seq ?_
                    refine VC.reg (VO.l (LO.mv (.r rfl)) rfl<|VO.l (LO.mv (.r rfl)) rfl<|VO.l (LO.mv (.r rfl)) rfl<|VO.l (LO.ixs S155 N160 hrd.ar.sm (.r rfl) (.r rfl) rfl (by omega)) rfl<|VO.l (LO.fa F160_0 (.r rfl) rfl) rfl<|VO.l (LO.ld O112 (.r rfl) (fun w hw => cells_part (off := 0) ((fun w3 h3 => RO.cel (hrd.keep w3 h3).ar haa) w hw) ⟨_, rfl⟩)) rfl<|VO.l (LO.len S112 (.r rfl) rfl) rfl<|VO.l (LO.lt (.r rfl) (.r rfl)) rfl<|VO.nil ?_)
                    refine VE.seqN ?_
                    refine VC.cond rfl (fun h287 => ?_) (fun h287 => ?_)
                    ·
                      obtain ⟨q, hq⟩ : ∃ z, aa.px.l[k4]? = some z := ⟨_, List.getElem?_eq_getElem (by omega)⟩
                      have hqn := ar_px hya ham (List.mem_of_getElem? hq)
                      have hm4l := hm4.l.1
                      refine VC.skip (VE.seqN ?_)
                      refine VC.seq ?_
                      refine VC.block ?_
                      refine VC.reg (VO.l (LO.mv (.r rfl)) rfl<|VO.l (LO.mv (.r rfl)) rfl<|VO.l (LO.mv (.r rfl)) rfl<|VO.l (LO.ixs S155 N160 hrd.ar.sm (.r rfl) (.r rfl) rfl (by omega)) rfl<|VO.l (LO.fa F160_0 (.r rfl) rfl) rfl<|VO.l (LO.ld O112 (.r rfl) (fun w hw => cells_part (off := 0) ((fun w3 h3 => RO.cel (hrd.keep w3 h3).ar haa) w hw) ⟨_, rfl⟩)) rfl<|VO.l (LO.mv (.r rfl)) rfl<|VO.l (LO.ixs S112 N3 (hrd.px aa ham).sm (.r rfl) (.r rfl) rfl (by omega)) rfl<|VO.l (LO.ld O3 (.r rfl) (fun w hw => cells_part (off := 0) ((fun w3 h3 => RO.cel ((hrd.keep w3 h3).px aa ham) hq) w hw) ⟨_, rfl⟩)) rfl<|VO.l (LO.ixo S82 N4 (fun _ hw => (own_rows hw 0 rfl).some (by rw [List.length_map]; omega)) (.r rfl) (.r rfl) rfl (by omega)) rfl<|VO.h0<|HO.stm 0 (fun R => [R,_]) (true) (vs := [_]) N4 (.r rfl) (.r rfl) rfl (by omega) rfl rfl rfl rfl rfl (fun _ => rfl)<|VO.nil ?_)
                      refine VE.inN (VE.seqN ?_)
                      refine VC.reg (VO.l (LO.mv (.r rfl)) rfl<|VO.l (LO.add (.r rfl) (.r rfl) (wi (by omega) (by omega))) rfl<|VO.l (LO.as (.r rfl)) rfl<|VO.nil ?_)
                      refine VE.thenN fun a w ha hw => ⟨(k4 + 1, m4.set q true), ⟨by dsimp only; omega, (hm4.putM hqn).to fun u _ hu => hu.elim (fun z => .inl (.inl z)) fun z => (pk_next hq z).elim (fun z => .inl (.inr z)) .inr⟩, (by dsimp only; omega), ha.sub (.cons rfl (.cons rfl (.cons rfl (.cons rfl (.cons rfl (.cons rfl (.cons rfl (.cons rfl (.cons rfl (.cons rfl .nil)))))))))), hw⟩
                    ·
                      have hk4e : k4 = aa.px.l.length := by omega
                      have hm5 : MrkI (W * H) (vW yF.1.1) (1 + x.lv.tmod 70000) (pxTo ya.l (i4 + 1)) m4 sr := hm4.to fun u _ hu => by rw [hk4e, List.take_length]; exact pxTo_next haa hu
                      refine VC.exit (VE.thenX (VE.thenX (VE.inX (VE.seqN ?_))))
                      refine VC.seq ?_
                      refine VC.reg (VO.l (LO.as (.r rfl)) rfl<|VO.nil ?_)
                      refine VE.seqN ?_
                      refine VC.block ?_
                      refine VC.perm [1,0] rfl ?_
                      refine VC.loopK (α := Nat × (List Bool)) 1 (fun gx => [(31, .int .i64 (gx.1 : Nat))]) [(1,_), (20,_), (21,_), (23,_), (25,_), (26,_), (27,_), (28,_), (29,_)] (fun gx => [own 4 1 (some ⟨y.2,0, none⟩) yM.1.1.length (gx.2.map mkC)]) (fun gx => gx.1 ≤ aa.kr.length ∧ MrkI (W * H) (vW yF.1.1) (1 + x.lv.tmod 70000) (pxTo ya.l (i4 + 1)) m4 gx.2) (fun gx => aa.kr.length - gx.1) (0, sr) (by exact ⟨Nat.zero_le _, hm5⟩) (.cons rfl (.cons rfl (.cons rfl (.cons rfl (.cons rfl (.cons rfl (.cons rfl (.cons rfl (.cons rfl (.cons rfl .nil)))))))))) (fun _ h => h) ?_
                      rintro ⟨k5, s5⟩ ⟨hk5, hs5⟩
                      show VC _ _ _ _ _ ([(31, .int .i64 (k5 : Nat))] ++ _) ([own 4 1 (some ⟨y.2,0, none⟩) yM.1.1.length (s5.map mkC)] ++ _) _ _
                      dsimp only at hk5 hs5
                      refine VC.seq ?_
                      refine VC.seq ?_
                      refine VC.reg (VO.l (LO.mv (.r rfl)) rfl<|VO.l (LO.mv (.r rfl)) rfl<|VO.l (LO.mv (.r rfl)) rfl<|VO.l (LO.ixs S155 N160 hrd.ar.sm (.r rfl) (.r rfl) rfl (by omega)) rfl<|VO.l (LO.fa F160_1 (.r rfl) rfl) rfl<|VO.l (LO.ld O158 (.r rfl) (fun w hw => cells_part (off := 1) ((fun w3 h3 => RO.cel (hrd.keep w3 h3).ar haa) w hw) ⟨_, rfl⟩)) rfl<|VO.l (LO.len S158 (.r rfl) rfl) rfl<|VO.l (LO.lt (.r rfl) (.r rfl)) rfl<|VO.nil ?_)
                      refine VE.seqN ?_
                      refine VC.cond rfl (fun h307 => ?_) (fun h307 => ?_)
                      ·
                        obtain ⟨kk, hkk⟩ : ∃ z, aa.kr[k5]? = some z := ⟨_, List.getElem?_eq_getElem (by omega)⟩
                        have hkm := List.mem_of_getElem? hkk
                        have hkl := hale.2 kk hkm
                        refine VC.skip (VE.seqN ?_)
                        refine VC.seq ?_
                        refine VC.block ?_
                        refine VC.seq ?_
                        refine VC.reg (VO.l (LO.as (.r rfl)) rfl<|VO.nil ?_)
                        refine VE.seqN ?_
                        refine VC.block ?_
                        refine VC.loopK (α := Nat × (List Bool)) 1 (fun gx => [(32, .int .i64 (gx.1 : Nat))]) [(1,_), (20,_), (21,_), (23,_), (25,_), (26,_), (27,_), (28,_), (29,_), (31,_)] (fun gx => [own 4 1 (some ⟨y.2,0, none⟩) yM.1.1.length (gx.2.map mkC)]) (fun gx => gx.1 ≤ kk.l.length ∧ MrkI (W * H) (vW yF.1.1) (1 + x.lv.tmod 70000) (pxTo ya.l (i4 + 1)) m4 gx.2) (fun gx => kk.l.length - gx.1) (0, s5) (by exact ⟨Nat.zero_le _, hs5⟩) (.cons rfl (.cons rfl (.cons rfl (.cons rfl (.cons rfl (.cons rfl (.cons rfl (.cons rfl (.cons rfl (.cons rfl (.cons rfl .nil))))))))))) (fun _ h => h) ?_
                        rintro ⟨k6, s6⟩ ⟨hk6, hs6⟩
                        show VC _ _ _ _ _ ([(32, .int .i64 (k6 : Nat))] ++ _) ([own 4 1 (some ⟨y.2,0, none⟩) yM.1.1.length (s6.map mkC)] ++ _) _ _
                        dsimp only at hk6 hs6
                        refine VC.seq ?_
                        refine VC.seq ?_
                        refine VC.reg (VO.l (LO.mv (.r rfl)) rfl<|VO.l (LO.mv (.r rfl)) rfl<|VO.l (LO.mv (.r rfl)) rfl<|VO.l (LO.ixs S155 N160 hrd.ar.sm (.r rfl) (.r rfl) rfl (by omega)) rfl<|VO.l (LO.fa F160_1 (.r rfl) rfl) rfl<|VO.l (LO.ld O158 (.r rfl) (fun w hw => cells_part (off := 1) ((fun w3 h3 => RO.cel (hrd.keep w3 h3).ar haa) w hw) ⟨_, rfl⟩)) rfl<|VO.l (LO.mv (.r rfl)) rfl<|VO.l (LO.ixs S158 N112 (hrd.kr aa ham).1.sm (.r rfl) (.r rfl) rfl (by omega)) rfl<|VO.l (LO.ld O112 (.r rfl) (fun w hw => cells_part (off := 0) ((fun w3 h3 => RR.cell ((hrd.keep w3 h3).kr aa ham) hkk) w hw) ⟨_, rfl⟩)) rfl<|VO.l (LO.len S112 (.r rfl) rfl) rfl<|VO.l (LO.lt (.r rfl) (.r rfl)) rfl<|VO.nil ?_)
                        refine VE.seqN ?_
                        refine VC.cond rfl (fun h320 => ?_) (fun h320 => ?_)
                        ·
                          obtain ⟨q, hq⟩ : ∃ z, kk.l[k6]? = some z := ⟨_, List.getElem?_eq_getElem (by omega)⟩
                          have hqn := ar_kr hya ham hkm (List.mem_of_getElem? hq)
                          have hs6l := hs6.l.2
                          refine VC.skip (VE.seqN ?_)
                          refine VC.seq ?_
                          refine VC.block ?_
                          refine VC.reg (VO.l (LO.mv (.r rfl)) rfl<|VO.l (LO.mv (.r rfl)) rfl<|VO.l (LO.mv (.r rfl)) rfl<|VO.l (LO.ixs S155 N160 hrd.ar.sm (.r rfl) (.r rfl) rfl (by omega)) rfl<|VO.l (LO.fa F160_1 (.r rfl) rfl) rfl<|VO.l (LO.ld O158 (.r rfl) (fun w hw => cells_part (off := 1) ((fun w3 h3 => RO.cel (hrd.keep w3 h3).ar haa) w hw) ⟨_, rfl⟩)) rfl<|VO.l (LO.mv (.r rfl)) rfl<|VO.l (LO.ixs S158 N112 (hrd.kr aa ham).1.sm (.r rfl) (.r rfl) rfl (by omega)) rfl<|VO.l (LO.ld O112 (.r rfl) (fun w hw => cells_part (off := 0) ((fun w3 h3 => RR.cell ((hrd.keep w3 h3).kr aa ham) hkk) w hw) ⟨_, rfl⟩)) rfl<|VO.l (LO.mv (.r rfl)) rfl<|VO.l (LO.ixs S112 N3 (RR.row (hrd.kr aa ham) hkk).sm (.r rfl) (.r rfl) rfl (by omega)) rfl<|VO.l (LO.ld O3 (.r rfl) (fun w hw => cells_part (off := 0) ((fun w3 h3 => RO.cel (RR.row ((hrd.keep w3 h3).kr aa ham) hkk) hq) w hw) ⟨_, rfl⟩)) rfl<|VO.l (LO.ixo S82 N4 (fun _ hw => (own_rows hw 0 rfl).some (by rw [List.length_map]; omega)) (.r rfl) (.r rfl) rfl (by omega)) rfl<|VO.h0<|HO.stm 0 (fun R => [R,_]) (true) (vs := [_]) N4 (.r rfl) (.r rfl) rfl (by omega) rfl rfl rfl rfl rfl (fun _ => rfl)<|VO.nil ?_)
                          refine VE.inN (VE.seqN ?_)
                          refine VC.reg (VO.l (LO.mv (.r rfl)) rfl<|VO.l (LO.add (.r rfl) (.r rfl) (wi (by omega) (by omega))) rfl<|VO.l (LO.as (.r rfl)) rfl<|VO.nil ?_)
                          refine VE.thenN fun a w ha hw => ⟨(k6 + 1, s6.set q true), ⟨by dsimp only; omega, hs6.putS hqn.2⟩, (by dsimp only; omega), ha.sub (.cons rfl (.cons rfl (.cons rfl (.cons rfl (.cons rfl (.cons rfl (.cons rfl (.cons rfl (.cons rfl (.cons rfl (.cons rfl .nil))))))))))), hw⟩
                        ·
                          refine VC.exit (VE.thenX (VE.thenX (VE.inX (VE.inN (VE.seqN ?_)))))
                          refine VC.reg (VO.l (LO.mv (.r rfl)) rfl<|VO.l (LO.add (.r rfl) (.r rfl) (wi (by omega) (by omega))) rfl<|VO.l (LO.as (.r rfl)) rfl<|VO.nil ?_)
                          refine VE.thenN fun a w ha hw => ⟨(k5 + 1, s6), ⟨by dsimp only; omega, hs6⟩, (by dsimp only; omega), ha.sub (.cons rfl (.cons rfl (.cons rfl (.cons rfl (.cons rfl (.cons rfl (.cons rfl (.cons rfl (.cons rfl (.cons rfl .nil)))))))))), hw⟩
                      ·
                        refine VC.exit (VE.thenX (VE.thenX (VE.inX (VE.inN (VE.seqN ?_)))))
                        refine VC.reg (VO.l (LO.mv (.r rfl)) rfl<|VO.l (LO.add (.r rfl) (.r rfl) (wi (by omega) (by omega))) rfl<|VO.l (LO.as (.r rfl)) rfl<|VO.nil ?_)
                        refine VE.thenN fun a w ha hw => ⟨(i4 + 1, m4, s5), ⟨by dsimp only; omega, hs5⟩, (by dsimp only; omega), ha.sub (.cons rfl (.cons rfl (.cons rfl (.cons rfl (.cons rfl (.cons rfl (.cons rfl (.cons rfl (.cons rfl .nil))))))))), hw.sel [1,0] rfl⟩
                  ·
                    have hi4e : i4 = ya.l.length := by omega
                    subst hi4e
                    refine VC.exit (VE.thenX (VE.thenX (VE.inX (VE.seqN ?_))))
                    refine VC.seq ?_
                    refine VC.seq ?_
                    refine VC.reg (VO.l (LO.as (.r rfl)) rfl<|VO.nil ?_)
                    refine VE.seqN ?_
                    refine VC.block ?_
                    refine VC.loopK (α := Nat) 0 (fun gx => [(33, .int .i64 (gx : Nat))]) [(1,_), (20,_), (21,_), (23,_), (25,_), (27,_), (28,_)] (fun gx => []) (fun gx => gx ≤ W * H) (fun gx => W * H - gx) 0 (by exact Nat.zero_le _) (.cons rfl (.cons rfl (.cons rfl (.cons rfl (.cons rfl (.cons rfl (.cons rfl (.cons rfl .nil)))))))) (fun _ h => h) ?_
                    rintro p9 hp9
                    refine VC.seq ?_
                    refine VC.seq ?_
                    refine VC.reg (VO.l (LO.mv (.r rfl)) rfl<|VO.l (LO.mv (.r rfl)) rfl<|VO.l (LO.len S146 (.r rfl) rfl) rfl<|VO.l (LO.lt (.r rfl) (.r rfl)) rfl<|VO.nil ?_)
                    refine VE.seqN ?_
                    refine VC.cond rfl (fun h339 => ?_) (fun h339 => ?_)
                    ·
                      have hp9n : p9 < W * H := by omega
                      have hpx := hPx p9 hp9n
                      refine VC.skip (VE.seqN ?_)
                      refine VC.seq ?_
                      refine VC.block ?_
                      refine VC.seq ?_
                      refine VC.reg (VO.l (LO.lda (vs := [_,_,_,_,_,_,_,_]) A128 (.r rfl) (cells_keep (sub_cells (off := 0) hXB2 ⟨_, rfl⟩)) rfl) rfl<|VO.l (LO.mv (.r rfl)) rfl<|VO.l (LO.call (xs := [_,_]) (vs := [_,_]) C44 ⟨(.r rfl), (.r rfl), trivial⟩ (fun w hw => rain_c x p p9 (by omega) hx w (hM2.keep hw))) rfl<|VO.l (LO.as (.r rfl)) rfl<|VO.nil ?_)
                      refine VE.seqN ?_
                      refine VC.seq ?_
                      refine VC.draw mixed (LL.l (LO.mv (.r rfl)) rfl<|LL.l (LO.mv (.r rfl)) rfl<|LL.l (LO.ixs S146 N163 hr1.sm (.r rfl) (.r rfl) rfl (by omega)) rfl<|LL.l (LO.lda (vs := [_,_,_,_,_]) A163 (.r rfl) (fun w hw => cells_part (off := 0) ((fun w3 h3 => (hr1.keep w3 h3).here zPx (j := p9) (by omega)) w hw) ⟨_, rfl⟩) rfl) rfl<|LL.l (LO.mv (.r rfl)) rfl<|LL.l (LO.mv (.r rfl)) rfl<|LL.l (LO.ixs S146 N163 (by have z := hr2.sm; rw [hML, ← hNL] at z; exact z) (.r rfl) (.r rfl) rfl (by omega)) rfl<|LL.l (LO.lda (vs := [_,_,_,_,_]) A163 (.r rfl) (fun w hw => cells_part (off := 0) ((fun w3 h3 => (hr2.keep w3 h3).here zPx (j := p9) (by omega)) w hw) ⟨_, rfl⟩) rfl) rfl<|LL.l (LO.neSelf (self163 (yM.1.1.getD p9 zPx)) guard163 (.r rfl) (.r rfl)) rfl<|LL.l (LO.mv (.r rfl)) rfl<|LL.lg rfl rfl (GD.f _) (fun hg => LO.mv (.r rfl)) rfl<|LL.lg rfl rfl (GD.f _) (fun hg => LO.mv (.r rfl)) rfl<|LL.lg rfl rfl (GD.f _) (fun hg => LO.ixs S146 N163 hr1.sm (.g hg rfl) (.g hg rfl) rfl (by omega)) rfl<|LL.lg rfl rfl (GD.f _) (fun hg => LO.fa F163_0 (.g hg rfl) rfl) rfl<|LL.lg rfl rfl (GD.f _) (fun hg => LO.fa F25_0 (.g hg rfl) rfl) rfl<|LL.lg rfl rfl (GD.f _) (fun hg => LO.ld O3 (.g hg rfl) (fun w hw => cells_part (off := 0) ((fun w3 h3 => (hr1.keep w3 h3).here zPx (j := p9) (by omega)) w hw) ⟨_, rfl⟩)) rfl<|LL.lg rfl rfl (GD.f _) (fun hg => LO.mv (.r rfl)) rfl<|LL.lg rfl rfl (GD.f _) (fun hg => LO.gt (.g hg rfl) (.g hg rfl)) rfl<|LL.l (LO.pkO (.r rfl) (.r rfl) rfl rfl) rfl<|LL.l (LO.mv (.r rfl)) rfl<|LL.lg rfl rfl (GD.f _) (fun hg => LO.mv (.r rfl)) rfl<|LL.lg rfl rfl (GD.f _) (fun hg => LO.mv (.r rfl)) rfl<|LL.lg rfl rfl (GD.f _) (fun hg => LO.ixs S146 N163 hr1.sm (.g hg rfl) (.g hg rfl) rfl (by omega)) rfl<|LL.lg rfl rfl (GD.f _) (fun hg => LO.fa F163_0 (.g hg rfl) rfl) rfl<|LL.lg rfl rfl (GD.f _) (fun hg => LO.fa F25_1 (.g hg rfl) rfl) rfl<|LL.lg rfl rfl (GD.f _) (fun hg => LO.ld O3 (.g hg rfl) (fun w hw => cells_part (off := 1) ((fun w3 h3 => (hr1.keep w3 h3).here zPx (j := p9) (by omega)) w hw) ⟨_, rfl⟩)) rfl<|LL.lg rfl rfl (GD.f _) (fun hg => LO.mv (.r rfl)) rfl<|LL.lg rfl rfl (GD.f _) (fun hg => LO.lt (.g hg rfl) (.g hg rfl)) rfl<|LL.l (LO.pkO (.r rfl) (.r rfl) rfl rfl) rfl<|LL.l (LO.mv (.r rfl)) rfl<|LL.lg rfl rfl (GD.f _) (fun hg => LO.mv (.r rfl)) rfl<|LL.lg rfl rfl (GD.f _) (fun hg => LO.mv (.r rfl)) rfl<|LL.lg rfl rfl (GD.f _) (fun hg => LO.ixs S146 N163 hr1.sm (.g hg rfl) (.g hg rfl) rfl (by omega)) rfl<|LL.lg rfl rfl (GD.f _) (fun hg => LO.fa F163_0 (.g hg rfl) rfl) rfl<|LL.lg rfl rfl (GD.f _) (fun hg => LO.lda (vs := [_,_]) A25 (.g hg rfl) (fun w hw => cells_part (off := 0) ((fun w3 h3 => (hr1.keep w3 h3).here zPx (j := p9) (by omega)) w hw) ⟨_, rfl⟩) rfl) rfl<|LL.lg rfl rfl (GD.f _) (fun hg => LO.fa (r := 5) F108_1 (.r rfl) rfl) rfl<|LL.lg rfl rfl (GD.f _) (fun hg => LO.ld O45 (.g hg rfl) (cells_keep (sub_cells (off := 5) hFC ⟨_, rfl⟩))) rfl<|LL.lg rfl rfl (GD.f _) (fun hg => LO.mv (.r rfl)) rfl<|LL.lg rfl rfl (GD.f _) (fun hg => LO.ixs S45 N25 (by have z := hr3.sm; rwa [List.length_map] at z) (.g hg rfl) (.g hg rfl) rfl (by omega)) rfl<|LL.lg rfl rfl (GD.f _) (fun hg => LO.lda (vs := [_,_]) A25 (.g hg rfl) (fun w hw => cells_part (off := 0) ((fun w3 h3 => (hr3.keep w3 h3).here zs (j := p9) (by omega)) w hw) ⟨_, rfl⟩) rfl) rfl<|LL.lg rfl rfl (GD.f _) (fun hg => LO.neA («as» := [_,_]) (bs := [_,_]) EA25 (.g hg rfl) (.g hg rfl) rfl rfl) rfl<|LL.l (LO.pkO (.r rfl) (.r rfl) rfl rfl) rfl<|LL.l (LO.mv (.r rfl)) rfl<|LL.lg rfl rfl (GD.f _) (fun hg => LO.mv (.r rfl)) rfl<|LL.lg rfl rfl (GD.f _) (fun hg => LO.mv (.r rfl)) rfl<|LL.lg rfl rfl (GD.f _) (fun hg => LO.ixs S146 N163 hr1.sm (.g hg rfl) (.g hg rfl) rfl (by omega)) rfl<|LL.lg rfl rfl (GD.f _) (fun hg => LO.fa F163_1 (.g hg rfl) rfl) rfl<|LL.lg rfl rfl (GD.f _) (fun hg => LO.fa F139_0 (.g hg rfl) rfl) rfl<|LL.lg rfl rfl (GD.f _) (fun hg => LO.ld O9 (.g hg rfl) (fun w hw => cells_part (off := 2) ((fun w3 h3 => (hr1.keep w3 h3).here zPx (j := p9) (by omega)) w hw) ⟨_, rfl⟩)) rfl<|LL.lg rfl rfl (GD.f _) (fun hg => LO.eqS (.g hg rfl) (.r rfl)) rfl<|LL.lg rfl rfl (GD.f _) (fun hg => LO.mv (.g hg rfl)) rfl<|LL.lg rfl rfl (GD.nt _ _) (fun hg => LO.mv (.r rfl)) rfl<|LL.lg rfl rfl (GD.nt _ _) (fun hg => LO.mv (.r rfl)) rfl<|LL.lg rfl rfl (GD.nt _ _) (fun hg => LO.ixs S146 N163 hr1.sm (.g hg rfl) (.g hg rfl) rfl (by omega)) rfl<|LL.lg rfl rfl (GD.nt _ _) (fun hg => LO.fa F163_0 (.g hg rfl) rfl) rfl<|LL.lg rfl rfl (GD.nt _ _) (fun hg => LO.fa F25_1 (.g hg rfl) rfl) rfl<|LL.lg rfl rfl (GD.nt _ _) (fun hg => LO.ld O3 (.g hg rfl) (fun w hw => cells_part (off := 1) ((fun w3 h3 => (hr1.keep w3 h3).here zPx (j := p9) (by omega)) w hw) ⟨_, rfl⟩)) rfl<|LL.lg rfl rfl (GD.nt _ _) (fun hg => LO.ne (.g hg rfl) (.r rfl)) rfl<|LL.lg rfl rfl (GD.f _) (fun hg => LO.pkA (.g hg rfl) rfl (and_e hg) (.r rfl)) rfl<|LL.l (LO.pkO (.r rfl) (.r rfl) rfl rfl) rfl<|LL.l (LO.mv (.r rfl)) rfl<|LL.lg rfl rfl (GD.f _) (fun hg => LO.mv (.r rfl)) rfl<|LL.lg rfl rfl (GD.f _) (fun hg => LO.mv (.r rfl)) rfl<|LL.lg rfl rfl (GD.f _) (fun hg => LO.ge (.g hg rfl) (.g hg rfl)) rfl<|LL.lg rfl rfl (GD.f _) (fun hg => LO.mv (.g hg rfl)) rfl<|LL.lg rfl rfl (GD.nt _ _) (fun hg => LO.mv (.r rfl)) rfl<|LL.lg rfl rfl (GD.nt _ _) (fun hg => LO.mv (.r rfl)) rfl<|LL.lg rfl rfl (GD.nt _ _) (fun hg => LO.ixo S82 N4 (fun _ hw => (own_rows hw 0 rfl).some (by rw [List.length_map]; omega)) (.g hg rfl) (.g hg rfl) rfl (by omega)) rfl<|LL.lg rfl rfl (GD.nt _ _) (fun hg => LO.ld O4 (.g hg rfl) (fun w hw => cells_part (off := 0) (own_cell hw 0 rfl (getD_some (d := false) (i := p9) (by omega))) ⟨_, rfl⟩)) rfl<|LL.lg rfl rfl (GD.nt _ _) (fun hg => LO.not (.g hg rfl)) rfl<|LL.lg rfl rfl (GD.f _) (fun hg => LO.pkA (.g hg rfl) rfl (and_e hg) (.r rfl)) rfl<|LL.l (LO.pkO (.r rfl) (.r rfl) rfl rfl) rfl<|LL.l (LO.mv (.r rfl)) rfl<|LL.lg rfl rfl (GD.f _) (fun hg => LO.mv (.r rfl)) rfl<|LL.lg rfl rfl (GD.f _) (fun hg => LO.mv (.r rfl)) rfl<|LL.lg rfl rfl (GD.f _) (fun hg => LO.lt (.g hg rfl) (.g hg rfl)) rfl<|LL.lg rfl rfl (GD.f _) (fun hg => LO.mv (.g hg rfl)) rfl<|LL.lg rfl rfl (GD.nt _ _) (fun hg => LO.mv (.r rfl)) rfl<|LL.lg rfl rfl (GD.nt _ _) (fun hg => LO.mv (.r rfl)) rfl<|LL.lg rfl rfl (GD.nt _ _) (fun hg => LO.ixo S82 N4 (fun _ hw => (own_rows hw 1 rfl).some (by rw [List.length_map]; omega)) (.g hg rfl) (.g hg rfl) rfl (by omega)) rfl<|LL.lg rfl rfl (GD.nt _ _) (fun hg => LO.ld O4 (.g hg rfl) (fun w hw => cells_part (off := 0) (own_cell hw 1 rfl (getD_some (d := false) (i := p9) (by omega))) ⟨_, rfl⟩)) rfl<|LL.lg rfl rfl (GD.f _) (fun hg => LO.pkA (.g hg rfl) rfl (and_e hg) (.r rfl)) rfl<|LL.l (LO.pkO (.r rfl) (.r rfl) rfl rfl) rfl<|LL.nil) (by kernel_rfl) ?_
                      refine VE.seqN ?_
                      refine VC.cond rfl (fun h427 => ?_) (fun h427 => ?_)
                      ·
                        (exfalso; exact px_end hML eF hya hmk hp9n hpx h427)
                      ·
                        refine VC.skip (VE.inN (VE.seqN ?_))
                        refine VC.reg (VO.l (LO.mv (.r rfl)) rfl<|VO.l (LO.add (.r rfl) (.r rfl) (wi (by omega) (by omega))) rfl<|VO.l (LO.as (.r rfl)) rfl<|VO.nil ?_)
                        refine VE.thenN fun a w ha hw => ⟨p9 + 1, (by omega), (by omega), ha.sub (.cons rfl (.cons rfl (.cons rfl (.cons rfl (.cons rfl (.cons rfl (.cons rfl (.cons rfl .nil)))))))), hw⟩
                    ·
                      refine VC.exit (VE.thenX (VE.thenX (VE.inX (VE.seqN ?_))))
                      refine VC.seq ?_
                      refine VC.reg (VO.l (LO.call (xs := []) (vs := []) C33 trivial (fun w2 _ => works_n w2)) rfl<|VO.l (LO.as (.r rfl)) rfl<|VO.nil ?_)
                      refine VE.seqN ?_
                      refine VC.ret (VE.res (vs := [_]) rfl ⟨rfl, trivial⟩ (fun w hw => ?_))
                      exact ⟨rfl, St.based (St.based hst1 hst2) hw⟩

end Go.Proofs.YtffbohecdocajaaGreat

namespace Go.Proofs.YtffbohecdocajaaGreat
open Go.SL Go.Proofs Go.Pulse
set_option linter.unusedVariables false


theorem kb_u8 {n : Int} (h : kb .u8 n) : 0 ≤ n ∧ n ≤ 255 := by simpa [kb, IntKind.min, IntKind.max, IntKind.signed, IntKind.bits] using h
theorem kb_u16 {n : Int} (h : kb .u16 n) : 0 ≤ n ∧ n ≤ 65535 := by simpa [kb, IntKind.min, IntKind.max, IntKind.signed, IntKind.bits] using h
theorem K5 : Tryz.prog.cellsOf 5 = 1 := by kernel_rfl
theorem K28 : Tryz.prog.cellsOf 28 = 1 := by kernel_rfl
theorem K143 : Tryz.prog.cellsOf 143 = 5 := by kernel_rfl
theorem K268 : Tryz.prog.cellsOf 268 = 4 := by kernel_rfl
section
variable {H : Type} {enc : TypeId × Value → H} {W : World}
theorem rd5 : RD enc Tryz.prog W 5 fun cs => ∃ n, cs = [.int .u8 n] ∧ kb .u8 n := RD.int Tryz.underlying5
theorem rd28 : RD enc Tryz.prog W 28 fun cs => ∃ n, cs = [.int .u16 n] ∧ kb .u16 n := RD.int Tryz.underlying28
theorem rd268 : RD enc Tryz.prog W 268 fun cs => ∃ b : B4, cs = b4C b ∧ (fun b : B4 => (kb .u8 b.1 ∧ kb .u8 b.2.1) ∧ kb .u8 b.2.2.1 ∧ kb .u8 b.2.2.2) b := fun n cs x hx => by
  obtain ⟨css, rfl, hlen, hp⟩ := trod_cells Tryz.underlying268 K5 K268 hx rd5
  match css, hlen with
  | [c0, c1, c2, c3],_ =>
    obtain ⟨_, a, rfl, ha⟩ := hp c0 (by simp)
    obtain ⟨_, b, rfl, hb⟩ := hp c1 (by simp)
    obtain ⟨_, c, rfl, hc⟩ := hp c2 (by simp)
    obtain ⟨_, d, rfl, hd⟩ := hp c3 (by simp)
    exact ⟨(a, b, c, d), rfl, ⟨ha, hb⟩, hc, hd⟩
theorem rd143 : RD enc Tryz.prog W 143 fun cs => ∃ b : B5, cs = b5C b ∧ (fun b : B5 => (kb .u8 b.1 ∧ kb .u8 b.2.1) ∧ kb .u8 b.2.2.1 ∧ kb .u8 b.2.2.2.1 ∧ kb .u8 b.2.2.2.2) b := fun n cs x hx => by
  obtain ⟨css, rfl, hlen, hp⟩ := trod_cells Tryz.underlying143 K5 K143 hx rd5
  match css, hlen with
  | [c0, c1, c2, c3, c4],_ =>
    obtain ⟨_, a, rfl, ha⟩ := hp c0 (by simp)
    obtain ⟨_, b, rfl, hb⟩ := hp c1 (by simp)
    obtain ⟨_, c, rfl, hc⟩ := hp c2 (by simp)
    obtain ⟨_, d, rfl, hd⟩ := hp c3 (by simp)
    obtain ⟨_, e, rfl, he⟩ := hp c4 (by simp)
    exact ⟨(a, b, c, d, e), rfl, ⟨ha, hb⟩, hc, hd, he⟩
theorem rd31 : RD enc Tryz.prog W 31 fun cs => ∃ (p : Option Addr) (cap : Nat) (l : List Int), cs = [.slice p l.length cap] ∧ (l.length ≤ cap ∧ l.length ≤ 9223372036854775807) ∧ RO 1 u8C W p l ∧ ∀ x, x ∈ l → (kb .u8) x := fun n cs x hx => by
  obtain ⟨p, cap, rows, rfl, h1, h2, h3⟩ := RD.slice Tryz.underlying31 K5 (by decide) rd5 _ _ _ hx
  obtain ⟨l, rfl, h5⟩ := rows_map (f := u8C) (Q := (kb .u8)) (fun r hr => by obtain ⟨x, h6, h7⟩ := (h3 r hr).2; exact ⟨x, h6, h7⟩)
  exact ⟨p, cap, l, by simp, ⟨by have := RD.cap Tryz.underlying31 hx; simpa using this, by simpa using h1⟩, h2, h5⟩
theorem rd55 : RD enc Tryz.prog W 55 fun cs => ∃ (p : Option Addr) (cap : Nat) (l : List Int), cs = [.slice p l.length cap] ∧ (l.length ≤ cap ∧ l.length ≤ 9223372036854775807) ∧ RO 1 u16C W p l ∧ ∀ x, x ∈ l → (kb .u16) x := fun n cs x hx => by
  obtain ⟨p, cap, rows, rfl, h1, h2, h3⟩ := RD.slice Tryz.underlying55 K28 (by decide) rd28 _ _ _ hx
  obtain ⟨l, rfl, h5⟩ := rows_map (f := u16C) (Q := (kb .u16)) (fun r hr => by obtain ⟨x, h6, h7⟩ := (h3 r hr).2; exact ⟨x, h6, h7⟩)
  exact ⟨p, cap, l, by simp, ⟨by have := RD.cap Tryz.underlying55 hx; simpa using this, by simpa using h1⟩, h2, h5⟩
theorem rd125 : RD enc Tryz.prog W 125 fun cs => ∃ (p : Option Addr) (cap : Nat) (l : List B4), cs = [.slice p l.length cap] ∧ (l.length ≤ cap ∧ l.length ≤ 9223372036854775807) ∧ RO 4 b4C W p l ∧ ∀ x, x ∈ l → (fun b : B4 => (kb .u8 b.1 ∧ kb .u8 b.2.1) ∧ kb .u8 b.2.2.1 ∧ kb .u8 b.2.2.2) x := fun n cs x hx => by
  obtain ⟨p, cap, rows, rfl, h1, h2, h3⟩ := RD.slice Tryz.underlying125 K268 (by decide) rd268 _ _ _ hx
  obtain ⟨l, rfl, h5⟩ := rows_map (f := b4C) (Q := (fun b : B4 => (kb .u8 b.1 ∧ kb .u8 b.2.1) ∧ kb .u8 b.2.2.1 ∧ kb .u8 b.2.2.2)) (fun r hr => by obtain ⟨x, h6, h7⟩ := (h3 r hr).2; exact ⟨x, h6, h7⟩)
  exact ⟨p, cap, l, by simp, ⟨by have := RD.cap Tryz.underlying125 hx; simpa using this, by simpa using h1⟩, h2, h5⟩
theorem rd126 : RD enc Tryz.prog W 126 fun cs => ∃ (p : Option Addr) (cap : Nat) (l : List B5), cs = [.slice p l.length cap] ∧ (l.length ≤ cap ∧ l.length ≤ 9223372036854775807) ∧ RO 5 b5C W p l ∧ ∀ x, x ∈ l → (fun b : B5 => (kb .u8 b.1 ∧ kb .u8 b.2.1) ∧ kb .u8 b.2.2.1 ∧ kb .u8 b.2.2.2.1 ∧ kb .u8 b.2.2.2.2) x := fun n cs x hx => by
  obtain ⟨p, cap, rows, rfl, h1, h2, h3⟩ := RD.slice Tryz.underlying126 K143 (by decide) rd143 _ _ _ hx
  obtain ⟨l, rfl, h5⟩ := rows_map (f := b5C) (Q := (fun b : B5 => (kb .u8 b.1 ∧ kb .u8 b.2.1) ∧ kb .u8 b.2.2.1 ∧ kb .u8 b.2.2.2.1 ∧ kb .u8 b.2.2.2.2)) (fun r hr => by obtain ⟨x, h6, h7⟩ := (h3 r hr).2; exact ⟨x, h6, h7⟩)
  exact ⟨p, cap, l, by simp, ⟨by have := RD.cap Tryz.underlying126 hx; simpa using this, by simpa using h1⟩, h2, h5⟩
theorem rd128 : RD enc Tryz.prog W 128 fun cs => ∃ (x : NtI) (q : NtA), cs = ntL x q ∧ NtB x ∧ NtM x q W := fun n cs x hx => by
  obtain ⟨css, rfl, hlen,_, hp⟩ := trod_parts Tryz.underlying128 (zs := [1,1,1,1,1,1,1,1]) (by kernel_rfl) rfl (by kernel_rfl) hx
  match css, hlen with
  | [c0, c1, c2, c3, c4, c5, c6, c7],_ =>
    obtain ⟨_,_, h0⟩ := hp 0 _ c0 rfl rfl
    obtain ⟨_,_, h1⟩ := hp 1 _ c1 rfl rfl
    obtain ⟨_,_, h2⟩ := hp 2 _ c2 rfl rfl
    obtain ⟨_,_, h3⟩ := hp 3 _ c3 rfl rfl
    obtain ⟨_,_, h4⟩ := hp 4 _ c4 rfl rfl
    obtain ⟨_,_, h5⟩ := hp 5 _ c5 rfl rfl
    obtain ⟨_,_, h6⟩ := hp 6 _ c6 rfl rfl
    obtain ⟨_,_, h7⟩ := hp 7 _ c7 rfl rfl
    obtain ⟨k0, rfl, h_0⟩ := rd5 _ _ _ h0
    obtain ⟨k1, rfl, h_1⟩ := rd5 _ _ _ h1
    obtain ⟨p2, c2_, l2, rfl, n2, r2, b2⟩ := rd55 _ _ _ h2
    obtain ⟨p3, c3_, l3, rfl, n3, r3, b3⟩ := rd125 _ _ _ h3
    obtain ⟨p4, c4_, l4, rfl, n4, r4, b4⟩ := rd126 _ _ _ h4
    obtain ⟨p5, c5_, l5, rfl, n5, r5, b5⟩ := rd31 _ _ _ h5
    obtain ⟨k6, rfl, h_6⟩ := rd28 _ _ _ h6
    obtain ⟨k7, rfl, h_7⟩ := rd28 _ _ _ h7
    exact ⟨⟨k0, k1, l2, l3, l4, l5, k6, k7⟩, ⟨p2, c2_, p3, c3_, p4, c4_, p5, c5_⟩, rfl, ⟨kb_u8 h_0, kb_u8 h_1, ⟨n2.2, fun v hv => kb_u16 (b2 v hv)⟩, ⟨n3.2, fun v hv => ⟨kb_u8 (b3 v hv).1.1, kb_u8 (b3 v hv).1.2, kb_u8 (b3 v hv).2.1, kb_u8 (b3 v hv).2.2⟩⟩, ⟨n4.2, fun v hv => ⟨⟨kb_u8 (b4 v hv).1.1, kb_u8 (b4 v hv).1.2⟩, kb_u8 (b4 v hv).2.1, kb_u8 (b4 v hv).2.2.1, kb_u8 (b4 v hv).2.2.2⟩⟩, ⟨n5.2, fun v hv => kb_u8 (b5 v hv)⟩, kb_u16 h_6, kb_u16 h_7⟩, ⟨r2, r3, r4, r5⟩⟩
end

end Go.Proofs.YtffbohecdocajaaGreat
