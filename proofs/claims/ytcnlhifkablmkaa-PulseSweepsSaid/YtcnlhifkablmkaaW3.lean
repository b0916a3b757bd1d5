/-
  Echoes are valid.
-/
import Derived.Test.YtcnlhifkablmkaaW2
namespace Go.Proofs.Ytcnlhifkablmkaa
open Go.SL Go.Proofs Go.Pulse
set_option linter.unusedVariables false

theorem F32_1 : FieldAt Try.prog 32 1 1 := ⟨_, _, Try.underlying32, rfl, rfl, 1, by kernel_rfl⟩
theorem F32_0 : FieldAt Try.prog 32 0 0 := ⟨_, _, Try.underlying32, rfl, rfl, 0, by kernel_rfl⟩
theorem A32 : IsAgg Try.prog 32 14 := ⟨⟨_, Try.underlying32, rfl⟩, by kernel_rfl⟩
theorem B25 : Builds Try.prog 25 [(0, 1), (1, 1)] [.int .i64 0, .int .i64 0] := Builds.mk fun _ => by kernel_rfl
theorem B32 : Builds Try.prog 32 [(0, 1), (1, 2), (3, 4), (7, 1), (8, 2), (10, 2), (12, 2)] [.int .i64 0, .int .i64 0, .int .i64 0, .int .i64 0, .int .i64 0, .int .i64 0, .int .i64 0, .int .i64 0, .int .i64 0, .int .i64 0, .int .i64 0, .int .i64 0, .int .i64 0, .int .i64 0] := Builds.mk fun _ => by kernel_rfl
theorem EA32 : FlatA Try.prog 32 14 := ⟨⟨_, Try.underlying32, rfl⟩, by kernel_rfl, by kernel_rfl⟩
theorem F32_4 : FieldAt Try.prog 32 4 8 := ⟨_, _, Try.underlying32, rfl, rfl, 1, by kernel_rfl⟩
theorem F32_5 : FieldAt Try.prog 32 5 10 := ⟨_, _, Try.underlying32, rfl, rfl, 1, by kernel_rfl⟩
theorem F32_3 : FieldAt Try.prog 32 3 7 := ⟨_, _, Try.underlying32, rfl, rfl, 0, by kernel_rfl⟩
theorem F32_2 : FieldAt Try.prog 32 2 3 := ⟨_, _, Try.underlying32, rfl, rfl, 3, by kernel_rfl⟩
theorem A30 : IsAgg Try.prog 30 4 := ⟨⟨_, Try.underlying30, rfl⟩, by kernel_rfl⟩
theorem B30 : BuildsA Try.prog 30 [(0, 2), (2, 2)] [.int .i64 0, .int .i64 0, .int .i64 0, .int .i64 0] := BuildsA.mk (z := 2) (n := 2) (fun _ => by kernel_rfl) rfl
theorem EA30 : FlatA Try.prog 30 4 := ⟨⟨_, Try.underlying30, rfl⟩, by kernel_rfl, by kernel_rfl⟩
theorem F32_6 : FieldAt Try.prog 32 6 12 := ⟨_, _, Try.underlying32, rfl, rfl, 1, by kernel_rfl⟩
theorem EA25 : FlatA Try.prog 25 2 := ⟨⟨_, Try.underlying25, rfl⟩, by kernel_rfl, by kernel_rfl⟩
theorem C63 : IsFn Try.prog 63 := ⟨_, Try.func63, by decide, rfl⟩
theorem C64 : IsFn Try.prog 64 := ⟨_, Try.func64, by decide, rfl⟩


theorem turning3 (a b c : Span) (p : Nat) (w : World) (h : Cells w ⟨p, 0, none⟩ [.int .i64 a.lo, .int .i64 a.hi, .int .i64 b.lo, .int .i64 b.hi, .int .i64 c.lo, .int .i64 c.hi]) : Calls Try.prog 63 #[.slice (some ⟨p, 0, none⟩) 3 3] w fun e w' => e = .returned (.bool (decide (turnS a ∧ turnS b ∧ turnS c))) ∧ St (bs w) [] w' :=
  (turning_c [a, b, c] (some ⟨p, 0, none⟩) 3 w (by simp) (RO.ofC (fun _ => rfl) h)).mono fun e w' ⟨h1, h2⟩ => ⟨by rw [h1]; congr 2; rw [Bool.eq_iff_iff]; simp, h2⟩

set_option maxRecDepth 20000 in
theorem echoP_c (x : Echo) (w : World) :
  Calls Try.prog 29 #[echoV x] w fun e w' => e = .returned (.int .i64 (echoE x)) ∧ St (bs w) [] w' := by
  refine enter (vs := [_]) (env := [(0, _)]) Try.func29 rfl rfl rfl rfl ?_
  refine VC.seq ?_
  refine VC.reg (VO.h rfl <| HO.box (C := #[_, _, _, _, _, _, _, _, _, _, _, _, _, _]) rfl rfl fun b1 => VO.l (LO.as (.r rfl)) rfl <| VO.nil ?_)
  refine VE.seqN ?_
  refine VC.seq ?_
  refine VC.reg (VO.l (LO.fa (r := 1) F32_1 (.r rfl) rfl) rfl <| VO.l (LO.lda (vs := [_, _]) A25 (.r rfl) (fun _ hw => cells_at hw 0 rfl ⟨_, rfl⟩) rfl) rfl <| VO.l (LO.call (xs := [_, _, _]) (vs := [_, _, _]) C61 ⟨(.r rfl), (.r rfl), (.r rfl), trivial⟩ (fun w _ => inside_c _ _ _ _ w)) rfl <| VO.l (LO.as (.r rfl)) rfl <| VO.nil ?_)
  refine VE.seqN ?_
  refine VC.seq ?_
  refine VC.seq ?_
  refine VC.reg (VO.l (LO.fa (r := 0) F32_0 (.r rfl) rfl) rfl <| VO.l (LO.ld O3 (.r rfl) (fun _ hw => cells_at hw 0 rfl ⟨_, rfl⟩)) rfl <| VO.nil ?_)
  refine VE.seqN ?_
  refine VC.block ?_
  refine VC.seq ?_
  refine VC.reg (VO.l (LO.eq (.r rfl) (.r rfl)) rfl <| VO.l (LO.as (.r rfl)) rfl <| VO.nil ?_)
  refine VE.seqN ?_
  refine VC.cond rfl (fun h1 => ?_) (fun h1 => ?_)
  ·
    refine VC.reg (VO.l (LO.mv (.r rfl)) rfl <| VO.l (LO.mv (.r rfl)) rfl <| VO.lg rfl rfl (GD.t _) (fun hg => LO.lda (vs := [_, _, _, _, _, _, _, _, _, _, _, _, _, _]) A32 (.r rfl) (fun _ hw => cells_at hw 0 rfl ⟨_, rfl⟩) rfl) rfl <| VO.lg rfl rfl (GD.t _) (fun hg => LO.fa (r := 1) F32_1 (.r rfl) rfl) rfl <| VO.lg rfl rfl (GD.t _) (fun hg => LO.fa (r := 2) F25_1 (.g hg rfl) rfl) rfl <| VO.lg rfl rfl (GD.t _) (fun hg => LO.ld O3 (.g hg rfl) (fun _ hw => cells_at hw 0 rfl ⟨_, rfl⟩)) rfl <| VO.lg rfl rfl (GD.t _) (fun hg => LO.bd (ps := [(_, _)]) (vs := [(_, _)]) (C := [_, _]) B25  ⟨(.g hg rfl), trivial⟩ rfl ⟨_, [_], [_, _], rfl, rfl, rfl, rfl, rfl⟩) rfl <| VO.lg rfl rfl (GD.t _) (fun hg => LO.bd (ps := [(_, _), (_, _)]) (vs := [(_, _), (_, _)]) (C := [_, _, _, _, _, _, _, _, _, _, _, _, _, _]) B32  ⟨(.r rfl), (.g hg rfl), trivial⟩ rfl ⟨_, [_], [_, _, _, _, _, _, _, _, _, _, _, _, _, _], rfl, rfl, rfl, rfl, ⟨_, [_, _], [_, _, _, _, _, _, _, _, _, _, _, _, _, _], rfl, rfl, rfl, rfl, rfl⟩⟩) rfl <| VO.lg rfl rfl (GD.t _) (fun hg => LO.eqA («as» := [_, _, _, _, _, _, _, _, _, _, _, _, _, _]) (bs := [_, _, _, _, _, _, _, _, _, _, _, _, _, _]) EA32 (.g hg rfl) (.g hg rfl) rfl rfl) rfl <| VO.l (LO.pkA (.r rfl) rfl rfl (.r rfl)) rfl <| VO.l (LO.as (.r rfl)) rfl <| VO.nil ?_)
    refine VE.inN (VE.seqN ?_)
    refine VC.seq ?_
    refine VC.seq ?_
    refine VC.reg (VO.l (LO.mv (.r rfl)) rfl <| VO.l (LO.not (.r rfl)) rfl <| VO.nil ?_)
    refine VE.seqN ?_
    refine VC.cond rfl (fun h2 => ?_) (fun h2 => ?_)
    ·
      refine VC.seq ?_
      refine VC.reg (VO.l (LO.as (.r rfl)) rfl <| VO.nil ?_)
      refine VE.seqN ?_
      refine VC.ret (VE.thenR (VE.res (vs := [_]) rfl ⟨rfl, trivial⟩ (fun w hw => ?_)))
      refine ⟨?_, hw.nil⟩
      simp only [resV]
      congr 2
      rw [echoE_flat]
      clear hw
      by_cases k1 : x.kind = 1 <;> by_cases k2 : x.kind = 2 <;> by_cases k3 : x.kind = 3 <;> (try omega) <;> (try simp_all [kndOk, echoF, turnS, and_assoc]) <;> first | assumption | omega | (intros; simp_all; done) | (intros; simp_all; omega)
    ·
      refine VC.skip (VE.seqN ?_)
      refine VC.seq ?_
      refine VC.reg (VO.l (LO.as (.r rfl)) rfl <| VO.nil ?_)
      refine VE.seqN ?_
      refine VC.ret (VE.res (vs := [_]) rfl ⟨rfl, trivial⟩ (fun w hw => ?_))
      refine ⟨?_, hw.nil⟩
      simp only [resV]
      congr 2
      rw [echoE_flat]
      clear hw
      by_cases k1 : x.kind = 1 <;> by_cases k2 : x.kind = 2 <;> by_cases k3 : x.kind = 3 <;> (try omega) <;> (try simp_all [kndOk, echoF, turnS, and_assoc]) <;> first | assumption | omega | (intros; simp_all; done) | (intros; simp_all; omega)
  ·
    refine VC.seq ?_
    refine VC.seq ?_
    refine VC.reg (VO.l (LO.eq (.r rfl) (.r rfl)) rfl <| VO.l (LO.as (.r rfl)) rfl <| VO.nil ?_)
    refine VE.seqN ?_
    refine VC.cond rfl (fun h3 => ?_) (fun h3 => ?_)
    ·
      refine VC.skip (VE.seqN ?_)
      refine VC.cond rfl (fun h4 => ?_) (fun h4 => ?_)
      ·
        refine VC.seq ?_
        refine VC.reg (VO.l (LO.mv (.r rfl)) rfl <| VO.l (LO.mv (.r rfl)) rfl <| VO.lg rfl rfl (GD.t _) (fun hg => LO.fa (r := 1) F32_1 (.r rfl) rfl) rfl <| VO.lg rfl rfl (GD.t _) (fun hg => LO.fa (r := 1) F25_0 (.g hg rfl) rfl) rfl <| VO.lg rfl rfl (GD.t _) (fun hg => LO.ld O3 (.g hg rfl) (fun _ hw => cells_at hw 0 rfl ⟨_, rfl⟩)) rfl <| VO.lg rfl rfl (GD.t _) (fun hg => LO.gt (.g hg rfl) (.r rfl)) rfl <| VO.l (LO.pkA (.r rfl) rfl rfl (.r rfl)) rfl <| VO.l (LO.mv (.r rfl)) rfl <| VO.lg rfl rfl (GD.t _) (fun hg => LO.fa (r := 8) F32_4 (.r rfl) rfl) rfl <| VO.lg rfl rfl (GD.t _) (fun hg => LO.lda (vs := [_, _]) A25 (.g hg rfl) (fun _ hw => cells_at hw 0 rfl ⟨_, rfl⟩) rfl) rfl <| VO.lg rfl rfl (GD.t _) (fun hg => LO.call (xs := [_, _, _]) (vs := [_, _, _]) C61 ⟨(.g hg rfl), (.r rfl), (.r rfl), trivial⟩ (fun w _ => inside_c _ _ _ _ w)) rfl <| VO.l (LO.pkA (.r rfl) rfl rfl (.r rfl)) rfl <| VO.l (LO.mv (.r rfl)) rfl <| VO.lg rfl rfl (GD.t _) (fun hg => LO.fa (r := 10) F32_5 (.r rfl) rfl) rfl <| VO.lg rfl rfl (GD.t _) (fun hg => LO.lda (vs := [_, _]) A25 (.g hg rfl) (fun _ hw => cells_at hw 0 rfl ⟨_, rfl⟩) rfl) rfl <| VO.lg rfl rfl (GD.t _) (fun hg => LO.call (xs := [_, _, _]) (vs := [_, _, _]) C61 ⟨(.g hg rfl), (.r rfl), (.r rfl), trivial⟩ (fun w _ => inside_c _ _ _ _ w)) rfl <| VO.l (LO.pkA (.r rfl) rfl rfl (.r rfl)) rfl <| VO.l (LO.mv (.r rfl)) rfl <| VO.lg rfl rfl (GD.t _) (fun hg => LO.fa (r := 7) F32_3 (.r rfl) rfl) rfl <| VO.lg rfl rfl (GD.t _) (fun hg => LO.ld O3 (.g hg rfl) (fun _ hw => cells_at hw 0 rfl ⟨_, rfl⟩)) rfl <| VO.lg rfl rfl (GD.t _) (fun hg => LO.call (xs := [_, _, _]) (vs := [_, _, _]) C45 ⟨(.g hg rfl), (.r rfl), (.r rfl), trivial⟩ (fun w _ => within_c _ _ _ w)) rfl <| VO.l (LO.pkA (.r rfl) rfl rfl (.r rfl)) rfl <| VO.l (LO.as (.r rfl)) rfl <| VO.nil ?_)
        refine VE.seqN ?_
        refine VC.seq ?_
        refine VC.reg (VO.l (LO.fa (r := 0) F32_0 (.r rfl) rfl) rfl <| VO.l (LO.ld O3 (.r rfl) (fun _ hw => cells_at hw 0 rfl ⟨_, rfl⟩)) rfl <| VO.l (LO.eq (.r rfl) (.r rfl)) rfl <| VO.nil ?_)
        refine VE.seqN ?_
        refine VC.cond rfl (fun h5 => ?_) (fun h5 => ?_)
        ·
          refine VC.reg (VO.l (LO.mv (.r rfl)) rfl <| VO.l (LO.mv (.r rfl)) rfl <| VO.lg rfl rfl (GD.t _) (fun hg => LO.fa (r := 3) F32_2 (.r rfl) rfl) rfl <| VO.lg rfl rfl (GD.t _) (fun hg => LO.lda (vs := [_, _, _, _]) A30 (.g hg rfl) (fun _ hw => cells_at hw 0 rfl ⟨_, rfl⟩) rfl) rfl <| VO.lg rfl rfl (GD.t _) (fun hg => LO.bda (ps := []) (vs := []) (C := [_, _, _, _]) B30 rfl trivial rfl rfl) rfl <| VO.lg rfl rfl (GD.t _) (fun hg => LO.eqA («as» := [_, _, _, _]) (bs := [_, _, _, _]) EA30 (.g hg rfl) (.g hg rfl) rfl rfl) rfl <| VO.l (LO.pkA (.r rfl) rfl rfl (.r rfl)) rfl <| VO.l (LO.mv (.r rfl)) rfl <| VO.lg rfl rfl (GD.t _) (fun hg => LO.fa (r := 12) F32_6 (.r rfl) rfl) rfl <| VO.lg rfl rfl (GD.t _) (fun hg => LO.lda (vs := [_, _]) A25 (.g hg rfl) (fun _ hw => cells_at hw 0 rfl ⟨_, rfl⟩) rfl) rfl <| VO.lg rfl rfl (GD.t _) (fun hg => LO.bd (ps := []) (vs := []) (C := [_, _]) B25  trivial rfl rfl) rfl <| VO.lg rfl rfl (GD.t _) (fun hg => LO.eqA («as» := [_, _]) (bs := [_, _]) EA25 (.g hg rfl) (.g hg rfl) rfl rfl) rfl <| VO.l (LO.pkA (.r rfl) rfl rfl (.r rfl)) rfl <| VO.l (LO.as (.r rfl)) rfl <| VO.nil ?_)
          refine VE.inN (VE.seqN ?_)
          refine VC.seq ?_
          refine VC.seq ?_
          refine VC.reg (VO.l (LO.mv (.r rfl)) rfl <| VO.l (LO.not (.r rfl)) rfl <| VO.nil ?_)
          refine VE.seqN ?_
          refine VC.cond rfl (fun h6 => ?_) (fun h6 => ?_)
          ·
            refine VC.seq ?_
            refine VC.reg (VO.l (LO.as (.r rfl)) rfl <| VO.nil ?_)
            refine VE.seqN ?_
            refine VC.ret (VE.thenR (VE.res (vs := [_]) rfl ⟨rfl, trivial⟩ (fun w hw => ?_)))
            refine ⟨?_, hw.nil⟩
            simp only [resV]
            congr 2
            rw [echoE_flat]
            clear hw
            by_cases k1 : x.kind = 1 <;> by_cases k2 : x.kind = 2 <;> by_cases k3 : x.kind = 3 <;> (try omega) <;> (try simp_all [kndOk, echoF, turnS, and_assoc]) <;> first | assumption | omega | (intros; simp_all; done) | (intros; simp_all; omega)
          ·
            refine VC.skip (VE.seqN ?_)
            refine VC.seq ?_
            refine VC.reg (VO.l (LO.as (.r rfl)) rfl <| VO.nil ?_)
            refine VE.seqN ?_
            refine VC.ret (VE.res (vs := [_]) rfl ⟨rfl, trivial⟩ (fun w hw => ?_))
            refine ⟨?_, hw.nil⟩
            simp only [resV]
            congr 2
            rw [echoE_flat]
            clear hw
            by_cases k1 : x.kind = 1 <;> by_cases k2 : x.kind = 2 <;> by_cases k3 : x.kind = 3 <;> (try omega) <;> (try simp_all [kndOk, echoF, turnS, and_assoc]) <;> first | assumption | omega | (intros; simp_all; done) | (intros; simp_all; omega)
        ·
          refine VC.reg (VO.l (LO.mv (.r rfl)) rfl <| VO.l (LO.mv (.r rfl)) rfl <| VO.lg rfl rfl (GD.t _) (fun hg => LO.fa (r := 3) F32_2 (.r rfl) rfl) rfl <| VO.lg rfl rfl (GD.t _) (fun hg => LO.ixa (j := 0) (r := 3) Try.underlying30 N25 (.g hg rfl) (.r rfl) rfl (by decide) rfl) rfl <| VO.lg rfl rfl (GD.t _) (fun hg => LO.lda (vs := [_, _]) A25 (.g hg rfl) (fun _ hw => cells_at hw 0 rfl ⟨_, rfl⟩) rfl) rfl <| VO.lg rfl rfl (GD.t _) (fun hg => LO.fa (r := 3) F32_2 (.r rfl) rfl) rfl <| VO.lg rfl rfl (GD.t _) (fun hg => LO.ixa (j := 1) (r := 5) Try.underlying30 N25 (.g hg rfl) (.r rfl) rfl (by decide) rfl) rfl <| VO.lg rfl rfl (GD.t _) (fun hg => LO.lda (vs := [_, _]) A25 (.g hg rfl) (fun _ hw => cells_at hw 0 rfl ⟨_, rfl⟩) rfl) rfl <| VO.lg rfl rfl (GD.t _) (fun hg => LO.fa (r := 12) F32_6 (.r rfl) rfl) rfl <| VO.lg rfl rfl (GD.t _) (fun hg => LO.lda (vs := [_, _]) A25 (.g hg rfl) (fun _ hw => cells_at hw 0 rfl ⟨_, rfl⟩) rfl) rfl <| VO.bc (x := 63) rfl (fun hg11_1 => VO.gT rfl rfl (congrArg Value.bool hg11_1) rfl <| HO.bs (ps := [(_, _), (_, _), (_, _)]) (vs := [(_, _), (_, _), (_, _)]) (Z := [_, _, _, _, _, _]) (C := [_, _, _, _, _, _]) S137 Z25 N25 ⟨(.g hg11_1 rfl), (.g hg11_1 rfl), (.g hg11_1 rfl), trivial⟩ rfl rfl rfl rfl ⟨_, [_, _], [_, _, _, _, _, _], rfl, rfl, rfl, rfl, ⟨_, [_, _], [_, _, _, _, _, _], rfl, rfl, rfl, rfl, ⟨_, [_, _], [_, _, _, _, _, _], rfl, rfl, rfl, rfl, rfl⟩⟩⟩ fun b2 => VO.gT rfl rfl (congrArg Value.bool hg11_1) rfl <| HO.lo (LO.call (xs := [_]) (vs := [_]) C63 ⟨(.r rfl), trivial⟩ (fun w hw => turning3 _ _ _ _ w (cells_at hw 0 rfl ⟨[], rfl⟩))) <| VO.h rfl <| HO.lo (LO.pkT (.r rfl) hg11_1 (.r rfl)) <| VO.h rfl <| HO.lo (LO.as (.r rfl)) <| VO.nil ?_) (fun hg11_1 => VO.gF rfl rfl hg11_1 rfl <| VO.gF rfl rfl hg11_1 rfl <| VO.h rfl <| HO.lo (LO.pkF (.r rfl) hg11_1 (.r rfl)) <| VO.h rfl <| HO.lo (LO.as (.r rfl)) <| VO.nil ?_))
          ·
            refine VE.inN (VE.seqN ?_)
            refine VC.seq ?_
            refine VC.seq ?_
            refine VC.reg (VO.l (LO.mv (.r rfl)) rfl <| VO.l (LO.not (.r rfl)) rfl <| VO.nil ?_)
            refine VE.seqN ?_
            refine VC.cond rfl (fun h7 => ?_) (fun h7 => ?_)
            ·
              refine VC.seq ?_
              refine VC.reg (VO.l (LO.as (.r rfl)) rfl <| VO.nil ?_)
              refine VE.seqN ?_
              refine VC.ret (VE.thenR (VE.res (vs := [_]) rfl ⟨rfl, trivial⟩ (fun w hw => ?_)))
              refine ⟨?_, hw.nil⟩
              simp only [resV]
              congr 2
              rw [echoE_flat]
              clear hw
              by_cases k1 : x.kind = 1 <;> by_cases k2 : x.kind = 2 <;> by_cases k3 : x.kind = 3 <;> (try omega) <;> (try simp_all [kndOk, echoF, turnS, and_assoc]) <;> first | assumption | omega | (intros; simp_all; done) | (intros; simp_all; omega)
            ·
              refine VC.skip (VE.seqN ?_)
              refine VC.seq ?_
              refine VC.reg (VO.l (LO.as (.r rfl)) rfl <| VO.nil ?_)
              refine VE.seqN ?_
              refine VC.ret (VE.res (vs := [_]) rfl ⟨rfl, trivial⟩ (fun w hw => ?_))
              refine ⟨?_, hw.nil⟩
              simp only [resV]
              congr 2
              rw [echoE_flat]
              clear hw
              by_cases k1 : x.kind = 1 <;> by_cases k2 : x.kind = 2 <;> by_cases k3 : x.kind = 3 <;> (try omega) <;> (try simp_all [kndOk, echoF, turnS, and_assoc]) <;> first | assumption | omega | (intros; simp_all; done) | (intros; simp_all; omega)
          ·
            refine VE.inN (VE.seqN ?_)
            refine VC.seq ?_
            refine VC.seq ?_
            refine VC.reg (VO.l (LO.mv (.r rfl)) rfl <| VO.l (LO.not (.r rfl)) rfl <| VO.nil ?_)
            refine VE.seqN ?_
            refine VC.cond rfl (fun h8 => ?_) (fun h8 => ?_)
            ·
              refine VC.seq ?_
              refine VC.reg (VO.l (LO.as (.r rfl)) rfl <| VO.nil ?_)
              refine VE.seqN ?_
              refine VC.ret (VE.thenR (VE.res (vs := [_]) rfl ⟨rfl, trivial⟩ (fun w hw => ?_)))
              refine ⟨?_, hw.nil⟩
              simp only [resV]
              congr 2
              rw [echoE_flat]
              clear hw
              by_cases k1 : x.kind = 1 <;> by_cases k2 : x.kind = 2 <;> by_cases k3 : x.kind = 3 <;> (try omega) <;> (try simp_all [kndOk, echoF, turnS, and_assoc]) <;> first | assumption | omega | (intros; simp_all; done) | (intros; simp_all; omega)
            ·
              refine VC.skip (VE.seqN ?_)
              refine VC.seq ?_
              refine VC.reg (VO.l (LO.as (.r rfl)) rfl <| VO.nil ?_)
              refine VE.seqN ?_
              refine VC.ret (VE.res (vs := [_]) rfl ⟨rfl, trivial⟩ (fun w hw => ?_))
              refine ⟨?_, hw.nil⟩
              simp only [resV]
              congr 2
              rw [echoE_flat]
              clear hw
              by_cases k1 : x.kind = 1 <;> by_cases k2 : x.kind = 2 <;> by_cases k3 : x.kind = 3 <;> (try omega) <;> (try simp_all [kndOk, echoF, turnS, and_assoc]) <;> first | assumption | omega | (intros; simp_all; done) | (intros; simp_all; omega)
      ·
        (exfalso; omega)
    ·
      refine VC.reg (VO.l (LO.eq (.r rfl) (.r rfl)) rfl <| VO.l (LO.as (.r rfl)) rfl <| VO.nil ?_)
      refine VE.seqN ?_
      refine VC.cond rfl (fun h9 => ?_) (fun h9 => ?_)
      ·
        refine VC.seq ?_
        refine VC.reg (VO.l (LO.mv (.r rfl)) rfl <| VO.l (LO.mv (.r rfl)) rfl <| VO.lg rfl rfl (GD.t _) (fun hg => LO.fa (r := 1) F32_1 (.r rfl) rfl) rfl <| VO.lg rfl rfl (GD.t _) (fun hg => LO.fa (r := 1) F25_0 (.g hg rfl) rfl) rfl <| VO.lg rfl rfl (GD.t _) (fun hg => LO.ld O3 (.g hg rfl) (fun _ hw => cells_at hw 0 rfl ⟨_, rfl⟩)) rfl <| VO.lg rfl rfl (GD.t _) (fun hg => LO.gt (.g hg rfl) (.r rfl)) rfl <| VO.l (LO.pkA (.r rfl) rfl rfl (.r rfl)) rfl <| VO.l (LO.mv (.r rfl)) rfl <| VO.lg rfl rfl (GD.t _) (fun hg => LO.fa (r := 8) F32_4 (.r rfl) rfl) rfl <| VO.lg rfl rfl (GD.t _) (fun hg => LO.lda (vs := [_, _]) A25 (.g hg rfl) (fun _ hw => cells_at hw 0 rfl ⟨_, rfl⟩) rfl) rfl <| VO.lg rfl rfl (GD.t _) (fun hg => LO.call (xs := [_, _, _]) (vs := [_, _, _]) C61 ⟨(.g hg rfl), (.r rfl), (.r rfl), trivial⟩ (fun w _ => inside_c _ _ _ _ w)) rfl <| VO.l (LO.pkA (.r rfl) rfl rfl (.r rfl)) rfl <| VO.l (LO.mv (.r rfl)) rfl <| VO.lg rfl rfl (GD.t _) (fun hg => LO.fa (r := 10) F32_5 (.r rfl) rfl) rfl <| VO.lg rfl rfl (GD.t _) (fun hg => LO.lda (vs := [_, _]) A25 (.g hg rfl) (fun _ hw => cells_at hw 0 rfl ⟨_, rfl⟩) rfl) rfl <| VO.lg rfl rfl (GD.t _) (fun hg => LO.call (xs := [_, _, _]) (vs := [_, _, _]) C61 ⟨(.g hg rfl), (.r rfl), (.r rfl), trivial⟩ (fun w _ => inside_c _ _ _ _ w)) rfl <| VO.l (LO.pkA (.r rfl) rfl rfl (.r rfl)) rfl <| VO.l (LO.mv (.r rfl)) rfl <| VO.lg rfl rfl (GD.t _) (fun hg => LO.fa (r := 7) F32_3 (.r rfl) rfl) rfl <| VO.lg rfl rfl (GD.t _) (fun hg => LO.ld O3 (.g hg rfl) (fun _ hw => cells_at hw 0 rfl ⟨_, rfl⟩)) rfl <| VO.lg rfl rfl (GD.t _) (fun hg => LO.call (xs := [_, _, _]) (vs := [_, _, _]) C45 ⟨(.g hg rfl), (.r rfl), (.r rfl), trivial⟩ (fun w _ => within_c _ _ _ w)) rfl <| VO.l (LO.pkA (.r rfl) rfl rfl (.r rfl)) rfl <| VO.l (LO.as (.r rfl)) rfl <| VO.nil ?_)
        refine VE.seqN ?_
        refine VC.seq ?_
        refine VC.reg (VO.l (LO.fa (r := 0) F32_0 (.r rfl) rfl) rfl <| VO.l (LO.ld O3 (.r rfl) (fun _ hw => cells_at hw 0 rfl ⟨_, rfl⟩)) rfl <| VO.l (LO.eq (.r rfl) (.r rfl)) rfl <| VO.nil ?_)
        refine VE.seqN ?_
        refine VC.cond rfl (fun h10 => ?_) (fun h10 => ?_)
        ·
          (exfalso; omega)
        ·
          refine VC.reg (VO.l (LO.mv (.r rfl)) rfl <| VO.l (LO.mv (.r rfl)) rfl <| VO.lg rfl rfl (GD.t _) (fun hg => LO.fa (r := 3) F32_2 (.r rfl) rfl) rfl <| VO.lg rfl rfl (GD.t _) (fun hg => LO.ixa (j := 0) (r := 3) Try.underlying30 N25 (.g hg rfl) (.r rfl) rfl (by decide) rfl) rfl <| VO.lg rfl rfl (GD.t _) (fun hg => LO.lda (vs := [_, _]) A25 (.g hg rfl) (fun _ hw => cells_at hw 0 rfl ⟨_, rfl⟩) rfl) rfl <| VO.lg rfl rfl (GD.t _) (fun hg => LO.fa (r := 3) F32_2 (.r rfl) rfl) rfl <| VO.lg rfl rfl (GD.t _) (fun hg => LO.ixa (j := 1) (r := 5) Try.underlying30 N25 (.g hg rfl) (.r rfl) rfl (by decide) rfl) rfl <| VO.lg rfl rfl (GD.t _) (fun hg => LO.lda (vs := [_, _]) A25 (.g hg rfl) (fun _ hw => cells_at hw 0 rfl ⟨_, rfl⟩) rfl) rfl <| VO.lg rfl rfl (GD.t _) (fun hg => LO.fa (r := 12) F32_6 (.r rfl) rfl) rfl <| VO.lg rfl rfl (GD.t _) (fun hg => LO.lda (vs := [_, _]) A25 (.g hg rfl) (fun _ hw => cells_at hw 0 rfl ⟨_, rfl⟩) rfl) rfl <| VO.bc (x := 63) rfl (fun hg11_1 => VO.gT rfl rfl (congrArg Value.bool hg11_1) rfl <| HO.bs (ps := [(_, _), (_, _), (_, _)]) (vs := [(_, _), (_, _), (_, _)]) (Z := [_, _, _, _, _, _]) (C := [_, _, _, _, _, _]) S137 Z25 N25 ⟨(.g hg11_1 rfl), (.g hg11_1 rfl), (.g hg11_1 rfl), trivial⟩ rfl rfl rfl rfl ⟨_, [_, _], [_, _, _, _, _, _], rfl, rfl, rfl, rfl, ⟨_, [_, _], [_, _, _, _, _, _], rfl, rfl, rfl, rfl, ⟨_, [_, _], [_, _, _, _, _, _], rfl, rfl, rfl, rfl, rfl⟩⟩⟩ fun b3 => VO.gT rfl rfl (congrArg Value.bool hg11_1) rfl <| HO.lo (LO.call (xs := [_]) (vs := [_]) C63 ⟨(.r rfl), trivial⟩ (fun w hw => turning3 _ _ _ _ w (cells_at hw 0 rfl ⟨[], rfl⟩))) <| VO.h rfl <| HO.lo (LO.pkT (.r rfl) hg11_1 (.r rfl)) <| VO.h rfl <| HO.lo (LO.as (.r rfl)) <| VO.nil ?_) (fun hg11_1 => VO.gF rfl rfl hg11_1 rfl <| VO.gF rfl rfl hg11_1 rfl <| VO.h rfl <| HO.lo (LO.pkF (.r rfl) hg11_1 (.r rfl)) <| VO.h rfl <| HO.lo (LO.as (.r rfl)) <| VO.nil ?_))
          ·
            refine VE.inN (VE.seqN ?_)
            refine VC.seq ?_
            refine VC.seq ?_
            refine VC.reg (VO.l (LO.mv (.r rfl)) rfl <| VO.l (LO.not (.r rfl)) rfl <| VO.nil ?_)
            refine VE.seqN ?_
            refine VC.cond rfl (fun h11 => ?_) (fun h11 => ?_)
            ·
              refine VC.seq ?_
              refine VC.reg (VO.l (LO.as (.r rfl)) rfl <| VO.nil ?_)
              refine VE.seqN ?_
              refine VC.ret (VE.thenR (VE.res (vs := [_]) rfl ⟨rfl, trivial⟩ (fun w hw => ?_)))
              refine ⟨?_, hw.nil⟩
              simp only [resV]
              congr 2
              rw [echoE_flat]
              clear hw
              by_cases k1 : x.kind = 1 <;> by_cases k2 : x.kind = 2 <;> by_cases k3 : x.kind = 3 <;> (try omega) <;> (try simp_all [kndOk, echoF, turnS, and_assoc]) <;> first | assumption | omega | (intros; simp_all; done) | (intros; simp_all; omega)
            ·
              refine VC.skip (VE.seqN ?_)
              refine VC.seq ?_
              refine VC.reg (VO.l (LO.as (.r rfl)) rfl <| VO.nil ?_)
              refine VE.seqN ?_
              refine VC.ret (VE.res (vs := [_]) rfl ⟨rfl, trivial⟩ (fun w hw => ?_))
              refine ⟨?_, hw.nil⟩
              simp only [resV]
              congr 2
              rw [echoE_flat]
              clear hw
              by_cases k1 : x.kind = 1 <;> by_cases k2 : x.kind = 2 <;> by_cases k3 : x.kind = 3 <;> (try omega) <;> (try simp_all [kndOk, echoF, turnS, and_assoc]) <;> first | assumption | omega | (intros; simp_all; done) | (intros; simp_all; omega)
          ·
            refine VE.inN (VE.seqN ?_)
            refine VC.seq ?_
            refine VC.seq ?_
            refine VC.reg (VO.l (LO.mv (.r rfl)) rfl <| VO.l (LO.not (.r rfl)) rfl <| VO.nil ?_)
            refine VE.seqN ?_
            refine VC.cond rfl (fun h12 => ?_) (fun h12 => ?_)
            ·
              refine VC.seq ?_
              refine VC.reg (VO.l (LO.as (.r rfl)) rfl <| VO.nil ?_)
              refine VE.seqN ?_
              refine VC.ret (VE.thenR (VE.res (vs := [_]) rfl ⟨rfl, trivial⟩ (fun w hw => ?_)))
              refine ⟨?_, hw.nil⟩
              simp only [resV]
              congr 2
              rw [echoE_flat]
              clear hw
              by_cases k1 : x.kind = 1 <;> by_cases k2 : x.kind = 2 <;> by_cases k3 : x.kind = 3 <;> (try omega) <;> (try simp_all [kndOk, echoF, turnS, and_assoc]) <;> first | assumption | omega | (intros; simp_all; done) | (intros; simp_all; omega)
            ·
              refine VC.skip (VE.seqN ?_)
              refine VC.seq ?_
              refine VC.reg (VO.l (LO.as (.r rfl)) rfl <| VO.nil ?_)
              refine VE.seqN ?_
              refine VC.ret (VE.res (vs := [_]) rfl ⟨rfl, trivial⟩ (fun w hw => ?_))
              refine ⟨?_, hw.nil⟩
              simp only [resV]
              congr 2
              rw [echoE_flat]
              clear hw
              by_cases k1 : x.kind = 1 <;> by_cases k2 : x.kind = 2 <;> by_cases k3 : x.kind = 3 <;> (try omega) <;> (try simp_all [kndOk, echoF, turnS, and_assoc]) <;> first | assumption | omega | (intros; simp_all; done) | (intros; simp_all; omega)
      ·
        refine VC.seq ?_
        refine VC.reg (VO.l (LO.as (.r rfl)) rfl <| VO.nil ?_)
        refine VE.seqN ?_
        refine VC.ret (VE.inR (VE.thenR (VE.res (vs := [_]) rfl ⟨rfl, trivial⟩ (fun w hw => ?_))))
        refine ⟨?_, hw.nil⟩
        simp only [resV]
        congr 2
        rw [echoE_flat]
        clear hw
        by_cases k1 : x.kind = 1 <;> by_cases k2 : x.kind = 2 <;> by_cases k3 : x.kind = 3 <;> (try omega) <;> (try simp_all [kndOk, echoF, turnS, and_assoc]) <;> first | assumption | omega | (intros; simp_all; done) | (intros; simp_all; omega)

set_option maxRecDepth 20000 in
theorem echoR_c (x : Echo) (w : World) :
  Calls Try.prog 30 #[echoV x] w fun e w' => e = .returned (.int .i64 (echoE x)) ∧ St (bs w) [] w' := by
  refine enter (vs := [_]) (env := [(0, _)]) Try.func30 rfl rfl rfl rfl ?_
  refine VC.seq ?_
  refine VC.reg (VO.h rfl <| HO.box (C := #[_, _, _, _, _, _, _, _, _, _, _, _, _, _]) rfl rfl fun b1 => VO.l (LO.as (.r rfl)) rfl <| VO.nil ?_)
  refine VE.seqN ?_
  refine VC.seq ?_
  refine VC.seq ?_
  refine VC.reg (VO.l (LO.fa (r := 0) F32_0 (.r rfl) rfl) rfl <| VO.l (LO.ld O3 (.r rfl) (fun _ hw => cells_at hw 0 rfl ⟨_, rfl⟩)) rfl <| VO.l (LO.ne (.r rfl) (.r rfl)) rfl <| VO.l (LO.mv (.r rfl)) rfl <| VO.lg rfl rfl (GD.t _) (fun hg => LO.fa (r := 0) F32_0 (.r rfl) rfl) rfl <| VO.lg rfl rfl (GD.t _) (fun hg => LO.ld O3 (.g hg rfl) (fun _ hw => cells_at hw 0 rfl ⟨_, rfl⟩)) rfl <| VO.lg rfl rfl (GD.t _) (fun hg => LO.ne (.g hg rfl) (.r rfl)) rfl <| VO.l (LO.pkA (.r rfl) rfl rfl (.r rfl)) rfl <| VO.l (LO.mv (.r rfl)) rfl <| VO.lg rfl rfl (GD.t _) (fun hg => LO.fa (r := 0) F32_0 (.r rfl) rfl) rfl <| VO.lg rfl rfl (GD.t _) (fun hg => LO.ld O3 (.g hg rfl) (fun _ hw => cells_at hw 0 rfl ⟨_, rfl⟩)) rfl <| VO.lg rfl rfl (GD.t _) (fun hg => LO.ne (.g hg rfl) (.r rfl)) rfl <| VO.l (LO.pkA (.r rfl) rfl rfl (.r rfl)) rfl <| VO.nil ?_)
  refine VE.seqN ?_
  refine VC.cond rfl (fun h1 => ?_) (fun h1 => ?_)
  ·
    refine VC.seq ?_
    refine VC.reg (VO.l (LO.as (.r rfl)) rfl <| VO.nil ?_)
    refine VE.seqN ?_
    refine VC.ret (VE.thenR (VE.res (vs := [_]) rfl ⟨rfl, trivial⟩ (fun w hw => ?_)))
    refine ⟨?_, hw.nil⟩
    simp only [resV]
    congr 2
    rw [echoE_flat]
    clear hw
    by_cases k1 : x.kind = 1 <;> by_cases k2 : x.kind = 2 <;> by_cases k3 : x.kind = 3 <;> (try omega) <;> (try simp_all [kndOk, echoF, turnS, and_assoc]) <;> first | assumption | omega | (intros; simp_all; done) | (intros; simp_all; omega)
  ·
    refine VC.skip (VE.seqN ?_)
    refine VC.seq ?_
    refine VC.seq ?_
    refine VC.reg (VO.l (LO.fa (r := 1) F32_1 (.r rfl) rfl) rfl <| VO.l (LO.lda (vs := [_, _]) A25 (.r rfl) (fun _ hw => cells_at hw 0 rfl ⟨_, rfl⟩) rfl) rfl <| VO.l (LO.call (xs := [_, _, _]) (vs := [_, _, _]) C62 ⟨(.r rfl), (.r rfl), (.r rfl), trivial⟩ (fun w _ => Valid_c _ _ _ _ w)) rfl <| VO.l (LO.not (.r rfl)) rfl <| VO.nil ?_)
    refine VE.seqN ?_
    refine VC.cond rfl (fun h2 => ?_) (fun h2 => ?_)
    ·
      refine VC.seq ?_
      refine VC.reg (VO.l (LO.as (.r rfl)) rfl <| VO.nil ?_)
      refine VE.seqN ?_
      refine VC.ret (VE.thenR (VE.res (vs := [_]) rfl ⟨rfl, trivial⟩ (fun w hw => ?_)))
      refine ⟨?_, hw.nil⟩
      simp only [resV]
      congr 2
      rw [echoE_flat]
      clear hw
      by_cases k1 : x.kind = 1 <;> by_cases k2 : x.kind = 2 <;> by_cases k3 : x.kind = 3 <;> (try omega) <;> (try simp_all [kndOk, echoF, turnS, and_assoc]) <;> first | assumption | omega | (intros; simp_all; done) | (intros; simp_all; omega)
    ·
      refine VC.skip (VE.seqN ?_)
      refine VC.seq ?_
      refine VC.seq ?_
      refine VC.reg (VO.l (LO.fa (r := 0) F32_0 (.r rfl) rfl) rfl <| VO.l (LO.ld O3 (.r rfl) (fun _ hw => cells_at hw 0 rfl ⟨_, rfl⟩)) rfl <| VO.l (LO.eq (.r rfl) (.r rfl)) rfl <| VO.nil ?_)
      refine VE.seqN ?_
      refine VC.cond rfl (fun h3 => ?_) (fun h3 => ?_)
      ·
        refine VC.seq ?_
        refine VC.reg (VO.l (LO.bd (ps := []) (vs := []) (C := [_, _]) B25  trivial rfl rfl) rfl <| VO.h rfl <| HO.alloc (C := #[_, _]) Z25 rfl fun b2 => VO.h0 <| HO.st 0 (vs := [_, _]) (C' := [_, _]) (L' := [_, _]) N25 rfl rfl rfl rfl rfl rfl rfl rfl <| VO.nil ?_)
        refine VE.seqN ?_
        refine VC.seq ?_
        refine VC.seq ?_
        refine VC.reg (VO.l (LO.fa (r := 1) F32_1 (.r rfl) rfl) rfl <| VO.l (LO.fa (r := 1) F25_0 (.r rfl) rfl) rfl <| VO.l (LO.ld O3 (.r rfl) (fun _ hw => cells_at hw 1 rfl ⟨_, rfl⟩)) rfl <| VO.l (LO.ne (.r rfl) (.r rfl)) rfl <| VO.l (LO.mv (.r rfl)) rfl <| VO.lg rfl rfl (GD.f _) (fun hg => LO.fa (r := 3) F32_2 (.r rfl) rfl) rfl <| VO.lg rfl rfl (GD.f _) (fun hg => LO.ixa (j := 0) (r := 3) Try.underlying30 N25 (.g hg rfl) (.r rfl) rfl (by decide) rfl) rfl <| VO.lg rfl rfl (GD.f _) (fun hg => LO.lda (vs := [_, _]) A25 (.g hg rfl) (fun _ hw => cells_at hw 1 rfl ⟨_, rfl⟩) rfl) rfl <| VO.lg rfl rfl (GD.f _) (fun hg => LO.lda (vs := [_, _]) A25 (.r rfl) (fun _ hw => cells_at hw 0 rfl ⟨_, rfl⟩) rfl) rfl <| VO.lg rfl rfl (GD.f _) (fun hg => LO.neA («as» := [_, _]) (bs := [_, _]) EA25 (.g hg rfl) (.g hg rfl) rfl rfl) rfl <| VO.l (LO.pkO (.r rfl) (.r rfl) rfl rfl) rfl <| VO.l (LO.mv (.r rfl)) rfl <| VO.lg rfl rfl (GD.f _) (fun hg => LO.fa (r := 3) F32_2 (.r rfl) rfl) rfl <| VO.lg rfl rfl (GD.f _) (fun hg => LO.ixa (j := 1) (r := 5) Try.underlying30 N25 (.g hg rfl) (.r rfl) rfl (by decide) rfl) rfl <| VO.lg rfl rfl (GD.f _) (fun hg => LO.lda (vs := [_, _]) A25 (.g hg rfl) (fun _ hw => cells_at hw 1 rfl ⟨_, rfl⟩) rfl) rfl <| VO.lg rfl rfl (GD.f _) (fun hg => LO.lda (vs := [_, _]) A25 (.r rfl) (fun _ hw => cells_at hw 0 rfl ⟨_, rfl⟩) rfl) rfl <| VO.lg rfl rfl (GD.f _) (fun hg => LO.neA («as» := [_, _]) (bs := [_, _]) EA25 (.g hg rfl) (.g hg rfl) rfl rfl) rfl <| VO.l (LO.pkO (.r rfl) (.r rfl) rfl rfl) rfl <| VO.l (LO.mv (.r rfl)) rfl <| VO.lg rfl rfl (GD.f _) (fun hg => LO.fa (r := 7) F32_3 (.r rfl) rfl) rfl <| VO.lg rfl rfl (GD.f _) (fun hg => LO.ld O3 (.g hg rfl) (fun _ hw => cells_at hw 1 rfl ⟨_, rfl⟩)) rfl <| VO.lg rfl rfl (GD.f _) (fun hg => LO.ne (.g hg rfl) (.r rfl)) rfl <| VO.l (LO.pkO (.r rfl) (.r rfl) rfl rfl) rfl <| VO.l (LO.mv (.r rfl)) rfl <| VO.lg rfl rfl (GD.f _) (fun hg => LO.fa (r := 8) F32_4 (.r rfl) rfl) rfl <| VO.lg rfl rfl (GD.f _) (fun hg => LO.lda (vs := [_, _]) A25 (.g hg rfl) (fun _ hw => cells_at hw 1 rfl ⟨_, rfl⟩) rfl) rfl <| VO.lg rfl rfl (GD.f _) (fun hg => LO.lda (vs := [_, _]) A25 (.r rfl) (fun _ hw => cells_at hw 0 rfl ⟨_, rfl⟩) rfl) rfl <| VO.lg rfl rfl (GD.f _) (fun hg => LO.neA («as» := [_, _]) (bs := [_, _]) EA25 (.g hg rfl) (.g hg rfl) rfl rfl) rfl <| VO.l (LO.pkO (.r rfl) (.r rfl) rfl rfl) rfl <| VO.l (LO.mv (.r rfl)) rfl <| VO.lg rfl rfl (GD.f _) (fun hg => LO.fa (r := 10) F32_5 (.r rfl) rfl) rfl <| VO.lg rfl rfl (GD.f _) (fun hg => LO.lda (vs := [_, _]) A25 (.g hg rfl) (fun _ hw => cells_at hw 1 rfl ⟨_, rfl⟩) rfl) rfl <| VO.lg rfl rfl (GD.f _) (fun hg => LO.lda (vs := [_, _]) A25 (.r rfl) (fun _ hw => cells_at hw 0 rfl ⟨_, rfl⟩) rfl) rfl <| VO.lg rfl rfl (GD.f _) (fun hg => LO.neA («as» := [_, _]) (bs := [_, _]) EA25 (.g hg rfl) (.g hg rfl) rfl rfl) rfl <| VO.l (LO.pkO (.r rfl) (.r rfl) rfl rfl) rfl <| VO.l (LO.mv (.r rfl)) rfl <| VO.lg rfl rfl (GD.f _) (fun hg => LO.fa (r := 12) F32_6 (.r rfl) rfl) rfl <| VO.lg rfl rfl (GD.f _) (fun hg => LO.lda (vs := [_, _]) A25 (.g hg rfl) (fun _ hw => cells_at hw 1 rfl ⟨_, rfl⟩) rfl) rfl <| VO.lg rfl rfl (GD.f _) (fun hg => LO.lda (vs := [_, _]) A25 (.r rfl) (fun _ hw => cells_at hw 0 rfl ⟨_, rfl⟩) rfl) rfl <| VO.lg rfl rfl (GD.f _) (fun hg => LO.neA («as» := [_, _]) (bs := [_, _]) EA25 (.g hg rfl) (.g hg rfl) rfl rfl) rfl <| VO.l (LO.pkO (.r rfl) (.r rfl) rfl rfl) rfl <| VO.nil ?_)
        refine VE.seqN ?_
        refine VC.cond rfl (fun h4 => ?_) (fun h4 => ?_)
        ·
          refine VC.seq ?_
          refine VC.reg (VO.l (LO.as (.r rfl)) rfl <| VO.nil ?_)
          refine VE.seqN ?_
          refine VC.ret (VE.thenR (VE.thenR (VE.res (vs := [_]) rfl ⟨rfl, trivial⟩ (fun w hw => ?_))))
          refine ⟨?_, hw.nil⟩
          simp only [resV]
          congr 2
          rw [echoE_flat]
          clear hw
          by_cases k1 : x.kind = 1 <;> by_cases k2 : x.kind = 2 <;> by_cases k3 : x.kind = 3 <;> (try omega) <;> (try simp_all [kndOk, echoF, turnS, and_assoc]) <;> first | assumption | omega | (intros; simp_all; done) | (intros; simp_all; omega)
        ·
          refine VC.skip (VE.seqN ?_)
          refine VC.seq ?_
          refine VC.reg (VO.l (LO.as (.r rfl)) rfl <| VO.nil ?_)
          refine VE.seqN ?_
          refine VC.ret (VE.thenR (VE.res (vs := [_]) rfl ⟨rfl, trivial⟩ (fun w hw => ?_)))
          refine ⟨?_, hw.nil⟩
          simp only [resV]
          congr 2
          rw [echoE_flat]
          clear hw
          by_cases k1 : x.kind = 1 <;> by_cases k2 : x.kind = 2 <;> by_cases k3 : x.kind = 3 <;> (try omega) <;> (try simp_all [kndOk, echoF, turnS, and_assoc]) <;> first | assumption | omega | (intros; simp_all; done) | (intros; simp_all; omega)
      ·
        refine VC.skip (VE.seqN ?_)
        refine VC.seq ?_
        refine VC.seq ?_
        refine VC.reg (VO.l (LO.fa (r := 1) F32_1 (.r rfl) rfl) rfl <| VO.l (LO.fa (r := 1) F25_0 (.r rfl) rfl) rfl <| VO.l (LO.ld O3 (.r rfl) (fun _ hw => cells_at hw 0 rfl ⟨_, rfl⟩)) rfl <| VO.l (LO.lt (.r rfl) (.r rfl)) rfl <| VO.l (LO.mv (.r rfl)) rfl <| VO.lg rfl rfl (GD.f _) (fun hg => LO.fa (r := 8) F32_4 (.r rfl) rfl) rfl <| VO.lg rfl rfl (GD.f _) (fun hg => LO.lda (vs := [_, _]) A25 (.g hg rfl) (fun _ hw => cells_at hw 0 rfl ⟨_, rfl⟩) rfl) rfl <| VO.lg rfl rfl (GD.f _) (fun hg => LO.call (xs := [_, _, _]) (vs := [_, _, _]) C62 ⟨(.g hg rfl), (.r rfl), (.r rfl), trivial⟩ (fun w _ => Valid_c _ _ _ _ w)) rfl <| VO.lg rfl rfl (GD.f _) (fun hg => LO.not (.g hg rfl)) rfl <| VO.l (LO.pkO (.r rfl) (.r rfl) rfl rfl) rfl <| VO.l (LO.mv (.r rfl)) rfl <| VO.lg rfl rfl (GD.f _) (fun hg => LO.fa (r := 10) F32_5 (.r rfl) rfl) rfl <| VO.lg rfl rfl (GD.f _) (fun hg => LO.lda (vs := [_, _]) A25 (.g hg rfl) (fun _ hw => cells_at hw 0 rfl ⟨_, rfl⟩) rfl) rfl <| VO.lg rfl rfl (GD.f _) (fun hg => LO.call (xs := [_, _, _]) (vs := [_, _, _]) C62 ⟨(.g hg rfl), (.r rfl), (.r rfl), trivial⟩ (fun w _ => Valid_c _ _ _ _ w)) rfl <| VO.lg rfl rfl (GD.f _) (fun hg => LO.not (.g hg rfl)) rfl <| VO.l (LO.pkO (.r rfl) (.r rfl) rfl rfl) rfl <| VO.l (LO.mv (.r rfl)) rfl <| VO.lg rfl rfl (GD.f _) (fun hg => LO.fa (r := 7) F32_3 (.r rfl) rfl) rfl <| VO.lg rfl rfl (GD.f _) (fun hg => LO.ld O3 (.g hg rfl) (fun _ hw => cells_at hw 0 rfl ⟨_, rfl⟩)) rfl <| VO.lg rfl rfl (GD.f _) (fun hg => LO.call (xs := [_, _, _]) (vs := [_, _, _]) C49 ⟨(.g hg rfl), (.r rfl), (.r rfl), trivial⟩ (fun w _ => In_c _ _ _ w)) rfl <| VO.lg rfl rfl (GD.f _) (fun hg => LO.not (.g hg rfl)) rfl <| VO.l (LO.pkO (.r rfl) (.r rfl) rfl rfl) rfl <| VO.nil ?_)
        refine VE.seqN ?_
        refine VC.cond rfl (fun h5 => ?_) (fun h5 => ?_)
        ·
          refine VC.seq ?_
          refine VC.reg (VO.l (LO.as (.r rfl)) rfl <| VO.nil ?_)
          refine VE.seqN ?_
          refine VC.ret (VE.thenR (VE.res (vs := [_]) rfl ⟨rfl, trivial⟩ (fun w hw => ?_)))
          refine ⟨?_, hw.nil⟩
          simp only [resV]
          congr 2
          rw [echoE_flat]
          clear hw
          by_cases k1 : x.kind = 1 <;> by_cases k2 : x.kind = 2 <;> by_cases k3 : x.kind = 3 <;> (try omega) <;> (try simp_all [kndOk, echoF, turnS, and_assoc]) <;> first | assumption | omega | (intros; simp_all; done) | (intros; simp_all; omega)
        ·
          refine VC.skip (VE.seqN ?_)
          refine VC.seq ?_
          refine VC.seq ?_
          refine VC.reg (VO.l (LO.fa (r := 0) F32_0 (.r rfl) rfl) rfl <| VO.l (LO.ld O3 (.r rfl) (fun _ hw => cells_at hw 0 rfl ⟨_, rfl⟩)) rfl <| VO.l (LO.eq (.r rfl) (.r rfl)) rfl <| VO.nil ?_)
          refine VE.seqN ?_
          refine VC.cond rfl (fun h6 => ?_) (fun h6 => ?_)
          ·
            refine VC.seq ?_
            refine VC.reg (VO.l (LO.bd (ps := []) (vs := []) (C := [_, _]) B25  trivial rfl rfl) rfl <| VO.h rfl <| HO.alloc (C := #[_, _]) Z25 rfl fun b4 => VO.h0 <| HO.st 0 (vs := [_, _]) (C' := [_, _]) (L' := [_, _]) N25 rfl rfl rfl rfl rfl rfl rfl rfl <| VO.nil ?_)
            refine VE.seqN ?_
            refine VC.seq ?_
            refine VC.seq ?_
            refine VC.reg (VO.l (LO.fa (r := 3) F32_2 (.r rfl) rfl) rfl <| VO.l (LO.ixa (j := 0) (r := 3) Try.underlying30 N25 (.r rfl) (.r rfl) rfl (by decide) rfl) rfl <| VO.l (LO.lda (vs := [_, _]) A25 (.r rfl) (fun _ hw => cells_at hw 1 rfl ⟨_, rfl⟩) rfl) rfl <| VO.l (LO.lda (vs := [_, _]) A25 (.r rfl) (fun _ hw => cells_at hw 0 rfl ⟨_, rfl⟩) rfl) rfl <| VO.l (LO.neA («as» := [_, _]) (bs := [_, _]) EA25 (.r rfl) (.r rfl) rfl rfl) rfl <| VO.l (LO.mv (.r rfl)) rfl <| VO.lg rfl rfl (GD.f _) (fun hg => LO.fa (r := 3) F32_2 (.r rfl) rfl) rfl <| VO.lg rfl rfl (GD.f _) (fun hg => LO.ixa (j := 1) (r := 5) Try.underlying30 N25 (.g hg rfl) (.r rfl) rfl (by decide) rfl) rfl <| VO.lg rfl rfl (GD.f _) (fun hg => LO.lda (vs := [_, _]) A25 (.g hg rfl) (fun _ hw => cells_at hw 1 rfl ⟨_, rfl⟩) rfl) rfl <| VO.lg rfl rfl (GD.f _) (fun hg => LO.lda (vs := [_, _]) A25 (.r rfl) (fun _ hw => cells_at hw 0 rfl ⟨_, rfl⟩) rfl) rfl <| VO.lg rfl rfl (GD.f _) (fun hg => LO.neA («as» := [_, _]) (bs := [_, _]) EA25 (.g hg rfl) (.g hg rfl) rfl rfl) rfl <| VO.l (LO.pkO (.r rfl) (.r rfl) rfl rfl) rfl <| VO.l (LO.mv (.r rfl)) rfl <| VO.lg rfl rfl (GD.f _) (fun hg => LO.fa (r := 12) F32_6 (.r rfl) rfl) rfl <| VO.lg rfl rfl (GD.f _) (fun hg => LO.lda (vs := [_, _]) A25 (.g hg rfl) (fun _ hw => cells_at hw 1 rfl ⟨_, rfl⟩) rfl) rfl <| VO.lg rfl rfl (GD.f _) (fun hg => LO.lda (vs := [_, _]) A25 (.r rfl) (fun _ hw => cells_at hw 0 rfl ⟨_, rfl⟩) rfl) rfl <| VO.lg rfl rfl (GD.f _) (fun hg => LO.neA («as» := [_, _]) (bs := [_, _]) EA25 (.g hg rfl) (.g hg rfl) rfl rfl) rfl <| VO.l (LO.pkO (.r rfl) (.r rfl) rfl rfl) rfl <| VO.nil ?_)
            refine VE.seqN ?_
            refine VC.cond rfl (fun h7 => ?_) (fun h7 => ?_)
            ·
              refine VC.seq ?_
              refine VC.reg (VO.l (LO.as (.r rfl)) rfl <| VO.nil ?_)
              refine VE.seqN ?_
              refine VC.ret (VE.thenR (VE.thenR (VE.res (vs := [_]) rfl ⟨rfl, trivial⟩ (fun w hw => ?_))))
              refine ⟨?_, hw.nil⟩
              simp only [resV]
              congr 2
              rw [echoE_flat]
              clear hw
              by_cases k1 : x.kind = 1 <;> by_cases k2 : x.kind = 2 <;> by_cases k3 : x.kind = 3 <;> (try omega) <;> (try simp_all [kndOk, echoF, turnS, and_assoc]) <;> first | assumption | omega | (intros; simp_all; done) | (intros; simp_all; omega)
            ·
              refine VC.skip (VE.seqN ?_)
              refine VC.seq ?_
              refine VC.reg (VO.l (LO.as (.r rfl)) rfl <| VO.nil ?_)
              refine VE.seqN ?_
              refine VC.ret (VE.thenR (VE.res (vs := [_]) rfl ⟨rfl, trivial⟩ (fun w hw => ?_)))
              refine ⟨?_, hw.nil⟩
              simp only [resV]
              congr 2
              rw [echoE_flat]
              clear hw
              by_cases k1 : x.kind = 1 <;> by_cases k2 : x.kind = 2 <;> by_cases k3 : x.kind = 3 <;> (try omega) <;> (try simp_all [kndOk, echoF, turnS, and_assoc]) <;> first | assumption | omega | (intros; simp_all; done) | (intros; simp_all; omega)
          ·
            refine VC.skip (VE.seqN ?_)
            refine VC.seq ?_
            refine VC.seq ?_
            refine VC.reg (VO.l (LO.fa (r := 3) F32_2 (.r rfl) rfl) rfl <| VO.l (LO.ixa (j := 0) (r := 3) Try.underlying30 N25 (.r rfl) (.r rfl) rfl (by decide) rfl) rfl <| VO.l (LO.lda (vs := [_, _]) A25 (.r rfl) (fun _ hw => cells_at hw 0 rfl ⟨_, rfl⟩) rfl) rfl <| VO.l (LO.call (xs := [_]) (vs := [_]) C64 ⟨(.r rfl), trivial⟩ (fun w _ => turns_c _ _ w)) rfl <| VO.l (LO.not (.r rfl)) rfl <| VO.l (LO.mv (.r rfl)) rfl <| VO.lg rfl rfl (GD.f _) (fun hg => LO.fa (r := 3) F32_2 (.r rfl) rfl) rfl <| VO.lg rfl rfl (GD.f _) (fun hg => LO.ixa (j := 1) (r := 5) Try.underlying30 N25 (.g hg rfl) (.r rfl) rfl (by decide) rfl) rfl <| VO.lg rfl rfl (GD.f _) (fun hg => LO.lda (vs := [_, _]) A25 (.g hg rfl) (fun _ hw => cells_at hw 0 rfl ⟨_, rfl⟩) rfl) rfl <| VO.lg rfl rfl (GD.f _) (fun hg => LO.call (xs := [_]) (vs := [_]) C64 ⟨(.g hg rfl), trivial⟩ (fun w _ => turns_c _ _ w)) rfl <| VO.lg rfl rfl (GD.f _) (fun hg => LO.not (.g hg rfl)) rfl <| VO.l (LO.pkO (.r rfl) (.r rfl) rfl rfl) rfl <| VO.l (LO.mv (.r rfl)) rfl <| VO.lg rfl rfl (GD.f _) (fun hg => LO.fa (r := 12) F32_6 (.r rfl) rfl) rfl <| VO.lg rfl rfl (GD.f _) (fun hg => LO.lda (vs := [_, _]) A25 (.g hg rfl) (fun _ hw => cells_at hw 0 rfl ⟨_, rfl⟩) rfl) rfl <| VO.lg rfl rfl (GD.f _) (fun hg => LO.call (xs := [_]) (vs := [_]) C64 ⟨(.g hg rfl), trivial⟩ (fun w _ => turns_c _ _ w)) rfl <| VO.lg rfl rfl (GD.f _) (fun hg => LO.not (.g hg rfl)) rfl <| VO.l (LO.pkO (.r rfl) (.r rfl) rfl rfl) rfl <| VO.nil ?_)
            refine VE.seqN ?_
            refine VC.cond rfl (fun h8 => ?_) (fun h8 => ?_)
            ·
              refine VC.seq ?_
              refine VC.reg (VO.l (LO.as (.r rfl)) rfl <| VO.nil ?_)
              refine VE.seqN ?_
              refine VC.ret (VE.thenR (VE.res (vs := [_]) rfl ⟨rfl, trivial⟩ (fun w hw => ?_)))
              refine ⟨?_, hw.nil⟩
              simp only [resV]
              congr 2
              rw [echoE_flat]
              clear hw
              by_cases k1 : x.kind = 1 <;> by_cases k2 : x.kind = 2 <;> by_cases k3 : x.kind = 3 <;> (try omega) <;> (try simp_all [kndOk, echoF, turnS, and_assoc]) <;> first | assumption | omega | (intros; simp_all; done) | (intros; simp_all; omega)
            ·
              refine VC.skip (VE.seqN ?_)
              refine VC.seq ?_
              refine VC.reg (VO.l (LO.as (.r rfl)) rfl <| VO.nil ?_)
              refine VE.seqN ?_
              refine VC.ret (VE.res (vs := [_]) rfl ⟨rfl, trivial⟩ (fun w hw => ?_))
              refine ⟨?_, hw.nil⟩
              simp only [resV]
              congr 2
              rw [echoE_flat]
              clear hw
              by_cases k1 : x.kind = 1 <;> by_cases k2 : x.kind = 2 <;> by_cases k3 : x.kind = 3 <;> (try omega) <;> (try simp_all [kndOk, echoF, turnS, and_assoc]) <;> first | assumption | omega | (intros; simp_all; done) | (intros; simp_all; omega)

end Go.Proofs.Ytcnlhifkablmkaa
