/-
  Speeds, folds and reaches.
-/
import Derived.Test.YtcnlhifkablmkaaWC
namespace Go.Proofs.Ytcnlhifkablmkaa
open Go.SL Go.Proofs Go.Pulse
set_option linter.unusedVariables false

theorem B78 : BuildsA Try.prog 78 [(0, 1), (1, 1)] [.int .i64 0, .int .i64 0] := BuildsA.mk (z := 1) (n := 2) (fun _ => by kernel_rfl) rfl
theorem Z78 : ZeroOf Try.prog 78 (.agg #[.int .i64 0, .int .i64 0]) := by unfold ZeroOf; kernel_rfl
theorem N78 : (Try.prog.info? 78).map (·.size) = some 2 := by kernel_rfl
theorem C66 : IsFn Try.prog 66 := ⟨_, Try.func66, by decide, rfl⟩
theorem C70 : IsFn Try.prog 70 := ⟨_, Try.func70, by decide, rfl⟩
theorem C67 : IsFn Try.prog 67 := ⟨_, Try.func67, by decide, rfl⟩
theorem C52 : IsFn Try.prog 52 := ⟨_, Try.func52, by decide, rfl⟩


def timeE (t : Train) (wh : Int) : Int := if trainE t ≠ 0 then trainE t else if wh = 0 then 0 else if wh = 1 ∧ t.kind ≠ 1 then 0 else 2
def timeV (t : Train) (wh : Int) : Int := if timeE t wh = 0 then (if wh = 0 then t.first else t.second) else 0
def foldN (t : Train) (wh : Int) : Int := if timeE t wh = 0 then 500 * t.lam else 0
def spdE (t : Train) (wh : Int) (s : Span) (wl : Int) : Int := if timeE t wh ≠ 0 then timeE t wh else if ¬ (inS s (-131072) 131072 ∧ -64 ≤ wl ∧ wl ≤ 64) then 3 else 0
def spdV (t : Train) (wh : Int) (s : Span) (wl : Int) : Span := if spdE t wh s wl = 0 then ⟨500 * t.lam * (s.lo + wl * 65536) / (65536 * timeV t wh), up (500 * t.lam * (s.hi + wl * 65536)) (65536 * timeV t wh)⟩ else zs
section
variable {t : Train} {wh : Int} {s : Span} {wl : Int}
theorem tmX {n : Int} (h : timeE t wh = n) (hn : n ≠ 0) : Ending.returned (.tuple #[.int .i64 0, .int .i64 n]) = .returned (.tuple #[.int .i64 (timeV t wh), .int .i64 (timeE t wh)]) := by
  have e : timeV t wh = 0 := if_neg (by rw [h]; exact hn)
  rw [e, h]
theorem tm1 (h : ¬ trainE t = 0) : Ending.returned (.tuple #[.int .i64 0, .int .i64 (trainE t)]) = .returned (.tuple #[.int .i64 (timeV t wh), .int .i64 (timeE t wh)]) := tmX (if_pos h) h
theorem tm2 (h : ¬ ¬ trainE t = 0) (k : ¬ wh = 0 ∧ ¬ (wh = 1 ∧ t.kind ≠ 1)) : Ending.returned (.tuple #[.int .i64 0, .int .i64 2]) = .returned (.tuple #[.int .i64 (timeV t wh), .int .i64 (timeE t wh)]) := tmX (by unfold timeE; rw [if_neg h, if_neg k.1, if_neg k.2]) (by decide)
theorem tm3 (h : ¬ ¬ trainE t = 0) (k : wh = 0) : Ending.returned (.tuple #[.int .i64 t.first, .int .i64 0]) = .returned (.tuple #[.int .i64 (timeV t wh), .int .i64 (timeE t wh)]) := by
  have e : timeE t wh = 0 := by unfold timeE; rw [if_neg h, if_pos k]
  have v : timeV t wh = t.first := by unfold timeV; rw [if_pos e, if_pos k]
  rw [e, v]
theorem tm4 (h : ¬ ¬ trainE t = 0) (k : wh = 1) (q : t.kind ≠ 1) : Ending.returned (.tuple #[.int .i64 t.second, .int .i64 0]) = .returned (.tuple #[.int .i64 (timeV t wh), .int .i64 (timeE t wh)]) := by
  have e : timeE t wh = 0 := by unfold timeE; rw [if_neg h, if_neg (by omega), if_pos ⟨k, q⟩]
  have v : timeV t wh = t.second := by unfold timeV; rw [if_pos e, if_neg (by omega)]
  rw [e, v]
theorem timeE_ok (h : ¬ ¬ timeE t wh = 0) : trainOk t ∧ 200 ≤ timeV t wh ∧ timeV t wh ≤ 5000 := by
  have h := Classical.not_not.1 h
  have ht : ¬ ¬ trainE t = 0 := fun q => by unfold timeE at h; rw [if_pos q] at h; exact q h
  have hk := train_of ht
  have ho := hk.2
  have hk1 := hk.1
  unfold trainOk at ho
  unfold kndOk at hk1
  refine ⟨hk.2, ?_⟩
  have e := h
  unfold timeE at h
  rw [if_neg ht] at h
  unfold timeV
  rw [if_pos e]
  by_cases q : wh = 0
  · rw [if_pos q]; omega
  · rw [if_neg q] at h ⊢
    by_cases r : wh = 1 ∧ t.kind ≠ 1
    · omega
    · rw [if_neg r] at h; exact absurd h (by decide)
theorem timeV_bd (t : Train) (wh : Int) : 0 ≤ timeV t wh ∧ timeV t wh ≤ 5000 := by
  by_cases h : timeE t wh = 0
  · have := timeE_ok (fun q => q h); omega
  · rw [show timeV t wh = 0 from if_neg h]; decide
theorem fd1 (h : ¬ timeE t wh = 0) : Ending.returned (.tuple #[.int .i64 0, .int .i64 0, .int .i64 (timeE t wh)]) = .returned (.tuple #[.int .i64 (foldN t wh), .int .i64 (timeV t wh), .int .i64 (timeE t wh)]) := by
  rw [show timeV t wh = 0 from if_neg h, show foldN t wh = 0 from if_neg h]
theorem fd2 (h : ¬ ¬ timeE t wh = 0) : Ending.returned (.tuple #[.int .i64 (500 * t.lam), .int .i64 (timeV t wh), .int .i64 0]) = .returned (.tuple #[.int .i64 (foldN t wh), .int .i64 (timeV t wh), .int .i64 (timeE t wh)]) := by
  have h := Classical.not_not.1 h
  rw [show foldN t wh = 500 * t.lam from if_pos h, h]
def spdOk (lam wl us q : Int) : Prop := (0 ≤ lam ∧ lam ≤ 1000000) ∧ (-64 ≤ wl ∧ wl ≤ 64) ∧ (200 ≤ us ∧ us ≤ 5000) ∧ (-131072 ≤ q ∧ q ≤ 131072) ∧ -9000000000000000 ≤ 500 * lam * (q + wl * 65536) ∧ 500 * lam * (q + wl * 65536) ≤ 9000000000000000
theorem spdOk_of {us q : Int} (ht : trainOk t) (hu1 : 200 ≤ us) (hu2 : us ≤ 5000) (h1 : -64 ≤ wl) (h2 : wl ≤ 64) (h3 : -131072 ≤ q) (h4 : q ≤ 131072) : spdOk t.lam wl us q := by
  unfold trainOk at ht
  have a := prod_bd (x := 500 * t.lam) (y := q + wl * 65536 + 5000000) (A := 500000000) (B := 10000000) (by omega) (by omega) (by omega) (by omega)
  rw [Int.mul_add (500 * t.lam) (q + wl * 65536)] at a
  exact ⟨by omega, by omega, by omega, by omega, by omega, by omega⟩
theorem spX {n : Int} (h : spdE t wh s wl = n) (hn : n ≠ 0) : Ending.returned (.tuple #[.agg #[.int .i64 0, .int .i64 0], .int .i64 n]) = .returned (.tuple #[spanV (spdV t wh s wl), .int .i64 (spdE t wh s wl)]) := by
  have e : spdV t wh s wl = zs := if_neg (by rw [h]; exact hn)
  rw [e, h]; rfl
theorem sp1 (h : ¬ timeE t wh = 0) : Ending.returned (.tuple #[.agg #[.int .i64 0, .int .i64 0], .int .i64 (timeE t wh)]) = .returned (.tuple #[spanV (spdV t wh s wl), .int .i64 (spdE t wh s wl)]) := spX (if_pos h) h
theorem sp2 (h : ¬ ¬ timeE t wh = 0) (k : ¬ (inS s (-131072) 131072 ∧ -64 ≤ wl ∧ wl ≤ 64)) : Ending.returned (.tuple #[.agg #[.int .i64 0, .int .i64 0], .int .i64 3]) = .returned (.tuple #[spanV (spdV t wh s wl), .int .i64 (spdE t wh s wl)]) := spX (by unfold spdE; rw [if_neg h, if_pos k]) (by decide)
theorem sp3 (h : ¬ ¬ timeE t wh = 0) (k : inS s (-131072) 131072 ∧ -64 ≤ wl ∧ wl ≤ 64) : Ending.returned (.tuple #[.agg #[.int .i64 (500 * t.lam * (s.lo + wl * 65536) / (65536 * timeV t wh)), .int .i64 (up (500 * t.lam * (s.hi + wl * 65536)) (65536 * timeV t wh))], .int .i64 0]) = .returned (.tuple #[spanV (spdV t wh s wl), .int .i64 (spdE t wh s wl)]) := by
  have e : spdE t wh s wl = 0 := by unfold spdE; rw [if_neg h, if_neg (fun q => q k)]
  have v : spdV t wh s wl = ⟨500 * t.lam * (s.lo + wl * 65536) / (65536 * timeV t wh), up (500 * t.lam * (s.hi + wl * 65536)) (65536 * timeV t wh)⟩ := if_pos e
  rw [e, v]
end

set_option maxRecDepth 20000 in
theorem time_c (t : Train) (wh : Int) (w : World) :
  Calls Try.prog 66 #[trainV t, .int .i64 wh] w fun e w' => e = .returned (.tuple #[.int .i64 (timeV t wh), .int .i64 (timeE t wh)]) ∧ St (bs w) [] w' := by
  refine enter (vs := [_, _]) (env := [(0, _), (1, _)]) Try.func66 rfl rfl rfl rfl ?_
  refine VC.seq ?_
  refine VC.reg (VO.h rfl <| HO.box (C := #[_, _, _, _, _]) rfl rfl fun b1 => VO.l (LO.as (.r rfl)) rfl <| VO.l (LO.as (.r rfl)) rfl <| VO.nil ?_)
  refine VE.seqN ?_
  refine VC.seq ?_
  refine VC.seq ?_
  refine VC.reg (VO.l (LO.lda (vs := [_, _, _, _, _]) A23 (.r rfl) (fun _ hw => cells_at hw 0 rfl ⟨_, rfl⟩) rfl) rfl <| VO.l (LO.call (xs := [_]) (vs := [_]) C25 ⟨(.r rfl), trivial⟩ (fun w _ => trainP_c t w)) rfl <| VO.l (LO.as (.r rfl)) rfl <| VO.nil ?_)
  refine VE.seqN ?_
  refine VC.seq ?_
  refine VC.reg (VO.l (LO.mv (.r rfl)) rfl <| VO.l (LO.ne (.r rfl) (.r rfl)) rfl <| VO.nil ?_)
  refine VE.seqN ?_
  refine VC.cond rfl (fun h11 => ?_) (fun h11 => ?_)
  ·
    refine VC.seq ?_
    refine VC.reg (VO.l (LO.mv (.r rfl)) rfl <| VO.l (LO.as (.r rfl)) rfl <| VO.l (LO.as (.r rfl)) rfl <| VO.nil ?_)
    refine VE.seqN ?_
    refine VC.ret (VE.thenR (VE.res (vs := [_, _]) rfl ⟨rfl, rfl, trivial⟩ (fun w hw => ?_)))
    refine ⟨?_, hw.nil⟩
    simp only [resV]
    first | exact tm1 h11 | exact tm2 h11 (by omega) | exact tm3 h11 rfl | exact tm4 h11 rfl (by omega)
  ·
    have hk := (train_of h11).1
    have ht := (train_of h11).2
    unfold trainOk at ht
    refine VC.skip (VE.seqN ?_)
    refine VC.seq ?_
    refine VC.reg (VO.l (LO.fa (r := 2) F23_2 (.r rfl) rfl) rfl <| VO.l (LO.ld O3 (.r rfl) (fun _ hw => cells_at hw 0 rfl ⟨_, rfl⟩)) rfl <| VO.l (LO.fa (r := 3) F23_3 (.r rfl) rfl) rfl <| VO.l (LO.ld O3 (.r rfl) (fun _ hw => cells_at hw 0 rfl ⟨_, rfl⟩)) rfl <| VO.l (LO.bda (ps := [(_, _), (_, _)]) (vs := [(_, _), (_, _)]) (C := [_, _]) B78 rfl ⟨(.r rfl), (.r rfl), trivial⟩ rfl ⟨_, [_], [_, _], rfl, rfl, rfl, rfl, ⟨_, [_], [_, _], rfl, rfl, rfl, rfl, rfl⟩⟩) rfl <| VO.h rfl <| HO.alloc (C := #[_, _]) Z78 rfl fun b2 => VO.h0 <| HO.st 0 (vs := [_, _]) (C' := [_, _]) (L' := [_, _]) N78 rfl rfl rfl rfl rfl rfl rfl rfl <| VO.nil ?_)
    refine VE.seqN ?_
    refine VC.seq ?_
    refine VC.seq ?_
    rcases (show wh = 0 ∨ wh = 1 ∨ (wh ≠ 0 ∧ wh ≠ 1) by omega) with rfl | rfl | hw01
    ·
      refine VC.reg (VO.l (LO.mv (.r rfl)) rfl <| VO.l (LO.call (xs := [_, _, _]) (vs := [_, _, _]) C45 ⟨(.r rfl), (.r rfl), (.r rfl), trivial⟩ (fun w _ => within_c _ _ _ w)) rfl <| VO.l (LO.not (.r rfl)) rfl <| VO.l (LO.mv (.r rfl)) rfl <| VO.lg rfl rfl (GD.f _) (fun hg => LO.mv (.r rfl)) rfl <| VO.lg rfl rfl (GD.f _) (fun hg => LO.ixa (j := 0) (r := 0) Try.underlying78 N3 (.r rfl) (.g hg rfl) rfl (by decide) rfl) rfl <| VO.lg rfl rfl (GD.f _) (fun hg => LO.ld O3 (.g hg rfl) (fun _ hw => cells_at hw 0 rfl ⟨_, rfl⟩)) rfl <| VO.lg rfl rfl (GD.f _) (fun hg => LO.eq (.g hg rfl) (.r rfl)) rfl <| VO.l (LO.pkO (.r rfl) (.r rfl) rfl rfl) rfl <| VO.nil ?_)
      refine VE.seqN ?_
      refine VC.cond rfl (fun h26 => ?_) (fun h26 => ?_)
      ·
        refine VC.seq ?_
        refine VC.reg (VO.l (LO.as (.r rfl)) rfl <| VO.l (LO.as (.r rfl)) rfl <| VO.nil ?_)
        refine VE.seqN ?_
        refine VC.ret (VE.thenR (VE.res (vs := [_, _]) rfl ⟨rfl, rfl, trivial⟩ (fun w hw => ?_)))
        refine ⟨?_, hw.nil⟩
        simp only [resV]
        first | exact tm1 h11 | exact tm2 h11 (by omega) | exact tm3 h11 rfl | exact tm4 h11 rfl (by omega)
      ·
        refine VC.skip (VE.seqN ?_)
        refine VC.seq ?_
        refine VC.reg (VO.l (LO.mv (.r rfl)) rfl <| VO.l (LO.ixa (j := 0) (r := 0) Try.underlying78 N3 (.r rfl) (.r rfl) rfl (by decide) rfl) rfl <| VO.l (LO.ld O3 (.r rfl) (fun _ hw => cells_at hw 0 rfl ⟨_, rfl⟩)) rfl <| VO.l (LO.as (.r rfl)) rfl <| VO.l (LO.as (.r rfl)) rfl <| VO.nil ?_)
        refine VE.seqN ?_
        refine VC.ret (VE.res (vs := [_, _]) rfl ⟨rfl, rfl, trivial⟩ (fun w hw => ?_))
        refine ⟨?_, hw.nil⟩
        simp only [resV]
        first | exact tm1 h11 | exact tm2 h11 (by omega) | exact tm3 h11 rfl | exact tm4 h11 rfl (by omega)
    ·
      refine VC.reg (VO.l (LO.mv (.r rfl)) rfl <| VO.l (LO.call (xs := [_, _, _]) (vs := [_, _, _]) C45 ⟨(.r rfl), (.r rfl), (.r rfl), trivial⟩ (fun w _ => within_c _ _ _ w)) rfl <| VO.l (LO.not (.r rfl)) rfl <| VO.l (LO.mv (.r rfl)) rfl <| VO.lg rfl rfl (GD.f _) (fun hg => LO.mv (.r rfl)) rfl <| VO.lg rfl rfl (GD.f _) (fun hg => LO.ixa (j := 1) (r := 1) Try.underlying78 N3 (.r rfl) (.g hg rfl) rfl (by decide) rfl) rfl <| VO.lg rfl rfl (GD.f _) (fun hg => LO.ld O3 (.g hg rfl) (fun _ hw => cells_at hw 0 rfl ⟨_, rfl⟩)) rfl <| VO.lg rfl rfl (GD.f _) (fun hg => LO.eq (.g hg rfl) (.r rfl)) rfl <| VO.l (LO.pkO (.r rfl) (.r rfl) rfl rfl) rfl <| VO.nil ?_)
      refine VE.seqN ?_
      refine VC.cond rfl (fun h26 => ?_) (fun h26 => ?_)
      ·
        refine VC.seq ?_
        refine VC.reg (VO.l (LO.as (.r rfl)) rfl <| VO.l (LO.as (.r rfl)) rfl <| VO.nil ?_)
        refine VE.seqN ?_
        refine VC.ret (VE.thenR (VE.res (vs := [_, _]) rfl ⟨rfl, rfl, trivial⟩ (fun w hw => ?_)))
        refine ⟨?_, hw.nil⟩
        simp only [resV]
        first | exact tm1 h11 | exact tm2 h11 (by omega) | exact tm3 h11 rfl | exact tm4 h11 rfl (by omega)
      ·
        refine VC.skip (VE.seqN ?_)
        refine VC.seq ?_
        refine VC.reg (VO.l (LO.mv (.r rfl)) rfl <| VO.l (LO.ixa (j := 1) (r := 1) Try.underlying78 N3 (.r rfl) (.r rfl) rfl (by decide) rfl) rfl <| VO.l (LO.ld O3 (.r rfl) (fun _ hw => cells_at hw 0 rfl ⟨_, rfl⟩)) rfl <| VO.l (LO.as (.r rfl)) rfl <| VO.l (LO.as (.r rfl)) rfl <| VO.nil ?_)
        refine VE.seqN ?_
        refine VC.ret (VE.res (vs := [_, _]) rfl ⟨rfl, rfl, trivial⟩ (fun w hw => ?_))
        refine ⟨?_, hw.nil⟩
        simp only [resV]
        first | exact tm1 h11 | exact tm2 h11 (by omega) | exact tm3 h11 rfl | exact tm4 h11 rfl (by omega)
    ·
      refine VC.reg (VO.l (LO.mv (.r rfl)) rfl <| VO.l (LO.call (xs := [_, _, _]) (vs := [_, _, _]) C45 ⟨(.r rfl), (.r rfl), (.r rfl), trivial⟩ (fun w _ => within_c _ _ _ w)) rfl <| VO.l (LO.not (.r rfl)) rfl <| VO.l (LO.mv (.r rfl)) rfl <| VO.lg rfl rfl (GD.f _) (fun hg => LO.mv (.r rfl)) rfl <| VO.lg rfl rfl (GD.f _) (fun hg => LO.ixa (j := 0) (r := 0) Try.underlying78 N3 (.r rfl) (.g hg rfl) (by have q := IsP.yes inferInstance hg; omega) (by decide) rfl) rfl <| VO.lg rfl rfl (GD.f _) (fun hg => LO.ld O3 (.g hg rfl) (fun _ hw => cells_at hw 0 rfl ⟨_, rfl⟩)) rfl <| VO.lg rfl rfl (GD.f _) (fun hg => LO.eq (.g hg rfl) (.r rfl)) rfl <| VO.l (LO.pkO (.r rfl) (.r rfl) rfl rfl) rfl <| VO.nil ?_)
      refine VE.seqN ?_
      refine VC.cond rfl (fun h26 => ?_) (fun h26 => ?_)
      ·
        refine VC.seq ?_
        refine VC.reg (VO.l (LO.as (.r rfl)) rfl <| VO.l (LO.as (.r rfl)) rfl <| VO.nil ?_)
        refine VE.seqN ?_
        refine VC.ret (VE.thenR (VE.res (vs := [_, _]) rfl ⟨rfl, rfl, trivial⟩ (fun w hw => ?_)))
        refine ⟨?_, hw.nil⟩
        simp only [resV]
        first | exact tm1 h11 | exact tm2 h11 (by omega) | exact tm3 h11 rfl | exact tm4 h11 rfl (by omega)
      ·
        (exfalso; omega)

set_option maxRecDepth 20000 in
theorem rTime_c (t : Train) (wh : Int) (w : World) :
  Calls Try.prog 70 #[trainV t, .int .i64 wh] w fun e w' => e = .returned (.tuple #[.int .i64 (timeV t wh), .int .i64 (timeE t wh)]) ∧ St (bs w) [] w' := by
  refine enter (vs := [_, _]) (env := [(0, _), (1, _)]) Try.func70 rfl rfl rfl rfl ?_
  refine VC.seq ?_
  refine VC.reg (VO.h rfl <| HO.box (C := #[_, _, _, _, _]) rfl rfl fun b1 => VO.l (LO.as (.r rfl)) rfl <| VO.l (LO.as (.r rfl)) rfl <| VO.nil ?_)
  refine VE.seqN ?_
  refine VC.seq ?_
  refine VC.reg (VO.l (LO.lda (vs := [_, _, _, _, _]) A37 (.r rfl) (fun _ hw => cells_at hw 0 rfl ⟨_, rfl⟩) rfl) rfl <| VO.l (LO.call (xs := [_]) (vs := [_]) C26 ⟨(.r rfl), trivial⟩ (fun w _ => trainR_c t w)) rfl <| VO.l (LO.as (.r rfl)) rfl <| VO.nil ?_)
  refine VE.seqN ?_
  refine VC.seq ?_
  refine VC.seq ?_
  refine VC.reg (VO.l (LO.mv (.r rfl)) rfl <| VO.l (LO.ne (.r rfl) (.r rfl)) rfl <| VO.nil ?_)
  refine VE.seqN ?_
  refine VC.cond rfl (fun h11 => ?_) (fun h11 => ?_)
  ·
    refine VC.seq ?_
    refine VC.reg (VO.l (LO.mv (.r rfl)) rfl <| VO.l (LO.as (.r rfl)) rfl <| VO.l (LO.as (.r rfl)) rfl <| VO.nil ?_)
    refine VE.seqN ?_
    refine VC.ret (VE.thenR (VE.res (vs := [_, _]) rfl ⟨rfl, rfl, trivial⟩ (fun w hw => ?_)))
    refine ⟨?_, hw.nil⟩
    simp only [resV]
    first | exact tm1 h11 | exact tm3 h11 h13 | exact tm2 h11 (by omega) | exact tm4 h11 (by omega) (by omega)
  ·
    have hk := (train_of h11).1
    have ht := (train_of h11).2
    unfold trainOk at ht
    refine VC.skip (VE.seqN ?_)
    refine VC.seq ?_
    refine VC.seq ?_
    refine VC.reg (VO.l (LO.mv (.r rfl)) rfl <| VO.l (LO.eq (.r rfl) (.r rfl)) rfl <| VO.nil ?_)
    refine VE.seqN ?_
    refine VC.cond rfl (fun h13 => ?_) (fun h13 => ?_)
    ·
      refine VC.seq ?_
      refine VC.reg (VO.l (LO.fa (r := 2) F37_2 (.r rfl) rfl) rfl <| VO.l (LO.ld O3 (.r rfl) (fun _ hw => cells_at hw 0 rfl ⟨_, rfl⟩)) rfl <| VO.l (LO.as (.r rfl)) rfl <| VO.l (LO.as (.r rfl)) rfl <| VO.nil ?_)
      refine VE.seqN ?_
      refine VC.ret (VE.thenR (VE.res (vs := [_, _]) rfl ⟨rfl, rfl, trivial⟩ (fun w hw => ?_)))
      refine ⟨?_, hw.nil⟩
      simp only [resV]
      first | exact tm1 h11 | exact tm3 h11 h13 | exact tm2 h11 (by omega) | exact tm4 h11 (by omega) (by omega)
    ·
      refine VC.skip (VE.seqN ?_)
      refine VC.seq ?_
      refine VC.seq ?_
      refine VC.reg (VO.l (LO.mv (.r rfl)) rfl <| VO.l (LO.ne (.r rfl) (.r rfl)) rfl <| VO.l (LO.mv (.r rfl)) rfl <| VO.lg rfl rfl (GD.f _) (fun hg => LO.fa (r := 1) F37_1 (.r rfl) rfl) rfl <| VO.lg rfl rfl (GD.f _) (fun hg => LO.ld O3 (.g hg rfl) (fun _ hw => cells_at hw 0 rfl ⟨_, rfl⟩)) rfl <| VO.lg rfl rfl (GD.f _) (fun hg => LO.eq (.g hg rfl) (.r rfl)) rfl <| VO.l (LO.pkO (.r rfl) (.r rfl) rfl rfl) rfl <| VO.nil ?_)
      refine VE.seqN ?_
      refine VC.cond rfl (fun h22 => ?_) (fun h22 => ?_)
      ·
        refine VC.seq ?_
        refine VC.reg (VO.l (LO.as (.r rfl)) rfl <| VO.l (LO.as (.r rfl)) rfl <| VO.nil ?_)
        refine VE.seqN ?_
        refine VC.ret (VE.thenR (VE.res (vs := [_, _]) rfl ⟨rfl, rfl, trivial⟩ (fun w hw => ?_)))
        refine ⟨?_, hw.nil⟩
        simp only [resV]
        first | exact tm1 h11 | exact tm3 h11 h13 | exact tm2 h11 (by omega) | exact tm4 h11 (by omega) (by omega)
      ·
        refine VC.skip (VE.seqN ?_)
        refine VC.seq ?_
        refine VC.reg (VO.l (LO.fa (r := 3) F37_3 (.r rfl) rfl) rfl <| VO.l (LO.ld O3 (.r rfl) (fun _ hw => cells_at hw 0 rfl ⟨_, rfl⟩)) rfl <| VO.l (LO.as (.r rfl)) rfl <| VO.l (LO.as (.r rfl)) rfl <| VO.nil ?_)
        refine VE.seqN ?_
        refine VC.ret (VE.res (vs := [_, _]) rfl ⟨rfl, rfl, trivial⟩ (fun w hw => ?_))
        refine ⟨?_, hw.nil⟩
        simp only [resV]
        first | exact tm1 h11 | exact tm3 h11 h13 | exact tm2 h11 (by omega) | exact tm4 h11 (by omega) (by omega)

set_option maxRecDepth 20000 in
theorem Fold_c (t : Train) (wh : Int) (w : World) :
  Calls Try.prog 37 #[trainV t, .int .i64 wh] w fun e w' => e = .returned (.tuple #[.int .i64 (foldN t wh), .int .i64 (timeV t wh), .int .i64 (timeE t wh)]) ∧ St (bs w) [] w' := by
  refine enter (vs := [_, _]) (env := [(0, _), (1, _)]) Try.func37 rfl rfl rfl rfl ?_
  refine VC.seq ?_
  refine VC.reg (VO.h rfl <| HO.box (C := #[_, _, _, _, _]) rfl rfl fun b1 => VO.l (LO.as (.r rfl)) rfl <| VO.l (LO.as (.r rfl)) rfl <| VO.l (LO.as (.r rfl)) rfl <| VO.nil ?_)
  refine VE.seqN ?_
  refine VC.seq ?_
  refine VC.reg (VO.l (LO.lda (vs := [_, _, _, _, _]) A23 (.r rfl) (fun _ hw => cells_at hw 0 rfl ⟨_, rfl⟩) rfl) rfl <| VO.l (LO.mv (.r rfl)) rfl <| VO.l (LO.call (xs := [_, _]) (vs := [_, _]) C66 ⟨(.r rfl), (.r rfl), trivial⟩ (fun w _ => time_c t wh w)) rfl <| VO.l (LO.mv (.r rfl)) rfl <| VO.l (LO.ex (.r rfl) rfl) rfl <| VO.l (LO.ex (.r rfl) rfl) rfl <| VO.l (LO.as (.r rfl)) rfl <| VO.l (LO.as (.r rfl)) rfl <| VO.nil ?_)
  refine VE.seqN ?_
  refine VC.seq ?_
  refine VC.seq ?_
  refine VC.reg (VO.l (LO.mv (.r rfl)) rfl <| VO.l (LO.ne (.r rfl) (.r rfl)) rfl <| VO.nil ?_)
  refine VE.seqN ?_
  refine VC.cond rfl (fun h1 => ?_) (fun h1 => ?_)
  ·
    refine VC.seq ?_
    refine VC.reg (VO.l (LO.mv (.r rfl)) rfl <| VO.l (LO.as (.r rfl)) rfl <| VO.l (LO.as (.r rfl)) rfl <| VO.l (LO.as (.r rfl)) rfl <| VO.nil ?_)
    refine VE.seqN ?_
    refine VC.ret (VE.thenR (VE.res (vs := [_, _, _]) rfl ⟨rfl, rfl, rfl, trivial⟩ (fun w hw => ?_)))
    refine ⟨?_, hw.nil⟩
    simp only [resV]
    first | exact fd1 h1 | exact fd2 h1
  ·
    have ht := (timeE_ok h1)
    have ht0 := ht.1
    unfold trainOk at ht0
    refine VC.skip (VE.seqN ?_)
    refine VC.seq ?_
    refine VC.reg (VO.l (LO.fa (r := 0) F23_0 (.r rfl) rfl) rfl <| VO.l (LO.ld O3 (.r rfl) (fun _ hw => cells_at hw 0 rfl ⟨_, rfl⟩)) rfl <| VO.l (LO.mul (.r rfl) (.r rfl) (wi (by omega) (by omega))) rfl <| VO.l (LO.mv (.r rfl)) rfl <| VO.l (LO.as (.r rfl)) rfl <| VO.l (LO.as (.r rfl)) rfl <| VO.l (LO.as (.r rfl)) rfl <| VO.nil ?_)
    refine VE.seqN ?_
    refine VC.ret (VE.res (vs := [_, _, _]) rfl ⟨rfl, rfl, rfl, trivial⟩ (fun w hw => ?_))
    refine ⟨?_, hw.nil⟩
    simp only [resV]
    first | exact fd1 h1 | exact fd2 h1

set_option maxRecDepth 20000 in
theorem rFold_c (t : Train) (wh : Int) (w : World) :
  Calls Try.prog 38 #[trainV t, .int .i64 wh] w fun e w' => e = .returned (.tuple #[.int .i64 (foldN t wh), .int .i64 (timeV t wh), .int .i64 (timeE t wh)]) ∧ St (bs w) [] w' := by
  refine enter (vs := [_, _]) (env := [(0, _), (1, _)]) Try.func38 rfl rfl rfl rfl ?_
  refine VC.seq ?_
  refine VC.reg (VO.h rfl <| HO.box (C := #[_, _, _, _, _]) rfl rfl fun b1 => VO.l (LO.as (.r rfl)) rfl <| VO.l (LO.as (.r rfl)) rfl <| VO.l (LO.as (.r rfl)) rfl <| VO.nil ?_)
  refine VE.seqN ?_
  refine VC.seq ?_
  refine VC.reg (VO.l (LO.lda (vs := [_, _, _, _, _]) A37 (.r rfl) (fun _ hw => cells_at hw 0 rfl ⟨_, rfl⟩) rfl) rfl <| VO.l (LO.mv (.r rfl)) rfl <| VO.l (LO.call (xs := [_, _]) (vs := [_, _]) C70 ⟨(.r rfl), (.r rfl), trivial⟩ (fun w _ => rTime_c t wh w)) rfl <| VO.l (LO.mv (.r rfl)) rfl <| VO.l (LO.ex (.r rfl) rfl) rfl <| VO.l (LO.ex (.r rfl) rfl) rfl <| VO.l (LO.as (.r rfl)) rfl <| VO.l (LO.as (.r rfl)) rfl <| VO.nil ?_)
  refine VE.seqN ?_
  refine VC.seq ?_
  refine VC.seq ?_
  refine VC.reg (VO.l (LO.mv (.r rfl)) rfl <| VO.l (LO.ne (.r rfl) (.r rfl)) rfl <| VO.nil ?_)
  refine VE.seqN ?_
  refine VC.cond rfl (fun h1 => ?_) (fun h1 => ?_)
  ·
    refine VC.seq ?_
    refine VC.reg (VO.l (LO.mv (.r rfl)) rfl <| VO.l (LO.as (.r rfl)) rfl <| VO.l (LO.as (.r rfl)) rfl <| VO.l (LO.as (.r rfl)) rfl <| VO.nil ?_)
    refine VE.seqN ?_
    refine VC.ret (VE.thenR (VE.res (vs := [_, _, _]) rfl ⟨rfl, rfl, rfl, trivial⟩ (fun w hw => ?_)))
    refine ⟨?_, hw.nil⟩
    simp only [resV]
    first | exact fd1 h1 | exact fd2 h1
  ·
    have ht := (timeE_ok h1)
    have ht0 := ht.1
    unfold trainOk at ht0
    refine VC.skip (VE.seqN ?_)
    refine VC.seq ?_
    refine VC.reg (VO.l (LO.fa (r := 0) F37_0 (.r rfl) rfl) rfl <| VO.l (LO.ld O3 (.r rfl) (fun _ hw => cells_at hw 0 rfl ⟨_, rfl⟩)) rfl <| VO.l (LO.mul (.r rfl) (.r rfl) (wi (by omega) (by omega))) rfl <| VO.l (LO.mv (.r rfl)) rfl <| VO.l (LO.as (.r rfl)) rfl <| VO.l (LO.as (.r rfl)) rfl <| VO.l (LO.as (.r rfl)) rfl <| VO.nil ?_)
    refine VE.seqN ?_
    refine VC.ret (VE.res (vs := [_, _, _]) rfl ⟨rfl, rfl, rfl, trivial⟩ (fun w hw => ?_))
    refine ⟨?_, hw.nil⟩
    simp only [resV]
    first | exact fd1 h1 | exact fd2 h1

set_option maxRecDepth 20000 in
theorem Reach_c (t : Train) (wh : Int) (w : World) :
  Calls Try.prog 39 #[trainV t, .int .i64 wh] w fun e w' => e = .returned (.tuple #[.int .i64 (150 * timeV t wh), .int .i64 (timeE t wh)]) ∧ St (bs w) [] w' := by
  have hv := timeV_bd t wh
  refine enter (vs := [_, _]) (env := [(0, _), (1, _)]) Try.func39 rfl rfl rfl rfl ?_
  refine VC.seq ?_
  refine VC.reg (VO.h rfl <| HO.box (C := #[_, _, _, _, _]) rfl rfl fun b1 => VO.l (LO.as (.r rfl)) rfl <| VO.l (LO.as (.r rfl)) rfl <| VO.nil ?_)
  refine VE.seqN ?_
  refine VC.seq ?_
  refine VC.reg (VO.l (LO.lda (vs := [_, _, _, _, _]) A23 (.r rfl) (fun _ hw => cells_at hw 0 rfl ⟨_, rfl⟩) rfl) rfl <| VO.l (LO.mv (.r rfl)) rfl <| VO.l (LO.call (xs := [_, _]) (vs := [_, _]) C66 ⟨(.r rfl), (.r rfl), trivial⟩ (fun w _ => time_c t wh w)) rfl <| VO.l (LO.mv (.r rfl)) rfl <| VO.l (LO.ex (.r rfl) rfl) rfl <| VO.l (LO.ex (.r rfl) rfl) rfl <| VO.l (LO.as (.r rfl)) rfl <| VO.l (LO.as (.r rfl)) rfl <| VO.nil ?_)
  refine VE.seqN ?_
  refine VC.seq ?_
  refine VC.reg (VO.l (LO.mv (.r rfl)) rfl <| VO.l (LO.mul (.r rfl) (.r rfl) (wi (by omega) (by omega))) rfl <| VO.l (LO.mv (.r rfl)) rfl <| VO.l (LO.as (.r rfl)) rfl <| VO.l (LO.as (.r rfl)) rfl <| VO.nil ?_)
  refine VE.seqN ?_
  refine VC.ret (VE.res (vs := [_, _]) rfl ⟨rfl, rfl, trivial⟩ (fun w hw => ?_))
  exact ⟨rfl, hw.nil⟩

set_option maxRecDepth 20000 in
theorem rReach_c (t : Train) (wh : Int) (w : World) :
  Calls Try.prog 40 #[trainV t, .int .i64 wh] w fun e w' => e = .returned (.tuple #[.int .i64 (150 * timeV t wh), .int .i64 (timeE t wh)]) ∧ St (bs w) [] w' := by
  have hv := timeV_bd t wh
  refine enter (vs := [_, _]) (env := [(0, _), (1, _)]) Try.func40 rfl rfl rfl rfl ?_
  refine VC.seq ?_
  refine VC.reg (VO.h rfl <| HO.box (C := #[_, _, _, _, _]) rfl rfl fun b1 => VO.l (LO.as (.r rfl)) rfl <| VO.l (LO.as (.r rfl)) rfl <| VO.nil ?_)
  refine VE.seqN ?_
  refine VC.seq ?_
  refine VC.reg (VO.l (LO.lda (vs := [_, _, _, _, _]) A37 (.r rfl) (fun _ hw => cells_at hw 0 rfl ⟨_, rfl⟩) rfl) rfl <| VO.l (LO.mv (.r rfl)) rfl <| VO.l (LO.call (xs := [_, _]) (vs := [_, _]) C70 ⟨(.r rfl), (.r rfl), trivial⟩ (fun w _ => rTime_c t wh w)) rfl <| VO.l (LO.mv (.r rfl)) rfl <| VO.l (LO.ex (.r rfl) rfl) rfl <| VO.l (LO.ex (.r rfl) rfl) rfl <| VO.l (LO.as (.r rfl)) rfl <| VO.l (LO.as (.r rfl)) rfl <| VO.nil ?_)
  refine VE.seqN ?_
  refine VC.seq ?_
  refine VC.reg (VO.l (LO.mv (.r rfl)) rfl <| VO.l (LO.mul (.r rfl) (.r rfl) (wi (by omega) (by omega))) rfl <| VO.l (LO.mv (.r rfl)) rfl <| VO.l (LO.as (.r rfl)) rfl <| VO.l (LO.as (.r rfl)) rfl <| VO.nil ?_)
  refine VE.seqN ?_
  refine VC.ret (VE.res (vs := [_, _]) rfl ⟨rfl, rfl, trivial⟩ (fun w hw => ?_))
  exact ⟨rfl, hw.nil⟩

set_option maxRecDepth 20000 in
theorem spdD_c (q lam kd fi se wl us : Int) (n5 : Int) (bt bw bu : Nat) (w : World) (hp : spdOk lam wl us q) (ht : Cells w ⟨bt, 0, none⟩ [.int .i64 lam, .int .i64 kd, .int .i64 fi, .int .i64 se, .int .i64 n5]) (hw_ : Cells w ⟨bw, 0, none⟩ [.int .i64 wl]) (hu : Cells w ⟨bu, 0, none⟩ [.int .i64 us]) :
  Calls Try.prog 67 #[.int .i64 q, .func (.func 68) #[] #[], .pointer (some ⟨bt, 0, none⟩), .pointer (some ⟨bw, 0, none⟩), .pointer (some ⟨bu, 0, none⟩)] w fun e w' => e = .returned (.int .i64 (500 * lam * (q + wl * 65536) / (65536 * us))) ∧ St (bs w) [] w' := by
  obtain ⟨a1, a2, a3, a4, a5, a6⟩ := hp
  refine enter (vs := [_, _, _, _, _]) (env := [(0, _), (1, _), (2, _), (3, _), (4, _)]) Try.func67 rfl rfl rfl rfl ?_
  refine VC.seq ?_
  refine VC.reg (VO.l (LO.as (.r rfl)) rfl <| VO.nil ?_)
  refine VE.seqN ?_
  refine VC.seq ?_
  refine VC.reg (VO.l (LO.mv (.r rfl)) rfl <| VO.l (LO.fa (r := 0) F23_0 (.r rfl) rfl) rfl <| VO.l (LO.ld O3 (.r rfl) (cells_keep (sub_cells (off := 0) ht ⟨_, rfl⟩))) rfl <| VO.l (LO.mul (.r rfl) (.r rfl) (wi (by omega) (by omega))) rfl <| VO.l (LO.mv (.r rfl)) rfl <| VO.l (LO.ld O3 (.r rfl) (cells_keep (sub_cells (off := 0) hw_ ⟨_, rfl⟩))) rfl <| VO.l (LO.mul (.r rfl) (.r rfl) (wi (by omega) (by omega))) rfl <| VO.l (LO.add (.r rfl) (.r rfl) (wi (by omega) (by omega))) rfl <| VO.l (LO.mul (.r rfl) (.r rfl) (wi (by omega) (by omega))) rfl <| VO.l (LO.ld O3 (.r rfl) (cells_keep (sub_cells (off := 0) hu ⟨_, rfl⟩))) rfl <| VO.l (LO.mul (.r rfl) (.r rfl) (wi (by omega) (by omega))) rfl <| VO.l (LO.callv (first := []) (cap := []) (xs := [_, _]) (vs := [_, _]) (.r rfl) C68 ⟨(.r rfl), (.r rfl), trivial⟩ (fun w _ => down_c _ _ (by omega) (by omega) (by omega) w)) rfl <| VO.l (LO.as (.r rfl)) rfl <| VO.nil ?_)
  refine VE.seqN ?_
  refine VC.ret (VE.res (vs := [_]) rfl ⟨rfl, trivial⟩ (fun w hw => ?_))
  exact ⟨rfl, hw.nil⟩

set_option maxRecDepth 20000 in
theorem spdU_c (q lam kd fi se wl us : Int) (n5 : Int) (bt bw bu : Nat) (w : World) (hp : spdOk lam wl us q) (ht : Cells w ⟨bt, 0, none⟩ [.int .i64 lam, .int .i64 kd, .int .i64 fi, .int .i64 se, .int .i64 n5]) (hw_ : Cells w ⟨bw, 0, none⟩ [.int .i64 wl]) (hu : Cells w ⟨bu, 0, none⟩ [.int .i64 us]) :
  Calls Try.prog 67 #[.int .i64 q, .func (.func 69) #[] #[], .pointer (some ⟨bt, 0, none⟩), .pointer (some ⟨bw, 0, none⟩), .pointer (some ⟨bu, 0, none⟩)] w fun e w' => e = .returned (.int .i64 (up (500 * lam * (q + wl * 65536)) (65536 * us))) ∧ St (bs w) [] w' := by
  obtain ⟨a1, a2, a3, a4, a5, a6⟩ := hp
  refine enter (vs := [_, _, _, _, _]) (env := [(0, _), (1, _), (2, _), (3, _), (4, _)]) Try.func67 rfl rfl rfl rfl ?_
  refine VC.seq ?_
  refine VC.reg (VO.l (LO.as (.r rfl)) rfl <| VO.nil ?_)
  refine VE.seqN ?_
  refine VC.seq ?_
  refine VC.reg (VO.l (LO.mv (.r rfl)) rfl <| VO.l (LO.fa (r := 0) F23_0 (.r rfl) rfl) rfl <| VO.l (LO.ld O3 (.r rfl) (cells_keep (sub_cells (off := 0) ht ⟨_, rfl⟩))) rfl <| VO.l (LO.mul (.r rfl) (.r rfl) (wi (by omega) (by omega))) rfl <| VO.l (LO.mv (.r rfl)) rfl <| VO.l (LO.ld O3 (.r rfl) (cells_keep (sub_cells (off := 0) hw_ ⟨_, rfl⟩))) rfl <| VO.l (LO.mul (.r rfl) (.r rfl) (wi (by omega) (by omega))) rfl <| VO.l (LO.add (.r rfl) (.r rfl) (wi (by omega) (by omega))) rfl <| VO.l (LO.mul (.r rfl) (.r rfl) (wi (by omega) (by omega))) rfl <| VO.l (LO.ld O3 (.r rfl) (cells_keep (sub_cells (off := 0) hu ⟨_, rfl⟩))) rfl <| VO.l (LO.mul (.r rfl) (.r rfl) (wi (by omega) (by omega))) rfl <| VO.l (LO.callv (first := []) (cap := []) (xs := [_, _]) (vs := [_, _]) (.r rfl) C69 ⟨(.r rfl), (.r rfl), trivial⟩ (fun w _ => up_c _ _ (by omega) (by omega) (by omega) w)) rfl <| VO.l (LO.as (.r rfl)) rfl <| VO.nil ?_)
  refine VE.seqN ?_
  refine VC.ret (VE.res (vs := [_]) rfl ⟨rfl, trivial⟩ (fun w hw => ?_))
  exact ⟨rfl, hw.nil⟩

set_option maxRecDepth 20000 in
theorem Speed_c (t : Train) (wh : Int) (s : Span) (wl : Int) (w : World) :
  Calls Try.prog 35 #[trainV t, .int .i64 wh, spanV s, .int .i64 wl] w fun e w' => e = .returned (.tuple #[spanV (spdV t wh s wl), .int .i64 (spdE t wh s wl)]) ∧ St (bs w) [] w' := by
  refine enter (vs := [_, _, _, _]) (env := [(0, _), (1, _), (2, _), (3, _)]) Try.func35 rfl rfl rfl rfl ?_
  refine VC.seq ?_
  refine VC.reg (VO.h rfl <| HO.box (C := #[_, _, _, _, _]) rfl rfl fun b1 => VO.h rfl <| HO.box (C := #[_, _]) rfl rfl fun b2 => VO.h rfl <| HO.box (C := #[_]) rfl rfl fun b3 => VO.h rfl <| HO.alloc (C := #[_, _]) Z25 rfl fun b4 => VO.l (LO.as (.r rfl)) rfl <| VO.nil ?_)
  refine VE.seqN ?_
  refine VC.seq ?_
  refine VC.reg (VO.l (LO.lda (vs := [_, _, _, _, _]) A23 (.r rfl) (fun _ hw => cells_at hw 3 rfl ⟨_, rfl⟩) rfl) rfl <| VO.l (LO.mv (.r rfl)) rfl <| VO.l (LO.call (xs := [_, _]) (vs := [_, _]) C66 ⟨(.r rfl), (.r rfl), trivial⟩ (fun w _ => time_c t wh w)) rfl <| VO.l (LO.mv (.r rfl)) rfl <| VO.l (LO.ex (.r rfl) rfl) rfl <| VO.l (LO.ex (.r rfl) rfl) rfl <| VO.h rfl <| HO.alloc (C := #[_]) Z3 rfl fun b5 => VO.h0 <| HO.st 0 (vs := [_]) (C' := [_]) (L' := [_, _, _, _, _]) N3 rfl rfl rfl rfl rfl rfl rfl rfl <| VO.l (LO.as (.r rfl)) rfl <| VO.nil ?_)
  refine VE.seqN ?_
  refine VC.seq ?_
  refine VC.block ?_
  refine VC.seq ?_
  refine VC.reg (VO.l (LO.mv (.r rfl)) rfl <| VO.l (LO.ne (.r rfl) (.r rfl)) rfl <| VO.l (LO.as (.r rfl)) rfl <| VO.nil ?_)
  refine VE.seqN ?_
  refine VC.cond rfl (fun h19 => ?_) (fun h19 => ?_)
  ·
    refine VC.seq ?_
    refine VC.reg (VO.l (LO.bd (ps := []) (vs := []) (C := [_, _]) B25  trivial rfl rfl) rfl <| VO.l (LO.mv (.r rfl)) rfl <| VO.h0 <| HO.st 1 (vs := [_, _]) (C' := [_, _]) (L' := [_, _, _, _, _]) N25 rfl rfl rfl rfl rfl rfl rfl rfl <| VO.l (LO.as (.r rfl)) rfl <| VO.nil ?_)
    refine VE.seqN ?_
    refine VC.ret (VE.inR (VE.thenR (VE.res (vs := [_, _]) rfl ⟨RV.agg (vs := [_, _]) A25 rfl (cells_blk 1 rfl ⟨_, rfl⟩) rfl, rfl, trivial⟩ (fun w hw => ?_))))
    refine ⟨?_, hw.nil⟩
    simp only [resV]
    first | exact sp1 h19 | exact sp2 h19 (by unfold inS; omega) | exact sp3 h19 (by unfold inS; omega)
  ·
    have ht := timeE_ok (t := t) h19
    refine VC.seq ?_
    refine VC.reg (VO.l (LO.lda (vs := [_, _]) A25 (.r rfl) (fun _ hw => cells_at hw 3 rfl ⟨_, rfl⟩) rfl) rfl <| VO.l (LO.call (xs := [_, _, _]) (vs := [_, _, _]) C61 ⟨(.r rfl), (.r rfl), (.r rfl), trivial⟩ (fun w _ => inside_c _ _ _ _ w)) rfl <| VO.l (LO.not (.r rfl)) rfl <| VO.l (LO.mv (.r rfl)) rfl <| VO.lg rfl rfl (GD.f _) (fun hg => LO.ld O3 (.r rfl) (fun _ hw => cells_at hw 2 rfl ⟨_, rfl⟩)) rfl <| VO.lg rfl rfl (GD.f _) (fun hg => LO.call (xs := [_, _, _]) (vs := [_, _, _]) C45 ⟨(.g hg rfl), (.r rfl), (.r rfl), trivial⟩ (fun w _ => within_c _ _ _ w)) rfl <| VO.lg rfl rfl (GD.f _) (fun hg => LO.not (.g hg rfl)) rfl <| VO.l (LO.pkO (.r rfl) (.r rfl) rfl rfl) rfl <| VO.l (LO.as (.r rfl)) rfl <| VO.nil ?_)
    refine VE.seqN ?_
    refine VC.cond rfl (fun h24 => ?_) (fun h24 => ?_)
    ·
      refine VC.seq ?_
      refine VC.reg (VO.l (LO.bd (ps := []) (vs := []) (C := [_, _]) B25  trivial rfl rfl) rfl <| VO.h0 <| HO.st 1 (vs := [_, _]) (C' := [_, _]) (L' := [_, _, _, _, _]) N25 rfl rfl rfl rfl rfl rfl rfl rfl <| VO.l (LO.as (.r rfl)) rfl <| VO.nil ?_)
      refine VE.seqN ?_
      refine VC.ret (VE.inR (VE.thenR (VE.res (vs := [_, _]) rfl ⟨RV.agg (vs := [_, _]) A25 rfl (cells_blk 1 rfl ⟨_, rfl⟩) rfl, rfl, trivial⟩ (fun w hw => ?_))))
      refine ⟨?_, hw.nil⟩
      simp only [resV]
      first | exact sp1 h19 | exact sp2 h19 (by unfold inS; omega) | exact sp3 h19 (by unfold inS; omega)
    ·
      refine VC.skip (VE.inN (VE.seqN ?_))
      refine VC.seq ?_
      refine VC.reg (VO.h rfl <| HO.lo (LO.mf (cap := [_, _, _]) ⟨(.r rfl), (.r rfl), (.r rfl), trivial⟩) <| VO.h rfl <| HO.lo (LO.as (.r rfl)) <| VO.nil ?_)
      refine VE.seqN ?_
      refine VC.seq ?_
      refine VC.drawH [[0, 1, 2, 3, 4], [0, 2, 3, 4]] [some 0, some 0, some 0, some 0, some 0, some 0, some 0, some 0, some 0, none, some 1] mixed (by kernel_rfl) rfl (LX.l (fun _ hJ => LO.mv (.r rfl)) rfl <| LX.l (fun _ hJ => LO.fa (r := 0) F25_0 (.r rfl) rfl) rfl <| LX.l (fun _ hJ => LO.ld O3 (.r rfl) (fun _ hw => cells_at (hJ _ hw) 3 rfl ⟨_, rfl⟩)) rfl <| LX.l (fun _ hJ => LO.callv (first := []) (cap := [_, _, _]) (xs := [_, _]) (vs := [_, _]) (.r rfl) C67 ⟨(.r rfl), (.r rfl), trivial⟩ (fun w hw => spdD_c _ _ _ _ _ _ _ _ _ _ _ w (spdOk_of ht.1 ht.2.1 ht.2.2 (by omega) (by omega) (by omega) (by omega)) (cells_at (hJ _ hw) 4 rfl ⟨[], rfl⟩) (cells_at (hJ _ hw) 2 rfl ⟨[], rfl⟩) (cells_at (hJ _ hw) 0 rfl ⟨[], rfl⟩))) rfl <| LX.l (fun _ hJ => LO.mv (.r rfl)) rfl <| LX.l (fun _ hJ => LO.fa (r := 1) F25_1 (.r rfl) rfl) rfl <| LX.l (fun _ hJ => LO.ld O3 (.r rfl) (fun _ hw => cells_at (hJ _ hw) 3 rfl ⟨_, rfl⟩)) rfl <| LX.l (fun _ hJ => LO.callv (first := []) (cap := [_, _, _]) (xs := [_, _]) (vs := [_, _]) (.r rfl) C67 ⟨(.r rfl), (.r rfl), trivial⟩ (fun w hw => spdU_c _ _ _ _ _ _ _ _ _ _ _ w (spdOk_of ht.1 ht.2.1 ht.2.2 (by omega) (by omega) (by omega) (by omega)) (cells_at (hJ _ hw) 4 rfl ⟨[], rfl⟩) (cells_at (hJ _ hw) 2 rfl ⟨[], rfl⟩) (cells_at (hJ _ hw) 0 rfl ⟨[], rfl⟩))) rfl <| LX.l (fun _ hJ => LO.bd (ps := [(_, _), (_, _)]) (vs := [(_, _), (_, _)]) (C := [_, _]) B25  ⟨(.r rfl), (.r rfl), trivial⟩ rfl ⟨_, [_], [_, _], rfl, rfl, rfl, rfl, ⟨_, [_], [_, _], rfl, rfl, rfl, rfl, rfl⟩⟩) rfl <| LX.s <| LX.l (fun _ hJ => LO.as (.r rfl)) rfl <| LX.nil) (HX.s <| HX.s <| HX.s <| HX.s <| HX.s <| HX.s <| HX.s <| HX.s <| HX.s <| HX.h0 <| HO.st 1 (vs := [_, _]) (C' := [_, _]) (L' := [_, _, _, _, _]) N25 rfl rfl rfl rfl rfl rfl rfl rfl <| ⟨fun _ hw => hw.sel [0, 2, 3, 4] rfl, HX.s <| HX.nil ?_⟩)
      refine VE.seqN ?_
      refine VC.ret (VE.res (vs := [_, _]) rfl ⟨RV.agg (vs := [_, _]) A25 rfl (cells_blk 1 rfl ⟨_, rfl⟩) rfl, rfl, trivial⟩ (fun w hw => ?_))
      refine ⟨?_, hw.nil⟩
      simp only [resV]
      first | exact sp1 h19 | exact sp2 h19 (by unfold inS; omega) | exact sp3 h19 (by unfold inS; omega)

set_option maxRecDepth 20000 in
theorem rSpeed_c (t : Train) (wh : Int) (s : Span) (wl : Int) (w : World) :
  Calls Try.prog 36 #[trainV t, .int .i64 wh, spanV s, .int .i64 wl] w fun e w' => e = .returned (.tuple #[spanV (spdV t wh s wl), .int .i64 (spdE t wh s wl)]) ∧ St (bs w) [] w' := by
  refine enter (vs := [_, _, _, _]) (env := [(0, _), (1, _), (2, _), (3, _)]) Try.func36 rfl rfl rfl rfl ?_
  refine VC.seq ?_
  refine VC.reg (VO.h rfl <| HO.box (C := #[_, _, _, _, _]) rfl rfl fun b1 => VO.h rfl <| HO.box (C := #[_, _]) rfl rfl fun b2 => VO.h rfl <| HO.alloc (C := #[_, _]) Z25 rfl fun b3 => VO.l (LO.as (.r rfl)) rfl <| VO.nil ?_)
  refine VE.seqN ?_
  refine VC.seq ?_
  refine VC.reg (VO.l (LO.lda (vs := [_, _, _, _, _]) A37 (.r rfl) (fun _ hw => cells_at hw 2 rfl ⟨_, rfl⟩) rfl) rfl <| VO.l (LO.mv (.r rfl)) rfl <| VO.l (LO.call (xs := [_, _]) (vs := [_, _]) C70 ⟨(.r rfl), (.r rfl), trivial⟩ (fun w _ => rTime_c t wh w)) rfl <| VO.l (LO.mv (.r rfl)) rfl <| VO.l (LO.ex (.r rfl) rfl) rfl <| VO.l (LO.ex (.r rfl) rfl) rfl <| VO.l (LO.as (.r rfl)) rfl <| VO.l (LO.as (.r rfl)) rfl <| VO.nil ?_)
  refine VE.seqN ?_
  refine VC.seq ?_
  refine VC.seq ?_
  refine VC.reg (VO.l (LO.mv (.r rfl)) rfl <| VO.l (LO.ne (.r rfl) (.r rfl)) rfl <| VO.nil ?_)
  refine VE.seqN ?_
  refine VC.cond rfl (fun h19 => ?_) (fun h19 => ?_)
  ·
    refine VC.seq ?_
    refine VC.reg (VO.l (LO.bd (ps := []) (vs := []) (C := [_, _]) B25  trivial rfl rfl) rfl <| VO.l (LO.mv (.r rfl)) rfl <| VO.h0 <| HO.st 0 (vs := [_, _]) (C' := [_, _]) (L' := [_, _, _]) N25 rfl rfl rfl rfl rfl rfl rfl rfl <| VO.l (LO.as (.r rfl)) rfl <| VO.nil ?_)
    refine VE.seqN ?_
    refine VC.ret (VE.thenR (VE.res (vs := [_, _]) rfl ⟨RV.agg (vs := [_, _]) A25 rfl (cells_blk 0 rfl ⟨_, rfl⟩) rfl, rfl, trivial⟩ (fun w hw => ?_)))
    refine ⟨?_, hw.nil⟩
    simp only [resV]
    first | exact sp1 h19 | exact sp2 h19 (by unfold inS; omega) | exact sp3 h19 (by unfold inS; omega)
  ·
    have ht := timeE_ok (t := t) h19
    refine VC.skip (VE.seqN ?_)
    refine VC.seq ?_
    refine VC.seq ?_
    refine VC.reg (VO.l (LO.lda (vs := [_, _]) A25 (.r rfl) (fun _ hw => cells_at hw 1 rfl ⟨_, rfl⟩) rfl) rfl <| VO.l (LO.call (xs := [_, _, _]) (vs := [_, _, _]) C62 ⟨(.r rfl), (.r rfl), (.r rfl), trivial⟩ (fun w _ => Valid_c _ _ _ _ w)) rfl <| VO.l (LO.not (.r rfl)) rfl <| VO.l (LO.mv (.r rfl)) rfl <| VO.lg rfl rfl (GD.f _) (fun hg => LO.mv (.r rfl)) rfl <| VO.lg rfl rfl (GD.f _) (fun hg => LO.call (xs := [_, _, _]) (vs := [_, _, _]) C49 ⟨(.g hg rfl), (.r rfl), (.r rfl), trivial⟩ (fun w _ => In_c _ _ _ w)) rfl <| VO.lg rfl rfl (GD.f _) (fun hg => LO.not (.g hg rfl)) rfl <| VO.l (LO.pkO (.r rfl) (.r rfl) rfl rfl) rfl <| VO.nil ?_)
    refine VE.seqN ?_
    refine VC.cond rfl (fun h24 => ?_) (fun h24 => ?_)
    ·
      refine VC.seq ?_
      refine VC.reg (VO.l (LO.bd (ps := []) (vs := []) (C := [_, _]) B25  trivial rfl rfl) rfl <| VO.h0 <| HO.st 0 (vs := [_, _]) (C' := [_, _]) (L' := [_, _, _]) N25 rfl rfl rfl rfl rfl rfl rfl rfl <| VO.l (LO.as (.r rfl)) rfl <| VO.nil ?_)
      refine VE.seqN ?_
      refine VC.ret (VE.thenR (VE.res (vs := [_, _]) rfl ⟨RV.agg (vs := [_, _]) A25 rfl (cells_blk 0 rfl ⟨_, rfl⟩) rfl, rfl, trivial⟩ (fun w hw => ?_)))
      refine ⟨?_, hw.nil⟩
      simp only [resV]
      first | exact sp1 h19 | exact sp2 h19 (by unfold inS; omega) | exact sp3 h19 (by unfold inS; omega)
    ·
      have g1 := spdOk_of (t := t) ht.1 ht.2.1 ht.2.2 (q := s.lo) (wl := wl) (by omega) (by omega) (by omega) (by omega)
      have g2 := spdOk_of (t := t) ht.1 ht.2.1 ht.2.2 (q := s.hi) (wl := wl) (by omega) (by omega) (by omega) (by omega)
      obtain ⟨a1, a2, a3, a4, a5, a6⟩ := g1
      obtain ⟨b1_, b2_, b3_, b4_, b5_, b6_⟩ := g2
      refine VC.skip (VE.seqN ?_)
      refine VC.seq ?_
      refine VC.drawH [[0, 1, 2], [1, 2]] [some 0, some 0, some 0, some 0, some 0, some 0, some 0, some 0, some 0, some 0, some 0, some 0, some 0, some 0, some 0, some 0, some 0, some 0, some 0, some 0, some 0, some 0, some 0, some 0, some 0, none, some 1] mixed (by kernel_rfl) rfl (LX.l (fun _ hJ => LO.fa (r := 0) F37_0 (.r rfl) rfl) rfl <| LX.l (fun _ hJ => LO.ld O3 (.r rfl) (fun _ hw => cells_at (hJ _ hw) 2 rfl ⟨_, rfl⟩)) rfl <| LX.l (fun _ hJ => LO.mul (.r rfl) (.r rfl) (wi (by omega) (by omega))) rfl <| LX.l (fun _ hJ => LO.fa (r := 0) F25_0 (.r rfl) rfl) rfl <| LX.l (fun _ hJ => LO.ld O3 (.r rfl) (fun _ hw => cells_at (hJ _ hw) 1 rfl ⟨_, rfl⟩)) rfl <| LX.l (fun _ hJ => LO.mv (.r rfl)) rfl <| LX.l (fun _ hJ => LO.mul (.r rfl) (.r rfl) (wi (by omega) (by omega))) rfl <| LX.l (fun _ hJ => LO.add (.r rfl) (.r rfl) (wi (by omega) (by omega))) rfl <| LX.l (fun _ hJ => LO.mul (.r rfl) (.r rfl) (wi (by omega) (by omega))) rfl <| LX.l (fun _ hJ => LO.mv (.r rfl)) rfl <| LX.l (fun _ hJ => LO.mul (.r rfl) (.r rfl) (wi (by omega) (by omega))) rfl <| LX.l (fun _ hJ => LO.call (xs := [_, _]) (vs := [_, _]) C71 ⟨(.r rfl), (.r rfl), trivial⟩ (fun w _ => rDown_c _ _ (by omega) (by omega) (by omega) w)) rfl <| LX.l (fun _ hJ => LO.fa (r := 0) F37_0 (.r rfl) rfl) rfl <| LX.l (fun _ hJ => LO.ld O3 (.r rfl) (fun _ hw => cells_at (hJ _ hw) 2 rfl ⟨_, rfl⟩)) rfl <| LX.l (fun _ hJ => LO.mul (.r rfl) (.r rfl) (wi (by omega) (by omega))) rfl <| LX.l (fun _ hJ => LO.fa (r := 1) F25_1 (.r rfl) rfl) rfl <| LX.l (fun _ hJ => LO.ld O3 (.r rfl) (fun _ hw => cells_at (hJ _ hw) 1 rfl ⟨_, rfl⟩)) rfl <| LX.l (fun _ hJ => LO.mv (.r rfl)) rfl <| LX.l (fun _ hJ => LO.mul (.r rfl) (.r rfl) (wi (by omega) (by omega))) rfl <| LX.l (fun _ hJ => LO.add (.r rfl) (.r rfl) (wi (by omega) (by omega))) rfl <| LX.l (fun _ hJ => LO.mul (.r rfl) (.r rfl) (wi (by omega) (by omega))) rfl <| LX.l (fun _ hJ => LO.mv (.r rfl)) rfl <| LX.l (fun _ hJ => LO.mul (.r rfl) (.r rfl) (wi (by omega) (by omega))) rfl <| LX.l (fun _ hJ => LO.call (xs := [_, _]) (vs := [_, _]) C52 ⟨(.r rfl), (.r rfl), trivial⟩ (fun w _ => rUp_c _ _ (by omega) (by omega) (by omega) w)) rfl <| LX.l (fun _ hJ => LO.bd (ps := [(_, _), (_, _)]) (vs := [(_, _), (_, _)]) (C := [_, _]) B25  ⟨(.r rfl), (.r rfl), trivial⟩ rfl ⟨_, [_], [_, _], rfl, rfl, rfl, rfl, ⟨_, [_], [_, _], rfl, rfl, rfl, rfl, rfl⟩⟩) rfl <| LX.s <| LX.l (fun _ hJ => LO.as (.r rfl)) rfl <| LX.nil) (HX.s <| HX.s <| HX.s <| HX.s <| HX.s <| HX.s <| HX.s <| HX.s <| HX.s <| HX.s <| HX.s <| HX.s <| HX.s <| HX.s <| HX.s <| HX.s <| HX.s <| HX.s <| HX.s <| HX.s <| HX.s <| HX.s <| HX.s <| HX.s <| HX.s <| HX.h0 <| HO.st 0 (vs := [_, _]) (C' := [_, _]) (L' := [_, _, _]) N25 rfl rfl rfl rfl rfl rfl rfl rfl <| ⟨fun _ hw => hw.sel [1, 2] rfl, HX.s <| HX.nil ?_⟩)
      refine VE.seqN ?_
      refine VC.ret (VE.res (vs := [_, _]) rfl ⟨RV.agg (vs := [_, _]) A25 rfl (cells_blk 0 rfl ⟨_, rfl⟩) rfl, rfl, trivial⟩ (fun w hw => ?_))
      refine ⟨?_, hw.nil⟩
      simp only [resV]
      first | exact sp1 h19 | exact sp2 h19 (by unfold inS; omega) | exact sp3 h19 (by unfold inS; omega)

end Go.Proofs.Ytcnlhifkablmkaa
