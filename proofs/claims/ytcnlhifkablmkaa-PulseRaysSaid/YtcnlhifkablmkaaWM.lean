/-
  PulseTruth is walked.
-/
import Derived.Test.YtcnlhifkablmkaaP4
namespace Go.Proofs.Ytcnlhifkablmkaa
open Go.SL Go.Proofs Go.Pulse
set_option linter.unusedVariables false

theorem F71_0 : FieldAt Try.prog 71 0 0 := ⟨_, _, Try.underlying71, rfl, rfl, 0, by kernel_rfl⟩
theorem C65 : IsFn Try.prog 65 := ⟨_, Try.func65, by decide, rfl⟩
theorem F71_1 : FieldAt Try.prog 71 1 1 := ⟨_, _, Try.underlying71, rfl, rfl, 0, by kernel_rfl⟩
theorem F71_2 : FieldAt Try.prog 71 2 2 := ⟨_, _, Try.underlying71, rfl, rfl, 0, by kernel_rfl⟩
theorem F71_3 : FieldAt Try.prog 71 3 3 := ⟨_, _, Try.underlying71, rfl, rfl, 0, by kernel_rfl⟩
theorem B71 : Builds Try.prog 71 [(0, 1), (1, 1), (2, 1), (3, 1)] [.int .u16 0, .int .u16 0, .int .u16 0, .int .u16 0] := Builds.mk fun _ => by kernel_rfl
theorem Z71 : ZeroOf Try.prog 71 (.agg #[.int .u16 0, .int .u16 0, .int .u16 0, .int .u16 0]) := by unfold ZeroOf; kernel_rfl
theorem N71 : (Try.prog.info? 71).map (·.size) = some 4 := by kernel_rfl
theorem S69 : IsSlice Try.prog 69 71 := Try.underlying69
theorem A71 : IsAgg Try.prog 71 4 := ⟨⟨_, Try.underlying71, rfl⟩, by kernel_rfl⟩
theorem C32 : IsFn Try.prog 32 := ⟨_, Try.func32, by decide, rfl⟩
theorem I44 : EInfo Try.prog 44 4 32 (.agg #[.int .i64 0, .int .i64 0, .int .i64 0, .int .i64 0]) := ⟨by kernel_rfl, by kernel_rfl, by unfold ZeroOf; kernel_rfl, rfl, by decide⟩


theorem own_capS {β : Bs} {L : List Res} {w : World} (hw : St β L w) (i : Nat) {α : Type} {f : α → List Value} {E z cap : Nat} {p : Option Addr} {l : List α} (hi : L[i]? = some (own E z p cap (l.map f))) : l.length ≤ cap := by
  have := (hw.inv i _ hi).1
  rwa [List.length_map] at this
theorem tr_step {l : List Sample} {r : Recv} {ds : List Q4} {i : Nat} : (List.range (i + 1)).map (fun k => truthV (l.getD k zSm) r (pickQ ds k)) = (List.range i).map (fun k => truthV (l.getD k zSm) r (pickQ ds k)) ++ [truthV (l.getD i zSm) r (pickQ ds i)] := by
  rw [List.range_succ, List.map_append]; rfl
theorem pick_t {ds : List Q4} {i : Nat} (h : 0 < (ds.length : Int)) : ds.getD (i % ds.length) z4 = pickQ ds i := by
  unfold pickQ; rw [if_neg (fun q => by rw [q] at h; simp at h)]
theorem pick_f {ds : List Q4} {i : Nat} (h : ¬ 0 < (ds.length : Int)) : z4 = pickQ ds i := by
  unfold pickQ; rw [if_pos (List.length_eq_zero_iff.1 (by omega))]
theorem hearR_spread (t : Train) (r : Recv) (l : List Sample) : 0 ≤ (hearR t r l).spread ∧ (hearR t r l).spread ≤ 65535 := by
  have sb := spread_bd (t := t) (l := l)
  unfold hearR
  by_cases h : hearE t r l = 0
  · rw [if_pos h]
    by_cases hz : (pow0 r l).lo = 0
    · rw [hearX_1 hz]; exact (show (0 : Int) ≤ 0 ∧ (0 : Int) ≤ 65535 by decide)
    · by_cases g : goodT t r l
      · rw [hearX_3 hz g]; exact sb
      · rw [hearX_2 hz g]; exact sb
  · rw [if_neg h]; decide
theorem hear_T {t : Train} {r : Recv} {l : List Sample} {ds : List Q4} {pt : Int} (h : hearE t r l = 0) (hq : ∀ q ∈ ds, q4Ok q) (h1 : r.nlo ≤ pt) (h2 : pt ≤ r.nhi) :
    hearE t ⟨0, 0, pt, pt⟩ (truthL l r ds) = 0 ∧ echoE (hearR t ⟨0, 0, pt, pt⟩ (truthL l r ds)) = 0 ∧ echoE (hearR t r l) = 0 ∧ echoIn (hearR t ⟨0, 0, pt, pt⟩ (truthL l r ds)) (hearR t r l) ∧ (((hearR t ⟨0, 0, pt, pt⟩ (truthL l r ds)).kind = 1 ∨ (hearR t r l).kind = 1) ∨ ((hearR t ⟨0, 0, pt, pt⟩ (truthL l r ds)).spread - (hearR t r l).spread ≤ 4 * r.phase ∧ (hearR t r l).spread - (hearR t ⟨0, 0, pt, pt⟩ (truthL l r ds)).spread ≤ 4 * r.phase)) := by
  obtain ⟨hb, hr, hc, hs⟩ := hear_0 h
  have B := Bet.truth (ds := ds) hr hs hq h1 h2
  have e := rhE hb B.hr' (fun q => q (by rw [truthL_len]; exact hc)) B.hs'
  have ht := hb.2
  unfold trainOk at ht
  have hn : 0 < (l.length : Int) := by omega
  rw [hear_R e, hear_R h]
  exact ⟨e, hear_ok B.hr' (by rw [truthL_len]; exact hn) B.hs', hear_ok hr hn hs, truth_in hb.1 hr hn hs hq h1 h2⟩

set_option maxRecDepth 20000 in
theorem off_c (d n : Int) (w : World) (d0 : 0 ≤ d) (d1 : d ≤ 65535) (n0 : 0 ≤ n) (n1 : n ≤ 1000000) :
  Calls Try.prog 65 #[.int .u16 d, .int .i64 n] w fun e w' => e = .returned (.int .i64 (offV d n)) ∧ St (bs w) [] w' := by
  have hcv := i64_cv (x := d) (by omega) (by omega)
  have hm := tmod_in (a := d) (b := 2 * n + 1) d0 (by omega)
  refine enter (vs := [_, _]) (env := [(0, _), (1, _)]) Try.func65 rfl rfl rfl rfl ?_
  refine VC.seq ?_
  refine VC.reg (VO.l (LO.as (.r rfl)) rfl <| VO.nil ?_)
  refine VE.seqN ?_
  refine VC.seq ?_
  refine VC.reg (VO.l (LO.mv (.r rfl)) rfl <| VO.l (LO.cv ⟨_, Try.underlying42⟩ Try.underlying3 (.r rfl) hcv) rfl <| VO.l (LO.mv (.r rfl)) rfl <| VO.l (LO.mul (.r rfl) (.r rfl) (wi (by omega) (by omega))) rfl <| VO.l (LO.add (.r rfl) (.r rfl) (wi (by omega) (by omega))) rfl <| VO.l (LO.rem (.r rfl) (.r rfl) (by omega)) rfl <| VO.l (LO.mv (.r rfl)) rfl <| VO.l (LO.sub (.r rfl) (.r rfl) (wi (by omega) (by omega))) rfl <| VO.l (LO.as (.r rfl)) rfl <| VO.nil ?_)
  refine VE.seqN ?_
  refine VC.ret (VE.res (vs := [_]) rfl ⟨rfl, trivial⟩ (fun w hw => ?_))
  exact ⟨rfl, hw.nil⟩

set_option maxRecDepth 20000 in
theorem truth_c (x : Sample) (r : Recv) (q : Q4) (w : World) (hx : smpOk x) (hr : recvOk r) (hq : q4Ok q) :
  Calls Try.prog 32 #[.agg #[.int .i64 x.h, .int .i64 x.p, .int .i64 x.v, .int .i64 x.q], recvV r, .agg #[.int .u16 q.a, .int .u16 q.b, .int .u16 q.c, .int .u16 q.d]] w fun e w' => e = .returned (.agg #[.int .i64 (truthV x r q).h, .int .i64 (truthV x r q).p, .int .i64 (truthV x r q).v, .int .i64 (truthV x r q).q]) ∧ St (bs w) [] w' := by
  unfold smpOk at hx
  unfold recvOk at hr
  unfold q4Ok at hq
  have o1 := offV_bd (d := q.a) (n := r.level) (by omega) (by omega)
  have o2 := offV_bd (d := q.b) (n := r.phase) (by omega) (by omega)
  have o3 := offV_bd (d := q.c) (n := r.level) (by omega) (by omega)
  have o4 := offV_bd (d := q.d) (n := r.phase) (by omega) (by omega)
  refine enter (vs := [_, _, _]) (env := [(0, _), (1, _), (2, _)]) Try.func32 rfl rfl rfl rfl ?_
  refine VC.seq ?_
  refine VC.reg (VO.h rfl <| HO.box (C := #[_, _, _, _]) rfl rfl fun b1 => VO.h rfl <| HO.box (C := #[_, _, _, _]) rfl rfl fun b2 => VO.h rfl <| HO.box (C := #[_, _, _, _]) rfl rfl fun b3 => VO.h rfl <| HO.alloc (C := #[_, _, _, _]) Z44 rfl fun b4 => VO.nil ?_)
  refine VE.seqN ?_
  refine VC.seq ?_
  refine VC.drawH [[0, 1, 2, 3], [1, 2, 3]] [some 0, some 0, some 0, some 0, some 0, some 0, some 0, some 0, some 0, some 0, some 0, some 0, some 0, some 0, some 0, some 0, some 0, some 0, some 0, some 0, some 0, some 0, some 0, some 0, some 0, some 0, some 0, some 0, some 0, some 0, some 0, some 0, some 0, some 0, some 0, some 0, some 0, some 0, some 0, none] mixed (by kernel_rfl) rfl (LX.l (fun _ hJ => LO.fa (r := 0) F44_0 (.r rfl) rfl) rfl <| LX.l (fun _ hJ => LO.ld O3 (.r rfl) (fun _ hw => cells_at (hJ _ hw) 3 rfl ⟨_, rfl⟩)) rfl <| LX.l (fun _ hJ => LO.fa (r := 0) F71_0 (.r rfl) rfl) rfl <| LX.l (fun _ hJ => LO.ld O42 (.r rfl) (fun _ hw => cells_at (hJ _ hw) 1 rfl ⟨_, rfl⟩)) rfl <| LX.l (fun _ hJ => LO.fa (r := 0) F27_0 (.r rfl) rfl) rfl <| LX.l (fun _ hJ => LO.ld O3 (.r rfl) (fun _ hw => cells_at (hJ _ hw) 2 rfl ⟨_, rfl⟩)) rfl <| LX.l (fun _ hJ => LO.call (xs := [_, _]) (vs := [_, _]) C65 ⟨(.r rfl), (.r rfl), trivial⟩ (fun w _ => off_c _ _ w (by omega) (by omega) (by omega) (by omega))) rfl <| LX.l (fun _ hJ => LO.add (.r rfl) (.r rfl) (wi (by omega) (by omega))) rfl <| LX.l (fun _ hJ => LO.max (.r rfl) (.r rfl)) rfl <| LX.l (fun _ hJ => LO.min (.r rfl) (.r rfl)) rfl <| LX.l (fun _ hJ => LO.fa (r := 1) F44_1 (.r rfl) rfl) rfl <| LX.l (fun _ hJ => LO.ld O3 (.r rfl) (fun _ hw => cells_at (hJ _ hw) 3 rfl ⟨_, rfl⟩)) rfl <| LX.l (fun _ hJ => LO.fa (r := 1) F71_1 (.r rfl) rfl) rfl <| LX.l (fun _ hJ => LO.ld O42 (.r rfl) (fun _ hw => cells_at (hJ _ hw) 1 rfl ⟨_, rfl⟩)) rfl <| LX.l (fun _ hJ => LO.fa (r := 1) F27_1 (.r rfl) rfl) rfl <| LX.l (fun _ hJ => LO.ld O3 (.r rfl) (fun _ hw => cells_at (hJ _ hw) 2 rfl ⟨_, rfl⟩)) rfl <| LX.l (fun _ hJ => LO.call (xs := [_, _]) (vs := [_, _]) C65 ⟨(.r rfl), (.r rfl), trivial⟩ (fun w _ => off_c _ _ w (by omega) (by omega) (by omega) (by omega))) rfl <| LX.l (fun _ hJ => LO.add (.r rfl) (.r rfl) (wi (by omega) (by omega))) rfl <| LX.l (fun _ hJ => LO.call (xs := [_]) (vs := [_]) C19 ⟨(.r rfl), trivial⟩ (fun w _ => lwrap_c _ w)) rfl <| LX.l (fun _ hJ => LO.fa (r := 2) F44_2 (.r rfl) rfl) rfl <| LX.l (fun _ hJ => LO.ld O3 (.r rfl) (fun _ hw => cells_at (hJ _ hw) 3 rfl ⟨_, rfl⟩)) rfl <| LX.l (fun _ hJ => LO.fa (r := 2) F71_2 (.r rfl) rfl) rfl <| LX.l (fun _ hJ => LO.ld O42 (.r rfl) (fun _ hw => cells_at (hJ _ hw) 1 rfl ⟨_, rfl⟩)) rfl <| LX.l (fun _ hJ => LO.fa (r := 0) F27_0 (.r rfl) rfl) rfl <| LX.l (fun _ hJ => LO.ld O3 (.r rfl) (fun _ hw => cells_at (hJ _ hw) 2 rfl ⟨_, rfl⟩)) rfl <| LX.l (fun _ hJ => LO.call (xs := [_, _]) (vs := [_, _]) C65 ⟨(.r rfl), (.r rfl), trivial⟩ (fun w _ => off_c _ _ w (by omega) (by omega) (by omega) (by omega))) rfl <| LX.l (fun _ hJ => LO.add (.r rfl) (.r rfl) (wi (by omega) (by omega))) rfl <| LX.l (fun _ hJ => LO.max (.r rfl) (.r rfl)) rfl <| LX.l (fun _ hJ => LO.min (.r rfl) (.r rfl)) rfl <| LX.l (fun _ hJ => LO.fa (r := 3) F44_3 (.r rfl) rfl) rfl <| LX.l (fun _ hJ => LO.ld O3 (.r rfl) (fun _ hw => cells_at (hJ _ hw) 3 rfl ⟨_, rfl⟩)) rfl <| LX.l (fun _ hJ => LO.fa (r := 3) F71_3 (.r rfl) rfl) rfl <| LX.l (fun _ hJ => LO.ld O42 (.r rfl) (fun _ hw => cells_at (hJ _ hw) 1 rfl ⟨_, rfl⟩)) rfl <| LX.l (fun _ hJ => LO.fa (r := 1) F27_1 (.r rfl) rfl) rfl <| LX.l (fun _ hJ => LO.ld O3 (.r rfl) (fun _ hw => cells_at (hJ _ hw) 2 rfl ⟨_, rfl⟩)) rfl <| LX.l (fun _ hJ => LO.call (xs := [_, _]) (vs := [_, _]) C65 ⟨(.r rfl), (.r rfl), trivial⟩ (fun w _ => off_c _ _ w (by omega) (by omega) (by omega) (by omega))) rfl <| LX.l (fun _ hJ => LO.add (.r rfl) (.r rfl) (wi (by omega) (by omega))) rfl <| LX.l (fun _ hJ => LO.call (xs := [_]) (vs := [_]) C19 ⟨(.r rfl), trivial⟩ (fun w _ => lwrap_c _ w)) rfl <| LX.l (fun _ hJ => LO.bd (ps := [(_, _), (_, _), (_, _), (_, _)]) (vs := [(_, _), (_, _), (_, _), (_, _)]) (C := [_, _, _, _]) B44  ⟨(.r rfl), (.r rfl), (.r rfl), (.r rfl), trivial⟩ rfl ⟨_, [_], [_, _, _, _], rfl, rfl, rfl, rfl, ⟨_, [_], [_, _, _, _], rfl, rfl, rfl, rfl, ⟨_, [_], [_, _, _, _], rfl, rfl, rfl, rfl, ⟨_, [_], [_, _, _, _], rfl, rfl, rfl, rfl, rfl⟩⟩⟩⟩) rfl <| LX.s <| LX.nil) (HX.s <| HX.s <| HX.s <| HX.s <| HX.s <| HX.s <| HX.s <| HX.s <| HX.s <| HX.s <| HX.s <| HX.s <| HX.s <| HX.s <| HX.s <| HX.s <| HX.s <| HX.s <| HX.s <| HX.s <| HX.s <| HX.s <| HX.s <| HX.s <| HX.s <| HX.s <| HX.s <| HX.s <| HX.s <| HX.s <| HX.s <| HX.s <| HX.s <| HX.s <| HX.s <| HX.s <| HX.s <| HX.s <| HX.s <| HX.h0 <| HO.st 0 (vs := [_, _, _, _]) (C' := [_, _, _, _]) (L' := [_, _, _, _]) N44 rfl rfl rfl rfl rfl rfl rfl rfl <| ⟨fun _ hw => hw.sel [1, 2, 3] rfl, HX.nil ?_⟩)
  refine VE.seqN ?_
  refine VC.ret (VE.res (vs := [_]) rfl ⟨RV.agg (vs := [_, _, _, _]) A44 rfl (cells_blk 0 rfl ⟨_, rfl⟩) rfl, trivial⟩ (fun w hw => ?_))
  exact ⟨rfl, hw.nil⟩

set_option maxRecDepth 20000 in
set_option maxHeartbeats 4000000 in
theorem PulseTruth_c (t : Train) (r : Recv) (l : List Sample) (p : Option Addr) (c : Nat) (ds : List Q4) (pd : Option Addr) (cd : Nat) (nz : Int) (w : World) (hc : l.length ≤ c) (hl : Smps w p l) (hd : RO 4 q4C w pd ds) (hq : ∀ q ∈ ds, q4Ok q) (n0 : 0 ≤ nz) (n1 : nz ≤ 4294967295) :
  Calls Try.prog 9 #[trainV t, recvV r, .slice p l.length c, .slice pd ds.length cd, .int .u32 nz] w fun e w' => e = .returned (.bool true) ∧ St (bs w) [] w' := by
  have hcz := i64_cv (x := nz) (by omega) (by omega)
  refine enter (vs := [_, _, _, _, _]) (env := [(0, _), (1, _), (2, _), (3, _), (4, _)]) Try.func9 rfl rfl rfl rfl ?_
  refine VC.seq ?_
  refine VC.reg (VO.h rfl <| HO.box (C := #[_, _, _, _, _]) rfl rfl fun b1 => VO.h rfl <| HO.box (C := #[_, _, _, _]) rfl rfl fun b2 => VO.l (LO.as (.r rfl)) rfl <| VO.nil ?_)
  refine VE.seqN ?_
  refine VC.seq ?_
  refine VC.seq ?_
  refine VC.reg (VO.l (LO.mv (.r rfl)) rfl <| VO.l (LO.len S28 (.r rfl) rfl) rfl <| VO.l (LO.gt (.r rfl) (.r rfl)) rfl <| VO.nil ?_)
  refine VE.seqN ?_
  refine VC.cond rfl (fun h1 => ?_) (fun h1 => ?_)
  ·
    refine VC.seq ?_
    refine VC.reg (VO.l (LO.call (xs := []) (vs := []) C15 trivial (fun w _ => works_c w)) rfl <| VO.l (LO.as (.r rfl)) rfl <| VO.nil ?_)
    refine VE.seqN ?_
    refine VC.ret (VE.thenR (VE.res (vs := [_]) rfl ⟨rfl, trivial⟩ (fun w hw => ?_)))
    first | exact ⟨rfl, hw.nil⟩ | exact ⟨by simp [resV]; omega, hw.nil⟩
  ·
    refine VC.skip (VE.seqN ?_)
    refine VC.seq ?_
    refine VC.reg (VO.l (LO.lda (vs := [_, _, _, _, _]) A23 (.r rfl) (fun _ hw => cells_at hw 1 rfl ⟨_, rfl⟩) rfl) rfl <| VO.l (LO.lda (vs := [_, _, _, _]) A27 (.r rfl) (fun _ hw => cells_at hw 0 rfl ⟨_, rfl⟩) rfl) rfl <| VO.l (LO.mv (.r rfl)) rfl <| VO.l (LO.call (xs := [_, _, _]) (vs := [_, _, _]) C16 ⟨(.r rfl), (.r rfl), (.r rfl), trivial⟩ (fun w hw => Hear_c t r l p c w (by omega) hc (hl.keep w hw))) rfl <| VO.l (LO.mv (.r rfl)) rfl <| VO.l (LO.ex (.r rfl) rfl) rfl <| VO.l (LO.ex (.r rfl) rfl) rfl <| VO.h rfl <| HO.alloc (C := #[_, _, _, _, _, _, _, _, _, _, _, _, _, _]) Z32 rfl fun b3 => VO.h0 <| HO.st 0 (vs := [_, _, _, _, _, _, _, _, _, _, _, _, _, _]) (C' := [_, _, _, _, _, _, _, _, _, _, _, _, _, _]) (L' := [_, _, _]) N32 rfl rfl rfl rfl rfl rfl rfl rfl <| VO.l (LO.as (.r rfl)) rfl <| VO.nil ?_)
    refine VE.seqN ?_
    refine VC.seq ?_
    refine VC.seq ?_
    refine VC.reg (VO.l (LO.mv (.r rfl)) rfl <| VO.l (LO.ne (.r rfl) (.r rfl)) rfl <| VO.nil ?_)
    refine VE.seqN ?_
    refine VC.cond rfl (fun h30 => ?_) (fun h30 => ?_)
    ·
      refine VC.seq ?_
      refine VC.reg (VO.l (LO.call (xs := []) (vs := []) C15 trivial (fun w _ => works_c w)) rfl <| VO.l (LO.as (.r rfl)) rfl <| VO.nil ?_)
      refine VE.seqN ?_
      refine VC.ret (VE.thenR (VE.res (vs := [_]) rfl ⟨rfl, trivial⟩ (fun w hw => ?_)))
      first | exact ⟨rfl, hw.nil⟩ | exact ⟨by simp [resV]; omega, hw.nil⟩
    ·
      have h0 := Classical.not_not.1 h30
      have hh := hear_0 h0
      have hr := hh.2.1
      have hr' := hr
      unfold recvOk at hr'
      have hs := hh.2.2.2
      refine VC.skip (VE.seqN ?_)
      refine VC.seq ?_
      refine VC.seq ?_
      refine VC.reg (VO.l (LO.fa (r := 2) F27_2 (.r rfl) rfl) rfl <| VO.l (LO.fa (r := 2) F25_0 (.r rfl) rfl) rfl <| VO.l (LO.ld O3 (.r rfl) (fun _ hw => cells_at hw 1 rfl ⟨_, rfl⟩)) rfl <| VO.l (LO.fa (r := 2) F27_2 (.r rfl) rfl) rfl <| VO.l (LO.fa (r := 3) F25_1 (.r rfl) rfl) rfl <| VO.l (LO.ld O3 (.r rfl) (fun _ hw => cells_at hw 1 rfl ⟨_, rfl⟩)) rfl <| VO.l (LO.gt (.r rfl) (.r rfl)) rfl <| VO.l (LO.mv (.r rfl)) rfl <| VO.lg rfl rfl (GD.f _) (fun hg => LO.fa (r := 0) F27_0 (.r rfl) rfl) rfl <| VO.lg rfl rfl (GD.f _) (fun hg => LO.ld O3 (.g hg rfl) (fun _ hw => cells_at hw 1 rfl ⟨_, rfl⟩)) rfl <| VO.lg rfl rfl (GD.f _) (fun hg => LO.lt (.g hg rfl) (.r rfl)) rfl <| VO.l (LO.pkO (.r rfl) (.r rfl) rfl rfl) rfl <| VO.l (LO.mv (.r rfl)) rfl <| VO.lg rfl rfl (GD.f _) (fun hg => LO.fa (r := 1) F27_1 (.r rfl) rfl) rfl <| VO.lg rfl rfl (GD.f _) (fun hg => LO.ld O3 (.g hg rfl) (fun _ hw => cells_at hw 1 rfl ⟨_, rfl⟩)) rfl <| VO.lg rfl rfl (GD.f _) (fun hg => LO.lt (.g hg rfl) (.r rfl)) rfl <| VO.l (LO.pkO (.r rfl) (.r rfl) rfl rfl) rfl <| VO.nil ?_)
      refine VE.seqN ?_
      refine VC.cond rfl (fun h48 => ?_) (fun h48 => ?_)
      ·
        (exfalso; omega)
      ·
        refine VC.skip (VE.seqN ?_)
        refine VC.seq ?_
        refine VC.reg (VO.l (LO.as (.r rfl)) rfl <| VO.nil ?_)
        refine VE.seqN ?_
        refine VC.seq ?_
        refine VC.seq ?_
        refine VC.reg (VO.l (LO.as (.r rfl)) rfl <| VO.nil ?_)
        refine VE.seqN ?_
        refine VC.block ?_
        refine VC.loopK (α := Nat × (List Sample) × (Option Addr) × Nat) 0 (fun gx => [(13, .slice gx.2.2.1 gx.2.1.length gx.2.2.2), (14, .int .i64 (gx.1 : Nat))]) [(2, _), (3, _), (4, _), (5, _), (6, _), (11, _)] (fun gx => [own 44 4 gx.2.2.1 gx.2.2.2 (gx.2.1.map smpC)]) (fun gx => gx.1 ≤ l.length ∧ gx.2.1 = (List.range gx.1).map (fun k => truthV (l.getD k zSm) r (pickQ ds k))) (fun gx => l.length - gx.1) (0, [], none, 0) (by exact ⟨Nat.zero_le _, rfl⟩) (.cons rfl (.cons rfl (.cons rfl (.cons rfl (.cons rfl (.cons rfl (.cons rfl (.cons rfl .nil)))))))) (fun _ h => (h.ownNil 44 4)) ?_
        rintro ⟨i, xs, px, cx⟩ ⟨hi, hX⟩
        show VC _ _ _ _ _ ([(13, .slice px xs.length cx), (14, .int .i64 (i : Nat))] ++ _) ([own 44 4 px cx (xs.map smpC)] ++ _) _ _
        dsimp only at hi hX
        have hxl : xs.length = i := by rw [hX]; simp
        refine VC.seq ?_
        refine VC.seq ?_
        refine VC.reg (VO.l (LO.mv (.r rfl)) rfl <| VO.l (LO.mv (.r rfl)) rfl <| VO.l (LO.len S28 (.r rfl) rfl) rfl <| VO.l (LO.lt (.r rfl) (.r rfl)) rfl <| VO.nil ?_)
        refine VE.seqN ?_
        refine VC.cond rfl (fun h4 => ?_) (fun h4 => ?_)
        ·
          refine VC.skip (VE.seqN ?_)
          refine VC.seq ?_
          refine VC.block ?_
          refine VC.seq ?_
          have hxi := hs _ (getD_mem (d := zSm) (show i < l.length by omega))
          refine VC.reg (VO.l (LO.bd (ps := []) (vs := []) (C := [_, _, _, _]) B71  trivial rfl rfl) rfl <| VO.h rfl <| HO.alloc (C := #[_, _, _, _]) Z71 rfl fun b6 => VO.h0 <| HO.st 0 (vs := [_, _, _, _]) (C' := [_, _, _, _]) (L' := [_, _, _, _, _]) N71 rfl rfl rfl rfl rfl rfl rfl rfl <| VO.nil ?_)
          refine VE.seqN ?_
          refine VC.seq ?_
          refine VC.seq ?_
          refine VC.reg (VO.l (LO.mv (.r rfl)) rfl <| VO.l (LO.len S69 (.r rfl) rfl) rfl <| VO.l (LO.gt (.r rfl) (.r rfl)) rfl <| VO.nil ?_)
          refine VE.seqN ?_
          refine VC.cond rfl (fun h58 => ?_) (fun h58 => ?_)
          ·
            have hmd : i % ds.length < ds.length := Nat.mod_lt _ (by omega)
            have hmod : (i : Int).tmod (ds.length : Int) = ((i % ds.length : Nat) : Int) := by rw [Int.tmod_eq_emod_of_nonneg (by omega)]; exact (Int.natCast_emod _ _).symm
            have hqi := hq _ (getD_mem (d := z4) hmd)
            refine VC.reg (VO.l (LO.mv (.r rfl)) rfl <| VO.l (LO.mv (.r rfl)) rfl <| VO.l (LO.mv (.r rfl)) rfl <| VO.l (LO.len S69 (.r rfl) rfl) rfl <| VO.l (LO.rem (.r rfl) (.r rfl) (by omega)) rfl <| VO.l (LO.ixs S69 N71 hd.sm (.r rfl) (.r rfl) hmod hmd) rfl <| VO.l (LO.lda (vs := [_, _, _, _]) A71 (.r rfl) (fun w hw => cells_part (off := 0) ((hd.at z4 (j := (i % ds.length)) hmd) w hw) ⟨_, rfl⟩) rfl) rfl <| VO.h0 <| HO.st 0 (vs := [_, _, _, _]) (C' := [_, _, _, _]) (L' := [_, _, _, _, _]) N71 rfl rfl rfl rfl rfl rfl rfl rfl <| VO.nil ?_)
            refine VE.seqN ?_
            refine VC.drawH [[0, 1, 2, 3, 4], [0, 1, 2, 3, 4], [0, 2, 3, 4], [0, 2, 3, 4]] [some 1, some 0, some 0, some 0, some 0, some 0, some 0, some 0, none, none, none] mixed (by kernel_rfl) rfl (LX.l (fun _ hJ => LO.mv (.r rfl)) rfl <| LX.l (fun _ hJ => LO.mv (.r rfl)) rfl <| LX.l (fun _ hJ => LO.mv (.r rfl)) rfl <| LX.l (fun _ hJ => LO.ixs S28 N44 hl.sm (.r rfl) (.r rfl) rfl (by omega)) rfl <| LX.l (fun _ hJ => LO.lda (vs := [_, _, _, _]) A44 (.r rfl) (fun w hw => cells_part (off := 0) ((hl.at zSm (j := i) (by omega)) w (hJ _ hw)) ⟨_, rfl⟩) rfl) rfl <| LX.l (fun _ hJ => LO.lda (vs := [_, _, _, _]) A27 (.r rfl) (fun _ hw => cells_at (hJ _ hw) 3 rfl ⟨_, rfl⟩) rfl) rfl <| LX.l (fun _ hJ => LO.lda (vs := [_, _, _, _]) A71 (.r rfl) (fun _ hw => cells_at (hJ _ hw) 0 rfl ⟨_, rfl⟩) rfl) rfl <| LX.l (fun _ hJ => LO.call (xs := [_, _, _]) (vs := [_, _, _]) C32 ⟨(.r rfl), (.r rfl), (.r rfl), trivial⟩ (fun w _ => truth_c (l.getD i zSm) r (ds.getD (i % ds.length) z4) w hxi hr hqi)) rfl <| LX.s <| LX.s <| LX.s <| LX.nil) (HX.s <| HX.s <| HX.s <| HX.s <| HX.s <| HX.s <| HX.s <| HX.s <| HX.h rfl <| HO.bs (ps := [(_, _)]) (vs := [(_, _)]) (Z := [_, _, _, _]) (C := [_, _, _, _]) S28 Z44 N44 ⟨(.r rfl), trivial⟩ rfl rfl rfl rfl ⟨_, [_, _, _, _], [_, _, _, _], rfl, rfl, rfl, rfl, rfl⟩ fun b10 => ⟨fun _ hw => hw.sel [1, 2, 3, 4, 5] rfl, HX.h rfl <| HO.appT ((truthV (l.getD i zSm) r (ds.getD (i % ds.length) z4))) 2 0 (fun R => [_, _, R, _, _, _]) S28 S28 I44 (.r rfl) (.r rfl) rfl rfl rfl rfl rfl rfl rfl (fun _ => rfl) rfl (by omega) fun p9 c9 => ⟨fun _ hw => hw.sel [1, 3, 4, 5] rfl, HX.h rfl <| HO.lo (LO.as (.r rfl)) <| ⟨fun _ hw => hw.sel [1, 3, 4, 5] rfl, HX.nil ?_⟩⟩⟩)
            refine VE.inN (VE.seqN ?_)
            refine VC.reg (VO.l (LO.mv (.r rfl)) rfl <| VO.l (LO.add (.r rfl) (.r rfl) (wi (by omega) (by omega))) rfl <| VO.l (LO.as (.r rfl)) rfl <| VO.nil ?_)
            refine VE.thenN fun a w ha hw => ⟨(i + 1, xs ++ [truthV (l.getD i zSm) r (ds.getD (i % ds.length) z4)], p9, c9), ⟨by dsimp only; omega, by dsimp only; rw [tr_step, ← hX]; first | rw [pick_t h58] | rw [← pick_f h58]⟩, (by dsimp only; omega), ha.sub (.cons rfl (.cons rfl (.cons rfl (.cons rfl (.cons rfl (.cons rfl (.cons rfl (.cons rfl .nil)))))))), hw.sel [2, 3, 4, 5] rfl⟩
          ·
            have hq4 : q4Ok z4 := by unfold q4Ok z4; dsimp only; omega
            refine VC.skip (VE.seqN ?_)
            refine VC.drawH [[0, 1, 2, 3, 4], [0, 1, 2, 3, 4], [0, 2, 3, 4], [0, 2, 3, 4]] [some 1, some 0, some 0, some 0, some 0, some 0, some 0, some 0, none, none, none] mixed (by kernel_rfl) rfl (LX.l (fun _ hJ => LO.mv (.r rfl)) rfl <| LX.l (fun _ hJ => LO.mv (.r rfl)) rfl <| LX.l (fun _ hJ => LO.mv (.r rfl)) rfl <| LX.l (fun _ hJ => LO.ixs S28 N44 hl.sm (.r rfl) (.r rfl) rfl (by omega)) rfl <| LX.l (fun _ hJ => LO.lda (vs := [_, _, _, _]) A44 (.r rfl) (fun w hw => cells_part (off := 0) ((hl.at zSm (j := i) (by omega)) w (hJ _ hw)) ⟨_, rfl⟩) rfl) rfl <| LX.l (fun _ hJ => LO.lda (vs := [_, _, _, _]) A27 (.r rfl) (fun _ hw => cells_at (hJ _ hw) 3 rfl ⟨_, rfl⟩) rfl) rfl <| LX.l (fun _ hJ => LO.lda (vs := [_, _, _, _]) A71 (.r rfl) (fun _ hw => cells_at (hJ _ hw) 0 rfl ⟨_, rfl⟩) rfl) rfl <| LX.l (fun _ hJ => LO.call (xs := [_, _, _]) (vs := [_, _, _]) C32 ⟨(.r rfl), (.r rfl), (.r rfl), trivial⟩ (fun w _ => truth_c (l.getD i zSm) r z4 w hxi hr hq4)) rfl <| LX.s <| LX.s <| LX.s <| LX.nil) (HX.s <| HX.s <| HX.s <| HX.s <| HX.s <| HX.s <| HX.s <| HX.s <| HX.h rfl <| HO.bs (ps := [(_, _)]) (vs := [(_, _)]) (Z := [_, _, _, _]) (C := [_, _, _, _]) S28 Z44 N44 ⟨(.r rfl), trivial⟩ rfl rfl rfl rfl ⟨_, [_, _, _, _], [_, _, _, _], rfl, rfl, rfl, rfl, rfl⟩ fun b12 => ⟨fun _ hw => hw.sel [1, 2, 3, 4, 5] rfl, HX.h rfl <| HO.appT ((truthV (l.getD i zSm) r z4)) 2 0 (fun R => [_, _, R, _, _, _]) S28 S28 I44 (.r rfl) (.r rfl) rfl rfl rfl rfl rfl rfl rfl (fun _ => rfl) rfl (by omega) fun p9 c9 => ⟨fun _ hw => hw.sel [1, 3, 4, 5] rfl, HX.h rfl <| HO.lo (LO.as (.r rfl)) <| ⟨fun _ hw => hw.sel [1, 3, 4, 5] rfl, HX.nil ?_⟩⟩⟩)
            refine VE.inN (VE.seqN ?_)
            refine VC.reg (VO.l (LO.mv (.r rfl)) rfl <| VO.l (LO.add (.r rfl) (.r rfl) (wi (by omega) (by omega))) rfl <| VO.l (LO.as (.r rfl)) rfl <| VO.nil ?_)
            refine VE.thenN fun a w ha hw => ⟨(i + 1, xs ++ [truthV (l.getD i zSm) r z4], p9, c9), ⟨by dsimp only; omega, by dsimp only; rw [tr_step, ← hX]; first | rw [pick_t h58] | rw [← pick_f h58]⟩, (by dsimp only; omega), ha.sub (.cons rfl (.cons rfl (.cons rfl (.cons rfl (.cons rfl (.cons rfl (.cons rfl (.cons rfl .nil)))))))), hw.sel [2, 3, 4, 5] rfl⟩
        ·
          refine VC.exit (VE.thenX (VE.thenX (VE.inX (VE.seqN ?_))))
          refine VC.seq ?_
          have hi2 : i = l.length := by omega
          subst hi2
          have hXs : xs = truthL l r ds := hX
          subst hXs
          have hm := tmod_in (a := nz) (b := r.nhi - r.nlo + 1) n0 (by omega)
          refine VC.drawH [[0, 1, 2, 3], [0, 1, 2, 3], [0, 1, 2, 3]] [some 1, some 1, some 1, some 1, some 1, some 1, some 1, some 1, some 1, some 1, some 1, some 1, some 1, some 1, some 1, some 1, some 1, some 1, some 1, some 1, some 1, some 1, some 2, none, none, some 2] mixed (by kernel_rfl) rfl (LX.l (fun _ hJ => LO.lda (vs := [_, _, _, _, _]) A23 (.r rfl) (fun _ hw => cells_at (hJ _ hw) 3 rfl ⟨_, rfl⟩) rfl) rfl <| LX.l (fun _ hJ => LO.fa (r := 2) F27_2 (.r rfl) rfl) rfl <| LX.l (fun _ hJ => LO.fa (r := 2) F25_0 (.r rfl) rfl) rfl <| LX.l (fun _ hJ => LO.ld O3 (.r rfl) (fun _ hw => cells_at (hJ _ hw) 2 rfl ⟨_, rfl⟩)) rfl <| LX.l (fun _ hJ => LO.mv (.r rfl)) rfl <| LX.l (fun _ hJ => LO.cv ⟨_, Try.underlying60⟩ Try.underlying3 (.r rfl) hcz) rfl <| LX.l (fun _ hJ => LO.fa (r := 2) F27_2 (.r rfl) rfl) rfl <| LX.l (fun _ hJ => LO.fa (r := 3) F25_1 (.r rfl) rfl) rfl <| LX.l (fun _ hJ => LO.ld O3 (.r rfl) (fun _ hw => cells_at (hJ _ hw) 2 rfl ⟨_, rfl⟩)) rfl <| LX.l (fun _ hJ => LO.fa (r := 2) F27_2 (.r rfl) rfl) rfl <| LX.l (fun _ hJ => LO.fa (r := 2) F25_0 (.r rfl) rfl) rfl <| LX.l (fun _ hJ => LO.ld O3 (.r rfl) (fun _ hw => cells_at (hJ _ hw) 2 rfl ⟨_, rfl⟩)) rfl <| LX.l (fun _ hJ => LO.sub (.r rfl) (.r rfl) (wi (by omega) (by omega))) rfl <| LX.l (fun _ hJ => LO.add (.r rfl) (.r rfl) (wi (by omega) (by omega))) rfl <| LX.l (fun _ hJ => LO.rem (.r rfl) (.r rfl) (by omega)) rfl <| LX.l (fun _ hJ => LO.add (.r rfl) (.r rfl) (wi (by omega) (by omega))) rfl <| LX.l (fun _ hJ => LO.call (xs := [_]) (vs := [_]) C33 ⟨(.r rfl), trivial⟩ (fun w _ => point_c _ w)) rfl <| LX.l (fun _ hJ => LO.bd (ps := [(_, _)]) (vs := [(_, _)]) (C := [_, _, _, _]) B27  ⟨(.r rfl), trivial⟩ rfl ⟨_, [_, _], [_, _, _, _], rfl, rfl, rfl, rfl, rfl⟩) rfl <| LX.l (fun _ hJ => LO.mv (.r rfl)) rfl <| LX.l (fun _ hJ => LO.call (xs := [_, _, _]) (vs := [_, _, _]) C16 ⟨(.r rfl), (.r rfl), (.r rfl), trivial⟩ (fun w hw => Hear_c t ⟨0, 0, (r.nlo + nz.tmod (r.nhi - r.nlo + 1)), (r.nlo + nz.tmod (r.nhi - r.nlo + 1))⟩ (truthL l r ds) _ _ w (by rw [truthL_len]; omega) (own_capS (hJ _ hw) 0 rfl) (RO.of_own (hJ _ hw) 0 rfl))) rfl <| LX.l (fun _ hJ => LO.mv (.r rfl)) rfl <| LX.l (fun _ hJ => LO.ex (.r rfl) rfl) rfl <| LX.l (fun _ hJ => LO.ex (.r rfl) rfl) rfl <| LX.s <| LX.s <| LX.l (fun _ hJ => LO.as (.r rfl)) rfl <| LX.nil) (HX.s <| HX.s <| HX.s <| HX.s <| HX.s <| HX.s <| HX.s <| HX.s <| HX.s <| HX.s <| HX.s <| HX.s <| HX.s <| HX.s <| HX.s <| HX.s <| HX.s <| HX.s <| HX.s <| HX.s <| HX.s <| HX.s <| HX.s <| HX.h rfl <| HO.alloc (C := #[_, _, _, _, _, _, _, _, _, _, _, _, _, _]) Z32 rfl fun b15 => ⟨fun _ hw => hw.sel [1, 2, 3, 4] rfl, HX.h0 <| HO.st 0 (vs := [_, _, _, _, _, _, _, _, _, _, _, _, _, _]) (C' := [_, _, _, _, _, _, _, _, _, _, _, _, _, _]) (L' := [_, _, _, _, _]) N32 rfl rfl rfl rfl rfl rfl rfl rfl <| ⟨fun _ hw => hw.sel [1, 2, 3, 4] rfl, HX.s <| HX.nil ?_⟩⟩)
          refine VE.seqN ?_
          refine VC.seq ?_
          refine VC.seq ?_
          have hT := hear_T (pt := (r.nlo + nz.tmod (r.nhi - r.nlo + 1))) h0 hq (by omega) (by omega)
          have hT5 := hT.2.2.2.2
          have sp1 := hearR_spread t ⟨0, 0, (r.nlo + nz.tmod (r.nhi - r.nlo + 1)), (r.nlo + nz.tmod (r.nhi - r.nlo + 1))⟩ (truthL l r ds)
          have sp2 := hearR_spread t r l
          refine VC.reg (VO.l (LO.mv (.r rfl)) rfl <| VO.l (LO.ne (.r rfl) (.r rfl)) rfl <| VO.l (LO.mv (.r rfl)) rfl <| VO.lg rfl rfl (GD.f _) (fun hg => LO.lda (vs := [_, _, _, _, _, _, _, _, _, _, _, _, _, _]) A32 (.r rfl) (fun _ hw => cells_at hw 0 rfl ⟨_, rfl⟩) rfl) rfl <| VO.lg rfl rfl (GD.f _) (fun hg => LO.lda (vs := [_, _, _, _, _, _, _, _, _, _, _, _, _, _]) A32 (.r rfl) (fun _ hw => cells_at hw 2 rfl ⟨_, rfl⟩) rfl) rfl <| VO.lg rfl rfl (GD.f _) (fun hg => LO.call (xs := [_, _]) (vs := [_, _]) C34 ⟨(.g hg rfl), (.g hg rfl), trivial⟩ (fun w _ => within2_c _ _ w hT.2.1 hT.2.2.1 hT.2.2.2.1)) rfl <| VO.lg rfl rfl (GD.f _) (fun hg => LO.not (.g hg rfl)) rfl <| VO.l (LO.pkO (.r rfl) (.r rfl) rfl rfl) rfl <| VO.nil ?_)
          refine VE.seqN ?_
          refine VC.cond rfl (fun h106 => ?_) (fun h106 => ?_)
          ·
            (exfalso; (simp [hT.1] at h106))
          ·
            refine VC.skip (VE.seqN ?_)
            refine VC.seq ?_
            refine VC.reg (VO.l (LO.fa (r := 7) F32_3 (.r rfl) rfl) rfl <| VO.l (LO.ld O3 (.r rfl) (fun _ hw => cells_at hw 0 rfl ⟨_, rfl⟩)) rfl <| VO.l (LO.fa (r := 7) F32_3 (.r rfl) rfl) rfl <| VO.l (LO.ld O3 (.r rfl) (fun _ hw => cells_at hw 2 rfl ⟨_, rfl⟩)) rfl <| VO.l (LO.sub (.r rfl) (.r rfl) (wi (by omega) (by omega))) rfl <| VO.l (LO.fa (r := 7) F32_3 (.r rfl) rfl) rfl <| VO.l (LO.ld O3 (.r rfl) (fun _ hw => cells_at hw 2 rfl ⟨_, rfl⟩)) rfl <| VO.l (LO.fa (r := 7) F32_3 (.r rfl) rfl) rfl <| VO.l (LO.ld O3 (.r rfl) (fun _ hw => cells_at hw 0 rfl ⟨_, rfl⟩)) rfl <| VO.l (LO.sub (.r rfl) (.r rfl) (wi (by omega) (by omega))) rfl <| VO.l (LO.max (.r rfl) (.r rfl)) rfl <| VO.l (LO.as (.r rfl)) rfl <| VO.nil ?_)
            refine VE.seqN ?_
            refine VC.seq ?_
            refine VC.reg (VO.l (LO.fa (r := 0) F32_0 (.r rfl) rfl) rfl <| VO.l (LO.ld O3 (.r rfl) (fun _ hw => cells_at hw 0 rfl ⟨_, rfl⟩)) rfl <| VO.l (LO.eq (.r rfl) (.r rfl)) rfl <| VO.l (LO.mv (.r rfl)) rfl <| VO.lg rfl rfl (GD.f _) (fun hg => LO.fa (r := 0) F32_0 (.r rfl) rfl) rfl <| VO.lg rfl rfl (GD.f _) (fun hg => LO.ld O3 (.g hg rfl) (fun _ hw => cells_at hw 2 rfl ⟨_, rfl⟩)) rfl <| VO.lg rfl rfl (GD.f _) (fun hg => LO.eq (.g hg rfl) (.r rfl)) rfl <| VO.l (LO.pkO (.r rfl) (.r rfl) rfl rfl) rfl <| VO.l (LO.mv (.r rfl)) rfl <| VO.lg rfl rfl (GD.f _) (fun hg => LO.mv (.r rfl)) rfl <| VO.lg rfl rfl (GD.f _) (fun hg => LO.fa (r := 1) F27_1 (.r rfl) rfl) rfl <| VO.lg rfl rfl (GD.f _) (fun hg => LO.ld O3 (.g hg rfl) (fun _ hw => cells_at hw 3 rfl ⟨_, rfl⟩)) rfl <| VO.lg rfl rfl (GD.f _) (fun hg => LO.mul (.r rfl) (.g hg rfl) (wi (by omega) (by omega))) rfl <| VO.lg rfl rfl (GD.f _) (fun hg => LO.le (.g hg rfl) (.g hg rfl)) rfl <| VO.l (LO.pkO (.r rfl) (.r rfl) rfl rfl) rfl <| VO.l (LO.mv (.r rfl)) rfl <| VO.lg rfl rfl (GD.t _) (fun hg => LO.call (xs := []) (vs := []) C15 trivial (fun w _ => works_c w)) rfl <| VO.l (LO.pkA (.r rfl) rfl rfl (.r rfl)) rfl <| VO.l (LO.as (.r rfl)) rfl <| VO.nil ?_)
            refine VE.seqN ?_
            refine VC.ret (VE.res (vs := [_]) rfl ⟨rfl, trivial⟩ (fun w hw => ?_))
            first | exact ⟨rfl, hw.nil⟩ | exact ⟨by simp [resV]; omega, hw.nil⟩

end Go.Proofs.Ytcnlhifkablmkaa
