/-
  The events of a step, as the document has them.
  (and more)
-/
import Derived.Test.YtdjflomhaljljaaGreatKKRUN07

set_option maxRecDepth 20000
set_option maxHeartbeats 8000000
namespace Go.Proofs.YtdjflomhaljljaaGreat
open Go.SL Go.Proofs Go.Cast
set_option linter.unusedVariables false
theorem B135 : Builds Tryz.prog 135 [(0,1), (1,1), (2,1), (3,1), (4,1), (5,1), (6,1)] [.int .i64 0, .int .i64 0, .int .i64 0, .int .i64 0, .int .i64 0, .int .i64 0, .int .i64 0] := Builds.mk fun _ => by kernel_rfl
theorem Z135 : ZeroOf Tryz.prog 135 (.agg #[.int .i64 0, .int .i64 0, .int .i64 0, .int .i64 0, .int .i64 0, .int .i64 0, .int .i64 0]) := by unfold ZeroOf; kernel_rfl
theorem N135 : (Tryz.prog.info? 135).map (·.size) = some 7 := by kernel_rfl
theorem F135_2 : FieldAt Tryz.prog 135 2 2 := ⟨_,_, Tryz.underlying135, rfl, rfl, 0, by kernel_rfl⟩
theorem F135_4 : FieldAt Tryz.prog 135 4 4 := ⟨_,_, Tryz.underlying135, rfl, rfl, 0, by kernel_rfl⟩
theorem F168_1 : FieldAt Tryz.prog 168 1 1 := ⟨_,_, Tryz.underlying168, rfl, rfl, 0, by kernel_rfl⟩
theorem F168_2 : FieldAt Tryz.prog 168 2 2 := ⟨_,_, Tryz.underlying168, rfl, rfl, 0, by kernel_rfl⟩
theorem F135_5 : FieldAt Tryz.prog 135 5 5 := ⟨_,_, Tryz.underlying135, rfl, rfl, 0, by kernel_rfl⟩
theorem F135_6 : FieldAt Tryz.prog 135 6 6 := ⟨_,_, Tryz.underlying135, rfl, rfl, 0, by kernel_rfl⟩
theorem A135 : IsAgg Tryz.prog 135 7 := ⟨⟨_, Tryz.underlying135, rfl⟩, by kernel_rfl⟩
theorem S60 : IsSlice Tryz.prog 60 135 := Tryz.underlying60
theorem I135 : EInfo Tryz.prog 135 7 56 (.agg #[.int .i64 0, .int .i64 0, .int .i64 0, .int .i64 0, .int .i64 0, .int .i64 0, .int .i64 0]) := ⟨by kernel_rfl, by kernel_rfl, by unfold ZeroOf; kernel_rfl, rfl, by decide⟩
theorem C69 : IsFn Tryz.prog 69 := ⟨_, Tryz.func69, by decide, rfl⟩
theorem runC_same {H : Int} {st : List Stp} {s : Stp} {cs : List Cs} {i : Nat} (h : lvS H i st = lvS H i (st ++ [s])) : runC H st s cs (i + 1) = runC H st s cs i := by
  conv => lhs; unfold runC stepC
  rw [if_pos h]
theorem runC_new {H : Int} {st : List Stp} {s : Stp} {cs : List Cs} {i : Nat} (h : ¬ lvS H i st = lvS H i (st ++ [s])) (h0 : lvS H i st = 0) : (runC H st s cs (i + 1)).length = (runC H st s cs i).length + 1 := by
  conv => lhs; unfold runC stepC
  rw [if_neg h, if_pos h0, List.length_append]; rfl
theorem runC_old {H : Int} {st : List Stp} {s : Stp} {cs : List Cs} {i : Nat} (h : ¬ lvS H i st = lvS H i (st ++ [s])) (h0 : ¬ lvS H i st = 0) : (runC H st s cs (i + 1)).length = (runC H st s cs i).length := by
  conv => lhs; unfold runC stepC
  rw [if_neg h, if_neg h0, List.length_map]
theorem runE_same {H : Int} {st : List Stp} {s : Stp} {cs : List Cs} {i : Nat} (h : lvS H i st = lvS H i (st ++ [s])) : runE H st s cs (i + 1) = runE H st s cs i := by
  conv => lhs; unfold runE stepE
  rw [if_pos h]
theorem runE_more {H : Int} {st : List Stp} {s : Stp} {cs : List Cs} {i : Nat} (h : ¬ lvS H i st = lvS H i (st ++ [s])) : runE H st s cs (i + 1) = runE H st s cs i ++ [evS i (lvS H i st) (lvS H i (st ++ [s])) s.t (s.th.getD i zT) (runC H st s cs i)] := by
  conv => lhs; unfold runE stepE
  rw [if_neg h]
theorem evS_is {k : Nat} {b n T : Int} {t : Thr} {cs : List Cs} {kd nm ld px : Int} (hn : 0 ≤ n) (hne : ¬ b = n) (hk : (b = 0 ∧ kd = 1 ∧ nm = cs.length + 1) ∨ (b ≠ 0 ∧ nm = openNm k cs ∧ ((n = 0 ∧ kd = 2) ∨ (n ≠ 0 ∧ b < n ∧ kd = 3) ∨ (n ≠ 0 ∧ ¬ b < n ∧ kd = 4)))) (hb : 0 ≤ b) (hl : (b < n ∧ ld = t.ld ∧ px = t.px) ∨ (¬ b < n ∧ ld = -1 ∧ px = -1)) : evS k b n T t cs = ⟨T, k, kd, n, nm, ld, px⟩ := by
  unfold evS meetEv meetK
  simp only [Ev.mk.injEq, true_and]
  refine ⟨?_, ?_, ?_, ?_⟩
  · rcases hk with ⟨h1, h2,_⟩ | ⟨h1,_, h2⟩
    · rw [if_pos (by omega), if_pos h1, h2]
    · rcases h2 with ⟨h3, h4⟩ | ⟨h3, h5, h4⟩ | ⟨h3, h5, h4⟩
      · rw [if_neg (by omega), if_pos h3, h4]
      · rw [if_pos h5, if_neg h1, h4]
      · rw [if_neg h5, if_neg h3, h4]
  · rcases hk with ⟨h1,_, h2⟩ | ⟨h1, h2,_⟩
    · rw [if_pos h1, h2]
    · rw [if_neg h1, h2]
  · rcases hl with ⟨h1, h2,_⟩ | ⟨h1, h2,_⟩
    · rw [if_pos h1, h2]
    · rw [if_neg h1, h2]
  · rcases hl with ⟨h1,_, h2⟩ | ⟨h1,_, h2⟩
    · rw [if_pos h1, h2]
    · rw [if_neg h1, h2]
theorem events_c (o : DoM) (st : List Stp) (s : Stp) (w : World) (hd : DoS o (st ++ [s])) (hh : Has w (dofR o)) :
 Calls Tryz.prog 45 #[ptrN o.b, .int .i64 (st.length : Nat), .int .i64 ((csF o.hold o.rg.length st).length : Nat)] w fun e w' => ∃ x : Option Addr × Nat, True ∧ e = .returned (.tuple #[.slice x.1 (evF o.hold o.rg.length st s).length x.2, .int .i64 ((runC o.hold st s (csF o.hold o.rg.length st) o.rg.length).length : Nat)]) ∧ St (bs w) [own 135 7 x.1 x.2 ((evF o.hold o.rg.length st s).map evC)] w' := by
 have hTs : RO 1 iC w o.pt o.ts := RO.of_own hh 5 rfl
 have hTh := dof_rows hh
 have htl := hd.tsl
 have hhl := hd.thl
 obtain ⟨hh0, hh1⟩ := hd.hd
 have hsl := hd.len
 obtain ⟨hrn0, hrn1⟩ := hd.rn
 rw [List.length_append, List.length_singleton] at htl hhl hsl
 have htt : s.t = o.ts.getD st.length 0 := by rw [hd.tget (by rw [List.length_append]; exact Nat.le_refl _), getD_snoc]
 have hths : (o.th.getD st.length RowA.z).l = s.th := by rw [hd.thget (by rw [List.length_append]; exact Nat.le_refl _), getD_snoc]
 have hrl := hd.rl s (by simp)
 rw [← hths] at hrl
 have hte := (hTh.2 _ (getD_mem (d := RowA.z) (l := o.th) (j := st.length) (by omega))).2
 have hcb : (csF o.hold o.rg.length st).length ≤ 8192 := by have z := csF_bd hd (m := st.length); rw [List.take_left] at z; exact z
 refine enter (vs := [_,_,_]) (env := [(0,_), (1,_), (2,_)]) Tryz.func45 rfl rfl rfl rfl ?_
 refine VC.q (VO.a rfl rfl<|VO.a rfl rfl<|VO.n<|VC.q (VO.a rfl rfl<|VO.n<|VC.seq<|VC.q (VO.a rfl rfl<|VO.n<|VC.block<|VC.loopK (α := Nat × (List Ev) × (Option Addr) × Nat) 0 (fun gx => [(2, .int .i64 ((runC o.hold st s (csF o.hold o.rg.length st) gx.1).length : Nat)), (8, .slice gx.2.2.1 gx.2.1.length gx.2.2.2), (9, .int .i64 (gx.1 : Nat))]) [(0,_), (1,_)] (fun gx => [own 135 7 gx.2.2.1 gx.2.2.2 (gx.2.1.map evC)]) (fun gx => (gx.1 ≤ o.rg.length ∧ gx.2.1.length ≤ gx.1) ∧ gx.2.1 = runE o.hold st s (csF o.hold o.rg.length st) gx.1) (fun gx => o.rg.length - gx.1) (0, [], none, 0) (by exact ⟨⟨Nat.zero_le _, Nat.zero_le _⟩, rfl⟩) (.c4 rfl rfl rfl rfl (.cons rfl .nil)) (fun _ h => (h.ownNil 135 7)) ?_)))
 rintro ⟨i, es, pe_, ce_⟩ ⟨⟨hi, hel⟩, hES⟩
 show VC _ _ _ _ _ ([(2, .int .i64 ((runC o.hold st s (csF o.hold o.rg.length st) i).length : Nat)), (8, .slice pe_ es.length ce_), (9, .int .i64 (i : Nat))] ++ _) ([own 135 7 pe_ ce_ (es.map evC)] ++ _) _ _
 dsimp only at hi hel hES
 refine VC.seq<|VC.q (VO.m rfl rfl<|VO.m rfl rfl<|VO.l (LO.nc (.r rfl)) rfl<|VO.f (r := 0) F103_0 rfl rfl rfl<|VO.f (r := 5) F42_1 rfl rfl rfl<|VO.l (LO.ld O39 (.r rfl) (cells_keep (sub_cells (off := 5) (dof_cells hh) ⟨_, rfl⟩))) rfl<|VO.l (LO.len S39 (.r rfl) rfl) rfl<|VO.t rfl rfl rfl<|VO.n<|VC.cond rfl (fun h20 => ?_) (fun h20 => ?_))
 ·
  have hil : i < o.rg.length := by omega
  have hlv0 := lvS_nn (H := o.hold) (k := i) (st := st)
  have hlv1 := lvS_nn (H := o.hold) (k := i) (st := st ++ [s])
  have hthr : s.th.getD i zT = (o.th.getD st.length RowA.z).l.getD i zT := by rw [hths]
  have hrcl := runC_len (H := o.hold) (st := st) (s := s) (cs := (csF o.hold o.rg.length st)) i
  refine VC.skip (VE.seqN<|VC.seq<|VC.block<|VC.q (VO.m rfl rfl<|VO.m rfl rfl<|VO.m rfl rfl<|VO.l (LO.sub (.r rfl) (.r rfl) (wi (by omega) (by omega))) rfl<|VO.l (LO.call (xs := [_,_,_]) (vs := [_,_,_]) C68 ⟨(.r rfl), (.r rfl), (.r rfl), trivial⟩ (fun w hw => by have z := rlevel_c o (st ++ [s]) i st.length w hd (by omega) (by rw [List.length_append]; omega) (hh.keep hw); rw [List.take_left] at z; exact z)) rfl<|VO.m rfl rfl<|VO.m rfl rfl<|VO.m rfl rfl<|VO.l (LO.call (xs := [_,_,_]) (vs := [_,_,_]) C68 ⟨(.r rfl), (.r rfl), (.r rfl), trivial⟩ (fun w hw => by have z := rlevel_c o (st ++ [s]) i (st.length + 1) w hd (by omega) (by rw [List.length_append]; exact Nat.le_refl _) (hh.keep hw); rw [show (((st.length + 1 : Nat) : Int) - 1) = (st.length : Int) by omega, show (st ++ [s]).take (st.length + 1) = st ++ [s] by rw [List.take_of_length_le (by rw [List.length_append]; exact Nat.le_refl _)]] at z; exact z)) rfl<|VO.a rfl rfl<|VO.a rfl rfl<|VO.n<|VC.seq<|VC.q (VO.m rfl rfl<|VO.m rfl rfl<|VO.l (LO.eq (.r rfl) (.r rfl)) rfl<|VO.n<|VC.cond rfl (fun h34 => ?_) (fun h34 => ?_))))
  ·
   have hv : ((runC o.hold st s (csF o.hold o.rg.length st) (i + 1)).length : Int) = ((runC o.hold st s (csF o.hold o.rg.length st) i).length : Int) := by rw [runC_same h34]
   refine VC.exit (VE.thenX (VE.inX (VE.seqN<|VC.reg (VO.m rfl rfl<|VO.p rfl rfl (by omega) (by omega) rfl<|VO.a rfl rfl<|VO.nil<|VE.thenN fun a w ha hw => ⟨(i + 1, es, pe_, ce_), ⟨⟨by dsimp only; omega, by dsimp only; omega⟩, by dsimp only; rw [runE_same h34]; exact hES⟩, (by dsimp only; omega), ha.sub (.cons (congrArg (fun z => some (Value.int .i64 z)) hv.symm) (.c4 rfl rfl rfl rfl .nil)), (by exact selK (L1 := [_]) [0] rfl rfl _ hw)⟩))))
  ·
   refine VC.skip (VE.seqN<|VC.q (VO.m rfl rfl<|VO.l (LO.nc (.r rfl)) rfl<|VO.f (r := 10) F103_2 rfl rfl rfl<|VO.l (LO.ld O72 (.r rfl) (cells_keep (sub_cells (off := 10) (dof_cells hh) ⟨_, rfl⟩))) rfl<|VO.m rfl rfl<|VO.l (LO.ixs S72 N3 hTs.sm (.r rfl) (.r rfl) rfl (by omega)) rfl<|VO.l (LO.ld O3 (.r rfl) (fun w hw => cells_part (off := 0) ((hTs.at 0 (j := st.length) (by omega)) w hw) ⟨_, rfl⟩)) rfl<|VO.m rfl rfl<|VO.m rfl rfl<|VO.l (LO.bd (ps := [(_,_), (_,_), (_,_), (_,_), (_,_)]) (vs := [(_,_), (_,_), (_,_), (_,_), (_,_)]) (C := [_,_,_,_,_,_,_]) B135  ⟨(.r rfl), (.r rfl), (.r rfl), (.r rfl), (.r rfl), trivial⟩ rfl ⟨_, [_], [_,_,_,_,_,_,_], rfl, rfl, rfl, rfl, ⟨_, [_], [_,_,_,_,_,_,_], rfl, rfl, rfl, rfl, ⟨_, [_], [_,_,_,_,_,_,_], rfl, rfl, rfl, rfl, ⟨_, [_], [_,_,_,_,_,_,_], rfl, rfl, rfl, rfl, ⟨_, [_], [_,_,_,_,_,_,_], rfl, rfl, rfl, rfl, rfl⟩⟩⟩⟩⟩) rfl<|VO.h rfl<|HO.alloc (C := #[_,_,_,_,_,_,_]) Z135 rfl fun b2 => VO.h0<|HO.st 0 (vs := [_,_,_,_,_,_,_]) (C' := [_,_,_,_,_,_,_]) (L' := [_,_]) N135 rfl rfl rfl rfl rfl rfl rfl rfl<|VO.n<|VC.seq<|VC.block<|VC.q (VO.m rfl rfl<|VO.l (LO.eq (.r rfl) (.r rfl)) rfl<|VO.a rfl rfl<|VO.n<|VC.cond rfl (fun h46 => ?_) (fun h46 => ?_))))
   ·
    have hv : ((runC o.hold st s (csF o.hold o.rg.length st) (i + 1)).length : Int) = ((runC o.hold st s (csF o.hold o.rg.length st) i).length : Int) + 1 := by rw [runC_new h34 h46]; rfl
    refine VC.q (VO.f (r := 2) F135_2 rfl rfl rfl<|VO.h0<|HO.st 0 (vs := [_]) (C' := [_,_,_,_,_,_,_]) (L' := [_,_]) N3 rfl rfl rfl rfl rfl rfl rfl rfl<|VO.n<|VC.q (VO.m rfl rfl<|VO.p rfl rfl (by omega) (by omega) rfl<|VO.a rfl rfl<|VO.n<|VC.reg (VO.m rfl rfl<|VO.f (r := 4) F135_4 rfl rfl rfl<|VO.h0<|HO.st 0 (vs := [_]) (C' := [_,_,_,_,_,_,_]) (L' := [_,_]) N3 rfl rfl rfl rfl rfl rfl rfl rfl<|VO.nil<|VE.inN (VE.seqN<|VC.seq<|VC.q (VO.m rfl rfl<|VO.m rfl rfl<|VO.l (LO.gt (.r rfl) (.r rfl)) rfl<|VO.n<|VC.cond rfl (fun h65 => ?_) (fun h65 => ?_))))))
    ·
     refine VC.drawH [[0,1], [1], [1]] [some 0, some 0, some 0, some 0, some 0, some 0, some 0, some 0, some 0, some 0, some 0, some 1, some 1, some 1, some 1, some 1, some 1, some 1, some 1, some 1, some 1, some 1, some 0, none, some 1, none] mixed (by kernel_rfl) rfl (LX.m rfl rfl<|LX.l (fun _ hJ => LO.nc (.r rfl)) rfl<|LX.l (fun _ hJ => LO.fa (r := 11) F103_3 (.r rfl) rfl) rfl<|LX.l (fun _ hJ => LO.ld O101 (.r rfl) (cells_keep (sub_cells (off := 11) (dof_cells hh) ⟨_, rfl⟩))) rfl<|LX.m rfl rfl<|LX.l (fun _ hJ => LO.ixs S101 N131 hTh.1.sm (.r rfl) (.r rfl) rfl (by omega)) rfl<|LX.l (fun _ hJ => LO.ld O131 (.r rfl) (fun w hw => cells_part (off := 0) ((hTh.1.at RowA.z (j := st.length) (by omega)) w (hJ _ hw)) ⟨_, rfl⟩)) rfl<|LX.m rfl rfl<|LX.l (fun _ hJ => LO.ixs S131 N168 hte.sm (.r rfl) (.r rfl) rfl (by omega)) rfl<|LX.l (fun _ hJ => LO.fa F168_1 (.r rfl) rfl) rfl<|LX.l (fun _ hJ => LO.ld O3 (.r rfl) (fun w hw => cells_part (off := 1) ((hte.at zT (j := i) (by omega)) w (hJ _ hw)) ⟨_, rfl⟩)) rfl<|LX.m rfl rfl<|LX.l (fun _ hJ => LO.nc (.r rfl)) rfl<|LX.l (fun _ hJ => LO.fa (r := 11) F103_3 (.r rfl) rfl) rfl<|LX.l (fun _ hJ => LO.ld O101 (.r rfl) (cells_keep (sub_cells (off := 11) (dof_cells hh) ⟨_, rfl⟩))) rfl<|LX.m rfl rfl<|LX.l (fun _ hJ => LO.ixs S101 N131 hTh.1.sm (.r rfl) (.r rfl) rfl (by omega)) rfl<|LX.l (fun _ hJ => LO.ld O131 (.r rfl) (fun w hw => cells_part (off := 0) ((hTh.1.at RowA.z (j := st.length) (by omega)) w (hJ _ hw)) ⟨_, rfl⟩)) rfl<|LX.m rfl rfl<|LX.l (fun _ hJ => LO.ixs S131 N168 hte.sm (.r rfl) (.r rfl) rfl (by omega)) rfl<|LX.l (fun _ hJ => LO.fa F168_2 (.r rfl) rfl) rfl<|LX.l (fun _ hJ => LO.ld O3 (.r rfl) (fun w hw => cells_part (off := 2) ((hte.at zT (j := i) (by omega)) w (hJ _ hw)) ⟨_, rfl⟩)) rfl<|LX.l (fun _ hJ => LO.fa (r := 5) F135_5 (.r rfl) rfl) rfl<|LX.s<|LX.l (fun _ hJ => LO.fa (r := 6) F135_6 (.r rfl) rfl) rfl<|LX.s<|LX.nil) (HX.s<|HX.s<|HX.s<|HX.s<|HX.s<|HX.s<|HX.s<|HX.s<|HX.s<|HX.s<|HX.s<|HX.s<|HX.s<|HX.s<|HX.s<|HX.s<|HX.s<|HX.s<|HX.s<|HX.s<|HX.s<|HX.s<|HX.s<|HX.h0<|HO.st 0 (vs := [_]) (C' := [_,_,_,_,_,_,_]) (L' := [_,_]) N3 rfl rfl rfl rfl rfl rfl rfl rfl<|⟨fun _ hw => hw.sel [1] rfl, HX.s<|HX.h0<|HO.st 0 (vs := [_]) (C' := [_,_,_,_,_,_,_]) (L' := [_,_]) N3 rfl rfl rfl rfl rfl rfl rfl rfl<|⟨fun _ hw => hw.sel [1] rfl, HX.nil ?_⟩⟩)
     refine VE.seqN<|VC.seq<|VC.q (VO.f (r := 2) F135_2 rfl rfl rfl<|VO.c 0 O3 rfl rfl ⟨_, rfl⟩ rfl<|VO.u rfl rfl rfl<|VO.n<|VC.cond rfl (fun h92 => ?_) (fun h92 => ?_))
     · (exfalso; exact h92 rfl)
     ·
      refine VC.skip (VE.seqN<|VC.reg (VO.m rfl rfl<|VO.l (LO.lda (vs := [_,_,_,_,_,_,_]) A135 (.r rfl) (cells_blk 0 rfl ⟨_, rfl⟩) rfl) rfl<|VO.h rfl<|HO.bs (ps := [(_,_)]) (vs := [(_,_)]) (Z := [_,_,_,_,_,_,_]) (C := [_,_,_,_,_,_,_]) S60 Z135 N135 ⟨(.r rfl), trivial⟩ rfl rfl rfl rfl ⟨_, [_,_,_,_,_,_,_], [_,_,_,_,_,_,_], rfl, rfl, rfl, rfl, rfl⟩ fun b10 => VO.h rfl<|HO.appT ((Ev.mk (o.ts.getD st.length 0) (i : Int) 1 (lvS o.hold i (st ++ [s])) (((runC o.hold st s (csF o.hold o.rg.length st) i).length : Int) + 1) ((o.th.getD st.length RowA.z).l.getD i zT).ld ((o.th.getD st.length RowA.z).l.getD i zT).px)) 2 0 (fun R => [_,_, R]) S60 S60 I135 (.r rfl) (.r rfl) rfl rfl rfl rfl rfl rfl rfl (fun _ => rfl) rfl (by omega) fun p3 c3 => VO.h rfl<|HO.lo (LO.as (.r rfl))<|VO.nil<|VE.inN (VE.seqN<|VC.reg (VO.m rfl rfl<|VO.p rfl rfl (by omega) (by omega) rfl<|VO.a rfl rfl<|VO.nil<|VE.thenN fun a w ha hw => ⟨(i + 1, es ++ [(Ev.mk (o.ts.getD st.length 0) (i : Int) 1 (lvS o.hold i (st ++ [s])) (((runC o.hold st s (csF o.hold o.rg.length st) i).length : Int) + 1) ((o.th.getD st.length RowA.z).l.getD i zT).ld ((o.th.getD st.length RowA.z).l.getD i zT).px)], p3, c3), ⟨⟨by dsimp only; omega, by dsimp only; rw [List.length_append, List.length_singleton]; omega⟩, by dsimp only; rw [runE_more h34, ← hES, hthr, htt]; rw [evS_is (hlv1) h34 (.inl ⟨h46, rfl, rfl⟩) hlv0 (.inl ⟨h65, rfl, rfl⟩)]⟩, (by dsimp only; omega), ha.sub (.cons (congrArg (fun z => some (Value.int .i64 z)) hv.symm) (.c4 rfl rfl rfl rfl .nil)), (by exact selK (L1 := [_]) [2] rfl rfl _ hw)⟩))))
    ·
     refine VC.skip (VE.seqN<|VC.seq<|VC.q (VO.f (r := 2) F135_2 rfl rfl rfl<|VO.c 0 O3 rfl rfl ⟨_, rfl⟩ rfl<|VO.u rfl rfl rfl<|VO.n<|VC.cond rfl (fun h92 => ?_) (fun h92 => ?_)))
     · (exfalso; exact h92 rfl)
     ·
      refine VC.skip (VE.seqN<|VC.reg (VO.m rfl rfl<|VO.l (LO.lda (vs := [_,_,_,_,_,_,_]) A135 (.r rfl) (cells_blk 0 rfl ⟨_, rfl⟩) rfl) rfl<|VO.h rfl<|HO.bs (ps := [(_,_)]) (vs := [(_,_)]) (Z := [_,_,_,_,_,_,_]) (C := [_,_,_,_,_,_,_]) S60 Z135 N135 ⟨(.r rfl), trivial⟩ rfl rfl rfl rfl ⟨_, [_,_,_,_,_,_,_], [_,_,_,_,_,_,_], rfl, rfl, rfl, rfl, rfl⟩ fun b11 => VO.h rfl<|HO.appT ((Ev.mk (o.ts.getD st.length 0) (i : Int) 1 (lvS o.hold i (st ++ [s])) (((runC o.hold st s (csF o.hold o.rg.length st) i).length : Int) + 1) (-1) (-1))) 2 0 (fun R => [_,_, R]) S60 S60 I135 (.r rfl) (.r rfl) rfl rfl rfl rfl rfl rfl rfl (fun _ => rfl) rfl (by omega) fun p3 c3 => VO.h rfl<|HO.lo (LO.as (.r rfl))<|VO.nil<|VE.inN (VE.seqN<|VC.reg (VO.m rfl rfl<|VO.p rfl rfl (by omega) (by omega) rfl<|VO.a rfl rfl<|VO.nil<|VE.thenN fun a w ha hw => ⟨(i + 1, es ++ [(Ev.mk (o.ts.getD st.length 0) (i : Int) 1 (lvS o.hold i (st ++ [s])) (((runC o.hold st s (csF o.hold o.rg.length st) i).length : Int) + 1) (-1) (-1))], p3, c3), ⟨⟨by dsimp only; omega, by dsimp only; rw [List.length_append, List.length_singleton]; omega⟩, by dsimp only; rw [runE_more h34, ← hES, hthr, htt]; rw [evS_is (hlv1) h34 (.inl ⟨h46, rfl, rfl⟩) hlv0 (.inr ⟨h65, rfl, rfl⟩)]⟩, (by dsimp only; omega), ha.sub (.cons (congrArg (fun z => some (Value.int .i64 z)) hv.symm) (.c4 rfl rfl rfl rfl .nil)), (by exact selK (L1 := [_]) [2] rfl rfl _ hw)⟩))))
   ·
    have hlast := last_ev hd hil h46
    have hv : ((runC o.hold st s (csF o.hold o.rg.length st) (i + 1)).length : Int) = ((runC o.hold st s (csF o.hold o.rg.length st) i).length : Int) := by rw [runC_old h34 h46]
    refine VC.q (VO.m rfl rfl<|VO.l (LO.eq (.r rfl) (.r rfl)) rfl<|VO.a rfl rfl<|VO.n<|VC.cond rfl (fun h54 => ?_) (fun h54 => ?_))
    ·
     refine VC.reg (VO.f (r := 2) F135_2 rfl rfl rfl<|VO.h0<|HO.st 0 (vs := [_]) (C' := [_,_,_,_,_,_,_]) (L' := [_,_]) N3 rfl rfl rfl rfl rfl rfl rfl rfl<|VO.nil<|VE.inN (VE.seqN<|VC.seq<|VC.q (VO.m rfl rfl<|VO.m rfl rfl<|VO.l (LO.gt (.r rfl) (.r rfl)) rfl<|VO.n<|VC.cond rfl (fun h65 => ?_) (fun h65 => ?_))))
     ·
      refine VC.drawH [[0,1], [1], [1]] [some 0, some 0, some 0, some 0, some 0, some 0, some 0, some 0, some 0, some 0, some 0, some 1, some 1, some 1, some 1, some 1, some 1, some 1, some 1, some 1, some 1, some 1, some 0, none, some 1, none] mixed (by kernel_rfl) rfl (LX.m rfl rfl<|LX.l (fun _ hJ => LO.nc (.r rfl)) rfl<|LX.l (fun _ hJ => LO.fa (r := 11) F103_3 (.r rfl) rfl) rfl<|LX.l (fun _ hJ => LO.ld O101 (.r rfl) (cells_keep (sub_cells (off := 11) (dof_cells hh) ⟨_, rfl⟩))) rfl<|LX.m rfl rfl<|LX.l (fun _ hJ => LO.ixs S101 N131 hTh.1.sm (.r rfl) (.r rfl) rfl (by omega)) rfl<|LX.l (fun _ hJ => LO.ld O131 (.r rfl) (fun w hw => cells_part (off := 0) ((hTh.1.at RowA.z (j := st.length) (by omega)) w (hJ _ hw)) ⟨_, rfl⟩)) rfl<|LX.m rfl rfl<|LX.l (fun _ hJ => LO.ixs S131 N168 hte.sm (.r rfl) (.r rfl) rfl (by omega)) rfl<|LX.l (fun _ hJ => LO.fa F168_1 (.r rfl) rfl) rfl<|LX.l (fun _ hJ => LO.ld O3 (.r rfl) (fun w hw => cells_part (off := 1) ((hte.at zT (j := i) (by omega)) w (hJ _ hw)) ⟨_, rfl⟩)) rfl<|LX.m rfl rfl<|LX.l (fun _ hJ => LO.nc (.r rfl)) rfl<|LX.l (fun _ hJ => LO.fa (r := 11) F103_3 (.r rfl) rfl) rfl<|LX.l (fun _ hJ => LO.ld O101 (.r rfl) (cells_keep (sub_cells (off := 11) (dof_cells hh) ⟨_, rfl⟩))) rfl<|LX.m rfl rfl<|LX.l (fun _ hJ => LO.ixs S101 N131 hTh.1.sm (.r rfl) (.r rfl) rfl (by omega)) rfl<|LX.l (fun _ hJ => LO.ld O131 (.r rfl) (fun w hw => cells_part (off := 0) ((hTh.1.at RowA.z (j := st.length) (by omega)) w (hJ _ hw)) ⟨_, rfl⟩)) rfl<|LX.m rfl rfl<|LX.l (fun _ hJ => LO.ixs S131 N168 hte.sm (.r rfl) (.r rfl) rfl (by omega)) rfl<|LX.l (fun _ hJ => LO.fa F168_2 (.r rfl) rfl) rfl<|LX.l (fun _ hJ => LO.ld O3 (.r rfl) (fun w hw => cells_part (off := 2) ((hte.at zT (j := i) (by omega)) w (hJ _ hw)) ⟨_, rfl⟩)) rfl<|LX.l (fun _ hJ => LO.fa (r := 5) F135_5 (.r rfl) rfl) rfl<|LX.s<|LX.l (fun _ hJ => LO.fa (r := 6) F135_6 (.r rfl) rfl) rfl<|LX.s<|LX.nil) (HX.s<|HX.s<|HX.s<|HX.s<|HX.s<|HX.s<|HX.s<|HX.s<|HX.s<|HX.s<|HX.s<|HX.s<|HX.s<|HX.s<|HX.s<|HX.s<|HX.s<|HX.s<|HX.s<|HX.s<|HX.s<|HX.s<|HX.s<|HX.h0<|HO.st 0 (vs := [_]) (C' := [_,_,_,_,_,_,_]) (L' := [_,_]) N3 rfl rfl rfl rfl rfl rfl rfl rfl<|⟨fun _ hw => hw.sel [1] rfl, HX.s<|HX.h0<|HO.st 0 (vs := [_]) (C' := [_,_,_,_,_,_,_]) (L' := [_,_]) N3 rfl rfl rfl rfl rfl rfl rfl rfl<|⟨fun _ hw => hw.sel [1] rfl, HX.nil ?_⟩⟩)
      refine VE.seqN<|VC.seq<|VC.q (VO.f (r := 2) F135_2 rfl rfl rfl<|VO.c 0 O3 rfl rfl ⟨_, rfl⟩ rfl<|VO.u rfl rfl rfl<|VO.n<|VC.cond rfl (fun h92 => ?_) (fun h92 => ?_))
      ·
       refine VC.reg (VO.m rfl rfl<|VO.m rfl rfl<|VO.m rfl rfl<|VO.l (LO.sub (.r rfl) (.r rfl) (wi (by omega) (by omega))) rfl<|VO.l (LO.call (xs := [_,_,_]) (vs := [_,_,_]) C69 ⟨(.r rfl), (.r rfl), (.r rfl), trivial⟩ (fun w hw => by have z := last_c o (st ++ [s]) i st.length w hd (by rw [List.length_append]; omega) (hh.keep hw); rw [List.take_left] at z; exact z)) rfl<|VO.f (r := 4) F135_4 rfl rfl rfl<|VO.h0<|HO.st 0 (vs := [_]) (C' := [_,_,_,_,_,_,_]) (L' := [_,_]) N3 rfl rfl rfl rfl rfl rfl rfl rfl<|VO.n<|VC.reg (VO.m rfl rfl<|VO.l (LO.lda (vs := [_,_,_,_,_,_,_]) A135 (.r rfl) (cells_blk 0 rfl ⟨_, rfl⟩) rfl) rfl<|VO.h rfl<|HO.bs (ps := [(_,_)]) (vs := [(_,_)]) (Z := [_,_,_,_,_,_,_]) (C := [_,_,_,_,_,_,_]) S60 Z135 N135 ⟨(.r rfl), trivial⟩ rfl rfl rfl rfl ⟨_, [_,_,_,_,_,_,_], [_,_,_,_,_,_,_], rfl, rfl, rfl, rfl, rfl⟩ fun b18 => VO.h rfl<|HO.appT ((Ev.mk (o.ts.getD st.length 0) (i : Int) 2 (lvS o.hold i (st ++ [s])) (lastNm i (csF o.hold o.rg.length st)) ((o.th.getD st.length RowA.z).l.getD i zT).ld ((o.th.getD st.length RowA.z).l.getD i zT).px)) 2 0 (fun R => [_,_, R]) S60 S60 I135 (.r rfl) (.r rfl) rfl rfl rfl rfl rfl rfl rfl (fun _ => rfl) rfl (by omega) fun p3 c3 => VO.h rfl<|HO.lo (LO.as (.r rfl))<|VO.nil<|VE.inN (VE.seqN<|VC.reg (VO.m rfl rfl<|VO.p rfl rfl (by omega) (by omega) rfl<|VO.a rfl rfl<|VO.nil<|VE.thenN fun a w ha hw => ⟨(i + 1, es ++ [(Ev.mk (o.ts.getD st.length 0) (i : Int) 2 (lvS o.hold i (st ++ [s])) (lastNm i (csF o.hold o.rg.length st)) ((o.th.getD st.length RowA.z).l.getD i zT).ld ((o.th.getD st.length RowA.z).l.getD i zT).px)], p3, c3), ⟨⟨by dsimp only; omega, by dsimp only; rw [List.length_append, List.length_singleton]; omega⟩, by dsimp only; rw [runE_more h34, ← hES, hthr, htt]; rw [evS_is (hlv1) h34 (.inr ⟨h46, hlast, .inl ⟨h54, rfl⟩⟩) hlv0 (.inl ⟨h65, rfl, rfl⟩)]⟩, (by dsimp only; omega), ha.sub (.cons (congrArg (fun z => some (Value.int .i64 z)) hv.symm) (.c4 rfl rfl rfl rfl .nil)), (by exact selK (L1 := [_]) [2] rfl rfl _ hw)⟩))))
      · (exfalso; revert h92; decide)
     ·
      refine VC.skip (VE.seqN<|VC.seq<|VC.q (VO.f (r := 2) F135_2 rfl rfl rfl<|VO.c 0 O3 rfl rfl ⟨_, rfl⟩ rfl<|VO.u rfl rfl rfl<|VO.n<|VC.cond rfl (fun h92 => ?_) (fun h92 => ?_)))
      ·
       refine VC.reg (VO.m rfl rfl<|VO.m rfl rfl<|VO.m rfl rfl<|VO.l (LO.sub (.r rfl) (.r rfl) (wi (by omega) (by omega))) rfl<|VO.l (LO.call (xs := [_,_,_]) (vs := [_,_,_]) C69 ⟨(.r rfl), (.r rfl), (.r rfl), trivial⟩ (fun w hw => by have z := last_c o (st ++ [s]) i st.length w hd (by rw [List.length_append]; omega) (hh.keep hw); rw [List.take_left] at z; exact z)) rfl<|VO.f (r := 4) F135_4 rfl rfl rfl<|VO.h0<|HO.st 0 (vs := [_]) (C' := [_,_,_,_,_,_,_]) (L' := [_,_]) N3 rfl rfl rfl rfl rfl rfl rfl rfl<|VO.n<|VC.reg (VO.m rfl rfl<|VO.l (LO.lda (vs := [_,_,_,_,_,_,_]) A135 (.r rfl) (cells_blk 0 rfl ⟨_, rfl⟩) rfl) rfl<|VO.h rfl<|HO.bs (ps := [(_,_)]) (vs := [(_,_)]) (Z := [_,_,_,_,_,_,_]) (C := [_,_,_,_,_,_,_]) S60 Z135 N135 ⟨(.r rfl), trivial⟩ rfl rfl rfl rfl ⟨_, [_,_,_,_,_,_,_], [_,_,_,_,_,_,_], rfl, rfl, rfl, rfl, rfl⟩ fun b20 => VO.h rfl<|HO.appT ((Ev.mk (o.ts.getD st.length 0) (i : Int) 2 (lvS o.hold i (st ++ [s])) (lastNm i (csF o.hold o.rg.length st)) (-1) (-1))) 2 0 (fun R => [_,_, R]) S60 S60 I135 (.r rfl) (.r rfl) rfl rfl rfl rfl rfl rfl rfl (fun _ => rfl) rfl (by omega) fun p3 c3 => VO.h rfl<|HO.lo (LO.as (.r rfl))<|VO.nil<|VE.inN (VE.seqN<|VC.reg (VO.m rfl rfl<|VO.p rfl rfl (by omega) (by omega) rfl<|VO.a rfl rfl<|VO.nil<|VE.thenN fun a w ha hw => ⟨(i + 1, es ++ [(Ev.mk (o.ts.getD st.length 0) (i : Int) 2 (lvS o.hold i (st ++ [s])) (lastNm i (csF o.hold o.rg.length st)) (-1) (-1))], p3, c3), ⟨⟨by dsimp only; omega, by dsimp only; rw [List.length_append, List.length_singleton]; omega⟩, by dsimp only; rw [runE_more h34, ← hES, hthr, htt]; rw [evS_is (hlv1) h34 (.inr ⟨h46, hlast, .inl ⟨h54, rfl⟩⟩) hlv0 (.inr ⟨h65, rfl, rfl⟩)]⟩, (by dsimp only; omega), ha.sub (.cons (congrArg (fun z => some (Value.int .i64 z)) hv.symm) (.c4 rfl rfl rfl rfl .nil)), (by exact selK (L1 := [_]) [2] rfl rfl _ hw)⟩))))
      · (exfalso; revert h92; decide)
    ·
     refine VC.q (VO.m rfl rfl<|VO.m rfl rfl<|VO.l (LO.gt (.r rfl) (.r rfl)) rfl<|VO.a rfl rfl<|VO.n<|VC.cond rfl (fun h58 => ?_) (fun h58 => ?_))
     ·
      refine VC.reg (VO.f (r := 2) F135_2 rfl rfl rfl<|VO.h0<|HO.st 0 (vs := [_]) (C' := [_,_,_,_,_,_,_]) (L' := [_,_]) N3 rfl rfl rfl rfl rfl rfl rfl rfl<|VO.nil<|VE.inN (VE.seqN<|VC.seq<|VC.q (VO.m rfl rfl<|VO.m rfl rfl<|VO.l (LO.gt (.r rfl) (.r rfl)) rfl<|VO.n<|VC.cond rfl (fun h65 => ?_) (fun h65 => ?_))))
      ·
       refine VC.drawH [[0,1], [1], [1]] [some 0, some 0, some 0, some 0, some 0, some 0, some 0, some 0, some 0, some 0, some 0, some 1, some 1, some 1, some 1, some 1, some 1, some 1, some 1, some 1, some 1, some 1, some 0, none, some 1, none] mixed (by kernel_rfl) rfl (LX.m rfl rfl<|LX.l (fun _ hJ => LO.nc (.r rfl)) rfl<|LX.l (fun _ hJ => LO.fa (r := 11) F103_3 (.r rfl) rfl) rfl<|LX.l (fun _ hJ => LO.ld O101 (.r rfl) (cells_keep (sub_cells (off := 11) (dof_cells hh) ⟨_, rfl⟩))) rfl<|LX.m rfl rfl<|LX.l (fun _ hJ => LO.ixs S101 N131 hTh.1.sm (.r rfl) (.r rfl) rfl (by omega)) rfl<|LX.l (fun _ hJ => LO.ld O131 (.r rfl) (fun w hw => cells_part (off := 0) ((hTh.1.at RowA.z (j := st.length) (by omega)) w (hJ _ hw)) ⟨_, rfl⟩)) rfl<|LX.m rfl rfl<|LX.l (fun _ hJ => LO.ixs S131 N168 hte.sm (.r rfl) (.r rfl) rfl (by omega)) rfl<|LX.l (fun _ hJ => LO.fa F168_1 (.r rfl) rfl) rfl<|LX.l (fun _ hJ => LO.ld O3 (.r rfl) (fun w hw => cells_part (off := 1) ((hte.at zT (j := i) (by omega)) w (hJ _ hw)) ⟨_, rfl⟩)) rfl<|LX.m rfl rfl<|LX.l (fun _ hJ => LO.nc (.r rfl)) rfl<|LX.l (fun _ hJ => LO.fa (r := 11) F103_3 (.r rfl) rfl) rfl<|LX.l (fun _ hJ => LO.ld O101 (.r rfl) (cells_keep (sub_cells (off := 11) (dof_cells hh) ⟨_, rfl⟩))) rfl<|LX.m rfl rfl<|LX.l (fun _ hJ => LO.ixs S101 N131 hTh.1.sm (.r rfl) (.r rfl) rfl (by omega)) rfl<|LX.l (fun _ hJ => LO.ld O131 (.r rfl) (fun w hw => cells_part (off := 0) ((hTh.1.at RowA.z (j := st.length) (by omega)) w (hJ _ hw)) ⟨_, rfl⟩)) rfl<|LX.m rfl rfl<|LX.l (fun _ hJ => LO.ixs S131 N168 hte.sm (.r rfl) (.r rfl) rfl (by omega)) rfl<|LX.l (fun _ hJ => LO.fa F168_2 (.r rfl) rfl) rfl<|LX.l (fun _ hJ => LO.ld O3 (.r rfl) (fun w hw => cells_part (off := 2) ((hte.at zT (j := i) (by omega)) w (hJ _ hw)) ⟨_, rfl⟩)) rfl<|LX.l (fun _ hJ => LO.fa (r := 5) F135_5 (.r rfl) rfl) rfl<|LX.s<|LX.l (fun _ hJ => LO.fa (r := 6) F135_6 (.r rfl) rfl) rfl<|LX.s<|LX.nil) (HX.s<|HX.s<|HX.s<|HX.s<|HX.s<|HX.s<|HX.s<|HX.s<|HX.s<|HX.s<|HX.s<|HX.s<|HX.s<|HX.s<|HX.s<|HX.s<|HX.s<|HX.s<|HX.s<|HX.s<|HX.s<|HX.s<|HX.s<|HX.h0<|HO.st 0 (vs := [_]) (C' := [_,_,_,_,_,_,_]) (L' := [_,_]) N3 rfl rfl rfl rfl rfl rfl rfl rfl<|⟨fun _ hw => hw.sel [1] rfl, HX.s<|HX.h0<|HO.st 0 (vs := [_]) (C' := [_,_,_,_,_,_,_]) (L' := [_,_]) N3 rfl rfl rfl rfl rfl rfl rfl rfl<|⟨fun _ hw => hw.sel [1] rfl, HX.nil ?_⟩⟩)
       refine VE.seqN<|VC.seq<|VC.q (VO.f (r := 2) F135_2 rfl rfl rfl<|VO.c 0 O3 rfl rfl ⟨_, rfl⟩ rfl<|VO.u rfl rfl rfl<|VO.n<|VC.cond rfl (fun h92 => ?_) (fun h92 => ?_))
       ·
        refine VC.reg (VO.m rfl rfl<|VO.m rfl rfl<|VO.m rfl rfl<|VO.l (LO.sub (.r rfl) (.r rfl) (wi (by omega) (by omega))) rfl<|VO.l (LO.call (xs := [_,_,_]) (vs := [_,_,_]) C69 ⟨(.r rfl), (.r rfl), (.r rfl), trivial⟩ (fun w hw => by have z := last_c o (st ++ [s]) i st.length w hd (by rw [List.length_append]; omega) (hh.keep hw); rw [List.take_left] at z; exact z)) rfl<|VO.f (r := 4) F135_4 rfl rfl rfl<|VO.h0<|HO.st 0 (vs := [_]) (C' := [_,_,_,_,_,_,_]) (L' := [_,_]) N3 rfl rfl rfl rfl rfl rfl rfl rfl<|VO.n<|VC.reg (VO.m rfl rfl<|VO.l (LO.lda (vs := [_,_,_,_,_,_,_]) A135 (.r rfl) (cells_blk 0 rfl ⟨_, rfl⟩) rfl) rfl<|VO.h rfl<|HO.bs (ps := [(_,_)]) (vs := [(_,_)]) (Z := [_,_,_,_,_,_,_]) (C := [_,_,_,_,_,_,_]) S60 Z135 N135 ⟨(.r rfl), trivial⟩ rfl rfl rfl rfl ⟨_, [_,_,_,_,_,_,_], [_,_,_,_,_,_,_], rfl, rfl, rfl, rfl, rfl⟩ fun b27 => VO.h rfl<|HO.appT ((Ev.mk (o.ts.getD st.length 0) (i : Int) 3 (lvS o.hold i (st ++ [s])) (lastNm i (csF o.hold o.rg.length st)) ((o.th.getD st.length RowA.z).l.getD i zT).ld ((o.th.getD st.length RowA.z).l.getD i zT).px)) 2 0 (fun R => [_,_, R]) S60 S60 I135 (.r rfl) (.r rfl) rfl rfl rfl rfl rfl rfl rfl (fun _ => rfl) rfl (by omega) fun p3 c3 => VO.h rfl<|HO.lo (LO.as (.r rfl))<|VO.nil<|VE.inN (VE.seqN<|VC.reg (VO.m rfl rfl<|VO.p rfl rfl (by omega) (by omega) rfl<|VO.a rfl rfl<|VO.nil<|VE.thenN fun a w ha hw => ⟨(i + 1, es ++ [(Ev.mk (o.ts.getD st.length 0) (i : Int) 3 (lvS o.hold i (st ++ [s])) (lastNm i (csF o.hold o.rg.length st)) ((o.th.getD st.length RowA.z).l.getD i zT).ld ((o.th.getD st.length RowA.z).l.getD i zT).px)], p3, c3), ⟨⟨by dsimp only; omega, by dsimp only; rw [List.length_append, List.length_singleton]; omega⟩, by dsimp only; rw [runE_more h34, ← hES, hthr, htt]; rw [evS_is (hlv1) h34 (.inr ⟨h46, hlast, .inr (.inl ⟨h54, h58, rfl⟩)⟩) hlv0 (.inl ⟨h65, rfl, rfl⟩)]⟩, (by dsimp only; omega), ha.sub (.cons (congrArg (fun z => some (Value.int .i64 z)) hv.symm) (.c4 rfl rfl rfl rfl .nil)), (by exact selK (L1 := [_]) [2] rfl rfl _ hw)⟩))))
       · (exfalso; revert h92; decide)
      ·
       refine VC.skip (VE.seqN<|VC.seq<|VC.q (VO.f (r := 2) F135_2 rfl rfl rfl<|VO.c 0 O3 rfl rfl ⟨_, rfl⟩ rfl<|VO.u rfl rfl rfl<|VO.n<|VC.cond rfl (fun h92 => ?_) (fun h92 => ?_)))
       ·
        refine VC.reg (VO.m rfl rfl<|VO.m rfl rfl<|VO.m rfl rfl<|VO.l (LO.sub (.r rfl) (.r rfl) (wi (by omega) (by omega))) rfl<|VO.l (LO.call (xs := [_,_,_]) (vs := [_,_,_]) C69 ⟨(.r rfl), (.r rfl), (.r rfl), trivial⟩ (fun w hw => by have z := last_c o (st ++ [s]) i st.length w hd (by rw [List.length_append]; omega) (hh.keep hw); rw [List.take_left] at z; exact z)) rfl<|VO.f (r := 4) F135_4 rfl rfl rfl<|VO.h0<|HO.st 0 (vs := [_]) (C' := [_,_,_,_,_,_,_]) (L' := [_,_]) N3 rfl rfl rfl rfl rfl rfl rfl rfl<|VO.n<|VC.reg (VO.m rfl rfl<|VO.l (LO.lda (vs := [_,_,_,_,_,_,_]) A135 (.r rfl) (cells_blk 0 rfl ⟨_, rfl⟩) rfl) rfl<|VO.h rfl<|HO.bs (ps := [(_,_)]) (vs := [(_,_)]) (Z := [_,_,_,_,_,_,_]) (C := [_,_,_,_,_,_,_]) S60 Z135 N135 ⟨(.r rfl), trivial⟩ rfl rfl rfl rfl ⟨_, [_,_,_,_,_,_,_], [_,_,_,_,_,_,_], rfl, rfl, rfl, rfl, rfl⟩ fun b29 => VO.h rfl<|HO.appT ((Ev.mk (o.ts.getD st.length 0) (i : Int) 3 (lvS o.hold i (st ++ [s])) (lastNm i (csF o.hold o.rg.length st)) (-1) (-1))) 2 0 (fun R => [_,_, R]) S60 S60 I135 (.r rfl) (.r rfl) rfl rfl rfl rfl rfl rfl rfl (fun _ => rfl) rfl (by omega) fun p3 c3 => VO.h rfl<|HO.lo (LO.as (.r rfl))<|VO.nil<|VE.inN (VE.seqN<|VC.reg (VO.m rfl rfl<|VO.p rfl rfl (by omega) (by omega) rfl<|VO.a rfl rfl<|VO.nil<|VE.thenN fun a w ha hw => ⟨(i + 1, es ++ [(Ev.mk (o.ts.getD st.length 0) (i : Int) 3 (lvS o.hold i (st ++ [s])) (lastNm i (csF o.hold o.rg.length st)) (-1) (-1))], p3, c3), ⟨⟨by dsimp only; omega, by dsimp only; rw [List.length_append, List.length_singleton]; omega⟩, by dsimp only; rw [runE_more h34, ← hES, hthr, htt]; rw [evS_is (hlv1) h34 (.inr ⟨h46, hlast, .inr (.inl ⟨h54, h58, rfl⟩)⟩) hlv0 (.inr ⟨h65, rfl, rfl⟩)]⟩, (by dsimp only; omega), ha.sub (.cons (congrArg (fun z => some (Value.int .i64 z)) hv.symm) (.c4 rfl rfl rfl rfl .nil)), (by exact selK (L1 := [_]) [2] rfl rfl _ hw)⟩))))
       · (exfalso; revert h92; decide)
     ·
      refine VC.reg (VO.f (r := 2) F135_2 rfl rfl rfl<|VO.h0<|HO.st 0 (vs := [_]) (C' := [_,_,_,_,_,_,_]) (L' := [_,_]) N3 rfl rfl rfl rfl rfl rfl rfl rfl<|VO.nil<|VE.inN (VE.seqN<|VC.seq<|VC.q (VO.m rfl rfl<|VO.m rfl rfl<|VO.l (LO.gt (.r rfl) (.r rfl)) rfl<|VO.n<|VC.cond rfl (fun h65 => ?_) (fun h65 => ?_))))
      ·
       refine VC.drawH [[0,1], [1], [1]] [some 0, some 0, some 0, some 0, some 0, some 0, some 0, some 0, some 0, some 0, some 0, some 1, some 1, some 1, some 1, some 1, some 1, some 1, some 1, some 1, some 1, some 1, some 0, none, some 1, none] mixed (by kernel_rfl) rfl (LX.m rfl rfl<|LX.l (fun _ hJ => LO.nc (.r rfl)) rfl<|LX.l (fun _ hJ => LO.fa (r := 11) F103_3 (.r rfl) rfl) rfl<|LX.l (fun _ hJ => LO.ld O101 (.r rfl) (cells_keep (sub_cells (off := 11) (dof_cells hh) ⟨_, rfl⟩))) rfl<|LX.m rfl rfl<|LX.l (fun _ hJ => LO.ixs S101 N131 hTh.1.sm (.r rfl) (.r rfl) rfl (by omega)) rfl<|LX.l (fun _ hJ => LO.ld O131 (.r rfl) (fun w hw => cells_part (off := 0) ((hTh.1.at RowA.z (j := st.length) (by omega)) w (hJ _ hw)) ⟨_, rfl⟩)) rfl<|LX.m rfl rfl<|LX.l (fun _ hJ => LO.ixs S131 N168 hte.sm (.r rfl) (.r rfl) rfl (by omega)) rfl<|LX.l (fun _ hJ => LO.fa F168_1 (.r rfl) rfl) rfl<|LX.l (fun _ hJ => LO.ld O3 (.r rfl) (fun w hw => cells_part (off := 1) ((hte.at zT (j := i) (by omega)) w (hJ _ hw)) ⟨_, rfl⟩)) rfl<|LX.m rfl rfl<|LX.l (fun _ hJ => LO.nc (.r rfl)) rfl<|LX.l (fun _ hJ => LO.fa (r := 11) F103_3 (.r rfl) rfl) rfl<|LX.l (fun _ hJ => LO.ld O101 (.r rfl) (cells_keep (sub_cells (off := 11) (dof_cells hh) ⟨_, rfl⟩))) rfl<|LX.m rfl rfl<|LX.l (fun _ hJ => LO.ixs S101 N131 hTh.1.sm (.r rfl) (.r rfl) rfl (by omega)) rfl<|LX.l (fun _ hJ => LO.ld O131 (.r rfl) (fun w hw => cells_part (off := 0) ((hTh.1.at RowA.z (j := st.length) (by omega)) w (hJ _ hw)) ⟨_, rfl⟩)) rfl<|LX.m rfl rfl<|LX.l (fun _ hJ => LO.ixs S131 N168 hte.sm (.r rfl) (.r rfl) rfl (by omega)) rfl<|LX.l (fun _ hJ => LO.fa F168_2 (.r rfl) rfl) rfl<|LX.l (fun _ hJ => LO.ld O3 (.r rfl) (fun w hw => cells_part (off := 2) ((hte.at zT (j := i) (by omega)) w (hJ _ hw)) ⟨_, rfl⟩)) rfl<|LX.l (fun _ hJ => LO.fa (r := 5) F135_5 (.r rfl) rfl) rfl<|LX.s<|LX.l (fun _ hJ => LO.fa (r := 6) F135_6 (.r rfl) rfl) rfl<|LX.s<|LX.nil) (HX.s<|HX.s<|HX.s<|HX.s<|HX.s<|HX.s<|HX.s<|HX.s<|HX.s<|HX.s<|HX.s<|HX.s<|HX.s<|HX.s<|HX.s<|HX.s<|HX.s<|HX.s<|HX.s<|HX.s<|HX.s<|HX.s<|HX.s<|HX.h0<|HO.st 0 (vs := [_]) (C' := [_,_,_,_,_,_,_]) (L' := [_,_]) N3 rfl rfl rfl rfl rfl rfl rfl rfl<|⟨fun _ hw => hw.sel [1] rfl, HX.s<|HX.h0<|HO.st 0 (vs := [_]) (C' := [_,_,_,_,_,_,_]) (L' := [_,_]) N3 rfl rfl rfl rfl rfl rfl rfl rfl<|⟨fun _ hw => hw.sel [1] rfl, HX.nil ?_⟩⟩)
       refine VE.seqN<|VC.seq<|VC.q (VO.f (r := 2) F135_2 rfl rfl rfl<|VO.c 0 O3 rfl rfl ⟨_, rfl⟩ rfl<|VO.u rfl rfl rfl<|VO.n<|VC.cond rfl (fun h92 => ?_) (fun h92 => ?_))
       ·
        refine VC.reg (VO.m rfl rfl<|VO.m rfl rfl<|VO.m rfl rfl<|VO.l (LO.sub (.r rfl) (.r rfl) (wi (by omega) (by omega))) rfl<|VO.l (LO.call (xs := [_,_,_]) (vs := [_,_,_]) C69 ⟨(.r rfl), (.r rfl), (.r rfl), trivial⟩ (fun w hw => by have z := last_c o (st ++ [s]) i st.length w hd (by rw [List.length_append]; omega) (hh.keep hw); rw [List.take_left] at z; exact z)) rfl<|VO.f (r := 4) F135_4 rfl rfl rfl<|VO.h0<|HO.st 0 (vs := [_]) (C' := [_,_,_,_,_,_,_]) (L' := [_,_]) N3 rfl rfl rfl rfl rfl rfl rfl rfl<|VO.n<|VC.reg (VO.m rfl rfl<|VO.l (LO.lda (vs := [_,_,_,_,_,_,_]) A135 (.r rfl) (cells_blk 0 rfl ⟨_, rfl⟩) rfl) rfl<|VO.h rfl<|HO.bs (ps := [(_,_)]) (vs := [(_,_)]) (Z := [_,_,_,_,_,_,_]) (C := [_,_,_,_,_,_,_]) S60 Z135 N135 ⟨(.r rfl), trivial⟩ rfl rfl rfl rfl ⟨_, [_,_,_,_,_,_,_], [_,_,_,_,_,_,_], rfl, rfl, rfl, rfl, rfl⟩ fun b36 => VO.h rfl<|HO.appT ((Ev.mk (o.ts.getD st.length 0) (i : Int) 4 (lvS o.hold i (st ++ [s])) (lastNm i (csF o.hold o.rg.length st)) ((o.th.getD st.length RowA.z).l.getD i zT).ld ((o.th.getD st.length RowA.z).l.getD i zT).px)) 2 0 (fun R => [_,_, R]) S60 S60 I135 (.r rfl) (.r rfl) rfl rfl rfl rfl rfl rfl rfl (fun _ => rfl) rfl (by omega) fun p3 c3 => VO.h rfl<|HO.lo (LO.as (.r rfl))<|VO.nil<|VE.inN (VE.seqN<|VC.reg (VO.m rfl rfl<|VO.p rfl rfl (by omega) (by omega) rfl<|VO.a rfl rfl<|VO.nil<|VE.thenN fun a w ha hw => ⟨(i + 1, es ++ [(Ev.mk (o.ts.getD st.length 0) (i : Int) 4 (lvS o.hold i (st ++ [s])) (lastNm i (csF o.hold o.rg.length st)) ((o.th.getD st.length RowA.z).l.getD i zT).ld ((o.th.getD st.length RowA.z).l.getD i zT).px)], p3, c3), ⟨⟨by dsimp only; omega, by dsimp only; rw [List.length_append, List.length_singleton]; omega⟩, by dsimp only; rw [runE_more h34, ← hES, hthr, htt]; rw [evS_is (hlv1) h34 (.inr ⟨h46, hlast, .inr (.inr ⟨h54, h58, rfl⟩)⟩) hlv0 (.inl ⟨h65, rfl, rfl⟩)]⟩, (by dsimp only; omega), ha.sub (.cons (congrArg (fun z => some (Value.int .i64 z)) hv.symm) (.c4 rfl rfl rfl rfl .nil)), (by exact selK (L1 := [_]) [2] rfl rfl _ hw)⟩))))
       · (exfalso; revert h92; decide)
      ·
       refine VC.skip (VE.seqN<|VC.seq<|VC.q (VO.f (r := 2) F135_2 rfl rfl rfl<|VO.c 0 O3 rfl rfl ⟨_, rfl⟩ rfl<|VO.u rfl rfl rfl<|VO.n<|VC.cond rfl (fun h92 => ?_) (fun h92 => ?_)))
       ·
        refine VC.reg (VO.m rfl rfl<|VO.m rfl rfl<|VO.m rfl rfl<|VO.l (LO.sub (.r rfl) (.r rfl) (wi (by omega) (by omega))) rfl<|VO.l (LO.call (xs := [_,_,_]) (vs := [_,_,_]) C69 ⟨(.r rfl), (.r rfl), (.r rfl), trivial⟩ (fun w hw => by have z := last_c o (st ++ [s]) i st.length w hd (by rw [List.length_append]; omega) (hh.keep hw); rw [List.take_left] at z; exact z)) rfl<|VO.f (r := 4) F135_4 rfl rfl rfl<|VO.h0<|HO.st 0 (vs := [_]) (C' := [_,_,_,_,_,_,_]) (L' := [_,_]) N3 rfl rfl rfl rfl rfl rfl rfl rfl<|VO.n<|VC.reg (VO.m rfl rfl<|VO.l (LO.lda (vs := [_,_,_,_,_,_,_]) A135 (.r rfl) (cells_blk 0 rfl ⟨_, rfl⟩) rfl) rfl<|VO.h rfl<|HO.bs (ps := [(_,_)]) (vs := [(_,_)]) (Z := [_,_,_,_,_,_,_]) (C := [_,_,_,_,_,_,_]) S60 Z135 N135 ⟨(.r rfl), trivial⟩ rfl rfl rfl rfl ⟨_, [_,_,_,_,_,_,_], [_,_,_,_,_,_,_], rfl, rfl, rfl, rfl, rfl⟩ fun b38 => VO.h rfl<|HO.appT ((Ev.mk (o.ts.getD st.length 0) (i : Int) 4 (lvS o.hold i (st ++ [s])) (lastNm i (csF o.hold o.rg.length st)) (-1) (-1))) 2 0 (fun R => [_,_, R]) S60 S60 I135 (.r rfl) (.r rfl) rfl rfl rfl rfl rfl rfl rfl (fun _ => rfl) rfl (by omega) fun p3 c3 => VO.h rfl<|HO.lo (LO.as (.r rfl))<|VO.nil<|VE.inN (VE.seqN<|VC.reg (VO.m rfl rfl<|VO.p rfl rfl (by omega) (by omega) rfl<|VO.a rfl rfl<|VO.nil<|VE.thenN fun a w ha hw => ⟨(i + 1, es ++ [(Ev.mk (o.ts.getD st.length 0) (i : Int) 4 (lvS o.hold i (st ++ [s])) (lastNm i (csF o.hold o.rg.length st)) (-1) (-1))], p3, c3), ⟨⟨by dsimp only; omega, by dsimp only; rw [List.length_append, List.length_singleton]; omega⟩, by dsimp only; rw [runE_more h34, ← hES, hthr, htt]; rw [evS_is (hlv1) h34 (.inr ⟨h46, hlast, .inr (.inr ⟨h54, h58, rfl⟩)⟩) hlv0 (.inr ⟨h65, rfl, rfl⟩)]⟩, (by dsimp only; omega), ha.sub (.cons (congrArg (fun z => some (Value.int .i64 z)) hv.symm) (.c4 rfl rfl rfl rfl .nil)), (by exact selK (L1 := [_]) [2] rfl rfl _ hw)⟩))))
       · (exfalso; revert h92; decide)
 ·
  refine VC.exit (VE.thenX (VE.thenX (VE.inX (VE.seqN<|VC.q (VO.m rfl rfl<|VO.m rfl rfl<|VO.a rfl rfl<|VO.a rfl rfl<|VO.n<|VC.ret (VE.res (vs := [_,_]) rfl ⟨rfl, rfl, trivial⟩ (fun w hw => ?_)))))))
  have hin : i = o.rg.length := by omega
  subst hin
  unfold evF
  rw [← hES]
  exact ⟨(pe_, ce_), trivial, rfl, selK (L1 := [_]) [0] rfl rfl _ hw⟩
theorem dclouds_c (l : List CP) (p : Option Addr) (c : Nat) (w : World) (hn : l.length < 1000000000) (hl : Clouds w p l) :
 Calls Tryz.prog 43 #[.slice p l.length c] w fun e w' => ∃ x : (Option Addr × Nat) × List CP, x.2.map CP.c = l.map CP.c ∧ e = .returned (.slice x.1.1 x.2.length x.1.2) ∧ St (bs w) [own 107 7 x.1.1 x.1.2 (x.2.map CP.cells), bagD (x.2.flatMap cpR)] w' := by
 refine enter (vs := [_]) (env := [(0,_)]) Tryz.func43 rfl rfl rfl rfl ?_
 refine VC.q (VO.a rfl rfl<|VO.n<|VC.q (VO.a rfl rfl<|VO.n<|VC.seq<|VC.q (VO.a rfl rfl<|VO.n<|VC.block<|VC.loopK (α := Nat × (List CP) × (Option Addr) × Nat) 0 (fun gx => [(3, .slice gx.2.2.1 gx.2.1.length gx.2.2.2), (4, .int .i64 (gx.1 : Nat))]) [(0,_)] (fun gx => [own 107 7 gx.2.2.1 gx.2.2.2 (gx.2.1.map CP.cells), bagD (gx.2.1.flatMap cpR)]) (fun gx => gx.1 ≤ l.length ∧ gx.2.1.map CP.c = (l.map CP.c).take gx.1) (fun gx => l.length - gx.1) (0, [], none, 0) (by exact ⟨Nat.zero_le _, rfl⟩) (.cons rfl (.cons rfl (.cons rfl .nil))) (fun _ h => ((St.bagD (Rs := []) h).ownNil 107 7)) ?_)))
 rintro ⟨j, xs, po_, co_⟩ ⟨hj, hX⟩
 show VC _ _ _ _ _ ([(3, .slice po_ xs.length co_), (4, .int .i64 (j : Nat))] ++ _) ([own 107 7 po_ co_ (xs.map CP.cells), bagD (xs.flatMap cpR)] ++ _) _ _
 dsimp only at hj hX
 have hxl : xs.length = j := by rw [← List.length_map (f := CP.c), hX]; simp; omega
 refine VC.seq<|VC.q (VO.m rfl rfl<|VO.m rfl rfl<|VO.l (LO.len S52 (.r rfl) rfl) rfl<|VO.t rfl rfl rfl<|VO.n<|VC.cond rfl (fun h8 => ?_) (fun h8 => ?_))
 ·
  obtain ⟨x, hx⟩ : ∃ x, l[j]? = some x := ⟨_, List.getElem?_eq_getElem (by omega)⟩
  have hxo := hl.ok x (List.mem_of_getElem? hx)
  have hxs := hxo.2.2
  refine VC.skip (VE.seqN<|VC.seq<|VC.block<|VC.drawB [⟨1,12, fun b => .slice (some ⟨b, 0, none⟩) 0 0,3, #[]⟩, ⟨8,19, fun b => .slice (some ⟨b, 0, none⟩) 0 0,3, #[]⟩] [[0,1], [0,1], [0,1], [0,1], [0,1], [0,1], [0,1], [1], [1]] [some 6, none, some 3, some 3, some 3, some 3, some 3, none, none, some 3, some 3, some 3, some 3, some 3, none, some 4, some 4, some 4, some 4, some 4, some 4, some 4, some 4, some 4, some 4, none, none, none, none] mixed (by kernel_rfl) rfl (LX.m rfl rfl<|LX.s<|LX.m rfl rfl<|LX.m rfl rfl<|LX.l (fun _ hJ => LO.ixs S52 N107 hl.sl (.r rfl) (.r rfl) rfl (by omega)) rfl<|LX.l (fun _ hJ => LO.fa F107_0 (.r rfl) rfl) rfl<|LX.l (fun _ hJ => LO.ld O72 (.r rfl) (fun w hw => cells_part (off := 0) ((hl.at hx) w (hJ _ hw)) ⟨_, rfl⟩)) rfl<|LX.s<|LX.s<|LX.m rfl rfl<|LX.m rfl rfl<|LX.l (fun _ hJ => LO.ixs S52 N107 hl.sl (.r rfl) (.r rfl) rfl (by omega)) rfl<|LX.l (fun _ hJ => LO.fa F107_1 (.r rfl) rfl) rfl<|LX.l (fun _ hJ => LO.ld O72 (.r rfl) (fun w hw => cells_part (off := 1) ((hl.at hx) w (hJ _ hw)) ⟨_, rfl⟩)) rfl<|LX.s<|LX.m rfl rfl<|LX.m rfl rfl<|LX.l (fun _ hJ => LO.ixs S52 N107 hl.sl (.r rfl) (.r rfl) rfl (by omega)) rfl<|LX.l (fun _ hJ => LO.fa F107_2 (.r rfl) rfl) rfl<|LX.l (fun _ hJ => LO.lda (vs := [_,_,_,_]) A105 (.r rfl) (fun w hw => cells_part (off := 2) ((hl.at hx) w (hJ _ hw)) ⟨_, rfl⟩) rfl) rfl<|LX.m rfl rfl<|LX.m rfl rfl<|LX.l (fun _ hJ => LO.ixs S52 N107 hl.sl (.r rfl) (.r rfl) rfl (by omega)) rfl<|LX.l (fun _ hJ => LO.fa F107_3 (.r rfl) rfl) rfl<|LX.l (fun _ hJ => LO.ld O3 (.r rfl) (fun w hw => cells_part (off := 6) ((hl.at hx) w (hJ _ hw)) ⟨_, rfl⟩)) rfl<|LX.s<|LX.s<|LX.s<|LX.s<|LX.nil) (⟨⟨rfl,_, rfl, FO.bs0 S72 N3⟩, ⟨⟨rfl,_, rfl, FO.bs0 S72 N3⟩, trivial⟩⟩) (HY.s<|HY.f rfl fun b6 => ⟨selJ (L1 := [_,_]) [1,2] rfl rfl rfl, HY.s<|HY.s<|HY.s<|HY.s<|HY.s<|HY.h rfl rfl fun X => HO.pre (fun w hw => hw.blkOwn 0 1 rfl)<|HO.appN0 (f := iC) (m := x.c.sure) 0 (fun R => [R,_,_] ++ X) S72 S72 I3 (.r rfl) (.r rfl) rfl (fun w hw => hxo.1.keep w hw) (fun _ => rfl) (fun _ => rfl) rfl rfl (fun _ => rfl) rfl (by omega) fun p7 c7 _ => ⟨[_,_,_], rfl, selJ (L1 := [_,_]) [1,2] rfl rfl rfl, HY.f rfl fun b7 => ⟨selJ (L1 := [_,_]) [2,3] rfl rfl rfl, HY.s<|HY.s<|HY.s<|HY.s<|HY.s<|HY.h rfl rfl fun X => HO.pre (fun w hw => hw.blkOwn 0 1 rfl)<|HO.appN0 (f := iC) (m := x.c.may) 0 (fun R => [R,_,_,_] ++ X) S72 S72 I3 (.r rfl) (.r rfl) rfl (fun w hw => hxo.2.1.keep w hw) (fun _ => rfl) (fun _ => rfl) rfl rfl (fun _ => rfl) rfl (by omega) fun p14 c14 _ => ⟨[_,_,_,_], rfl, selJ (L1 := [_,_]) [2,3] rfl rfl rfl, HY.s<|HY.s<|HY.s<|HY.s<|HY.s<|HY.s<|HY.s<|HY.s<|HY.s<|HY.s<|HY.h rfl rfl fun X => HO.lo (LO.bd (ps := [(_,_), (_,_), (_,_), (_,_)]) (vs := [(_,_), (_,_), (_,_), (_,_)]) (C := [_,_,_,_,_,_,_]) B107  ⟨(.r rfl), (.r rfl), (.r rfl), (.r rfl), trivial⟩ rfl ⟨_, [_], [_,_,_,_,_,_,_], rfl, rfl, rfl, rfl, ⟨_, [_], [_,_,_,_,_,_,_], rfl, rfl, rfl, rfl, ⟨_, [_,_,_,_], [_,_,_,_,_,_,_], rfl, rfl, rfl, rfl, ⟨_, [_], [_,_,_,_,_,_,_], rfl, rfl, rfl, rfl, rfl⟩⟩⟩⟩)<|⟨[_,_,_,_], rfl, selJ (L1 := [_,_]) [2,3] rfl rfl rfl, HY.h rfl rfl fun X => HO.bs (ps := [(_,_)]) (vs := [(_,_)]) (Z := [_,_,_,_,_,_,_]) (C := [_,_,_,_,_,_,_]) S52 Z107 N107 ⟨(.r rfl), trivial⟩ rfl rfl rfl rfl ⟨_, [_,_,_,_,_,_,_], [_,_,_,_,_,_,_], rfl, rfl, rfl, rfl, rfl⟩ fun b8 => ⟨[_,_,_,_,_], rfl, selJ (L1 := [_,_]) [3,4] rfl rfl rfl, HY.h rfl rfl fun X => HO.appT ((CP.mk x.c p7 c7 p14 c14)) 3 0 (fun R => [_,_,_, R,_] ++ X) S52 S52 I107 (.r rfl) (.r rfl) rfl rfl rfl rfl rfl rfl rfl (fun _ => rfl) rfl (by omega) fun p27 c27 => ⟨[_,_,_,_,_], rfl, selJ (L1 := [_]) [4] rfl rfl rfl, HY.h rfl rfl fun X => HO.lo (LO.as (.r rfl))<|⟨[_,_,_,_,_], rfl, selJ (L1 := [_]) [4] rfl rfl rfl, HY.nil ?_⟩⟩⟩⟩⟩⟩⟩⟩))
  refine VE.inN (VE.seqN<|VC.reg (VO.m rfl rfl<|VO.p rfl rfl (by omega) (by omega) rfl<|VO.a rfl rfl<|VO.nil<|VE.thenN fun a w ha hw => ⟨(j + 1, xs ++ [CP.mk x.c p7 c7 p14 c14], p27, c27), ⟨by dsimp only; omega, by dsimp only; rw [List.map_append, hX, take_c hx]; rfl⟩, (by dsimp only; omega), ha.sub (.cons rfl (.cons rfl (.cons rfl .nil))), (by exact (St.bagCp (x := CP.mk x.c p7 c7 p14 c14) (selK (L1 := [_,_,_,_]) [2,1,4,3] rfl rfl _ hw)).sel [1,0] rfl)⟩))
 ·
  refine VC.exit (VE.thenX (VE.thenX (VE.inX (VE.seqN<|VC.q (VO.m rfl rfl<|VO.a rfl rfl<|VO.n<|VC.ret (VE.s rfl rfl (fun w hw => ?_)))))))
  exact ⟨((po_, co_), xs), by rw [hX, List.take_of_length_le (by rw [List.length_map]; omega)], rfl, hw.sel [0,1] rfl⟩
theorem F103_1 : FieldAt Tryz.prog 103 1 9 := ⟨_,_, Tryz.underlying103, rfl, rfl, 0, by kernel_rfl⟩
theorem O44 : IsOne Tryz.prog 44 := ⟨⟨_, Tryz.underlying44, rfl⟩, by kernel_rfl⟩
theorem S44 : IsSlice Tryz.prog 44 55 := Tryz.underlying44
theorem C43 : IsFn Tryz.prog 43 := ⟨_, Tryz.func43, by decide, rfl⟩
theorem B55 : Builds Tryz.prog 55 [(0,1), (1,1), (2,6), (8,1)] [.int .i64 0, .slice none 0 0, .int .i64 0, .int .i64 0, .int .i64 0, .int .i64 0, .int .i64 0, .slice none 0 0, .int .i64 0] := Builds.mk fun _ => by kernel_rfl
theorem Z55 : ZeroOf Tryz.prog 55 (.agg #[.int .i64 0, .slice none 0 0, .int .i64 0, .int .i64 0, .int .i64 0, .int .i64 0, .int .i64 0, .slice none 0 0, .int .i64 0]) := by unfold ZeroOf; kernel_rfl
theorem N55 : (Tryz.prog.info? 55).map (·.size) = some 9 := by kernel_rfl
theorem I55 : EInfo Tryz.prog 55 9 104 (.agg #[.int .i64 0, .slice none 0 0, .int .i64 0, .int .i64 0, .int .i64 0, .int .i64 0, .int .i64 0, .slice none 0 0, .int .i64 0]) := ⟨by kernel_rfl, by kernel_rfl, by unfold ZeroOf; kernel_rfl, rfl, by decide⟩
theorem N44 : (Tryz.prog.info? 44).map (·.size) = some 1 := by kernel_rfl
theorem C44 : IsFn Tryz.prog 44 := ⟨_, Tryz.func44, by decide, rfl⟩
theorem Z131 : ZeroOf Tryz.prog 131 (.slice none 0 0) := by unfold ZeroOf; kernel_rfl
theorem I131 : EInfo Tryz.prog 131 1 24 (.slice none 0 0) := ⟨by kernel_rfl, by kernel_rfl, by unfold ZeroOf; kernel_rfl, rfl, by decide⟩
theorem N101 : (Tryz.prog.info? 101).map (·.size) = some 1 := by kernel_rfl
theorem C45 : IsFn Tryz.prog 45 := ⟨_, Tryz.func45, by decide, rfl⟩
theorem St.rresAdd {β : Bs} {L : List Res} {lg : List EnM} {x : EnM} {w : World} (h : St β (own 107 7 x.pc x.cc (x.l.map CP.cells) :: bagD (x.l.flatMap cpR) :: own 77 2 x.pv x.cv (x.vs.map Span.cells) :: bagD (lg.flatMap EnM.rres) :: L) w) : St β (bagD ((lg ++ [x]).flatMap EnM.rres) :: L) w := by
  have e : (lg ++ [x]).flatMap EnM.rres = ((lg.flatMap EnM.rres ++ [own 107 7 x.pc x.cc (x.l.map CP.cells)]) ++ [bagD (x.l.flatMap cpR)]) ++ [own 77 2 x.pv x.cv (x.vs.map Span.cells)] := by rw [List.flatMap_append]; simp [EnM.rres]
  rw [e]
  have h1 := St.bagAdd (h.perm (L' := own 107 7 x.pc x.cc (x.l.map CP.cells) :: bagD (lg.flatMap EnM.rres) :: bagD (x.l.flatMap cpR) :: own 77 2 x.pv x.cv (x.vs.map Span.cells) :: L) (by
    refine List.Perm.cons _ ?_
    exact ((List.Perm.cons _ (List.Perm.swap _ _ _)).trans (List.Perm.swap _ _ _))))
  have h2 := St.bagAdd (h1.perm (List.Perm.swap _ _ _))
  exact St.bagAdd (h2.perm (List.Perm.swap _ _ _))
structure DsY where
  x : EnM
  pl : Option Addr
  cl : Nat
  pt : Option Addr
  ct : Nat
  r : RowA Thr
  ph : Option Addr
  ch : Nat
  pe : Option Addr
  ce : Nat
abbrev DsY.o (y : DsY) (o : DoM) (T : Int) : DoM := { o with lg := o.lg ++ [y.x], pl := y.pl, cl := y.cl, ts := o.ts ++ [T], pt := y.pt, ct := y.ct, th := o.th ++ [y.r], ph := y.ph, ch := y.ch }
theorem DoS.step {o : DoM} {st : List Stp} {T : Int} {y : DsY} {l : List Cloud} (h : DoS o st) (hT1 : 0 ≤ T) (hT2 : T ≤ 4294967296) (hl : st.length < 256) (hr : y.r.l = thsP o.sp l) : DoS (y.o o T) (st ++ [⟨T, thsP o.sp l⟩]) := by
  refine ⟨?_, ?_, ?_, ?_, ?_, h.hd, h.rn⟩
  · show o.ts ++ [T] = _
    rw [h.ts, List.map_append]; rfl
  · show (o.th ++ [y.r]).map RowA.l = _
    rw [List.map_append, h.th, List.map_append]
    show _ ++ [y.r.l] = _
    rw [hr]; rfl
  · rw [List.length_append, List.length_singleton]; omega
  · intro s hs
    rcases List.mem_append.1 hs with q | q
    · exact h.tb s q
    · rw [List.mem_singleton.1 q]; exact ⟨hT1, hT2⟩
  · intro s hs
    show _ = o.rg.length
    rcases List.mem_append.1 hs with q | q
    · exact h.rl s q
    · rw [List.mem_singleton.1 q]; unfold thsP DoM.sp; simp
theorem dStep_c (o : DoM) (st : List Stp) (T : Int) (m : List CP) (pm : Option Addr) (cm : Nat) (w : World) (hd : DoS o st) (hok : specE o.sp = 0) (hpxb : ∀ x, x ∈ o.rg → x.r.pix.length < 1000000000000) (hh : Has w (dofR o)) (hcn : m.length < 1000000000) (hcl : ∀ {L : List Res} {v : World}, St ⟨w, fpL (dofR o)⟩ L v → Clouds v pm m) (hT1 : 0 ≤ T) (hT3 : T ≤ 4294967296) (hlate : o.ts = [] ∨ lastI o.ts < T) (hful : o.lg.length < 256) (hst : st.length < 256) (hlk : lookE o.g (m.map CP.c) = 0) :
 Calls Tryz.prog 14 #[ptrN o.b, .int .i64 T, .slice pm m.length cm] w fun e w' => ∃ y : DsY, (y.x.p = ⟨T, m.map CP.c, gZ, [], 0⟩ ∧ DoS (y.o o T) (st ++ [⟨T, thsP o.sp (m.map CP.c)⟩])) ∧ e = .returned (.tuple #[.slice y.pe (evF o.hold o.rg.length st ⟨T, thsP o.sp (m.map CP.c)⟩).length y.ce, .int .i64 0]) ∧ St ⟨w, fpL (dofR o)⟩ (own 135 7 y.pe y.ce ((evF o.hold o.rg.length st ⟨T, thsP o.sp (m.map CP.c)⟩).map evC) :: dofR (y.o o T)) w' := by
 have hok2 := specOk hok
 obtain ⟨hgo, hN1, hN2, hpx, ⟨hr1, hr2⟩, ⟨hr3, hr4⟩, hr5, hr6⟩ := hok2
 simp only [DoM.sp] at hgo hN1 hN2 hpx hr1 hr2 hr3 hr4 hr5 hr6
 have htl := hd.tsl
 have hltl : ¬ (0 < o.ts.length ∧ T ≤ o.ts.getD (o.ts.length - 1) 0) := by rintro ⟨h1, h2⟩; rcases hlate with e | e; (· rw [e] at h1; simp at h1); (· unfold lastI at e; omega)
 obtain ⟨hrn0, hrn1⟩ := hd.rn
 refine enterO (vs := [_,_,_]) (env := [(0,_), (1,_), (2,_)]) hh.enter Tryz.func14 rfl rfl rfl rfl ?_
 refine VC.seq ?_
 refine VC.reg (VO.a rfl rfl<|VO.a rfl rfl<|VO.nil ?_)
 refine VE.seqN ?_
 refine VC.seq ?_
 refine VC.seq ?_
 refine VC.reg (VO.m rfl rfl<|VO.l (LO.call (xs := [_,_,_]) (vs := [_,_,_]) C34 ⟨(.r rfl), (.r rfl), (.r rfl), trivial⟩ (fun w _ => In_c _ _ _ w)) rfl<|VO.l (LO.not (.r rfl)) rfl<|VO.nil ?_)
 refine VE.seqN ?_
 refine VC.cond rfl (fun h16 => ?_) (fun h16 => ?_)
 · (exfalso; omega)
 ·
  refine VC.skip (VE.seqN ?_)
  refine VC.seq ?_
  refine VC.reg (VO.m rfl rfl<|VO.l (LO.nc (.r rfl)) rfl<|VO.f (r := 10) F103_2 rfl rfl rfl<|VO.c 0 O72 rfl rfl ⟨_, rfl⟩ rfl<|VO.l (LO.len S72 (.r rfl) rfl) rfl<|VO.a rfl rfl<|VO.nil ?_)
  refine VE.seqN ?_
  refine VC.seq ?_
  refine VC.seq ?_
  refine VC.reg (VO.m rfl rfl<|VO.l (LO.gt (.r rfl) (.r rfl)) rfl<|VO.m rfl rfl<|VO.gt rfl rfl (fun hg => LO.mv (.r rfl)) rfl<|VO.gt rfl rfl (fun hg => LO.mv (.r rfl)) rfl<|VO.gt rfl rfl (fun hg => LO.nc (.g hg rfl)) rfl<|VO.gt rfl rfl (fun hg => LO.fa (r := 10) F103_2 (.g hg rfl) rfl) rfl<|VO.gt rfl rfl (fun hg => LO.ld O72 (.g hg rfl) (cells_blk 0 rfl ⟨_, rfl⟩)) rfl<|VO.gt rfl rfl (fun hg => LO.mv (.r rfl)) rfl<|VO.gt rfl rfl (fun hg => LO.sub (.g hg rfl) (.r rfl) (wi (by omega) (by omega))) rfl<|VO.gt rfl rfl (fun hg => LO.ixo S72 N3 (fun _ hw => (own_rows hw 5 rfl).some (by rw [List.length_map])) (.g hg rfl) (.g hg rfl) (by have := of_decide_eq_true hg; omega) (by have := of_decide_eq_true hg; omega)) rfl<|VO.gt rfl rfl (fun hg => LO.ld O3 (.g hg rfl) (fun w hw => cells_part (off := 0) (own_cell hw 5 rfl (getD_some (d := (0 : Int)) (j := o.ts.length - 1) (by have := of_decide_eq_true hg; omega))) ⟨_, rfl⟩)) rfl<|VO.gt rfl rfl (fun hg => LO.le (.g hg rfl) (.g hg rfl)) rfl<|VO.l (LO.pkA (.r rfl) rfl rfl (.r rfl)) rfl<|VO.nil ?_)
  refine VE.seqN ?_
  refine VC.cond rfl (fun h35 => ?_) (fun h35 => ?_)
  · (exfalso; exact hltl (by omega))
  ·
   refine VC.skip (VE.seqN ?_)
   refine VC.seq ?_
   refine VC.seq ?_
   refine VC.reg (VO.m rfl rfl<|VO.l (LO.nc (.r rfl)) rfl<|VO.f (r := 9) F103_1 rfl rfl rfl<|VO.c 0 O44 rfl rfl ⟨_, rfl⟩ rfl<|VO.l (LO.len S44 (.r rfl) rfl) rfl<|VO.l (LO.ge (.r rfl) (.r rfl)) rfl<|VO.nil ?_)
   refine VE.seqN ?_
   refine VC.cond rfl (fun h41 => ?_) (fun h41 => ?_)
   · (exfalso; omega)
   ·
    refine VC.skip (VE.seqN ?_)
    refine VC.seq ?_
    refine VC.reg (VO.m rfl rfl<|VO.l (LO.nc (.r rfl)) rfl<|VO.f (r := 0) F103_0 rfl rfl rfl<|VO.f (r := 0) F42_0 rfl rfl rfl<|VO.l (LO.lda (vs := [_,_,_,_,_]) A23 (.r rfl) (cells_blk 0 rfl ⟨_, rfl⟩) rfl) rfl<|VO.m rfl rfl<|VO.h rfl<|HO.callx (xs := [_,_,_]) (vs := [_,_,_]) C41 ⟨(.r rfl), (.r rfl), (.r rfl), trivial⟩ (fun w hw => rAt_c o.g m pm cm 0 w (by omega) (hcl hw)) fun q _ => VO.h rfl<|HO.lo (LO.mv (.r rfl))<|VO.h rfl<|HO.lo (LO.ex (.r rfl) rfl)<|VO.h rfl<|HO.lo (LO.ex (.r rfl) rfl)<|VO.h rfl<|HO.lo (LO.as (.r rfl))<|VO.h rfl<|HO.lo (LO.as (.r rfl))<|VO.nil ?_)
    refine VE.seqN ?_
    refine VC.seq ?_
    refine VC.seq ?_
    refine VC.reg (VO.m rfl rfl<|VO.u rfl rfl rfl<|VO.nil ?_)
    refine VE.seqN ?_
    refine VC.cond rfl (fun h53 => ?_) (fun h53 => ?_)
    · (exfalso; exact h53 hlk)
    ·
     refine VC.skip (VE.seqN ?_)
     refine VC.seq ?_
     refine VC.reg (VO.m rfl rfl<|VO.m rfl rfl<|VO.l (LO.sub (.r rfl) (.r rfl) (wi (by omega) (by omega))) rfl<|VO.h rfl<|HO.callx (xs := [_,_]) (vs := [_,_]) C42 ⟨(.r rfl), (.r rfl), trivial⟩ (fun w hw => by have z := rcases_c o st o.ts.length w hd (by omega) ((selK (L1 := dofR o) [1,2,3,4,5,6,7,8] rfl rfl w hw).has (List.Sublist.refl _)); rw [show st.take o.ts.length = st by rw [htl, List.take_length]] at z; exact z) fun xc _ => VO.h rfl<|HO.lo (LO.len S128 (.r rfl) rfl)<|VO.h rfl<|HO.lo (LO.as (.r rfl))<|VO.nil ?_)
     refine VE.seqN ?_
     refine VC.seq ?_
     refine VC.drawH [[0,1,2,3,4,5,6,7,8,9], [0,1,2,3,4,5,6,7,8,9], [0,1,2,3,4,5,6,7,8,9], [0,1,2,3,4,5,6,7,8,9], [0,1,2,3,4,6,7,8,9], [0,1,3,4,6,7,8,9]] [some 4, some 3, some 3, some 3, some 3, some 1, some 0, none, none, none, none, some 4, some 4, none] mixed (by kernel_rfl) rfl (LX.m rfl rfl<|LX.m rfl rfl<|LX.l (fun _ hJ => LO.nc (.r rfl)) rfl<|LX.l (fun _ hJ => LO.fa (r := 9) F103_1 (.r rfl) rfl) rfl<|LX.l (fun _ hJ => LO.ld O44 (.r rfl) (fun _ hw => cells_at (hJ _ hw) 2 rfl ⟨_, rfl⟩)) rfl<|LX.m rfl rfl<|LX.m rfl rfl<|LX.s<|LX.s<|LX.s<|LX.s<|LX.l (fun _ hJ => LO.nc (.r rfl)) rfl<|LX.l (fun _ hJ => LO.fa (r := 9) F103_1 (.r rfl) rfl) rfl<|LX.s<|LX.nil) (HX.s<|HX.s<|HX.s<|HX.s<|HX.s<|HX.s<|HX.s<|HX.h rfl<|HO.callx (xs := [_]) (vs := [_]) C43 ⟨(.r rfl), trivial⟩ (fun w hw => dclouds_c m pm cm w hcn (hcl hw)) fun ql hql => ⟨selJ (L1 := [_,_,_,_,_,_,_,_,_,_]) [2,3,4,5,6,7,8,9,10,11] rfl rfl rfl, HX.h rfl<|HO.lo (LO.bd (ps := [(_,_), (_,_)]) (vs := [(_,_), (_,_)]) (C := [_,_,_,_,_,_,_,_,_]) B55  ⟨(.r rfl), (.r rfl), trivial⟩ rfl ⟨_, [_], [_,_,_,_,_,_,_,_,_], rfl, rfl, rfl, rfl, ⟨_, [_], [_,_,_,_,_,_,_,_,_], rfl, rfl, rfl, rfl, rfl⟩⟩)<|⟨selJ (L1 := [_,_,_,_,_,_,_,_,_,_]) [2,3,4,5,6,7,8,9,10,11] rfl rfl rfl, HX.h rfl<|HO.bs (ps := [(_,_)]) (vs := [(_,_)]) (Z := [_,_,_,_,_,_,_,_,_]) (C := [_,_,_,_,_,_,_,_,_]) S44 Z55 N55 ⟨(.r rfl), trivial⟩ rfl rfl rfl rfl ⟨_, [_,_,_,_,_,_,_,_,_], [_,_,_,_,_,_,_,_,_], rfl, rfl, rfl, rfl, rfl⟩ fun b17 => ⟨selJ (L1 := [_,_,_,_,_,_,_,_,_,_]) [3,4,5,6,7,8,9,10,11,12] rfl rfl rfl, HX.h rfl<|HO.appT ((EnM.mk T ql.2 ql.1.1 ql.1.2 gZ [] none 0 0)) 8 0 (fun R => [_,_,_,_,_,_,_,_, R,_,_,_,_]) S44 S44 I55 (.r rfl) (.r rfl) rfl rfl rfl rfl rfl rfl rfl (fun _ => rfl) rfl (by omega) fun p10 c10 => ⟨selJ (L1 := [_,_,_,_,_,_,_,_,_]) [3,4,5,6,7,9,10,11,12] rfl rfl rfl, HX.s<|HX.s<|HX.h0<|HO.st 5 (vs := [_]) (C' := [_,_,_,_,_,_,_,_,_,_,_,_]) (L' := [_,_,_,_,_,_,_,_,_,_,_,_,_]) N44 rfl rfl rfl rfl rfl rfl rfl rfl<|⟨selJ (L1 := [_,_,_,_,_,_,_,_]) [3,4,6,7,9,10,11,12] rfl rfl rfl, HX.nil ?_⟩⟩⟩⟩⟩)
     refine VE.seqN ?_
     refine VC.seq ?_
     refine VC.reg (VO.m rfl rfl<|VO.m rfl rfl<|VO.l (LO.nc (.r rfl)) rfl<|VO.f (r := 10) F103_2 rfl rfl rfl<|VO.c 5 O72 rfl rfl ⟨_, rfl⟩ rfl<|VO.m rfl rfl<|VO.h rfl<|HO.bs (ps := [(_,_)]) (vs := [(_,_)]) (Z := [_]) (C := [_]) S72 Z3 N3 ⟨(.r rfl), trivial⟩ rfl rfl rfl rfl ⟨_, [_], [_], rfl, rfl, rfl, rfl, rfl⟩ fun b19 => VO.h rfl<|HO.appT (T) 11 0 (fun R => [_,_,_,_,_,_,_,_,_,_,_, R,_,_]) S72 S72 I3 (.r rfl) (.r rfl) rfl rfl rfl rfl rfl rfl rfl (fun _ => rfl) rfl (by omega) fun p7 c7 => VO.l (LO.nc (.r rfl)) rfl<|VO.f (r := 10) F103_2 rfl rfl rfl<|VO.h0<|HO.st 6 (vs := [_]) (C' := [_,_,_,_,_,_,_,_,_,_,_,_]) (L' := [_,_,_,_,_,_,_,_,_,_,_,_,_,_]) N72 rfl rfl rfl rfl rfl rfl rfl rfl<|VO.nil ?_)
     refine VE.seqN ?_
     refine VC.seq ?_
     refine VC.drawH [[0,1,2,3,4,5,6,7,8,9,10,11,12,13], [0,1,2,3,4,5,6,7,8,9,10,11,12,13], [0,1,2,3,4,5,6,7,8,9,10,11,12,13], [0,1,2,3,4,5,6,7,8,9,10,11,13], [0,1,2,3,4,5,7,8,9,10,11,13]] [some 3, some 2, some 2, some 2, some 2, some 0, some 0, some 0, some 0, some 0, none, none, none, some 3, some 3, none] mixed (by kernel_rfl) rfl (LX.m rfl rfl<|LX.m rfl rfl<|LX.l (fun _ hJ => LO.nc (.r rfl)) rfl<|LX.l (fun _ hJ => LO.fa (r := 11) F103_3 (.r rfl) rfl) rfl<|LX.l (fun _ hJ => LO.ld O101 (.r rfl) (fun _ hw => cells_at (hJ _ hw) 6 rfl ⟨_, rfl⟩)) rfl<|LX.m rfl rfl<|LX.l (fun _ hJ => LO.nc (.r rfl)) rfl<|LX.l (fun _ hJ => LO.fa (r := 0) F103_0 (.r rfl) rfl) rfl<|LX.l (fun _ hJ => LO.lda (vs := [_,_,_,_,_,_,_,_,_]) A42 (.r rfl) (fun _ hw => cells_at (hJ _ hw) 6 rfl ⟨_, rfl⟩) rfl) rfl<|LX.m rfl rfl<|LX.s<|LX.s<|LX.s<|LX.l (fun _ hJ => LO.nc (.r rfl)) rfl<|LX.l (fun _ hJ => LO.fa (r := 11) F103_3 (.r rfl) rfl) rfl<|LX.s<|LX.nil) (HX.s<|HX.s<|HX.s<|HX.s<|HX.s<|HX.s<|HX.s<|HX.s<|HX.s<|HX.s<|HX.h rfl<|HO.callx (xs := [_,_]) (vs := [_,_]) C44 ⟨(.r rfl), (.r rfl), trivial⟩ (fun w hw => threats_c o.g o.rg o.pg o.cg o.lead o.step o.hold m pm cm w hrn1 ⟨own_rows hw 7 rfl, fun x hx => ⟨pix_read (St.inv hw 8 _ rfl) hx, hpxb x hx⟩⟩ hr1 hr2 hr3 hr4 hgo hpx hlk (by omega) (hcl hw)) fun qt hqt => ⟨selJ (L1 := [_,_,_,_,_,_,_,_,_,_,_,_,_,_]) [1,2,3,4,5,6,7,8,9,10,11,12,13,14] rfl rfl rfl, HX.h rfl<|HO.bs (ps := [(_,_)]) (vs := [(_,_)]) (Z := [_]) (C := [_]) S101 Z131 N131 ⟨(.r rfl), trivial⟩ rfl rfl rfl rfl ⟨_, [_], [_], rfl, rfl, rfl, rfl, rfl⟩ fun b25 => ⟨selJ (L1 := [_,_,_,_,_,_,_,_,_,_,_,_,_,_]) [2,3,4,5,6,7,8,9,10,11,12,13,14,15] rfl rfl rfl, HX.h rfl<|HO.appT ((RowA.mk qt.1.1 qt.1.2 qt.2)) 14 0 (fun R => [_,_,_,_,_,_,_,_,_,_,_,_,_,_, R,_]) S101 S101 I131 (.r rfl) (.r rfl) rfl rfl rfl rfl rfl rfl rfl (fun _ => rfl) rfl (by have := hd.thl; omega) fun p12 c12 => ⟨selJ (L1 := [_,_,_,_,_,_,_,_,_,_,_,_,_]) [2,3,4,5,6,7,8,9,10,11,12,13,15] rfl rfl rfl, HX.s<|HX.s<|HX.h0<|HO.st 8 (vs := [_]) (C' := [_,_,_,_,_,_,_,_,_,_,_,_]) (L' := [_,_,_,_,_,_,_,_,_,_,_,_,_,_,_,_]) N101 rfl rfl rfl rfl rfl rfl rfl rfl<|⟨selJ (L1 := [_,_,_,_,_,_,_,_,_,_,_,_]) [2,3,4,5,6,7,9,10,11,12,13,15] rfl rfl rfl, HX.nil ?_⟩⟩⟩⟩)
     refine VE.seqN ?_
     refine VC.seq ?_
     refine VC.res (L' := dofR (DsY.o (DsY.mk (EnM.mk T ql.2 ql.1.1 ql.1.2 gZ [] none 0 0) p10 c10 p7 c7 (RowA.mk qt.1.1 qt.1.2 qt.2) p12 c12 none 0) o T)) (fun w hw => (by exact (St.bagRIn (x := (RowA.mk qt.1.1 qt.1.2 qt.2)) ((St.rresAdd (x := (EnM.mk T ql.2 ql.1.1 ql.1.2 gZ [] none 0 0)) (((selK (L1 := [_,_,_,_,_,_,_,_,_,_,_]) [4,5,12,8,9,10,11,13,14,1,15] rfl rfl _ hw).ownNil 77 2).sel [1,2,0,3,4,5,6,7,8,9,10,11] rfl)).sel [7,8,0,1,2,3,4,5,6] rfl)).sel [2,3,4,5,1,6,7,0] rfl)) ?_
     have hd2 := DoS.step (y := (DsY.mk (EnM.mk T ql.2 ql.1.1 ql.1.2 gZ [] none 0 0) p10 c10 p7 c7 (RowA.mk qt.1.1 qt.1.2 qt.2) p12 c12 none 0)) hd hT1 hT3 hst hqt
     refine VC.reg (VO.m rfl rfl<|VO.m rfl rfl<|VO.m rfl rfl<|VO.h rfl<|HO.callx (xs := [_,_,_]) (vs := [_,_,_]) C45 ⟨(.r rfl), (.r rfl), (.r rfl), trivial⟩ (fun w hw => by have z := events_c (DsY.o (DsY.mk (EnM.mk T ql.2 ql.1.1 ql.1.2 gZ [] none 0 0) p10 c10 p7 c7 (RowA.mk qt.1.1 qt.1.2 qt.2) p12 c12 none 0) o T) st ⟨T, thsP o.sp (m.map CP.c)⟩ w hd2 ((selK (L1 := dofR (DsY.o (DsY.mk (EnM.mk T ql.2 ql.1.1 ql.1.2 gZ [] none 0 0) p10 c10 p7 c7 (RowA.mk qt.1.1 qt.1.2 qt.2) p12 c12 none 0) o T)) [0,1,2,3,4,5,6,7] rfl rfl w hw).has (List.Sublist.refl _)); rw [← htl] at z; exact z) fun xe _ => VO.h rfl<|HO.lo (LO.mv (.r rfl))<|VO.h rfl<|HO.lo (LO.ex (.r rfl) rfl)<|VO.h rfl<|HO.lo (LO.ex (.r rfl) rfl)<|VO.h rfl<|HO.lo (LO.as (.r rfl))<|VO.h rfl<|HO.lo (LO.as (.r rfl))<|VO.nil ?_)
     refine VE.seqN ?_
     refine VC.seq ?_
     refine VC.reg (VO.m rfl rfl<|VO.a rfl rfl<|VO.a rfl rfl<|VO.nil ?_)
     refine VE.seqN ?_
     refine VC.ret (VE.res (vs := [_,_]) rfl ⟨rfl, rfl, trivial⟩ (fun w hw => ?_))
     exact ⟨DsY.mk (EnM.mk T ql.2 ql.1.1 ql.1.2 gZ [] none 0 0) p10 c10 p7 c7 (RowA.mk qt.1.1 qt.1.2 qt.2) p12 c12 xe.1 xe.2, ⟨by unfold EnM.p; rw [hql], hd2⟩, rfl, selK (L1 := [_] ++ dofR (DsY.o (DsY.mk (EnM.mk T ql.2 ql.1.1 ql.1.2 gZ [] none 0 0) p10 c10 p7 c7 (RowA.mk qt.1.1 qt.1.2 qt.2) p12 c12 none 0) o T)) [0,1,2,3,4,5,6,7,8] rfl rfl _ hw⟩
theorem C35 : IsFn Tryz.prog 35 := ⟨_, Tryz.func35, by decide, rfl⟩
def ntQ (n : Nat) (g : Grid) (T : Int) (f : Field) (lv : Int) : Int := if ¬ (0 ≤ T ∧ T ≤ 4294967296) then 3 else if 256 ≤ n then 13 else if fieldE 1073741824 f ≠ 0 then fieldE 1073741824 f else if ¬ ([f.g.x, f.g.y, f.g.size, f.g.wide, f.g.high] = [g.x, g.y, g.size, g.wide, g.high]) then 11 else if ¬ (1 ≤ lv ∧ lv ≤ 1073741824) then 3 else 0
theorem nQ1 {n : Nat} {g : Grid} {T lv : Int} {f : Field} (h : ¬ (0 ≤ T ∧ T ≤ 4294967296)) : 3 = ntQ n g T f lv := (if_pos h).symm
theorem nQ2 {n : Nat} {g : Grid} {T lv : Int} {f : Field} (h : 0 ≤ T ∧ T ≤ 4294967296) (k : (256 : Int) ≤ n) : 13 = ntQ n g T f lv := by unfold ntQ; rw [if_neg (fun q => q h), if_pos (by omega)]
theorem nQ3 {n : Nat} {g : Grid} {T lv : Int} {f : Field} (h : 0 ≤ T ∧ T ≤ 4294967296) (k : ¬ (256 : Int) ≤ n) (q : ¬ fieldE 1073741824 f = 0) : fieldE 1073741824 f = ntQ n g T f lv := by unfold ntQ; rw [if_neg (fun q => q h), if_neg (by omega), if_pos q]
theorem nQ4 {n : Nat} {g : Grid} {T lv : Int} {f : Field} (h : 0 ≤ T ∧ T ≤ 4294967296) (k : ¬ (256 : Int) ≤ n) (q : fieldE 1073741824 f = 0) (z : ¬ [f.g.x, f.g.y, f.g.size, f.g.wide, f.g.high] = [g.x, g.y, g.size, g.wide, g.high]) : 11 = ntQ n g T f lv := by unfold ntQ; rw [if_neg (fun q => q h), if_neg (by omega), if_neg (fun z => z q), if_pos z]
theorem nQ5 {n : Nat} {g : Grid} {T lv : Int} {f : Field} (h : 0 ≤ T ∧ T ≤ 4294967296) (k : ¬ (256 : Int) ≤ n) (q : fieldE 1073741824 f = 0) (z : [f.g.x, f.g.y, f.g.size, f.g.wide, f.g.high] = [g.x, g.y, g.size, g.wide, g.high]) (y : ¬ (1 ≤ lv ∧ lv ≤ 1073741824)) : 3 = ntQ n g T f lv := by unfold ntQ; rw [if_neg (fun q => q h), if_neg (by omega), if_neg (fun z => z q), if_neg (fun y => y z), if_pos y]
theorem nQ6 {n : Nat} {g : Grid} {T lv : Int} {f : Field} (h : 0 ≤ T ∧ T ≤ 4294967296) (k : ¬ (256 : Int) ≤ n) (q : fieldE 1073741824 f = 0) (z : [f.g.x, f.g.y, f.g.size, f.g.wide, f.g.high] = [g.x, g.y, g.size, g.wide, g.high]) (y : 1 ≤ lv ∧ lv ≤ 1073741824) : ntQ n g T f lv = 0 := by unfold ntQ; rw [if_neg (fun q => q h), if_neg (by omega), if_neg (fun z => z q), if_neg (fun y => y z), if_neg (fun q => q y)]
theorem ntQok {n : Nat} {g : Grid} {T lv : Int} {f : Field} (h : ntQ n g T f lv = 0) : (0 ≤ T ∧ T ≤ 4294967296) ∧ n < 256 ∧ fieldE 1073741824 f = 0 ∧ [f.g.x, f.g.y, f.g.size, f.g.wide, f.g.high] = [g.x, g.y, g.size, g.wide, g.high] ∧ (1 ≤ lv ∧ lv ≤ 1073741824) := by
  unfold ntQ at h
  split at h
  · omega
  · rename_i q1
    split at h
    · omega
    · split at h
      · rename_i q q2; exact absurd h q2
      · rename_i q2 q3
        split at h
        · omega
        · rename_i q4
          split at h
          · omega
          · rename_i q5
            exact ⟨Classical.not_not.1 q1, by omega, Classical.not_not.1 q3, Classical.not_not.1 q4, Classical.not_not.1 q5⟩
def stpQ (ts : List Int) (n : Nat) (g : Grid) (T : Int) (l : List Cloud) : Int := if ¬ (0 ≤ T ∧ T ≤ 4294967296) then 3 else if 0 < ts.length ∧ T ≤ lastI ts then 17 else if 256 ≤ n then 13 else lookE g l
theorem lateQ_iff {ts : List Int} {T : Int} : ((0 : Int) < (ts.length : Int) ∧ T ≤ ts.getD (ts.length - 1) 0) ↔ (0 < ts.length ∧ T ≤ lastI ts) := by unfold lastI; omega
theorem sQ_1 {ts : List Int} {n : Nat} {g : Grid} {T : Int} {l : List Cloud} (h : ¬ (0 ≤ T ∧ T ≤ 4294967296)) : 3 = stpQ ts n g T l := (if_pos h).symm
theorem sQ_2 {ts : List Int} {n : Nat} {g : Grid} {T : Int} {l : List Cloud} (h : 0 ≤ T ∧ T ≤ 4294967296) (k : (0 : Int) < (ts.length : Int) ∧ T ≤ ts.getD (ts.length - 1) 0) : 17 = stpQ ts n g T l := by unfold stpQ; rw [if_neg (fun q => q h), if_pos (lateQ_iff.1 k)]
theorem sQ_3 {ts : List Int} {n : Nat} {g : Grid} {T : Int} {l : List Cloud} (h : 0 ≤ T ∧ T ≤ 4294967296) (k : ¬ ((0 : Int) < (ts.length : Int) ∧ T ≤ ts.getD (ts.length - 1) 0)) (z : (256 : Int) ≤ n) : 13 = stpQ ts n g T l := by unfold stpQ; rw [if_neg (fun q => q h), if_neg (fun q => k (lateQ_iff.2 q)), if_pos (by omega)]
theorem sQ_4 {ts : List Int} {n : Nat} {g : Grid} {T : Int} {l : List Cloud} (h : 0 ≤ T ∧ T ≤ 4294967296) (k : ¬ ((0 : Int) < (ts.length : Int) ∧ T ≤ ts.getD (ts.length - 1) 0)) (z : ¬ (256 : Int) ≤ n) : lookE g l = stpQ ts n g T l := by unfold stpQ; rw [if_neg (fun q => q h), if_neg (fun q => k (lateQ_iff.2 q)), if_neg (by omega)]
theorem sQ_0 {ts : List Int} {n : Nat} {g : Grid} {T : Int} {l : List Cloud} (h : 0 ≤ T ∧ T ≤ 4294967296) (k : ¬ ((0 : Int) < (ts.length : Int) ∧ T ≤ ts.getD (ts.length - 1) 0)) (z : ¬ (256 : Int) ≤ n) (y : lookE g l = 0) : stpQ ts n g T l = 0 := (sQ_4 h k z).symm.trans y
theorem dStep_e (o : DoM) (st : List Stp) (T : Int) (m : List CP) (pm : Option Addr) (cm : Nat) (w : World) (hd : DoS o st) (hh : Has w (dofR o)) (hcn : m.length < 1000000000) (hcl : Clouds w pm m) (hne : stpQ o.ts o.lg.length o.g T (m.map CP.c) ≠ 0) :
 Calls Tryz.prog 14 #[ptrN o.b, .int .i64 T, .slice pm m.length cm] w fun e w' => e = .returned (.tuple #[.slice none 0 0, .int .i64 (stpQ o.ts o.lg.length o.g T (m.map CP.c))]) ∧ St (bs w) [] w' := by
 have hTs : RO 1 iC w o.pt o.ts := RO.of_own hh 5 rfl
 have htl := hd.tsl
 have hsl := hd.len
 refine enter (vs := [_,_,_]) (env := [(0,_), (1,_), (2,_)]) Tryz.func14 rfl rfl rfl rfl ?_
 refine VC.q (VO.a rfl rfl<|VO.a rfl rfl<|VO.n<|VC.seq<|VC.q (VO.m rfl rfl<|VO.l (LO.call (xs := [_,_,_]) (vs := [_,_,_]) C34 ⟨(.r rfl), (.r rfl), (.r rfl), trivial⟩ (fun w _ => In_c _ _ _ w)) rfl<|VO.l (LO.not (.r rfl)) rfl<|VO.n<|VC.cond rfl (fun h16 => ?_) (fun h16 => ?_)))
 ·
  refine VC.q (VO.a rfl rfl<|VO.a rfl rfl<|VO.n<|VC.ret (VE.thenR (VE.res (vs := [_,_]) rfl ⟨rfl, rfl, trivial⟩ (fun w hw => ?_))))
  refine ⟨?_, hw.nil⟩
  refine congrArg (fun z => Ending.returned (.tuple #[.slice none 0 0, .int .i64 z])) ?_
  first | exact sQ_1 (by omega) | exact sQ_2 (by omega) h35 | exact sQ_3 (by omega) h35 h41 | exact sQ_4 (by omega) h35 h41
 ·
  have h16 := Classical.not_not.1 h16
  refine VC.skip (VE.seqN<|VC.q (VO.m rfl rfl<|VO.l (LO.nc (.r rfl)) rfl<|VO.f (r := 10) F103_2 rfl rfl rfl<|VO.l (LO.ld O72 (.r rfl) (cells_keep (sub_cells (off := 10) (dof_cells hh) ⟨_, rfl⟩))) rfl<|VO.l (LO.len S72 (.r rfl) rfl) rfl<|VO.a rfl rfl<|VO.n<|VC.seq<|VC.q (VO.m rfl rfl<|VO.l (LO.gt (.r rfl) (.r rfl)) rfl<|VO.m rfl rfl<|VO.gt rfl rfl (fun hg => LO.mv (.r rfl)) rfl<|VO.gt rfl rfl (fun hg => LO.mv (.r rfl)) rfl<|VO.gt rfl rfl (fun hg => LO.nc (.g hg rfl)) rfl<|VO.gt rfl rfl (fun hg => LO.fa (r := 10) F103_2 (.g hg rfl) rfl) rfl<|VO.gt rfl rfl (fun hg => LO.ld O72 (.g hg rfl) (cells_keep (sub_cells (off := 10) (dof_cells hh) ⟨_, rfl⟩))) rfl<|VO.gt rfl rfl (fun hg => LO.mv (.r rfl)) rfl<|VO.gt rfl rfl (fun hg => LO.sub (.g hg rfl) (.r rfl) (wi (by omega) (by omega))) rfl<|VO.gt rfl rfl (fun hg => LO.ixs S72 N3 hTs.sm (.g hg rfl) (.g hg rfl) (by have := of_decide_eq_true hg; omega) (by have := of_decide_eq_true hg; omega)) rfl<|VO.gt rfl rfl (fun hg => LO.ld O3 (.g hg rfl) (fun w hw => cells_part (off := 0) ((hTs.at 0 (j := (o.ts.length - 1)) (by have := of_decide_eq_true hg; omega)) w hw) ⟨_, rfl⟩)) rfl<|VO.gt rfl rfl (fun hg => LO.le (.g hg rfl) (.g hg rfl)) rfl<|VO.l (LO.pkA (.r rfl) rfl rfl (.r rfl)) rfl<|VO.n<|VC.cond rfl (fun h35 => ?_) (fun h35 => ?_))))
  ·
   refine VC.q (VO.a rfl rfl<|VO.a rfl rfl<|VO.n<|VC.ret (VE.thenR (VE.res (vs := [_,_]) rfl ⟨rfl, rfl, trivial⟩ (fun w hw => ?_))))
   refine ⟨?_, hw.nil⟩
   refine congrArg (fun z => Ending.returned (.tuple #[.slice none 0 0, .int .i64 z])) ?_
   first | exact sQ_1 (by omega) | exact sQ_2 (by omega) h35 | exact sQ_3 (by omega) h35 h41 | exact sQ_4 (by omega) h35 h41
  ·
   refine VC.skip (VE.seqN<|VC.seq<|VC.q (VO.m rfl rfl<|VO.l (LO.nc (.r rfl)) rfl<|VO.f (r := 9) F103_1 rfl rfl rfl<|VO.l (LO.ld O44 (.r rfl) (cells_keep (sub_cells (off := 9) (dof_cells hh) ⟨_, rfl⟩))) rfl<|VO.l (LO.len S44 (.r rfl) rfl) rfl<|VO.l (LO.ge (.r rfl) (.r rfl)) rfl<|VO.n<|VC.cond rfl (fun h41 => ?_) (fun h41 => ?_)))
   ·
    refine VC.q (VO.a rfl rfl<|VO.a rfl rfl<|VO.n<|VC.ret (VE.thenR (VE.res (vs := [_,_]) rfl ⟨rfl, rfl, trivial⟩ (fun w hw => ?_))))
    refine ⟨?_, hw.nil⟩
    refine congrArg (fun z => Ending.returned (.tuple #[.slice none 0 0, .int .i64 z])) ?_
    first | exact sQ_1 (by omega) | exact sQ_2 (by omega) h35 | exact sQ_3 (by omega) h35 h41 | exact sQ_4 (by omega) h35 h41
   ·
    refine VC.skip (VE.seqN<|VC.q (VO.m rfl rfl<|VO.l (LO.nc (.r rfl)) rfl<|VO.f (r := 0) F103_0 rfl rfl rfl<|VO.f (r := 0) F42_0 rfl rfl rfl<|VO.l (LO.lda (vs := [_,_,_,_,_]) A23 (.r rfl) (cells_keep (sub_cells (off := 0) (dof_cells hh) ⟨_, rfl⟩)) rfl) rfl<|VO.m rfl rfl<|VO.h rfl<|HO.callx (xs := [_,_,_]) (vs := [_,_,_]) C41 ⟨(.r rfl), (.r rfl), (.r rfl), trivial⟩ (fun w hw => rAt_c o.g m pm cm 0 w (by omega) (hcl.keep w hw)) fun q _ => VO.h rfl<|HO.lo (LO.mv (.r rfl))<|VO.h rfl<|HO.lo (LO.ex (.r rfl) rfl)<|VO.h rfl<|HO.lo (LO.ex (.r rfl) rfl)<|VO.h rfl<|HO.lo (LO.as (.r rfl))<|VO.h rfl<|HO.lo (LO.as (.r rfl))<|VO.n<|VC.seq<|VC.q (VO.m rfl rfl<|VO.u rfl rfl rfl<|VO.n<|VC.cond rfl (fun h53 => ?_) (fun h53 => ?_))))
    ·
     refine VC.q (VO.m rfl rfl<|VO.a rfl rfl<|VO.a rfl rfl<|VO.n<|VC.ret (VE.thenR (VE.res (vs := [_,_]) rfl ⟨rfl, rfl, trivial⟩ (fun w hw => ?_))))
     refine ⟨?_, hw.nil⟩
     refine congrArg (fun z => Ending.returned (.tuple #[.slice none 0 0, .int .i64 z])) ?_
     first | exact sQ_1 (by omega) | exact sQ_2 (by omega) h35 | exact sQ_3 (by omega) h35 h41 | exact sQ_4 (by omega) h35 h41
    · (exfalso; exact hne (sQ_0 (by omega) h35 h41 (Classical.not_not.1 h53)))
theorem dNote_e (o : DoM) (T : Int) (f : Field) (pv : Option Addr) (cv : Nat) (lv : Int) (w : World) (hh : Has w (dofR o)) (hlg : o.lg.length ≤ 1000000) (hv : Spans w pv f.vals) (hne : ntQ o.lg.length o.g T f lv ≠ 0) :
 Calls Tryz.prog 12 #[ptrN o.b, .int .i64 T, .agg #[.int .i64 f.g.x, .int .i64 f.g.y, .int .i64 f.g.size, .int .i64 f.g.wide, .int .i64 f.g.high, .slice pv f.vals.length cv], .int .i64 lv] w fun e w' => e = .returned (.int .i64 (ntQ o.lg.length o.g T f lv)) ∧ St (bs w) [] w' := by
 refine enter (vs := [_,_,_,_]) (env := [(0,_), (1,_), (2,_), (3,_)]) Tryz.func12 rfl rfl rfl rfl ?_
 refine VC.q (VO.h rfl<|HO.box (C := #[_,_,_,_,_,_]) rfl rfl fun b1 => VO.a rfl rfl<|VO.n<|VC.seq<|VC.q (VO.m rfl rfl<|VO.l (LO.call (xs := [_,_,_]) (vs := [_,_,_]) C34 ⟨(.r rfl), (.r rfl), (.r rfl), trivial⟩ (fun w _ => In_c _ _ _ w)) rfl<|VO.l (LO.not (.r rfl)) rfl<|VO.n<|VC.cond rfl (fun h12 => ?_) (fun h12 => ?_)))
 ·
  refine VC.q (VO.a rfl rfl<|VO.n<|VC.ret (VE.thenR (VE.s rfl rfl (fun w hw => ?_))))
  refine ⟨?_, hw.nil⟩
  simp only [resV]
  congr 2
  first | exact nQ1 (by omega) | exact nQ2 (by omega) h18 | exact nQ3 (by omega) h18 h22 | exact nQ4 (by omega) h18 h22 h31 | exact nQ5 (by omega) h18 h22 h31 (by omega)
 ·
  have h12 := Classical.not_not.1 h12
  refine VC.skip (VE.seqN<|VC.seq<|VC.q (VO.m rfl rfl<|VO.l (LO.nc (.r rfl)) rfl<|VO.f (r := 9) F103_1 rfl rfl rfl<|VO.l (LO.ld O44 (.r rfl) (cells_keep (sub_cells (off := 9) (dof_cells hh) ⟨_, rfl⟩))) rfl<|VO.l (LO.len S44 (.r rfl) rfl) rfl<|VO.l (LO.ge (.r rfl) (.r rfl)) rfl<|VO.n<|VC.cond rfl (fun h18 => ?_) (fun h18 => ?_)))
  ·
   refine VC.q (VO.a rfl rfl<|VO.n<|VC.ret (VE.thenR (VE.s rfl rfl (fun w hw => ?_))))
   refine ⟨?_, hw.nil⟩
   simp only [resV]
   congr 2
   first | exact nQ1 (by omega) | exact nQ2 (by omega) h18 | exact nQ3 (by omega) h18 h22 | exact nQ4 (by omega) h18 h22 h31 | exact nQ5 (by omega) h18 h22 h31 (by omega)
  ·
   refine VC.skip (VE.seqN<|VC.q (VO.l (LO.lda (vs := [_,_,_,_,_,_]) A48 (.r rfl) (cells_blk 0 rfl ⟨_, rfl⟩) rfl) rfl<|VO.l (LO.call (xs := [_]) (vs := [_]) C35 ⟨(.r rfl), trivial⟩ (fun w hw => rCheckField_c f pv cv w (hv.keep w hw))) rfl<|VO.a rfl rfl<|VO.n<|VC.seq<|VC.q (VO.m rfl rfl<|VO.u rfl rfl rfl<|VO.n<|VC.cond rfl (fun h22 => ?_) (fun h22 => ?_))))
   ·
    refine VC.q (VO.m rfl rfl<|VO.a rfl rfl<|VO.n<|VC.ret (VE.thenR (VE.s rfl rfl (fun w hw => ?_))))
    refine ⟨?_, hw.nil⟩
    simp only [resV]
    congr 2
    first | exact nQ1 (by omega) | exact nQ2 (by omega) h18 | exact nQ3 (by omega) h18 h22 | exact nQ4 (by omega) h18 h22 h31 | exact nQ5 (by omega) h18 h22 h31 (by omega)
   ·
    have h22 := Classical.not_not.1 h22
    refine VC.skip (VE.seqN<|VC.seq<|VC.seq<|VC.draw mixed (LL.l (LO.fa (r := 0) F48_0 (.r rfl) rfl) rfl<|LL.l (LO.lda (vs := [_,_,_,_,_]) A23 (.r rfl) (cells_blk 0 rfl ⟨_, rfl⟩) rfl) rfl<|LL.m rfl rfl<|LL.l (LO.nc (.r rfl)) rfl<|LL.l (LO.fa (r := 0) F103_0 (.r rfl) rfl) rfl<|LL.l (LO.fa (r := 0) F42_0 (.r rfl) rfl) rfl<|LL.l (LO.lda (vs := [_,_,_,_,_]) A23 (.r rfl) (cells_keep (sub_cells (off := 0) (dof_cells hh) ⟨_, rfl⟩)) rfl) rfl<|LL.l (LO.neA («as» := [_,_,_,_,_]) (bs := [_,_,_,_,_]) EA23 (.r rfl) (.r rfl) rfl rfl) rfl<|LL.nil) (by kernel_rfl)<|VE.seqN<|VC.cond rfl (fun h31 => ?_) (fun h31 => ?_))
    ·
     refine VC.q (VO.a rfl rfl<|VO.n<|VC.ret (VE.thenR (VE.s rfl rfl (fun w hw => ?_))))
     refine ⟨?_, hw.nil⟩
     simp only [resV]
     congr 2
     first | exact nQ1 (by omega) | exact nQ2 (by omega) h18 | exact nQ3 (by omega) h18 h22 | exact nQ4 (by omega) h18 h22 h31 | exact nQ5 (by omega) h18 h22 h31 (by omega)
    ·
     have h31 := Classical.not_not.1 h31
     refine VC.skip (VE.seqN<|VC.seq<|VC.q (VO.m rfl rfl<|VO.l (LO.call (xs := [_,_,_]) (vs := [_,_,_]) C34 ⟨(.r rfl), (.r rfl), (.r rfl), trivial⟩ (fun w _ => In_c _ _ _ w)) rfl<|VO.l (LO.not (.r rfl)) rfl<|VO.n<|VC.cond rfl (fun h34 => ?_) (fun h34 => ?_)))
     ·
      refine VC.q (VO.a rfl rfl<|VO.n<|VC.ret (VE.thenR (VE.s rfl rfl (fun w hw => ?_))))
      refine ⟨?_, hw.nil⟩
      simp only [resV]
      congr 2
      first | exact nQ1 (by omega) | exact nQ2 (by omega) h18 | exact nQ3 (by omega) h18 h22 | exact nQ4 (by omega) h18 h22 h31 | exact nQ5 (by omega) h18 h22 h31 (by omega)
     · (exfalso; exact hne (nQ6 (by omega) h18 h22 h31 (by omega)))
theorem dnote_st {o : DoM} {st : List Stp} {x : EnM} {p : Option Addr} {c : Nat} (h : DoS o st) : DoS { o with lg := o.lg ++ [x], pl := p, cl := c } st := ⟨h.ts, h.th, h.len, h.tb, h.rl, h.hd, h.rn⟩
theorem dNote_c (o : DoM) (T : Int) (f : Field) (pv : Option Addr) (cv : Nat) (lv : Int) (w : World) (hh : Has w (dofR o)) (hv : ∀ {L : List Res} {v : World}, St ⟨w, fpL (dofR o)⟩ L v → Spans v pv f.vals) (hok : ntQ o.lg.length o.g T f lv = 0) :
 Calls Tryz.prog 12 #[ptrN o.b, .int .i64 T, .agg #[.int .i64 f.g.x, .int .i64 f.g.y, .int .i64 f.g.size, .int .i64 f.g.wide, .int .i64 f.g.high, .slice pv f.vals.length cv], .int .i64 lv] w fun e w' => ∃ y : (Option Addr × Nat) × (Option Addr × Nat), True ∧ e = .returned (.int .i64 0) ∧ St ⟨w, fpL (dofR o)⟩ (dofR { o with lg := o.lg ++ [EnM.mk T [] none 0 f.g f.vals y.1.1 y.1.2 lv], pl := y.2.1, cl := y.2.2 }) w' := by
 obtain ⟨hk1, hk2, hk3, hk4, hk5⟩ := ntQok hok
 have har : f.vals.length ≤ 4096 := by unfold fieldE at hk3; split at hk3; (· omega); (· rename_i q; have z := area_bd (Classical.not_not.1 q); split at hk3; (· omega); (· omega))
 refine enterO (vs := [_,_,_,_]) (env := [(0,_), (1,_), (2,_), (3,_)]) hh.enter Tryz.func12 rfl rfl rfl rfl ?_
 refine VC.q (VO.h rfl<|HO.box (C := #[_,_,_,_,_,_]) rfl rfl fun b9 => VO.a rfl rfl<|VO.n<|VC.seq<|VC.q (VO.m rfl rfl<|VO.l (LO.call (xs := [_,_,_]) (vs := [_,_,_]) C34 ⟨(.r rfl), (.r rfl), (.r rfl), trivial⟩ (fun w _ => In_c _ _ _ w)) rfl<|VO.l (LO.not (.r rfl)) rfl<|VO.n<|VC.cond rfl (fun h12 => ?_) (fun h12 => ?_)))
 · (exfalso; omega)
 ·
  refine VC.skip (VE.seqN<|VC.seq<|VC.q (VO.m rfl rfl<|VO.l (LO.nc (.r rfl)) rfl<|VO.f (r := 9) F103_1 rfl rfl rfl<|VO.c 1 O44 rfl rfl ⟨_, rfl⟩ rfl<|VO.l (LO.len S44 (.r rfl) rfl) rfl<|VO.l (LO.ge (.r rfl) (.r rfl)) rfl<|VO.n<|VC.cond rfl (fun h18 => ?_) (fun h18 => ?_)))
  · (exfalso; omega)
  ·
   refine VC.skip (VE.seqN<|VC.q (VO.l (LO.lda (vs := [_,_,_,_,_,_]) A48 (.r rfl) (cells_blk 0 rfl ⟨_, rfl⟩) rfl) rfl<|VO.l (LO.call (xs := [_]) (vs := [_]) C35 ⟨(.r rfl), trivial⟩ (fun w hw => rCheckField_c f pv cv w (hv hw))) rfl<|VO.a rfl rfl<|VO.n<|VC.seq<|VC.q (VO.m rfl rfl<|VO.u rfl rfl rfl<|VO.n<|VC.cond rfl (fun h22 => ?_) (fun h22 => ?_))))
   · (exfalso; exact h22 hk3)
   ·
    refine VC.skip (VE.seqN<|VC.seq<|VC.seq<|VC.draw mixed (LL.l (LO.fa (r := 0) F48_0 (.r rfl) rfl) rfl<|LL.l (LO.lda (vs := [_,_,_,_,_]) A23 (.r rfl) (cells_blk 0 rfl ⟨_, rfl⟩) rfl) rfl<|LL.m rfl rfl<|LL.l (LO.nc (.r rfl)) rfl<|LL.l (LO.fa (r := 0) F103_0 (.r rfl) rfl) rfl<|LL.l (LO.fa (r := 0) F42_0 (.r rfl) rfl) rfl<|LL.l (LO.lda (vs := [_,_,_,_,_]) A23 (.r rfl) (cells_blk 1 rfl ⟨_, rfl⟩) rfl) rfl<|LL.l (LO.neA («as» := [_,_,_,_,_]) (bs := [_,_,_,_,_]) EA23 (.r rfl) (.r rfl) rfl rfl) rfl<|LL.nil) (by kernel_rfl)<|VE.seqN<|VC.cond rfl (fun h31 => ?_) (fun h31 => ?_))
    · (exfalso; exact h31 hk4)
    ·
     refine VC.skip (VE.seqN<|VC.seq<|VC.q (VO.m rfl rfl<|VO.l (LO.call (xs := [_,_,_]) (vs := [_,_,_]) C34 ⟨(.r rfl), (.r rfl), (.r rfl), trivial⟩ (fun w _ => In_c _ _ _ w)) rfl<|VO.l (LO.not (.r rfl)) rfl<|VO.n<|VC.cond rfl (fun h34 => ?_) (fun h34 => ?_)))
     · (exfalso; omega)
     ·
      refine VC.skip (VE.seqN<|VC.seq<|VC.drawH [[0,1,2,3,4,5,6,7,8], [0,1,2,3,4,5,6,7,8], [0,1,2,3,4,5,6,7,8], [0,1,2,3,4,5,6,7,8], [0,1,2,3,4,5,6,7,8], [0,1,2,3,4,5,6,7,8], [0,1,2,3,5,6,7,8], [0,2,3,5,6,7,8]] [some 6, some 5, some 5, some 5, some 5, some 3, some 2, some 2, none, some 1, some 1, none, none, some 3, none, none, none, some 6, some 6, none] mixed (by kernel_rfl) rfl (LX.m rfl rfl<|LX.m rfl rfl<|LX.l (fun _ hJ => LO.nc (.r rfl)) rfl<|LX.l (fun _ hJ => LO.fa (r := 9) F103_1 (.r rfl) rfl) rfl<|LX.l (fun _ hJ => LO.ld O44 (.r rfl) (fun _ hw => cells_at (hJ _ hw) 1 rfl ⟨_, rfl⟩)) rfl<|LX.m rfl rfl<|LX.l (fun _ hJ => LO.fa (r := 0) F48_0 (.r rfl) rfl) rfl<|LX.l (fun _ hJ => LO.lda (vs := [_,_,_,_,_]) A23 (.r rfl) (fun _ hw => cells_at (hJ _ hw) 0 rfl ⟨_, rfl⟩) rfl) rfl<|LX.s<|LX.l (fun _ hJ => LO.fa (r := 5) F48_1 (.r rfl) rfl) rfl<|LX.l (fun _ hJ => LO.ld O46 (.r rfl) (fun _ hw => cells_at (hJ _ hw) 0 rfl ⟨_, rfl⟩)) rfl<|LX.s<|LX.s<|LX.m rfl rfl<|LX.s<|LX.s<|LX.s<|LX.l (fun _ hJ => LO.nc (.r rfl)) rfl<|LX.l (fun _ hJ => LO.fa (r := 9) F103_1 (.r rfl) rfl) rfl<|LX.s<|LX.nil) (HX.s<|HX.s<|HX.s<|HX.s<|HX.s<|HX.s<|HX.s<|HX.s<|HX.h rfl<|HO.bs0 S46 N77 fun b13 => ⟨selJ (L1 := [_,_,_,_,_,_,_,_,_]) [1,2,3,4,5,6,7,8,9] rfl rfl rfl, HX.s<|HX.s<|HX.h rfl<|HO.appN0 (f := Span.cells) (m := f.vals) 0 (fun R => [R,_,_,_,_,_,_,_,_,_]) S46 S46 I77 (.r rfl) (.r rfl) rfl (fun w hw => hv hw) (fun _ => rfl) (fun _ => rfl) rfl rfl (fun _ => rfl) rfl (by omega) fun p11 c11 _ => ⟨selJ (L1 := [_,_,_,_,_,_,_,_,_]) [1,2,3,4,5,6,7,8,9] rfl rfl rfl, HX.h rfl<|HO.lo (LO.bd (ps := [(_,_), (_,_)]) (vs := [(_,_), (_,_)]) (C := [_,_,_,_,_,_]) B48  ⟨(.r rfl), (.r rfl), trivial⟩ rfl ⟨_, [_,_,_,_,_], [_,_,_,_,_,_], rfl, rfl, rfl, rfl, ⟨_, [_], [_,_,_,_,_,_], rfl, rfl, rfl, rfl, rfl⟩⟩)<|⟨selJ (L1 := [_,_,_,_,_,_,_,_,_]) [1,2,3,4,5,6,7,8,9] rfl rfl rfl, HX.s<|HX.h rfl<|HO.lo (LO.bd (ps := [(_,_), (_,_), (_,_)]) (vs := [(_,_), (_,_), (_,_)]) (C := [_,_,_,_,_,_,_,_,_]) B55  ⟨(.r rfl), (.r rfl), (.r rfl), trivial⟩ rfl ⟨_, [_], [_,_,_,_,_,_,_,_,_], rfl, rfl, rfl, rfl, ⟨_, [_,_,_,_,_,_], [_,_,_,_,_,_,_,_,_], rfl, rfl, rfl, rfl, ⟨_, [_], [_,_,_,_,_,_,_,_,_], rfl, rfl, rfl, rfl, rfl⟩⟩⟩)<|⟨selJ (L1 := [_,_,_,_,_,_,_,_,_]) [1,2,3,4,5,6,7,8,9] rfl rfl rfl, HX.h rfl<|HO.bs (ps := [(_,_)]) (vs := [(_,_)]) (Z := [_,_,_,_,_,_,_,_,_]) (C := [_,_,_,_,_,_,_,_,_]) S44 Z55 N55 ⟨(.r rfl), trivial⟩ rfl rfl rfl rfl ⟨_, [_,_,_,_,_,_,_,_,_], [_,_,_,_,_,_,_,_,_], rfl, rfl, rfl, rfl, rfl⟩ fun b14 => ⟨selJ (L1 := [_,_,_,_,_,_,_,_,_]) [2,3,4,5,6,7,8,9,10] rfl rfl rfl, HX.h rfl<|HO.appT ((EnM.mk T [] none 0 f.g f.vals p11 c11 lv)) 6 0 (fun R => [_,_,_,_,_,_, R,_,_,_,_]) S44 S44 I55 (.r rfl) (.r rfl) rfl rfl rfl rfl rfl rfl rfl (fun _ => rfl) rfl (by omega) fun p16 c16 => ⟨selJ (L1 := [_,_,_,_,_,_,_,_]) [2,3,4,5,7,8,9,10] rfl rfl rfl, HX.s<|HX.s<|HX.h0<|HO.st 3 (vs := [_]) (C' := [_,_,_,_,_,_,_,_,_,_,_,_]) (L' := [_,_,_,_,_,_,_,_,_,_,_]) N44 rfl rfl rfl rfl rfl rfl rfl rfl<|⟨selJ (L1 := [_,_,_,_,_,_,_]) [2,4,5,7,8,9,10] rfl rfl rfl, HX.nil ?_⟩⟩⟩⟩⟩⟩⟩))
      refine VE.seqN<|VC.q (VO.a rfl rfl<|VO.n<|VC.ret (VE.s rfl rfl (fun w hw => ?_)))
      refine ⟨((p11, c11), (p16, c16)), trivial, rfl, ?_⟩
      exact (St.rresAdd (x := (EnM.mk T [] none 0 f.g f.vals p11 c11 lv)) (lg := o.lg) (((selK (L1 := [_,_,_,_,_,_,_,_,_]) [1,7,3,4,5,6,8,9,10] rfl rfl _ hw).bagD (Rs := [])).ownNil 107 7)).sel [1,2,3,4,0,5,6,7] rfl
theorem A55 : IsAgg Tryz.prog 55 9 := ⟨⟨_, Tryz.underlying55, rfl⟩, by kernel_rfl⟩
theorem F55_0 : FieldAt Tryz.prog 55 0 0 := ⟨_,_, Tryz.underlying55, rfl, rfl, 0, by kernel_rfl⟩
theorem F55_1 : FieldAt Tryz.prog 55 1 1 := ⟨_,_, Tryz.underlying55, rfl, rfl, 0, by kernel_rfl⟩
theorem O52 : IsOne Tryz.prog 52 := ⟨⟨_, Tryz.underlying52, rfl⟩, by kernel_rfl⟩
theorem F55_2 : FieldAt Tryz.prog 55 2 2 := ⟨_,_, Tryz.underlying55, rfl, rfl, 5, by kernel_rfl⟩
theorem F55_3 : FieldAt Tryz.prog 55 3 8 := ⟨_,_, Tryz.underlying55, rfl, rfl, 0, by kernel_rfl⟩
theorem dlg_read {o : DoM} {w : World} (hh : Has w (dofR o)) {x : EnM} (hx : x ∈ o.lg) (hb : x.p.bd) : Clouds w x.pc x.l ∧ x.l.length < 1000000000 ∧ Spans w x.pv x.vs ∧ x.vs.length ≤ 4096 := by
  have hi := St.inv hh 4 _ rfl
  have h1 := hi.1 (own 107 7 x.pc x.cc (x.l.map CP.cells)) (List.mem_flatMap.2 ⟨x, hx, .head _⟩)
  have h2 := hi.1 (bagD (x.l.flatMap cpR)) (List.mem_flatMap.2 ⟨x, hx, .tail _ (.head _)⟩)
  have h3 := hi.1 (own 77 2 x.pv x.cv (x.vs.map Span.cells)) (List.mem_flatMap.2 ⟨x, hx, .tail _ (.tail _ (.head _))⟩)
  obtain ⟨b1, b2, b3⟩ := hb
  have b1' : x.l.length < 1000000000 := by rw [← List.length_map (f := CP.c)]; exact b1
  refine ⟨⟨own_inv_rows h1, fun c hc => ?_⟩, b1', own_inv_rows h3, b3⟩
  have hr := cp_read h2 hc
  have hb := b2 c.c (List.mem_map_of_mem hc)
  exact ⟨hr.1, hr.2, hb.1, hb.2⟩
theorem dLog_c (o : DoM) (w : World) (hh : Has w (dofR o)) (hlg : o.lg.length ≤ 256) (hb : ∀ x, x ∈ o.lg → x.p.bd) :
 Calls Tryz.prog 18 #[ptrN o.b] w fun e w' => ∃ x : Option Addr × Nat, True ∧ e = .returned (.slice x.1 o.lg.length x.2) ∧ St (bs w) [] w' := by
 have hLr : RO 9 EnM.cells w o.pl o.lg := RO.of_own hh 3 rfl
 refine enter (vs := [_]) (env := [(0,_)]) Tryz.func18 rfl rfl rfl rfl ?_
 refine VC.q (VO.a rfl rfl<|VO.n<|VC.q (VO.a rfl rfl<|VO.n<|VC.seq<|VC.q (VO.a rfl rfl<|VO.n<|VC.block<|VC.loopK (α := Nat × (List EnM) × (Option Addr) × Nat) 0 (fun gx => [(3, .slice gx.2.2.1 gx.2.1.length gx.2.2.2), (4, .int .i64 (gx.1 : Nat))]) [(0,_)] (fun gx => [own 55 9 gx.2.2.1 gx.2.2.2 (gx.2.1.map EnM.cells)]) (fun gx => gx.1 ≤ o.lg.length ∧ gx.2.1.length = gx.1) (fun gx => o.lg.length - gx.1) (0, [], none, 0) (by exact ⟨Nat.zero_le _, rfl⟩) (.cons rfl (.cons rfl (.cons rfl .nil))) (fun _ h => (h.ownNil 55 9)) ?_)))
 rintro ⟨j, xs, px_, cx_⟩ ⟨hj, hxl⟩
 show VC _ _ _ _ _ ([(3, .slice px_ xs.length cx_), (4, .int .i64 (j : Nat))] ++ _) ([own 55 9 px_ cx_ (xs.map EnM.cells)] ++ _) _ _
 dsimp only at hj hxl
 refine VC.seq<|VC.q (VO.m rfl rfl<|VO.m rfl rfl<|VO.l (LO.nc (.r rfl)) rfl<|VO.f (r := 9) F103_1 rfl rfl rfl<|VO.l (LO.ld O44 (.r rfl) (cells_keep (sub_cells (off := 9) (dof_cells hh) ⟨_, rfl⟩))) rfl<|VO.l (LO.len S44 (.r rfl) rfl) rfl<|VO.t rfl rfl rfl<|VO.n<|VC.cond rfl (fun h12 => ?_) (fun h12 => ?_))
 ·
  obtain ⟨x, hx⟩ : ∃ x, o.lg[j]? = some x := ⟨_, List.getElem?_eq_getElem (by omega)⟩
  have hxm := List.mem_of_getElem? hx
  have hxr := dlg_read hh hxm (hb x hxm)
  have hxk := fun {L : List Res} {v : World} (hv : St (bs w) L v) => dlg_read (hh.keep hv) hxm (hb x hxm)
  have hvl := hxr.2.2.2
  refine VC.skip (VE.seqN<|VC.seq<|VC.block<|VC.q (VO.m rfl rfl<|VO.l (LO.nc (.r rfl)) rfl<|VO.f (r := 9) F103_1 rfl rfl rfl<|VO.l (LO.ld O44 (.r rfl) (cells_keep (sub_cells (off := 9) (dof_cells hh) ⟨_, rfl⟩))) rfl<|VO.m rfl rfl<|VO.l (LO.ixs S44 N55 hLr.sm (.r rfl) (.r rfl) rfl (by omega)) rfl<|VO.l (LO.lda (vs := [_,_,_,_,_,_,_,_,_]) A55 (.r rfl) (fun w hw => cells_part (off := 0) ((fun w2 hw2 => (hLr.keep w2 hw2).cells _ _ (by rw [List.getElem?_map, hx]; rfl)) w hw) ⟨_, rfl⟩) rfl) rfl<|VO.h rfl<|HO.alloc (C := #[_,_,_,_,_,_,_,_,_]) Z55 rfl fun b2 => VO.h0<|HO.st 0 (vs := [_,_,_,_,_,_,_,_,_]) (C' := [_,_,_,_,_,_,_,_,_]) (L' := [_,_]) N55 rfl rfl rfl rfl rfl rfl rfl rfl<|VO.n<|VC.drawB [⟨9,31, fun b => .slice (some ⟨b, 0, none⟩) 0 0,77, #[]⟩] [[0,1], [0,1], [0,1], [0,1], [0,1], [0,1], [0,1], [0], [0]] [some 6, some 4, some 4, some 2, some 2, none, some 3, some 3, some 3, none, some 2, some 2, some 2, none, none, some 4, some 4, none, none, none, none] mixed (by kernel_rfl) rfl (LX.m rfl rfl<|LX.l (fun _ hJ => LO.fa (r := 0) F55_0 (.r rfl) rfl) rfl<|LX.l (fun _ hJ => LO.ld O3 (.r rfl) (fun _ hw => cells_at (hJ _ hw) 0 rfl ⟨_, rfl⟩)) rfl<|LX.l (fun _ hJ => LO.fa (r := 1) F55_1 (.r rfl) rfl) rfl<|LX.l (fun _ hJ => LO.ld O52 (.r rfl) (fun _ hw => cells_at (hJ _ hw) 0 rfl ⟨_, rfl⟩)) rfl<|LX.s<|LX.l (fun _ hJ => LO.fa (r := 2) F55_2 (.r rfl) rfl) rfl<|LX.l (fun _ hJ => LO.fa (r := 2) F48_0 (.r rfl) rfl) rfl<|LX.l (fun _ hJ => LO.lda (vs := [_,_,_,_,_]) A23 (.r rfl) (fun _ hw => cells_at (hJ _ hw) 0 rfl ⟨_, rfl⟩) rfl) rfl<|LX.s<|LX.l (fun _ hJ => LO.fa (r := 2) F55_2 (.r rfl) rfl) rfl<|LX.l (fun _ hJ => LO.fa (r := 7) F48_1 (.r rfl) rfl) rfl<|LX.l (fun _ hJ => LO.ld O46 (.r rfl) (fun _ hw => cells_at (hJ _ hw) 0 rfl ⟨_, rfl⟩)) rfl<|LX.s<|LX.s<|LX.l (fun _ hJ => LO.fa (r := 8) F55_3 (.r rfl) rfl) rfl<|LX.l (fun _ hJ => LO.ld O3 (.r rfl) (fun _ hw => cells_at (hJ _ hw) 0 rfl ⟨_, rfl⟩)) rfl<|LX.s<|LX.s<|LX.s<|LX.s<|LX.nil) (⟨⟨rfl,_, rfl, FO.bs0 S46 N77⟩, trivial⟩) (HY.s<|HY.s<|HY.s<|HY.s<|HY.s<|HY.h rfl rfl fun X => HO.callx (xs := [_]) (vs := [_]) C43 ⟨(.r rfl), trivial⟩ (fun w hw => dclouds_c x.l x.pc x.cc w hxr.2.1 ((hxk hw).1)) fun ql _ => ⟨[_,_,_,_], rfl, selJ (L1 := [_,_]) [2,3] rfl rfl rfl, HY.s<|HY.s<|HY.s<|HY.f rfl fun b10 => ⟨selJ (L1 := [_,_]) [3,4] rfl rfl rfl, HY.s<|HY.s<|HY.s<|HY.h rfl rfl fun X => HO.pre (fun w hw => hw.blkOwn 0 2 rfl)<|HO.appN0 (f := Span.cells) (m := x.vs) 0 (fun R => [R,_,_,_,_] ++ X) S46 S46 I77 (.r rfl) (.r rfl) rfl (fun w hw => (hxk hw).2.2.1) (fun _ => rfl) (fun _ => rfl) rfl rfl (fun _ => rfl) rfl (by omega) fun p13 c13 _ => ⟨[_,_,_,_,_], rfl, selJ (L1 := [_,_]) [3,4] rfl rfl rfl, HY.h rfl rfl fun X => HO.lo (LO.bd (ps := [(_,_), (_,_)]) (vs := [(_,_), (_,_)]) (C := [_,_,_,_,_,_]) B48  ⟨(.r rfl), (.r rfl), trivial⟩ rfl ⟨_, [_,_,_,_,_], [_,_,_,_,_,_], rfl, rfl, rfl, rfl, ⟨_, [_], [_,_,_,_,_,_], rfl, rfl, rfl, rfl, rfl⟩⟩)<|⟨[_,_,_,_,_], rfl, selJ (L1 := [_,_]) [3,4] rfl rfl rfl, HY.s<|HY.s<|HY.h rfl rfl fun X => HO.lo (LO.bd (ps := [(_,_), (_,_), (_,_), (_,_)]) (vs := [(_,_), (_,_), (_,_), (_,_)]) (C := [_,_,_,_,_,_,_,_,_]) B55  ⟨(.r rfl), (.r rfl), (.r rfl), (.r rfl), trivial⟩ rfl ⟨_, [_], [_,_,_,_,_,_,_,_,_], rfl, rfl, rfl, rfl, ⟨_, [_], [_,_,_,_,_,_,_,_,_], rfl, rfl, rfl, rfl, ⟨_, [_,_,_,_,_,_], [_,_,_,_,_,_,_,_,_], rfl, rfl, rfl, rfl, ⟨_, [_], [_,_,_,_,_,_,_,_,_], rfl, rfl, rfl, rfl, rfl⟩⟩⟩⟩)<|⟨[_,_,_,_,_], rfl, selJ (L1 := [_,_]) [3,4] rfl rfl rfl, HY.h rfl rfl fun X => HO.bs (ps := [(_,_)]) (vs := [(_,_)]) (Z := [_,_,_,_,_,_,_,_,_]) (C := [_,_,_,_,_,_,_,_,_]) S44 Z55 N55 ⟨(.r rfl), trivial⟩ rfl rfl rfl rfl ⟨_, [_,_,_,_,_,_,_,_,_], [_,_,_,_,_,_,_,_,_], rfl, rfl, rfl, rfl, rfl⟩ fun b11 => ⟨[_,_,_,_,_,_], rfl, selJ (L1 := [_,_]) [4,5] rfl rfl rfl, HY.h rfl rfl fun X => HO.appT ((EnM.mk x.t ql.2 ql.1.1 ql.1.2 x.g x.vs p13 c13 x.lv)) 5 0 (fun R => [_,_,_,_,_, R] ++ X) S44 S44 I55 (.r rfl) (.r rfl) rfl rfl rfl rfl rfl rfl rfl (fun _ => rfl) rfl (by omega) fun p19 c19 => ⟨[_,_,_,_,_,_], rfl, selJ (L1 := [_]) [4] rfl rfl rfl, HY.h rfl rfl fun X => HO.lo (LO.as (.r rfl))<|⟨[_,_,_,_,_,_], rfl, selJ (L1 := [_]) [4] rfl rfl rfl, HY.nil ?_⟩⟩⟩⟩⟩⟩⟩⟩)))
  refine VE.inN (VE.seqN<|VC.reg (VO.m rfl rfl<|VO.p rfl rfl (by omega) (by omega) rfl<|VO.a rfl rfl<|VO.nil<|VE.thenN fun a w ha hw => ⟨(j + 1, xs ++ [EnM.mk x.t ql.2 ql.1.1 ql.1.2 x.g x.vs p13 c13 x.lv], p19, c19), ⟨by dsimp only; omega, by dsimp only; rw [List.length_append, List.length_singleton]; omega⟩, (by dsimp only; omega), ha.sub (.cons rfl (.cons rfl (.cons rfl .nil))), hw.sel [5] rfl⟩))
 ·
  refine VC.exit (VE.thenX (VE.thenX (VE.inX (VE.seqN<|VC.q (VO.m rfl rfl<|VO.a rfl rfl<|VO.n<|VC.ret (VE.s rfl rfl (fun w hw => ?_)))))))
  have hxe : xs.length = o.lg.length := by omega
  rw [← hxe]
  exact ⟨(px_, cx_), trivial, rfl, hw.nil⟩
theorem dhit_c (n : EnM) (x : RG) (w : World) (hv : Spans w n.pv n.vs) (hx : Ints w x.px x.r.pix) (hl : x.r.pix.length < 1000000000000) (hp : ∀ p, p ∈ x.r.pix → 0 ≤ p ∧ p < (n.vs.length : Int)) :
 Calls Tryz.prog 71 #[.agg #[.string x.r.name, .slice x.px x.r.pix.length x.cx], .agg n.cells.toArray] w fun e w' => e = .returned (.tuple #[.bool (hitB x.r.pix n.vs n.lv), .bool (canB x.r.pix n.vs n.lv)]) ∧ St (bs w) [] w' := by
 refine enter (vs := [_,_]) (env := [(0,_), (1,_)]) Tryz.func71 rfl rfl rfl rfl ?_
 refine VC.q (VO.h rfl<|HO.box (C := #[_,_]) rfl rfl fun b1 => VO.h rfl<|HO.box (C := #[_,_,_,_,_,_,_,_,_]) rfl rfl fun b2 => VO.a rfl rfl<|VO.a rfl rfl<|VO.n<|VC.q (VO.a rfl rfl<|VO.a rfl rfl<|VO.n<|VC.seq<|VC.q (VO.a rfl rfl<|VO.n<|VC.block<|VC.loopK (α := Nat) 0 (fun gx => [(6, .bool (hitB (x.r.pix.take gx) n.vs n.lv)), (7, .bool (canB (x.r.pix.take gx) n.vs n.lv)), (8, .int .i64 (gx : Nat))]) [(2,_), (3,_)] (fun gx => []) (fun gx => gx ≤ x.r.pix.length) (fun gx => x.r.pix.length - gx) 0 (by exact Nat.zero_le _) (.c4 rfl rfl rfl rfl (.cons rfl .nil)) (fun _ h => h) ?_)))
 rintro j hj
 refine VC.seq<|VC.q (VO.m rfl rfl<|VO.f (r := 1) F100_1 rfl rfl rfl<|VO.c 1 O72 rfl rfl ⟨_, rfl⟩ rfl<|VO.l (LO.len S72 (.r rfl) rfl) rfl<|VO.t rfl rfl rfl<|VO.n<|VC.cond rfl (fun h14 => ?_) (fun h14 => ?_))
 ·
  obtain ⟨q, hq⟩ : ∃ q, x.r.pix[j]? = some q := ⟨_, List.getElem?_eq_getElem (by omega)⟩
  have hqb := hp q (List.mem_of_getElem? hq)
  refine VC.skip (VE.seqN<|VC.seq<|VC.block<|VC.seq<|VC.drawH [[0,1], [0,1], [0,1]] [some 1, some 1, some 1, some 1, some 1, some 1, some 1, some 1, some 1, some 1, none, none] mixed (by kernel_rfl) rfl (LX.l (fun _ hJ => LO.fa (r := 2) F55_2 (.r rfl) rfl) rfl<|LX.l (fun _ hJ => LO.fa (r := 7) F48_1 (.r rfl) rfl) rfl<|LX.l (fun _ hJ => LO.ld O46 (.r rfl) (fun _ hw => cells_at (hJ _ hw) 0 rfl ⟨_, rfl⟩)) rfl<|LX.l (fun _ hJ => LO.fa (r := 1) F100_1 (.r rfl) rfl) rfl<|LX.l (fun _ hJ => LO.ld O72 (.r rfl) (fun _ hw => cells_at (hJ _ hw) 1 rfl ⟨_, rfl⟩)) rfl<|LX.m rfl rfl<|LX.l (fun _ hJ => LO.ixs S72 N3 (Go.SL.Rows.some (n := x.r.pix.length) hx (by simp)) (.r rfl) (.r rfl) rfl (by omega)) rfl<|LX.l (fun _ hJ => LO.ld O3 (.r rfl) (fun w hw => cells_part (off := 0) ((fun w2 hw2 => (Go.SL.Rows.keep hx w2 hw2).cells _ _ (by rw [List.getElem?_map, hq]; rfl)) w (hJ _ hw)) ⟨_, rfl⟩)) rfl<|LX.l (fun _ hJ => LO.ixs S46 N77 hv.some (.r rfl) (.r rfl) (j := q.toNat) (by omega) (by omega)) rfl<|LX.l (fun _ hJ => LO.lda (vs := [_,_]) A77 (.r rfl) (fun w hw => cells_part (off := 0) ((hv.at (j := q.toNat) (by omega)) w (hJ _ hw)) ⟨_, rfl⟩) rfl) rfl<|LX.s<|LX.s<|LX.nil) (HX.s<|HX.s<|HX.s<|HX.s<|HX.s<|HX.s<|HX.s<|HX.s<|HX.s<|HX.s<|HX.h rfl<|HO.alloc (C := #[_,_]) Z77 rfl fun b5 => ⟨fun _ hw => hw.sel [1,2] rfl, HX.h0<|HO.st 0 (vs := [_,_]) (C' := [_,_]) (L' := [_,_,_]) N77 rfl rfl rfl rfl rfl rfl rfl rfl<|⟨fun _ hw => hw.sel [1,2] rfl, HX.nil ?_⟩⟩))
  refine VE.seqN<|VC.draw mixed (LL.m rfl rfl<|LL.m rfl rfl<|LL.gf rfl rfl (fun hg => LO.fa (r := 0) F77_0 (.r rfl) rfl) rfl<|LL.gf rfl rfl (fun hg => LO.ld O3 (.g hg rfl) (cells_blk 0 rfl ⟨_, rfl⟩)) rfl<|LL.gf rfl rfl (fun hg => LO.fa (r := 8) F55_3 (.r rfl) rfl) rfl<|LL.gf rfl rfl (fun hg => LO.ld O3 (.g hg rfl) (cells_blk 1 rfl ⟨_, rfl⟩)) rfl<|LL.gf rfl rfl (fun hg => LO.ge (.g hg rfl) (.g hg rfl)) rfl<|LL.l (LO.pkO (.r rfl) (.r rfl) rfl rfl) rfl<|LL.m rfl rfl<|LL.m rfl rfl<|LL.gf rfl rfl (fun hg => LO.fa (r := 1) F77_1 (.r rfl) rfl) rfl<|LL.gf rfl rfl (fun hg => LO.ld O3 (.g hg rfl) (cells_blk 0 rfl ⟨_, rfl⟩)) rfl<|LL.gf rfl rfl (fun hg => LO.fa (r := 8) F55_3 (.r rfl) rfl) rfl<|LL.gf rfl rfl (fun hg => LO.ld O3 (.g hg rfl) (cells_blk 1 rfl ⟨_, rfl⟩)) rfl<|LL.gf rfl rfl (fun hg => LO.ge (.g hg rfl) (.g hg rfl)) rfl<|LL.l (LO.pkO (.r rfl) (.r rfl) rfl rfl) rfl<|LL.l (LO.as (.r rfl)) rfl<|LL.l (LO.as (.r rfl)) rfl<|LL.nil) (by kernel_rfl)<|VE.inN (VE.seqN<|VC.reg (VO.m rfl rfl<|VO.p rfl rfl (by omega) (by omega) rfl<|VO.a rfl rfl<|VO.nil<|VE.thenN fun a w ha hw => ⟨j + 1, (by omega), (by omega), ha.sub (.cons (congrArg (fun z => some (Value.bool z)) (any_take hq).symm) (.cons (congrArg (fun z => some (Value.bool z)) (any_take hq).symm) (.cons rfl (.cons rfl (.cons rfl .nil))))), hw.sel [1,2] rfl⟩))
 ·
  refine VC.exit (VE.thenX (VE.thenX (VE.inX (VE.seqN<|VC.q (VO.m rfl rfl<|VO.m rfl rfl<|VO.a rfl rfl<|VO.a rfl rfl<|VO.n<|VC.ret (VE.res (vs := [_,_]) rfl ⟨rfl, rfl, trivial⟩ (fun w hw => ?_)))))))
  rw [List.take_of_length_le (by omega)]
  exact ⟨rfl, hw.nil⟩
theorem C47 : IsFn Tryz.prog 47 := ⟨_, Tryz.func47, by decide, rfl⟩
theorem B145 : Builds Tryz.prog 145 [(0,1), (1,1), (2,1), (3,1), (4,1), (5,2)] [.int .i64 0, .int .i64 0, .int .i64 0, .int .i64 0, .int .i64 0, .int .i64 0, .int .i64 0] := Builds.mk fun _ => by kernel_rfl
theorem Z145 : ZeroOf Tryz.prog 145 (.agg #[.int .i64 0, .int .i64 0, .int .i64 0, .int .i64 0, .int .i64 0, .int .i64 0, .int .i64 0]) := by unfold ZeroOf; kernel_rfl
theorem N145 : (Tryz.prog.info? 145).map (·.size) = some 7 := by kernel_rfl
theorem C52 : IsFn Tryz.prog 52 := ⟨_, Tryz.func52, by decide, rfl⟩
theorem C71 : IsFn Tryz.prog 71 := ⟨_, Tryz.func71, by decide, rfl⟩
theorem F145_0 : FieldAt Tryz.prog 145 0 0 := ⟨_,_, Tryz.underlying145, rfl, rfl, 0, by kernel_rfl⟩
theorem F145_1 : FieldAt Tryz.prog 145 1 1 := ⟨_,_, Tryz.underlying145, rfl, rfl, 0, by kernel_rfl⟩
theorem F145_4 : FieldAt Tryz.prog 145 4 4 := ⟨_,_, Tryz.underlying145, rfl, rfl, 0, by kernel_rfl⟩
theorem F145_2 : FieldAt Tryz.prog 145 2 2 := ⟨_,_, Tryz.underlying145, rfl, rfl, 0, by kernel_rfl⟩
theorem F145_3 : FieldAt Tryz.prog 145 3 3 := ⟨_,_, Tryz.underlying145, rfl, rfl, 0, by kernel_rfl⟩
theorem F139_2 : FieldAt Tryz.prog 139 2 2 := ⟨_,_, Tryz.underlying139, rfl, rfl, 0, by kernel_rfl⟩
theorem F145_5 : FieldAt Tryz.prog 145 5 5 := ⟨_,_, Tryz.underlying145, rfl, rfl, 1, by kernel_rfl⟩
theorem A145 : IsAgg Tryz.prog 145 7 := ⟨⟨_, Tryz.underlying145, rfl⟩, by kernel_rfl⟩
theorem S142 : IsSlice Tryz.prog 142 145 := Tryz.underlying142
theorem I145 : EInfo Tryz.prog 145 7 56 (.agg #[.int .i64 0, .int .i64 0, .int .i64 0, .int .i64 0, .int .i64 0, .int .i64 0, .int .i64 0]) := ⟨by kernel_rfl, by kernel_rfl, by unfold ZeroOf; kernel_rfl, rfl, by decide⟩
theorem kD_gen {pix : List Int} {on : Int → Bool} {n : Nt} {A : Int} (hon : on n.t = !decide (A = 0)) : kNt pix on n = if hitB pix n.vs n.lv = true ∧ ¬ A = 0 then 0 else if hitB pix n.vs n.lv = true then 1 else if canB pix n.vs n.lv = true then 2 else if ¬ A = 0 then 3 else 4 := by
  unfold kNt kN
  rw [hon]
  by_cases q : A = 0 <;> cases hitB pix n.vs n.lv <;> cases canB pix n.vs n.lv <;> simp [q]
theorem nt_step {l : List EnM} {q : Nat} {x : EnM} (hx : l[q]? = some x) : ntP ((l.map EnM.p).take (q + 1)) = ntP ((l.map EnM.p).take q) ++ (if x.lv = 0 then [] else [⟨x.t, x.vs, x.lv⟩]) := by
  rw [take_en (x := x.p) (by rw [List.getElem?_map, hx]; rfl), ntP_snoc]; rfl
def fI (m : Option Int) : Int := match m with
  | none => -1
  | some v => v
theorem fI_less {m : Option Int} {v : Int} (hm : ∀ u, m = some u → 0 ≤ u) (h : fI m < 0 ∨ v < fI m) : fI (lessO m v) = v := by
  cases m with
  | none => rfl
  | some u =>
    have := hm u rfl
    change u < 0 ∨ v < u at h
    show min u v = v
    exact Int.min_eq_right (by omega)
theorem fI_same {m : Option Int} {v : Int} (h : ¬ (fI m < 0 ∨ v < fI m)) : lessO m v = m := by
  cases m with
  | none => exact absurd (.inl (by decide)) h
  | some u =>
    change ¬ (u < 0 ∨ v < u) at h
    show some (min u v) = some u
    rw [Int.min_eq_left (by omega)]
theorem fI_none {m : Option Int} (h : ∀ u, m = some u → 0 ≤ u) (k : fI m < 0) : m = none := by
  cases m with
  | none => rfl
  | some u => have := h u rfl; change u < 0 at k; omega
theorem fI_some {m : Option Int} (k : ¬ fI m < 0) : m = some (fI m) := by
  cases m with
  | none => exact absurd (by decide) k
  | some u => rfl
theorem ne_snoc {l m : List Int} {v : Int} (h : l = m ++ [v]) : true = !l.isEmpty := by rw [h]; cases m <;> rfl
theorem fst_nn {pix : List Int} {c : Cs} {ns : List Nt} {n : Nt} (h : ∀ u, firstN pix c ns = some u → 0 ≤ u) : ∀ u, firstN pix c (ns ++ [n]) = some u → 0 ≤ u := fun u hu => by
  rw [firstN_snoc] at hu
  split at hu
  · rename_i q
    unfold inC at q
    simp only [Bool.and_eq_true, decide_eq_true_eq] at q
    cases e : firstN pix c ns with
    | none => rw [e] at hu; have := Option.some.inj hu; omega
    | some v => rw [e] at hu; have h1 := h v e; have h2 : min v (n.t - c.bg) = u := Option.some.inj hu; omega
  · exact h u hu
theorem ahead_step {k : Int} {pix : List Int} {cs : List Cs} {ns : List Nt} {j : Nat} {c : Cs} (hc : cs[j]? = some c) : aheadL k pix (cs.take (j + 1)) ns = aheadL k pix (cs.take j) ns ++ (if c.rg = k then firstN pix c ns else none).toList := by
  unfold aheadL
  rw [List.take_add_one, hc, List.filterMap_append]
  refine congrArg (fun z => _ ++ z) ?_
  show List.filterMap _ [c] = _
  rw [List.filterMap_cons, List.filterMap_nil]
  cases (if c.rg = k then firstN pix c ns else none) <;> rfl
theorem first_out {pix : List Int} {c : Cs} {L : List Nt} {t lv : Int} {vs : List Span} (h : (lv = 0 ∨ t < c.bg) ∨ c.en ≤ t) : firstN pix c (L ++ (if lv = 0 then [] else [⟨t, vs, lv⟩])) = firstN pix c L := by
  by_cases q : lv = 0
  · rw [if_pos q, List.append_nil]
  · rw [if_neg q, firstN_snoc, if_neg]
    unfold inC
    simp only [Bool.and_eq_true, decide_eq_true_eq]
    omega
theorem first_in {pix : List Int} {c : Cs} {n : Nt} (h : hitB pix n.vs n.lv = true) (h1 : c.bg ≤ n.t) (h2 : n.t < c.en) : inC pix c n = true := by
  unfold inC; rw [h, decide_eq_true h1, decide_eq_true h2]; rfl
theorem first_no {pix : List Int} {c : Cs} {L : List Nt} {n : Nt} (h : ¬ (hitB pix n.vs n.lv = true ∧ (fI (firstN pix c L) < 0 ∨ n.t - c.bg < fI (firstN pix c L)))) : firstN pix c (L ++ [n]) = firstN pix c L := by
  rw [firstN_snoc]
  split
  · rename_i q
    unfold inC at q
    simp only [Bool.and_eq_true, decide_eq_true_eq] at q
    exact fI_same fun z => h ⟨q.1.1, z⟩
  · rfl
theorem span_snoc {l : List Int} {v : Int} : spanL (l ++ [v]) = if l.isEmpty = true then (v, v) else (min (spanL l).1 v, max (spanL l).2 v) := by
  cases l with
  | nil => rfl
  | cons x l => show (List.foldl min x (l ++ [v]), List.foldl max x (l ++ [v])) = _; rw [List.foldl_append, List.foldl_append]; rfl
def onD (o : DoM) (st : List Stp) (k : Nat) (t : Int) : Bool := !decide (atLv o.ts (lvL o.hold k st) t = 0)
def talD (o : DoM) (st : List Stp) (k : Nat) : Tal := talF k ((o.rg.map RG.r).getD k default).pix (onD o st k) (csF o.hold o.rg.length st) (ntP (o.lg.map EnM.p))
theorem lvs_at {N i : Nat} {f : Nat → Int} (h : i < N) : ((List.range N).map f)[i]? = some (f i) := by rw [List.getElem?_map, List.getElem?_range h]; rfl
theorem ntP_len : ∀ (l : List EnP), (ntP l).length ≤ l.length
  | [] => Nat.le_refl _
  | x :: l => by
    have := ntP_len l
    show (ntE x ++ ntP l).length ≤ _
    rw [List.length_append, List.length_cons]
    unfold ntE
    split
    · simp; omega
    · simp; omega
theorem bgu_step {k : Nat} {b m T B : Int} {cs : List Cs} (h : ∀ c, c ∈ cs → c.bg ≤ B) (hT : T ≤ B) : ∀ c, c ∈ stepC k b m T cs → c.bg ≤ B := by
  unfold stepC
  split
  · exact h
  · split
    · intro c hc
      rcases List.mem_append.1 hc with q | q
      · exact h c q
      · rw [List.mem_singleton.1 q]; exact hT
    · intro c hc
      obtain ⟨d, hd, rfl⟩ := List.mem_map.1 hc
      have := h d hd
      split <;> exact this
theorem bgu_run {H B : Int} {st : List Stp} {s : Stp} {cs : List Cs} (h : ∀ c, c ∈ cs → c.bg ≤ B) (hT : s.t ≤ B) : ∀ j, ∀ c, c ∈ runC H st s cs j → c.bg ≤ B
  | 0 => h
  | j + 1 => bgu_step (bgu_run h hT j) hT
theorem bgu_all {H B : Int} {n : Nat} {st : List Stp} (h : ∀ x, x ∈ st → x.t ≤ B) : ∀ m, m ≤ st.length → ∀ c, c ∈ csA H n st m → c.bg ≤ B
  | 0,_ => fun c hc => by cases hc
  | m + 1, hm => bgu_run (bgu_all h m (by omega)) (h _ (getD_mem (by omega))) n
theorem dScore_c (o : DoM) (st : List Stp) (w : World) (hd : DoS o st) (hs : o.ts.Pairwise (· < ·)) (hlg : o.lg.length ≤ 256) (hb : ∀ x, x ∈ o.lg → x.p.bd) (hnt : ∀ x, x ∈ o.lg → (0 ≤ x.t ∧ x.t ≤ 4294967296) ∧ (¬ x.lv = 0 → ∀ r, r ∈ o.rg → ∀ p, p ∈ r.r.pix → 0 ≤ p ∧ p < (x.vs.length : Int))) (hpl : ∀ r, r ∈ o.rg → r.r.pix.length < 1000000000000) (hh : Has w (dofR o)) :
 Calls Tryz.prog 50 #[ptrN o.b] w fun e w' => ∃ x : Option Addr × Nat, True ∧ e = .returned (.slice x.1 ((List.range o.rg.length).map (talD o st)).length x.2) ∧ St (bs w) [own 145 7 x.1 x.2 (((List.range o.rg.length).map (talD o st)).map Tal.cells)] w' := by
 have hLr : RO 9 EnM.cells w o.pl o.lg := RO.of_own hh 3 rfl
 have hRr : RO 2 RG.cells w o.pg o.rg := RO.of_own hh 1 rfl
 obtain ⟨hrn0, hrn1⟩ := hd.rn
 obtain ⟨CX, hCX⟩ : ∃ c, c = csF o.hold o.rg.length st := ⟨_, rfl⟩
 have hcb : CX.length ≤ 8192 := by have z := csF_bd hd (m := st.length); rw [List.take_length] at z; rw [hCX]; exact z
 obtain ⟨NS, hNS⟩ : ∃ l, l = ntP (o.lg.map EnM.p) := ⟨_, rfl⟩
 have hcbg : ∀ c, c ∈ CX → 0 ≤ c.bg := fun c hc => by rw [hCX] at hc; exact bg_all (H := o.hold) (n := o.rg.length) (fun s hs => (hd.tb s hs).1) _ (Nat.le_refl _) c hc
 have hcbu : ∀ c, c ∈ CX → c.bg ≤ 4294967296 := fun c hc => by rw [hCX] at hc; exact bgu_all (H := o.hold) (n := o.rg.length) (fun s hs => (hd.tb s hs).2) _ (Nat.le_refl _) c hc
 refine enter (vs := [_]) (env := [(0,_)]) Tryz.func50 rfl rfl rfl rfl ?_
 refine VC.q (VO.a rfl rfl<|VO.n<|VC.q (VO.a rfl rfl<|VO.n<|VC.q (VO.m rfl rfl<|VO.h rfl<|HO.callx (xs := [_]) (vs := [_]) C47 ⟨(.r rfl), trivial⟩ (fun w hw => by have z := rCases_c o st w hd (hh.keep hw); rw [← hCX] at z; exact z) fun xc _ => VO.h rfl<|HO.lo (LO.as (.r rfl))<|VO.n<|VC.seq<|VC.q (VO.a rfl rfl<|VO.n ?_))))
 refine VC.block<|VC.loopK (α := Nat × (List Tal) × (Option Addr) × Nat) 0 (fun gx => [(3, .slice gx.2.2.1 gx.2.1.length gx.2.2.2), (5, .int .i64 (gx.1 : Nat))]) [(0,_), (4,_)] (fun gx => [own 145 7 gx.2.2.1 gx.2.2.2 (gx.2.1.map Tal.cells)]) (fun gx => gx.1 ≤ o.rg.length ∧ gx.2.1 = (List.range gx.1).map (talD o st)) (fun gx => o.rg.length - gx.1) (0, [], none, 0) (by exact ⟨Nat.zero_le _, rfl⟩) (.c4 rfl rfl rfl rfl .nil) (fun _ h => (h.ownNil 145 7)) ?_
 rintro ⟨i, xs, px_, cx_⟩ ⟨hi, hX⟩
 show VC _ _ _ _ _ ([(3, .slice px_ xs.length cx_), (5, .int .i64 (i : Nat))] ++ _) ([own 145 7 px_ cx_ (xs.map Tal.cells)] ++ _) _ _
 dsimp only at hi hX
 have hxl : xs.length = i := by rw [hX]; simp
 refine VC.seq<|VC.q (VO.m rfl rfl<|VO.m rfl rfl<|VO.l (LO.nc (.r rfl)) rfl<|VO.f (r := 0) F103_0 rfl rfl rfl<|VO.f (r := 5) F42_1 rfl rfl rfl<|VO.l (LO.ld O39 (.r rfl) (cells_keep (sub_cells (off := 5) (dof_cells hh) ⟨_, rfl⟩))) rfl<|VO.l (LO.len S39 (.r rfl) rfl) rfl<|VO.t rfl rfl rfl<|VO.n<|VC.cond rfl (fun h28 => ?_) (fun h28 => ?_))
 ·
  have hil : i < o.rg.length := by omega
  obtain ⟨r, hr⟩ : ∃ x, o.rg[i]? = some x := ⟨_, List.getElem?_eq_getElem hil⟩
  have hrm := List.mem_of_getElem? hr
  have hrx := pix_read (St.inv hh 2 _ rfl) hrm
  refine VC.skip (VE.seqN<|VC.seq<|VC.block<|VC.q (VO.l (LO.bd (ps := []) (vs := []) (C := [_,_,_,_,_,_,_]) B145  trivial rfl rfl) rfl<|VO.h rfl<|HO.alloc (C := #[_,_,_,_,_,_,_]) Z145 rfl fun b3 => VO.h0<|HO.st 0 (vs := [_,_,_,_,_,_,_]) (C' := [_,_,_,_,_,_,_]) (L' := [_,_,_]) N145 rfl rfl rfl rfl rfl rfl rfl rfl<|VO.n<|VC.seq<|VC.q (VO.a rfl rfl<|VO.n<|VC.block<|VC.loopK (α := Nat × Tal) 1 (fun gx => [(7, .int .i64 (gx.1 : Nat))]) [(0,_), (3,_), (4,_), (5,_), (6,_)] (fun gx => [blk b3 (.cells #[.int .i64 gx.2.h, .int .i64 gx.2.m, .int .i64 gx.2.a, .int .i64 gx.2.q, .int .i64 gx.2.o, .int .i64 0, .int .i64 0] 145)]) (fun gx => gx.1 ≤ o.lg.length ∧ CntT r.r.pix (onD o st i) (ntP ((o.lg.map EnM.p).take gx.1)) gx.2) (fun gx => o.lg.length - gx.1) (0, (⟨0,0,0,0,0,0,0⟩ : Tal)) (by exact ⟨Nat.zero_le _, ⟨rfl, rfl, rfl, rfl, rfl⟩⟩) (.c4 rfl rfl rfl rfl (.cons rfl (.cons rfl .nil))) (fun _ h => h) ?_)))
  rintro ⟨k, T⟩ ⟨hk, hT⟩
  show VC _ _ _ _ _ ([(7, .int .i64 (k : Nat))] ++ _) ([blk b3 (.cells #[.int .i64 T.h, .int .i64 T.m, .int .i64 T.a, .int .i64 T.q, .int .i64 T.o, .int .i64 0, .int .i64 0] 145)] ++ _) _ _
  dsimp only at hk hT
  refine VC.seq<|VC.q (VO.m rfl rfl<|VO.m rfl rfl<|VO.l (LO.nc (.r rfl)) rfl<|VO.f (r := 9) F103_1 rfl rfl rfl<|VO.l (LO.ld O44 (.r rfl) (cells_keep (sub_cells (off := 9) (dof_cells hh) ⟨_, rfl⟩))) rfl<|VO.l (LO.len S44 (.r rfl) rfl) rfl<|VO.t rfl rfl rfl<|VO.n<|VC.cond rfl (fun h38 => ?_) (fun h38 => ?_))
  ·
   obtain ⟨x, hx⟩ : ∃ x, o.lg[k]? = some x := ⟨_, List.getElem?_eq_getElem (by omega)⟩
   have hxm := List.mem_of_getElem? hx
   have hxk := fun {L : List Res} {v : World} (hv : St (bs w) L v) => dlg_read (hh.keep hv) hxm (hb x hxm)
   have hxt := (hnt x hxm).1
   have hns := nt_step hx
   have hTl := cnt_le hT
   have hnl := ntP_len ((o.lg.map EnM.p).take k)
   rw [List.length_take, List.length_map] at hnl
   refine VC.skip (VE.seqN<|VC.seq<|VC.block<|VC.seq<|VC.q (VO.m rfl rfl<|VO.l (LO.nc (.r rfl)) rfl<|VO.f (r := 9) F103_1 rfl rfl rfl<|VO.l (LO.ld O44 (.r rfl) (cells_keep (sub_cells (off := 9) (dof_cells hh) ⟨_, rfl⟩))) rfl<|VO.m rfl rfl<|VO.l (LO.ixs S44 N55 hLr.sm (.r rfl) (.r rfl) rfl (by omega)) rfl<|VO.f F55_3 rfl rfl rfl<|VO.l (LO.ld O3 (.r rfl) (fun w hw => cells_part (off := 8) ((fun w2 hw2 => (hLr.keep w2 hw2).cells _ _ (by rw [List.getElem?_map, hx]; rfl)) w hw) ⟨_, rfl⟩)) rfl<|VO.l (LO.eq (.r rfl) (.r rfl)) rfl<|VO.n<|VC.cond rfl (fun h49 => ?_) (fun h49 => ?_)))
   ·
    rw [if_pos h49, List.append_nil] at hns
    refine VC.exit (VE.thenX (VE.inX (VE.seqN<|VC.reg (VO.m rfl rfl<|VO.p rfl rfl (by omega) (by omega) rfl<|VO.a rfl rfl<|VO.nil<|VE.thenN fun a w ha hw => ⟨(k + 1, T), ⟨by dsimp only; omega, by dsimp only; rw [hns]; exact hT⟩, (by dsimp only; omega), ha.sub (.c4 rfl rfl rfl rfl (.cons rfl (.cons rfl .nil))), (by exact selK (L1 := [_,_,_]) [0,1,2] rfl rfl _ hw)⟩))))
   ·
    rw [if_neg h49] at hns
    have hxp := (hnt x hxm).2 h49
    have hon : onD o st i x.t = !decide (atLv o.ts (lvL o.hold i st) x.t = 0) := rfl
    refine VC.skip (VE.seqN<|VC.q (VO.m rfl rfl<|VO.m rfl rfl<|VO.l (LO.nc (.r rfl)) rfl<|VO.f (r := 9) F103_1 rfl rfl rfl<|VO.l (LO.ld O44 (.r rfl) (cells_keep (sub_cells (off := 9) (dof_cells hh) ⟨_, rfl⟩))) rfl<|VO.m rfl rfl<|VO.l (LO.ixs S44 N55 hLr.sm (.r rfl) (.r rfl) rfl (by omega)) rfl<|VO.f F55_0 rfl rfl rfl<|VO.l (LO.ld O3 (.r rfl) (fun w hw => cells_part (off := 0) ((fun w2 hw2 => (hLr.keep w2 hw2).cells _ _ (by rw [List.getElem?_map, hx]; rfl)) w hw) ⟨_, rfl⟩)) rfl<|VO.h rfl<|HO.callx (xs := [_,_]) (vs := [_,_]) C52 ⟨(.r rfl), (.r rfl), trivial⟩ (fun w hw => dAt_c o st x.t w hd hs (hh.keep hw) hxt.1 hxt.2) fun xl _ => VO.h rfl<|HO.lo (LO.mv (.r rfl))<|VO.h rfl<|HO.lo (LO.ex (.r rfl) rfl)<|VO.h rfl<|HO.lo (LO.ex (.r rfl) rfl)<|VO.h rfl<|HO.lo (LO.as (.r rfl))<|VO.h rfl<|HO.lo (LO.as (.r rfl))<|VO.n<|VC.seq<|VC.draw mixed (LL.m rfl rfl<|LL.l (LO.nc (.r rfl)) rfl<|LL.l (LO.fa (r := 0) F103_0 (.r rfl) rfl) rfl<|LL.l (LO.fa (r := 5) F42_1 (.r rfl) rfl) rfl<|LL.l (LO.ld O39 (.r rfl) (cells_keep (sub_cells (off := 5) (dof_cells hh) ⟨_, rfl⟩))) rfl<|LL.m rfl rfl<|LL.l (LO.ixs S39 N100 hRr.sm (.r rfl) (.r rfl) rfl (by omega)) rfl<|LL.l (LO.lda (vs := [_,_]) A100 (.r rfl) (fun w hw => cells_part (off := 0) ((fun w2 hw2 => (hRr.keep w2 hw2).cells _ _ (by rw [List.getElem?_map, hr]; rfl)) w hw) ⟨_, rfl⟩) rfl) rfl<|LL.m rfl rfl<|LL.l (LO.nc (.r rfl)) rfl<|LL.l (LO.fa (r := 9) F103_1 (.r rfl) rfl) rfl<|LL.l (LO.ld O44 (.r rfl) (cells_keep (sub_cells (off := 9) (dof_cells hh) ⟨_, rfl⟩))) rfl<|LL.m rfl rfl<|LL.l (LO.ixs S44 N55 hLr.sm (.r rfl) (.r rfl) rfl (by omega)) rfl<|LL.l (LO.lda (vs := [_,_,_,_,_,_,_,_,_]) A55 (.r rfl) (fun w hw => cells_part (off := 0) ((fun w2 hw2 => (hLr.keep w2 hw2).cells _ _ (by rw [List.getElem?_map, hx]; rfl)) w hw) ⟨_, rfl⟩) rfl) rfl<|LL.l (LO.call (xs := [_,_]) (vs := [_,_]) C71 ⟨(.r rfl), (.r rfl), trivial⟩ (fun w2 hw2 => dhit_c x r w2 ((hxk hw2).2.2.1) (Go.SL.Rows.keep hrx w2 hw2) (hpl r hrm) (hxp r hrm))) rfl<|LL.m rfl rfl<|LL.l (LO.ex (.r rfl) rfl) rfl<|LL.l (LO.ex (.r rfl) rfl) rfl<|LL.l (LO.as (.r rfl)) rfl<|LL.l (LO.as (.r rfl)) rfl<|LL.nil) (by kernel_rfl)<|VE.seqN<|VC.block<|VC.q (VO.m rfl rfl<|VO.m rfl rfl<|VO.gt rfl rfl (fun hg => LO.mv (.r rfl)) rfl<|VO.gt rfl rfl (fun hg => LO.mv (.r rfl)) rfl<|VO.gt rfl rfl (fun hg => LO.ixo S72 N3 (fun _ hw => (own_rows hw 0 rfl).some (by simp)) (.g hg rfl) (.g hg rfl) rfl (by simp; omega)) rfl<|VO.gt rfl rfl (fun hg => LO.ld O3 (.g hg rfl) (fun w hw => cells_part (off := 0) (own_cell hw 0 rfl (lvs_at hil)) ⟨_, rfl⟩)) rfl<|VO.gt rfl rfl (fun hg => LO.ne (.g hg rfl) (.r rfl)) rfl<|VO.l (LO.pkA (.r rfl) rfl rfl (.r rfl)) rfl<|VO.a rfl rfl<|VO.n<|VC.cond rfl (fun h86 => ?_) (fun h86 => ?_))))
    ·
     refine VC.reg (VO.f (r := 0) F145_0 rfl rfl rfl<|VO.c 1 O3 rfl rfl ⟨_, rfl⟩ rfl<|VO.p rfl rfl (by omega) (by omega) rfl<|VO.f (r := 0) F145_0 rfl rfl rfl<|VO.h0<|HO.st 1 (vs := [_]) (C' := [_,_,_,_,_,_,_]) (L' := [_,_,_,_]) N3 rfl rfl rfl rfl rfl rfl rfl rfl<|VO.nil<|VE.inN (VE.inN (VE.seqN<|VC.reg (VO.m rfl rfl<|VO.p rfl rfl (by omega) (by omega) rfl<|VO.a rfl rfl<|VO.nil<|VE.thenN fun a w ha hw => ⟨(k + 1, (bump 0 T)), ⟨by dsimp only; omega, by dsimp only; rw [hns]; exact cnt_bump hT (by rw [kD_gen (n := ⟨x.t, x.vs, x.lv⟩) hon, if_pos h86])⟩, (by dsimp only; omega), ha.sub (.c4 rfl rfl rfl rfl (.cons rfl (.cons rfl .nil))), (by exact selK (L1 := [_,_,_]) [1,2,3] rfl rfl _ hw)⟩))))
    ·
     refine VC.q (VO.m rfl rfl<|VO.a rfl rfl<|VO.n<|VC.cond rfl (fun h99 => ?_) (fun h99 => ?_))
     ·
      refine VC.reg (VO.f (r := 1) F145_1 rfl rfl rfl<|VO.c 1 O3 rfl rfl ⟨_, rfl⟩ rfl<|VO.p rfl rfl (by omega) (by omega) rfl<|VO.f (r := 1) F145_1 rfl rfl rfl<|VO.h0<|HO.st 1 (vs := [_]) (C' := [_,_,_,_,_,_,_]) (L' := [_,_,_,_]) N3 rfl rfl rfl rfl rfl rfl rfl rfl<|VO.nil<|VE.inN (VE.inN (VE.seqN<|VC.reg (VO.m rfl rfl<|VO.p rfl rfl (by omega) (by omega) rfl<|VO.a rfl rfl<|VO.nil<|VE.thenN fun a w ha hw => ⟨(k + 1, (bump 1 T)), ⟨by dsimp only; omega, by dsimp only; rw [hns]; exact cnt_bump hT (by rw [kD_gen (n := ⟨x.t, x.vs, x.lv⟩) hon, if_neg h86, if_pos h99])⟩, (by dsimp only; omega), ha.sub (.c4 rfl rfl rfl rfl (.cons rfl (.cons rfl .nil))), (by exact selK (L1 := [_,_,_]) [1,2,3] rfl rfl _ hw)⟩))))
     ·
      refine VC.q (VO.m rfl rfl<|VO.a rfl rfl<|VO.n<|VC.cond rfl (fun h105 => ?_) (fun h105 => ?_))
      ·
       refine VC.reg (VO.f (r := 4) F145_4 rfl rfl rfl<|VO.c 1 O3 rfl rfl ⟨_, rfl⟩ rfl<|VO.p rfl rfl (by omega) (by omega) rfl<|VO.f (r := 4) F145_4 rfl rfl rfl<|VO.h0<|HO.st 1 (vs := [_]) (C' := [_,_,_,_,_,_,_]) (L' := [_,_,_,_]) N3 rfl rfl rfl rfl rfl rfl rfl rfl<|VO.nil<|VE.inN (VE.inN (VE.seqN<|VC.reg (VO.m rfl rfl<|VO.p rfl rfl (by omega) (by omega) rfl<|VO.a rfl rfl<|VO.nil<|VE.thenN fun a w ha hw => ⟨(k + 1, (bump 2 T)), ⟨by dsimp only; omega, by dsimp only; rw [hns]; exact cnt_bump hT (by rw [kD_gen (n := ⟨x.t, x.vs, x.lv⟩) hon, if_neg h86, if_neg h99, if_pos h105])⟩, (by dsimp only; omega), ha.sub (.c4 rfl rfl rfl rfl (.cons rfl (.cons rfl .nil))), (by exact selK (L1 := [_,_,_]) [1,2,3] rfl rfl _ hw)⟩))))
      ·
       refine VC.q (VO.m rfl rfl<|VO.m rfl rfl<|VO.l (LO.ixo S72 N3 (fun _ hw => (own_rows hw 0 rfl).some (by simp)) (.r rfl) (.r rfl) rfl (by simp; omega)) rfl<|VO.l (LO.ld O3 (.r rfl) (fun w hw => cells_part (off := 0) (own_cell hw 0 rfl (lvs_at hil)) ⟨_, rfl⟩)) rfl<|VO.u rfl rfl rfl<|VO.a rfl rfl<|VO.n<|VC.cond rfl (fun h111 => ?_) (fun h111 => ?_))
       ·
        refine VC.reg (VO.f (r := 2) F145_2 rfl rfl rfl<|VO.c 1 O3 rfl rfl ⟨_, rfl⟩ rfl<|VO.p rfl rfl (by omega) (by omega) rfl<|VO.f (r := 2) F145_2 rfl rfl rfl<|VO.h0<|HO.st 1 (vs := [_]) (C' := [_,_,_,_,_,_,_]) (L' := [_,_,_,_]) N3 rfl rfl rfl rfl rfl rfl rfl rfl<|VO.nil<|VE.inN (VE.inN (VE.seqN<|VC.reg (VO.m rfl rfl<|VO.p rfl rfl (by omega) (by omega) rfl<|VO.a rfl rfl<|VO.nil<|VE.thenN fun a w ha hw => ⟨(k + 1, (bump 3 T)), ⟨by dsimp only; omega, by dsimp only; rw [hns]; exact cnt_bump hT (by rw [kD_gen (n := ⟨x.t, x.vs, x.lv⟩) hon, if_neg h86, if_neg h99, if_neg h105, if_pos h111])⟩, (by dsimp only; omega), ha.sub (.c4 rfl rfl rfl rfl (.cons rfl (.cons rfl .nil))), (by exact selK (L1 := [_,_,_]) [1,2,3] rfl rfl _ hw)⟩))))
       ·
        refine VC.reg (VO.f (r := 3) F145_3 rfl rfl rfl<|VO.c 1 O3 rfl rfl ⟨_, rfl⟩ rfl<|VO.p rfl rfl (by omega) (by omega) rfl<|VO.f (r := 3) F145_3 rfl rfl rfl<|VO.h0<|HO.st 1 (vs := [_]) (C' := [_,_,_,_,_,_,_]) (L' := [_,_,_,_]) N3 rfl rfl rfl rfl rfl rfl rfl rfl<|VO.nil<|VE.inN (VE.inN (VE.seqN<|VC.reg (VO.m rfl rfl<|VO.p rfl rfl (by omega) (by omega) rfl<|VO.a rfl rfl<|VO.nil<|VE.thenN fun a w ha hw => ⟨(k + 1, (bump 4 T)), ⟨by dsimp only; omega, by dsimp only; rw [hns]; exact cnt_bump hT (by rw [kD_gen (n := ⟨x.t, x.vs, x.lv⟩) hon, if_neg h86, if_neg h99, if_neg h105, if_neg h111])⟩, (by dsimp only; omega), ha.sub (.c4 rfl rfl rfl rfl (.cons rfl (.cons rfl .nil))), (by exact selK (L1 := [_,_,_]) [1,2,3] rfl rfl _ hw)⟩))))
  ·
   have hke : k = o.lg.length := by omega
   rw [hke, show (o.lg.map EnM.p).take o.lg.length = o.lg.map EnM.p by rw [← List.length_map (f := EnM.p), List.take_length], ← hNS] at hT
   refine VC.exit (VE.thenX (VE.thenX (VE.inX (VE.seqN<|VC.q (VO.a rfl rfl<|VO.n<|VC.seq<|VC.q (VO.a rfl rfl<|VO.n<|VC.block<|VC.loopK (α := Nat × Bool × Int × Int) 1 (fun gx => [(12, .bool gx.2.1), (13, .int .i64 (gx.1 : Nat))]) [(0,_), (3,_), (4,_), (5,_), (6,_)] (fun gx => [blk b3 (.cells #[.int .i64 T.h, .int .i64 T.m, .int .i64 T.a, .int .i64 T.q, .int .i64 T.o, .int .i64 gx.2.2.1, .int .i64 gx.2.2.2] 145)]) (fun gx => (gx.1 ≤ CX.length ∧ gx.2.1 = !(aheadL (i : Int) r.r.pix (CX.take gx.1) NS).isEmpty) ∧ gx.2.2.1 = (spanL (aheadL (i : Int) r.r.pix (CX.take gx.1) NS)).1 ∧ gx.2.2.2 = (spanL (aheadL (i : Int) r.r.pix (CX.take gx.1) NS)).2) (fun gx => CX.length - gx.1) (0, false, 0,0) (by exact ⟨⟨Nat.zero_le _, rfl⟩, rfl, rfl⟩) (.c4 rfl rfl rfl rfl (.cons rfl (.cons rfl (.cons rfl .nil)))) (fun _ h => h) ?_))))))
   rintro ⟨j, any_, lo, hi⟩ ⟨⟨hj, hany⟩, hlo, hhi⟩
   show VC _ _ _ _ _ ([(12, .bool any_), (13, .int .i64 (j : Nat))] ++ _) ([blk b3 (.cells #[.int .i64 T.h, .int .i64 T.m, .int .i64 T.a, .int .i64 T.q, .int .i64 T.o, .int .i64 lo, .int .i64 hi] 145)] ++ _) _ _
   dsimp only at hj hany hlo hhi
   refine VC.seq<|VC.q (VO.m rfl rfl<|VO.m rfl rfl<|VO.l (LO.len S128 (.r rfl) rfl) rfl<|VO.t rfl rfl rfl<|VO.n<|VC.cond rfl (fun h124 => ?_) (fun h124 => ?_))
   ·
    obtain ⟨c, hcj⟩ : ∃ c, CX[j]? = some c := ⟨_, List.getElem?_eq_getElem (by omega)⟩
    have hcm := List.mem_of_getElem? hcj
    have hcb1 := hcbg c hcm
    have hcb2 := hcbu c hcm
    have hah := ahead_step (k := (i : Int)) (pix := r.r.pix) (ns := NS) hcj
    refine VC.skip (VE.seqN<|VC.seq<|VC.block<|VC.seq<|VC.q (VO.m rfl rfl<|VO.m rfl rfl<|VO.l (LO.ixo S128 N139 (fun _ hw => (own_rows hw 2 rfl).some (by rw [List.length_map])) (.r rfl) (.r rfl) rfl (by omega)) rfl<|VO.f F139_1 rfl rfl rfl<|VO.l (LO.ld O3 (.r rfl) (fun w hw => cells_part (off := 1) (own_cell hw 2 rfl hcj) ⟨_, rfl⟩)) rfl<|VO.m rfl rfl<|VO.u rfl rfl rfl<|VO.n<|VC.cond rfl (fun h133 => ?_) (fun h133 => ?_)))
    ·
     rw [if_neg h133] at hah
     have hsm := hah.trans (List.append_nil _)
     refine VC.exit (VE.thenX (VE.inX (VE.seqN<|VC.reg (VO.m rfl rfl<|VO.p rfl rfl (by omega) (by omega) rfl<|VO.a rfl rfl<|VO.nil<|VE.thenN fun a w ha hw => ⟨(j + 1, any_, lo, hi), ⟨⟨by dsimp only; omega, by dsimp only; rw [hsm]; exact hany⟩, by dsimp only; rw [hsm]; exact hlo, by dsimp only; rw [hsm]; exact hhi⟩, (by dsimp only; omega), ha.sub (.c4 rfl rfl rfl rfl (.cons rfl (.cons rfl (.cons rfl .nil)))), (by exact selK (L1 := [_,_,_]) [0,1,2] rfl rfl _ hw)⟩))))
    ·
     have h133 := Classical.not_not.1 h133
     rw [if_pos h133] at hah
     refine VC.skip (VE.seqN<|VC.q (VO.a rfl rfl<|VO.n<|VC.seq<|VC.q (VO.a rfl rfl<|VO.n<|VC.block<|VC.loopK (α := Nat) 0 (fun gx => [(14, .int .i64 (fI (firstN r.r.pix c (ntP ((o.lg.map EnM.p).take gx))))), (15, .int .i64 (gx : Nat))]) [(0,_), (3,_), (4,_), (5,_), (6,_), (12,_), (13,_)] (fun gx => []) (fun gx => gx ≤ o.lg.length ∧ ∀ u, (firstN r.r.pix c (ntP ((o.lg.map EnM.p).take gx))) = some u → 0 ≤ u) (fun gx => o.lg.length - gx) 0 (by exact ⟨Nat.zero_le _, fun u hu => (by cases hu)⟩) (.c4 rfl rfl rfl rfl (.c4 rfl rfl rfl rfl (.cons rfl .nil))) (fun _ h => h) ?_)))
     rintro q ⟨hq, hnn⟩
     refine VC.seq<|VC.q (VO.m rfl rfl<|VO.m rfl rfl<|VO.l (LO.nc (.r rfl)) rfl<|VO.f (r := 9) F103_1 rfl rfl rfl<|VO.l (LO.ld O44 (.r rfl) (cells_keep (sub_cells (off := 9) (dof_cells hh) ⟨_, rfl⟩))) rfl<|VO.l (LO.len S44 (.r rfl) rfl) rfl<|VO.t rfl rfl rfl<|VO.n<|VC.cond rfl (fun h140 => ?_) (fun h140 => ?_))
     ·
      obtain ⟨x, hx⟩ : ∃ x, o.lg[q]? = some x := ⟨_, List.getElem?_eq_getElem (by omega)⟩
      have hxm := List.mem_of_getElem? hx
      have hxk := fun {L : List Res} {v : World} (hv : St (bs w) L v) => dlg_read (hh.keep hv) hxm (hb x hxm)
      have hxt := (hnt x hxm).1
      have hns := nt_step hx
      refine VC.skip (VE.seqN<|VC.seq<|VC.block<|VC.q (VO.m rfl rfl<|VO.l (LO.nc (.r rfl)) rfl<|VO.f (r := 9) F103_1 rfl rfl rfl<|VO.l (LO.ld O44 (.r rfl) (cells_keep (sub_cells (off := 9) (dof_cells hh) ⟨_, rfl⟩))) rfl<|VO.m rfl rfl<|VO.l (LO.ixs S44 N55 hLr.sm (.r rfl) (.r rfl) rfl (by omega)) rfl<|VO.l (LO.lda (vs := [_,_,_,_,_,_,_,_,_]) A55 (.r rfl) (fun w hw => cells_part (off := 0) ((fun w2 hw2 => (hLr.keep w2 hw2).cells _ _ (by rw [List.getElem?_map, hx]; rfl)) w hw) ⟨_, rfl⟩) rfl) rfl<|VO.h rfl<|HO.alloc (C := #[_,_,_,_,_,_,_,_,_]) Z55 rfl fun b11 => VO.h0<|HO.st 0 (vs := [_,_,_,_,_,_,_,_,_]) (C' := [_,_,_,_,_,_,_,_,_]) (L' := [_,_,_,_]) N55 rfl rfl rfl rfl rfl rfl rfl rfl<|VO.n<|VC.seq<|VC.seq<|VC.draw mixed (LL.l (LO.fa (r := 8) F55_3 (.r rfl) rfl) rfl<|LL.l (LO.ld O3 (.r rfl) (cells_blk 0 rfl ⟨_, rfl⟩)) rfl<|LL.l (LO.eq (.r rfl) (.r rfl)) rfl<|LL.m rfl rfl<|LL.gf rfl rfl (fun hg => LO.fa (r := 0) F55_0 (.r rfl) rfl) rfl<|LL.gf rfl rfl (fun hg => LO.ld O3 (.g hg rfl) (cells_blk 0 rfl ⟨_, rfl⟩)) rfl<|LL.gf rfl rfl (fun hg => LO.mv (.r rfl)) rfl<|LL.gf rfl rfl (fun hg => LO.mv (.r rfl)) rfl<|LL.gf rfl rfl (fun hg => LO.ixo S128 N139 (fun _ hw => (own_rows hw 3 rfl).some (by rw [List.length_map])) (.g hg rfl) (.g hg rfl) rfl (by omega)) rfl<|LL.gf rfl rfl (fun hg => LO.fa F139_2 (.g hg rfl) rfl) rfl<|LL.gf rfl rfl (fun hg => LO.ld O3 (.g hg rfl) (fun w hw => cells_part (off := 2) (own_cell hw 3 rfl hcj) ⟨_, rfl⟩)) rfl<|LL.gf rfl rfl (fun hg => LO.lt (.g hg rfl) (.g hg rfl)) rfl<|LL.l (LO.pkO (.r rfl) (.r rfl) rfl rfl) rfl<|LL.m rfl rfl<|LL.gf rfl rfl (fun hg => LO.fa (r := 0) F55_0 (.r rfl) rfl) rfl<|LL.gf rfl rfl (fun hg => LO.ld O3 (.g hg rfl) (cells_blk 0 rfl ⟨_, rfl⟩)) rfl<|LL.gf rfl rfl (fun hg => LO.mv (.r rfl)) rfl<|LL.gf rfl rfl (fun hg => LO.mv (.r rfl)) rfl<|LL.gf rfl rfl (fun hg => LO.ixo S128 N139 (fun _ hw => (own_rows hw 3 rfl).some (by rw [List.length_map])) (.g hg rfl) (.g hg rfl) rfl (by omega)) rfl<|LL.gf rfl rfl (fun hg => LO.fa F139_3 (.g hg rfl) rfl) rfl<|LL.gf rfl rfl (fun hg => LO.ld O3 (.g hg rfl) (fun w hw => cells_part (off := 3) (own_cell hw 3 rfl hcj) ⟨_, rfl⟩)) rfl<|LL.gf rfl rfl (fun hg => LO.ge (.g hg rfl) (.g hg rfl)) rfl<|LL.l (LO.pkO (.r rfl) (.r rfl) rfl rfl) rfl<|LL.nil) (by kernel_rfl)<|VE.seqN<|VC.cond rfl (fun h172 => ?_) (fun h172 => ?_)))
      ·
       have hsm : (firstN r.r.pix c (ntP ((o.lg.map EnM.p).take (q + 1)))) = (firstN r.r.pix c (ntP ((o.lg.map EnM.p).take q))) := by rw [hns]; exact first_out (by omega)
       have hv := congrArg fI hsm
       refine VC.exit (VE.thenX (VE.inX (VE.seqN<|VC.reg (VO.m rfl rfl<|VO.p rfl rfl (by omega) (by omega) rfl<|VO.a rfl rfl<|VO.nil<|VE.thenN fun a w ha hw => ⟨q + 1, ⟨by omega, by rw [hsm]; exact hnn⟩, (by omega), ha.sub (.cons (congrArg (fun z => some (Value.int .i64 z)) hv.symm) (.c4 rfl rfl rfl rfl (.c4 rfl rfl rfl rfl .nil))), hw.sel [1,2,3] rfl⟩))))
      ·
       have hl0 : ¬ x.lv = 0 := fun z => h172 (.inl (.inl z))
       have hbt : c.bg ≤ x.t ∧ x.t < c.en := by omega
       rw [if_neg hl0] at hns
       have hxp := (hnt x hxm).2 hl0
       refine VC.skip (VE.seqN<|VC.seq<|VC.draw mixed (LL.m rfl rfl<|LL.l (LO.nc (.r rfl)) rfl<|LL.l (LO.fa (r := 0) F103_0 (.r rfl) rfl) rfl<|LL.l (LO.fa (r := 5) F42_1 (.r rfl) rfl) rfl<|LL.l (LO.ld O39 (.r rfl) (cells_keep (sub_cells (off := 5) (dof_cells hh) ⟨_, rfl⟩))) rfl<|LL.m rfl rfl<|LL.l (LO.ixs S39 N100 hRr.sm (.r rfl) (.r rfl) rfl (by omega)) rfl<|LL.l (LO.lda (vs := [_,_]) A100 (.r rfl) (fun w hw => cells_part (off := 0) ((fun w2 hw2 => (hRr.keep w2 hw2).cells _ _ (by rw [List.getElem?_map, hr]; rfl)) w hw) ⟨_, rfl⟩) rfl) rfl<|LL.l (LO.lda (vs := [_,_,_,_,_,_,_,_,_]) A55 (.r rfl) (cells_blk 0 rfl ⟨_, rfl⟩) rfl) rfl<|LL.l (LO.call (xs := [_,_]) (vs := [_,_]) C71 ⟨(.r rfl), (.r rfl), trivial⟩ (fun w2 hw2 => dhit_c x r w2 ((hxk hw2).2.2.1) (Go.SL.Rows.keep hrx w2 hw2) (hpl r hrm) (hxp r hrm))) rfl<|LL.m rfl rfl<|LL.l (LO.ex (.r rfl) rfl) rfl<|LL.l (LO.ex (.r rfl) rfl) rfl<|LL.l (LO.as (.r rfl)) rfl<|LL.l (LO.as (.r rfl)) rfl<|LL.nil) (by kernel_rfl)<|VE.seqN<|VC.seq<|VC.draw mixed (LL.m rfl rfl<|LL.m rfl rfl<|LL.gt rfl rfl (fun hg => LO.mv (.r rfl)) rfl<|LL.gt rfl rfl (fun hg => LO.lt (.g hg rfl) (.r rfl)) rfl<|LL.gt rfl rfl (fun hg => LO.mv (.g hg rfl)) rfl<|LL.lg rfl rfl (GD.nf _ _) (fun hg => LO.fa (r := 0) F55_0 (.r rfl) rfl) rfl<|LL.lg rfl rfl (GD.nf _ _) (fun hg => LO.ld O3 (.g hg rfl) (cells_blk 0 rfl ⟨_, rfl⟩)) rfl<|LL.lg rfl rfl (GD.nf _ _) (fun hg => LO.mv (.r rfl)) rfl<|LL.lg rfl rfl (GD.nf _ _) (fun hg => LO.mv (.r rfl)) rfl<|LL.lg rfl rfl (GD.nf _ _) (fun hg => LO.ixo S128 N139 (fun _ hw => (own_rows hw 3 rfl).some (by rw [List.length_map])) (.g hg rfl) (.g hg rfl) rfl (by omega)) rfl<|LL.lg rfl rfl (GD.nf _ _) (fun hg => LO.fa F139_2 (.g hg rfl) rfl) rfl<|LL.lg rfl rfl (GD.nf _ _) (fun hg => LO.ld O3 (.g hg rfl) (fun w hw => cells_part (off := 2) (own_cell hw 3 rfl hcj) ⟨_, rfl⟩)) rfl<|LL.lg rfl rfl (GD.nf _ _) (fun hg => LO.sub (.g hg rfl) (.g hg rfl) (wi (by omega) (by omega))) rfl<|LL.lg rfl rfl (GD.nf _ _) (fun hg => LO.mv (.r rfl)) rfl<|LL.lg rfl rfl (GD.nf _ _) (fun hg => LO.lt (.g hg rfl) (.g hg rfl)) rfl<|LL.gt rfl rfl (fun hg => LO.pkO (.g hg rfl) (.r rfl) rfl (and_e hg)) rfl<|LL.l (LO.pkA (.r rfl) rfl rfl (.r rfl)) rfl<|LL.nil) (by kernel_rfl)<|VE.seqN<|VC.cond rfl (fun h202 => ?_) (fun h202 => ?_))
       ·
        have hic := first_in (pix := r.r.pix) (c := c) (n := ⟨x.t, x.vs, x.lv⟩) h202.1 hbt.1 hbt.2
        have hv : fI (firstN r.r.pix c (ntP ((o.lg.map EnM.p).take (q + 1)))) = x.t - c.bg := by rw [hns, firstN_snoc, if_pos hic]; exact fI_less hnn h202.2
        refine VC.draw mixed (LL.l (LO.fa (r := 0) F55_0 (.r rfl) rfl) rfl<|LL.l (LO.ld O3 (.r rfl) (cells_blk 0 rfl ⟨_, rfl⟩)) rfl<|LL.m rfl rfl<|LL.m rfl rfl<|LL.l (LO.ixo S128 N139 (fun _ hw => (own_rows hw 3 rfl).some (by rw [List.length_map])) (.r rfl) (.r rfl) rfl (by omega)) rfl<|LL.l (LO.fa F139_2 (.r rfl) rfl) rfl<|LL.l (LO.ld O3 (.r rfl) (fun w hw => cells_part (off := 2) (own_cell hw 3 rfl hcj) ⟨_, rfl⟩)) rfl<|LL.l (LO.sub (.r rfl) (.r rfl) (wi (by omega) (by omega))) rfl<|LL.l (LO.as (.r rfl)) rfl<|LL.nil) (by kernel_rfl)<|VE.inN (VE.seqN<|VC.reg (VO.m rfl rfl<|VO.p rfl rfl (by omega) (by omega) rfl<|VO.a rfl rfl<|VO.nil<|VE.thenN fun a w ha hw => ⟨q + 1, ⟨by omega, by rw [hns]; exact fst_nn hnn⟩, (by omega), ha.sub (.cons (congrArg (fun z => some (Value.int .i64 z)) hv.symm) (.c4 rfl rfl rfl rfl (.c4 rfl rfl rfl rfl .nil))), hw.sel [1,2,3] rfl⟩))
       ·
        have hv : fI (firstN r.r.pix c (ntP ((o.lg.map EnM.p).take (q + 1)))) = fI (firstN r.r.pix c (ntP ((o.lg.map EnM.p).take q))) := by rw [hns, first_no h202]
        refine VC.skip (VE.inN (VE.seqN<|VC.reg (VO.m rfl rfl<|VO.p rfl rfl (by omega) (by omega) rfl<|VO.a rfl rfl<|VO.nil<|VE.thenN fun a w ha hw => ⟨q + 1, ⟨by omega, by rw [hns]; exact fst_nn hnn⟩, (by omega), ha.sub (.cons (congrArg (fun z => some (Value.int .i64 z)) hv.symm) (.c4 rfl rfl rfl rfl (.c4 rfl rfl rfl rfl .nil))), hw.sel [1,2,3] rfl⟩)))
     ·
      have hqe : q = o.lg.length := by omega
      have hnn2 : ∀ u, (firstN r.r.pix c NS) = some u → 0 ≤ u := by rw [hqe, show (o.lg.map EnM.p).take o.lg.length = o.lg.map EnM.p by rw [← List.length_map (f := EnM.p), List.take_length], ← hNS] at hnn; exact hnn
      rw [hqe, show (o.lg.map EnM.p).take o.lg.length = o.lg.map EnM.p by rw [← List.length_map (f := EnM.p), List.take_length], ← hNS]
      refine VC.exit (VE.thenX (VE.thenX (VE.inX (VE.seqN<|VC.seq<|VC.q (VO.m rfl rfl<|VO.t rfl rfl rfl<|VO.n<|VC.cond rfl (fun h212 => ?_) (fun h212 => ?_))))))
      ·
       have hsm : (aheadL (i : Int) r.r.pix (CX.take (j + 1)) NS) = (aheadL (i : Int) r.r.pix (CX.take j) NS) := by rw [hah, fI_none hnn2 h212]; exact List.append_nil _
       refine VC.exit (VE.thenX (VE.inX (VE.seqN<|VC.reg (VO.m rfl rfl<|VO.p rfl rfl (by omega) (by omega) rfl<|VO.a rfl rfl<|VO.nil<|VE.thenN fun a w ha hw => ⟨(j + 1, any_, lo, hi), ⟨⟨by dsimp only; omega, by dsimp only; rw [hsm]; exact hany⟩, by dsimp only; rw [hsm]; exact hlo, by dsimp only; rw [hsm]; exact hhi⟩, (by dsimp only; omega), ha.sub (.c4 rfl rfl rfl rfl (.cons rfl (.cons rfl (.cons rfl .nil)))), (by exact selK (L1 := [_,_,_]) [0,1,2] rfl rfl _ hw)⟩))))
      ·
       rw [fI_some h212] at hah
       change _ = _ ++ [fI (firstN r.r.pix c NS)] at hah
       have hsp := congrArg spanL hah
       rw [span_snoc] at hsp
       refine VC.skip (VE.seqN<|VC.seq<|VC.q (VO.m rfl rfl<|VO.l (LO.not (.r rfl)) rfl<|VO.n<|VC.cond rfl (fun h214 => ?_) (fun h214 => ?_)))
       ·
        have hem : (aheadL (i : Int) r.r.pix (CX.take j) NS).isEmpty = true := by rw [hany] at h214; simpa using h214
        rw [if_pos hem] at hsp
        refine VC.reg (VO.m rfl rfl<|VO.m rfl rfl<|VO.l (LO.bd (ps := [(_,_), (_,_)]) (vs := [(_,_), (_,_)]) (C := [_,_]) B77  ⟨(.r rfl), (.r rfl), trivial⟩ rfl ⟨_, [_], [_,_], rfl, rfl, rfl, rfl, ⟨_, [_], [_,_], rfl, rfl, rfl, rfl, rfl⟩⟩) rfl<|VO.f (r := 5) F145_5 rfl rfl rfl<|VO.h0<|HO.st 0 (vs := [_,_]) (C' := [_,_,_,_,_,_,_]) (L' := [_,_,_]) N77 rfl rfl rfl rfl rfl rfl rfl rfl<|VO.n<|VC.q (VO.a rfl rfl<|VO.n<|VC.reg (VO.f (r := 5) F145_5 rfl rfl rfl<|VO.f (r := 5) F77_0 rfl rfl rfl<|VO.c 0 O3 rfl rfl ⟨_, rfl⟩ rfl<|VO.m rfl rfl<|VO.l (LO.min (.r rfl) (.r rfl)) rfl<|VO.f (r := 5) F145_5 rfl rfl rfl<|VO.f (r := 6) F77_1 rfl rfl rfl<|VO.c 0 O3 rfl rfl ⟨_, rfl⟩ rfl<|VO.m rfl rfl<|VO.l (LO.max (.r rfl) (.r rfl)) rfl<|VO.l (LO.bd (ps := [(_,_), (_,_)]) (vs := [(_,_), (_,_)]) (C := [_,_]) B77  ⟨(.r rfl), (.r rfl), trivial⟩ rfl ⟨_, [_], [_,_], rfl, rfl, rfl, rfl, ⟨_, [_], [_,_], rfl, rfl, rfl, rfl, rfl⟩⟩) rfl<|VO.f (r := 5) F145_5 rfl rfl rfl<|VO.h0<|HO.st 0 (vs := [_,_]) (C' := [_,_,_,_,_,_,_]) (L' := [_,_,_]) N77 rfl rfl rfl rfl rfl rfl rfl rfl<|VO.nil<|VE.inN (VE.seqN<|VC.reg (VO.m rfl rfl<|VO.p rfl rfl (by omega) (by omega) rfl<|VO.a rfl rfl<|VO.nil<|VE.thenN fun a w ha hw => ⟨(j + 1, true, (min (fI (firstN r.r.pix c NS)) (fI (firstN r.r.pix c NS))), (max (fI (firstN r.r.pix c NS)) (fI (firstN r.r.pix c NS)))), ⟨⟨by dsimp only; omega, by dsimp only; exact ne_snoc hah⟩, by dsimp only; rw [hsp]; exact Int.min_self _, by dsimp only; rw [hsp]; exact Int.max_self _⟩, (by dsimp only; omega), ha.sub (.c4 rfl rfl rfl rfl (.cons rfl (.cons rfl (.cons rfl .nil)))), (by exact selK (L1 := [_,_,_]) [0,1,2] rfl rfl _ hw)⟩)))))
       ·
        have hem : ¬ (aheadL (i : Int) r.r.pix (CX.take j) NS).isEmpty = true := by rw [hany] at h214; simpa using h214
        rw [if_neg hem] at hsp
        refine VC.skip (VE.seqN<|VC.q (VO.a rfl rfl<|VO.n<|VC.reg (VO.f (r := 5) F145_5 rfl rfl rfl<|VO.f (r := 5) F77_0 rfl rfl rfl<|VO.c 0 O3 rfl rfl ⟨_, rfl⟩ rfl<|VO.m rfl rfl<|VO.l (LO.min (.r rfl) (.r rfl)) rfl<|VO.f (r := 5) F145_5 rfl rfl rfl<|VO.f (r := 6) F77_1 rfl rfl rfl<|VO.c 0 O3 rfl rfl ⟨_, rfl⟩ rfl<|VO.m rfl rfl<|VO.l (LO.max (.r rfl) (.r rfl)) rfl<|VO.l (LO.bd (ps := [(_,_), (_,_)]) (vs := [(_,_), (_,_)]) (C := [_,_]) B77  ⟨(.r rfl), (.r rfl), trivial⟩ rfl ⟨_, [_], [_,_], rfl, rfl, rfl, rfl, ⟨_, [_], [_,_], rfl, rfl, rfl, rfl, rfl⟩⟩) rfl<|VO.f (r := 5) F145_5 rfl rfl rfl<|VO.h0<|HO.st 0 (vs := [_,_]) (C' := [_,_,_,_,_,_,_]) (L' := [_,_,_]) N77 rfl rfl rfl rfl rfl rfl rfl rfl<|VO.nil<|VE.inN (VE.seqN<|VC.reg (VO.m rfl rfl<|VO.p rfl rfl (by omega) (by omega) rfl<|VO.a rfl rfl<|VO.nil<|VE.thenN fun a w ha hw => ⟨(j + 1, true, (min lo (fI (firstN r.r.pix c NS))), (max hi (fI (firstN r.r.pix c NS)))), ⟨⟨by dsimp only; omega, by dsimp only; exact ne_snoc hah⟩, by dsimp only; rw [hsp, ← hlo], by dsimp only; rw [hsp, ← hhi]⟩, (by dsimp only; omega), ha.sub (.c4 rfl rfl rfl rfl (.cons rfl (.cons rfl (.cons rfl .nil)))), (by exact selK (L1 := [_,_,_]) [0,1,2] rfl rfl _ hw)⟩)))))
   ·
    have hje : j = CX.length := by omega
    rw [hje, List.take_length] at hlo hhi
    have hTal : Tal.mk T.h T.m T.a T.q T.o lo hi = talD o st i := by unfold talD talF; rw [getD_r hr, ← hCX, ← hNS, ← hT.1, ← hT.2.1, ← hT.2.2.1, ← hT.2.2.2.1, ← hT.2.2.2.2, ← hlo, ← hhi]
    refine VC.exit (VE.thenX (VE.thenX (VE.inX (VE.seqN<|VC.reg (VO.m rfl rfl<|VO.l (LO.lda (vs := [_,_,_,_,_,_,_]) A145 (.r rfl) (cells_blk 0 rfl ⟨_, rfl⟩) rfl) rfl<|VO.h rfl<|HO.bs (ps := [(_,_)]) (vs := [(_,_)]) (Z := [_,_,_,_,_,_,_]) (C := [_,_,_,_,_,_,_]) S142 Z145 N145 ⟨(.r rfl), trivial⟩ rfl rfl rfl rfl ⟨_, [_,_,_,_,_,_,_], [_,_,_,_,_,_,_], rfl, rfl, rfl, rfl, rfl⟩ fun b16 => VO.h rfl<|HO.appT ((Tal.mk T.h T.m T.a T.q T.o lo hi)) 2 0 (fun R => [_,_, R,_]) S142 S142 I145 (.r rfl) (.r rfl) rfl rfl rfl rfl rfl rfl rfl (fun _ => rfl) rfl (by omega) fun p3 c3 => VO.h rfl<|HO.lo (LO.as (.r rfl))<|VO.nil<|VE.inN (VE.seqN<|VC.reg (VO.m rfl rfl<|VO.p rfl rfl (by omega) (by omega) rfl<|VO.a rfl rfl<|VO.nil<|VE.thenN fun a w ha hw => ⟨(i + 1, xs ++ [Tal.mk T.h T.m T.a T.q T.o lo hi], p3, c3), ⟨by dsimp only; omega, by dsimp only; rw [List.range_succ, List.map_append, hX]; exact congrArg (fun z => _ ++ [z]) hTal⟩, (by dsimp only; omega), ha.sub (.c4 rfl rfl rfl rfl .nil), (by exact selK (L1 := [_,_]) [2,3] rfl rfl _ hw)⟩)))))))
 ·
  refine VC.exit (VE.thenX (VE.thenX (VE.inX (VE.seqN<|VC.q (VO.m rfl rfl<|VO.a rfl rfl<|VO.n<|VC.ret (VE.s rfl rfl (fun w hw => ?_)))))))
  have hie : i = o.rg.length := by omega
  subst hie
  rw [← hX]
  exact ⟨(px_, cx_), trivial, rfl, selK (L1 := [_]) [0] rfl rfl _ hw⟩
section
variable {s : Sp} {l : List EnP} {o : OfM} {n : Nat}
theorem PlA.ats (h : PlA s l o n) (T : Int) : atsL o T = (List.range s.regs.length).map fun k => atLv (tsP (l.take n)) (lvL s.hold k (stP s (l.take n))) T := by
  unfold atsL
  refine List.ext_getElem? fun k => ?_
  rw [List.getElem?_map, List.getElem?_map]
  rcases Nat.lt_or_ge k o.rc.length with q | q
  · rw [List.getElem?_eq_getElem q, List.getElem?_range (by rw [← h.n]; exact q)]
    simp only [Option.map_some]
    rw [(h.sim.rcs k _ (List.getElem?_eq_getElem q)).2.1, h.hold, h.ts]
  · rw [List.getElem?_eq_none q, List.getElem?_eq_none (by rw [List.length_range, ← h.n]; exact q)]; rfl
theorem PlA.levels (h : PlA s l o n) : levelsL o = (List.range s.regs.length).map fun k => lvS s.hold k (stP s (l.take n)) := by
  rw [levels_sim h.sim, h.n, h.hold]
theorem PlA.lvl (h : PlA s l o n) : ∀ r, r ∈ o.rc → r.lv.length = o.ts.length := fun r hr => by
  obtain ⟨q, hq⟩ := List.mem_iff_getElem?.1 hr
  rw [(h.sim.rcs q r hq).2.1, lvL_len, h.sim.ts, List.length_map]
theorem PlA.reg (h : PlA s l o n) : ∀ r, r ∈ o.rc → r.x ∈ o.rg ∧ r.x.r.pix.length < 1000000000000 := fun r hr => ⟨h.sim.wf.reg r hr, h.sim.wf.pix _ (h.sim.wf.reg r hr)⟩
theorem PlA.tsl (h : PlA s l o n) : o.ts.length ≤ n := by
  have h1 := h.sim.wf.ts
  have h2 := h.len
  rw [List.length_take] at h2; omega
theorem PlA.lgl (h : PlA s l o n) : o.lg.length ≤ n := by have h2 := h.len; rw [List.length_take] at h2; omega
theorem PlA.csl (h : PlA s l o n) : o.cs.length ≤ 32 * n := by have h1 := h.sim.wf.cs; have := h.tsl; omega
end
section
variable {s : Sp} {l : List EnP} {o : OfM} {n : Nat} {w : World}
theorem Score_p {P : List Tal} (h : PlB s l o n) (hn : n ≤ 256) (hT : talsP s (l.take n) = P) (hh : Has w (offR o)) : Calls Tryz.prog 49 #[ptrN o.b] w fun e w' => ∃ x : Option Addr × Nat, True ∧ e = .returned (.slice x.1 P.length x.2) ∧ St (bs w) [own 146 7 x.1 x.2 (P.map Tal.cells)] w' := by
  have z := Score_c o w ⟨h.a.sim.wf.n.1, by have := h.a.sim.wf.n.2; omega⟩ (by have := h.a.tsl; omega) (h.a.sim.inc.imp Int.le_of_lt) h.a.lvl (by have := h.a.csl; omega) h.a.cnum (by have := h.a.lgl; omega) h.a.reg h.ok hh
  rw [h.tals, hT] at z; exact z
theorem Cases_p (h : PlB s l o n) (hn : n ≤ 256) (hh : Has w (offR o)) : Calls Tryz.prog 46 #[ptrN o.b] w fun e w' => ∃ x : Option Addr × Nat, True ∧ e = .returned (.slice x.1 (csF s.hold s.regs.length (stP s (l.take n))).length x.2) ∧ St (bs w) [own 120 5 x.1 x.2 ((csF s.hold s.regs.length (stP s (l.take n))).map csC)] w' := by
  have z := Cases_c o w (by have := h.a.sim.wf.n.2; omega) h.a.sim.wf.n.1 (by have := h.a.csl; omega) hh
  rw [cs_C, h.a.cs, show o.cs.length = (csF s.hold s.regs.length (stP s (l.take n))).length by rw [← h.a.cs, List.length_map]] at z; exact z
theorem Levels_p (h : PlB s l o n) (hn : n ≤ 256) (hh : Has w (offR o)) : Calls Tryz.prog 25 #[ptrN o.b] w fun e w' => ∃ x : Option Addr × Nat, True ∧ e = .returned (.slice x.1 ((List.range s.regs.length).map fun k => lvS s.hold k (stP s (l.take n))).length x.2) ∧ St (bs w) [own 3 1 x.1 x.2 (((List.range s.regs.length).map fun k => lvS s.hold k (stP s (l.take n))).map iC)] w' := by
  have z := Levels_c o w (by have := h.a.sim.wf.n.2; omega) h.a.sim.wf.n.1 (fun r hr => by have := h.a.lvl r hr; have := h.a.tsl; omega) hh
  rw [h.a.levels] at z; exact z
end
structure PlD (s : Sp) (l : List EnP) (d : DoM) (n : Nat) : Prop where
  sp : d.sp = s
  dos : DoS d (stP s (l.take n))
  lg : d.lg.map EnM.p = (l.take n).map EnP.canon
  bd : ∀ x, x ∈ d.lg → x.p.bd
  px : ∀ x, x ∈ d.rg → x.r.pix.length < 1000000000000
  nt : ∀ x, x ∈ d.lg → (0 ≤ x.t ∧ x.t ≤ 4294967296) ∧ (¬ x.lv = 0 → ∀ r, r ∈ d.rg → ∀ p, p ∈ r.r.pix → 0 ≤ p ∧ p < (x.vs.length : Int))
  inc : d.ts.Pairwise (· < ·)
  spec : specE d.sp = 0
section
variable {s : Sp} {l : List EnP} {d : DoM} {n : Nat}
theorem PlD.len (h : PlD s l d n) : d.lg.length = (l.take n).length := by have := congrArg List.length h.lg; simpa using this
theorem PlD.ts (h : PlD s l d n) : d.ts = tsP (l.take n) := by rw [h.dos.ts]; unfold stP tsP; rw [List.map_map]; rfl
theorem PlD.hold (h : PlD s l d n) : d.hold = s.hold := congrArg Sp.hold h.sp
theorem PlD.g (h : PlD s l d n) : d.g = s.g := congrArg Sp.g h.sp
theorem PlD.nr (h : PlD s l d n) : d.rg.length = s.regs.length := by rw [← h.sp]; unfold DoM.sp; rw [List.length_map]
theorem ntP_canon : ∀ l : List EnP, ntP (l.map EnP.canon) = ntP l
  | [] => rfl
  | x :: l => by
    show ntE x.canon ++ ntP (l.map EnP.canon) = ntE x ++ ntP l
    rw [ntP_canon l]
    congr 1
    unfold EnP.canon ntE
    by_cases q : x.lv = 0
    · rw [if_pos q, if_pos q]
      first | rfl | exact if_pos rfl
    · rw [if_neg q, if_neg q]
      first | done | exact if_neg q
theorem PlD.tals (h : PlD s l d n) : (List.range d.rg.length).map (talD d (stP s (l.take n))) = talsP s (l.take n) := by
  unfold talsP
  rw [h.nr]
  refine List.map_congr_left fun k _ => ?_
  unfold talD talP
  have e1 : d.rg.map RG.r = s.regs := by rw [← h.sp]; rfl
  have e2 : onD d (stP s (l.take n)) k = onP s (l.take n) k := by funext t; unfold onD onP; rw [h.hold, h.ts]
  rw [e1, e2, h.hold, h.nr, h.lg, ntP_canon]
theorem PlD.st (h : PlD s l d n) {x : EnP} (hx : x.lv = 0) : stpQ d.ts d.lg.length d.g x.t x.l = enE s (l.take n) x := by
  unfold stpQ enE
  rw [if_pos hx, h.ts, h.len, h.g]
theorem PlD.ntq (h : PlD s l d n) {x : EnP} (hx : ¬ x.lv = 0) : ntQ d.lg.length d.g x.t ⟨x.g, x.vs⟩ x.lv = enE s (l.take n) x := by
  unfold ntQ enE
  rw [if_neg hx, h.len, h.g]
theorem PlD.take {m : List EnP} (h : PlD s l d n) (e : m.take n = l.take n) : PlD s m d n := ⟨h.sp, by rw [e]; exact h.dos, by rw [e]; exact h.lg, h.bd, h.px, h.nt, h.inc, h.spec⟩
theorem PlB.take {m : List EnP} {o : OfM} (h : PlB s l o n) (e : m.take n = l.take n) : PlB s m o n := ⟨⟨by rw [e]; exact h.a.sim, h.a.sp, by rw [e]; exact h.a.lg, h.a.ok⟩, by rw [e]; exact h.nt, h.ok, h.nz⟩
theorem csF_ln {o : OfM} (h : PlB s l o n) (hn : n ≤ 256) : (csF s.hold s.regs.length (stP s (l.take n))).length ≤ 8192 := by
  rw [← h.a.cs, List.length_map]; have := h.a.csl; omega
end
theorem At_e (o : OfM) (T : Int) (w : World) (hn : o.rc.length < 1000000) (hp : 0 < o.rc.length) (hT : ¬ (0 ≤ T ∧ T ≤ 4294967296)) (hh : Has w (offR o)) :
 Calls Tryz.prog 51 #[ptrN o.b, .int .i64 T] w fun e w' => e = .returned (.tuple #[.slice none 0 0, .int .i64 3]) ∧ St (bs w) [] w' := by
 refine enter (vs := [_,_]) (env := [(0,_), (1,_)]) Tryz.func51 rfl rfl rfl rfl ?_
 refine VC.q (VO.a rfl rfl<|VO.a rfl rfl<|VO.n<|VC.seq<|VC.block<|VC.q (VO.m rfl rfl<|VO.l (LO.call (xs := [_]) (vs := [_]) C30 ⟨(.r rfl), trivial⟩ (fun w hw => nothing_c o w (by omega) (off_cells (hh.keep hw)))) rfl<|VO.a rfl rfl<|VO.n<|VC.cond rfl (fun h9 => ?_) (fun h9 => ?_)))
 · (exfalso; omega)
 ·
  refine VC.q (VO.m rfl rfl<|VO.l (LO.call (xs := [_,_,_]) (vs := [_,_,_]) C31 ⟨(.r rfl), (.r rfl), (.r rfl), trivial⟩ (fun w _ => iwithin_c _ _ _ w)) rfl<|VO.l (LO.not (.r rfl)) rfl<|VO.a rfl rfl<|VO.n<|VC.cond rfl (fun h12 => ?_) (fun h12 => ?_))
  ·
   refine VC.q (VO.a rfl rfl<|VO.a rfl rfl<|VO.n<|VC.ret (VE.inR (VE.thenR (VE.res (vs := [_,_]) rfl ⟨rfl, rfl, trivial⟩ (fun w hw => ?_)))))
   exact ⟨rfl, hw.nil⟩
  · (exfalso; exact hT (by omega))
theorem C46 : IsFn Tryz.prog 46 := ⟨_, Tryz.func46, by decide, rfl⟩
theorem C48 : IsFn Tryz.prog 48 := ⟨_, Tryz.func48, by decide, rfl⟩
theorem A139 : IsAgg Tryz.prog 139 5 := ⟨⟨_, Tryz.underlying139, rfl⟩, by kernel_rfl⟩
theorem EA139 : FlatA Tryz.prog 139 5 := ⟨⟨_, Tryz.underlying139, rfl⟩, by kernel_rfl, by kernel_rfl⟩
theorem C49 : IsFn Tryz.prog 49 := ⟨_, Tryz.func49, by decide, rfl⟩
theorem C50 : IsFn Tryz.prog 50 := ⟨_, Tryz.func50, by decide, rfl⟩
theorem C51 : IsFn Tryz.prog 51 := ⟨_, Tryz.func51, by decide, rfl⟩
def zTalD : Tal := ⟨0,0,0,0,0,0,0⟩
theorem ints_nil {w : World} : Ints w none ([] : List Int) := ⟨fun j r h => by simp at h, by intros; simp_all, by intros; simp_all⟩
theorem alike_c (s : Sp) (l : List EnP) (n : Nat) (o : OfM) (d : DoM) (T : Int) (w : World) (hB : PlB s l o n) (hD : PlD s l d n) (hn : n ≤ 256) (hO : Has w (offR o)) (hDo : Has w (dofR d)) :
 Calls Tryz.prog 16 #[ptrN o.b, ptrN d.b, .int .i64 T] w fun e w' => e = .returned (.bool true) ∧ St (bs w) [] w' := by
 obtain ⟨CX, hCX⟩ : ∃ c, c = (csF s.hold s.regs.length (stP s (l.take n))) := ⟨_, rfl⟩
 obtain ⟨LV, hLV⟩ : ∃ c, c = ((List.range s.regs.length).map fun k => lvS s.hold k (stP s (l.take n))) := ⟨_, rfl⟩
 obtain ⟨AV, hAV⟩ : ∃ c, c = ((List.range s.regs.length).map fun k => atLv (tsP (l.take n)) (lvL s.hold k (stP s (l.take n))) T) := ⟨_, rfl⟩
 obtain ⟨TA, hTA⟩ : ∃ c, c = talsP s (l.take n) := ⟨_, rfl⟩
 have hcl := csF_ln hB hn
 rw [← hCX] at hcl
 have hrn := hB.a.sim.wf.n
 have hnr := hB.a.n
 have hLVl : LV.length = s.regs.length := by rw [hLV]; simp
 have hAVl : AV.length = s.regs.length := by rw [hAV]; simp
 have hTAl : TA.length = s.regs.length := by rw [hTA]; unfold talsP; simp
 have hdl : d.lg.length ≤ 256 := by rw [hD.len, List.length_take]; omega
 have htsl := hB.a.tsl
 refine enter (vs := [_,_,_]) (env := [(0,_), (1,_), (2,_)]) Tryz.func16 rfl rfl rfl rfl ?_
 refine VC.q (VO.a rfl rfl<|VO.n<|VC.q (VO.m rfl rfl<|VO.h rfl<|HO.callx (xs := [_]) (vs := [_]) C46 ⟨(.r rfl), trivial⟩ (fun w hw => by have z := Cases_p hB hn (hO.keep hw); rw [← hCX] at z; exact z) fun xc _ => VO.m rfl rfl<|VO.h rfl<|HO.callx (xs := [_]) (vs := [_]) C47 ⟨(.r rfl), trivial⟩ (fun w hw => by have z := rCases_c d _ w hD.dos (hDo.keep hw); rw [hD.hold, hD.nr, ← hCX] at z; exact z) fun xd _ => VO.h rfl<|HO.lo (LO.as (.r rfl))<|VO.h rfl<|HO.lo (LO.as (.r rfl))<|VO.n<|VC.seq<|VC.q (VO.m rfl rfl<|VO.l (LO.len S136 (.r rfl) rfl) rfl<|VO.m rfl rfl<|VO.l (LO.len S128 (.r rfl) rfl) rfl<|VO.u rfl rfl rfl<|VO.m rfl rfl<|VO.gf rfl rfl (fun hg => LO.mv (.r rfl)) rfl<|VO.bc (x := 26) rfl (fun hg2_5 => (by exfalso; simp at hg2_5)) (fun hg2_5 => VO.gT rfl rfl (congrArg Value.bool hg2_5) rfl<|HO.callx (xs := [_]) (vs := [_]) C25 ⟨(.g (by rw [hg2_5]; rfl) rfl), trivial⟩ (fun w hw => by have z := Levels_p hB hn (hO.keep hw); rw [← hLV] at z; exact z) fun xl _ => VO.gT rfl rfl (congrArg Value.bool hg2_5) rfl<|HO.lo (LO.mv (.r rfl))<|VO.gT rfl rfl (congrArg Value.bool hg2_5) rfl<|HO.callx (xs := [_]) (vs := [_]) C48 ⟨(.r rfl), trivial⟩ (fun w hw => by have z := rLevels_c d _ w hD.dos (hDo.keep hw); rw [hD.hold, hD.nr, ← hLV] at z; exact z) fun xm _ => VO.gT rfl rfl (congrArg Value.bool hg2_5) rfl<|HO.lo (LO.call (xs := [_,_]) (vs := [_,_]) C24 ⟨(.r rfl), (.r rfl), trivial⟩ (fun w hw => by have z := ints_c xl.1 xm.1 LV LV xl.2 xm.2 w (by rw [hLVl]; omega) (by rw [hLVl]; omega) (own_rows hw 1 rfl) (own_rows hw 0 rfl); rw [decide_eq_true rfl] at z; exact z))<|VO.gT rfl rfl (congrArg Value.bool hg2_5) rfl<|HO.lo (LO.not (.r rfl))<|VO.h rfl<|HO.lo (LO.pkF (.r rfl) hg2_5 (.r rfl))<|VO.n<|VC.cond rfl (fun h33 => ?_) (fun h33 => ?_)))))
 · (exfalso; (first | exact h33 rfl | (simp at h33)))
 ·
  refine VC.skip (VE.seqN<|VC.seq<|VC.q (VO.a rfl rfl<|VO.n<|VC.block<|VC.loopK (α := Nat) 0 (fun gx => [(9, .int .i64 (gx : Nat))]) [(0,_), (1,_), (2,_), (7,_), (8,_)] (fun gx => []) (fun gx => gx ≤ CX.length) (fun gx => CX.length - gx) 0 (by exact Nat.zero_le _) (.c4 rfl rfl rfl rfl (.cons rfl (.cons rfl .nil))) (fun _ h => h) ?_))
  rintro j hj
  refine VC.seq<|VC.q (VO.m rfl rfl<|VO.m rfl rfl<|VO.l (LO.len S136 (.r rfl) rfl) rfl<|VO.t rfl rfl rfl<|VO.n<|VC.cond rfl (fun h37 => ?_) (fun h37 => ?_))
  ·
   refine VC.skip (VE.seqN<|VC.seq<|VC.block<|VC.seq<|VC.draw mixed (LL.m rfl rfl<|LL.m rfl rfl<|LL.l (LO.ixo S136 N120 (fun _ hw => (own_rows hw 3 rfl).some (by rw [List.length_map])) (.r rfl) (.r rfl) rfl (by omega)) rfl<|LL.l (LO.lda (vs := [_,_,_,_,_]) A120 (.r rfl) (fun w hw => cells_part (off := 0) (own_cell hw 3 rfl (getD_some (d := zC) (by omega))) ⟨_, rfl⟩) rfl) rfl<|LL.m rfl rfl<|LL.m rfl rfl<|LL.l (LO.ixo S128 N139 (fun _ hw => (own_rows hw 2 rfl).some (by rw [List.length_map])) (.r rfl) (.r rfl) rfl (by omega)) rfl<|LL.l (LO.lda (vs := [_,_,_,_,_]) A139 (.r rfl) (fun w hw => cells_part (off := 0) (own_cell hw 2 rfl (getD_some (d := zC) (by omega))) ⟨_, rfl⟩) rfl) rfl<|LL.l (LO.neA («as» := [_,_,_,_,_]) (bs := [_,_,_,_,_]) EA139 (.r rfl) (.r rfl) rfl rfl) rfl<|LL.nil) (by kernel_rfl)<|VE.seqN<|VC.cond rfl (fun h48 => ?_) (fun h48 => ?_))
   · (exfalso; exact h48 rfl)
   ·
    refine VC.skip (VE.inN (VE.seqN<|VC.reg (VO.m rfl rfl<|VO.p rfl rfl (by omega) (by omega) rfl<|VO.a rfl rfl<|VO.nil<|VE.thenN fun a w ha hw => ⟨j + 1, (by omega), (by omega), ha.sub (.c4 rfl rfl rfl rfl (.cons rfl (.cons rfl .nil))), hw⟩)))
  ·
   refine VC.exit (VE.thenX (VE.thenX (VE.inX (VE.seqN<|VC.q (VO.m rfl rfl<|VO.h rfl<|HO.callx (xs := [_]) (vs := [_]) C49 ⟨(.r rfl), trivial⟩ (fun w hw => Score_p (P := TA) hB hn hTA.symm (hO.keep hw)) fun xt _ => VO.m rfl rfl<|VO.h rfl<|HO.callx (xs := [_]) (vs := [_]) C50 ⟨(.r rfl), trivial⟩ (fun w hw => by have z := dScore_c d _ w hD.dos hD.inc hdl hD.bd hD.nt hD.px (hDo.keep hw); rw [hD.tals, ← hTA] at z; exact z) fun xu _ => VO.h rfl<|HO.lo (LO.as (.r rfl))<|VO.h rfl<|HO.lo (LO.as (.r rfl))<|VO.n<|VC.seq<|VC.q (VO.m rfl rfl<|VO.l (LO.len S140 (.r rfl) rfl) rfl<|VO.m rfl rfl<|VO.l (LO.len S142 (.r rfl) rfl) rfl<|VO.u rfl rfl rfl<|VO.n<|VC.cond rfl (fun h57 => ?_) (fun h57 => ?_)))))))
   · (exfalso; exact h57 rfl)
   ·
    refine VC.skip (VE.seqN<|VC.seq<|VC.q (VO.a rfl rfl<|VO.n<|VC.block<|VC.loopK (α := Nat) 0 (fun gx => [(12, .int .i64 (gx : Nat))]) [(0,_), (1,_), (2,_), (10,_), (11,_)] (fun gx => []) (fun gx => gx ≤ TA.length) (fun gx => TA.length - gx) 0 (by exact Nat.zero_le _) (.c4 rfl rfl rfl rfl (.cons rfl (.cons rfl .nil))) (fun _ h => h) ?_))
    rintro j hj
    refine VC.seq<|VC.q (VO.m rfl rfl<|VO.m rfl rfl<|VO.l (LO.len S140 (.r rfl) rfl) rfl<|VO.t rfl rfl rfl<|VO.n<|VC.cond rfl (fun h61 => ?_) (fun h61 => ?_))
    ·
     refine VC.skip (VE.seqN<|VC.seq<|VC.block<|VC.seq<|VC.draw mixed (LL.m rfl rfl<|LL.m rfl rfl<|LL.l (LO.ixo S140 N146 (fun _ hw => (own_rows hw 1 rfl).some (by rw [List.length_map])) (.r rfl) (.r rfl) rfl (by omega)) rfl<|LL.l (LO.lda (vs := [_,_,_,_,_,_,_]) A146 (.r rfl) (fun w hw => cells_part (off := 0) (own_cell hw 1 rfl (getD_some (d := zTalD) (by omega))) ⟨_, rfl⟩) rfl) rfl<|LL.m rfl rfl<|LL.m rfl rfl<|LL.l (LO.ixo S142 N145 (fun _ hw => (own_rows hw 0 rfl).some (by rw [List.length_map])) (.r rfl) (.r rfl) rfl (by omega)) rfl<|LL.l (LO.lda (vs := [_,_,_,_,_,_,_]) A145 (.r rfl) (fun w hw => cells_part (off := 0) (own_cell hw 0 rfl (getD_some (d := zTalD) (by omega))) ⟨_, rfl⟩) rfl) rfl<|LL.l (LO.neA («as» := [_,_,_,_,_,_,_]) (bs := [_,_,_,_,_,_,_]) EA145 (.r rfl) (.r rfl) rfl rfl) rfl<|LL.nil) (by kernel_rfl)<|VE.seqN<|VC.cond rfl (fun h72 => ?_) (fun h72 => ?_))
     · (exfalso; exact h72 rfl)
     ·
      refine VC.skip (VE.inN (VE.seqN<|VC.reg (VO.m rfl rfl<|VO.p rfl rfl (by omega) (by omega) rfl<|VO.a rfl rfl<|VO.nil<|VE.thenN fun a w ha hw => ⟨j + 1, (by omega), (by omega), ha.sub (.c4 rfl rfl rfl rfl (.cons rfl (.cons rfl .nil))), hw⟩)))
    ·
     refine VC.exit (VE.thenX (VE.thenX (VE.inX (VE.seqN<|VC.seq ?_))))
     by_cases hT : 0 ≤ T ∧ T ≤ 4294967296
     ·
      refine VC.reg (VO.m rfl rfl<|VO.m rfl rfl<|VO.h rfl<|HO.callx (xs := [_,_]) (vs := [_,_]) C51 ⟨(.r rfl), (.r rfl), trivial⟩ (fun w hw => by have z := At_o o T w (by omega) hrn.1 hB.a.lvl (by omega) (hB.a.sim.inc.imp Int.le_of_lt) hT.1 hT.2 (hO.keep hw); rw [hB.a.ats, ← hAV] at z; exact z) fun xa _ => VO.m rfl rfl<|VO.l (LO.ex (.r rfl) rfl) rfl<|VO.l (LO.ex (.r rfl) rfl) rfl<|VO.a rfl rfl<|VO.a rfl rfl<|VO.n<|VC.q (VO.m rfl rfl<|VO.m rfl rfl<|VO.h rfl<|HO.callx (xs := [_,_]) (vs := [_,_]) C52 ⟨(.r rfl), (.r rfl), trivial⟩ (fun w hw => by have z := dAt_c d _ T w hD.dos hD.inc (hDo.keep hw) hT.1 hT.2; rw [hD.hold, hD.nr, hD.ts, ← hAV] at z; exact z) fun xb _ => VO.m rfl rfl<|VO.l (LO.ex (.r rfl) rfl) rfl<|VO.l (LO.ex (.r rfl) rfl) rfl<|VO.a rfl rfl<|VO.a rfl rfl<|VO.n<|VC.q (VO.m rfl rfl<|VO.m rfl rfl<|VO.l (LO.call (xs := [_,_]) (vs := [_,_]) C24 ⟨(.r rfl), (.r rfl), trivial⟩ (fun w hw => by have z := ints_c xa.1 xb.1 AV AV xa.2 xb.2 w (by rw [hAVl]; omega) (by rw [hAVl]; omega) (own_rows hw 1 rfl) (own_rows hw 0 rfl); rw [decide_eq_true rfl] at z; exact z)) rfl<|VO.m rfl rfl<|VO.gt rfl rfl (fun hg => LO.mv (.r rfl)) rfl<|VO.gt rfl rfl (fun hg => LO.mv (.r rfl)) rfl<|VO.gt rfl rfl (fun hg => LO.eq (.g hg rfl) (.g hg rfl)) rfl<|VO.l (LO.pkA (.r rfl) rfl rfl (.r rfl)) rfl<|VO.a rfl rfl<|VO.n<|VC.ret (VE.s rfl rfl (fun w hw => ?_)))))
      refine ⟨?_, hw.nil⟩
      first | rfl | (simp only [resV]; simp)
     ·
      refine VC.reg (VO.m rfl rfl<|VO.m rfl rfl<|VO.l (LO.call (xs := [_,_]) (vs := [_,_]) C51 ⟨(.r rfl), (.r rfl), trivial⟩ (fun w hw => At_e o T w (by omega) hrn.1 hT (hO.keep hw))) rfl<|VO.m rfl rfl<|VO.l (LO.ex (.r rfl) rfl) rfl<|VO.l (LO.ex (.r rfl) rfl) rfl<|VO.a rfl rfl<|VO.a rfl rfl<|VO.n<|VC.q (VO.m rfl rfl<|VO.m rfl rfl<|VO.l (LO.call (xs := [_,_]) (vs := [_,_]) C52 ⟨(.r rfl), (.r rfl), trivial⟩ (fun w hw => dAt_e d _ T w hD.dos hD.inc (hDo.keep hw) hT)) rfl<|VO.m rfl rfl<|VO.l (LO.ex (.r rfl) rfl) rfl<|VO.l (LO.ex (.r rfl) rfl) rfl<|VO.a rfl rfl<|VO.a rfl rfl<|VO.n<|VC.q (VO.m rfl rfl<|VO.m rfl rfl<|VO.l (LO.call (xs := [_,_]) (vs := [_,_]) C24 ⟨(.r rfl), (.r rfl), trivial⟩ (fun w hw => by have z := ints_c none none [] [] 0 0 w (by decide) (by decide) ints_nil ints_nil; exact z)) rfl<|VO.m rfl rfl<|VO.gt rfl rfl (fun hg => LO.mv (.r rfl)) rfl<|VO.gt rfl rfl (fun hg => LO.mv (.r rfl)) rfl<|VO.gt rfl rfl (fun hg => LO.eq (.g hg rfl) (.g hg rfl)) rfl<|VO.l (LO.pkA (.r rfl) rfl rfl (.r rfl)) rfl<|VO.a rfl rfl<|VO.n<|VC.ret (VE.s rfl rfl (fun w hw => ?_)))))
      refine ⟨?_, hw.nil⟩
      first | rfl | (simp only [resV]; simp)
theorem EA135 : FlatA Tryz.prog 135 7 := ⟨⟨_, Tryz.underlying135, rfl⟩, by kernel_rfl, by kernel_rfl⟩
theorem evs_c (es : List Ev) (pa pb_ : Option Addr) (ca cb : Nat) (w : World) (hn : es.length < 1000000000000) (ha : RO 7 evC w pa es) (hb : RO 7 evC w pb_ es) :
 Calls Tryz.prog 15 #[.slice pa es.length ca, .slice pb_ es.length cb] w fun e w' => e = .returned (.bool true) ∧ St (bs w) [] w' := by
 refine enter (vs := [_,_]) (env := [(0,_), (1,_)]) Tryz.func15 rfl rfl rfl rfl ?_
 refine VC.q (VO.a rfl rfl<|VO.n<|VC.seq<|VC.q (VO.m rfl rfl<|VO.l (LO.len S57 (.r rfl) rfl) rfl<|VO.m rfl rfl<|VO.l (LO.len S60 (.r rfl) rfl) rfl<|VO.u rfl rfl rfl<|VO.n<|VC.cond rfl (fun h10 => ?_) (fun h10 => ?_)))
 · (exfalso; exact h10 rfl)
 ·
  refine VC.skip (VE.seqN<|VC.seq<|VC.q (VO.a rfl rfl<|VO.n<|VC.block<|VC.loopK (α := Nat) 0 (fun gx => [(5, .int .i64 (gx : Nat))]) [(0,_), (1,_)] (fun gx => []) (fun gx => gx ≤ es.length) (fun gx => es.length - gx) 0 (by exact Nat.zero_le _) (.cons rfl (.cons rfl (.cons rfl .nil))) (fun _ h => h) ?_))
  rintro i hi
  refine VC.seq<|VC.q (VO.m rfl rfl<|VO.m rfl rfl<|VO.l (LO.len S57 (.r rfl) rfl) rfl<|VO.t rfl rfl rfl<|VO.n<|VC.cond rfl (fun h14 => ?_) (fun h14 => ?_))
  ·
   refine VC.skip (VE.seqN<|VC.seq<|VC.block<|VC.seq<|VC.draw mixed (LL.m rfl rfl<|LL.m rfl rfl<|LL.l (LO.ixs S57 N84 ha.sm (.r rfl) (.r rfl) rfl (by omega)) rfl<|LL.l (LO.lda (vs := [_,_,_,_,_,_,_]) A84 (.r rfl) (fun w hw => cells_part (off := 0) ((ha.at zEv (j := i) (by omega)) w hw) ⟨_, rfl⟩) rfl) rfl<|LL.m rfl rfl<|LL.m rfl rfl<|LL.l (LO.ixs S60 N135 hb.sm (.r rfl) (.r rfl) rfl (by omega)) rfl<|LL.l (LO.lda (vs := [_,_,_,_,_,_,_]) A135 (.r rfl) (fun w hw => cells_part (off := 0) ((hb.at zEv (j := i) (by omega)) w hw) ⟨_, rfl⟩) rfl) rfl<|LL.l (LO.neA («as» := [_,_,_,_,_,_,_]) (bs := [_,_,_,_,_,_,_]) EA135 (.r rfl) (.r rfl) rfl rfl) rfl<|LL.nil) (by kernel_rfl)<|VE.seqN<|VC.cond rfl (fun h25 => ?_) (fun h25 => ?_))
   · (exfalso; exact h25 rfl)
   ·
    refine VC.skip (VE.inN (VE.seqN<|VC.reg (VO.m rfl rfl<|VO.p rfl rfl (by omega) (by omega) rfl<|VO.a rfl rfl<|VO.nil<|VE.thenN fun a w ha hw => ⟨i + 1, (by omega), (by omega), ha.sub (.cons rfl (.cons rfl (.cons rfl .nil))), hw⟩)))
  ·
   refine VC.exit (VE.thenX (VE.thenX (VE.inX (VE.seqN<|VC.q (VO.a rfl rfl<|VO.n<|VC.ret (VE.s rfl rfl (fun w hw => ?_)))))))
   exact ⟨rfl, hw.nil⟩
end Go.Proofs.YtdjflomhaljljaaGreat
