/-
  TopRained is walked.
  What a reading says of a ray of rain.
-/
import Derived.Test.YtffbohecdocajaaGreatKRA10

set_option linter.unusedSimpArgs false
namespace Go.Proofs.YtffbohecdocajaaGreat
open Go.SL Go.Proofs Go.Pulse
set_option linter.unusedVariables false

theorem F38_3 : FieldAt Tryz.prog 38 3 13 := ⟨_,_, Tryz.underlying38, rfl, rfl, 0, by kernel_rfl⟩
theorem O30 : IsOne Tryz.prog 30 := ⟨⟨_, Tryz.underlying30, rfl⟩, by kernel_rfl⟩
theorem C7 : IsFn Tryz.prog 7 := ⟨_, Tryz.func7, by decide, rfl⟩
theorem F38_0 : FieldAt Tryz.prog 38 0 0 := ⟨_,_, Tryz.underlying38, rfl, rfl, 4, by kernel_rfl⟩
theorem F38_1 : FieldAt Tryz.prog 38 1 5 := ⟨_,_, Tryz.underlying38, rfl, rfl, 3, by kernel_rfl⟩
theorem F38_2 : FieldAt Tryz.prog 38 2 9 := ⟨_,_, Tryz.underlying38, rfl, rfl, 3, by kernel_rfl⟩
theorem F38_4 : FieldAt Tryz.prog 38 4 14 := ⟨_,_, Tryz.underlying38, rfl, rfl, 0, by kernel_rfl⟩
theorem O31 : IsOne Tryz.prog 31 := ⟨⟨_, Tryz.underlying31, rfl⟩, by kernel_rfl⟩
theorem S31 : IsSlice Tryz.prog 31 5 := Tryz.underlying31
theorem N5 : (Tryz.prog.info? 5).map (·.size) = some 1 := by kernel_rfl
theorem I40 : EInfo Tryz.prog 40 1 24 (.slice none 0 0) := ⟨by kernel_rfl, by kernel_rfl, by unfold ZeroOf; kernel_rfl, rfl, by decide⟩
theorem F38_5 : FieldAt Tryz.prog 38 5 15 := ⟨_,_, Tryz.underlying38, rfl, rfl, 0, by kernel_rfl⟩


abbrev b8C (n : Int) : List Value := [.int .u8 n]
structure RnI (w : World) (y : RnA) : Prop where
  rows : SRows w y.pr y.rs
  sl : RO 1 b8C w y.ps y.sl
  x : MdI w y.x
theorem sl_ix {i k n : Nat} : (7 * (i : Int) + (k : Int)).tmod (n : Int) = (((7 * i + k) % n : Nat) : Int) := by
  rw [Int.tmod_eq_emod_of_nonneg (by omega), Int.natCast_emod, show ((7 * i + k : Nat) : Int) = 7 * (i : Int) + (k : Int) by omega]
theorem trRow_1 {y : RnA} {i k : Nat} {l : List Sample} (hk : k < l.length) : (trRow y i l).take (k + 1) = (trRow y i l).take k ++ [trS y i k (l.getD k zSm)] := by
  have e : (trRow y i l).getD k zSm = trS y i k (l.getD k zSm) := by
    unfold trRow; rw [List.getD_eq_getElem?_getD, List.getElem?_map, List.getElem?_range hk]; rfl
  rw [take_at (getD_some (d := zSm) (by rw [trRow_len]; exact hk)), e]
theorem trS_y {y : RnA} {i k : Nat} {s : Sample} (h : (0 : Int) < y.sl.length) : trS y i k s = ⟨min 1023 (max 0 (s.h + ((slAt y i k).tmod (2 * y.r.level + 1) - y.r.level))), s.p, s.v, s.q⟩ := if_neg (fun q => by rw [q] at h; simp at h)
theorem trS_n {y : RnA} {i k : Nat} {s : Sample} (h : ¬ (0 : Int) < y.sl.length) : trS y i k s = s := if_pos (List.length_eq_zero_iff.1 (by omega))
theorem trLs_1 {i : Nat} (f : Nat → List Sample) : (List.range (i + 1)).map f = (List.range i).map f ++ [f i] := by rw [List.range_succ, List.map_append]; rfl
theorem lss_b {ts : List SRow} {B : Nat} {y : RnA} (h : lss ts = trLs y) (hb : ∀ k, k < y.rs.length → (y.rs.getD k zR).l.length ≤ B) : ∀ x ∈ ts, x.l.length ≤ B := fun x hx => by
  have h1 : x.l ∈ lss ts := List.mem_map_of_mem (f := fun x : SRow => x.l) hx
  rw [h] at h1
  unfold trLs at h1
  obtain ⟨j, hj, e⟩ := List.mem_map.1 h1
  rw [← e, trRow_len]
  exact hb j (List.mem_range.1 hj)
theorem rn_smp {y : RnA} (hE : rayE y.t y.r (lss y.rs) = 0) {i : Nat} (hi : i < y.rs.length) : ∀ x ∈ (y.rs.getD i zR).l, smpOk x := by
  have e := (rayE_all hE).2.2 i (by rw [lss_len]; exact hi)
  rw [lss_get] at e
  exact (hear_0 e).2.2.2
theorem all_len {rs : List SRow} {B : Nat} (hz : ∀ k, k < rs.length → (rs.getD k zR).l.length ≤ B) : ∀ x ∈ rs, x.l.length ≤ B := fun x hx => by
  obtain ⟨k, hk, rfl⟩ := mem_getD (d := zR) hx
  exact hz k hk

set_option maxRecDepth 20000 in
set_option maxHeartbeats 16000000 in
theorem TopRained_c (y : RnA) (w : World) (hI : RnI w y) (hk : RnL y) (hrl : y.rs.length ≤ 9223372036854775807) (hll : y.x.m.loss.length ≤ 9223372036854775807) (hrr : y.x.m.rate.length ≤ 9223372036854775807) (hsl : y.sl.length ≤ 9223372036854775807) :
  Calls Tryz.prog 3 #[.agg y.C.toArray] w fun e w' => e = .returned (.bool true) ∧ St (bs w) [] w' := by
  have hd0 := hk.d0
  have hd1 := hk.d1
  have hd2 := hk.d2
  have hd3 := hk.d3
  have hns := hk.ns
  refine enter (vs := [_]) (env := [(0,_)]) Tryz.func3 rfl rfl rfl rfl ?_
  refine VC.seq ?_
  refine VC.reg (VO.h rfl<|HO.box (C := #[_,_,_,_,_,_,_,_,_,_,_,_,_,_,_,_,_,_,_,_,_,_,_,_,_,_,_,_,_]) rfl rfl fun b1 => VO.l (LO.as (.r rfl)) rfl<|VO.nil ?_)
  refine VE.seqN ?_
  refine VC.seq ?_
  refine VC.seq ?_
  refine VC.reg (VO.l (LO.fa (r := 13) F38_3 (.r rfl) rfl) rfl<|VO.l (LO.ld O30 (.r rfl) (fun _ hw => cells_at hw 0 rfl ⟨_, rfl⟩)) rfl<|VO.l (LO.len S30 (.r rfl) rfl) rfl<|VO.l (LO.lt (.r rfl) (.r rfl)) rfl<|VO.l (LO.mv (.r rfl)) rfl<|VO.lg rfl rfl (GD.f _) (fun hg => LO.fa (r := 13) F38_3 (.r rfl) rfl) rfl<|VO.lg rfl rfl (GD.f _) (fun hg => LO.ld O30 (.g hg rfl) (fun _ hw => cells_at hw 0 rfl ⟨_, rfl⟩)) rfl<|VO.lg rfl rfl (GD.f _) (fun hg => LO.len S30 (.g hg rfl) rfl) rfl<|VO.lg rfl rfl (GD.f _) (fun hg => LO.gt (.g hg rfl) (.r rfl)) rfl<|VO.l (LO.pkO (.r rfl) (.r rfl) rfl rfl) rfl<|VO.l (LO.mv (.r rfl)) rfl<|VO.lg rfl rfl (GD.f _) (fun hg => LO.fa (r := 16) F38_6 (.r rfl) rfl) rfl<|VO.lg rfl rfl (GD.f _) (fun hg => LO.fa (r := 16) F35_0 (.g hg rfl) rfl) rfl<|VO.lg rfl rfl (GD.f _) (fun hg => LO.ld O33 (.g hg rfl) (fun _ hw => cells_at hw 0 rfl ⟨_, rfl⟩)) rfl<|VO.lg rfl rfl (GD.f _) (fun hg => LO.len S33 (.g hg rfl) rfl) rfl<|VO.lg rfl rfl (GD.f _) (fun hg => LO.gt (.g hg rfl) (.r rfl)) rfl<|VO.l (LO.pkO (.r rfl) (.r rfl) rfl rfl) rfl<|VO.l (LO.mv (.r rfl)) rfl<|VO.lg rfl rfl (GD.f _) (fun hg => LO.fa (r := 16) F38_6 (.r rfl) rfl) rfl<|VO.lg rfl rfl (GD.f _) (fun hg => LO.fa (r := 17) F35_1 (.g hg rfl) rfl) rfl<|VO.lg rfl rfl (GD.f _) (fun hg => LO.ld O33 (.g hg rfl) (fun _ hw => cells_at hw 0 rfl ⟨_, rfl⟩)) rfl<|VO.lg rfl rfl (GD.f _) (fun hg => LO.len S33 (.g hg rfl) rfl) rfl<|VO.lg rfl rfl (GD.f _) (fun hg => LO.gt (.g hg rfl) (.r rfl)) rfl<|VO.l (LO.pkO (.r rfl) (.r rfl) rfl rfl) rfl<|VO.nil ?_)
  refine VE.seqN ?_
  refine VC.cond rfl (fun h43 => ?_) (fun h43 => ?_)
  ·
    refine VC.seq ?_
    refine VC.reg (VO.l (LO.call (xs := []) (vs := []) C7 trivial (fun w _ => rnWorks_c w)) rfl<|VO.l (LO.as (.r rfl)) rfl<|VO.nil ?_)
    refine VE.seqN ?_
    refine VC.ret (VE.thenR (VE.res (vs := [_]) rfl ⟨rfl, trivial⟩ (fun w hw => ?_)))
    first | exact ⟨rfl, hw.nil⟩ | exact ⟨rfl, hst1.based hw⟩
  ·
    refine VC.skip (VE.seqN ?_)
    refine VC.seq ?_
    refine VC.seq ?_
    refine VC.reg (VO.l (LO.as (.r rfl)) rfl<|VO.nil ?_)
    refine VE.seqN ?_
    refine VC.block ?_
    refine VC.loopK (α := Nat) 0 (fun gx => [(3, .int .i64 (gx : Nat))]) [(1,_)] (fun gx => []) (fun gx => gx ≤ y.rs.length ∧ ∀ k, k < gx → (y.rs.getD k zR).l.length ≤ 64) (fun gx => y.rs.length - gx) 0 (by exact ⟨Nat.zero_le _, fun k hk => by omega⟩) (.cons rfl (.cons rfl .nil)) (fun _ h => h) ?_
    rintro i ⟨hi, hz⟩
    refine VC.seq ?_
    refine VC.seq ?_
    refine VC.reg (VO.l (LO.mv (.r rfl)) rfl<|VO.l (LO.fa (r := 13) F38_3 (.r rfl) rfl) rfl<|VO.l (LO.ld O30 (.r rfl) (fun _ hw => cells_at hw 0 rfl ⟨_, rfl⟩)) rfl<|VO.l (LO.len S30 (.r rfl) rfl) rfl<|VO.l (LO.lt (.r rfl) (.r rfl)) rfl<|VO.nil ?_)
    refine VE.seqN ?_
    refine VC.cond rfl (fun h49 => ?_) (fun h49 => ?_)
    ·
      refine VC.skip (VE.seqN ?_)
      refine VC.seq ?_
      refine VC.block ?_
      refine VC.seq ?_
      have hrow := row_at hI.rows (i := i) (by omega)
      refine VC.reg (VO.l (LO.fa (r := 13) F38_3 (.r rfl) rfl) rfl<|VO.l (LO.ld O30 (.r rfl) (fun _ hw => cells_at hw 0 rfl ⟨_, rfl⟩)) rfl<|VO.l (LO.mv (.r rfl)) rfl<|VO.l (LO.ixs S30 N40 hI.rows.1.sm (.r rfl) (.r rfl) rfl (by omega)) rfl<|VO.l (LO.ld O40 (.r rfl) (fun w hw => cells_part (off := 0) ((hI.rows.1.at zR (j := i) (by omega)) w hw) ⟨_, rfl⟩)) rfl<|VO.l (LO.len S40 (.r rfl) rfl) rfl<|VO.l (LO.gt (.r rfl) (.r rfl)) rfl<|VO.nil ?_)
      refine VE.seqN ?_
      refine VC.cond rfl (fun h58 => ?_) (fun h58 => ?_)
      ·
        refine VC.seq ?_
        refine VC.reg (VO.l (LO.call (xs := []) (vs := []) C7 trivial (fun w _ => rnWorks_c w)) rfl<|VO.l (LO.as (.r rfl)) rfl<|VO.nil ?_)
        refine VE.seqN ?_
        refine VC.ret (VE.inR (VE.thenR (VE.thenR (VE.inR (VE.thenR (VE.res (vs := [_]) rfl ⟨rfl, trivial⟩ (fun w hw => ?_)))))))
        first | exact ⟨rfl, hw.nil⟩ | exact ⟨rfl, hst1.based hw⟩
      ·
        refine VC.skip (VE.inN (VE.seqN ?_))
        refine VC.reg (VO.l (LO.mv (.r rfl)) rfl<|VO.l (LO.add (.r rfl) (.r rfl) (wi (by omega) (by omega))) rfl<|VO.l (LO.as (.r rfl)) rfl<|VO.nil ?_)
        refine VE.thenN fun a w ha hw => ⟨i + 1, ⟨by omega, all_step2 (f := fun k => (y.rs.getD k zR).l.length ≤ 64) hz (by omega)⟩, (by omega), ha.sub (.cons rfl (.cons rfl .nil)), hw⟩
    ·
      refine VC.exit (VE.thenX (VE.thenX (VE.inX (VE.seqN ?_))))
      refine VC.seq ?_
      have hz64 : ∀ k, k < y.rs.length → (y.rs.getD k zR).l.length ≤ 64 := fun k hk => hz k (by omega)
      have hsm := all_len hz64
      clear hz
      have hl1 : y.x.m.loss.length < 1000000000000000000 := by omega
      have hl2 : y.x.m.rate.length < 1000000000000000000 := by omega
      refine VC.reg (VO.l (LO.fa (r := 0) F38_0 (.r rfl) rfl) rfl<|VO.l (LO.lda (vs := [_,_,_,_,_]) A23 (.r rfl) (fun _ hw => cells_at hw 0 rfl ⟨_, rfl⟩) rfl) rfl<|VO.l (LO.fa (r := 5) F38_1 (.r rfl) rfl) rfl<|VO.l (LO.lda (vs := [_,_,_,_]) A27 (.r rfl) (fun _ hw => cells_at hw 0 rfl ⟨_, rfl⟩) rfl) rfl<|VO.l (LO.fa (r := 13) F38_3 (.r rfl) rfl) rfl<|VO.l (LO.ld O30 (.r rfl) (fun _ hw => cells_at hw 0 rfl ⟨_, rfl⟩)) rfl<|VO.h rfl<|HO.callx (xs := [_,_,_]) (vs := [_,_,_]) C8 ⟨(.r rfl), (.r rfl), (.r rfl), trivial⟩ (fun w hw => Ray_c y.t y.r y.rs y.pr y.cr w (by omega) (fun x hx => by have := hsm x hx; omega) (hI.rows.keep w hw)) fun xh _ => VO.h rfl<|HO.lo (LO.mv (.r rfl))<|VO.h rfl<|HO.lo (LO.ex (.r rfl) rfl)<|VO.h rfl<|HO.lo (LO.ex (.r rfl) rfl)<|VO.h rfl<|HO.lo (LO.as (.r rfl))<|VO.h rfl<|HO.lo (LO.as (.r rfl))<|VO.nil ?_)
      refine VE.seqN ?_
      refine VC.seq ?_
      refine VC.seq ?_
      refine VC.reg (VO.l (LO.mv (.r rfl)) rfl<|VO.l (LO.ne (.r rfl) (.r rfl)) rfl<|VO.nil ?_)
      refine VE.seqN ?_
      refine VC.cond rfl (fun h71 => ?_) (fun h71 => ?_)
      ·
        refine VC.seq ?_
        refine VC.reg (VO.l (LO.call (xs := []) (vs := []) C7 trivial (fun w _ => rnWorks_c w)) rfl<|VO.l (LO.as (.r rfl)) rfl<|VO.nil ?_)
        refine VE.seqN ?_
        refine VC.ret (VE.thenR (VE.res (vs := [_]) rfl ⟨rfl, trivial⟩ (fun w hw => ?_)))
        first | exact ⟨rfl, hw.nil⟩ | exact ⟨rfl, hst1.based hw⟩
      ·
        refine VC.skip (VE.seqN ?_)
        refine VC.seq ?_
        have hE := Classical.not_not.1 h71
        have hn0 : (rayX y.t y.r (lss y.rs)).length = y.rs.length := by rw [rayX_n hE, lss_len]
        have hx0 := ray_ech hE
        refine VC.reg (VO.l (LO.lda (vs := [_,_,_,_,_,_,_,_,_,_,_,_,_,_,_,_,_,_,_,_,_,_,_,_,_,_,_,_,_]) A38 (.r rfl) (fun _ hw => cells_at hw 1 rfl ⟨_, rfl⟩) rfl) rfl<|VO.l (LO.mv (.r rfl)) rfl<|VO.h rfl<|HO.callx (xs := [_,_]) (vs := [_,_]) C9 ⟨(.r rfl), (.r rfl), trivial⟩ (fun w hw => rnRates_c y (rayX y.t y.r (lss y.rs)) _ _ w hl1 hl2 (MdI.mk (hI.x.l.keep w hw) (hI.x.r.keep w hw)) hk.k (hk.k.ry (by rw [hn0]; omega) hx0) (RO.of_own hw 0 rfl) (own_capS hw 0 rfl)) fun xw _ => VO.h rfl<|HO.lo (LO.mv (.r rfl))<|VO.h rfl<|HO.lo (LO.ex (.r rfl) rfl)<|VO.h rfl<|HO.lo (LO.ex (.r rfl) rfl)<|VO.h rfl<|HO.lo (LO.as (.r rfl))<|VO.h rfl<|HO.lo (LO.as (.r rfl))<|VO.nil ?_)
        refine VE.seqN ?_
        refine VC.seq ?_
        refine VC.seq ?_
        refine VC.reg (VO.l (LO.mv (.r rfl)) rfl<|VO.l (LO.fa (r := 16) F38_6 (.r rfl) rfl) rfl<|VO.l (LO.lda (vs := [_,_,_,_,_,_,_,_]) A35 (.r rfl) (fun _ hw => cells_at hw 2 rfl ⟨_, rfl⟩) rfl) rfl<|VO.l (LO.call (xs := [_]) (vs := [_]) C10 ⟨(.r rfl), trivial⟩ (fun w hw => CheckModel_c y.x w hl1 hl2 (MdI.mk (hI.x.l.keep w hw) (hI.x.r.keep w hw)))) rfl<|VO.l (LO.ne (.r rfl) (.r rfl)) rfl<|VO.nil ?_)
        refine VE.seqN ?_
        refine VC.cond rfl (fun h83 => ?_) (fun h83 => ?_)
        ·
          (exfalso; exact h83 rfl)
        ·
          refine VC.skip (VE.seqN ?_)
          refine VC.seq ?_
          refine VC.seq ?_
          refine VC.reg (VO.l (LO.mv (.r rfl)) rfl<|VO.l (LO.ne (.r rfl) (.r rfl)) rfl<|VO.nil ?_)
          refine VE.seqN ?_
          refine VC.cond rfl (fun h85 => ?_) (fun h85 => ?_)
          ·
            refine VC.seq ?_
            refine VC.reg (VO.l (LO.call (xs := []) (vs := []) C7 trivial (fun w _ => rnWorks_c w)) rfl<|VO.l (LO.as (.r rfl)) rfl<|VO.nil ?_)
            refine VE.seqN ?_
            refine VC.ret (VE.thenR (VE.res (vs := [_]) rfl ⟨rfl, trivial⟩ (fun w hw => ?_)))
            first | exact ⟨rfl, hw.nil⟩ | exact ⟨rfl, hst1.based hw⟩
          ·
            refine VC.skip (VE.seqN ?_)
            refine VC.seq ?_
            have hm0 := Classical.not_not.1 h85
            have h16 : 1 ≤ y.rs.length ∧ y.rs.length ≤ 6 := by omega
            have hrv := rn_recv h16.1 hE
            have hrv2 := hrv
            unfold recvOk at hrv2
            have hP1 := rn_better hk h16.1 hE
            have hP2 := rn_truth hk h16.1 hE
            have hin0 := rn_in hk h16 hm0 hE ⟨hE, hn0, hx0, fun j hj => by have := ech_pow (hx0 _ (getD_mem (d := zE) hj)); exact ⟨this.2.1, Int.le_refl _, Int.le_refl _⟩⟩
            have hw1 := hin0.1
            obtain ⟨hc1, hc2⟩ := rn_in hk h16 hm0 hE hP1
            obtain ⟨hd1_, hd2_⟩ := rn_in hk h16 hm0 hE hP2
            refine VC.reg (VO.l (LO.fa (r := 5) F38_1 (.r rfl) rfl) rfl<|VO.l (LO.fa (r := 5) F27_0 (.r rfl) rfl) rfl<|VO.l (LO.ld O3 (.r rfl) (fun _ hw => cells_at hw 2 rfl ⟨_, rfl⟩)) rfl<|VO.l (LO.fa (r := 9) F38_2 (.r rfl) rfl) rfl<|VO.l (LO.ixa (j := 0) (r := 9) Tryz.underlying29 N28 (.r rfl) (.r rfl) rfl (by decide) rfl) rfl<|VO.l (LO.ld O28 (.r rfl) (fun _ hw => cells_at hw 2 rfl ⟨_, rfl⟩)) rfl<|VO.l (LO.cv ⟨_, Tryz.underlying28⟩ Tryz.underlying3 (.r rfl) (wi (by omega) (by omega))) rfl<|VO.l (LO.sub (.r rfl) (.r rfl) (wi (by omega) (by omega))) rfl<|VO.l (LO.max (.r rfl) (.r rfl)) rfl<|VO.l (LO.fa (r := 5) F38_1 (.r rfl) rfl) rfl<|VO.l (LO.fa (r := 6) F27_1 (.r rfl) rfl) rfl<|VO.l (LO.ld O3 (.r rfl) (fun _ hw => cells_at hw 2 rfl ⟨_, rfl⟩)) rfl<|VO.l (LO.fa (r := 9) F38_2 (.r rfl) rfl) rfl<|VO.l (LO.ixa (j := 1) (r := 10) Tryz.underlying29 N28 (.r rfl) (.r rfl) rfl (by decide) rfl) rfl<|VO.l (LO.ld O28 (.r rfl) (fun _ hw => cells_at hw 2 rfl ⟨_, rfl⟩)) rfl<|VO.l (LO.cv ⟨_, Tryz.underlying28⟩ Tryz.underlying3 (.r rfl) (wi (by omega) (by omega))) rfl<|VO.l (LO.sub (.r rfl) (.r rfl) (wi (by omega) (by omega))) rfl<|VO.l (LO.max (.r rfl) (.r rfl)) rfl<|VO.l (LO.bd (ps := [(_,_), (_,_)]) (vs := [(_,_), (_,_)]) (C := [_,_,_,_]) B27  ⟨(.r rfl), (.r rfl), trivial⟩ rfl ⟨_, [_], [_,_,_,_], rfl, rfl, rfl, rfl, ⟨_, [_], [_,_,_,_], rfl, rfl, rfl, rfl, rfl⟩⟩) rfl<|VO.h rfl<|HO.alloc (C := #[_,_,_,_]) Z27 rfl fun b4 => VO.h0<|HO.st 0 (vs := [_,_,_,_]) (C' := [_,_,_,_]) (L' := [_,_,_,_]) N27 rfl rfl rfl rfl rfl rfl rfl rfl<|VO.nil ?_)
            refine VE.seqN ?_
            refine VC.seq ?_
            refine VC.reg (VO.l (LO.fa (r := 5) F38_1 (.r rfl) rfl) rfl<|VO.l (LO.fa (r := 7) F27_2 (.r rfl) rfl) rfl<|VO.l (LO.fa (r := 8) F25_1 (.r rfl) rfl) rfl<|VO.l (LO.ld O3 (.r rfl) (fun _ hw => cells_at hw 3 rfl ⟨_, rfl⟩)) rfl<|VO.l (LO.fa (r := 5) F38_1 (.r rfl) rfl) rfl<|VO.l (LO.fa (r := 7) F27_2 (.r rfl) rfl) rfl<|VO.l (LO.fa (r := 7) F25_0 (.r rfl) rfl) rfl<|VO.l (LO.ld O3 (.r rfl) (fun _ hw => cells_at hw 3 rfl ⟨_, rfl⟩)) rfl<|VO.l (LO.fa (r := 9) F38_2 (.r rfl) rfl) rfl<|VO.l (LO.ixa (j := 2) (r := 11) Tryz.underlying29 N28 (.r rfl) (.r rfl) rfl (by decide) rfl) rfl<|VO.l (LO.ld O28 (.r rfl) (fun _ hw => cells_at hw 3 rfl ⟨_, rfl⟩)) rfl<|VO.l (LO.cv ⟨_, Tryz.underlying28⟩ Tryz.underlying3 (.r rfl) (wi (by omega) (by omega))) rfl<|VO.l (LO.add (.r rfl) (.r rfl) (wi (by omega) (by omega))) rfl<|VO.l (LO.min (.r rfl) (.r rfl)) rfl<|VO.l (LO.fa (r := 2) F27_2 (.r rfl) rfl) rfl<|VO.l (LO.fa (r := 2) F25_0 (.r rfl) rfl) rfl<|VO.h0<|HO.st 0 (vs := [_]) (C' := [_,_,_,_]) (L' := [_,_,_,_]) N3 rfl rfl rfl rfl rfl rfl rfl rfl<|VO.nil ?_)
            refine VE.seqN ?_
            refine VC.weak (env' := [(1,_), (4,_), (6,_), (7,_)]) (.cons rfl (.cons rfl (.cons rfl (.cons rfl .nil)))) (fun _ h => h) ?_
            refine VC.seq ?_
            refine VC.reg (VO.l (LO.fa (r := 2) F27_2 (.r rfl) rfl) rfl<|VO.l (LO.fa (r := 2) F25_0 (.r rfl) rfl) rfl<|VO.l (LO.ld O3 (.r rfl) (fun _ hw => cells_at hw 0 rfl ⟨_, rfl⟩)) rfl<|VO.l (LO.fa (r := 5) F38_1 (.r rfl) rfl) rfl<|VO.l (LO.fa (r := 7) F27_2 (.r rfl) rfl) rfl<|VO.l (LO.fa (r := 8) F25_1 (.r rfl) rfl) rfl<|VO.l (LO.ld O3 (.r rfl) (fun _ hw => cells_at hw 3 rfl ⟨_, rfl⟩)) rfl<|VO.l (LO.fa (r := 9) F38_2 (.r rfl) rfl) rfl<|VO.l (LO.ixa (j := 3) (r := 12) Tryz.underlying29 N28 (.r rfl) (.r rfl) rfl (by decide) rfl) rfl<|VO.l (LO.ld O28 (.r rfl) (fun _ hw => cells_at hw 3 rfl ⟨_, rfl⟩)) rfl<|VO.l (LO.cv ⟨_, Tryz.underlying28⟩ Tryz.underlying3 (.r rfl) (wi (by omega) (by omega))) rfl<|VO.l (LO.sub (.r rfl) (.r rfl) (wi (by omega) (by omega))) rfl<|VO.l (LO.max (.r rfl) (.r rfl)) rfl<|VO.l (LO.fa (r := 2) F27_2 (.r rfl) rfl) rfl<|VO.l (LO.fa (r := 3) F25_1 (.r rfl) rfl) rfl<|VO.h0<|HO.st 0 (vs := [_]) (C' := [_,_,_,_]) (L' := [_,_,_,_]) N3 rfl rfl rfl rfl rfl rfl rfl rfl<|VO.nil ?_)
            refine VE.seqN ?_
            refine VC.seq ?_
            refine VC.reg (VO.l (LO.as (.r rfl)) rfl<|VO.nil ?_)
            refine VE.seqN ?_
            refine VC.seq ?_
            refine VC.seq ?_
            refine VC.reg (VO.l (LO.as (.r rfl)) rfl<|VO.nil ?_)
            refine VE.seqN ?_
            refine VC.block ?_
            refine VC.loopK (α := Nat × (List SRow) × (Option Addr) × Nat) 0 (fun gx => [(8, .slice gx.2.2.1 gx.2.1.length gx.2.2.2), (9, .int .i64 (gx.1 : Nat))]) [(1,_), (4,_), (6,_), (7,_)] (fun gx => [own 40 1 gx.2.2.1 gx.2.2.2 (gx.2.1.map rowC), bagR 50 4 smpC gx.2.1]) (fun gx => gx.1 ≤ y.rs.length ∧ lss gx.2.1 = (List.range gx.1).map fun q_ => trRow y q_ (y.rs.getD q_ zR).l) (fun gx => y.rs.length - gx.1) (0, [], none, 0) (by exact ⟨Nat.zero_le _, rfl⟩) (.cons rfl (.cons rfl (.cons rfl (.cons rfl (.cons rfl (.cons rfl .nil)))))) (fun _ h => ((h.bagRNil 50 4 smpC).ownNil 40 1)) ?_
            rintro ⟨i, ts, pt, ct⟩ ⟨hi, hT⟩
            show VC _ _ _ _ _ ([(8, .slice pt ts.length ct), (9, .int .i64 (i : Nat))] ++ _) ([own 40 1 pt ct (ts.map rowC), bagR 50 4 smpC ts] ++ _) _ _
            dsimp only at hi hT
            have htl : ts.length = i := by rw [← lss_len, hT, List.length_map, List.length_range]
            refine VC.seq ?_
            refine VC.seq ?_
            refine VC.reg (VO.l (LO.mv (.r rfl)) rfl<|VO.l (LO.fa (r := 13) F38_3 (.r rfl) rfl) rfl<|VO.l (LO.ld O30 (.r rfl) (fun _ hw => cells_at hw 5 rfl ⟨_, rfl⟩)) rfl<|VO.l (LO.len S30 (.r rfl) rfl) rfl<|VO.l (LO.lt (.r rfl) (.r rfl)) rfl<|VO.nil ?_)
            refine VE.seqN ?_
            refine VC.cond rfl (fun h141 => ?_) (fun h141 => ?_)
            ·
              refine VC.skip (VE.seqN ?_)
              refine VC.seq ?_
              refine VC.block ?_
              refine VC.seq ?_
              have hrow := row_at hI.rows (i := i) (by omega)
              have hr64 := hz64 i (by omega)
              refine VC.reg (VO.l (LO.as (.r rfl)) rfl<|VO.nil ?_)
              refine VE.seqN ?_
              refine VC.seq ?_
              refine VC.seq ?_
              refine VC.reg (VO.l (LO.as (.r rfl)) rfl<|VO.nil ?_)
              refine VE.seqN ?_
              refine VC.block ?_
              refine VC.loopK (α := Nat × (List Sample) × (Option Addr) × Nat) 0 (fun gx => [(10, .slice gx.2.2.1 gx.2.1.length gx.2.2.2), (11, .int .i64 (gx.1 : Nat))]) [(1,_), (4,_), (6,_), (7,_), (8,_), (9,_)] (fun gx => [own 50 4 gx.2.2.1 gx.2.2.2 (gx.2.1.map smpC)]) (fun gx => gx.1 ≤ (y.rs.getD i zR).l.length ∧ gx.2.1 = (trRow y i (y.rs.getD i zR).l).take gx.1) (fun gx => (y.rs.getD i zR).l.length - gx.1) (0, [], none, 0) (by exact ⟨Nat.zero_le _, rfl⟩) (.cons rfl (.cons rfl (.cons rfl (.cons rfl (.cons rfl (.cons rfl (.cons rfl (.cons rfl .nil)))))))) (fun _ h => (h.ownNil 50 4)) ?_
              rintro ⟨k, row_, pq, cq⟩ ⟨hk2, hR⟩
              show VC _ _ _ _ _ ([(10, .slice pq row_.length cq), (11, .int .i64 (k : Nat))] ++ _) ([own 50 4 pq cq (row_.map smpC)] ++ _) _ _
              dsimp only at hk2 hR
              have hrw : row_.length = k := by rw [hR, List.length_take, trRow_len]; omega
              refine VC.seq ?_
              refine VC.seq ?_
              refine VC.reg (VO.l (LO.mv (.r rfl)) rfl<|VO.l (LO.fa (r := 13) F38_3 (.r rfl) rfl) rfl<|VO.l (LO.ld O30 (.r rfl) (fun _ hw => cells_at hw 6 rfl ⟨_, rfl⟩)) rfl<|VO.l (LO.mv (.r rfl)) rfl<|VO.l (LO.ixs S30 N40 hI.rows.1.sm (.r rfl) (.r rfl) rfl (by omega)) rfl<|VO.l (LO.ld O40 (.r rfl) (fun w hw => cells_part (off := 0) ((hI.rows.1.at zR (j := i) (by omega)) w hw) ⟨_, rfl⟩)) rfl<|VO.l (LO.len S40 (.r rfl) rfl) rfl<|VO.l (LO.lt (.r rfl) (.r rfl)) rfl<|VO.nil ?_)
              refine VE.seqN ?_
              refine VC.cond rfl (fun h151 => ?_) (fun h151 => ?_)
              ·
                refine VC.skip (VE.seqN ?_)
                refine VC.seq ?_
                refine VC.block ?_
                refine VC.seq ?_
                have hsk := rn_smp hE (i := i) (by omega) _ (getD_mem (d := zSm) (show k < (y.rs.getD i zR).l.length by omega))
                unfold smpOk at hsk
                refine VC.reg (VO.l (LO.fa (r := 13) F38_3 (.r rfl) rfl) rfl<|VO.l (LO.ld O30 (.r rfl) (fun _ hw => cells_at hw 6 rfl ⟨_, rfl⟩)) rfl<|VO.l (LO.mv (.r rfl)) rfl<|VO.l (LO.ixs S30 N40 hI.rows.1.sm (.r rfl) (.r rfl) rfl (by omega)) rfl<|VO.l (LO.ld O40 (.r rfl) (fun w hw => cells_part (off := 0) ((hI.rows.1.at zR (j := i) (by omega)) w hw) ⟨_, rfl⟩)) rfl<|VO.l (LO.mv (.r rfl)) rfl<|VO.l (LO.ixs S40 N50 hrow.2.sm (.r rfl) (.r rfl) rfl (by omega)) rfl<|VO.l (LO.lda (vs := [_,_,_,_]) A50 (.r rfl) (fun w hw => cells_part (off := 0) ((hrow.2.at zSm (j := k) (by omega)) w hw) ⟨_, rfl⟩) rfl) rfl<|VO.h rfl<|HO.alloc (C := #[_,_,_,_]) Z50 rfl fun b11 => VO.h0<|HO.st 0 (vs := [_,_,_,_]) (C' := [_,_,_,_]) (L' := [_,_,_,_,_,_,_,_]) N50 rfl rfl rfl rfl rfl rfl rfl rfl<|VO.nil ?_)
                refine VE.seqN ?_
                refine VC.seq ?_
                refine VC.seq ?_
                refine VC.reg (VO.l (LO.fa (r := 14) F38_4 (.r rfl) rfl) rfl<|VO.l (LO.ld O31 (.r rfl) (fun _ hw => cells_at hw 7 rfl ⟨_, rfl⟩)) rfl<|VO.l (LO.len S31 (.r rfl) rfl) rfl<|VO.l (LO.gt (.r rfl) (.r rfl)) rfl<|VO.nil ?_)
                refine VE.seqN ?_
                refine VC.cond rfl (fun h165 => ?_) (fun h165 => ?_)
                ·
                  refine VC.seq ?_
                  have hsb := slAt_bd hk i k
                  unfold slAt at hsb
                  have hmd := tmd (n := 2 * y.r.level + 1) hsb.1 (by omega)
                  refine VC.draw mixed (LL.l (LO.fa (r := 14) F38_4 (.r rfl) rfl) rfl<|LL.l (LO.ld O31 (.r rfl) (fun _ hw => cells_at hw 7 rfl ⟨_, rfl⟩)) rfl<|LL.l (LO.mv (.r rfl)) rfl<|LL.l (LO.mul (.r rfl) (.r rfl) (wi (by omega) (by omega))) rfl<|LL.l (LO.mv (.r rfl)) rfl<|LL.l (LO.add (.r rfl) (.r rfl) (wi (by omega) (by omega))) rfl<|LL.l (LO.fa (r := 14) F38_4 (.r rfl) rfl) rfl<|LL.l (LO.ld O31 (.r rfl) (fun _ hw => cells_at hw 7 rfl ⟨_, rfl⟩)) rfl<|LL.l (LO.len S31 (.r rfl) rfl) rfl<|LL.l (LO.rem (.r rfl) (.r rfl) (by omega)) rfl<|LL.l (LO.ixs S31 N5 hI.sl.sm (.r rfl) (.r rfl) sl_ix (Nat.mod_lt _ (by omega))) rfl<|LL.l (LO.ld O5 (.r rfl) (fun w hw => cells_part (off := 0) ((hI.sl.at (0 : Int) (j := ((7 * i + k) % y.sl.length)) (Nat.mod_lt _ (by omega))) w hw) ⟨_, rfl⟩)) rfl<|LL.l (LO.cv ⟨_, Tryz.underlying5⟩ Tryz.underlying3 (.r rfl) (wi (by omega) (by omega))) rfl<|LL.l (LO.fa (r := 5) F38_1 (.r rfl) rfl) rfl<|LL.l (LO.fa (r := 5) F27_0 (.r rfl) rfl) rfl<|LL.l (LO.ld O3 (.r rfl) (fun _ hw => cells_at hw 7 rfl ⟨_, rfl⟩)) rfl<|LL.l (LO.mul (.r rfl) (.r rfl) (wi (by omega) (by omega))) rfl<|LL.l (LO.add (.r rfl) (.r rfl) (wi (by omega) (by omega))) rfl<|LL.l (LO.rem (.r rfl) (.r rfl) (by omega)) rfl<|LL.l (LO.fa (r := 5) F38_1 (.r rfl) rfl) rfl<|LL.l (LO.fa (r := 5) F27_0 (.r rfl) rfl) rfl<|LL.l (LO.ld O3 (.r rfl) (fun _ hw => cells_at hw 7 rfl ⟨_, rfl⟩)) rfl<|LL.l (LO.sub (.r rfl) (.r rfl) (wi (by omega) (by omega))) rfl<|LL.l (LO.as (.r rfl)) rfl<|LL.nil) (by kernel_rfl) ?_
                  refine VE.seqN ?_
                  refine VC.reg (VO.l (LO.fa (r := 0) F50_0 (.r rfl) rfl) rfl<|VO.l (LO.ld O3 (.r rfl) (fun _ hw => cells_at hw 0 rfl ⟨_, rfl⟩)) rfl<|VO.l (LO.mv (.r rfl)) rfl<|VO.l (LO.add (.r rfl) (.r rfl) (wi (by omega) (by omega))) rfl<|VO.l (LO.max (.r rfl) (.r rfl)) rfl<|VO.l (LO.min (.r rfl) (.r rfl)) rfl<|VO.l (LO.fa (r := 0) F50_0 (.r rfl) rfl) rfl<|VO.h0<|HO.st 0 (vs := [_]) (C' := [_,_,_,_]) (L' := [_,_,_,_,_,_,_,_]) N3 rfl rfl rfl rfl rfl rfl rfl rfl<|VO.nil ?_)
                  refine VE.seqN ?_
                  refine VC.reg (VO.l (LO.mv (.r rfl)) rfl<|VO.l (LO.lda (vs := [_,_,_,_]) A50 (.r rfl) (fun _ hw => cells_at hw 0 rfl ⟨_, rfl⟩) rfl) rfl<|VO.h rfl<|HO.bs (ps := [(_,_)]) (vs := [(_,_)]) (Z := [_,_,_,_]) (C := [_,_,_,_]) S40 Z50 N50 ⟨(.r rfl), trivial⟩ rfl rfl rfl rfl ⟨_, [_,_,_,_], [_,_,_,_], rfl, rfl, rfl, rfl, rfl⟩ fun b14 => VO.h rfl<|HO.appT ((⟨min 1023 (max 0 (((y.rs.getD i zR).l.getD k zSm).h + ((slAt y i k).tmod (2 * y.r.level + 1) - y.r.level))), ((y.rs.getD i zR).l.getD k zSm).p, ((y.rs.getD i zR).l.getD k zSm).v, ((y.rs.getD i zR).l.getD k zSm).q⟩ : Sample)) 2 0 (fun R => [_,_, R,_,_,_,_,_,_]) S40 S40 I50 (.r rfl) (.r rfl) rfl rfl rfl rfl rfl rfl rfl (fun _ => rfl) rfl (by omega) fun p3 c3 => VO.h rfl<|HO.lo (LO.as (.r rfl))<|VO.nil ?_)
                  refine VE.inN (VE.seqN ?_)
                  refine VC.weak (env' := [(1,_), (4,_), (6,_), (7,_), (8,_), (9,_), (10,_), (11,_)]) (.cons rfl (.cons rfl (.cons rfl (.cons rfl (.cons rfl (.cons rfl (.cons rfl (.cons rfl .nil)))))))) (fun _ h => h) ?_
                  refine VC.reg (VO.l (LO.mv (.r rfl)) rfl<|VO.l (LO.add (.r rfl) (.r rfl) (wi (by omega) (by omega))) rfl<|VO.l (LO.as (.r rfl)) rfl<|VO.nil ?_)
                  refine VE.thenN fun a w ha hw => ⟨(k + 1, row_ ++ [(⟨min 1023 (max 0 (((y.rs.getD i zR).l.getD k zSm).h + ((slAt y i k).tmod (2 * y.r.level + 1) - y.r.level))), ((y.rs.getD i zR).l.getD k zSm).p, ((y.rs.getD i zR).l.getD k zSm).v, ((y.rs.getD i zR).l.getD k zSm).q⟩ : Sample)], p3, c3), ⟨by dsimp only; omega, by dsimp only; rw [trRow_1 (by omega), ← hR, trS_y h165]⟩, (by dsimp only; omega), ha.sub (.cons rfl (.cons rfl (.cons rfl (.cons rfl (.cons rfl (.cons rfl (.cons rfl (.cons rfl .nil)))))))), hw.sel [2,3,4,5,6,7,8] rfl⟩
                ·
                  refine VC.skip (VE.seqN ?_)
                  refine VC.reg (VO.l (LO.mv (.r rfl)) rfl<|VO.l (LO.lda (vs := [_,_,_,_]) A50 (.r rfl) (fun _ hw => cells_at hw 0 rfl ⟨_, rfl⟩) rfl) rfl<|VO.h rfl<|HO.bs (ps := [(_,_)]) (vs := [(_,_)]) (Z := [_,_,_,_]) (C := [_,_,_,_]) S40 Z50 N50 ⟨(.r rfl), trivial⟩ rfl rfl rfl rfl ⟨_, [_,_,_,_], [_,_,_,_], rfl, rfl, rfl, rfl, rfl⟩ fun b15 => VO.h rfl<|HO.appT (((y.rs.getD i zR).l.getD k zSm)) 2 0 (fun R => [_,_, R,_,_,_,_,_,_]) S40 S40 I50 (.r rfl) (.r rfl) rfl rfl rfl rfl rfl rfl rfl (fun _ => rfl) rfl (by omega) fun p3 c3 => VO.h rfl<|HO.lo (LO.as (.r rfl))<|VO.nil ?_)
                  refine VE.inN (VE.seqN ?_)
                  refine VC.reg (VO.l (LO.mv (.r rfl)) rfl<|VO.l (LO.add (.r rfl) (.r rfl) (wi (by omega) (by omega))) rfl<|VO.l (LO.as (.r rfl)) rfl<|VO.nil ?_)
                  refine VE.thenN fun a w ha hw => ⟨(k + 1, row_ ++ [((y.rs.getD i zR).l.getD k zSm)], p3, c3), ⟨by dsimp only; omega, by dsimp only; rw [trRow_1 (by omega), ← hR, trS_n h165]⟩, (by dsimp only; omega), ha.sub (.cons rfl (.cons rfl (.cons rfl (.cons rfl (.cons rfl (.cons rfl (.cons rfl (.cons rfl .nil)))))))), hw.sel [2,3,4,5,6,7,8] rfl⟩
              ·
                refine VC.exit (VE.thenX (VE.thenX (VE.inX (VE.seqN ?_))))
                have hkl : k = (y.rs.getD i zR).l.length := by omega
                have hrowE : row_ = trRow y i (y.rs.getD i zR).l := by rw [hR, hkl]; exact List.take_of_length_le (by rw [trRow_len]; exact Nat.le_refl _)
                refine VC.reg (VO.l (LO.mv (.r rfl)) rfl<|VO.l (LO.mv (.r rfl)) rfl<|VO.h rfl<|HO.bs (ps := [(_,_)]) (vs := [(_,_)]) (Z := [_]) (C := [_]) S30 Z40 N40 ⟨(.r rfl), trivial⟩ rfl rfl rfl rfl ⟨_, [_], [_], rfl, rfl, rfl, rfl, rfl⟩ fun b16 => VO.h rfl<|HO.appT ((⟨pq, cq, row_⟩ : SRow)) 2 0 (fun R => [_,_, R,_,_,_,_,_]) S30 S30 I40 (.r rfl) (.r rfl) rfl rfl rfl rfl rfl rfl rfl (fun _ => rfl) rfl (by omega) fun p3 c3 => VO.h rfl<|HO.lo (LO.as (.r rfl))<|VO.nil ?_)
                refine VE.inN (VE.seqN ?_)
                refine VC.reg (VO.l (LO.mv (.r rfl)) rfl<|VO.l (LO.add (.r rfl) (.r rfl) (wi (by omega) (by omega))) rfl<|VO.l (LO.as (.r rfl)) rfl<|VO.nil ?_)
                refine VE.thenN fun a w ha hw => ⟨(i + 1, ts ++ [(⟨pq, cq, row_⟩ : SRow)], p3, c3), ⟨by dsimp only; omega, by dsimp only; rw [lss_app, hT, trLs_1, ← hrowE]; rfl⟩, (by dsimp only; omega), ha.sub (.cons rfl (.cons rfl (.cons rfl (.cons rfl (.cons rfl (.cons rfl .nil)))))), (((hw.sel [1,3,2,4,5,6,7] rfl).bagRIn (x := (⟨pq, cq, row_⟩ : SRow))).sel [1,0,2,3,4,5] rfl)⟩
            ·
              refine VC.exit (VE.thenX (VE.thenX (VE.inX (VE.seqN ?_))))
              refine VC.seq ?_
              have hil : i = y.rs.length := by omega
              have hTL : lss ts = trLs y := by rw [hT, hil]; rfl
              have hsm2 := lss_b hTL hz64
              have hptb := pt_bd hk hrv
              have hmd2 := tmd (n := y.r.nhi - y.r.nlo + 1) hns.1 (by omega)
              refine VC.reg (VO.l (LO.fa (r := 0) F38_0 (.r rfl) rfl) rfl<|VO.l (LO.lda (vs := [_,_,_,_,_]) A23 (.r rfl) (fun _ hw => cells_at hw 5 rfl ⟨_, rfl⟩) rfl) rfl<|VO.l (LO.lda (vs := [_,_,_,_]) A27 (.r rfl) (fun _ hw => cells_at hw 2 rfl ⟨_, rfl⟩) rfl) rfl<|VO.l (LO.fa (r := 13) F38_3 (.r rfl) rfl) rfl<|VO.l (LO.ld O30 (.r rfl) (fun _ hw => cells_at hw 5 rfl ⟨_, rfl⟩)) rfl<|VO.h rfl<|HO.callx (xs := [_,_,_]) (vs := [_,_,_]) C8 ⟨(.r rfl), (.r rfl), (.r rfl), trivial⟩ (fun w hw => Ray_c y.t (rB y.r y.d0 y.d1 y.d2 y.d3) y.rs y.pr y.cr w (by omega) (fun x hx => by have := hsm x hx; omega) (hI.rows.keep w hw)) fun xa _ => VO.h rfl<|HO.lo (LO.mv (.r rfl))<|VO.h rfl<|HO.lo (LO.ex (.r rfl) rfl)<|VO.h rfl<|HO.lo (LO.ex (.r rfl) rfl)<|VO.h rfl<|HO.lo (LO.as (.r rfl))<|VO.h rfl<|HO.lo (LO.as (.r rfl))<|VO.nil ?_)
              refine VE.seqN ?_
              refine VC.seq ?_
              refine VC.drawCat 26 mixed (by kernel_rfl) (VA.drawH [[0,1,2,3,4,5,6], [0,1,2,3,4,5,6], [0,1,2,3,4,5,6]] [some 0, some 0, some 0, some 0, some 0, some 0, some 0, some 0, some 0, some 0, some 0, some 0, some 0, some 0, some 0, some 0, some 0, some 0, some 0, some 0, some 0, some 0, some 0, some 0, none, none] (by kernel_rfl) rfl (LX.l (fun _ hJ => LO.fa (r := 0) F38_0 (.r rfl) rfl) rfl<|LX.l (fun _ hJ => LO.lda (vs := [_,_,_,_,_]) A23 (.r rfl) (fun _ hw => cells_at (hJ _ hw) 6 rfl ⟨_, rfl⟩) rfl) rfl<|LX.l (fun _ hJ => LO.fa (r := 5) F38_1 (.r rfl) rfl) rfl<|LX.l (fun _ hJ => LO.fa (r := 7) F27_2 (.r rfl) rfl) rfl<|LX.l (fun _ hJ => LO.fa (r := 7) F25_0 (.r rfl) rfl) rfl<|LX.l (fun _ hJ => LO.ld O3 (.r rfl) (fun _ hw => cells_at (hJ _ hw) 6 rfl ⟨_, rfl⟩)) rfl<|LX.l (fun _ hJ => LO.fa (r := 15) F38_5 (.r rfl) rfl) rfl<|LX.l (fun _ hJ => LO.ld O32 (.r rfl) (fun _ hw => cells_at (hJ _ hw) 6 rfl ⟨_, rfl⟩)) rfl<|LX.l (fun _ hJ => LO.cv ⟨_, Tryz.underlying32⟩ Tryz.underlying3 (.r rfl) (wi (by omega) (by omega))) rfl<|LX.l (fun _ hJ => LO.fa (r := 5) F38_1 (.r rfl) rfl) rfl<|LX.l (fun _ hJ => LO.fa (r := 7) F27_2 (.r rfl) rfl) rfl<|LX.l (fun _ hJ => LO.fa (r := 8) F25_1 (.r rfl) rfl) rfl<|LX.l (fun _ hJ => LO.ld O3 (.r rfl) (fun _ hw => cells_at (hJ _ hw) 6 rfl ⟨_, rfl⟩)) rfl<|LX.l (fun _ hJ => LO.fa (r := 5) F38_1 (.r rfl) rfl) rfl<|LX.l (fun _ hJ => LO.fa (r := 7) F27_2 (.r rfl) rfl) rfl<|LX.l (fun _ hJ => LO.fa (r := 7) F25_0 (.r rfl) rfl) rfl<|LX.l (fun _ hJ => LO.ld O3 (.r rfl) (fun _ hw => cells_at (hJ _ hw) 6 rfl ⟨_, rfl⟩)) rfl<|LX.l (fun _ hJ => LO.sub (.r rfl) (.r rfl) (wi (by omega) (by omega))) rfl<|LX.l (fun _ hJ => LO.add (.r rfl) (.r rfl) (wi (by omega) (by omega))) rfl<|LX.l (fun _ hJ => LO.rem (.r rfl) (.r rfl) (by omega)) rfl<|LX.l (fun _ hJ => LO.add (.r rfl) (.r rfl) (wi (by omega) (by omega))) rfl<|LX.l (fun _ hJ => LO.call (xs := [_]) (vs := [_]) C11 ⟨(.r rfl), trivial⟩ (fun w _ => point_c _ w)) rfl<|LX.l (fun _ hJ => LO.bd (ps := [(_,_)]) (vs := [(_,_)]) (C := [_,_,_,_]) B27  ⟨(.r rfl), trivial⟩ rfl ⟨_, [_,_], [_,_,_,_], rfl, rfl, rfl, rfl, rfl⟩) rfl<|LX.l (fun _ hJ => LO.mv (.r rfl)) rfl<|LX.s<|LX.s<|LX.nil) (HX.s<|HX.s<|HX.s<|HX.s<|HX.s<|HX.s<|HX.s<|HX.s<|HX.s<|HX.s<|HX.s<|HX.s<|HX.s<|HX.s<|HX.s<|HX.s<|HX.s<|HX.s<|HX.s<|HX.s<|HX.s<|HX.s<|HX.s<|HX.s<|HX.h rfl<|HO.callx (xs := [_,_,_]) (vs := [_,_,_]) C8 ⟨(.r rfl), (.r rfl), (.r rfl), trivial⟩ (fun w hw => hTL ▸ Ray_c y.t ⟨0,0, y.pt, y.pt⟩ ts _ _ w (by omega) (fun x hx => by have := hsm2 x hx; omega) (RR.of_own hw 1 2 rfl rfl)) fun xb _ => ⟨fun _ hw => hw.sel [1,2,3,4,5,6,7] rfl, HX.h rfl<|HO.lo (LO.mv (.r rfl))<|⟨fun _ hw => hw.sel [1,2,3,4,5,6,7] rfl, HX.nil (VE.any (VA.draw (LL.l (LO.ex (.r rfl) rfl) rfl<|LL.l (LO.ex (.r rfl) rfl) rfl<|LL.l (LO.as (.r rfl)) rfl<|LL.l (LO.as (.r rfl)) rfl<|LL.nil) (by kernel_rfl) ?_))⟩⟩))
              refine VE.seqN ?_
              refine VC.seq ?_
              refine VC.seq ?_
              refine VC.reg (VO.l (LO.mv (.r rfl)) rfl<|VO.l (LO.ne (.r rfl) (.r rfl)) rfl<|VO.l (LO.mv (.r rfl)) rfl<|VO.lg rfl rfl (GD.f _) (fun hg => LO.mv (.r rfl)) rfl<|VO.lg rfl rfl (GD.f _) (fun hg => LO.ne (.g hg rfl) (.r rfl)) rfl<|VO.l (LO.pkO (.r rfl) (.r rfl) rfl rfl) rfl<|VO.l (LO.mv (.r rfl)) rfl<|VO.lg rfl rfl (GD.f _) (fun hg => LO.mv (.r rfl)) rfl<|VO.lg rfl rfl (GD.f _) (fun hg => LO.len S41 (.g hg rfl) rfl) rfl<|VO.lg rfl rfl (GD.f _) (fun hg => LO.mv (.r rfl)) rfl<|VO.lg rfl rfl (GD.f _) (fun hg => LO.len S41 (.g hg rfl) rfl) rfl<|VO.lg rfl rfl (GD.f _) (fun hg => LO.ne (.g hg rfl) (.g hg rfl)) rfl<|VO.l (LO.pkO (.r rfl) (.r rfl) rfl rfl) rfl<|VO.l (LO.mv (.r rfl)) rfl<|VO.lg rfl rfl (GD.f _) (fun hg => LO.mv (.r rfl)) rfl<|VO.lg rfl rfl (GD.f _) (fun hg => LO.len S41 (.g hg rfl) rfl) rfl<|VO.lg rfl rfl (GD.f _) (fun hg => LO.mv (.r rfl)) rfl<|VO.lg rfl rfl (GD.f _) (fun hg => LO.len S41 (.g hg rfl) rfl) rfl<|VO.lg rfl rfl (GD.f _) (fun hg => LO.ne (.g hg rfl) (.g hg rfl)) rfl<|VO.l (LO.pkO (.r rfl) (.r rfl) rfl rfl) rfl<|VO.nil ?_)
              refine VE.seqN ?_
              refine VC.weak (env' := [(1,_), (4,_), (6,_), (14,_), (15,_), (260,_)]) (.cons rfl (.cons rfl (.cons rfl (.cons rfl (.cons rfl (.cons rfl .nil)))))) (fun _ h => h) ?_
              refine VC.cond rfl (fun h260 => ?_) (fun h260 => ?_)
              ·
                (exfalso; rw [hP1.e, hP2.e, hP1.n, hP2.n, hn0] at h260; simp at h260)
              ·
                refine VC.skip (VE.seqN ?_)
                refine VC.seq ?_
                refine VC.reg (VO.l (LO.lda (vs := [_,_,_,_,_,_,_,_,_,_,_,_,_,_,_,_,_,_,_,_,_,_,_,_,_,_,_,_,_]) A38 (.r rfl) (fun _ hw => cells_at hw 7 rfl ⟨_, rfl⟩) rfl) rfl<|VO.l (LO.mv (.r rfl)) rfl<|VO.h rfl<|HO.callx (xs := [_,_]) (vs := [_,_]) C9 ⟨(.r rfl), (.r rfl), trivial⟩ (fun w hw => rnRates_c y (rayX y.t (rB y.r y.d0 y.d1 y.d2 y.d3) (lss y.rs)) _ _ w hl1 hl2 (MdI.mk (hI.x.l.keep w hw) (hI.x.r.keep w hw)) hk.k (hk.k.ry (by rw [hP1.n]; omega) hP1.x) (RO.of_own hw 1 rfl) (own_capS hw 1 rfl)) fun xc _ => VO.h rfl<|HO.lo (LO.mv (.r rfl))<|VO.h rfl<|HO.lo (LO.ex (.r rfl) rfl)<|VO.h rfl<|HO.lo (LO.ex (.r rfl) rfl)<|VO.h rfl<|HO.lo (LO.as (.r rfl))<|VO.h rfl<|HO.lo (LO.as (.r rfl))<|VO.nil ?_)
                refine VE.seqN ?_
                refine VC.seq ?_
                refine VC.reg (VO.l (LO.lda (vs := [_,_,_,_,_,_,_,_,_,_,_,_,_,_,_,_,_,_,_,_,_,_,_,_,_,_,_,_,_]) A38 (.r rfl) (fun _ hw => cells_at hw 8 rfl ⟨_, rfl⟩) rfl) rfl<|VO.l (LO.mv (.r rfl)) rfl<|VO.h rfl<|HO.callx (xs := [_,_]) (vs := [_,_]) C9 ⟨(.r rfl), (.r rfl), trivial⟩ (fun w hw => rnRates_c y (rayX y.t ⟨0,0, y.pt, y.pt⟩ (trLs y)) _ _ w hl1 hl2 (MdI.mk (hI.x.l.keep w hw) (hI.x.r.keep w hw)) hk.k (hk.k.ry (by rw [hP2.n]; omega) hP2.x) (RO.of_own hw 1 rfl) (own_capS hw 1 rfl)) fun xd _ => VO.h rfl<|HO.lo (LO.mv (.r rfl))<|VO.h rfl<|HO.lo (LO.ex (.r rfl) rfl)<|VO.h rfl<|HO.lo (LO.ex (.r rfl) rfl)<|VO.h rfl<|HO.lo (LO.as (.r rfl))<|VO.h rfl<|HO.lo (LO.as (.r rfl))<|VO.nil ?_)
                refine VE.seqN ?_
                refine VC.seq ?_
                refine VC.seq ?_
                refine VC.reg (VO.l (LO.mv (.r rfl)) rfl<|VO.l (LO.ne (.r rfl) (.r rfl)) rfl<|VO.l (LO.mv (.r rfl)) rfl<|VO.lg rfl rfl (GD.f _) (fun hg => LO.mv (.r rfl)) rfl<|VO.lg rfl rfl (GD.f _) (fun hg => LO.ne (.g hg rfl) (.r rfl)) rfl<|VO.l (LO.pkO (.r rfl) (.r rfl) rfl rfl) rfl<|VO.l (LO.mv (.r rfl)) rfl<|VO.lg rfl rfl (GD.f _) (fun hg => LO.mv (.r rfl)) rfl<|VO.lg rfl rfl (GD.f _) (fun hg => LO.len S45 (.g hg rfl) rfl) rfl<|VO.lg rfl rfl (GD.f _) (fun hg => LO.mv (.r rfl)) rfl<|VO.lg rfl rfl (GD.f _) (fun hg => LO.len S41 (.g hg rfl) rfl) rfl<|VO.lg rfl rfl (GD.f _) (fun hg => LO.ne (.g hg rfl) (.g hg rfl)) rfl<|VO.l (LO.pkO (.r rfl) (.r rfl) rfl rfl) rfl<|VO.l (LO.mv (.r rfl)) rfl<|VO.lg rfl rfl (GD.f _) (fun hg => LO.mv (.r rfl)) rfl<|VO.lg rfl rfl (GD.f _) (fun hg => LO.len S45 (.g hg rfl) rfl) rfl<|VO.lg rfl rfl (GD.f _) (fun hg => LO.mv (.r rfl)) rfl<|VO.lg rfl rfl (GD.f _) (fun hg => LO.len S45 (.g hg rfl) rfl) rfl<|VO.lg rfl rfl (GD.f _) (fun hg => LO.ne (.g hg rfl) (.g hg rfl)) rfl<|VO.l (LO.pkO (.r rfl) (.r rfl) rfl rfl) rfl<|VO.l (LO.mv (.r rfl)) rfl<|VO.lg rfl rfl (GD.f _) (fun hg => LO.mv (.r rfl)) rfl<|VO.lg rfl rfl (GD.f _) (fun hg => LO.len S45 (.g hg rfl) rfl) rfl<|VO.lg rfl rfl (GD.f _) (fun hg => LO.mv (.r rfl)) rfl<|VO.lg rfl rfl (GD.f _) (fun hg => LO.len S45 (.g hg rfl) rfl) rfl<|VO.lg rfl rfl (GD.f _) (fun hg => LO.ne (.g hg rfl) (.g hg rfl)) rfl<|VO.l (LO.pkO (.r rfl) (.r rfl) rfl rfl) rfl<|VO.nil ?_)
                refine VE.seqN ?_
                refine VC.cond rfl (fun h299 => ?_) (fun h299 => ?_)
                ·
                  (exfalso; rw [hm0, hc1, hd1_, hw1, hn0] at h299; simp at h299)
                ·
                  refine VC.skip (VE.seqN ?_)
                  refine VC.seq ?_
                  refine VC.seq ?_
                  refine VC.rebase fun w1 hst1 => ?_
                  have hWI : Spans w1 _ _ := RO.of_own hst1 7 rfl
                  have hCC : Spans w1 _ _ := RO.of_own hst1 1 rfl
                  have hDD : Spans w1 _ _ := RO.of_own hst1 0 rfl
                  refine VC.reg (VO.l (LO.as (.r rfl)) rfl<|VO.nil ?_)
                  refine VE.seqN ?_
                  refine VC.block ?_
                  refine VC.loopK (α := Nat) 0 (fun gx => [(19, .int .i64 (gx : Nat))]) [(6,_), (17,_), (18,_)] (fun gx => []) (fun gx => gx ≤ y.rs.length) (fun gx => y.rs.length - gx) 0 (by exact Nat.zero_le _) (.cons rfl (.cons rfl (.cons rfl (.cons rfl .nil)))) (fun _ h => h) ?_
                  rintro j hj
                  refine VC.seq ?_
                  refine VC.seq ?_
                  refine VC.reg (VO.l (LO.mv (.r rfl)) rfl<|VO.l (LO.mv (.r rfl)) rfl<|VO.l (LO.len S45 (.r rfl) rfl) rfl<|VO.l (LO.lt (.r rfl) (.r rfl)) rfl<|VO.nil ?_)
                  refine VE.seqN ?_
                  refine VC.cond rfl (fun h303 => ?_) (fun h303 => ?_)
                  ·
                    refine VC.skip (VE.seqN ?_)
                    refine VC.seq ?_
                    refine VC.block ?_
                    refine VC.seq ?_
                    refine VC.draw mixed (LL.l (LO.mv (.r rfl)) rfl<|LL.l (LO.mv (.r rfl)) rfl<|LL.l (LO.ixs S45 N25 hCC.sm (.r rfl) (.r rfl) rfl (by omega)) rfl<|LL.l (LO.fa F25_0 (.r rfl) rfl) rfl<|LL.l (LO.ld O3 (.r rfl) (fun w hw => cells_part (off := 0) ((hCC.at zsp (j := j) (by omega)) w hw) ⟨_, rfl⟩)) rfl<|LL.l (LO.mv (.r rfl)) rfl<|LL.l (LO.mv (.r rfl)) rfl<|LL.l (LO.ixs S45 N25 hWI.sm (.r rfl) (.r rfl) rfl (by omega)) rfl<|LL.l (LO.fa F25_0 (.r rfl) rfl) rfl<|LL.l (LO.ld O3 (.r rfl) (fun w hw => cells_part (off := 0) ((hWI.at zsp (j := j) (by omega)) w hw) ⟨_, rfl⟩)) rfl<|LL.l (LO.lt (.r rfl) (.r rfl)) rfl<|LL.l (LO.mv (.r rfl)) rfl<|LL.lg rfl rfl (GD.f _) (fun hg => LO.mv (.r rfl)) rfl<|LL.lg rfl rfl (GD.f _) (fun hg => LO.mv (.r rfl)) rfl<|LL.lg rfl rfl (GD.f _) (fun hg => LO.ixs S45 N25 hCC.sm (.g hg rfl) (.g hg rfl) rfl (by omega)) rfl<|LL.lg rfl rfl (GD.f _) (fun hg => LO.fa F25_1 (.g hg rfl) rfl) rfl<|LL.lg rfl rfl (GD.f _) (fun hg => LO.ld O3 (.g hg rfl) (fun w hw => cells_part (off := 1) ((hCC.at zsp (j := j) (by omega)) w hw) ⟨_, rfl⟩)) rfl<|LL.lg rfl rfl (GD.f _) (fun hg => LO.mv (.r rfl)) rfl<|LL.lg rfl rfl (GD.f _) (fun hg => LO.mv (.r rfl)) rfl<|LL.lg rfl rfl (GD.f _) (fun hg => LO.ixs S45 N25 hWI.sm (.g hg rfl) (.g hg rfl) rfl (by omega)) rfl<|LL.lg rfl rfl (GD.f _) (fun hg => LO.fa F25_1 (.g hg rfl) rfl) rfl<|LL.lg rfl rfl (GD.f _) (fun hg => LO.ld O3 (.g hg rfl) (fun w hw => cells_part (off := 1) ((hWI.at zsp (j := j) (by omega)) w hw) ⟨_, rfl⟩)) rfl<|LL.lg rfl rfl (GD.f _) (fun hg => LO.gt (.g hg rfl) (.g hg rfl)) rfl<|LL.l (LO.pkO (.r rfl) (.r rfl) rfl rfl) rfl<|LL.l (LO.mv (.r rfl)) rfl<|LL.lg rfl rfl (GD.f _) (fun hg => LO.mv (.r rfl)) rfl<|LL.lg rfl rfl (GD.f _) (fun hg => LO.mv (.r rfl)) rfl<|LL.lg rfl rfl (GD.f _) (fun hg => LO.ixs S45 N25 hCC.sm (.g hg rfl) (.g hg rfl) rfl (by omega)) rfl<|LL.lg rfl rfl (GD.f _) (fun hg => LO.fa F25_0 (.g hg rfl) rfl) rfl<|LL.lg rfl rfl (GD.f _) (fun hg => LO.ld O3 (.g hg rfl) (fun w hw => cells_part (off := 0) ((hCC.at zsp (j := j) (by omega)) w hw) ⟨_, rfl⟩)) rfl<|LL.lg rfl rfl (GD.f _) (fun hg => LO.mv (.r rfl)) rfl<|LL.lg rfl rfl (GD.f _) (fun hg => LO.mv (.r rfl)) rfl<|LL.lg rfl rfl (GD.f _) (fun hg => LO.ixs S45 N25 hCC.sm (.g hg rfl) (.g hg rfl) rfl (by omega)) rfl<|LL.lg rfl rfl (GD.f _) (fun hg => LO.fa F25_1 (.g hg rfl) rfl) rfl<|LL.lg rfl rfl (GD.f _) (fun hg => LO.ld O3 (.g hg rfl) (fun w hw => cells_part (off := 1) ((hCC.at zsp (j := j) (by omega)) w hw) ⟨_, rfl⟩)) rfl<|LL.lg rfl rfl (GD.f _) (fun hg => LO.gt (.g hg rfl) (.g hg rfl)) rfl<|LL.l (LO.pkO (.r rfl) (.r rfl) rfl rfl) rfl<|LL.l (LO.mv (.r rfl)) rfl<|LL.lg rfl rfl (GD.f _) (fun hg => LO.mv (.r rfl)) rfl<|LL.lg rfl rfl (GD.f _) (fun hg => LO.mv (.r rfl)) rfl<|LL.lg rfl rfl (GD.f _) (fun hg => LO.ixs S45 N25 hDD.sm (.g hg rfl) (.g hg rfl) rfl (by omega)) rfl<|LL.lg rfl rfl (GD.f _) (fun hg => LO.fa F25_0 (.g hg rfl) rfl) rfl<|LL.lg rfl rfl (GD.f _) (fun hg => LO.ld O3 (.g hg rfl) (fun w hw => cells_part (off := 0) ((hDD.at zsp (j := j) (by omega)) w hw) ⟨_, rfl⟩)) rfl<|LL.lg rfl rfl (GD.f _) (fun hg => LO.mv (.r rfl)) rfl<|LL.lg rfl rfl (GD.f _) (fun hg => LO.mv (.r rfl)) rfl<|LL.lg rfl rfl (GD.f _) (fun hg => LO.ixs S45 N25 hWI.sm (.g hg rfl) (.g hg rfl) rfl (by omega)) rfl<|LL.lg rfl rfl (GD.f _) (fun hg => LO.fa F25_0 (.g hg rfl) rfl) rfl<|LL.lg rfl rfl (GD.f _) (fun hg => LO.ld O3 (.g hg rfl) (fun w hw => cells_part (off := 0) ((hWI.at zsp (j := j) (by omega)) w hw) ⟨_, rfl⟩)) rfl<|LL.lg rfl rfl (GD.f _) (fun hg => LO.lt (.g hg rfl) (.g hg rfl)) rfl<|LL.l (LO.pkO (.r rfl) (.r rfl) rfl rfl) rfl<|LL.l (LO.mv (.r rfl)) rfl<|LL.lg rfl rfl (GD.f _) (fun hg => LO.mv (.r rfl)) rfl<|LL.lg rfl rfl (GD.f _) (fun hg => LO.mv (.r rfl)) rfl<|LL.lg rfl rfl (GD.f _) (fun hg => LO.ixs S45 N25 hDD.sm (.g hg rfl) (.g hg rfl) rfl (by omega)) rfl<|LL.lg rfl rfl (GD.f _) (fun hg => LO.fa F25_1 (.g hg rfl) rfl) rfl<|LL.lg rfl rfl (GD.f _) (fun hg => LO.ld O3 (.g hg rfl) (fun w hw => cells_part (off := 1) ((hDD.at zsp (j := j) (by omega)) w hw) ⟨_, rfl⟩)) rfl<|LL.lg rfl rfl (GD.f _) (fun hg => LO.mv (.r rfl)) rfl<|LL.lg rfl rfl (GD.f _) (fun hg => LO.mv (.r rfl)) rfl<|LL.lg rfl rfl (GD.f _) (fun hg => LO.ixs S45 N25 hWI.sm (.g hg rfl) (.g hg rfl) rfl (by omega)) rfl<|LL.lg rfl rfl (GD.f _) (fun hg => LO.fa F25_1 (.g hg rfl) rfl) rfl<|LL.lg rfl rfl (GD.f _) (fun hg => LO.ld O3 (.g hg rfl) (fun w hw => cells_part (off := 1) ((hWI.at zsp (j := j) (by omega)) w hw) ⟨_, rfl⟩)) rfl<|LL.lg rfl rfl (GD.f _) (fun hg => LO.gt (.g hg rfl) (.g hg rfl)) rfl<|LL.l (LO.pkO (.r rfl) (.r rfl) rfl rfl) rfl<|LL.l (LO.mv (.r rfl)) rfl<|LL.lg rfl rfl (GD.f _) (fun hg => LO.mv (.r rfl)) rfl<|LL.lg rfl rfl (GD.f _) (fun hg => LO.mv (.r rfl)) rfl<|LL.lg rfl rfl (GD.f _) (fun hg => LO.ixs S45 N25 hDD.sm (.g hg rfl) (.g hg rfl) rfl (by omega)) rfl<|LL.lg rfl rfl (GD.f _) (fun hg => LO.fa F25_0 (.g hg rfl) rfl) rfl<|LL.lg rfl rfl (GD.f _) (fun hg => LO.ld O3 (.g hg rfl) (fun w hw => cells_part (off := 0) ((hDD.at zsp (j := j) (by omega)) w hw) ⟨_, rfl⟩)) rfl<|LL.lg rfl rfl (GD.f _) (fun hg => LO.mv (.r rfl)) rfl<|LL.lg rfl rfl (GD.f _) (fun hg => LO.mv (.r rfl)) rfl<|LL.lg rfl rfl (GD.f _) (fun hg => LO.ixs S45 N25 hDD.sm (.g hg rfl) (.g hg rfl) rfl (by omega)) rfl<|LL.lg rfl rfl (GD.f _) (fun hg => LO.fa F25_1 (.g hg rfl) rfl) rfl<|LL.lg rfl rfl (GD.f _) (fun hg => LO.ld O3 (.g hg rfl) (fun w hw => cells_part (off := 1) ((hDD.at zsp (j := j) (by omega)) w hw) ⟨_, rfl⟩)) rfl<|LL.lg rfl rfl (GD.f _) (fun hg => LO.gt (.g hg rfl) (.g hg rfl)) rfl<|LL.l (LO.pkO (.r rfl) (.r rfl) rfl rfl) rfl<|LL.nil) (by kernel_rfl) ?_
                    refine VE.seqN ?_
                    refine VC.weak (env' := [(6,_), (17,_), (18,_), (19,_), (381,_)]) (.cons rfl (.cons rfl (.cons rfl (.cons rfl (.cons rfl .nil))))) (fun _ h => h) ?_
                    refine VC.cond rfl (fun h381 => ?_) (fun h381 => ?_)
                    ·
                      (exfalso; have q1 := hc2 j (by omega); have q2 := hd2_ j (by omega); unfold inSp at q1 q2; omega)
                    ·
                      refine VC.skip (VE.inN (VE.seqN ?_))
                      refine VC.reg (VO.l (LO.mv (.r rfl)) rfl<|VO.l (LO.add (.r rfl) (.r rfl) (wi (by omega) (by omega))) rfl<|VO.l (LO.as (.r rfl)) rfl<|VO.nil ?_)
                      refine VE.thenN fun a w ha hw => ⟨j + 1, (by omega), (by omega), ha.sub (.cons rfl (.cons rfl (.cons rfl (.cons rfl .nil)))), hw⟩
                  ·
                    refine VC.exit (VE.thenX (VE.thenX (VE.inX (VE.seqN ?_))))
                    refine VC.seq ?_
                    refine VC.reg (VO.l (LO.call (xs := []) (vs := []) C7 trivial (fun w _ => rnWorks_c w)) rfl<|VO.l (LO.as (.r rfl)) rfl<|VO.nil ?_)
                    refine VE.seqN ?_
                    refine VC.ret (VE.res (vs := [_]) rfl ⟨rfl, trivial⟩ (fun w hw => ?_))
                    first | exact ⟨rfl, hw.nil⟩ | exact ⟨rfl, hst1.based hw⟩

end Go.Proofs.YtffbohecdocajaaGreat

namespace Go.Proofs.YtffbohecdocajaaGreat
open Go.SL Go.Proofs Go.Pulse
set_option linter.unusedVariables false


theorem kb_u8 {n : Int} (h : kb .u8 n) : 0 ≤ n ∧ n ≤ 255 := by simpa [kb, IntKind.min, IntKind.max, IntKind.signed, IntKind.bits] using h
theorem kb_u16 {n : Int} (h : kb .u16 n) : 0 ≤ n ∧ n ≤ 65535 := by simpa [kb, IntKind.min, IntKind.max, IntKind.signed, IntKind.bits] using h
theorem kb_u32 {n : Int} (h : kb .u32 n) : 0 ≤ n ∧ n ≤ 4294967295 := by simpa [kb, IntKind.min, IntKind.max, IntKind.signed, IntKind.bits] using h
theorem K5 : Tryz.prog.cellsOf 5 = 1 := by kernel_rfl
theorem K28 : Tryz.prog.cellsOf 28 = 1 := by kernel_rfl
theorem K29 : Tryz.prog.cellsOf 29 = 4 := by kernel_rfl
theorem K36 : Tryz.prog.cellsOf 36 = 2 := by kernel_rfl
theorem K40 : Tryz.prog.cellsOf 40 = 1 := by kernel_rfl
theorem K50 : Tryz.prog.cellsOf 50 = 4 := by kernel_rfl
theorem K166 : Tryz.prog.cellsOf 166 = 2 := by kernel_rfl
section
variable {H : Type} {enc : TypeId × Value → H} {W : World}
theorem rd3 : RD enc Tryz.prog W 3 fun cs => ∃ n, cs = [.int .i64 n] ∧ kb .i64 n := RD.int Tryz.underlying3
theorem rd5 : RD enc Tryz.prog W 5 fun cs => ∃ n, cs = [.int .u8 n] ∧ kb .u8 n := RD.int Tryz.underlying5
theorem rd28 : RD enc Tryz.prog W 28 fun cs => ∃ n, cs = [.int .u16 n] ∧ kb .u16 n := RD.int Tryz.underlying28
theorem rd32 : RD enc Tryz.prog W 32 fun cs => ∃ n, cs = [.int .u32 n] ∧ kb .u32 n := RD.int Tryz.underlying32
theorem rd23 : RD enc Tryz.prog W 23 fun cs => ∃ t : Train, cs = [.int .i64 t.lam, .int .i64 t.kind, .int .i64 t.first, .int .i64 t.second, .int .i64 t.count] := fun n cs x hx => by
  obtain ⟨css, rfl, hlen,_, hp⟩ := trod_parts Tryz.underlying23 (zs := [1,1,1,1,1]) (by kernel_rfl) rfl (by kernel_rfl) hx
  match css, hlen with
  | [c0, c1, c2, c3, c4],_ =>
    obtain ⟨_,_, h0⟩ := hp 0 _ c0 rfl rfl
    obtain ⟨_,_, h1⟩ := hp 1 _ c1 rfl rfl
    obtain ⟨_,_, h2⟩ := hp 2 _ c2 rfl rfl
    obtain ⟨_,_, h3⟩ := hp 3 _ c3 rfl rfl
    obtain ⟨_,_, h4⟩ := hp 4 _ c4 rfl rfl
    obtain ⟨a0, rfl,_⟩ := rd3 _ _ _ h0
    obtain ⟨a1, rfl,_⟩ := rd3 _ _ _ h1
    obtain ⟨a2, rfl,_⟩ := rd3 _ _ _ h2
    obtain ⟨a3, rfl,_⟩ := rd3 _ _ _ h3
    obtain ⟨a4, rfl,_⟩ := rd3 _ _ _ h4
    exact ⟨⟨a0, a1, a2, a3, a4⟩, rfl⟩
theorem rd25 : RD enc Tryz.prog W 25 fun cs => ∃ s : Span, cs = [.int .i64 s.lo, .int .i64 s.hi] := fun n cs x hx => by
  obtain ⟨css, rfl, hlen,_, hp⟩ := trod_parts Tryz.underlying25 (zs := [1,1]) (by kernel_rfl) rfl (by kernel_rfl) hx
  match css, hlen with
  | [c0, c1],_ =>
    obtain ⟨_,_, h0⟩ := hp 0 _ c0 rfl rfl
    obtain ⟨_,_, h1⟩ := hp 1 _ c1 rfl rfl
    obtain ⟨a, rfl, ha⟩ := rd3 _ _ _ h0
    obtain ⟨b, rfl, hb⟩ := rd3 _ _ _ h1
    exact ⟨⟨a, b⟩, rfl⟩
theorem rd27 : RD enc Tryz.prog W 27 fun cs => ∃ r : Recv, cs = [.int .i64 r.level, .int .i64 r.phase, .int .i64 r.nlo, .int .i64 r.nhi] := fun n cs x hx => by
  obtain ⟨css, rfl, hlen,_, hp⟩ := trod_parts Tryz.underlying27 (zs := [1,1,2]) (by kernel_rfl) rfl (by kernel_rfl) hx
  match css, hlen with
  | [c0, c1, c2],_ =>
    obtain ⟨_,_, h0⟩ := hp 0 _ c0 rfl rfl
    obtain ⟨_,_, h1⟩ := hp 1 _ c1 rfl rfl
    obtain ⟨_,_, h2⟩ := hp 2 _ c2 rfl rfl
    obtain ⟨a, rfl,_⟩ := rd3 _ _ _ h0
    obtain ⟨b, rfl,_⟩ := rd3 _ _ _ h1
    obtain ⟨s, rfl⟩ := rd25 _ _ _ h2
    exact ⟨⟨a, b, s.lo, s.hi⟩, rfl⟩
theorem rd29 : RD enc Tryz.prog W 29 fun cs => ∃ a b c d : Int, cs = [.int .u16 a, .int .u16 b, .int .u16 c, .int .u16 d] ∧ kb .u16 a ∧ kb .u16 b ∧ kb .u16 c ∧ kb .u16 d := fun n cs x hx => by
  obtain ⟨css, rfl, hlen, hp⟩ := trod_cells Tryz.underlying29 K28 K29 hx rd28
  match css, hlen with
  | [c0, c1, c2, c3],_ =>
    obtain ⟨_, a, rfl, ha⟩ := hp c0 (by simp)
    obtain ⟨_, b, rfl, hb⟩ := hp c1 (by simp)
    obtain ⟨_, c, rfl, hc⟩ := hp c2 (by simp)
    obtain ⟨_, d, rfl, hd⟩ := hp c3 (by simp)
    exact ⟨a, b, c, d, rfl, ha, hb, hc, hd⟩
theorem rd36 : RD enc Tryz.prog W 36 fun cs => ∃ a b : Int, cs = [.int .u16 a, .int .u16 b] ∧ kb .u16 a ∧ kb .u16 b := fun n cs x hx => by
  obtain ⟨css, rfl, hlen, hp⟩ := trod_cells Tryz.underlying36 K28 K36 hx rd28
  match css, hlen with
  | [c0, c1],_ =>
    obtain ⟨_, a, rfl, ha⟩ := hp c0 (by simp)
    obtain ⟨_, b, rfl, hb⟩ := hp c1 (by simp)
    exact ⟨a, b, rfl, ha, hb⟩
theorem rd50 : RD enc Tryz.prog W 50 fun cs => ∃ x : Sample, cs = smpC x := fun n cs x hx => by
  obtain ⟨css, rfl, hlen,_, hp⟩ := trod_parts Tryz.underlying50 (zs := [1,1,1,1]) (by kernel_rfl) rfl (by kernel_rfl) hx
  match css, hlen with
  | [c0, c1, c2, c3],_ =>
    obtain ⟨_,_, h0⟩ := hp 0 _ c0 rfl rfl
    obtain ⟨_,_, h1⟩ := hp 1 _ c1 rfl rfl
    obtain ⟨_,_, h2⟩ := hp 2 _ c2 rfl rfl
    obtain ⟨_,_, h3⟩ := hp 3 _ c3 rfl rfl
    obtain ⟨a0, rfl,_⟩ := rd3 _ _ _ h0
    obtain ⟨a1, rfl,_⟩ := rd3 _ _ _ h1
    obtain ⟨a2, rfl,_⟩ := rd3 _ _ _ h2
    obtain ⟨a3, rfl,_⟩ := rd3 _ _ _ h3
    exact ⟨⟨a0, a1, a2, a3⟩, rfl⟩
theorem rd166 : RD enc Tryz.prog W 166 fun cs => ∃ x : Pt, cs = ptC x := fun n cs x hx => by
  obtain ⟨css, rfl, hlen,_, hp⟩ := trod_parts Tryz.underlying166 (zs := [1,1]) (by kernel_rfl) rfl (by kernel_rfl) hx
  match css, hlen with
  | [c0, c1],_ =>
    obtain ⟨_,_, h0⟩ := hp 0 _ c0 rfl rfl
    obtain ⟨_,_, h1⟩ := hp 1 _ c1 rfl rfl
    obtain ⟨a, rfl,_⟩ := rd3 _ _ _ h0
    obtain ⟨b, rfl,_⟩ := rd3 _ _ _ h1
    exact ⟨⟨a, b⟩, rfl⟩
theorem rd40 : RD enc Tryz.prog W 40 fun cs => ∃ (p : Option Addr) (cap : Nat) (l : List Sample), cs = [.slice p l.length cap] ∧ (l.length ≤ cap ∧ l.length ≤ 9223372036854775807) ∧ RO 4 smpC W p l ∧ ∀ x, x ∈ l → (fun _ => True) x := fun n cs x hx => by
  obtain ⟨p, cap, rows, rfl, h1, h2, h3⟩ := RD.slice Tryz.underlying40 K50 (by decide) rd50 _ _ _ hx
  obtain ⟨l, rfl, h5⟩ := rows_map (f := smpC) (Q := (fun _ => True)) (fun r hr => by obtain ⟨x, h6⟩ := (h3 r hr).2; exact ⟨x, h6, trivial⟩)
  exact ⟨p, cap, l, by simp, ⟨by have := RD.cap Tryz.underlying40 hx; simpa using this, by simpa using h1⟩, h2, h5⟩
theorem rd33 : RD enc Tryz.prog W 33 fun cs => ∃ (p : Option Addr) (cap : Nat) (l : List Pt), cs = [.slice p l.length cap] ∧ (l.length ≤ cap ∧ l.length ≤ 9223372036854775807) ∧ RO 2 ptC W p l ∧ ∀ x, x ∈ l → (fun _ => True) x := fun n cs x hx => by
  obtain ⟨p, cap, rows, rfl, h1, h2, h3⟩ := RD.slice Tryz.underlying33 K166 (by decide) rd166 _ _ _ hx
  obtain ⟨l, rfl, h5⟩ := rows_map (f := ptC) (Q := (fun _ => True)) (fun r hr => by obtain ⟨x, h6⟩ := (h3 r hr).2; exact ⟨x, h6, trivial⟩)
  exact ⟨p, cap, l, by simp, ⟨by have := RD.cap Tryz.underlying33 hx; simpa using this, by simpa using h1⟩, h2, h5⟩
theorem rd31 : RD enc Tryz.prog W 31 fun cs => ∃ (p : Option Addr) (cap : Nat) (l : List Int), cs = [.slice p l.length cap] ∧ (l.length ≤ cap ∧ l.length ≤ 9223372036854775807) ∧ RO 1 b8C W p l ∧ ∀ x, x ∈ l → (kb .u8) x := fun n cs x hx => by
  obtain ⟨p, cap, rows, rfl, h1, h2, h3⟩ := RD.slice Tryz.underlying31 K5 (by decide) rd5 _ _ _ hx
  obtain ⟨l, rfl, h5⟩ := rows_map (f := b8C) (Q := (kb .u8)) (fun r hr => by obtain ⟨x, h6, h7⟩ := (h3 r hr).2; exact ⟨x, h6, h7⟩)
  exact ⟨p, cap, l, by simp, ⟨by have := RD.cap Tryz.underlying31 hx; simpa using this, by simpa using h1⟩, h2, h5⟩
theorem rd30 : RD enc Tryz.prog W 30 fun cs => ∃ (p : Option Addr) (cap : Nat) (l : List SRow), cs = [.slice p l.length cap] ∧ (l.length ≤ cap ∧ l.length ≤ 9223372036854775807) ∧ RO 1 rowC W p l ∧ ∀ x, x ∈ l → (fun x => x.l.length ≤ x.c ∧ RO 4 smpC W x.p x.l) x := fun n cs x hx => by
  obtain ⟨p, cap, rows, rfl, h1, h2, h3⟩ := RD.slice Tryz.underlying30 K40 (by decide) rd40 _ _ _ hx
  obtain ⟨l, rfl, h5⟩ := rows_map (f := rowC) (Q := (fun x => x.l.length ≤ x.c ∧ RO 4 smpC W x.p x.l)) (fun r hr => by obtain ⟨p, c, l, h6, h7, h8,_⟩ := (h3 r hr).2; exact ⟨⟨p, c, l⟩, h6, h7.1, h8⟩)
  exact ⟨p, cap, l, by simp, ⟨by have := RD.cap Tryz.underlying30 hx; simpa using this, by simpa using h1⟩, h2, h5⟩
theorem rd35 : RD enc Tryz.prog W 35 fun cs => ∃ x : MdA, cs = mdC x ∧ MdI W x ∧ x.m.loss.length ≤ 9223372036854775807 ∧ x.m.rate.length ≤ 9223372036854775807 := fun n cs x hx => by
  obtain ⟨css, rfl, hlen,_, hp⟩ := trod_parts Tryz.underlying35 (zs := [1,1,2,2,2]) (by kernel_rfl) rfl (by kernel_rfl) hx
  match css, hlen with
  | [c0, c1, c2, c3, c4],_ =>
    obtain ⟨_,_, h0⟩ := hp 0 _ c0 rfl rfl
    obtain ⟨_,_, h1⟩ := hp 1 _ c1 rfl rfl
    obtain ⟨_,_, h2⟩ := hp 2 _ c2 rfl rfl
    obtain ⟨_,_, h3⟩ := hp 3 _ c3 rfl rfl
    obtain ⟨_,_, h4⟩ := hp 4 _ c4 rfl rfl
    obtain ⟨pl, cl, l, rfl, hl1, hl,_⟩ := rd33 _ _ _ h0
    obtain ⟨pr, cr, r, rfl, hr1, hr,_⟩ := rd33 _ _ _ h1
    obtain ⟨a, rfl⟩ := rd25 _ _ _ h2
    obtain ⟨b, rfl⟩ := rd25 _ _ _ h3
    obtain ⟨c, rfl⟩ := rd25 _ _ _ h4
    exact ⟨⟨⟨l, r, a, b, c⟩, pl, cl, pr, cr⟩, rfl, ⟨hl, hr⟩, hl1.2, hr1.2⟩
theorem rd38 : RD enc Tryz.prog W 38 fun cs => ∃ y : RnA, cs = y.C ∧ RnI W y ∧ RnL y ∧ y.rs.length ≤ 9223372036854775807 ∧ y.x.m.loss.length ≤ 9223372036854775807 ∧ y.x.m.rate.length ≤ 9223372036854775807 ∧ y.sl.length ≤ 9223372036854775807 := fun n cs x hx => by
  obtain ⟨css, rfl, hlen,_, hp⟩ := trod_parts Tryz.underlying38 (zs := [5,4,4,1,1,1,8,1,1,1,2]) (by kernel_rfl) rfl (by kernel_rfl) hx
  match css, hlen with
  | [c0, c1, c2, c3, c4, c5, c6, c7, c8, c9, c10],_ =>
    obtain ⟨_,_, h0⟩ := hp 0 _ c0 rfl rfl
    obtain ⟨_,_, h1⟩ := hp 1 _ c1 rfl rfl
    obtain ⟨_,_, h2⟩ := hp 2 _ c2 rfl rfl
    obtain ⟨_,_, h3⟩ := hp 3 _ c3 rfl rfl
    obtain ⟨_,_, h4⟩ := hp 4 _ c4 rfl rfl
    obtain ⟨_,_, h5⟩ := hp 5 _ c5 rfl rfl
    obtain ⟨_,_, h6⟩ := hp 6 _ c6 rfl rfl
    obtain ⟨_,_, h7⟩ := hp 7 _ c7 rfl rfl
    obtain ⟨_,_, h8⟩ := hp 8 _ c8 rfl rfl
    obtain ⟨_,_, h9⟩ := hp 9 _ c9 rfl rfl
    obtain ⟨_,_, h10⟩ := hp 10 _ c10 rfl rfl
    obtain ⟨t, rfl⟩ := rd23 _ _ _ h0
    obtain ⟨r, rfl⟩ := rd27 _ _ _ h1
    obtain ⟨d0, d1, d2, d3, rfl, hd0, hd1, hd2, hd3⟩ := rd29 _ _ _ h2
    obtain ⟨pr, cr, rs, rfl, hrs, hrows, hrr⟩ := rd30 _ _ _ h3
    obtain ⟨ps, cs, sl, rfl, hsl, hslr, hsb⟩ := rd31 _ _ _ h4
    obtain ⟨ns, rfl, hns⟩ := rd32 _ _ _ h5
    obtain ⟨x, rfl, hmx, hxl, hxr⟩ := rd35 _ _ _ h6
    obtain ⟨z, rfl, hz⟩ := rd28 _ _ _ h7
    obtain ⟨wd, rfl, hwd⟩ := rd5 _ _ _ h8
    obtain ⟨tl, rfl, htl⟩ := rd5 _ _ _ h9
    obtain ⟨g0, g1, rfl, hg0, hg1⟩ := rd36 _ _ _ h10
    exact ⟨⟨t, r, d0, d1, d2, d3, rs, pr, cr, sl, ps, cs, ns, x, z, wd, tl, g0, g1⟩, rfl, ⟨⟨hrows, hrr⟩, hslr, hmx⟩, ⟨⟨kb_u16 hz, kb_u8 hwd, kb_u8 htl, kb_u16 hg0, kb_u16 hg1⟩, kb_u16 hd0, kb_u16 hd1, kb_u16 hd2, kb_u16 hd3, kb_u32 hns, fun n hn => kb_u8 (hsb n hn)⟩, hrs.2, hxl, hxr, hsl.2⟩
end

end Go.Proofs.YtffbohecdocajaaGreat
