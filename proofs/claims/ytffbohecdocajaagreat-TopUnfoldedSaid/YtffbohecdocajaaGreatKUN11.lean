/-
  The law of unfolded speeds: what is made of its input.
  The law of unfolded speeds: the sweep that is heard.
  The law of unfolded speeds, walked.
  What a reading says of an input of unfolded speeds.
-/
import Derived.Test.YtffbohecdocajaaGreatKUN10

set_option linter.unusedSimpArgs false
namespace Go.Proofs.YtffbohecdocajaaGreat
open Go.SL Go.Proofs Go.Pulse
set_option linter.unusedVariables false

theorem F57_1 : FieldAt Tryz.prog 57 1 1 := ⟨_,_, Tryz.underlying57, rfl, rfl, 0, by kernel_rfl⟩
theorem O5 : IsOne Tryz.prog 5 := ⟨⟨_, Tryz.underlying5, rfl⟩, by kernel_rfl⟩
theorem F57_0 : FieldAt Tryz.prog 57 0 0 := ⟨_,_, Tryz.underlying57, rfl, rfl, 0, by kernel_rfl⟩
theorem F57_2 : FieldAt Tryz.prog 57 2 2 := ⟨_,_, Tryz.underlying57, rfl, rfl, 0, by kernel_rfl⟩
theorem F57_4 : FieldAt Tryz.prog 57 4 4 := ⟨_,_, Tryz.underlying57, rfl, rfl, 0, by kernel_rfl⟩
theorem F57_3 : FieldAt Tryz.prog 57 3 3 := ⟨_,_, Tryz.underlying57, rfl, rfl, 0, by kernel_rfl⟩
theorem F57_9 : FieldAt Tryz.prog 57 9 9 := ⟨_,_, Tryz.underlying57, rfl, rfl, 0, by kernel_rfl⟩
theorem F57_6 : FieldAt Tryz.prog 57 6 6 := ⟨_,_, Tryz.underlying57, rfl, rfl, 0, by kernel_rfl⟩
theorem O53 : IsOne Tryz.prog 53 := ⟨⟨_, Tryz.underlying53, rfl⟩, by kernel_rfl⟩
theorem F57_8 : FieldAt Tryz.prog 57 8 8 := ⟨_,_, Tryz.underlying57, rfl, rfl, 0, by kernel_rfl⟩
theorem F57_7 : FieldAt Tryz.prog 57 7 7 := ⟨_,_, Tryz.underlying57, rfl, rfl, 0, by kernel_rfl⟩
theorem O54 : IsOne Tryz.prog 54 := ⟨⟨_, Tryz.underlying54, rfl⟩, by kernel_rfl⟩
theorem S54 : IsSlice Tryz.prog 54 53 := Tryz.underlying54
theorem N53 : (Tryz.prog.info? 53).map (·.size) = some 1 := by kernel_rfl
theorem C117 : IsFn Tryz.prog 117 := ⟨_, Tryz.func117, by decide, rfl⟩
theorem S55 : IsSlice Tryz.prog 55 28 := Tryz.underlying55


/-- The slices of the input, as they lie. -/
structure UQ where
  ps : Option Addr
  cs : Nat
  pl : Option Addr
  cl : Nat
  po : Option Addr
  co : Nat
abbrev i16C (n : Int) : List Value := [.int .i16 n]
abbrev u16C (n : Int) : List Value := [.int .u16 n]
abbrev u8C (n : Int) : List Value := [.int .u8 n]
abbrev uxC (x : UX) (q : UQ) : List Value := [.int .u8 x.kind, .int .u8 x.lam, .int .u8 x.first, .int .u8 x.second, .int .u8 x.count, .int .u8 x.gates, .int .i16 x.base, .slice q.ps x.speeds.length q.cs, .int .u16 x.jump, .int .u8 x.slip, .slice q.pl x.slips.length q.cl, .slice q.po x.loud.length q.co]
structure UXw (w : World) (x : UX) (q : UQ) : Prop where
  s : RO 1 i16C w q.ps x.speeds
  l : RO 1 u16C w q.pl x.slips
  o : RO 1 u8C w q.po x.loud
theorem UXw.keep {w0 : World} {x : UX} {q : UQ} (h : UXw w0 x q) {L : List Res} (w : World) (hw : St (bs w0) L w) : UXw w x q := ⟨h.s.keep w hw, h.l.keep w hw, h.o.keep w hw⟩
theorem tmE {a n : Int} (h : 0 ≤ a) : a.tmod n = a % n := Int.tmod_eq_emod_of_nonneg h
theorem tdE {a n : Int} (h : 0 ≤ a) : a.tdiv n = a / n := Int.tdiv_eq_ediv_of_nonneg h
theorem flo_y {a b : Int} (hb : 0 < b) (h : a.tmod b < 0) : a.tdiv b - 1 = a / b := by
  have h1 := Int.tmod_add_mul_tdiv a b
  have h2 := (tmod_bd (a := a) hb).1
  have h3 : a = (a.tmod b + b) + (a.tdiv b - 1) * b := by rw [Int.sub_mul, Int.mul_comm (a.tdiv b) b]; omega
  have h4 : a / b = a.tdiv b - 1 := by
    conv => lhs; rw [h3]
    rw [Int.add_mul_ediv_right _ _ (by omega), Int.ediv_eq_zero_of_lt (by omega) (by omega)]; omega
  exact h4.symm
theorem flo_n {a b : Int} (hb : 0 < b) (h : ¬ a.tmod b < 0) : a.tdiv b = a / b := by
  have h1 := Int.tmod_add_mul_tdiv a b
  have h2 := (tmod_bd (a := a) hb).2
  have h3 : a = a.tmod b + a.tdiv b * b := by rw [Int.mul_comm]; omega
  have h4 : a / b = a.tdiv b := by
    conv => lhs; rw [h3]
    rw [Int.add_mul_ediv_right _ _ (by omega), Int.ediv_eq_zero_of_lt (by omega) (by omega)]; omega
  exact h4.symm
theorem tdv_bd {a b : Int} (hb : 0 < b) (h1 : -9223372036854775807 ≤ a) (h2 : a ≤ 9223372036854775807) : -9223372036854775807 ≤ a.tdiv b ∧ a.tdiv b ≤ 9223372036854775807 := by
  have l : -9223372036854775807 ≤ a / b := (Int.le_ediv_iff_mul_le hb).2 (by omega)
  have u : a / b < 9223372036854775808 := Int.ediv_lt_of_lt_mul hb (by omega)
  by_cases h : a.tmod b < 0
  · have e := flo_y hb h
    have m := Int.tmod_add_mul_tdiv a b
    have n : a < 0 := by
      rcases Int.lt_or_le a 0 with q | q
      · exact q
      · have := Int.tmod_nonneg b q; omega
    have u2 : a / b < 0 := Int.ediv_neg_of_neg_of_pos n hb
    omega
  · have e := flo_n hb h
    omega
theorem prd_bd {a b A B : Int} (h0 : 0 ≤ a) (h1 : a ≤ A) (k0 : -B ≤ b) (k1 : b ≤ B) (hB : 0 ≤ B) : -(A * B) ≤ a * b ∧ a * b ≤ A * B := by
  constructor
  · have e1 : a * (-B) ≤ a * b := Int.mul_le_mul_of_nonneg_left k0 h0
    have e2 : a * B ≤ A * B := Int.mul_le_mul_of_nonneg_right h1 hB
    rw [Int.mul_neg] at e1; omega
  · exact Int.le_trans (Int.mul_le_mul_of_nonneg_left k1 h0) (Int.mul_le_mul_of_nonneg_right h1 hB)
theorem wr_t (p : Int) : (p.tmod 65536 + 65536).tmod 65536 = wr p := by
  have h1 := tmod_bd (a := p) (m := 65536) (by decide)
  have h2 := Int.tmod_add_mul_tdiv p 65536
  rw [tmE (by omega)]
  unfold wr
  generalize p.tmod 65536 = r at *
  generalize p.tdiv 65536 = q at *
  omega
theorem ph_y {t : Train} {v e : Int} {slips : List Int} {j i : Nat} (he : 1 ≤ e) (hs : ∀ s, s ∈ slips → 0 ≤ s ∧ s ≤ 65535) (h : (0 : Int) < slips.length) : ((v * 65536 * timT t i / (500 * t.lam) + ((slips.getD ((j + i) % slips.length) 0).tmod (2 * e - 1) - (e - 1))).tmod 65536 + 65536).tmod 65536 = wr (phA t v (slF e slips j) i) := by
  rw [wr_t]
  have hm : slips.getD ((j + i) % slips.length) 0 ∈ slips := getD_mem (Nat.mod_lt _ (by omega))
  rw [tmE (hs _ hm).1]
  unfold phA slF
  rw [if_neg (by omega)]
theorem ph_n {t : Train} {v e : Int} {slips : List Int} {j i : Nat} (h : ¬ (0 : Int) < slips.length) : ((v * 65536 * timT t i / (500 * t.lam)).tmod 65536 + 65536).tmod 65536 = wr (phA t v (slF e slips j) i) := by
  rw [wr_t]
  unfold phA slF
  rw [if_pos (by omega), Int.add_zero]
theorem tim_y {t : Train} {i : Nat} (hc : 0 ≤ t.count) (h : (t.kind = 2 ∧ (i : Int) ≥ t.count.tdiv 2) ∨ (t.kind = 3 ∧ (i : Int).tmod 2 = 1)) : timT t i + t.second = timT t (i + 1) := by
  show _ = timT t i + timU t i
  unfold timU
  rw [tdE hc, tmE (by omega)] at h
  rw [if_pos (by omega)]
theorem tim_n {t : Train} {i : Nat} (hc : 0 ≤ t.count) (h : ¬ ((t.kind = 2 ∧ (i : Int) ≥ t.count.tdiv 2) ∨ (t.kind = 3 ∧ (i : Int).tmod 2 = 1))) : timT t i + t.first = timT t (i + 1) := by
  show _ = timT t i + timU t i
  unfold timU
  rw [tdE hc, tmE (by omega)] at h
  rw [if_neg (by omega)]
theorem modN (a n : Nat) : (a : Int).tmod (n : Int) = ((a % n : Nat) : Int) := by rw [tmE (by omega)]; rfl

theorem dv_bd {A lam : Int} (h : 60000 ≤ lam) (hA : -(30000 * 2621440000) ≤ A ∧ A ≤ 30000 * 2621440000) : -3000000 ≤ A / (500 * lam) ∧ A / (500 * lam) ≤ 3000000 := by
  constructor
  · refine (Int.le_ediv_iff_mul_le (by omega)).2 ?_
    omega
  · have : A / (500 * lam) < 3000001 := Int.ediv_lt_of_lt_mul (by omega) (by omega)
    omega

set_option maxRecDepth 20000 in
theorem uTrain_c (x : UX) (q : UQ) (w : World) (h : UXok x) :
  Calls Tryz.prog 13 #[.agg (uxC x q).toArray] w fun e w' => e = .returned (trainV (trU x)) ∧ St (bs w) [] w' := by
  have h1 := h.kind
  have h2 := h.lam
  have h3 := h.first
  have h4 := h.second
  have h5 := h.count
  have e1 : x.kind.tmod 3 = x.kind % 3 := tmE h1.1
  have e2 : x.count.tmod 5 = x.count % 5 := tmE h5.1
  refine enter (vs := [_]) (env := [(0,_)]) Tryz.func13 rfl rfl rfl rfl ?_
  refine VC.seq ?_
  refine VC.reg (VO.h rfl<|HO.box (C := #[_,_,_,_,_,_,_,_,_,_,_,_]) rfl rfl fun b1 => VO.h rfl<|HO.alloc (C := #[_,_,_,_,_]) Z23 rfl fun b2 => VO.nil ?_)
  refine VE.seqN ?_
  refine VC.seq ?_
  refine VC.reg (VO.l (LO.fa (r := 1) F57_1 (.r rfl) rfl) rfl<|VO.l (LO.ld O5 (.r rfl) (fun _ hw => cells_at hw 1 rfl ⟨_, rfl⟩)) rfl<|VO.l (LO.cv ⟨_, Tryz.underlying5⟩ Tryz.underlying3 (.r rfl) (wi (by omega) (by omega))) rfl<|VO.l (LO.mul (.r rfl) (.r rfl) (wi (by omega) (by omega))) rfl<|VO.l (LO.add (.r rfl) (.r rfl) (wi (by omega) (by omega))) rfl<|VO.l (LO.fa (r := 0) F57_0 (.r rfl) rfl) rfl<|VO.l (LO.ld O5 (.r rfl) (fun _ hw => cells_at hw 1 rfl ⟨_, rfl⟩)) rfl<|VO.l (LO.cv ⟨_, Tryz.underlying5⟩ Tryz.underlying3 (.r rfl) (wi (by omega) (by omega))) rfl<|VO.l (LO.eqv (LO.rem (.r rfl) (.r rfl) (by decide)) (congrArg (Value.int .i64) e1)) rfl<|VO.l (LO.add (.r rfl) (.r rfl) (wi (by omega) (by omega))) rfl<|VO.l (LO.fa (r := 2) F57_2 (.r rfl) rfl) rfl<|VO.l (LO.ld O5 (.r rfl) (fun _ hw => cells_at hw 1 rfl ⟨_, rfl⟩)) rfl<|VO.l (LO.cv ⟨_, Tryz.underlying5⟩ Tryz.underlying3 (.r rfl) (wi (by omega) (by omega))) rfl<|VO.l (LO.mul (.r rfl) (.r rfl) (wi (by omega) (by omega))) rfl<|VO.l (LO.add (.r rfl) (.r rfl) (wi (by omega) (by omega))) rfl<|VO.l (LO.fa (r := 4) F57_4 (.r rfl) rfl) rfl<|VO.l (LO.ld O5 (.r rfl) (fun _ hw => cells_at hw 1 rfl ⟨_, rfl⟩)) rfl<|VO.l (LO.cv ⟨_, Tryz.underlying5⟩ Tryz.underlying3 (.r rfl) (wi (by omega) (by omega))) rfl<|VO.l (LO.eqv (LO.rem (.r rfl) (.r rfl) (by decide)) (congrArg (Value.int .i64) e2)) rfl<|VO.l (LO.mul (.r rfl) (.r rfl) (wi (by omega) (by omega))) rfl<|VO.l (LO.add (.r rfl) (.r rfl) (wi (by omega) (by omega))) rfl<|VO.l (LO.bd (ps := [(_,_), (_,_), (_,_), (_,_)]) (vs := [(_,_), (_,_), (_,_), (_,_)]) (C := [_,_,_,_,_]) B23  ⟨(.r rfl), (.r rfl), (.r rfl), (.r rfl), trivial⟩ rfl ⟨_, [_], [_,_,_,_,_], rfl, rfl, rfl, rfl, ⟨_, [_], [_,_,_,_,_], rfl, rfl, rfl, rfl, ⟨_, [_], [_,_,_,_,_], rfl, rfl, rfl, rfl, ⟨_, [_], [_,_,_,_,_], rfl, rfl, rfl, rfl, rfl⟩⟩⟩⟩) rfl<|VO.h rfl<|HO.alloc (C := #[_,_,_,_,_]) Z23 rfl fun b3 => VO.h0<|HO.st 0 (vs := [_,_,_,_,_]) (C' := [_,_,_,_,_]) (L' := [_,_,_]) N23 rfl rfl rfl rfl rfl rfl rfl rfl<|VO.nil ?_)
  refine VE.seqN ?_
  refine VC.seq ?_
  refine VC.seq ?_
  refine VC.reg (VO.l (LO.fa (r := 1) F23_1 (.r rfl) rfl) rfl<|VO.l (LO.ld O3 (.r rfl) (fun _ hw => cells_at hw 0 rfl ⟨_, rfl⟩)) rfl<|VO.l (LO.ne (.r rfl) (.r rfl)) rfl<|VO.nil ?_)
  refine VE.seqN ?_
  refine VC.cond rfl (fun h28 => ?_) (fun h28 => ?_)
  ·
    refine VC.reg (VO.l (LO.fa (r := 2) F23_2 (.r rfl) rfl) rfl<|VO.l (LO.ld O3 (.r rfl) (fun _ hw => cells_at hw 0 rfl ⟨_, rfl⟩)) rfl<|VO.l (LO.add (.r rfl) (.r rfl) (wi (by omega) (by omega))) rfl<|VO.l (LO.fa (r := 3) F57_3 (.r rfl) rfl) rfl<|VO.l (LO.ld O5 (.r rfl) (fun _ hw => cells_at hw 2 rfl ⟨_, rfl⟩)) rfl<|VO.l (LO.cv ⟨_, Tryz.underlying5⟩ Tryz.underlying3 (.r rfl) (wi (by omega) (by omega))) rfl<|VO.l (LO.mul (.r rfl) (.r rfl) (wi (by omega) (by omega))) rfl<|VO.l (LO.add (.r rfl) (.r rfl) (wi (by omega) (by omega))) rfl<|VO.l (LO.fa (r := 3) F23_3 (.r rfl) rfl) rfl<|VO.h0<|HO.st 0 (vs := [_]) (C' := [_,_,_,_,_]) (L' := [_,_,_]) N3 rfl rfl rfl rfl rfl rfl rfl rfl<|VO.nil ?_)
    refine VE.seqN ?_
    refine VC.seq ?_
    refine VC.reg (VO.l (LO.lda (vs := [_,_,_,_,_]) A23 (.r rfl) (fun _ hw => cells_at hw 0 rfl ⟨_, rfl⟩) rfl) rfl<|VO.h0<|HO.st 1 (vs := [_,_,_,_,_]) (C' := [_,_,_,_,_]) (L' := [_,_,_]) N23 rfl rfl rfl rfl rfl rfl rfl rfl<|VO.nil ?_)
    refine VE.seqN ?_
    refine VC.ret (VE.res (vs := [_]) rfl ⟨RV.agg (vs := [_,_,_,_,_]) A23 rfl (cells_blk 1 rfl ⟨_, rfl⟩) rfl, trivial⟩ (fun w hw => ?_))
    refine ⟨?_, hw.nil⟩
    unfold trU
    first | (rw [if_neg h28]; rfl) | (rw [if_pos (Classical.not_not.1 h28)]; rfl)
  ·
    refine VC.skip (VE.seqN ?_)
    refine VC.seq ?_
    refine VC.reg (VO.l (LO.lda (vs := [_,_,_,_,_]) A23 (.r rfl) (fun _ hw => cells_at hw 0 rfl ⟨_, rfl⟩) rfl) rfl<|VO.h0<|HO.st 1 (vs := [_,_,_,_,_]) (C' := [_,_,_,_,_]) (L' := [_,_,_]) N23 rfl rfl rfl rfl rfl rfl rfl rfl<|VO.nil ?_)
    refine VE.seqN ?_
    refine VC.ret (VE.res (vs := [_]) rfl ⟨RV.agg (vs := [_,_,_,_,_]) A23 rfl (cells_blk 1 rfl ⟨_, rfl⟩) rfl, trivial⟩ (fun w hw => ?_))
    refine ⟨?_, hw.nil⟩
    unfold trU
    first | (rw [if_neg h28]; rfl) | (rw [if_pos (Classical.not_not.1 h28)]; rfl)

set_option maxRecDepth 20000 in
theorem uSlip_c (x : UX) (q : UQ) (w : World) (h : UXok x) :
  Calls Tryz.prog 51 #[.agg (uxC x q).toArray] w fun e w' => e = .returned (.int .i64 (slipU x)) ∧ St (bs w) [] w' := by
  have h1 := h.slip
  have e1 : x.slip.tmod 17 = x.slip % 17 := tmE h1.1
  refine enter (vs := [_]) (env := [(0,_)]) Tryz.func51 rfl rfl rfl rfl ?_
  refine VC.seq ?_
  refine VC.reg (VO.h rfl<|HO.box (C := #[_,_,_,_,_,_,_,_,_,_,_,_]) rfl rfl fun b1 => VO.l (LO.as (.r rfl)) rfl<|VO.nil ?_)
  refine VE.seqN ?_
  refine VC.seq ?_
  refine VC.reg (VO.l (LO.fa (r := 9) F57_9 (.r rfl) rfl) rfl<|VO.l (LO.ld O5 (.r rfl) (fun _ hw => cells_at hw 0 rfl ⟨_, rfl⟩)) rfl<|VO.l (LO.cv ⟨_, Tryz.underlying5⟩ Tryz.underlying3 (.r rfl) (wi (by omega) (by omega))) rfl<|VO.l (LO.eqv (LO.rem (.r rfl) (.r rfl) (by decide)) (congrArg (Value.int .i64) e1)) rfl<|VO.l (LO.mul (.r rfl) (.r rfl) (wi (by omega) (by omega))) rfl<|VO.l (LO.add (.r rfl) (.r rfl) (wi (by omega) (by omega))) rfl<|VO.l (LO.as (.r rfl)) rfl<|VO.nil ?_)
  refine VE.seqN ?_
  refine VC.ret (VE.res (vs := [_]) rfl ⟨rfl, trivial⟩ (fun w hw => ?_))
  exact ⟨rfl, hw.nil⟩

set_option maxRecDepth 20000 in
theorem floored_c (a b b2 : Int) (w : World) (he : b2 = b) (h1 : -9223372036854775807 ≤ a) (h2 : a ≤ 9223372036854775807) (hb : 0 < b) :
  Calls Tryz.prog 117 #[.int .i64 a, .int .i64 b2] w fun e w' => e = .returned (.int .i64 (a / b)) ∧ St (bs w) [] w' := by
  subst he
  have hq := tdv_bd hb h1 h2
  have hq2 : a.tmod b2 < 0 → a.tdiv b2 - 1 = a / b2 := flo_y hb
  have hq3 : -9223372036854775807 ≤ a / b2 := (Int.le_ediv_iff_mul_le hb).2 (by omega)
  refine enter (vs := [_,_]) (env := [(0,_), (1,_)]) Tryz.func117 rfl rfl rfl rfl ?_
  refine VC.seq ?_
  refine VC.reg (VO.l (LO.as (.r rfl)) rfl<|VO.nil ?_)
  refine VE.seqN ?_
  refine VC.seq ?_
  refine VC.reg (VO.l (LO.mv (.r rfl)) rfl<|VO.l (LO.mv (.r rfl)) rfl<|VO.l (LO.quo (.r rfl) (.r rfl) (by omega) (wi (by omega) (by omega))) rfl<|VO.l (LO.as (.r rfl)) rfl<|VO.nil ?_)
  refine VE.seqN ?_
  refine VC.seq ?_
  refine VC.seq ?_
  refine VC.reg (VO.l (LO.mv (.r rfl)) rfl<|VO.l (LO.mv (.r rfl)) rfl<|VO.l (LO.rem (.r rfl) (.r rfl) (by omega)) rfl<|VO.l (LO.lt (.r rfl) (.r rfl)) rfl<|VO.nil ?_)
  refine VE.seqN ?_
  refine VC.cond rfl (fun h12 => ?_) (fun h12 => ?_)
  ·
    refine VC.reg (VO.l (LO.mv (.r rfl)) rfl<|VO.l (LO.sub (.r rfl) (.r rfl) (wi (by have := hq2 h12; omega) (by omega))) rfl<|VO.l (LO.as (.r rfl)) rfl<|VO.nil ?_)
    refine VE.seqN ?_
    refine VC.seq ?_
    refine VC.reg (VO.l (LO.mv (.r rfl)) rfl<|VO.l (LO.as (.r rfl)) rfl<|VO.nil ?_)
    refine VE.seqN ?_
    refine VC.ret (VE.res (vs := [_]) rfl ⟨rfl, trivial⟩ (fun w hw => ?_))
    first | exact ⟨by rw [← flo_y hb h12]; rfl, hw.nil⟩ | exact ⟨by rw [← flo_n hb h12]; rfl, hw.nil⟩
  ·
    refine VC.skip (VE.seqN ?_)
    refine VC.seq ?_
    refine VC.reg (VO.l (LO.mv (.r rfl)) rfl<|VO.l (LO.as (.r rfl)) rfl<|VO.nil ?_)
    refine VE.seqN ?_
    refine VC.ret (VE.res (vs := [_]) rfl ⟨rfl, trivial⟩ (fun w hw => ?_))
    first | exact ⟨by rw [← flo_y hb h12]; rfl, hw.nil⟩ | exact ⟨by rw [← flo_n hb h12]; rfl, hw.nil⟩

set_option maxRecDepth 20000 in
theorem uSpeed_c (x : UX) (q : UQ) (i : Nat) (w : World) (h : UXok x) (hx : UXw w x q) (hi : i < 1000000) :
  Calls Tryz.prog 16 #[.agg (uxC x q).toArray, .int .i64 (i : Nat)] w fun e w' => e = .returned (.int .i64 (spdU x i)) ∧ St (bs w) [] w' := by
  have h1 := h.base
  have h2 := h.jump
  have hj := jmpU_bd h
  have e1 : x.jump.tmod 9000 = jmpU x := tmE h2.1
  have e2 : (jmpU x).tdiv 2 = jmpU x / 2 := tdE hj.1
  have e3 : (jmpU x).tdiv 4 = jmpU x / 4 := tdE hj.1
  refine enter (vs := [_,_]) (env := [(0,_), (1,_)]) Tryz.func16 rfl rfl rfl rfl ?_
  refine VC.seq ?_
  refine VC.reg (VO.h rfl<|HO.box (C := #[_,_,_,_,_,_,_,_,_,_,_,_]) rfl rfl fun b1 => VO.l (LO.as (.r rfl)) rfl<|VO.nil ?_)
  refine VE.seqN ?_
  refine VC.seq ?_
  refine VC.draw mixed (LL.l (LO.fa (r := 6) F57_6 (.r rfl) rfl) rfl<|LL.l (LO.ld O53 (.r rfl) (fun _ hw => cells_at hw 0 rfl ⟨_, rfl⟩)) rfl<|LL.l (LO.cv ⟨_, Tryz.underlying53⟩ Tryz.underlying3 (.r rfl) (wi (by omega) (by omega))) rfl<|LL.l (LO.fa (r := 8) F57_8 (.r rfl) rfl) rfl<|LL.l (LO.ld O28 (.r rfl) (fun _ hw => cells_at hw 0 rfl ⟨_, rfl⟩)) rfl<|LL.l (LO.cv ⟨_, Tryz.underlying28⟩ Tryz.underlying3 (.r rfl) (wi (by omega) (by omega))) rfl<|LL.l (LO.eqv (LO.rem (.r rfl) (.r rfl) (by decide)) (congrArg (Value.int .i64) e1)) rfl<|LL.l (LO.as (.r rfl)) rfl<|LL.l (LO.as (.r rfl)) rfl<|LL.nil) (by kernel_rfl) ?_
  refine VE.seqN ?_
  refine VC.seq ?_
  refine VC.seq ?_
  refine VC.reg (VO.l (LO.fa (r := 7) F57_7 (.r rfl) rfl) rfl<|VO.l (LO.ld O54 (.r rfl) (fun _ hw => cells_at hw 0 rfl ⟨_, rfl⟩)) rfl<|VO.l (LO.len S54 (.r rfl) rfl) rfl<|VO.l (LO.gt (.r rfl) (.r rfl)) rfl<|VO.nil ?_)
  refine VE.seqN ?_
  refine VC.cond rfl (fun h17 => ?_) (fun h17 => ?_)
  ·
    refine VC.draw mixed (LL.l (LO.mv (.r rfl)) rfl<|LL.l (LO.fa (r := 7) F57_7 (.r rfl) rfl) rfl<|LL.l (LO.ld O54 (.r rfl) (fun _ hw => cells_at hw 0 rfl ⟨_, rfl⟩)) rfl<|LL.l (LO.mv (.r rfl)) rfl<|LL.l (LO.fa (r := 7) F57_7 (.r rfl) rfl) rfl<|LL.l (LO.ld O54 (.r rfl) (fun _ hw => cells_at hw 0 rfl ⟨_, rfl⟩)) rfl<|LL.l (LO.len S54 (.r rfl) rfl) rfl<|LL.l (LO.rem (.r rfl) (.r rfl) (by omega)) rfl<|LL.l (LO.ixs S54 N53 hx.s.sm (.r rfl) (.r rfl) (j := i % x.speeds.length) (modN _ _) (Nat.mod_lt _ (by omega))) rfl<|LL.l (LO.ld O53 (.r rfl) (fun w hw => cells_part (off := 0) ((hx.s.at (0 : Int) (j := i % x.speeds.length) (Nat.mod_lt _ (by omega))) w hw) ⟨_, rfl⟩)) rfl<|LL.l (LO.cv ⟨_, Tryz.underlying53⟩ Tryz.underlying3 (.r rfl) (wi (by have := h.speeds _ (getD_mem (d := (0 : Int)) (Nat.mod_lt i (show 0 < x.speeds.length by omega))); omega) (by have := h.speeds _ (getD_mem (d := (0 : Int)) (Nat.mod_lt i (show 0 < x.speeds.length by omega))); omega))) rfl<|LL.l (LO.mv (.r rfl)) rfl<|LL.l (LO.eqv (LO.quo (.r rfl) (.r rfl) (by decide) (wi (by rw [e2]; omega) (by rw [e2]; omega))) (congrArg (Value.int .i64) e2)) rfl<|LL.l (LO.add (.r rfl) (.r rfl) (wi (by omega) (by omega))) rfl<|LL.l (LO.rem (.r rfl) (.r rfl) (by omega)) rfl<|LL.l (LO.mv (.r rfl)) rfl<|LL.l (LO.eqv (LO.quo (.r rfl) (.r rfl) (by decide) (wi (by rw [e3]; omega) (by rw [e3]; omega))) (congrArg (Value.int .i64) e3)) rfl<|LL.l (LO.sub (.r rfl) (.r rfl) (wi (by have := tmod_bd (a := x.speeds.getD (i % x.speeds.length) 0) (show 0 < jmpU x / 2 + 1 by omega); omega) (by have := tmod_bd (a := x.speeds.getD (i % x.speeds.length) 0) (show 0 < jmpU x / 2 + 1 by omega); omega))) rfl<|LL.l (LO.add (.r rfl) (.r rfl) (wi (by have := tmod_bd (a := x.speeds.getD (i % x.speeds.length) 0) (show 0 < jmpU x / 2 + 1 by omega); omega) (by have := tmod_bd (a := x.speeds.getD (i % x.speeds.length) 0) (show 0 < jmpU x / 2 + 1 by omega); omega))) rfl<|LL.l (LO.as (.r rfl)) rfl<|LL.nil) (by kernel_rfl) ?_
    refine VE.seqN ?_
    refine VC.seq ?_
    refine VC.reg (VO.l (LO.mv (.r rfl)) rfl<|VO.l (LO.as (.r rfl)) rfl<|VO.nil ?_)
    refine VE.seqN ?_
    refine VC.ret (VE.res (vs := [_]) rfl ⟨rfl, trivial⟩ (fun w hw => ?_))
    refine ⟨?_, hw.nil⟩
    unfold spdU
    first | (rw [if_neg (by omega)]; rfl) | (rw [if_pos (by omega)]; rfl)
  ·
    refine VC.skip (VE.seqN ?_)
    refine VC.seq ?_
    refine VC.reg (VO.l (LO.mv (.r rfl)) rfl<|VO.l (LO.as (.r rfl)) rfl<|VO.nil ?_)
    refine VE.seqN ?_
    refine VC.ret (VE.res (vs := [_]) rfl ⟨rfl, trivial⟩ (fun w hw => ?_))
    refine ⟨?_, hw.nil⟩
    unfold spdU
    first | (rw [if_neg (by omega)]; rfl) | (rw [if_pos (by omega)]; rfl)

set_option maxRecDepth 20000 in
set_option maxHeartbeats 1000000 in
theorem phases_c (t : Train) (v loud l2 e : Int) (slips : List Int) (j : Nat) (pl : Option Addr) (cl : Nat) (w : World) (hT : TrU t) (hv : -40000 ≤ v ∧ v ≤ 40000) (hlo : l2 = loud) (he : 1 ≤ e ∧ e ≤ 1000) (hs : ∀ s, s ∈ slips → 0 ≤ s ∧ s ≤ 65535) (hj : j < 1000000) (hl : RO 1 u16C w pl slips) :
  Calls Tryz.prog 52 #[trainV t, .int .i64 v, .int .i64 1, .int .i64 l2, .int .i64 e, .slice pl slips.length cl, .int .i64 (j : Nat)] w fun e0 w' => ∃ y : Option Addr × Nat, True ∧ e0 = .returned (.slice y.1 (phL t v loud e slips j).length y.2) ∧ St (bs w) [own 50 4 y.1 y.2 ((phL t v loud e slips j).map smpC)] w' := by
  subst hlo
  have hlam := hT.lam
  have hct := hT.count
  have hfi := hT.first
  have hsec : 0 ≤ t.second ∧ t.second ≤ 2441 := by (by_cases q : t.kind = 1; (· have := hT.one q; omega); (· have := hT.two q; omega))
  refine enter (vs := [_,_,_,_,_,_,_]) (env := [(0,_), (1,_), (2,_), (3,_), (4,_), (5,_), (6,_)]) Tryz.func52 rfl rfl rfl rfl ?_
  refine VC.seq ?_
  refine VC.reg (VO.h rfl<|HO.box (C := #[_,_,_,_,_]) rfl rfl fun b1 => VO.l (LO.as (.r rfl)) rfl<|VO.nil ?_)
  refine VE.seqN ?_
  refine VC.seq ?_
  refine VC.reg (VO.l (LO.as (.r rfl)) rfl<|VO.nil ?_)
  refine VE.seqN ?_
  refine VC.seq ?_
  refine VC.reg (VO.l (LO.as (.r rfl)) rfl<|VO.nil ?_)
  refine VE.seqN ?_
  refine VC.seq ?_
  refine VC.seq ?_
  refine VC.reg (VO.l (LO.as (.r rfl)) rfl<|VO.nil ?_)
  refine VE.seqN ?_
  refine VC.block ?_
  refine VC.loopK (α := Nat × (List Sample) × (Option Addr) × Nat) 0 (fun gx => [(15, .slice gx.2.2.1 gx.2.1.length gx.2.2.2), (16, .int .i64 (timT t gx.1)), (17, .int .i64 (gx.1 : Nat))]) [(1,_), (2,_), (3,_), (4,_), (5,_), (6,_), (7,_)] (fun gx => [own 50 4 gx.2.2.1 gx.2.2.2 (gx.2.1.map smpC)]) (fun gx => (gx.1 : Int) ≤ t.count ∧ gx.2.1 = phN t v l2 e slips j gx.1) (fun gx => t.count.toNat - gx.1) (0, [], none, 0) (by exact ⟨by dsimp only; omega, rfl⟩) (.cons rfl (.cons rfl (.cons rfl (.cons rfl (.cons rfl (.cons rfl (.cons rfl (.cons rfl (.cons rfl (.cons rfl .nil)))))))))) (fun _ h => (h.ownNil 50 4)) ?_
  rintro ⟨i, o, po, co⟩ ⟨hi, ho⟩
  show VC _ _ _ _ _ ([(15, .slice po o.length co), (16, .int .i64 (timT t i)), (17, .int .i64 (i : Nat))] ++ _) ([own 50 4 po co (o.map smpC)] ++ _) _ _
  dsimp only at hi ho
  have hol : o.length = i := by rw [ho, phN_len]
  have htm := timT_bd hT i
  have hvt := prd_bd (a := timT t i) (b := v * 65536) (A := 30000) (B := 2621440000) (by omega) (by omega) (by omega) (by omega) (by decide)
  rw [Int.mul_comm (timT t i)] at hvt
  have hdv : -3000000 ≤ v * 65536 * timT t i / (500 * t.lam) ∧ v * 65536 * timT t i / (500 * t.lam) ≤ 3000000 := dv_bd hlam.1 hvt
  refine VC.seq ?_
  refine VC.seq ?_
  refine VC.reg (VO.l (LO.mv (.r rfl)) rfl<|VO.l (LO.fa (r := 4) F23_4 (.r rfl) rfl) rfl<|VO.l (LO.ld O3 (.r rfl) (fun _ hw => cells_at hw 1 rfl ⟨_, rfl⟩)) rfl<|VO.l (LO.lt (.r rfl) (.r rfl)) rfl<|VO.nil ?_)
  refine VE.seqN ?_
  refine VC.cond rfl (fun h23 => ?_) (fun h23 => ?_)
  ·
    refine VC.skip (VE.seqN ?_)
    refine VC.seq ?_
    refine VC.block ?_
    refine VC.seq ?_
    refine VC.reg (VO.l (LO.mv (.r rfl)) rfl<|VO.l (LO.mul (.r rfl) (.r rfl) (wi (by omega) (by omega))) rfl<|VO.l (LO.mv (.r rfl)) rfl<|VO.l (LO.mul (.r rfl) (.r rfl) (wi (by omega) (by omega))) rfl<|VO.l (LO.mv (.r rfl)) rfl<|VO.l (LO.mul (.r rfl) (.r rfl) (wi (by omega) (by omega))) rfl<|VO.l (LO.fa (r := 0) F23_0 (.r rfl) rfl) rfl<|VO.l (LO.ld O3 (.r rfl) (fun _ hw => cells_at hw 1 rfl ⟨_, rfl⟩)) rfl<|VO.l (LO.mul (.r rfl) (.r rfl) (wi (by omega) (by omega))) rfl<|VO.l (LO.call (xs := [_,_]) (vs := [_,_]) C117 ⟨(.r rfl), (.r rfl), trivial⟩ (fun w _ => floored_c (v * 65536 * timT t i) (500 * t.lam) (1 * 500 * t.lam) w (by omega) (by omega) (by omega) (by omega))) rfl<|VO.l (LO.as (.r rfl)) rfl<|VO.nil ?_)
    refine VE.seqN ?_
    refine VC.seq ?_
    refine VC.seq ?_
    refine VC.reg (VO.l (LO.mv (.r rfl)) rfl<|VO.l (LO.len S55 (.r rfl) rfl) rfl<|VO.l (LO.gt (.r rfl) (.r rfl)) rfl<|VO.nil ?_)
    refine VE.seqN ?_
    refine VC.cond rfl (fun h38 => ?_) (fun h38 => ?_)
    ·
      have hsm := hs _ (getD_mem (d := (0 : Int)) (Nat.mod_lt (j + i) (show 0 < slips.length by omega)))
      have hsm2 := tmod_bd (a := slips.getD ((j + i) % slips.length) 0) (show 0 < 2 * e - 1 by omega)
      refine VC.reg (VO.l (LO.mv (.r rfl)) rfl<|VO.l (LO.mv (.r rfl)) rfl<|VO.l (LO.mv (.r rfl)) rfl<|VO.l (LO.mv (.r rfl)) rfl<|VO.l (LO.add (.r rfl) (.r rfl) (wi (by omega) (by omega))) rfl<|VO.l (LO.mv (.r rfl)) rfl<|VO.l (LO.len S55 (.r rfl) rfl) rfl<|VO.l (LO.rem (.r rfl) (.r rfl) (by omega)) rfl<|VO.l (LO.ixs S55 N28 hl.sm (.r rfl) (.r rfl) (j := (j + i) % slips.length) (mod_nat _ _ _) (Nat.mod_lt _ (by omega))) rfl<|VO.l (LO.ld O28 (.r rfl) (fun w hw => cells_part (off := 0) ((hl.at (0 : Int) (j := (j + i) % slips.length) (Nat.mod_lt _ (by omega))) w hw) ⟨_, rfl⟩)) rfl<|VO.l (LO.cv ⟨_, Tryz.underlying28⟩ Tryz.underlying3 (.r rfl) (wi (by omega) (by omega))) rfl<|VO.l (LO.mv (.r rfl)) rfl<|VO.l (LO.mul (.r rfl) (.r rfl) (wi (by omega) (by omega))) rfl<|VO.l (LO.sub (.r rfl) (.r rfl) (wi (by omega) (by omega))) rfl<|VO.l (LO.rem (.r rfl) (.r rfl) (by omega)) rfl<|VO.l (LO.mv (.r rfl)) rfl<|VO.l (LO.sub (.r rfl) (.r rfl) (wi (by omega) (by omega))) rfl<|VO.l (LO.sub (.r rfl) (.r rfl) (wi (by omega) (by omega))) rfl<|VO.l (LO.add (.r rfl) (.r rfl) (wi (by omega) (by omega))) rfl<|VO.l (LO.as (.r rfl)) rfl<|VO.nil ?_)
      refine VE.seqN ?_
      refine VC.seq ?_
      have hp9 : ∀ p : Int, -65535 ≤ p.tmod 65536 ∧ p.tmod 65536 ≤ 65535 := fun p => by have := tmod_bd (a := p) (m := 65536) (by decide); omega
      have hp8 := hp9 (v * 65536 * timT t i / (500 * t.lam))
      have hp7 := hp9 (v * 65536 * timT t i / (500 * t.lam) + ((slips.getD ((j + i) % slips.length) 0).tmod (2 * e - 1) - (e - 1)))
      refine VC.reg (VO.l (LO.mv (.r rfl)) rfl<|VO.l (LO.rem (.r rfl) (.r rfl) (by omega)) rfl<|VO.l (LO.add (.r rfl) (.r rfl) (wi (by omega) (by omega))) rfl<|VO.l (LO.eqv (LO.rem (.r rfl) (.r rfl) (by decide)) (congrArg (Value.int .i64) (ph_y he.1 hs h38))) rfl<|VO.l (LO.as (.r rfl)) rfl<|VO.nil ?_)
      refine VE.seqN ?_
      refine VC.seq ?_
      refine VC.reg (VO.l (LO.mv (.r rfl)) rfl<|VO.l (LO.mv (.r rfl)) rfl<|VO.l (LO.mv (.r rfl)) rfl<|VO.l (LO.mv (.r rfl)) rfl<|VO.l (LO.mv (.r rfl)) rfl<|VO.l (LO.bd (ps := [(_,_), (_,_), (_,_), (_,_)]) (vs := [(_,_), (_,_), (_,_), (_,_)]) (C := [_,_,_,_]) B50  ⟨(.r rfl), (.r rfl), (.r rfl), (.r rfl), trivial⟩ rfl ⟨_, [_], [_,_,_,_], rfl, rfl, rfl, rfl, ⟨_, [_], [_,_,_,_], rfl, rfl, rfl, rfl, ⟨_, [_], [_,_,_,_], rfl, rfl, rfl, rfl, ⟨_, [_], [_,_,_,_], rfl, rfl, rfl, rfl, rfl⟩⟩⟩⟩) rfl<|VO.h rfl<|HO.bs (ps := [(_,_)]) (vs := [(_,_)]) (Z := [_,_,_,_]) (C := [_,_,_,_]) S40 Z50 N50 ⟨(.r rfl), trivial⟩ rfl rfl rfl rfl ⟨_, [_,_,_,_], [_,_,_,_], rfl, rfl, rfl, rfl, rfl⟩ fun b3 => VO.h rfl<|HO.appT ((phS t v l2 e slips j i)) 1 0 (fun R => [_, R,_]) S40 S40 I50 (.r rfl) (.r rfl) rfl rfl rfl rfl rfl rfl rfl (fun _ => rfl) rfl (by omega) fun p7 c7 => VO.h rfl<|HO.lo (LO.as (.r rfl))<|VO.nil ?_)
      refine VE.seqN ?_
      refine VC.seq ?_
      refine VC.reg (VO.l (LO.fa (r := 1) F23_1 (.r rfl) rfl) rfl<|VO.l (LO.ld O3 (.r rfl) (fun _ hw => cells_at hw 2 rfl ⟨_, rfl⟩)) rfl<|VO.l (LO.eq (.r rfl) (.r rfl)) rfl<|VO.l (LO.mv (.r rfl)) rfl<|VO.lg rfl rfl (GD.t _) (fun hg => LO.mv (.r rfl)) rfl<|VO.lg rfl rfl (GD.t _) (fun hg => LO.fa (r := 4) F23_4 (.r rfl) rfl) rfl<|VO.lg rfl rfl (GD.t _) (fun hg => LO.ld O3 (.g hg rfl) (fun _ hw => cells_at hw 2 rfl ⟨_, rfl⟩)) rfl<|VO.lg rfl rfl (GD.t _) (fun hg => LO.quo (.g hg rfl) (.r rfl) (by decide) (wi (by rw [tdE (by omega)]; omega) (by rw [tdE (by omega)]; omega))) rfl<|VO.lg rfl rfl (GD.t _) (fun hg => LO.ge (.g hg rfl) (.g hg rfl)) rfl<|VO.l (LO.pkA (.r rfl) rfl rfl (.r rfl)) rfl<|VO.l (LO.mv (.r rfl)) rfl<|VO.lg rfl rfl (GD.f _) (fun hg => LO.fa (r := 1) F23_1 (.r rfl) rfl) rfl<|VO.lg rfl rfl (GD.f _) (fun hg => LO.ld O3 (.g hg rfl) (fun _ hw => cells_at hw 2 rfl ⟨_, rfl⟩)) rfl<|VO.lg rfl rfl (GD.f _) (fun hg => LO.eq (.g hg rfl) (.r rfl)) rfl<|VO.lg rfl rfl (GD.f _) (fun hg => LO.mv (.g hg rfl)) rfl<|VO.lg rfl rfl (GD.nt _ _) (fun hg => LO.mv (.r rfl)) rfl<|VO.lg rfl rfl (GD.nt _ _) (fun hg => LO.rem (.g hg rfl) (.r rfl) (by omega)) rfl<|VO.lg rfl rfl (GD.nt _ _) (fun hg => LO.eq (.g hg rfl) (.r rfl)) rfl<|VO.lg rfl rfl (GD.f _) (fun hg => LO.pkA (.g hg rfl) rfl (and_e hg) (.r rfl)) rfl<|VO.l (LO.pkO (.r rfl) (.r rfl) rfl rfl) rfl<|VO.l (LO.as (.r rfl)) rfl<|VO.nil ?_)
      refine VE.seqN ?_
      refine VC.seq ?_
      refine VC.reg (VO.l (LO.mv (.r rfl)) rfl<|VO.nil ?_)
      refine VE.seqN ?_
      refine VC.cond rfl (fun h90 => ?_) (fun h90 => ?_)
      ·
        refine VC.reg (VO.l (LO.mv (.r rfl)) rfl<|VO.l (LO.fa (r := 3) F23_3 (.r rfl) rfl) rfl<|VO.l (LO.ld O3 (.r rfl) (fun _ hw => cells_at hw 2 rfl ⟨_, rfl⟩)) rfl<|VO.l (LO.add (.r rfl) (.r rfl) (wi (by omega) (by omega))) rfl<|VO.l (LO.as (.r rfl)) rfl<|VO.nil ?_)
        refine VE.inN (VE.seqN ?_)
        refine VC.reg (VO.l (LO.mv (.r rfl)) rfl<|VO.l (LO.add (.r rfl) (.r rfl) (wi (by omega) (by omega))) rfl<|VO.l (LO.as (.r rfl)) rfl<|VO.nil ?_)
        refine VE.thenN fun a w ha hw => ⟨(i + 1, o ++ [(phS t v l2 e slips j i)], p7, c7), ⟨by dsimp only; omega, by dsimp only; rw [ho, phN_1]⟩, (by dsimp only; omega), ha.sub (.cons rfl (.cons (congrArg (fun z => some (Value.int .i64 z)) (tim_y (by omega) h90)) (.cons rfl (.cons rfl (.cons rfl (.cons rfl (.cons rfl (.cons rfl (.cons rfl (.cons rfl .nil)))))))))), hw.sel [1,2] rfl⟩
      ·
        refine VC.reg (VO.l (LO.mv (.r rfl)) rfl<|VO.l (LO.fa (r := 2) F23_2 (.r rfl) rfl) rfl<|VO.l (LO.ld O3 (.r rfl) (fun _ hw => cells_at hw 2 rfl ⟨_, rfl⟩)) rfl<|VO.l (LO.add (.r rfl) (.r rfl) (wi (by omega) (by omega))) rfl<|VO.l (LO.as (.r rfl)) rfl<|VO.nil ?_)
        refine VE.inN (VE.seqN ?_)
        refine VC.reg (VO.l (LO.mv (.r rfl)) rfl<|VO.l (LO.add (.r rfl) (.r rfl) (wi (by omega) (by omega))) rfl<|VO.l (LO.as (.r rfl)) rfl<|VO.nil ?_)
        refine VE.thenN fun a w ha hw => ⟨(i + 1, o ++ [(phS t v l2 e slips j i)], p7, c7), ⟨by dsimp only; omega, by dsimp only; rw [ho, phN_1]⟩, (by dsimp only; omega), ha.sub (.cons rfl (.cons (congrArg (fun z => some (Value.int .i64 z)) (tim_n (by omega) h90)) (.cons rfl (.cons rfl (.cons rfl (.cons rfl (.cons rfl (.cons rfl (.cons rfl (.cons rfl .nil)))))))))), hw.sel [1,2] rfl⟩
    ·
      refine VC.skip (VE.seqN ?_)
      refine VC.seq ?_
      have hp9 : ∀ p : Int, -65535 ≤ p.tmod 65536 ∧ p.tmod 65536 ≤ 65535 := fun p => by have := tmod_bd (a := p) (m := 65536) (by decide); omega
      have hp8 := hp9 (v * 65536 * timT t i / (500 * t.lam))
      have hp7 := hp9 (v * 65536 * timT t i / (500 * t.lam) + ((slips.getD ((j + i) % slips.length) 0).tmod (2 * e - 1) - (e - 1)))
      refine VC.reg (VO.l (LO.mv (.r rfl)) rfl<|VO.l (LO.rem (.r rfl) (.r rfl) (by omega)) rfl<|VO.l (LO.add (.r rfl) (.r rfl) (wi (by omega) (by omega))) rfl<|VO.l (LO.eqv (LO.rem (.r rfl) (.r rfl) (by decide)) (congrArg (Value.int .i64) (ph_n (e := e) (j := j) h38))) rfl<|VO.l (LO.as (.r rfl)) rfl<|VO.nil ?_)
      refine VE.seqN ?_
      refine VC.seq ?_
      refine VC.reg (VO.l (LO.mv (.r rfl)) rfl<|VO.l (LO.mv (.r rfl)) rfl<|VO.l (LO.mv (.r rfl)) rfl<|VO.l (LO.mv (.r rfl)) rfl<|VO.l (LO.mv (.r rfl)) rfl<|VO.l (LO.bd (ps := [(_,_), (_,_), (_,_), (_,_)]) (vs := [(_,_), (_,_), (_,_), (_,_)]) (C := [_,_,_,_]) B50  ⟨(.r rfl), (.r rfl), (.r rfl), (.r rfl), trivial⟩ rfl ⟨_, [_], [_,_,_,_], rfl, rfl, rfl, rfl, ⟨_, [_], [_,_,_,_], rfl, rfl, rfl, rfl, ⟨_, [_], [_,_,_,_], rfl, rfl, rfl, rfl, ⟨_, [_], [_,_,_,_], rfl, rfl, rfl, rfl, rfl⟩⟩⟩⟩) rfl<|VO.h rfl<|HO.bs (ps := [(_,_)]) (vs := [(_,_)]) (Z := [_,_,_,_]) (C := [_,_,_,_]) S40 Z50 N50 ⟨(.r rfl), trivial⟩ rfl rfl rfl rfl ⟨_, [_,_,_,_], [_,_,_,_], rfl, rfl, rfl, rfl, rfl⟩ fun b4 => VO.h rfl<|HO.appT ((phS t v l2 e slips j i)) 1 0 (fun R => [_, R,_]) S40 S40 I50 (.r rfl) (.r rfl) rfl rfl rfl rfl rfl rfl rfl (fun _ => rfl) rfl (by omega) fun p7 c7 => VO.h rfl<|HO.lo (LO.as (.r rfl))<|VO.nil ?_)
      refine VE.seqN ?_
      refine VC.seq ?_
      refine VC.reg (VO.l (LO.fa (r := 1) F23_1 (.r rfl) rfl) rfl<|VO.l (LO.ld O3 (.r rfl) (fun _ hw => cells_at hw 2 rfl ⟨_, rfl⟩)) rfl<|VO.l (LO.eq (.r rfl) (.r rfl)) rfl<|VO.l (LO.mv (.r rfl)) rfl<|VO.lg rfl rfl (GD.t _) (fun hg => LO.mv (.r rfl)) rfl<|VO.lg rfl rfl (GD.t _) (fun hg => LO.fa (r := 4) F23_4 (.r rfl) rfl) rfl<|VO.lg rfl rfl (GD.t _) (fun hg => LO.ld O3 (.g hg rfl) (fun _ hw => cells_at hw 2 rfl ⟨_, rfl⟩)) rfl<|VO.lg rfl rfl (GD.t _) (fun hg => LO.quo (.g hg rfl) (.r rfl) (by decide) (wi (by rw [tdE (by omega)]; omega) (by rw [tdE (by omega)]; omega))) rfl<|VO.lg rfl rfl (GD.t _) (fun hg => LO.ge (.g hg rfl) (.g hg rfl)) rfl<|VO.l (LO.pkA (.r rfl) rfl rfl (.r rfl)) rfl<|VO.l (LO.mv (.r rfl)) rfl<|VO.lg rfl rfl (GD.f _) (fun hg => LO.fa (r := 1) F23_1 (.r rfl) rfl) rfl<|VO.lg rfl rfl (GD.f _) (fun hg => LO.ld O3 (.g hg rfl) (fun _ hw => cells_at hw 2 rfl ⟨_, rfl⟩)) rfl<|VO.lg rfl rfl (GD.f _) (fun hg => LO.eq (.g hg rfl) (.r rfl)) rfl<|VO.lg rfl rfl (GD.f _) (fun hg => LO.mv (.g hg rfl)) rfl<|VO.lg rfl rfl (GD.nt _ _) (fun hg => LO.mv (.r rfl)) rfl<|VO.lg rfl rfl (GD.nt _ _) (fun hg => LO.rem (.g hg rfl) (.r rfl) (by omega)) rfl<|VO.lg rfl rfl (GD.nt _ _) (fun hg => LO.eq (.g hg rfl) (.r rfl)) rfl<|VO.lg rfl rfl (GD.f _) (fun hg => LO.pkA (.g hg rfl) rfl (and_e hg) (.r rfl)) rfl<|VO.l (LO.pkO (.r rfl) (.r rfl) rfl rfl) rfl<|VO.l (LO.as (.r rfl)) rfl<|VO.nil ?_)
      refine VE.seqN ?_
      refine VC.seq ?_
      refine VC.reg (VO.l (LO.mv (.r rfl)) rfl<|VO.nil ?_)
      refine VE.seqN ?_
      refine VC.cond rfl (fun h90 => ?_) (fun h90 => ?_)
      ·
        refine VC.reg (VO.l (LO.mv (.r rfl)) rfl<|VO.l (LO.fa (r := 3) F23_3 (.r rfl) rfl) rfl<|VO.l (LO.ld O3 (.r rfl) (fun _ hw => cells_at hw 2 rfl ⟨_, rfl⟩)) rfl<|VO.l (LO.add (.r rfl) (.r rfl) (wi (by omega) (by omega))) rfl<|VO.l (LO.as (.r rfl)) rfl<|VO.nil ?_)
        refine VE.inN (VE.seqN ?_)
        refine VC.reg (VO.l (LO.mv (.r rfl)) rfl<|VO.l (LO.add (.r rfl) (.r rfl) (wi (by omega) (by omega))) rfl<|VO.l (LO.as (.r rfl)) rfl<|VO.nil ?_)
        refine VE.thenN fun a w ha hw => ⟨(i + 1, o ++ [(phS t v l2 e slips j i)], p7, c7), ⟨by dsimp only; omega, by dsimp only; rw [ho, phN_1]⟩, (by dsimp only; omega), ha.sub (.cons rfl (.cons (congrArg (fun z => some (Value.int .i64 z)) (tim_y (by omega) h90)) (.cons rfl (.cons rfl (.cons rfl (.cons rfl (.cons rfl (.cons rfl (.cons rfl (.cons rfl .nil)))))))))), hw.sel [1,2] rfl⟩
      ·
        refine VC.reg (VO.l (LO.mv (.r rfl)) rfl<|VO.l (LO.fa (r := 2) F23_2 (.r rfl) rfl) rfl<|VO.l (LO.ld O3 (.r rfl) (fun _ hw => cells_at hw 2 rfl ⟨_, rfl⟩)) rfl<|VO.l (LO.add (.r rfl) (.r rfl) (wi (by omega) (by omega))) rfl<|VO.l (LO.as (.r rfl)) rfl<|VO.nil ?_)
        refine VE.inN (VE.seqN ?_)
        refine VC.reg (VO.l (LO.mv (.r rfl)) rfl<|VO.l (LO.add (.r rfl) (.r rfl) (wi (by omega) (by omega))) rfl<|VO.l (LO.as (.r rfl)) rfl<|VO.nil ?_)
        refine VE.thenN fun a w ha hw => ⟨(i + 1, o ++ [(phS t v l2 e slips j i)], p7, c7), ⟨by dsimp only; omega, by dsimp only; rw [ho, phN_1]⟩, (by dsimp only; omega), ha.sub (.cons rfl (.cons (congrArg (fun z => some (Value.int .i64 z)) (tim_n (by omega) h90)) (.cons rfl (.cons rfl (.cons rfl (.cons rfl (.cons rfl (.cons rfl (.cons rfl (.cons rfl .nil)))))))))), hw.sel [1,2] rfl⟩
  ·
    refine VC.exit (VE.thenX (VE.thenX (VE.inX (VE.seqN ?_))))
    refine VC.seq ?_
    refine VC.reg (VO.l (LO.mv (.r rfl)) rfl<|VO.l (LO.as (.r rfl)) rfl<|VO.nil ?_)
    refine VE.seqN ?_
    refine VC.ret (VE.res (vs := [_]) rfl ⟨rfl, trivial⟩ (fun w hw => ?_))
    have hie : i = t.count.toNat := by omega
    subst hie
    exact ⟨(po, co), trivial, by rw [ho]; rfl, by rw [ho] at hw; exact hw.sel [0] rfl⟩

end Go.Proofs.YtffbohecdocajaaGreat

namespace Go.Proofs.YtffbohecdocajaaGreat
open Go.SL Go.Proofs Go.Pulse
set_option linter.unusedVariables false

theorem Z62 : ZeroOf Tryz.prog 62 (.agg #[.string ByteArray.empty, .int .i64 0, .int .i64 0, .int .i64 0, .int .i64 0, .int .i64 0, .int .i64 0, .int .i64 0, .int .i64 0, .int .i64 0, .slice none 0 0]) := by unfold ZeroOf; kernel_rfl
theorem A57 : IsAgg Tryz.prog 57 12 := ⟨⟨_, Tryz.underlying57, rfl⟩, by kernel_rfl⟩
theorem C13 : IsFn Tryz.prog 13 := ⟨_, Tryz.func13, by decide, rfl⟩
theorem F57_5 : FieldAt Tryz.prog 57 5 5 := ⟨_,_, Tryz.underlying57, rfl, rfl, 0, by kernel_rfl⟩
theorem B59 : Builds Tryz.prog 59 [(0,1), (1,1), (2,1), (3,1), (4,1), (5,1), (6,1), (7,1)] [.string ByteArray.empty, .int .i64 0, .int .i64 0, .int .i64 0, .int .i64 0, .int .i64 0, .int .i64 0, .int .i64 0] := Builds.mk fun _ => by kernel_rfl
theorem B62 : Builds Tryz.prog 62 [(0,8), (8,1), (9,1), (10,1)] [.string ByteArray.empty, .int .i64 0, .int .i64 0, .int .i64 0, .int .i64 0, .int .i64 0, .int .i64 0, .int .i64 0, .int .i64 0, .int .i64 0, .slice none 0 0] := Builds.mk fun _ => by kernel_rfl
theorem N62 : (Tryz.prog.info? 62).map (·.size) = some 11 := by kernel_rfl
theorem C51 : IsFn Tryz.prog 51 := ⟨_, Tryz.func51, by decide, rfl⟩
theorem F57_11 : FieldAt Tryz.prog 57 11 11 := ⟨_,_, Tryz.underlying57, rfl, rfl, 0, by kernel_rfl⟩
theorem O31 : IsOne Tryz.prog 31 := ⟨⟨_, Tryz.underlying31, rfl⟩, by kernel_rfl⟩
theorem S31 : IsSlice Tryz.prog 31 5 := Tryz.underlying31
theorem N5 : (Tryz.prog.info? 5).map (·.size) = some 1 := by kernel_rfl
theorem C16 : IsFn Tryz.prog 16 := ⟨_, Tryz.func16, by decide, rfl⟩
theorem F57_10 : FieldAt Tryz.prog 57 10 10 := ⟨_,_, Tryz.underlying57, rfl, rfl, 0, by kernel_rfl⟩
theorem O55 : IsOne Tryz.prog 55 := ⟨⟨_, Tryz.underlying55, rfl⟩, by kernel_rfl⟩
theorem C52 : IsFn Tryz.prog 52 := ⟨_, Tryz.func52, by decide, rfl⟩
theorem I76 : EInfo Tryz.prog 76 14 112 (.agg #[.int .i64 0, .int .i64 0, .int .i64 0, .int .i64 0, .int .i64 0, .int .i64 0, .int .i64 0, .int .i64 0, .int .i64 0, .int .i64 0, .int .i64 0, .int .i64 0, .int .i64 0, .int .i64 0]) := ⟨by kernel_rfl, by kernel_rfl, by unfold ZeroOf; kernel_rfl, rfl, by decide⟩
theorem Z41 : ZeroOf Tryz.prog 41 (.slice none 0 0) := by unfold ZeroOf; kernel_rfl
theorem I41 : EInfo Tryz.prog 41 1 24 (.slice none 0 0) := ⟨by kernel_rfl, by kernel_rfl, by unfold ZeroOf; kernel_rfl, rfl, by decide⟩
theorem N60 : (Tryz.prog.info? 60).map (·.size) = some 1 := by kernel_rfl


def nmU : ByteArray := ⟨#[115]⟩
def grU (x : UX) : Nat := 1 + (x.gates % 3).toNat
theorem grU_bd (x : UX) : 1 ≤ grU x ∧ grU x ≤ 3 := by unfold grU; omega
theorem grU_i {x : UX} (h : UXok x) : 1 + x.gates.tmod 3 = ((grU x : Nat) : Int) := by
  have := h.gates
  rw [tmE this.1]; unfold grU; omega
def siteU (x : UX) : Site := ⟨nmU, 0,0,0,1, (grU x : Int), 500,0⟩
def ecRow (x : UX) (a n : Nat) : List Echo := (List.range n).map fun i => ecU x (a * grU x + i)
theorem ecRow_1 {x : UX} {a n : Nat} : ecRow x a (n + 1) = ecRow x a n ++ [ecU x (a * grU x + n)] := by unfold ecRow; rw [List.range_succ, List.map_append]; rfl
theorem ecRow_len {x : UX} {a n : Nat} : (ecRow x a n).length = n := by unfold ecRow; rw [List.length_map, List.length_range]
theorem ecRow_at {x : UX} {a n i : Nat} (h : i < n) : (ecRow x a n).getD i zE = ecU x (a * grU x + i) := by
  unfold ecRow
  rw [List.getD_eq_getElem?_getD, List.getElem?_map, List.getElem?_range h]; rfl
structure SwR (x : UX) (n : Nat) (rs : List ERow) : Prop where
  len : rs.length = n
  r : ∀ a, a < n → (rs.getD a zRE).l = ecRow x a (grU x)
theorem SwR.next {x : UX} {n : Nat} {rs : List ERow} {p : Option Addr} {c : Nat} {l : List Echo} (h : SwR x n rs) (hl : l = ecRow x n (grU x)) : SwR x (n + 1) (rs ++ [⟨p, c, l⟩]) := by
  refine ⟨by rw [List.length_append, h.len]; rfl, fun a ha => ?_⟩
  have e : (rs ++ [(⟨p, c, l⟩ : ERow)]).getD a zRE = if a = rs.length then ⟨p, c, l⟩ else rs.getD a zRE := getD_snoc
  rw [e, h.len]
  by_cases q : a = n
  · rw [if_pos q, q]; exact hl
  · rw [if_neg q]; exact h.r a (by omega)
theorem lo_y {x : UX} {k : Nat} (h : UXok x) (hn : (0 : Int) < x.loud.length) : (x.loud.getD (k % x.loud.length) 0).tmod 20 = loudU x k := by
  have hm : x.loud.getD (k % x.loud.length) 0 ∈ x.loud := getD_mem (Nat.mod_lt _ (by omega))
  unfold loudU
  rw [if_neg (by omega), tmE (h.loud _ hm).1]
theorem lo_n {x : UX} {k : Nat} (hn : ¬ (0 : Int) < x.loud.length) : 9 = loudU x k := by unfold loudU; rw [if_pos (by omega)]
theorem phases_U (x : UX) (q : UQ) (k : Nat) (l2 : Int) (w : World) (h : UXok x) (hx : UXw w x q) (hlo : l2 = loudU x k) (hk : k < 100) :
    Calls Tryz.prog 52 #[trainV (trU x), .int .i64 (spdU x k), .int .i64 1, .int .i64 l2, .int .i64 (slipU x), .slice q.pl x.slips.length q.cl, .int .i64 ((7 * k : Nat) : Int)] w fun e0 w' => ∃ y : Option Addr × Nat, True ∧ e0 = .returned (.slice y.1 (smU x k).length y.2) ∧ St (bs w) [own 50 4 y.1 y.2 ((smU x k).map smpC)] w' :=
  phases_c (trU x) (spdU x k) (loudU x k) l2 (slipU x) x.slips (7 * k) q.pl q.cl w (trU_ok h) (spdU_bd h k) hlo (by have := slipU_bd h; omega) h.slips (by omega) hx.l
theorem Hear_U (x : UX) (k : Nat) (p : Option Addr) (c : Nat) (w : World) (h : UXok x) (hc : (smU x k).length ≤ c) (hl : Smps w p (smU x k)) :
    Calls Tryz.prog 47 #[trainV (trU x), recvV (rcU x), .slice p (smU x k).length c] w fun e w' => e = .returned (.tuple #[echoV (ecU x k), .int .i64 0]) ∧ St (bs w) [] w' := by
  have hn : (smU x k).length < 1000000000 := by
    have h1 := phL_len (v := spdU x k) (loud := loudU x k) (e := slipU x) (slips := x.slips) (j := 7 * k) (trU_ok h)
    have h2 := (trU_ok h).count
    show (phL _ _ _ _ _ _).length < _
    omega
  have z := Hear_c (trU x) (rcU x) (smU x k) p c w hn hc hl
  rw [hearE_U h k] at z
  have e : hearR (trU x) (rcU x) (smU x k) = ecU x k := if_pos (hearE_U h k)
  rw [e] at z
  exact z

set_option maxRecDepth 20000 in
set_option maxHeartbeats 2000000 in
theorem uSweep_c (x : UX) (q : UQ) (w : World) (h : UXok x) (hx : UXw w x q) :
  Calls Tryz.prog 12 #[.agg (uxC x q).toArray] w fun e w' => ∃ y : List ERow × Option Addr × Nat, SwR x 4 y.1 ∧ e = .returned (.tuple #[.agg (sweepC (siteU x) 0 0 y.2.1 4 y.2.2).toArray, .bool true]) ∧ St (bs w) [own 41 1 y.2.1 y.2.2 (y.1.map Go.SL.rowC), bagR 76 14 echoC y.1] w' := by
  have hgr := grU_bd x
  have hga := h.gates
  refine enter (vs := [_]) (env := [(0,_)]) Tryz.func12 rfl rfl rfl rfl ?_
  refine VC.seq ?_
  refine VC.reg (VO.h rfl<|HO.box (C := #[_,_,_,_,_,_,_,_,_,_,_,_]) rfl rfl fun b1 => VO.h rfl<|HO.alloc (C := #[_,_,_,_,_,_,_,_,_,_,_]) Z62 rfl fun b2 => VO.l (LO.as (.r rfl)) rfl<|VO.nil ?_)
  refine VE.seqN ?_
  refine VC.seq ?_
  refine VC.reg (VO.l (LO.lda (vs := [_,_,_,_,_,_,_,_,_,_,_,_]) A57 (.r rfl) (fun _ hw => cells_at hw 1 rfl ⟨_, rfl⟩) rfl) rfl<|VO.l (LO.call (xs := [_]) (vs := [_]) C13 ⟨(.r rfl), trivial⟩ (fun w _ => uTrain_c x q w h)) rfl<|VO.h rfl<|HO.alloc (C := #[_,_,_,_,_]) Z23 rfl fun b3 => VO.h0<|HO.st 0 (vs := [_,_,_,_,_]) (C' := [_,_,_,_,_]) (L' := [_,_,_]) N23 rfl rfl rfl rfl rfl rfl rfl rfl<|VO.nil ?_)
  refine VE.seqN ?_
  refine VC.seq ?_
  refine VC.reg (VO.l (LO.fa (r := 5) F57_5 (.r rfl) rfl) rfl<|VO.l (LO.ld O5 (.r rfl) (fun _ hw => cells_at hw 2 rfl ⟨_, rfl⟩)) rfl<|VO.l (LO.cv ⟨_, Tryz.underlying5⟩ Tryz.underlying3 (.r rfl) (wi (by omega) (by omega))) rfl<|VO.l (LO.rem (.r rfl) (.r rfl) (by decide)) rfl<|VO.l (LO.eqv (LO.add (.r rfl) (.r rfl) (wi (by rw [tmE hga.1]; omega) (by rw [tmE hga.1]; omega))) (congrArg (Value.int .i64) (grU_i h))) rfl<|VO.l (LO.bd (ps := [(_,_), (_,_), (_,_), (_,_)]) (vs := [(_,_), (_,_), (_,_), (_,_)]) (C := [_,_,_,_,_,_,_,_]) B59  ⟨(.r rfl), (.r rfl), (.r rfl), (.r rfl), trivial⟩ rfl ⟨_, [_], [_,_,_,_,_,_,_,_], rfl, rfl, rfl, rfl, ⟨_, [_], [_,_,_,_,_,_,_,_], rfl, rfl, rfl, rfl, ⟨_, [_], [_,_,_,_,_,_,_,_], rfl, rfl, rfl, rfl, ⟨_, [_], [_,_,_,_,_,_,_,_], rfl, rfl, rfl, rfl, rfl⟩⟩⟩⟩) rfl<|VO.l (LO.bd (ps := [(_,_)]) (vs := [(_,_)]) (C := [_,_,_,_,_,_,_,_,_,_,_]) B62  ⟨(.r rfl), trivial⟩ rfl ⟨_, [_,_,_,_,_,_,_,_], [_,_,_,_,_,_,_,_,_,_,_], rfl, rfl, rfl, rfl, rfl⟩) rfl<|VO.h rfl<|HO.alloc (C := #[_,_,_,_,_,_,_,_,_,_,_]) Z62 rfl fun b5 => VO.h0<|HO.st 0 (vs := [_,_,_,_,_,_,_,_,_,_,_]) (C' := [_,_,_,_,_,_,_,_,_,_,_]) (L' := [_,_,_,_]) N62 rfl rfl rfl rfl rfl rfl rfl rfl<|VO.nil ?_)
  refine VE.seqN ?_
  refine VC.seq ?_
  refine VC.reg (VO.l (LO.lda (vs := [_,_,_,_,_,_,_,_,_,_,_,_]) A57 (.r rfl) (fun _ hw => cells_at hw 3 rfl ⟨_, rfl⟩) rfl) rfl<|VO.l (LO.call (xs := [_]) (vs := [_]) C51 ⟨(.r rfl), trivial⟩ (fun w _ => uSlip_c x q w h)) rfl<|VO.l (LO.bd (ps := [(_,_)]) (vs := [(_,_)]) (C := [_,_,_,_]) B27  ⟨(.r rfl), trivial⟩ rfl ⟨_, [_], [_,_,_,_], rfl, rfl, rfl, rfl, rfl⟩) rfl<|VO.h rfl<|HO.alloc (C := #[_,_,_,_]) Z27 rfl fun b7 => VO.h0<|HO.st 0 (vs := [_,_,_,_]) (C' := [_,_,_,_]) (L' := [_,_,_,_,_]) N27 rfl rfl rfl rfl rfl rfl rfl rfl<|VO.nil ?_)
  refine VE.seqN ?_
  refine VC.seq ?_
  refine VC.seq ?_
  refine VC.reg (VO.l (LO.as (.r rfl)) rfl<|VO.nil ?_)
  refine VE.seqN ?_
  refine VC.block ?_
  refine VC.perm [1,0,2,3,4] rfl ?_
  refine VC.loopK (α := Nat × (List ERow) × (Option Addr) × Nat) 1 (fun gx => [(7, .int .i64 (gx.1 : Nat))]) [(1,_), (2,_), (4,_), (5,_), (6,_)] (fun gx => [blk b5 (.cells #[.string nmU, .int .i64 0, .int .i64 0, .int .i64 0, .int .i64 1, .int .i64 (grU x : Nat), .int .i64 500, .int .i64 0, .int .i64 0, .int .i64 0, .slice gx.2.2.1 gx.2.1.length gx.2.2.2] 62), own 41 1 gx.2.2.1 gx.2.2.2 (gx.2.1.map Go.SL.rowC), bagR 76 14 echoC gx.2.1]) (fun gx => gx.1 ≤ 4 ∧ SwR x gx.1 gx.2.1) (fun gx => 4 - gx.1) (0, [], none, 0) (by exact ⟨by decide, rfl, fun a ha => absurd ha (Nat.not_lt_zero _)⟩) (.cons rfl (.cons rfl (.cons rfl (.cons rfl (.cons rfl (.cons rfl .nil)))))) (fun _ h => (((h.bagRNil 76 14 echoC).ownNil 41 1)).sel [2,0,1,3,4,5,6] rfl) ?_
  rintro ⟨ra, rs, pr, cr⟩ ⟨hra, hrs⟩
  show VC _ _ _ _ _ ([(7, .int .i64 (ra : Nat))] ++ _) ([blk b5 (.cells #[.string nmU, .int .i64 0, .int .i64 0, .int .i64 0, .int .i64 1, .int .i64 (grU x : Nat), .int .i64 500, .int .i64 0, .int .i64 0, .int .i64 0, .slice pr rs.length cr] 62), own 41 1 pr cr (rs.map Go.SL.rowC), bagR 76 14 echoC rs] ++ _) _ _
  dsimp only at hra hrs
  have hrl := hrs.len
  refine VC.seq ?_
  refine VC.seq ?_
  refine VC.reg (VO.l (LO.mv (.r rfl)) rfl<|VO.l (LO.lt (.r rfl) (.r rfl)) rfl<|VO.nil ?_)
  refine VE.seqN ?_
  refine VC.cond rfl (fun h1 => ?_) (fun h1 => ?_)
  ·
    refine VC.skip (VE.seqN ?_)
    refine VC.seq ?_
    refine VC.block ?_
    refine VC.seq ?_
    refine VC.reg (VO.l (LO.as (.r rfl)) rfl<|VO.nil ?_)
    refine VE.seqN ?_
    refine VC.seq ?_
    refine VC.seq ?_
    refine VC.reg (VO.l (LO.as (.r rfl)) rfl<|VO.nil ?_)
    refine VE.seqN ?_
    refine VC.block ?_
    refine VC.loopK (α := Nat × (List Echo) × (Option Addr) × Nat) 0 (fun gx => [(8, .slice gx.2.2.1 gx.2.1.length gx.2.2.2), (9, .int .i64 (gx.1 : Nat))]) [(1,_), (2,_), (4,_), (5,_), (6,_), (7,_)] (fun gx => [own 76 14 gx.2.2.1 gx.2.2.2 (gx.2.1.map echoC)]) (fun gx => gx.1 ≤ grU x ∧ gx.2.1 = ecRow x ra gx.1) (fun gx => grU x - gx.1) (0, [], none, 0) (by exact ⟨Nat.zero_le _, rfl⟩) (.cons rfl (.cons rfl (.cons rfl (.cons rfl (.cons rfl (.cons rfl (.cons rfl (.cons rfl .nil)))))))) (fun _ h => (h.ownNil 76 14)) ?_
    rintro ⟨i, l, pw, cw⟩ ⟨hi, hlr⟩
    show VC _ _ _ _ _ ([(8, .slice pw l.length cw), (9, .int .i64 (i : Nat))] ++ _) ([own 76 14 pw cw (l.map echoC)] ++ _) _ _
    dsimp only at hi hlr
    have hll : l.length = i := by rw [hlr, ecRow_len]
    refine VC.seq ?_
    refine VC.seq ?_
    refine VC.reg (VO.l (LO.mv (.r rfl)) rfl<|VO.l (LO.fa (r := 0) F62_0 (.r rfl) rfl) rfl<|VO.l (LO.fa (r := 5) F59_5 (.r rfl) rfl) rfl<|VO.l (LO.ld O3 (.r rfl) (fun _ hw => cells_at hw 1 rfl ⟨_, rfl⟩)) rfl<|VO.l (LO.lt (.r rfl) (.r rfl)) rfl<|VO.nil ?_)
    refine VE.seqN ?_
    refine VC.cond rfl (fun h2 => ?_) (fun h2 => ?_)
    ·
      refine VC.skip (VE.seqN ?_)
      refine VC.seq ?_
      refine VC.block ?_
      refine VC.seq ?_
      have hag : (0 : Int) ≤ (ra : Int) * (grU x : Int) ∧ (ra : Int) * (grU x : Int) ≤ 9 := by rw [← Int.natCast_mul]; have := Nat.mul_le_mul (show ra ≤ 3 by omega) hgr.2; omega
      obtain ⟨k, hk, hk2⟩ : ∃ k : Nat, (ra : Int) * (grU x : Int) + (i : Int) = (k : Int) ∧ k = ra * grU x + i := ⟨ra * grU x + i, by rw [Int.natCast_add, Int.natCast_mul], rfl⟩
      have hk3 : k < 100 := by omega
      refine VC.reg (VO.l (LO.mv (.r rfl)) rfl<|VO.l (LO.fa (r := 0) F62_0 (.r rfl) rfl) rfl<|VO.l (LO.fa (r := 5) F59_5 (.r rfl) rfl) rfl<|VO.l (LO.ld O3 (.r rfl) (fun _ hw => cells_at hw 1 rfl ⟨_, rfl⟩)) rfl<|VO.l (LO.mul (.r rfl) (.r rfl) (wi (by omega) (by omega))) rfl<|VO.l (LO.mv (.r rfl)) rfl<|VO.l (LO.eqv (LO.add (.r rfl) (.r rfl) (wi (by omega) (by omega))) (congrArg (Value.int .i64) hk)) rfl<|VO.l (LO.as (.r rfl)) rfl<|VO.nil ?_)
      refine VE.seqN ?_
      refine VC.seq ?_
      refine VC.reg (VO.l (LO.as (.r rfl)) rfl<|VO.nil ?_)
      refine VE.seqN ?_
      refine VC.seq ?_
      refine VC.seq ?_
      refine VC.reg (VO.l (LO.fa (r := 11) F57_11 (.r rfl) rfl) rfl<|VO.l (LO.ld O31 (.r rfl) (fun _ hw => cells_at hw 7 rfl ⟨_, rfl⟩)) rfl<|VO.l (LO.len S31 (.r rfl) rfl) rfl<|VO.l (LO.gt (.r rfl) (.r rfl)) rfl<|VO.nil ?_)
      refine VE.seqN ?_
      refine VC.cond rfl (fun h47 => ?_) (fun h47 => ?_)
      ·
        have hlm := h.loud _ (getD_mem (d := (0 : Int)) (Nat.mod_lt k (show 0 < x.loud.length by omega)))
        refine VC.draw mixed (LL.l (LO.fa (r := 11) F57_11 (.r rfl) rfl) rfl<|LL.l (LO.ld O31 (.r rfl) (fun _ hw => cells_at hw 7 rfl ⟨_, rfl⟩)) rfl<|LL.l (LO.mv (.r rfl)) rfl<|LL.l (LO.fa (r := 11) F57_11 (.r rfl) rfl) rfl<|LL.l (LO.ld O31 (.r rfl) (fun _ hw => cells_at hw 7 rfl ⟨_, rfl⟩)) rfl<|LL.l (LO.len S31 (.r rfl) rfl) rfl<|LL.l (LO.rem (.r rfl) (.r rfl) (by omega)) rfl<|LL.l (LO.ixs S31 N5 hx.o.sm (.r rfl) (.r rfl) (j := k % x.loud.length) (modN _ _) (Nat.mod_lt _ (by omega))) rfl<|LL.l (LO.ld O5 (.r rfl) (fun w hw => cells_part (off := 0) ((hx.o.at (0 : Int) (j := k % x.loud.length) (Nat.mod_lt _ (by omega))) w hw) ⟨_, rfl⟩)) rfl<|LL.l (LO.cv ⟨_, Tryz.underlying5⟩ Tryz.underlying3 (.r rfl) (wi (by omega) (by omega))) rfl<|LL.l (LO.rem (.r rfl) (.r rfl) (by decide)) rfl<|LL.l (LO.as (.r rfl)) rfl<|LL.nil) (by kernel_rfl) ?_
        refine VE.seqN ?_
        refine VC.seq ?_
        refine VC.drawD [⟨18,12, fun b => .pointer (some ⟨b, 0, none⟩), 76, #[.int .i64 0, .int .i64 0, .int .i64 0, .int .i64 0, .int .i64 0, .int .i64 0, .int .i64 0, .int .i64 0, .int .i64 0, .int .i64 0, .int .i64 0, .int .i64 0, .int .i64 0, .int .i64 0]⟩] [14] [[0,1,2,3,4,5,6,7], [0,1,2,3,4,5,6,7], [0,1,2,3,4,5,6,7], [0,1,2,3,4,5,6,7], [0,1,2,3,4,5,6,7]] [some 3, some 3, some 3, some 3, some 3, some 3, some 3, some 3, some 3, some 3, some 3, some 3, some 3, none, none, some 3, some 3, some 4, none, none, some 4] mixed (by kernel_rfl) rfl (LXD.l (fun _ hJ => LO.lda (vs := [_,_,_,_,_]) A23 (.r rfl) (fun _ hw => cells_at (hJ _ hw) 5 rfl ⟨_, rfl⟩) rfl) rfl<|LXD.l (fun _ hJ => LO.lda (vs := [_,_,_,_]) A27 (.r rfl) (fun _ hw => cells_at (hJ _ hw) 4 rfl ⟨_, rfl⟩) rfl) rfl<|LXD.l (fun _ hJ => LO.lda (vs := [_,_,_,_,_]) A23 (.r rfl) (fun _ hw => cells_at (hJ _ hw) 5 rfl ⟨_, rfl⟩) rfl) rfl<|LXD.l (fun _ hJ => LO.lda (vs := [_,_,_,_,_,_,_,_,_,_,_,_]) A57 (.r rfl) (fun _ hw => cells_at (hJ _ hw) 7 rfl ⟨_, rfl⟩) rfl) rfl<|LXD.l (fun _ hJ => LO.mv (.r rfl)) rfl<|LXD.l (fun _ hJ => LO.call (xs := [_,_]) (vs := [_,_]) C16 ⟨(.r rfl), (.r rfl), trivial⟩ (fun w hw => uSpeed_c x q k w h (hx.keep w hw) (by omega))) rfl<|LXD.l (fun _ hJ => LO.mv (.r rfl)) rfl<|LXD.l (fun _ hJ => LO.lda (vs := [_,_,_,_,_,_,_,_,_,_,_,_]) A57 (.r rfl) (fun _ hw => cells_at (hJ _ hw) 7 rfl ⟨_, rfl⟩) rfl) rfl<|LXD.l (fun _ hJ => LO.call (xs := [_]) (vs := [_]) C51 ⟨(.r rfl), trivial⟩ (fun w _ => uSlip_c x q w h)) rfl<|LXD.l (fun _ hJ => LO.fa (r := 10) F57_10 (.r rfl) rfl) rfl<|LXD.l (fun _ hJ => LO.ld O55 (.r rfl) (fun _ hw => cells_at (hJ _ hw) 7 rfl ⟨_, rfl⟩)) rfl<|LXD.l (fun _ hJ => LO.mv (.r rfl)) rfl<|LXD.l (fun _ hJ => LO.eqv (LO.mul (.r rfl) (.r rfl) (wi (by omega) (by omega))) (congrArg (Value.int .i64) (Int.natCast_mul 7 k).symm)) rfl<|LXD.s rfl<|LXD.d (.tuple #[echoV (ecU x k), .int .i64 0]) rfl<|LXD.l (fun _ hJ => LO.mv (.r rfl)) rfl<|LXD.l (fun _ hJ => LO.ex (.r rfl) rfl) rfl<|LXD.l (fun _ hJ => LO.ex (.r rfl) rfl) rfl<|LXD.s rfl<|LXD.s rfl<|LXD.l (fun _ hJ => LO.as (.r rfl)) rfl<|LXD.nil) (⟨⟨rfl,_, rfl, FO.alloc Z76 rfl⟩, trivial⟩) (HYD.s<|HYD.s<|HYD.s<|HYD.s<|HYD.s<|HYD.s<|HYD.s<|HYD.s<|HYD.s<|HYD.s<|HYD.s<|HYD.s<|HYD.s<|HYD.h rfl rfl rfl fun X => HO.callx (xs := [_,_,_,_,_,_,_]) (vs := [_,_,_,_,_,_,_]) C52 ⟨(.r rfl), (.r rfl), (.r rfl), (.r rfl), (.r rfl), (.r rfl), (.r rfl), trivial⟩ (fun w hw => phases_U x q k ((x.loud.getD (k % x.loud.length) 0).tmod 20) w h (hx.keep w hw) (lo_y h h47) (by omega)) fun ym _ => ⟨[_,_,_,_,_,_,_,_,_], rfl, selJ (L1 := [_,_,_,_,_,_,_,_]) [1,2,3,4,5,6,7,8] rfl rfl rfl, HYD.d rfl rfl fun X => HO.lo (LO.call (xs := [_,_,_]) (vs := [_,_,_]) C47 ⟨(.r rfl), (.r rfl), (.r rfl), trivial⟩ (fun w hw => Hear_U x k ym.1 ym.2 w h (own_capS hw 0 rfl) (RO.of_own hw 0 rfl)))<|⟨rfl, [_,_,_,_,_,_,_,_,_], rfl, selJ (L1 := [_,_,_,_,_,_,_,_]) [1,2,3,4,5,6,7,8] rfl rfl rfl, HYD.s<|HYD.s<|HYD.s<|HYD.f rfl fun b17 => ⟨selJ (L1 := [_,_,_,_,_,_,_,_]) [2,3,4,5,6,7,8,9] rfl rfl rfl, HYD.h0 rfl fun X => HO.st 0 (vs := [_,_,_,_,_,_,_,_,_,_,_,_,_,_]) (C' := [_,_,_,_,_,_,_,_,_,_,_,_,_,_]) (L' := [_,_,_,_,_,_,_,_,_,_] ++ X) N76 rfl rfl rfl rfl rfl rfl rfl rfl<|⟨[_,_,_,_,_,_,_,_,_,_], rfl, selJ (L1 := [_,_,_,_,_,_,_,_]) [2,3,4,5,6,7,8,9] rfl rfl rfl, HYD.s<|HYD.nil ?_⟩⟩⟩⟩)
        refine VE.seqN ?_
        refine VC.seq ?_
        refine VC.seq ?_
        refine VC.reg (VO.l (LO.mv (.r rfl)) rfl<|VO.l (LO.ne (.r rfl) (.r rfl)) rfl<|VO.nil ?_)
        refine VE.seqN ?_
        refine VC.cond rfl (fun h78 => ?_) (fun h78 => ?_)
        ·
          (exfalso; exact h78 rfl)
        ·
          refine VC.skip (VE.seqN ?_)
          refine VC.reg (VO.l (LO.mv (.r rfl)) rfl<|VO.l (LO.lda (vs := [_,_,_,_,_,_,_,_,_,_,_,_,_,_]) A76 (.r rfl) (fun _ hw => cells_at hw 0 rfl ⟨_, rfl⟩) rfl) rfl<|VO.h rfl<|HO.bs (ps := [(_,_)]) (vs := [(_,_)]) (Z := [_,_,_,_,_,_,_,_,_,_,_,_,_,_]) (C := [_,_,_,_,_,_,_,_,_,_,_,_,_,_]) S41 Z76 N76 ⟨(.r rfl), trivial⟩ rfl rfl rfl rfl ⟨_, [_,_,_,_,_,_,_,_,_,_,_,_,_,_], [_,_,_,_,_,_,_,_,_,_,_,_,_,_], rfl, rfl, rfl, rfl, rfl⟩ fun b19 => VO.h rfl<|HO.appT ((ecU x k)) 3 0 (fun R => [_,_,_, R,_,_,_,_,_,_,_]) S41 S41 I76 (.r rfl) (.r rfl) rfl rfl rfl rfl rfl rfl rfl (fun _ => rfl) rfl (by omega) fun p3 c3 => VO.h rfl<|HO.lo (LO.as (.r rfl))<|VO.nil ?_)
          refine VE.inN (VE.seqN ?_)
          refine VC.reg (VO.l (LO.mv (.r rfl)) rfl<|VO.l (LO.add (.r rfl) (.r rfl) (wi (by omega) (by omega))) rfl<|VO.l (LO.as (.r rfl)) rfl<|VO.nil ?_)
          refine VE.thenN fun a w ha hw => ⟨(i + 1, l ++ [ecU x k], p3, c3), ⟨by dsimp only; omega, by dsimp only; rw [hlr, ecRow_1, hk2]⟩, (by dsimp only; omega), ha.sub (.cons rfl (.cons rfl (.cons rfl (.cons rfl (.cons rfl (.cons rfl (.cons rfl (.cons rfl .nil)))))))), hw.sel [3,4,5,6,7,8,9,10] rfl⟩
      ·
        refine VC.skip (VE.seqN ?_)
        refine VC.seq ?_
        refine VC.drawD [⟨18,12, fun b => .pointer (some ⟨b, 0, none⟩), 76, #[.int .i64 0, .int .i64 0, .int .i64 0, .int .i64 0, .int .i64 0, .int .i64 0, .int .i64 0, .int .i64 0, .int .i64 0, .int .i64 0, .int .i64 0, .int .i64 0, .int .i64 0, .int .i64 0]⟩] [14] [[0,1,2,3,4,5,6,7], [0,1,2,3,4,5,6,7], [0,1,2,3,4,5,6,7], [0,1,2,3,4,5,6,7], [0,1,2,3,4,5,6,7]] [some 3, some 3, some 3, some 3, some 3, some 3, some 3, some 3, some 3, some 3, some 3, some 3, some 3, none, none, some 3, some 3, some 4, none, none, some 4] mixed (by kernel_rfl) rfl (LXD.l (fun _ hJ => LO.lda (vs := [_,_,_,_,_]) A23 (.r rfl) (fun _ hw => cells_at (hJ _ hw) 5 rfl ⟨_, rfl⟩) rfl) rfl<|LXD.l (fun _ hJ => LO.lda (vs := [_,_,_,_]) A27 (.r rfl) (fun _ hw => cells_at (hJ _ hw) 4 rfl ⟨_, rfl⟩) rfl) rfl<|LXD.l (fun _ hJ => LO.lda (vs := [_,_,_,_,_]) A23 (.r rfl) (fun _ hw => cells_at (hJ _ hw) 5 rfl ⟨_, rfl⟩) rfl) rfl<|LXD.l (fun _ hJ => LO.lda (vs := [_,_,_,_,_,_,_,_,_,_,_,_]) A57 (.r rfl) (fun _ hw => cells_at (hJ _ hw) 7 rfl ⟨_, rfl⟩) rfl) rfl<|LXD.l (fun _ hJ => LO.mv (.r rfl)) rfl<|LXD.l (fun _ hJ => LO.call (xs := [_,_]) (vs := [_,_]) C16 ⟨(.r rfl), (.r rfl), trivial⟩ (fun w hw => uSpeed_c x q k w h (hx.keep w hw) (by omega))) rfl<|LXD.l (fun _ hJ => LO.mv (.r rfl)) rfl<|LXD.l (fun _ hJ => LO.lda (vs := [_,_,_,_,_,_,_,_,_,_,_,_]) A57 (.r rfl) (fun _ hw => cells_at (hJ _ hw) 7 rfl ⟨_, rfl⟩) rfl) rfl<|LXD.l (fun _ hJ => LO.call (xs := [_]) (vs := [_]) C51 ⟨(.r rfl), trivial⟩ (fun w _ => uSlip_c x q w h)) rfl<|LXD.l (fun _ hJ => LO.fa (r := 10) F57_10 (.r rfl) rfl) rfl<|LXD.l (fun _ hJ => LO.ld O55 (.r rfl) (fun _ hw => cells_at (hJ _ hw) 7 rfl ⟨_, rfl⟩)) rfl<|LXD.l (fun _ hJ => LO.mv (.r rfl)) rfl<|LXD.l (fun _ hJ => LO.eqv (LO.mul (.r rfl) (.r rfl) (wi (by omega) (by omega))) (congrArg (Value.int .i64) (Int.natCast_mul 7 k).symm)) rfl<|LXD.s rfl<|LXD.d (.tuple #[echoV (ecU x k), .int .i64 0]) rfl<|LXD.l (fun _ hJ => LO.mv (.r rfl)) rfl<|LXD.l (fun _ hJ => LO.ex (.r rfl) rfl) rfl<|LXD.l (fun _ hJ => LO.ex (.r rfl) rfl) rfl<|LXD.s rfl<|LXD.s rfl<|LXD.l (fun _ hJ => LO.as (.r rfl)) rfl<|LXD.nil) (⟨⟨rfl,_, rfl, FO.alloc Z76 rfl⟩, trivial⟩) (HYD.s<|HYD.s<|HYD.s<|HYD.s<|HYD.s<|HYD.s<|HYD.s<|HYD.s<|HYD.s<|HYD.s<|HYD.s<|HYD.s<|HYD.s<|HYD.h rfl rfl rfl fun X => HO.callx (xs := [_,_,_,_,_,_,_]) (vs := [_,_,_,_,_,_,_]) C52 ⟨(.r rfl), (.r rfl), (.r rfl), (.r rfl), (.r rfl), (.r rfl), (.r rfl), trivial⟩ (fun w hw => phases_U x q k 9 w h (hx.keep w hw) (lo_n h47) (by omega)) fun ym _ => ⟨[_,_,_,_,_,_,_,_,_], rfl, selJ (L1 := [_,_,_,_,_,_,_,_]) [1,2,3,4,5,6,7,8] rfl rfl rfl, HYD.d rfl rfl fun X => HO.lo (LO.call (xs := [_,_,_]) (vs := [_,_,_]) C47 ⟨(.r rfl), (.r rfl), (.r rfl), trivial⟩ (fun w hw => Hear_U x k ym.1 ym.2 w h (own_capS hw 0 rfl) (RO.of_own hw 0 rfl)))<|⟨rfl, [_,_,_,_,_,_,_,_,_], rfl, selJ (L1 := [_,_,_,_,_,_,_,_]) [1,2,3,4,5,6,7,8] rfl rfl rfl, HYD.s<|HYD.s<|HYD.s<|HYD.f rfl fun b24 => ⟨selJ (L1 := [_,_,_,_,_,_,_,_]) [2,3,4,5,6,7,8,9] rfl rfl rfl, HYD.h0 rfl fun X => HO.st 0 (vs := [_,_,_,_,_,_,_,_,_,_,_,_,_,_]) (C' := [_,_,_,_,_,_,_,_,_,_,_,_,_,_]) (L' := [_,_,_,_,_,_,_,_,_,_] ++ X) N76 rfl rfl rfl rfl rfl rfl rfl rfl<|⟨[_,_,_,_,_,_,_,_,_,_], rfl, selJ (L1 := [_,_,_,_,_,_,_,_]) [2,3,4,5,6,7,8,9] rfl rfl rfl, HYD.s<|HYD.nil ?_⟩⟩⟩⟩)
        refine VE.seqN ?_
        refine VC.seq ?_
        refine VC.seq ?_
        refine VC.reg (VO.l (LO.mv (.r rfl)) rfl<|VO.l (LO.ne (.r rfl) (.r rfl)) rfl<|VO.nil ?_)
        refine VE.seqN ?_
        refine VC.cond rfl (fun h78 => ?_) (fun h78 => ?_)
        ·
          (exfalso; exact h78 rfl)
        ·
          refine VC.skip (VE.seqN ?_)
          refine VC.reg (VO.l (LO.mv (.r rfl)) rfl<|VO.l (LO.lda (vs := [_,_,_,_,_,_,_,_,_,_,_,_,_,_]) A76 (.r rfl) (fun _ hw => cells_at hw 0 rfl ⟨_, rfl⟩) rfl) rfl<|VO.h rfl<|HO.bs (ps := [(_,_)]) (vs := [(_,_)]) (Z := [_,_,_,_,_,_,_,_,_,_,_,_,_,_]) (C := [_,_,_,_,_,_,_,_,_,_,_,_,_,_]) S41 Z76 N76 ⟨(.r rfl), trivial⟩ rfl rfl rfl rfl ⟨_, [_,_,_,_,_,_,_,_,_,_,_,_,_,_], [_,_,_,_,_,_,_,_,_,_,_,_,_,_], rfl, rfl, rfl, rfl, rfl⟩ fun b26 => VO.h rfl<|HO.appT ((ecU x k)) 3 0 (fun R => [_,_,_, R,_,_,_,_,_,_,_]) S41 S41 I76 (.r rfl) (.r rfl) rfl rfl rfl rfl rfl rfl rfl (fun _ => rfl) rfl (by omega) fun p3 c3 => VO.h rfl<|HO.lo (LO.as (.r rfl))<|VO.nil ?_)
          refine VE.inN (VE.seqN ?_)
          refine VC.reg (VO.l (LO.mv (.r rfl)) rfl<|VO.l (LO.add (.r rfl) (.r rfl) (wi (by omega) (by omega))) rfl<|VO.l (LO.as (.r rfl)) rfl<|VO.nil ?_)
          refine VE.thenN fun a w ha hw => ⟨(i + 1, l ++ [ecU x k], p3, c3), ⟨by dsimp only; omega, by dsimp only; rw [hlr, ecRow_1, hk2]⟩, (by dsimp only; omega), ha.sub (.cons rfl (.cons rfl (.cons rfl (.cons rfl (.cons rfl (.cons rfl (.cons rfl (.cons rfl .nil)))))))), hw.sel [3,4,5,6,7,8,9,10] rfl⟩
    ·
      refine VC.exit (VE.thenX (VE.thenX (VE.inX (VE.seqN ?_))))
      refine VC.reg (VO.l (LO.fa (r := 10) F62_3 (.r rfl) rfl) rfl<|VO.l (LO.ld O60 (.r rfl) (fun _ hw => cells_at hw 1 rfl ⟨_, rfl⟩)) rfl<|VO.l (LO.mv (.r rfl)) rfl<|VO.h rfl<|HO.bs (ps := [(_,_)]) (vs := [(_,_)]) (Z := [_]) (C := [_]) S60 Z41 N41 ⟨(.r rfl), trivial⟩ rfl rfl rfl rfl ⟨_, [_], [_], rfl, rfl, rfl, rfl, rfl⟩ fun b27 => VO.h rfl<|HO.appT ((⟨pw, cw, l⟩ : ERow)) 3 0 (fun R => [_,_,_, R,_,_,_,_,_]) S60 S60 I41 (.r rfl) (.r rfl) rfl rfl rfl rfl rfl rfl rfl (fun _ => rfl) rfl (by omega) fun p4 c4 => VO.l (LO.fa (r := 10) F62_3 (.r rfl) rfl) rfl<|VO.h0<|HO.st 2 (vs := [_]) (C' := [_,_,_,_,_,_,_,_,_,_,_]) (L' := [_,_,_,_,_,_,_,_,_]) N60 rfl rfl rfl rfl rfl rfl rfl rfl<|VO.nil ?_)
      refine VE.inN (VE.seqN ?_)
      refine VC.reg (VO.l (LO.mv (.r rfl)) rfl<|VO.l (LO.add (.r rfl) (.r rfl) (wi (by omega) (by omega))) rfl<|VO.l (LO.as (.r rfl)) rfl<|VO.nil ?_)
      refine VE.thenN fun a w ha hw => ⟨(ra + 1, rs ++ [(⟨pw, cw, l⟩ : ERow)], p4, c4), ⟨by dsimp only; omega, by dsimp only; rw [show i = grU x by omega] at hlr; exact hrs.next hlr⟩, (by dsimp only; omega), ha.sub (.cons rfl (.cons rfl (.cons rfl (.cons rfl (.cons rfl (.cons rfl .nil)))))), (((selK [1,4,2,3,5,6,7,8] rfl rfl _ hw).bagRIn (x := (⟨pw, cw, l⟩ : ERow))).sel [1,2,0,3,4,5,6] rfl)⟩
  ·
    refine VC.exit (VE.thenX (VE.thenX (VE.inX (VE.seqN ?_))))
    refine VC.seq ?_
    refine VC.reg (VO.l (LO.lda (vs := [_,_,_,_,_,_,_,_,_,_,_]) A62 (.r rfl) (fun _ hw => cells_at hw 0 rfl ⟨_, rfl⟩) rfl) rfl<|VO.h0<|HO.st 5 (vs := [_,_,_,_,_,_,_,_,_,_,_]) (C' := [_,_,_,_,_,_,_,_,_,_,_]) (L' := [_,_,_,_,_,_,_]) N62 rfl rfl rfl rfl rfl rfl rfl rfl<|VO.l (LO.as (.r rfl)) rfl<|VO.nil ?_)
    refine VE.seqN ?_
    refine VC.ret (VE.res (vs := [_,_]) rfl ⟨RV.agg (vs := [_,_,_,_,_,_,_,_,_,_,_]) A62 rfl (cells_blk 5 rfl ⟨_, rfl⟩) rfl, rfl, trivial⟩ (fun w hw => ?_))
    have ha4 : ra = 4 := by omega
    rw [ha4] at hrs
    exact ⟨(rs, pr, cr), hrs, (by rw [← hrs.len]; rfl), hw.sel [1,2] rfl⟩

end Go.Proofs.YtffbohecdocajaaGreat

namespace Go.Proofs.YtffbohecdocajaaGreat
open Go.SL Go.Proofs Go.Pulse
set_option linter.unusedVariables false

theorem B57 : Builds Tryz.prog 57 [(0,1), (1,1), (2,1), (3,1), (4,1), (5,1), (6,1), (7,1), (8,1), (9,1), (10,1), (11,1)] [.int .u8 0, .int .u8 0, .int .u8 0, .int .u8 0, .int .u8 0, .int .u8 0, .int .i16 0, .slice none 0 0, .int .u16 0, .int .u8 0, .slice none 0 0, .slice none 0 0] := Builds.mk fun _ => by kernel_rfl
theorem Z57 : ZeroOf Tryz.prog 57 (.agg #[.int .u8 0, .int .u8 0, .int .u8 0, .int .u8 0, .int .u8 0, .int .u8 0, .int .i16 0, .slice none 0 0, .int .u16 0, .int .u8 0, .slice none 0 0, .slice none 0 0]) := by unfold ZeroOf; kernel_rfl
theorem N57 : (Tryz.prog.info? 57).map (·.size) = some 12 := by kernel_rfl
theorem C12 : IsFn Tryz.prog 12 := ⟨_, Tryz.func12, by decide, rfl⟩
theorem C15 : IsFn Tryz.prog 15 := ⟨_, Tryz.func15, by decide, rfl⟩
theorem F73_0 : FieldAt Tryz.prog 73 0 0 := ⟨_,_, Tryz.underlying73, rfl, rfl, 0, by kernel_rfl⟩
theorem F73_1 : FieldAt Tryz.prog 73 1 1 := ⟨_,_, Tryz.underlying73, rfl, rfl, 0, by kernel_rfl⟩
theorem EA78 : FlatA Tryz.prog 78 2 := ⟨⟨_, Tryz.underlying78, rfl⟩, by kernel_rfl, by kernel_rfl⟩
theorem C17 : IsFn Tryz.prog 17 := ⟨_, Tryz.func17, by decide, rfl⟩


theorem LefI.mem {s : List Span} {l o : List Gss} (h : LefI s l o) : ∀ q, q ∈ o → ∃ g, g ∈ l ∧ q.a = g.a ∧ q.b = g.b := by
  induction h with
  | nil => exact fun q hq => by cases hq
  | drop _ _ ih => exact fun q hq => by obtain ⟨g, hg, h1⟩ := ih q hq; exact ⟨g, List.mem_append_left _ hg, h1⟩
  | keep _ _ ih =>
    intro q hq
    rcases List.mem_append.1 hq with k | k
    · obtain ⟨g, hg, h1⟩ := ih q k; exact ⟨g, List.mem_append_left _ hg, h1⟩
    · rw [List.mem_singleton.1 k]; exact ⟨_, List.mem_append_right _ (List.mem_singleton.2 rfl), rfl, rfl⟩
/-- The truth is found. -/
theorem FndOk.has {t : Train} {x : Echo} {v : Int} {f : FndY} (h : FndOk t x v f) (hk : x.kind = 3) (hg : ∃ g, g ∈ gsL t x 60000 ∧ g.s.lo ≤ v ∧ v ≤ g.s.hi) : ∃ q, q ∈ f.l ∧ q.s.lo ≤ v ∧ v ≤ q.s.hi := by
  obtain ⟨⟨set, h1, h2⟩,_⟩ := h.y hk
  obtain ⟨g, hg, h3, h4⟩ := hg
  obtain ⟨q, h5,_,_, h6, h7⟩ := h1.has h2 hg h3 h4
  exact ⟨q, h5, h6, h7⟩
theorem FndOk.st23 {t : Train} {x : Echo} {v : Int} {f : FndY} (h : FndOk t x v f) (hk : x.kind = 3) (hq : ∃ q, q ∈ f.l) : f.st = 2 ∨ f.st = 3 := by
  obtain ⟨_, h1⟩ := h.y hk
  obtain ⟨q, hq⟩ := hq
  have h2 := List.length_pos_of_mem hq
  rw [h1]
  rcases len3 f.l with e | e | e
  · omega
  · exact .inl (stO_1 e)
  · exact .inr (stO_2 e)
def hasB (l : List Gss) (v : Int) : Bool := l.any fun g => decide (g.s.lo ≤ v) && decide (v ≤ g.s.hi)
theorem hasB_1 {l : List Gss} {v : Int} {k : Nat} (hk : k < l.length) : hasB (l.take (k + 1)) v = (hasB (l.take k) v || (decide ((l.getD k zG).s.lo ≤ v) && decide (v ≤ (l.getD k zG).s.hi))) := by
  unfold hasB
  rw [List.take_succ_eq_append_getElem hk, List.any_append, List.getD_eq_getElem?_getD, List.getElem?_eq_getElem hk]
  simp
theorem hasB_y {l : List Gss} {v : Int} (h : ∃ q, q ∈ l ∧ q.s.lo ≤ v ∧ v ≤ q.s.hi) : hasB l v = true := by
  obtain ⟨q, h1, h2, h3⟩ := h
  exact List.any_eq_true.2 ⟨q, h1, by rw [decide_eq_true h2, decide_eq_true h3]; rfl⟩
theorem nmU_ok : nameB nmU = true := by decide +kernel
theorem swE_0 {x : UX} (h : UXok x) {rs : List ERow} (hr : SwR x 4 rs) : sweepE (siteU x) 0 0 rs = 0 := by
  have hg := grU_bd x
  have e : siteE (siteU x) = 0 := siteE3 nmU_ok (by unfold siteOk siteU; dsimp only; omega)
  rw [sw5 (fun q => q e) ⟨⟨by decide, by decide⟩, by decide, by decide⟩ (fun q => q (by rw [hr.len]; rfl)) (fun j hj => by rw [hr.r j (by rw [← hr.len]; exact hj), ecRow_len]; rfl)]
  refine rows_0 fun k hk => ?_
  have hk4 : k < 4 := by rw [← hr.len]; exact hk
  rw [hr.r k hk4]
  refine firstE_zero fun i hi => ?_
  rw [ecRow_len] at hi
  rw [ecRow_at hi]
  exact ecU_ok h _
theorem xAt_U {x : UX} {rs : List ERow} (hr : SwR x 4 rs) {a i : Nat} (ha : a < 4) (hi : i < grU x) : xAt rs a i = ecU x (a * grU x + i) := by
  unfold xAt
  rw [hr.r a ha, ecRow_at hi]
theorem swU {x : UX} (h : UXok x) {rs : List ERow} (hr : SwR x 4 rs) {j : Int} (hj : ∀ i k, -j ≤ spdU x i - spdU x k ∧ spdU x i - spdU x k ≤ j) : SwU (trU x) rs (grU x) j (fun a i => spdU x (a * grU x + i)) :=
  ⟨trU_ok h, hr.len, fun a ha => by rw [hr.r a ha, ecRow_len], fun a i ha hi hk => by rw [xAt_U hr ha hi] at hk ⊢; exact ecU_clr h hk, fun a i b k => hj _ _⟩
/-- The example. -/
def exU : UX := ⟨1,200,150,62,0,0,30000, [], 0,0, [], []⟩
def exQ : UQ := ⟨none, 0, none, 0, none, 0⟩
theorem exU_ok : UXok exU := ⟨by decide, by decide, by decide, by decide, by decide, by decide, by decide, fun s hs => (by cases hs), by decide, by decide, fun s hs => (by cases hs), fun s hs => (by cases hs)⟩
theorem exU_w (w : World) : UXw w exU exQ := ⟨⟨fun j r hr => by simp [exU] at hr, fun _ => rfl, fun _ a ha => by cases ha⟩, ⟨fun j r hr => by simp [exU] at hr, fun _ => rfl, fun _ a ha => by cases ha⟩, ⟨fun j r hr => by simp [exU] at hr, fun _ => rfl, fun _ a ha => by cases ha⟩⟩
theorem exU_k : (ecU exU 0).kind = 3 := by kernel_rfl
theorem exU_g : ∃ s, gsL (trU exU) (ecU exU 0) 60000 = [⟨1,1, s⟩] := ⟨⟨29998,30001⟩, by kernel_rfl⟩
theorem exU_f {f : FndY} (h : FndOk (trU exU) (ecU exU 0) 30000 f) : f.st = 2 ∧ f.l.length = 1 ∧ (f.l.getD 0 zG).a = 1 ∧ (f.l.getD 0 zG).b = 1 ∧ (f.l.getD 0 zG).s.lo ≤ 30000 ∧ 30000 ≤ (f.l.getD 0 zG).s.hi := by
  have hc := ecU_clr exU_ok (k := 0) exU_k
  obtain ⟨q, h1, h2, h3⟩ := h.has exU_k hc.2
  obtain ⟨⟨set, h4,_⟩, h5⟩ := h.y exU_k
  obtain ⟨s, hs⟩ := exU_g
  rw [hs] at h4
  have hl : f.l.length = 1 := by have a := h4.len; have b := List.length_pos_of_mem h1; simp only [List.length_singleton] at a; omega
  obtain ⟨y, hy⟩ := List.length_eq_one_iff.1 hl
  rw [hy] at h1 h4
  have e := List.mem_singleton.1 h1
  subst e
  obtain ⟨g, hg, h6, h7⟩ := h4.mem q (List.mem_singleton.2 rfl)
  rw [List.mem_singleton.1 hg] at h6 h7
  rw [h5, hy]
  exact ⟨stO_1 rfl, rfl, h6, h7, h2, h3⟩
theorem exU_d : ∀ i k, -100 ≤ spdU exU i - spdU exU k ∧ spdU exU i - spdU exU k ≤ 100 := fun i k => by
  have e : ∀ i, spdU exU i = 30000 := fun i => rfl
  rw [e, e]; decide

set_option maxRecDepth 20000 in
set_option maxHeartbeats 1000000 in
theorem uWorks_c (w : World) :
  Calls Tryz.prog 17 #[] w fun e w' => e = .returned (.bool true) ∧ St (bs w) [] w' := by
  refine enter (vs := []) (env := []) Tryz.func17 rfl rfl rfl rfl ?_
  refine VC.seq ?_
  refine VC.reg (VO.l (LO.as (.r rfl)) rfl<|VO.nil ?_)
  refine VE.seqN ?_
  refine VC.seq ?_
  refine VC.reg (VO.l (LO.bd (ps := [(_,_), (_,_), (_,_), (_,_), (_,_)]) (vs := [(_,_), (_,_), (_,_), (_,_), (_,_)]) (C := [_,_,_,_,_,_,_,_,_,_,_,_]) B57  ⟨(.r rfl), (.r rfl), (.r rfl), (.r rfl), (.r rfl), trivial⟩ rfl ⟨_, [_], [_,_,_,_,_,_,_,_,_,_,_,_], rfl, rfl, rfl, rfl, ⟨_, [_], [_,_,_,_,_,_,_,_,_,_,_,_], rfl, rfl, rfl, rfl, ⟨_, [_], [_,_,_,_,_,_,_,_,_,_,_,_], rfl, rfl, rfl, rfl, ⟨_, [_], [_,_,_,_,_,_,_,_,_,_,_,_], rfl, rfl, rfl, rfl, ⟨_, [_], [_,_,_,_,_,_,_,_,_,_,_,_], rfl, rfl, rfl, rfl, rfl⟩⟩⟩⟩⟩) rfl<|VO.h rfl<|HO.alloc (C := #[_,_,_,_,_,_,_,_,_,_,_,_]) Z57 rfl fun b1 => VO.h0<|HO.st 0 (vs := [_,_,_,_,_,_,_,_,_,_,_,_]) (C' := [_,_,_,_,_,_,_,_,_,_,_,_]) (L' := [_]) N57 rfl rfl rfl rfl rfl rfl rfl rfl<|VO.nil ?_)
  refine VE.seqN ?_
  refine VC.seq ?_
  refine VC.reg (VO.l (LO.lda (vs := [_,_,_,_,_,_,_,_,_,_,_,_]) A57 (.r rfl) (fun _ hw => cells_at hw 0 rfl ⟨_, rfl⟩) rfl) rfl<|VO.h rfl<|HO.callx (xs := [_]) (vs := [_]) C12 ⟨(.r rfl), trivial⟩ (fun w hw => uSweep_c exU exQ w exU_ok (exU_w w)) fun ys hys => VO.h rfl<|HO.lo (LO.mv (.r rfl))<|VO.h rfl<|HO.lo (LO.ex (.r rfl) rfl)<|VO.h rfl<|HO.lo (LO.ex (.r rfl) rfl)<|VO.h rfl<|HO.alloc (C := #[_,_,_,_,_,_,_,_,_,_,_]) Z62 rfl fun b5 => VO.h0<|HO.st 0 (vs := [_,_,_,_,_,_,_,_,_,_,_]) (C' := [_,_,_,_,_,_,_,_,_,_,_]) (L' := [_,_,_,_]) N62 rfl rfl rfl rfl rfl rfl rfl rfl<|VO.h rfl<|HO.lo (LO.as (.r rfl))<|VO.nil ?_)
  refine VE.seqN ?_
  refine VC.seq ?_
  refine VC.seq ?_
  refine VC.reg (VO.l (LO.mv (.r rfl)) rfl<|VO.l (LO.not (.r rfl)) rfl<|VO.nil ?_)
  refine VE.seqN ?_
  refine VC.cond rfl (fun h14 => ?_) (fun h14 => ?_)
  ·
    (exfalso; simp at h14)
  ·
    refine VC.skip (VE.seqN ?_)
    refine VC.seq ?_
    have hSW := swU exU_ok hys exU_d
    have hsw0 := swE_0 exU_ok hys
    refine VC.drawCat 4 mixed (by kernel_rfl) (VA.drawH [[0,1,2,3], [0,1,2,3]] [some 0, some 0, some 0, none] (by kernel_rfl) rfl (LX.l (fun _ hJ => LO.lda (vs := [_,_,_,_,_,_,_,_,_,_,_,_]) A57 (.r rfl) (fun _ hw => cells_at (hJ _ hw) 3 rfl ⟨_, rfl⟩) rfl) rfl<|LX.l (fun _ hJ => LO.call (xs := [_]) (vs := [_]) C13 ⟨(.r rfl), trivial⟩ (fun w _ => uTrain_c exU exQ w exU_ok)) rfl<|LX.l (fun _ hJ => LO.lda (vs := [_,_,_,_,_,_,_,_,_,_,_]) A62 (.r rfl) (fun _ hw => cells_at (hJ _ hw) 0 rfl ⟨_, rfl⟩) rfl) rfl<|LX.s<|LX.nil) (HX.s<|HX.s<|HX.s<|HX.h rfl<|HO.callx (xs := [_,_,_,_,_]) (vs := [_,_,_,_,_]) C15 ⟨(.r rfl), (.r rfl), (.r rfl), (.r rfl), (.r rfl), trivial⟩ (fun w hw => Unfold_c (trU exU) (siteU exU) 0 0 ys.1 (grU exU) 100 1 (fun a i => spdU exU (a * grU exU + i)) ys.2.1 ys.2.2 w hSW hsw0 (grU_bd _) (by decide) (by decide) (RR.of_own hw 1 2 rfl rfl)) fun yu hU => ⟨fun _ hw => hw.sel [3,4,5,6] rfl, HX.nil (VE.any (VA.draw (LL.l (LO.mv (.r rfl)) rfl<|LL.l (LO.ex (.r rfl) rfl) rfl<|LL.l (LO.ex (.r rfl) rfl) rfl<|LL.l (LO.as (.r rfl)) rfl<|LL.l (LO.as (.r rfl)) rfl<|LL.nil) (by kernel_rfl) ?_))⟩))
    refine VE.seqN ?_
    refine VC.seq ?_
    refine VC.seq ?_
    refine VC.rebase fun w1 hst1 => ?_
    have hUX : Cells w1 ⟨b1,0, none⟩ (uxC exU exQ) := cells_at hst1 6 rfl ⟨[], rfl⟩
    have hSB : Cells w1 ⟨b5,0, none⟩ (sweepC (siteU exU) 0 0 ys.2.1 4 ys.2.2) := cells_at hst1 3 rfl ⟨[], rfl⟩
    have hT : RO 1 frC w1 yu.1.1 yu.2.1 := RO.of_own hst1 0 rfl
    have hR : ∀ a, a < 4 → RO 2 fnC w1 (yu.2.1.getD a zFR).p (yu.2.1.getD a zFR).l := fun a ha => own_inv_rows ((hst1.inv 1 _ rfl).1 _ (List.mem_map_of_mem (getD_mem (by rw [hU.len]; exact ha))))
    have hL : ∀ f, f ∈ yu.2.2 → RO 4 gssC w1 f.p f.l := fun f hf => own_inv_rows ((hst1.inv 2 _ rfl).1 _ (List.mem_map_of_mem hf))
    have hE1 : ERows w1 ys.2.1 ys.1 := RR.of_own hst1 4 5 rfl rfl
    have hT4 : SlSome yu.1.1 4 := by have z := hT.sm; rwa [hU.len] at z
    have hul := hU.len
    have hr0 := hU.row 0 (by decide)
    have hgr : grU exU = 1 := by kernel_rfl
    rw [hgr] at hr0
    have hf0 := (hU.at_ 0 0 (by decide) (by rw [hgr]; decide))
    rw [xAt_U hys (by decide) (by rw [hgr]; decide)] at hf0
    have hex := exU_f hf0.1
    unfold fAt at hex hf0
    have hfm : (yu.2.1.getD 0 zFR).l.getD 0 zFn ∈ yu.2.2 := hf0.2.resolve_right (fun q => by rw [q] at hex; exact absurd hex.2.1 (by decide))
    refine VC.reg (VO.l (LO.mv (.r rfl)) rfl<|VO.l (LO.ne (.r rfl) (.r rfl)) rfl<|VO.l (LO.mv (.r rfl)) rfl<|VO.lg rfl rfl (GD.f _) (fun hg => LO.mv (.r rfl)) rfl<|VO.lg rfl rfl (GD.f _) (fun hg => LO.len S67 (.g hg rfl) rfl) rfl<|VO.lg rfl rfl (GD.f _) (fun hg => LO.ne (.g hg rfl) (.r rfl)) rfl<|VO.l (LO.pkO (.r rfl) (.r rfl) rfl rfl) rfl<|VO.l (LO.mv (.r rfl)) rfl<|VO.lg rfl rfl (GD.f _) (fun hg => LO.mv (.r rfl)) rfl<|VO.lg rfl rfl (GD.f _) (fun hg => LO.ixs S67 N70 hT4 (.g hg rfl) (.r rfl) (j := 0) rfl (by decide)) rfl<|VO.lg rfl rfl (GD.f _) (fun hg => LO.ld O70 (.g hg rfl) (fun w hw => cells_part (off := 0) ((hT.at zFR (j := 0) (by omega)) w hw) ⟨_, rfl⟩)) rfl<|VO.lg rfl rfl (GD.f _) (fun hg => LO.len S70 (.g hg rfl) rfl) rfl<|VO.lg rfl rfl (GD.f _) (fun hg => LO.ne (.g hg rfl) (.r rfl)) rfl<|VO.l (LO.pkO (.r rfl) (.r rfl) rfl rfl) rfl<|VO.l (LO.mv (.r rfl)) rfl<|VO.lg rfl rfl (GD.f _) (fun hg => LO.mv (.r rfl)) rfl<|VO.lg rfl rfl (GD.f _) (fun hg => LO.ixs S67 N70 hT4 (.g hg rfl) (.r rfl) (j := 0) rfl (by decide)) rfl<|VO.lg rfl rfl (GD.f _) (fun hg => LO.ld O70 (.g hg rfl) (fun w hw => cells_part (off := 0) ((hT.at zFR (j := 0) (by omega)) w hw) ⟨_, rfl⟩)) rfl<|VO.lg rfl rfl (GD.f _) (fun hg => LO.ixs S70 N73 (hR 0 (by decide)).sm (.g hg rfl) (.r rfl) (j := 0) rfl (by omega)) rfl<|VO.lg rfl rfl (GD.f _) (fun hg => LO.fa F73_0 (.g hg rfl) rfl) rfl<|VO.lg rfl rfl (GD.f _) (fun hg => LO.ld O3 (.g hg rfl) (fun w hw => cells_part (off := 0) (((hR 0 (by decide)).at zFn (j := 0) (by omega)) w hw) ⟨_, rfl⟩)) rfl<|VO.lg rfl rfl (GD.f _) (fun hg => LO.ne (.g hg rfl) (.r rfl)) rfl<|VO.l (LO.pkO (.r rfl) (.r rfl) rfl rfl) rfl<|VO.nil ?_)
    refine VE.seqN ?_
    refine VC.cond rfl (fun h44 => ?_) (fun h44 => ?_)
    ·
      (exfalso; (rw [hr0, hex.1] at h44; exact absurd h44 (by decide)))
    ·
      refine VC.skip (VE.seqN ?_)
      refine VC.seq ?_
      refine VC.reg (VO.l (LO.mv (.r rfl)) rfl<|VO.l (LO.ixs S67 N70 hT4 (.r rfl) (.r rfl) (j := 0) rfl (by decide)) rfl<|VO.l (LO.ld O70 (.r rfl) (fun w hw => cells_part (off := 0) ((hT.at zFR (j := 0) (by omega)) w hw) ⟨_, rfl⟩)) rfl<|VO.l (LO.ixs S70 N73 (hR 0 (by decide)).sm (.r rfl) (.r rfl) (j := 0) rfl (by omega)) rfl<|VO.l (LO.fa F73_1 (.r rfl) rfl) rfl<|VO.l (LO.ld O71 (.r rfl) (fun w hw => cells_part (off := 1) (((hR 0 (by decide)).at zFn (j := 0) (by omega)) w hw) ⟨_, rfl⟩)) rfl<|VO.l (LO.ixs S71 N80 (hL _ hfm).sm (.r rfl) (.r rfl) (j := 0) rfl (by omega)) rfl<|VO.l (LO.lda (vs := [_,_,_,_]) A80 (.r rfl) (fun w hw => cells_part (off := 0) (((hL _ hfm).at zG (j := 0) (by omega)) w hw) ⟨_, rfl⟩) rfl) rfl<|VO.h rfl<|HO.alloc (C := #[_,_,_,_]) Z80 rfl fun b13 => VO.h0<|HO.st 0 (vs := [_,_,_,_]) (C' := [_,_,_,_]) (L' := [_]) N80 rfl rfl rfl rfl rfl rfl rfl rfl<|VO.nil ?_)
      refine VE.seqN ?_
      refine VC.seq ?_
      refine VC.reg (VO.l (LO.fa (r := 0) F80_0 (.r rfl) rfl) rfl<|VO.l (LO.lda (vs := [_,_]) A78 (.r rfl) (fun _ hw => cells_at hw 0 rfl ⟨_, rfl⟩) rfl) rfl<|VO.l (LO.bda (ps := [(_,_), (_,_)]) (vs := [(_,_), (_,_)]) (C := [_,_]) B78 rfl ⟨(.r rfl), (.r rfl), trivial⟩ rfl ⟨_, [_], [_,_], rfl, rfl, rfl, rfl, ⟨_, [_], [_,_], rfl, rfl, rfl, rfl, rfl⟩⟩) rfl<|VO.l (LO.eqA («as» := [_,_]) (bs := [_,_]) EA78 (.r rfl) (.r rfl) rfl rfl) rfl<|VO.l (LO.mv (.r rfl)) rfl<|VO.lg rfl rfl (GD.t _) (fun hg => LO.fa (r := 2) F80_1 (.r rfl) rfl) rfl<|VO.lg rfl rfl (GD.t _) (fun hg => LO.fa (r := 2) F25_0 (.g hg rfl) rfl) rfl<|VO.lg rfl rfl (GD.t _) (fun hg => LO.ld O3 (.g hg rfl) (fun _ hw => cells_at hw 0 rfl ⟨_, rfl⟩)) rfl<|VO.lg rfl rfl (GD.t _) (fun hg => LO.le (.g hg rfl) (.r rfl)) rfl<|VO.l (LO.pkA (.r rfl) rfl rfl (.r rfl)) rfl<|VO.l (LO.mv (.r rfl)) rfl<|VO.lg rfl rfl (GD.t _) (fun hg => LO.fa (r := 2) F80_1 (.r rfl) rfl) rfl<|VO.lg rfl rfl (GD.t _) (fun hg => LO.fa (r := 3) F25_1 (.g hg rfl) rfl) rfl<|VO.lg rfl rfl (GD.t _) (fun hg => LO.ld O3 (.g hg rfl) (fun _ hw => cells_at hw 0 rfl ⟨_, rfl⟩)) rfl<|VO.lg rfl rfl (GD.t _) (fun hg => LO.ge (.g hg rfl) (.r rfl)) rfl<|VO.l (LO.pkA (.r rfl) rfl rfl (.r rfl)) rfl<|VO.l (LO.as (.r rfl)) rfl<|VO.nil ?_)
      refine VE.seqN ?_
      refine VC.ret (VE.res (vs := [_]) rfl ⟨rfl, trivial⟩ (fun w hw => ?_))
      refine ⟨?_, St.based hst1 hw⟩
      obtain ⟨e1, e2, e3, e4, e5, e6⟩ := hex
      rw [e3, e4, decide_eq_true e5, decide_eq_true e6]
      rfl

set_option maxRecDepth 20000 in
set_option maxHeartbeats 4000000 in
theorem TopUnfolded_c (x : UX) (q : UQ) (w : World) (h : UXok x) (hx : UXw w x q) :
  Calls Tryz.prog 4 #[.agg (uxC x q).toArray] w fun e w' => e = .returned (.bool true) ∧ St (bs w) [] w' := by
  have hgr := grU_bd x
  have hjm := x.jump
  have hju := h.jump
  have hsl := h.slip
  have hjb := jmpU_bd h
  have ej : x.jump.tmod 9000 = jmpU x := tmE hju.1
  have es : x.slip.tmod 3 = x.slip % 3 := tmE hsl.1
  refine enter (vs := [_]) (env := [(0,_)]) Tryz.func4 rfl rfl rfl rfl ?_
  refine VC.seq ?_
  refine VC.reg (VO.h rfl<|HO.box (C := #[_,_,_,_,_,_,_,_,_,_,_,_]) rfl rfl fun b1 => VO.l (LO.as (.r rfl)) rfl<|VO.nil ?_)
  refine VE.seqN ?_
  refine VC.seq ?_
  refine VC.reg (VO.l (LO.lda (vs := [_,_,_,_,_,_,_,_,_,_,_,_]) A57 (.r rfl) (fun _ hw => cells_at hw 0 rfl ⟨_, rfl⟩) rfl) rfl<|VO.h rfl<|HO.callx (xs := [_]) (vs := [_]) C12 ⟨(.r rfl), trivial⟩ (fun w hw => uSweep_c x q w h (hx.keep w hw)) fun ys hys => VO.h rfl<|HO.lo (LO.mv (.r rfl))<|VO.h rfl<|HO.lo (LO.ex (.r rfl) rfl)<|VO.h rfl<|HO.lo (LO.ex (.r rfl) rfl)<|VO.h rfl<|HO.alloc (C := #[_,_,_,_,_,_,_,_,_,_,_]) Z62 rfl fun b4 => VO.h0<|HO.st 0 (vs := [_,_,_,_,_,_,_,_,_,_,_]) (C' := [_,_,_,_,_,_,_,_,_,_,_]) (L' := [_,_,_,_]) N62 rfl rfl rfl rfl rfl rfl rfl rfl<|VO.h rfl<|HO.lo (LO.as (.r rfl))<|VO.nil ?_)
  refine VE.seqN ?_
  refine VC.seq ?_
  have hSW := swU h hys (spdU_diff h)
  have hsw0 := swE_0 h hys
  refine VC.reg (VO.l (LO.lda (vs := [_,_,_,_,_,_,_,_,_,_,_,_]) A57 (.r rfl) (fun _ hw => cells_at hw 3 rfl ⟨_, rfl⟩) rfl) rfl<|VO.l (LO.call (xs := [_]) (vs := [_]) C13 ⟨(.r rfl), trivial⟩ (fun w _ => uTrain_c x q w h)) rfl<|VO.h rfl<|HO.alloc (C := #[_,_,_,_,_]) Z23 rfl fun b6 => VO.h0<|HO.st 0 (vs := [_,_,_,_,_]) (C' := [_,_,_,_,_]) (L' := [_,_,_,_,_]) N23 rfl rfl rfl rfl rfl rfl rfl rfl<|VO.nil ?_)
  refine VE.seqN ?_
  refine VC.seq ?_
  refine VC.seq ?_
  refine VC.reg (VO.l (LO.mv (.r rfl)) rfl<|VO.l (LO.not (.r rfl)) rfl<|VO.l (LO.mv (.r rfl)) rfl<|VO.lg rfl rfl (GD.f _) (fun hg => LO.lda (vs := [_,_,_,_,_,_,_,_,_,_,_]) A62 (.r rfl) (fun _ hw => cells_at hw 1 rfl ⟨_, rfl⟩) rfl) rfl<|VO.lg rfl rfl (GD.f _) (fun hg => LO.call (xs := [_]) (vs := [_]) C14 ⟨(.g hg rfl), trivial⟩ (fun w hw => CheckSweep_4 (siteU x) 0 0 ys.1 ys.2.1 ys.2.2 w hys.len (fun r hr => by obtain ⟨k, hk, rfl⟩ := mem_getD (d := zRE) hr; rw [hys.r k (by rw [← hys.len]; exact hk), ecRow_len]; omega) (RR.of_own hw 2 3 rfl rfl) hsw0)) rfl<|VO.lg rfl rfl (GD.f _) (fun hg => LO.ne (.g hg rfl) (.r rfl)) rfl<|VO.l (LO.pkO (.r rfl) (.r rfl) rfl rfl) rfl<|VO.nil ?_)
  refine VE.seqN ?_
  refine VC.cond rfl (fun h27 => ?_) (fun h27 => ?_)
  ·
    (exfalso; simp at h27)
  ·
    refine VC.skip (VE.seqN ?_)
    refine VC.seq ?_
    refine VC.reg (VO.l (LO.lda (vs := [_,_,_,_,_]) A23 (.r rfl) (fun _ hw => cells_at hw 0 rfl ⟨_, rfl⟩) rfl) rfl<|VO.l (LO.lda (vs := [_,_,_,_,_,_,_,_,_,_,_]) A62 (.r rfl) (fun _ hw => cells_at hw 1 rfl ⟨_, rfl⟩) rfl) rfl<|VO.l (LO.fa (r := 8) F57_8 (.r rfl) rfl) rfl<|VO.l (LO.ld O28 (.r rfl) (fun _ hw => cells_at hw 4 rfl ⟨_, rfl⟩)) rfl<|VO.l (LO.cv ⟨_, Tryz.underlying28⟩ Tryz.underlying3 (.r rfl) (wi (by omega) (by omega))) rfl<|VO.l (LO.eqv (LO.rem (.r rfl) (.r rfl) (by decide)) (congrArg (Value.int .i64) ej)) rfl<|VO.l (LO.fa (r := 9) F57_9 (.r rfl) rfl) rfl<|VO.l (LO.ld O5 (.r rfl) (fun _ hw => cells_at hw 4 rfl ⟨_, rfl⟩)) rfl<|VO.l (LO.cv ⟨_, Tryz.underlying5⟩ Tryz.underlying3 (.r rfl) (wi (by omega) (by omega))) rfl<|VO.l (LO.eqv (LO.rem (.r rfl) (.r rfl) (by decide)) (congrArg (Value.int .i64) es)) rfl<|VO.l (LO.add (.r rfl) (.r rfl) (wi (by omega) (by omega))) rfl<|VO.h rfl<|HO.callx (xs := [_,_,_,_,_]) (vs := [_,_,_,_,_]) C15 ⟨(.r rfl), (.r rfl), (.r rfl), (.r rfl), (.r rfl), trivial⟩ (fun w hw => Unfold_c (trU x) (siteU x) 0 0 ys.1 (grU x) (jmpU x) (1 + x.slip % 3) (fun a i => spdU x (a * grU x + i)) ys.2.1 ys.2.2 w hSW hsw0 hgr (by omega) (by omega) (RR.of_own hw 2 3 rfl rfl)) fun yu hU => VO.h rfl<|HO.lo (LO.mv (.r rfl))<|VO.h rfl<|HO.lo (LO.ex (.r rfl) rfl)<|VO.h rfl<|HO.lo (LO.ex (.r rfl) rfl)<|VO.h rfl<|HO.lo (LO.as (.r rfl))<|VO.h rfl<|HO.lo (LO.as (.r rfl))<|VO.nil ?_)
    refine VE.seqN ?_
    refine VC.seq ?_
    refine VC.seq ?_
    refine VC.reg (VO.l (LO.mv (.r rfl)) rfl<|VO.l (LO.ne (.r rfl) (.r rfl)) rfl<|VO.l (LO.mv (.r rfl)) rfl<|VO.lg rfl rfl (GD.f _) (fun hg => LO.mv (.r rfl)) rfl<|VO.lg rfl rfl (GD.f _) (fun hg => LO.len S67 (.g hg rfl) rfl) rfl<|VO.lg rfl rfl (GD.f _) (fun hg => LO.ne (.g hg rfl) (.r rfl)) rfl<|VO.l (LO.pkO (.r rfl) (.r rfl) rfl rfl) rfl<|VO.nil ?_)
    refine VE.seqN ?_
    refine VC.cond rfl (fun h49 => ?_) (fun h49 => ?_)
    ·
      (exfalso; simp at h49)
    ·
      refine VC.skip (VE.seqN ?_)
      refine VC.seq ?_
      refine VC.seq ?_
      refine VC.rebase fun w1 hst1 => ?_
      have hUX : Cells w1 ⟨b1,0, none⟩ (uxC x q) := cells_at hst1 7 rfl ⟨[], rfl⟩
      have hSB : Cells w1 ⟨b4,0, none⟩ (sweepC (siteU x) 0 0 ys.2.1 4 ys.2.2) := cells_at hst1 4 rfl ⟨[], rfl⟩
      have hT : RO 1 frC w1 yu.1.1 yu.2.1 := RO.of_own hst1 0 rfl
      have hR : ∀ a, a < 4 → RO 2 fnC w1 (yu.2.1.getD a zFR).p (yu.2.1.getD a zFR).l := fun a ha => own_inv_rows ((hst1.inv 1 _ rfl).1 _ (List.mem_map_of_mem (getD_mem (by rw [hU.len]; exact ha))))
      have hL : ∀ f, f ∈ yu.2.2 → RO 4 gssC w1 f.p f.l := fun f hf => own_inv_rows ((hst1.inv 2 _ rfl).1 _ (List.mem_map_of_mem hf))
      have hE1 : ERows w1 ys.2.1 ys.1 := RR.of_own hst1 5 6 rfl rfl
      have hT4 : SlSome yu.1.1 4 := by have z := hT.sm; rwa [hU.len] at z
      have hul := hU.len
      have hx1 := hx.keep w1 hst1
      have hys4 := hys.len
      refine VC.reg (VO.l (LO.as (.r rfl)) rfl<|VO.nil ?_)
      refine VE.seqN ?_
      refine VC.block ?_
      refine VC.loopK (α := Nat) 0 (fun gx => [(8, .int .i64 (gx : Nat))]) [(1,_), (3,_), (6,_)] (fun gx => []) (fun gx => gx ≤ 4) (fun gx => 4 - gx) 0 (by decide) (.cons rfl (.cons rfl (.cons rfl (.cons rfl .nil)))) (fun _ h => h) ?_
      rintro ra hra
      refine VC.seq ?_
      refine VC.seq ?_
      refine VC.reg (VO.l (LO.mv (.r rfl)) rfl<|VO.l (LO.lt (.r rfl) (.r rfl)) rfl<|VO.nil ?_)
      refine VE.seqN ?_
      refine VC.cond rfl (fun h3 => ?_) (fun h3 => ?_)
      ·
        refine VC.skip (VE.seqN ?_)
        refine VC.seq ?_
        refine VC.block ?_
        refine VC.seq ?_
        refine VC.seq ?_
        have hrl := hU.row ra (by omega)
        refine VC.draw mixed (LL.l (LO.mv (.r rfl)) rfl<|LL.l (LO.mv (.r rfl)) rfl<|LL.l (LO.ixs S67 N70 hT4 (.r rfl) (.r rfl) (j := ra) rfl (by omega)) rfl<|LL.l (LO.ld O70 (.r rfl) (fun w hw => cells_part (off := 0) ((hT.at zFR (j := ra) (by omega)) w hw) ⟨_, rfl⟩)) rfl<|LL.l (LO.len S70 (.r rfl) rfl) rfl<|LL.l (LO.fa (r := 0) F62_0 (.r rfl) rfl) rfl<|LL.l (LO.fa (r := 5) F59_5 (.r rfl) rfl) rfl<|LL.l (LO.ld (v := .int .i64 ((grU x : Nat) : Int)) O3 (.r rfl) (cells_keep (sub_cells (off := 5) hSB ⟨_, rfl⟩))) rfl<|LL.l (LO.ne (.r rfl) (.r rfl)) rfl<|LL.nil) (by kernel_rfl) ?_
        refine VE.seqN ?_
        refine VC.cond rfl (fun h62 => ?_) (fun h62 => ?_)
        ·
          (exfalso; exact h62 (by rw [hrl]))
        ·
          refine VC.skip (VE.seqN ?_)
          refine VC.seq ?_
          refine VC.reg (VO.l (LO.as (.r rfl)) rfl<|VO.nil ?_)
          refine VE.seqN ?_
          refine VC.block ?_
          have hel : (ys.1.getD ra zRE).l.length = grU x := by rw [hys.r ra (by omega), ecRow_len]
          refine VC.loopK (α := Nat) 0 (fun gx => [(9, .int .i64 (gx : Nat))]) [(1,_), (3,_), (6,_), (8,_)] (fun gx => []) (fun gx => gx ≤ grU x) (fun gx => grU x - gx) 0 (by exact Nat.zero_le _) (.cons rfl (.cons rfl (.cons rfl (.cons rfl (.cons rfl .nil))))) (fun _ h => h) ?_
          rintro i hi
          refine VC.seq ?_
          refine VC.seq ?_
          refine VC.reg (VO.l (LO.mv (.r rfl)) rfl<|VO.l (LO.fa (r := 0) F62_0 (.r rfl) rfl) rfl<|VO.l (LO.fa (r := 5) F59_5 (.r rfl) rfl) rfl<|VO.l (LO.ld (v := .int .i64 ((grU x : Nat) : Int)) O3 (.r rfl) (cells_keep (sub_cells (off := 5) hSB ⟨_, rfl⟩))) rfl<|VO.l (LO.lt (.r rfl) (.r rfl)) rfl<|VO.nil ?_)
          refine VE.seqN ?_
          refine VC.cond rfl (fun h5 => ?_) (fun h5 => ?_)
          ·
            refine VC.skip (VE.seqN ?_)
            refine VC.seq ?_
            refine VC.block ?_
            refine VC.seq ?_
            refine VC.reg (VO.l (LO.mv (.r rfl)) rfl<|VO.l (LO.mv (.r rfl)) rfl<|VO.l (LO.ixs S67 N70 hT4 (.r rfl) (.r rfl) (j := ra) rfl (by omega)) rfl<|VO.l (LO.ld O70 (.r rfl) (fun w hw => cells_part (off := 0) ((hT.at zFR (j := ra) (by omega)) w hw) ⟨_, rfl⟩)) rfl<|VO.l (LO.mv (.r rfl)) rfl<|VO.l (LO.ixs S70 N73 (hR ra (by omega)).sm (.r rfl) (.r rfl) (j := i) rfl (by omega)) rfl<|VO.l (LO.lda (vs := [_,_]) A73 (.r rfl) (fun w hw => cells_part (off := 0) (((hR ra (by omega)).at zFn (j := i) (by omega)) w hw) ⟨_, rfl⟩) rfl) rfl<|VO.h rfl<|HO.alloc (C := #[_,_]) Z73 rfl fun b11 => VO.h0<|HO.st 0 (vs := [_,_]) (C' := [_,_]) (L' := [_]) N73 rfl rfl rfl rfl rfl rfl rfl rfl<|VO.nil ?_)
            obtain ⟨f, hf⟩ : ∃ f, f = (yu.2.1.getD ra zFR).l.getD i zFn := ⟨_, rfl⟩
            rw [← hf]
            have hfo := hU.at_ ra i (by omega) (by omega)
            rw [show fAt yu.2.1 ra i = f from hf.symm] at hfo
            refine VE.seqN ?_
            refine VC.seq ?_
            refine VC.seq ?_
            refine VC.reg (VO.l (LO.fa (r := 10) F62_3 (.r rfl) rfl) rfl<|VO.l (LO.ld O60 (.r rfl) (cells_keep (sub_cells (off := 10) hSB ⟨_, rfl⟩))) rfl<|VO.l (LO.mv (.r rfl)) rfl<|VO.l (LO.ixs S60 N41 (show SlSome ys.2.1 4 by have z := hE1.1.sm; rwa [hys4] at z) (.r rfl) (.r rfl) (j := ra) rfl (by omega)) rfl<|VO.l (LO.ld O41 (.r rfl) (fun w hw => cells_part (off := 0) ((hE1.1.at zRE (j := ra) (by omega)) w hw) ⟨_, rfl⟩)) rfl<|VO.l (LO.mv (.r rfl)) rfl<|VO.l (LO.ixs S41 N76 (erow_at hE1 (i := ra) (by omega)).2.sm (.r rfl) (.r rfl) (j := i) rfl (by omega)) rfl<|VO.l (LO.fa F76_0 (.r rfl) rfl) rfl<|VO.l (LO.ld O3 (.r rfl) (fun w hw => cells_part (off := 0) (((erow_at hE1 (i := ra) (by omega)).2.at zE (j := i) (by omega)) w hw) ⟨_, rfl⟩)) rfl<|VO.l (LO.ne (.r rfl) (.r rfl)) rfl<|VO.nil ?_)
            refine VE.seqN ?_
            refine VC.cond rfl (fun h86 => ?_) (fun h86 => ?_)
            ·
              refine VC.seq ?_
              refine VC.seq ?_
              refine VC.reg (VO.l (LO.fa (r := 0) F73_0 (.r rfl) rfl) rfl<|VO.l (LO.ld O3 (.r rfl) (fun _ hw => cells_at hw 0 rfl ⟨_, rfl⟩)) rfl<|VO.l (LO.ne (.r rfl) (.r rfl)) rfl<|VO.nil ?_)
              refine VE.seqN ?_
              refine VC.cond rfl (fun h89 => ?_) (fun h89 => ?_)
              ·
                (exfalso; exact h89 (hfo.1.n h86).1)
              ·
                refine VC.skip (VE.seqN ?_)
                refine VC.exit (VE.thenX (VE.inX (VE.seqN ?_)))
                refine VC.reg (VO.l (LO.mv (.r rfl)) rfl<|VO.l (LO.add (.r rfl) (.r rfl) (wi (by omega) (by omega))) rfl<|VO.l (LO.as (.r rfl)) rfl<|VO.nil ?_)
                refine VE.thenN fun a w ha hw => ⟨i + 1, (by omega), (by omega), ha.sub (.cons rfl (.cons rfl (.cons rfl (.cons rfl (.cons rfl .nil))))), hw.sel [] rfl⟩
            ·
              refine VC.skip (VE.seqN ?_)
              refine VC.seq ?_
              have hag : (0 : Int) ≤ (ra : Int) * (grU x : Int) ∧ (ra : Int) * (grU x : Int) ≤ 9 := by rw [← Int.natCast_mul]; have := Nat.mul_le_mul (show ra ≤ 3 by omega) hgr.2; omega
              obtain ⟨k, hk, hk2⟩ : ∃ k : Nat, (ra : Int) * (grU x : Int) + (i : Int) = (k : Int) ∧ k = ra * grU x + i := ⟨ra * grU x + i, by rw [Int.natCast_add, Int.natCast_mul], rfl⟩
              have hk3 : k < 100 := by omega
              have hxe := xAt_U hys (a := ra) (i := i) (by omega) (by omega)
              have hk4 : (ecU x k).kind = 3 := by rw [hk2, ← hxe]; exact Classical.not_not.1 h86
              rw [hxe, ← hk2] at hfo
              have hcl := ecU_clr h hk4
              have hhas := hfo.1.has hk4 hcl.2
              obtain ⟨qq, hq1, hq2⟩ := hhas
              have hhas : ∃ q, q ∈ f.l ∧ q.s.lo ≤ spdU x k ∧ spdU x k ≤ q.s.hi := ⟨qq, hq1, hq2⟩
              have hst := hfo.1.st23 hk4 ⟨_, hq1⟩
              have hfm : f ∈ yu.2.2 := hfo.2.resolve_right (fun z => by rw [z] at hq1; cases hq1)
              obtain ⟨⟨set_, hle,_⟩,_⟩ := hfo.1.y hk4
              have hfn : f.l.length ≤ 20000 := Nat.le_trans hle.len gsL_len
              have hfl := hL f hfm
              refine VC.reg (VO.l (LO.lda (vs := [_,_,_,_,_,_,_,_,_,_,_,_]) A57 (.r rfl) (cells_keep (sub_cells (off := 0) hUX ⟨_, rfl⟩)) rfl) rfl<|VO.l (LO.mv (.r rfl)) rfl<|VO.l (LO.fa (r := 0) F62_0 (.r rfl) rfl) rfl<|VO.l (LO.fa (r := 5) F59_5 (.r rfl) rfl) rfl<|VO.l (LO.ld (v := .int .i64 ((grU x : Nat) : Int)) O3 (.r rfl) (cells_keep (sub_cells (off := 5) hSB ⟨_, rfl⟩))) rfl<|VO.l (LO.mul (.r rfl) (.r rfl) (wi (by omega) (by omega))) rfl<|VO.l (LO.mv (.r rfl)) rfl<|VO.l (LO.eqv (LO.add (.r rfl) (.r rfl) (wi (by omega) (by omega))) (congrArg (Value.int .i64) hk)) rfl<|VO.l (LO.call (xs := [_,_]) (vs := [_,_]) C16 ⟨(.r rfl), (.r rfl), trivial⟩ (fun w hw => uSpeed_c x q k w h (hx1.keep w hw) (by omega))) rfl<|VO.l (LO.as (.r rfl)) rfl<|VO.nil ?_)
              refine VE.seqN ?_
              refine VC.seq ?_
              refine VC.reg (VO.l (LO.as (.r rfl)) rfl<|VO.nil ?_)
              refine VE.seqN ?_
              refine VC.seq ?_
              refine VC.seq ?_
              refine VC.reg (VO.l (LO.as (.r rfl)) rfl<|VO.nil ?_)
              refine VE.seqN ?_
              refine VC.block ?_
              refine VC.loopK (α := Nat × Bool) 0 (fun gx => [(12, .bool gx.2), (13, .int .i64 (gx.1 : Nat))]) [(1,_), (3,_), (6,_), (8,_), (9,_), (10,_), (11,_)] (fun gx => []) (fun gx => gx.1 ≤ f.l.length ∧ gx.2 = hasB (f.l.take gx.1) (spdU x k)) (fun gx => f.l.length - gx.1) (0, false) (by exact ⟨Nat.zero_le _, rfl⟩) (.cons rfl (.cons rfl (.cons rfl (.cons rfl (.cons rfl (.cons rfl (.cons rfl (.cons rfl (.cons rfl .nil))))))))) (fun _ h => h) ?_
              rintro ⟨j, hb⟩ ⟨hj, hhb⟩
              show VC _ _ _ _ _ ([(12, .bool hb), (13, .int .i64 (j : Nat))] ++ _) ([] ++ _) _ _
              dsimp only at hj hhb
              refine VC.seq ?_
              refine VC.seq ?_
              refine VC.reg (VO.l (LO.mv (.r rfl)) rfl<|VO.l (LO.fa (r := 1) F73_1 (.r rfl) rfl) rfl<|VO.l (LO.ld O71 (.r rfl) (fun _ hw => cells_at hw 0 rfl ⟨_, rfl⟩)) rfl<|VO.l (LO.len S71 (.r rfl) rfl) rfl<|VO.l (LO.lt (.r rfl) (.r rfl)) rfl<|VO.nil ?_)
              refine VE.seqN ?_
              refine VC.cond rfl (fun h8 => ?_) (fun h8 => ?_)
              ·
                refine VC.skip (VE.seqN ?_)
                refine VC.seq ?_
                refine VC.block ?_
                refine VC.reg (VO.l (LO.mv (.r rfl)) rfl<|VO.l (LO.mv (.r rfl)) rfl<|VO.lg rfl rfl (GD.f _) (fun hg => LO.mv (.r rfl)) rfl<|VO.lg rfl rfl (GD.f _) (fun hg => LO.fa (r := 1) F73_1 (.r rfl) rfl) rfl<|VO.lg rfl rfl (GD.f _) (fun hg => LO.ld O71 (.g hg rfl) (fun _ hw => cells_at hw 0 rfl ⟨_, rfl⟩)) rfl<|VO.lg rfl rfl (GD.f _) (fun hg => LO.mv (.r rfl)) rfl<|VO.lg rfl rfl (GD.f _) (fun hg => LO.ixs S71 N80 hfl.sm (.g hg rfl) (.g hg rfl) (j := j) rfl (by omega)) rfl<|VO.lg rfl rfl (GD.f _) (fun hg => LO.fa F80_1 (.g hg rfl) rfl) rfl<|VO.lg rfl rfl (GD.f _) (fun hg => LO.fa F25_0 (.g hg rfl) rfl) rfl<|VO.lg rfl rfl (GD.f _) (fun hg => LO.ld O3 (.g hg rfl) (fun w hw => cells_part (off := 2) ((hfl.at zG (j := j) (by omega)) w hw) ⟨_, rfl⟩)) rfl<|VO.lg rfl rfl (GD.f _) (fun hg => LO.ge (.g hg rfl) (.g hg rfl)) rfl<|VO.lg rfl rfl (GD.f _) (fun hg => LO.mv (.g hg rfl)) rfl<|VO.lg rfl rfl (GD.nt _ _) (fun hg => LO.mv (.r rfl)) rfl<|VO.lg rfl rfl (GD.nt _ _) (fun hg => LO.fa (r := 1) F73_1 (.r rfl) rfl) rfl<|VO.lg rfl rfl (GD.nt _ _) (fun hg => LO.ld O71 (.g hg rfl) (fun _ hw => cells_at hw 0 rfl ⟨_, rfl⟩)) rfl<|VO.lg rfl rfl (GD.nt _ _) (fun hg => LO.mv (.r rfl)) rfl<|VO.lg rfl rfl (GD.nt _ _) (fun hg => LO.ixs S71 N80 hfl.sm (.g hg rfl) (.g hg rfl) (j := j) rfl (by omega)) rfl<|VO.lg rfl rfl (GD.nt _ _) (fun hg => LO.fa F80_1 (.g hg rfl) rfl) rfl<|VO.lg rfl rfl (GD.nt _ _) (fun hg => LO.fa F25_1 (.g hg rfl) rfl) rfl<|VO.lg rfl rfl (GD.nt _ _) (fun hg => LO.ld O3 (.g hg rfl) (fun w hw => cells_part (off := 3) ((hfl.at zG (j := j) (by omega)) w hw) ⟨_, rfl⟩)) rfl<|VO.lg rfl rfl (GD.nt _ _) (fun hg => LO.le (.g hg rfl) (.g hg rfl)) rfl<|VO.lg rfl rfl (GD.f _) (fun hg => LO.pkA (.g hg rfl) rfl (and_e hg) (.r rfl)) rfl<|VO.l (LO.pkO (.r rfl) (.r rfl) rfl rfl) rfl<|VO.l (LO.as (.r rfl)) rfl<|VO.nil ?_)
                refine VE.inN (VE.seqN ?_)
                refine VC.reg (VO.l (LO.mv (.r rfl)) rfl<|VO.l (LO.add (.r rfl) (.r rfl) (wi (by omega) (by omega))) rfl<|VO.l (LO.as (.r rfl)) rfl<|VO.nil ?_)
                refine VE.thenN fun a w ha hw => ⟨(j + 1, (hb || (decide ((f.l.getD j zG).s.lo ≤ spdU x k) && decide (spdU x k ≤ (f.l.getD j zG).s.hi)))), ⟨by dsimp only; omega, by dsimp only; rw [hhb, hasB_1 (by omega)]⟩, (by dsimp only; omega), ha.sub (.cons rfl (.cons rfl (.cons rfl (.cons rfl (.cons rfl (.cons rfl (.cons rfl (.cons rfl (.cons rfl .nil))))))))), hw⟩
              ·
                refine VC.exit (VE.thenX (VE.thenX (VE.inX (VE.seqN ?_))))
                refine VC.seq ?_
                refine VC.reg (VO.l (LO.mv (.r rfl)) rfl<|VO.l (LO.not (.r rfl)) rfl<|VO.l (LO.mv (.r rfl)) rfl<|VO.lg rfl rfl (GD.f _) (fun hg => LO.fa (r := 0) F73_0 (.r rfl) rfl) rfl<|VO.lg rfl rfl (GD.f _) (fun hg => LO.ld O3 (.g hg rfl) (fun _ hw => cells_at hw 0 rfl ⟨_, rfl⟩)) rfl<|VO.lg rfl rfl (GD.f _) (fun hg => LO.ne (.g hg rfl) (.r rfl)) rfl<|VO.lg rfl rfl (GD.f _) (fun hg => LO.mv (.g hg rfl)) rfl<|VO.lg rfl rfl (GD.nt _ _) (fun hg => LO.fa (r := 0) F73_0 (.r rfl) rfl) rfl<|VO.lg rfl rfl (GD.nt _ _) (fun hg => LO.ld O3 (.g hg rfl) (fun _ hw => cells_at hw 0 rfl ⟨_, rfl⟩)) rfl<|VO.lg rfl rfl (GD.nt _ _) (fun hg => LO.ne (.g hg rfl) (.r rfl)) rfl<|VO.lg rfl rfl (GD.f _) (fun hg => LO.pkA (.g hg rfl) rfl (and_e hg) (.r rfl)) rfl<|VO.l (LO.pkO (.r rfl) (.r rfl) rfl rfl) rfl<|VO.nil ?_)
                refine VE.seqN ?_
                refine VC.cond rfl (fun h140 => ?_) (fun h140 => ?_)
                ·
                  (exfalso; (rw [hhb, show j = f.l.length by omega, List.take_length, hasB_y hhas] at h140; simp at h140; omega))
                ·
                  refine VC.skip (VE.inN (VE.seqN ?_))
                  refine VC.reg (VO.l (LO.mv (.r rfl)) rfl<|VO.l (LO.add (.r rfl) (.r rfl) (wi (by omega) (by omega))) rfl<|VO.l (LO.as (.r rfl)) rfl<|VO.nil ?_)
                  refine VE.thenN fun a w ha hw => ⟨i + 1, (by omega), (by omega), ha.sub (.cons rfl (.cons rfl (.cons rfl (.cons rfl (.cons rfl .nil))))), hw.sel [] rfl⟩
          ·
            refine VC.exit (VE.thenX (VE.thenX (VE.inX (VE.inN (VE.seqN ?_)))))
            refine VC.reg (VO.l (LO.mv (.r rfl)) rfl<|VO.l (LO.add (.r rfl) (.r rfl) (wi (by omega) (by omega))) rfl<|VO.l (LO.as (.r rfl)) rfl<|VO.nil ?_)
            refine VE.thenN fun a w ha hw => ⟨ra + 1, (by omega), (by omega), ha.sub (.cons rfl (.cons rfl (.cons rfl (.cons rfl .nil)))), hw⟩
      ·
        refine VC.exit (VE.thenX (VE.thenX (VE.inX (VE.seqN ?_))))
        refine VC.seq ?_
        refine VC.reg (VO.l (LO.call (xs := []) (vs := []) C17 trivial (fun w _ => uWorks_c w)) rfl<|VO.l (LO.as (.r rfl)) rfl<|VO.nil ?_)
        refine VE.seqN ?_
        refine VC.ret (VE.res (vs := [_]) rfl ⟨rfl, trivial⟩ (fun w hw => ?_))
        exact ⟨rfl, St.based hst1 hw⟩

end Go.Proofs.YtffbohecdocajaaGreat

namespace Go.Proofs.YtffbohecdocajaaGreat
open Go.SL Go.Proofs Go.Pulse
set_option linter.unusedVariables false


theorem kb_u8 {n : Int} (h : kb .u8 n) : 0 ≤ n ∧ n ≤ 255 := by simpa [kb, IntKind.min, IntKind.max, IntKind.signed, IntKind.bits] using h
theorem kb_u16 {n : Int} (h : kb .u16 n) : 0 ≤ n ∧ n ≤ 65535 := by simpa [kb, IntKind.min, IntKind.max, IntKind.signed, IntKind.bits] using h
theorem kb_i16 {n : Int} (h : kb .i16 n) : -32768 ≤ n ∧ n ≤ 32767 := by simpa [kb, IntKind.min, IntKind.max, IntKind.signed, IntKind.bits] using h
theorem K5 : Tryz.prog.cellsOf 5 = 1 := by kernel_rfl
theorem K28 : Tryz.prog.cellsOf 28 = 1 := by kernel_rfl
theorem K53 : Tryz.prog.cellsOf 53 = 1 := by kernel_rfl
section
variable {H : Type} {enc : TypeId × Value → H} {W : World}
theorem rd5 : RD enc Tryz.prog W 5 fun cs => ∃ n, cs = [.int .u8 n] ∧ kb .u8 n := RD.int Tryz.underlying5
theorem rd28 : RD enc Tryz.prog W 28 fun cs => ∃ n, cs = [.int .u16 n] ∧ kb .u16 n := RD.int Tryz.underlying28
theorem rd53 : RD enc Tryz.prog W 53 fun cs => ∃ n, cs = [.int .i16 n] ∧ kb .i16 n := RD.int Tryz.underlying53
theorem rd31 : RD enc Tryz.prog W 31 fun cs => ∃ (p : Option Addr) (cap : Nat) (l : List Int), cs = [.slice p l.length cap] ∧ (l.length ≤ cap ∧ l.length ≤ 9223372036854775807) ∧ RO 1 u8C W p l ∧ ∀ x, x ∈ l → (kb .u8) x := fun n cs x hx => by
  obtain ⟨p, cap, rows, rfl, h1, h2, h3⟩ := RD.slice Tryz.underlying31 K5 (by decide) rd5 _ _ _ hx
  obtain ⟨l, rfl, h5⟩ := rows_map (f := u8C) (Q := (kb .u8)) (fun r hr => by obtain ⟨x, h6, h7⟩ := (h3 r hr).2; exact ⟨x, h6, h7⟩)
  exact ⟨p, cap, l, by simp, ⟨by have := RD.cap Tryz.underlying31 hx; simpa using this, by simpa using h1⟩, h2, h5⟩
theorem rd54 : RD enc Tryz.prog W 54 fun cs => ∃ (p : Option Addr) (cap : Nat) (l : List Int), cs = [.slice p l.length cap] ∧ (l.length ≤ cap ∧ l.length ≤ 9223372036854775807) ∧ RO 1 i16C W p l ∧ ∀ x, x ∈ l → (kb .i16) x := fun n cs x hx => by
  obtain ⟨p, cap, rows, rfl, h1, h2, h3⟩ := RD.slice Tryz.underlying54 K53 (by decide) rd53 _ _ _ hx
  obtain ⟨l, rfl, h5⟩ := rows_map (f := i16C) (Q := (kb .i16)) (fun r hr => by obtain ⟨x, h6, h7⟩ := (h3 r hr).2; exact ⟨x, h6, h7⟩)
  exact ⟨p, cap, l, by simp, ⟨by have := RD.cap Tryz.underlying54 hx; simpa using this, by simpa using h1⟩, h2, h5⟩
theorem rd55 : RD enc Tryz.prog W 55 fun cs => ∃ (p : Option Addr) (cap : Nat) (l : List Int), cs = [.slice p l.length cap] ∧ (l.length ≤ cap ∧ l.length ≤ 9223372036854775807) ∧ RO 1 u16C W p l ∧ ∀ x, x ∈ l → (kb .u16) x := fun n cs x hx => by
  obtain ⟨p, cap, rows, rfl, h1, h2, h3⟩ := RD.slice Tryz.underlying55 K28 (by decide) rd28 _ _ _ hx
  obtain ⟨l, rfl, h5⟩ := rows_map (f := u16C) (Q := (kb .u16)) (fun r hr => by obtain ⟨x, h6, h7⟩ := (h3 r hr).2; exact ⟨x, h6, h7⟩)
  exact ⟨p, cap, l, by simp, ⟨by have := RD.cap Tryz.underlying55 hx; simpa using this, by simpa using h1⟩, h2, h5⟩
theorem rd57 : RD enc Tryz.prog W 57 fun cs => ∃ (x : UX) (q : UQ), cs = uxC x q ∧ UXok x ∧ UXw W x q := fun n cs x hx => by
  obtain ⟨css, rfl, hlen,_, hp⟩ := trod_parts Tryz.underlying57 (zs := [1,1,1,1,1,1,1,1,1,1,1,1]) (by kernel_rfl) rfl (by kernel_rfl) hx
  match css, hlen with
  | [c0, c1, c2, c3, c4, c5, c6, c7, c8, c9, c10, c11],_ =>
    obtain ⟨_,_, h0⟩ := hp 0 _ c0 rfl rfl
    obtain ⟨_,_, h1⟩ := hp 1 _ c1 rfl rfl
    obtain ⟨_,_, h2⟩ := hp 2 _ c2 rfl rfl
    obtain ⟨_,_, h3⟩ := hp 3 _ c3 rfl rfl
    obtain ⟨_,_, h4⟩ := hp 4 _ c4 rfl rfl
    obtain ⟨_,_, h5⟩ := hp 5 _ c5 rfl rfl
    obtain ⟨_,_, h6⟩ := hp 6 _ c6 rfl rfl
    obtain ⟨_,_, h7⟩ := hp 7 _ c7 rfl rfl
    obtain ⟨_,_, h8⟩ := hp 8 _ c8 rfl rfl
    obtain ⟨_,_, h9⟩ := hp 9 _ c9 rfl rfl
    obtain ⟨_,_, h10⟩ := hp 10 _ c10 rfl rfl
    obtain ⟨_,_, h11⟩ := hp 11 _ c11 rfl rfl
    obtain ⟨k0, rfl, h_0⟩ := rd5 _ _ _ h0
    obtain ⟨k1, rfl, h_1⟩ := rd5 _ _ _ h1
    obtain ⟨k2, rfl, h_2⟩ := rd5 _ _ _ h2
    obtain ⟨k3, rfl, h_3⟩ := rd5 _ _ _ h3
    obtain ⟨k4, rfl, h_4⟩ := rd5 _ _ _ h4
    obtain ⟨k5, rfl, h_5⟩ := rd5 _ _ _ h5
    obtain ⟨k6, rfl, h_6⟩ := rd53 _ _ _ h6
    obtain ⟨p7, c7_, l7, rfl, h_7, r7, b7⟩ := rd54 _ _ _ h7
    obtain ⟨k8, rfl, h_8⟩ := rd28 _ _ _ h8
    obtain ⟨k9, rfl, h_9⟩ := rd5 _ _ _ h9
    obtain ⟨p10, c10_, l10, rfl, h_10, r10, b10⟩ := rd55 _ _ _ h10
    obtain ⟨p11, c11_, l11, rfl, h_11, r11, b11⟩ := rd31 _ _ _ h11
    exact ⟨⟨k0, k1, k2, k3, k4, k5, k6, l7, k8, k9, l10, l11⟩, ⟨p7, c7_, p10, c10_, p11, c11_⟩, rfl, ⟨kb_u8 h_0, kb_u8 h_1, kb_u8 h_2, kb_u8 h_3, kb_u8 h_4, kb_u8 h_5, kb_i16 h_6, fun n hn => kb_i16 (b7 n hn), kb_u16 h_8, kb_u8 h_9, fun n hn => kb_u16 (b10 n hn), fun n hn => kb_u8 (b11 n hn)⟩, ⟨r7, r10, r11⟩⟩
end

end Go.Proofs.YtffbohecdocajaaGreat
