/-
  Sweeps are checked.
-/
import Derived.Test.YtcnlhifkablmkaaWS
namespace Go.Proofs.Ytcnlhifkablmkaa
open Go.SL Go.Proofs Go.Pulse
set_option linter.unusedVariables false

theorem F95_0 : FieldAt Try.prog 95 0 0 := ⟨_, _, Try.underlying95, rfl, rfl, 7, by kernel_rfl⟩
theorem A92 : IsAgg Try.prog 92 8 := ⟨⟨_, Try.underlying92, rfl⟩, by kernel_rfl⟩
theorem C72 : IsFn Try.prog 72 := ⟨_, Try.func72, by decide, rfl⟩
theorem F95_1 : FieldAt Try.prog 95 1 8 := ⟨_, _, Try.underlying95, rfl, rfl, 0, by kernel_rfl⟩
theorem F95_2 : FieldAt Try.prog 95 2 9 := ⟨_, _, Try.underlying95, rfl, rfl, 0, by kernel_rfl⟩
theorem F95_3 : FieldAt Try.prog 95 3 10 := ⟨_, _, Try.underlying95, rfl, rfl, 0, by kernel_rfl⟩
theorem O93 : IsOne Try.prog 93 := ⟨⟨_, Try.underlying93, rfl⟩, by kernel_rfl⟩
theorem S93 : IsSlice Try.prog 93 50 := Try.underlying93
theorem N50 : (Try.prog.info? 50).map (·.size) = some 1 := by kernel_rfl
theorem O50 : IsOne Try.prog 50 := ⟨⟨_, Try.underlying50, rfl⟩, by kernel_rfl⟩
theorem S50 : IsSlice Try.prog 50 32 := Try.underlying50
theorem C73 : IsFn Try.prog 73 := ⟨_, Try.func73, by decide, rfl⟩


abbrev ERow := RowA Echo
abbrev ERows (w : World) (p : Option Addr) (rs : List ERow) : Prop := RR 14 echoC w p rs
def zRE : ERow := RowA.z
def lensOk (rs : List ERow) (n : Int) : Prop := ∀ x ∈ rs, (x.l.length : Int) = n
instance (rs : List ERow) (n : Int) : Decidable (lensOk rs n) := by unfold lensOk; exact inferInstance
def rowE (l : List Echo) : Int := firstE (fun k => echoE (l.getD k zE)) l.length
def rowsE (rs : List ERow) : Int := firstE (fun i => rowE (rs.getD i zRE).l) rs.length
def sweepE (s : Site) (ti tm : Int) (rs : List ERow) : Int :=
  if siteE s ≠ 0 then siteE s else if ¬ ((0 ≤ ti ∧ ti ≤ 256) ∧ 0 ≤ tm ∧ tm ≤ 4294967296) then 3 else if (rs.length : Int) ≠ 4 * s.rose then 11 else if ¬ lensOk rs s.gates then 11 else rowsE rs
section
variable {s : Site} {ti tm : Int} {rs : List ERow}
theorem sw1 (h : ¬ siteE s = 0) : sweepE s ti tm rs = siteE s := if_pos h
theorem sw2 (h : ¬ ¬ siteE s = 0) (k : ¬ ((0 ≤ ti ∧ ti ≤ 256) ∧ 0 ≤ tm ∧ tm ≤ 4294967296)) : sweepE s ti tm rs = 3 := by unfold sweepE; rw [if_neg h, if_pos k]
theorem sw3 (h : ¬ ¬ siteE s = 0) (k : (0 ≤ ti ∧ ti ≤ 256) ∧ 0 ≤ tm ∧ tm ≤ 4294967296) (q : ¬ (rs.length : Int) = 4 * s.rose) : sweepE s ti tm rs = 11 := by unfold sweepE; rw [if_neg h, if_neg (fun f => f k), if_pos q]
theorem sw4 {i : Nat} (h : ¬ ¬ siteE s = 0) (k : (0 ≤ ti ∧ ti ≤ 256) ∧ 0 ≤ tm ∧ tm ≤ 4294967296) (q : ¬ ¬ (rs.length : Int) = 4 * s.rose) (hi : i < rs.length) (hl : ¬ ((rs.getD i zRE).l.length : Int) = s.gates) : sweepE s ti tm rs = 11 := by
  unfold sweepE; rw [if_neg h, if_neg (fun f => f k), if_neg q, if_pos (fun f => hl (f _ (getD_mem (d := zRE) hi)))]
theorem sw5 (h : ¬ ¬ siteE s = 0) (k : (0 ≤ ti ∧ ti ≤ 256) ∧ 0 ≤ tm ∧ tm ≤ 4294967296) (q : ¬ ¬ (rs.length : Int) = 4 * s.rose) (hl : ∀ j, j < rs.length → ((rs.getD j zRE).l.length : Int) = s.gates) : sweepE s ti tm rs = rowsE rs := by
  unfold sweepE; rw [if_neg h, if_neg (fun f => f k), if_neg q, if_neg]
  intro f
  refine f fun x hx => ?_
  obtain ⟨j, hj, rfl⟩ := mem_getD (d := zRE) hx
  exact hl j hj
theorem rows_at {i m : Nat} (hz : ∀ k, k < i → rowE (rs.getD k zRE).l = 0) (hi : i < rs.length) (hz2 : ∀ k, k < m → echoE ((rs.getD i zRE).l.getD k zE) = 0) (hm : m < (rs.getD i zRE).l.length) (he : ¬ echoE ((rs.getD i zRE).l.getD m zE) = 0) : rowsE rs = echoE ((rs.getD i zRE).l.getD m zE) := by
  have e : rowE (rs.getD i zRE).l = echoE ((rs.getD i zRE).l.getD m zE) := firstE_at (f := fun k => echoE ((rs.getD i zRE).l.getD k zE)) hz2 he hm
  unfold rowsE
  rw [firstE_at (f := fun i => rowE (rs.getD i zRE).l) hz (by rw [e]; exact he) hi, e]
theorem rows_0 (hz : ∀ k, k < rs.length → rowE (rs.getD k zRE).l = 0) : rowsE rs = 0 := firstE_zero hz
theorem row_0 {i : Nat} (hz2 : ∀ k, k < (rs.getD i zRE).l.length → echoE ((rs.getD i zRE).l.getD k zE) = 0) : rowE (rs.getD i zRE).l = 0 := firstE_zero hz2
theorem all_step2 {f : Nat → Prop} {i : Nat} (hz : ∀ k, k < i → f k) (h : f i) : ∀ k, k < i + 1 → f k := fun k hk => by
  by_cases q : k = i
  · subst q; exact h
  · exact hz k (by omega)
theorem erow_at {w : World} {p : Option Addr} (h : ERows w p rs) {i : Nat} (hi : i < rs.length) : (rs.getD i zRE).l.length ≤ (rs.getD i zRE).c ∧ RO 14 echoC w (rs.getD i zRE).p (rs.getD i zRE).l := h.2 _ (getD_mem (d := zRE) hi)
end

def sweepC (s : Site) (ti tm : Int) (p : Option Addr) (n c : Nat) : List Value := [.string s.name, .int .i64 s.x, .int .i64 s.y, .int .i64 s.z, .int .i64 s.rose, .int .i64 s.gates, .int .i64 s.step, .int .i64 s.width, .int .i64 ti, .int .i64 tm, .slice p n c]

theorem site_r {s : Site} (h : siteE s = 0) : 1 ≤ s.rose ∧ s.rose ≤ 90 := by
  unfold siteE at h
  by_cases q : nameB s.name = true
  · rw [if_pos q] at h
    by_cases k : siteOk s
    · unfold siteOk at k; omega
    · rw [if_neg k] at h; exact absurd h (by decide)
  · rw [if_neg q] at h; exact absurd h (by decide)

set_option maxRecDepth 20000 in
theorem CheckSweep_c (s : Site) (ti tm : Int) (rs : List ERow) (p : Option Addr) (c : Nat) (w : World) (hn : rs.length ≤ 200) (hm : ∀ x ∈ rs, x.l.length ≤ 60) (hl : ERows w p rs) :
  Calls Try.prog 43 #[.agg (sweepC s ti tm p rs.length c).toArray] w fun e w' => e = .returned (.int .i64 (sweepE s ti tm rs)) ∧ St (bs w) [] w' := by
  refine enter (vs := [_]) (env := [(0, _)]) Try.func43 rfl rfl rfl rfl ?_
  refine VC.seq ?_
  refine VC.reg (VO.h rfl <| HO.box (C := #[_, _, _, _, _, _, _, _, _, _, _]) rfl rfl fun b1 => VO.l (LO.as (.r rfl)) rfl <| VO.nil ?_)
  refine VE.seqN ?_
  refine VC.seq ?_
  refine VC.seq ?_
  refine VC.reg (VO.l (LO.fa (r := 0) F95_0 (.r rfl) rfl) rfl <| VO.l (LO.lda (vs := [_, _, _, _, _, _, _, _]) A92 (.r rfl) (fun _ hw => cells_at hw 0 rfl ⟨_, rfl⟩) rfl) rfl <| VO.l (LO.call (xs := [_]) (vs := [_]) C72 ⟨(.r rfl), trivial⟩ (fun w _ => CheckSite_c s w)) rfl <| VO.l (LO.as (.r rfl)) rfl <| VO.nil ?_)
  refine VE.seqN ?_
  refine VC.seq ?_
  refine VC.reg (VO.l (LO.mv (.r rfl)) rfl <| VO.l (LO.ne (.r rfl) (.r rfl)) rfl <| VO.nil ?_)
  refine VE.seqN ?_
  refine VC.cond rfl (fun hS => ?_) (fun hS => ?_)
  ·
    refine VC.seq ?_
    refine VC.reg (VO.l (LO.mv (.r rfl)) rfl <| VO.l (LO.as (.r rfl)) rfl <| VO.nil ?_)
    refine VE.seqN ?_
    refine VC.ret (VE.thenR (VE.res (vs := [_]) rfl ⟨rfl, trivial⟩ (fun w hw => ?_)))
    refine ⟨?_, hw.nil⟩
    simp only [resV]
    first | rw [sw1 hS] | rw [sw2 hS (by omega)] | rw [sw3 hS (by omega) (by omega)] | rw [sw4 (i := i) hS (by omega) (by omega) (by omega) hLn] | (rw [sw5 hS (by omega) (by omega) hzz]; first | (rw [rows_at hz (by omega) hz2 (by omega) hEr]; done) | (rw [rows_0 fun k hk => hz k (by omega)]; done))
  ·
    have hs0 : siteE s = 0 := Classical.not_not.1 hS
    have hsr := site_r hs0
    refine VC.skip (VE.seqN ?_)
    refine VC.seq ?_
    refine VC.seq ?_
    refine VC.reg (VO.l (LO.fa (r := 8) F95_1 (.r rfl) rfl) rfl <| VO.l (LO.ld O3 (.r rfl) (fun _ hw => cells_at hw 0 rfl ⟨_, rfl⟩)) rfl <| VO.l (LO.call (xs := [_, _, _]) (vs := [_, _, _]) C45 ⟨(.r rfl), (.r rfl), (.r rfl), trivial⟩ (fun w _ => within_c _ _ _ w)) rfl <| VO.l (LO.not (.r rfl)) rfl <| VO.l (LO.mv (.r rfl)) rfl <| VO.lg rfl rfl (GD.f _) (fun hg => LO.fa (r := 9) F95_2 (.r rfl) rfl) rfl <| VO.lg rfl rfl (GD.f _) (fun hg => LO.ld O3 (.g hg rfl) (fun _ hw => cells_at hw 0 rfl ⟨_, rfl⟩)) rfl <| VO.lg rfl rfl (GD.f _) (fun hg => LO.call (xs := [_, _, _]) (vs := [_, _, _]) C45 ⟨(.g hg rfl), (.r rfl), (.r rfl), trivial⟩ (fun w _ => within_c _ _ _ w)) rfl <| VO.lg rfl rfl (GD.f _) (fun hg => LO.not (.g hg rfl)) rfl <| VO.l (LO.pkO (.r rfl) (.r rfl) rfl rfl) rfl <| VO.nil ?_)
    refine VE.seqN ?_
    refine VC.cond rfl (fun h26 => ?_) (fun h26 => ?_)
    ·
      refine VC.seq ?_
      refine VC.reg (VO.l (LO.as (.r rfl)) rfl <| VO.nil ?_)
      refine VE.seqN ?_
      refine VC.ret (VE.thenR (VE.res (vs := [_]) rfl ⟨rfl, trivial⟩ (fun w hw => ?_)))
      refine ⟨?_, hw.nil⟩
      simp only [resV]
      first | rw [sw1 hS] | rw [sw2 hS (by omega)] | rw [sw3 hS (by omega) (by omega)] | rw [sw4 (i := i) hS (by omega) (by omega) (by omega) hLn] | (rw [sw5 hS (by omega) (by omega) hzz]; first | (rw [rows_at hz (by omega) hz2 (by omega) hEr]; done) | (rw [rows_0 fun k hk => hz k (by omega)]; done))
    ·
      refine VC.skip (VE.seqN ?_)
      refine VC.seq ?_
      refine VC.seq ?_
      refine VC.reg (VO.l (LO.fa (r := 10) F95_3 (.r rfl) rfl) rfl <| VO.l (LO.ld O93 (.r rfl) (fun _ hw => cells_at hw 0 rfl ⟨_, rfl⟩)) rfl <| VO.l (LO.len S93 (.r rfl) rfl) rfl <| VO.l (LO.fa (r := 0) F95_0 (.r rfl) rfl) rfl <| VO.l (LO.fa (r := 4) F92_4 (.r rfl) rfl) rfl <| VO.l (LO.ld O3 (.r rfl) (fun _ hw => cells_at hw 0 rfl ⟨_, rfl⟩)) rfl <| VO.l (LO.mul (.r rfl) (.r rfl) (wi (by omega) (by omega))) rfl <| VO.l (LO.ne (.r rfl) (.r rfl)) rfl <| VO.nil ?_)
      refine VE.seqN ?_
      refine VC.cond rfl (fun h34 => ?_) (fun h34 => ?_)
      ·
        refine VC.seq ?_
        refine VC.reg (VO.l (LO.as (.r rfl)) rfl <| VO.nil ?_)
        refine VE.seqN ?_
        refine VC.ret (VE.thenR (VE.res (vs := [_]) rfl ⟨rfl, trivial⟩ (fun w hw => ?_)))
        refine ⟨?_, hw.nil⟩
        simp only [resV]
        first | rw [sw1 hS] | rw [sw2 hS (by omega)] | rw [sw3 hS (by omega) (by omega)] | rw [sw4 (i := i) hS (by omega) (by omega) (by omega) hLn] | (rw [sw5 hS (by omega) (by omega) hzz]; first | (rw [rows_at hz (by omega) hz2 (by omega) hEr]; done) | (rw [rows_0 fun k hk => hz k (by omega)]; done))
      ·
        refine VC.skip (VE.seqN ?_)
        refine VC.seq ?_
        refine VC.seq ?_
        refine VC.reg (VO.l (LO.fa (r := 10) F95_3 (.r rfl) rfl) rfl <| VO.l (LO.ld O93 (.r rfl) (fun _ hw => cells_at hw 0 rfl ⟨_, rfl⟩)) rfl <| VO.l (LO.len S93 (.r rfl) rfl) rfl <| VO.l (LO.mv (.r rfl)) rfl <| VO.nil ?_)
        refine VE.seqN ?_
        refine VC.block ?_
        refine VC.loopK (α := Nat) 0 (fun gx => [(38, .int .i64 (gx : Nat))]) [(1, _), (36, _), (37, _)] (fun gx => []) (fun gx => gx ≤ rs.length ∧ ∀ k, k < gx → ((rs.getD k zRE).l.length : Int) = s.gates) (fun gx => rs.length - gx) 0 (by exact ⟨Nat.zero_le _, fun k hk => by omega⟩) (.cons rfl (.cons rfl (.cons rfl (.cons rfl .nil)))) (fun _ h => h) ?_
        rintro i ⟨hi, hz⟩
        refine VC.seq ?_
        refine VC.reg (VO.l (LO.lt (.r rfl) (.r rfl)) rfl <| VO.nil ?_)
        refine VE.seqN ?_
        refine VC.seq ?_
        refine VC.cond rfl (fun h4 => ?_) (fun h4 => ?_)
        ·
          refine VC.skip (VE.seqN ?_)
          refine VC.seq ?_
          refine VC.block ?_
          refine VC.seq ?_
          have hrow := erow_at hl (i := i) (by omega)
          have hr60 := hm _ (getD_mem (d := zRE) (show i < rs.length by omega))
          refine VC.reg (VO.l (LO.ixs S93 N50 hl.1.sm (.r rfl) (.r rfl) rfl (by omega)) rfl <| VO.l (LO.ld O50 (.r rfl) (fun w hw => cells_part (off := 0) ((hl.1.at zRE (j := i) (by omega)) w hw) ⟨_, rfl⟩)) rfl <| VO.l (LO.as (.r rfl)) rfl <| VO.nil ?_)
          refine VE.seqN ?_
          refine VC.seq ?_
          refine VC.reg (VO.l (LO.mv (.r rfl)) rfl <| VO.l (LO.len S50 (.r rfl) rfl) rfl <| VO.l (LO.fa (r := 0) F95_0 (.r rfl) rfl) rfl <| VO.l (LO.fa (r := 5) F92_5 (.r rfl) rfl) rfl <| VO.l (LO.ld O3 (.r rfl) (fun _ hw => cells_at hw 0 rfl ⟨_, rfl⟩)) rfl <| VO.l (LO.ne (.r rfl) (.r rfl)) rfl <| VO.nil ?_)
          refine VE.seqN ?_
          refine VC.cond rfl (fun hLn => ?_) (fun hLn => ?_)
          ·
            refine VC.seq ?_
            refine VC.reg (VO.l (LO.as (.r rfl)) rfl <| VO.nil ?_)
            refine VE.seqN ?_
            refine VC.ret (VE.inR (VE.thenR (VE.thenR (VE.inR (VE.thenR (VE.res (vs := [_]) rfl ⟨rfl, trivial⟩ (fun w hw => ?_)))))))
            refine ⟨?_, hw.nil⟩
            simp only [resV]
            first | rw [sw1 hS] | rw [sw2 hS (by omega)] | rw [sw3 hS (by omega) (by omega)] | rw [sw4 (i := i) hS (by omega) (by omega) (by omega) hLn] | (rw [sw5 hS (by omega) (by omega) hzz]; first | (rw [rows_at hz (by omega) hz2 (by omega) hEr]; done) | (rw [rows_0 fun k hk => hz k (by omega)]; done))
          ·
            refine VC.skip (VE.inN (VE.seqN ?_))
            refine VC.reg (VO.l (LO.add (.r rfl) (.r rfl) (wi (by omega) (by omega))) rfl <| VO.l (LO.mv (.r rfl)) rfl <| VO.nil ?_)
            refine VE.thenN fun a w ha hw => ⟨i + 1, ⟨by omega, all_step2 (f := fun k => ((rs.getD k zRE).l.length : Int) = s.gates) hz (Classical.not_not.1 hLn)⟩, (by omega), ha.sub (.cons rfl (.cons rfl (.cons rfl (.cons rfl .nil)))), hw⟩
        ·
          refine VC.exit (VE.thenX (VE.thenX (VE.inX (VE.seqN ?_))))
          refine VC.seq ?_
          refine VC.seq ?_
          have hir : i = rs.length := by omega
          subst hir
          have hzz := hz
          clear hz
          refine VC.reg (VO.l (LO.fa (r := 10) F95_3 (.r rfl) rfl) rfl <| VO.l (LO.ld O93 (.r rfl) (fun _ hw => cells_at hw 0 rfl ⟨_, rfl⟩)) rfl <| VO.l (LO.len S93 (.r rfl) rfl) rfl <| VO.l (LO.mv (.r rfl)) rfl <| VO.nil ?_)
          refine VE.seqN ?_
          refine VC.block ?_
          refine VC.loopK (α := Nat) 0 (fun gx => [(52, .int .i64 (gx : Nat))]) [(50, _), (51, _)] (fun gx => []) (fun gx => gx ≤ rs.length ∧ ∀ k, k < gx → rowE (rs.getD k zRE).l = 0) (fun gx => rs.length - gx) 0 (by exact ⟨Nat.zero_le _, fun k hk => by omega⟩) (.cons rfl (.cons rfl (.cons rfl .nil))) (fun _ h => h) ?_
          rintro i ⟨hi, hz⟩
          refine VC.seq ?_
          refine VC.reg (VO.l (LO.lt (.r rfl) (.r rfl)) rfl <| VO.nil ?_)
          refine VE.seqN ?_
          refine VC.seq ?_
          refine VC.cond rfl (fun h6 => ?_) (fun h6 => ?_)
          ·
            refine VC.skip (VE.seqN ?_)
            refine VC.seq ?_
            refine VC.block ?_
            refine VC.seq ?_
            have hrow := erow_at hl (i := i) (by omega)
            have hr60 := hm _ (getD_mem (d := zRE) (show i < rs.length by omega))
            refine VC.reg (VO.l (LO.ixs S93 N50 hl.1.sm (.r rfl) (.r rfl) rfl (by omega)) rfl <| VO.l (LO.ld O50 (.r rfl) (fun w hw => cells_part (off := 0) ((hl.1.at zRE (j := i) (by omega)) w hw) ⟨_, rfl⟩)) rfl <| VO.l (LO.as (.r rfl)) rfl <| VO.nil ?_)
            refine VE.seqN ?_
            refine VC.seq ?_
            refine VC.reg (VO.l (LO.mv (.r rfl)) rfl <| VO.l (LO.len S50 (.r rfl) rfl) rfl <| VO.l (LO.mv (.r rfl)) rfl <| VO.nil ?_)
            refine VE.seqN ?_
            refine VC.block ?_
            refine VC.loopK (α := Nat) 0 (fun gx => [(58, .int .i64 (gx : Nat))]) [(50, _), (51, _), (52, _), (56, _), (57, _)] (fun gx => []) (fun gx => gx ≤ (rs.getD i zRE).l.length ∧ ∀ k, k < gx → echoE ((rs.getD i zRE).l.getD k zE) = 0) (fun gx => (rs.getD i zRE).l.length - gx) 0 (by exact ⟨Nat.zero_le _, fun k hk => by omega⟩) (.cons rfl (.cons rfl (.cons rfl (.cons rfl (.cons rfl (.cons rfl .nil)))))) (fun _ h => h) ?_
            rintro m ⟨hm2, hz2⟩
            refine VC.seq ?_
            refine VC.reg (VO.l (LO.lt (.r rfl) (.r rfl)) rfl <| VO.nil ?_)
            refine VE.seqN ?_
            refine VC.seq ?_
            refine VC.cond rfl (fun h7 => ?_) (fun h7 => ?_)
            ·
              refine VC.skip (VE.seqN ?_)
              refine VC.seq ?_
              refine VC.block ?_
              refine VC.seq ?_
              refine VC.reg (VO.l (LO.ixs S50 N32 hrow.2.sm (.r rfl) (.r rfl) rfl (by omega)) rfl <| VO.l (LO.lda (vs := [_, _, _, _, _, _, _, _, _, _, _, _, _, _]) A32 (.r rfl) (fun w hw => cells_part (off := 0) ((hrow.2.at zE (j := m) (by omega)) w hw) ⟨_, rfl⟩) rfl) rfl <| VO.h rfl <| HO.alloc (C := #[_, _, _, _, _, _, _, _, _, _, _, _, _, _]) Z32 rfl fun b2 => VO.h0 <| HO.st 0 (vs := [_, _, _, _, _, _, _, _, _, _, _, _, _, _]) (C' := [_, _, _, _, _, _, _, _, _, _, _, _, _, _]) (L' := [_, _]) N32 rfl rfl rfl rfl rfl rfl rfl rfl <| VO.nil ?_)
              refine VE.seqN ?_
              refine VC.seq ?_
              refine VC.reg (VO.l (LO.lda (vs := [_, _, _, _, _, _, _, _, _, _, _, _, _, _]) A32 (.r rfl) (fun _ hw => cells_at hw 0 rfl ⟨_, rfl⟩) rfl) rfl <| VO.l (LO.call (xs := [_]) (vs := [_]) C29 ⟨(.r rfl), trivial⟩ (fun w _ => echoP_c ((rs.getD i zRE).l.getD m zE) w)) rfl <| VO.l (LO.as (.r rfl)) rfl <| VO.nil ?_)
              refine VE.seqN ?_
              refine VC.seq ?_
              refine VC.reg (VO.l (LO.mv (.r rfl)) rfl <| VO.l (LO.ne (.r rfl) (.r rfl)) rfl <| VO.nil ?_)
              refine VE.seqN ?_
              refine VC.cond rfl (fun hEr => ?_) (fun hEr => ?_)
              ·
                refine VC.seq ?_
                refine VC.reg (VO.l (LO.mv (.r rfl)) rfl <| VO.l (LO.as (.r rfl)) rfl <| VO.nil ?_)
                refine VE.seqN ?_
                refine VC.ret (VE.inR (VE.thenR (VE.thenR (VE.inR (VE.inR (VE.thenR (VE.thenR (VE.inR (VE.thenR (VE.res (vs := [_]) rfl ⟨rfl, trivial⟩ (fun w hw => ?_)))))))))))
                refine ⟨?_, hw.nil⟩
                simp only [resV]
                first | rw [sw1 hS] | rw [sw2 hS (by omega)] | rw [sw3 hS (by omega) (by omega)] | rw [sw4 (i := i) hS (by omega) (by omega) (by omega) hLn] | (rw [sw5 hS (by omega) (by omega) hzz]; first | (rw [rows_at hz (by omega) hz2 (by omega) hEr]; done) | (rw [rows_0 fun k hk => hz k (by omega)]; done))
              ·
                refine VC.skip (VE.inN (VE.seqN ?_))
                refine VC.reg (VO.l (LO.add (.r rfl) (.r rfl) (wi (by omega) (by omega))) rfl <| VO.l (LO.mv (.r rfl)) rfl <| VO.nil ?_)
                refine VE.thenN fun a w ha hw => ⟨m + 1, ⟨by omega, all_step2 (f := fun k => echoE ((rs.getD i zRE).l.getD k zE) = 0) hz2 (Classical.not_not.1 hEr)⟩, (by omega), ha.sub (.cons rfl (.cons rfl (.cons rfl (.cons rfl (.cons rfl (.cons rfl .nil)))))), hw.sel [1] rfl⟩
            ·
              refine VC.exit (VE.thenX (VE.thenX (VE.inX (VE.inN (VE.seqN ?_)))))
              refine VC.reg (VO.l (LO.add (.r rfl) (.r rfl) (wi (by omega) (by omega))) rfl <| VO.l (LO.mv (.r rfl)) rfl <| VO.nil ?_)
              refine VE.thenN fun a w ha hw => ⟨i + 1, ⟨by omega, all_step2 (f := fun k => rowE (rs.getD k zRE).l = 0) hz (row_0 fun k hk => hz2 k (by omega))⟩, (by omega), ha.sub (.cons rfl (.cons rfl (.cons rfl .nil))), hw⟩
          ·
            refine VC.exit (VE.thenX (VE.thenX (VE.inX (VE.seqN ?_))))
            refine VC.seq ?_
            refine VC.reg (VO.l (LO.as (.r rfl)) rfl <| VO.nil ?_)
            refine VE.seqN ?_
            refine VC.ret (VE.res (vs := [_]) rfl ⟨rfl, trivial⟩ (fun w hw => ?_))
            refine ⟨?_, hw.nil⟩
            simp only [resV]
            first | rw [sw1 hS] | rw [sw2 hS (by omega)] | rw [sw3 hS (by omega) (by omega)] | rw [sw4 (i := i) hS (by omega) (by omega) (by omega) hLn] | (rw [sw5 hS (by omega) (by omega) hzz]; first | (rw [rows_at hz (by omega) hz2 (by omega) hEr]; done) | (rw [rows_0 fun k hk => hz k (by omega)]; done))

set_option maxRecDepth 20000 in
theorem rCheckSweep_c (s : Site) (ti tm : Int) (rs : List ERow) (p : Option Addr) (c : Nat) (w : World) (hn : rs.length ≤ 200) (hm : ∀ x ∈ rs, x.l.length ≤ 60) (hl : ERows w p rs) :
  Calls Try.prog 44 #[.agg (sweepC s ti tm p rs.length c).toArray] w fun e w' => e = .returned (.int .i64 (sweepE s ti tm rs)) ∧ St (bs w) [] w' := by
  refine enter (vs := [_]) (env := [(0, _)]) Try.func44 rfl rfl rfl rfl ?_
  refine VC.seq ?_
  refine VC.reg (VO.h rfl <| HO.box (C := #[_, _, _, _, _, _, _, _, _, _, _]) rfl rfl fun b1 => VO.l (LO.as (.r rfl)) rfl <| VO.nil ?_)
  refine VE.seqN ?_
  refine VC.seq ?_
  refine VC.reg (VO.l (LO.fa (r := 0) F95_0 (.r rfl) rfl) rfl <| VO.l (LO.lda (vs := [_, _, _, _, _, _, _, _]) A92 (.r rfl) (fun _ hw => cells_at hw 0 rfl ⟨_, rfl⟩) rfl) rfl <| VO.l (LO.call (xs := [_]) (vs := [_]) C73 ⟨(.r rfl), trivial⟩ (fun w _ => rCheckSite_c s w)) rfl <| VO.l (LO.as (.r rfl)) rfl <| VO.nil ?_)
  refine VE.seqN ?_
  refine VC.seq ?_
  refine VC.seq ?_
  refine VC.reg (VO.l (LO.mv (.r rfl)) rfl <| VO.l (LO.ne (.r rfl) (.r rfl)) rfl <| VO.nil ?_)
  refine VE.seqN ?_
  refine VC.cond rfl (fun hS => ?_) (fun hS => ?_)
  ·
    refine VC.seq ?_
    refine VC.reg (VO.l (LO.mv (.r rfl)) rfl <| VO.l (LO.as (.r rfl)) rfl <| VO.nil ?_)
    refine VE.seqN ?_
    refine VC.ret (VE.thenR (VE.res (vs := [_]) rfl ⟨rfl, trivial⟩ (fun w hw => ?_)))
    refine ⟨?_, hw.nil⟩
    simp only [resV]
    first | rw [sw1 hS] | rw [sw2 hS (by omega)] | rw [sw3 hS (by omega) (by omega)] | rw [sw4 (i := i) hS (by omega) (by omega) (by omega) hLn] | (rw [sw5 hS (by omega) (by omega) hzz]; first | (rw [rows_at hz (by omega) hz2 (by omega) hEr]; done) | (rw [rows_0 fun k hk => hz k (by omega)]; done))
  ·
    have hs0 : siteE s = 0 := Classical.not_not.1 hS
    have hsr := site_r hs0
    refine VC.skip (VE.seqN ?_)
    refine VC.seq ?_
    refine VC.seq ?_
    refine VC.reg (VO.l (LO.fa (r := 8) F95_1 (.r rfl) rfl) rfl <| VO.l (LO.ld O3 (.r rfl) (fun _ hw => cells_at hw 0 rfl ⟨_, rfl⟩)) rfl <| VO.l (LO.call (xs := [_, _, _]) (vs := [_, _, _]) C49 ⟨(.r rfl), (.r rfl), (.r rfl), trivial⟩ (fun w _ => In_c _ _ _ w)) rfl <| VO.l (LO.not (.r rfl)) rfl <| VO.l (LO.mv (.r rfl)) rfl <| VO.lg rfl rfl (GD.f _) (fun hg => LO.fa (r := 9) F95_2 (.r rfl) rfl) rfl <| VO.lg rfl rfl (GD.f _) (fun hg => LO.ld O3 (.g hg rfl) (fun _ hw => cells_at hw 0 rfl ⟨_, rfl⟩)) rfl <| VO.lg rfl rfl (GD.f _) (fun hg => LO.call (xs := [_, _, _]) (vs := [_, _, _]) C49 ⟨(.g hg rfl), (.r rfl), (.r rfl), trivial⟩ (fun w _ => In_c _ _ _ w)) rfl <| VO.lg rfl rfl (GD.f _) (fun hg => LO.not (.g hg rfl)) rfl <| VO.l (LO.pkO (.r rfl) (.r rfl) rfl rfl) rfl <| VO.nil ?_)
    refine VE.seqN ?_
    refine VC.cond rfl (fun h26 => ?_) (fun h26 => ?_)
    ·
      refine VC.seq ?_
      refine VC.reg (VO.l (LO.as (.r rfl)) rfl <| VO.nil ?_)
      refine VE.seqN ?_
      refine VC.ret (VE.thenR (VE.res (vs := [_]) rfl ⟨rfl, trivial⟩ (fun w hw => ?_)))
      refine ⟨?_, hw.nil⟩
      simp only [resV]
      first | rw [sw1 hS] | rw [sw2 hS (by omega)] | rw [sw3 hS (by omega) (by omega)] | rw [sw4 (i := i) hS (by omega) (by omega) (by omega) hLn] | (rw [sw5 hS (by omega) (by omega) hzz]; first | (rw [rows_at hz (by omega) hz2 (by omega) hEr]; done) | (rw [rows_0 fun k hk => hz k (by omega)]; done))
    ·
      refine VC.skip (VE.seqN ?_)
      refine VC.seq ?_
      refine VC.seq ?_
      refine VC.reg (VO.l (LO.fa (r := 10) F95_3 (.r rfl) rfl) rfl <| VO.l (LO.ld O93 (.r rfl) (fun _ hw => cells_at hw 0 rfl ⟨_, rfl⟩)) rfl <| VO.l (LO.len S93 (.r rfl) rfl) rfl <| VO.l (LO.fa (r := 0) F95_0 (.r rfl) rfl) rfl <| VO.l (LO.fa (r := 4) F92_4 (.r rfl) rfl) rfl <| VO.l (LO.ld O3 (.r rfl) (fun _ hw => cells_at hw 0 rfl ⟨_, rfl⟩)) rfl <| VO.l (LO.mul (.r rfl) (.r rfl) (wi (by omega) (by omega))) rfl <| VO.l (LO.ne (.r rfl) (.r rfl)) rfl <| VO.nil ?_)
      refine VE.seqN ?_
      refine VC.cond rfl (fun h34 => ?_) (fun h34 => ?_)
      ·
        refine VC.seq ?_
        refine VC.reg (VO.l (LO.as (.r rfl)) rfl <| VO.nil ?_)
        refine VE.seqN ?_
        refine VC.ret (VE.thenR (VE.res (vs := [_]) rfl ⟨rfl, trivial⟩ (fun w hw => ?_)))
        refine ⟨?_, hw.nil⟩
        simp only [resV]
        first | rw [sw1 hS] | rw [sw2 hS (by omega)] | rw [sw3 hS (by omega) (by omega)] | rw [sw4 (i := i) hS (by omega) (by omega) (by omega) hLn] | (rw [sw5 hS (by omega) (by omega) hzz]; first | (rw [rows_at hz (by omega) hz2 (by omega) hEr]; done) | (rw [rows_0 fun k hk => hz k (by omega)]; done))
      ·
        refine VC.skip (VE.seqN ?_)
        refine VC.seq ?_
        refine VC.seq ?_
        refine VC.reg (VO.l (LO.as (.r rfl)) rfl <| VO.nil ?_)
        refine VE.seqN ?_
        refine VC.block ?_
        refine VC.loopK (α := Nat) 0 (fun gx => [(4, .int .i64 (gx : Nat))]) [(1, _)] (fun gx => []) (fun gx => gx ≤ rs.length ∧ ∀ k, k < gx → ((rs.getD k zRE).l.length : Int) = s.gates) (fun gx => rs.length - gx) 0 (by exact ⟨Nat.zero_le _, fun k hk => by omega⟩) (.cons rfl (.cons rfl .nil)) (fun _ h => h) ?_
        rintro i ⟨hi, hz⟩
        refine VC.seq ?_
        refine VC.seq ?_
        refine VC.reg (VO.l (LO.mv (.r rfl)) rfl <| VO.l (LO.fa (r := 10) F95_3 (.r rfl) rfl) rfl <| VO.l (LO.ld O93 (.r rfl) (fun _ hw => cells_at hw 0 rfl ⟨_, rfl⟩)) rfl <| VO.l (LO.len S93 (.r rfl) rfl) rfl <| VO.l (LO.lt (.r rfl) (.r rfl)) rfl <| VO.nil ?_)
        refine VE.seqN ?_
        refine VC.cond rfl (fun h4 => ?_) (fun h4 => ?_)
        ·
          refine VC.skip (VE.seqN ?_)
          refine VC.seq ?_
          refine VC.block ?_
          refine VC.seq ?_
          have hrow := erow_at hl (i := i) (by omega)
          have hr60 := hm _ (getD_mem (d := zRE) (show i < rs.length by omega))
          refine VC.draw mixed (LL.l (LO.fa (r := 10) F95_3 (.r rfl) rfl) rfl <| LL.l (LO.ld O93 (.r rfl) (fun _ hw => cells_at hw 0 rfl ⟨_, rfl⟩)) rfl <| LL.l (LO.mv (.r rfl)) rfl <| LL.l (LO.ixs S93 N50 hl.1.sm (.r rfl) (.r rfl) rfl (by omega)) rfl <| LL.l (LO.ld O50 (.r rfl) (fun w hw => cells_part (off := 0) ((hl.1.at zRE (j := i) (by omega)) w hw) ⟨_, rfl⟩)) rfl <| LL.l (LO.len S50 (.r rfl) rfl) rfl <| LL.l (LO.fa (r := 0) F95_0 (.r rfl) rfl) rfl <| LL.l (LO.fa (r := 5) F92_5 (.r rfl) rfl) rfl <| LL.l (LO.ld O3 (.r rfl) (fun _ hw => cells_at hw 0 rfl ⟨_, rfl⟩)) rfl <| LL.l (LO.ne (.r rfl) (.r rfl)) rfl <| LL.nil) (by kernel_rfl) ?_
          refine VE.seqN ?_
          refine VC.cond rfl (fun hLn => ?_) (fun hLn => ?_)
          ·
            refine VC.seq ?_
            refine VC.reg (VO.l (LO.as (.r rfl)) rfl <| VO.nil ?_)
            refine VE.seqN ?_
            refine VC.ret (VE.inR (VE.thenR (VE.thenR (VE.inR (VE.thenR (VE.res (vs := [_]) rfl ⟨rfl, trivial⟩ (fun w hw => ?_)))))))
            refine ⟨?_, hw.nil⟩
            simp only [resV]
            first | rw [sw1 hS] | rw [sw2 hS (by omega)] | rw [sw3 hS (by omega) (by omega)] | rw [sw4 (i := i) hS (by omega) (by omega) (by omega) hLn] | (rw [sw5 hS (by omega) (by omega) hzz]; first | (rw [rows_at hz (by omega) hz2 (by omega) hEr]; done) | (rw [rows_0 fun k hk => hz k (by omega)]; done))
          ·
            refine VC.skip (VE.inN (VE.seqN ?_))
            refine VC.reg (VO.l (LO.mv (.r rfl)) rfl <| VO.l (LO.add (.r rfl) (.r rfl) (wi (by omega) (by omega))) rfl <| VO.l (LO.as (.r rfl)) rfl <| VO.nil ?_)
            refine VE.thenN fun a w ha hw => ⟨i + 1, ⟨by omega, all_step2 (f := fun k => ((rs.getD k zRE).l.length : Int) = s.gates) hz (Classical.not_not.1 hLn)⟩, (by omega), ha.sub (.cons rfl (.cons rfl .nil)), hw⟩
        ·
          refine VC.exit (VE.thenX (VE.thenX (VE.inX (VE.seqN ?_))))
          refine VC.seq ?_
          refine VC.seq ?_
          have hir : i = rs.length := by omega
          subst hir
          have hzz := hz
          clear hz
          refine VC.reg (VO.l (LO.as (.r rfl)) rfl <| VO.nil ?_)
          refine VE.seqN ?_
          refine VC.block ?_
          refine VC.loopK (α := Nat) 0 (fun gx => [(5, .int .i64 (gx : Nat))]) [(1, _)] (fun gx => []) (fun gx => gx ≤ rs.length ∧ ∀ k, k < gx → rowE (rs.getD k zRE).l = 0) (fun gx => rs.length - gx) 0 (by exact ⟨Nat.zero_le _, fun k hk => by omega⟩) (.cons rfl (.cons rfl .nil)) (fun _ h => h) ?_
          rintro i ⟨hi, hz⟩
          refine VC.seq ?_
          refine VC.seq ?_
          refine VC.reg (VO.l (LO.mv (.r rfl)) rfl <| VO.l (LO.fa (r := 10) F95_3 (.r rfl) rfl) rfl <| VO.l (LO.ld O93 (.r rfl) (fun _ hw => cells_at hw 0 rfl ⟨_, rfl⟩)) rfl <| VO.l (LO.len S93 (.r rfl) rfl) rfl <| VO.l (LO.lt (.r rfl) (.r rfl)) rfl <| VO.nil ?_)
          refine VE.seqN ?_
          refine VC.cond rfl (fun h6 => ?_) (fun h6 => ?_)
          ·
            refine VC.skip (VE.seqN ?_)
            refine VC.seq ?_
            refine VC.block ?_
            refine VC.seq ?_
            have hrow := erow_at hl (i := i) (by omega)
            have hr60 := hm _ (getD_mem (d := zRE) (show i < rs.length by omega))
            refine VC.reg (VO.l (LO.as (.r rfl)) rfl <| VO.nil ?_)
            refine VE.seqN ?_
            refine VC.block ?_
            refine VC.loopK (α := Nat) 0 (fun gx => [(6, .int .i64 (gx : Nat))]) [(1, _), (5, _)] (fun gx => []) (fun gx => gx ≤ (rs.getD i zRE).l.length ∧ ∀ k, k < gx → echoE ((rs.getD i zRE).l.getD k zE) = 0) (fun gx => (rs.getD i zRE).l.length - gx) 0 (by exact ⟨Nat.zero_le _, fun k hk => by omega⟩) (.cons rfl (.cons rfl (.cons rfl .nil))) (fun _ h => h) ?_
            rintro m ⟨hm2, hz2⟩
            refine VC.seq ?_
            refine VC.seq ?_
            refine VC.reg (VO.l (LO.mv (.r rfl)) rfl <| VO.l (LO.fa (r := 10) F95_3 (.r rfl) rfl) rfl <| VO.l (LO.ld O93 (.r rfl) (fun _ hw => cells_at hw 0 rfl ⟨_, rfl⟩)) rfl <| VO.l (LO.mv (.r rfl)) rfl <| VO.l (LO.ixs S93 N50 hl.1.sm (.r rfl) (.r rfl) rfl (by omega)) rfl <| VO.l (LO.ld O50 (.r rfl) (fun w hw => cells_part (off := 0) ((hl.1.at zRE (j := i) (by omega)) w hw) ⟨_, rfl⟩)) rfl <| VO.l (LO.len S50 (.r rfl) rfl) rfl <| VO.l (LO.lt (.r rfl) (.r rfl)) rfl <| VO.nil ?_)
            refine VE.seqN ?_
            refine VC.cond rfl (fun h7 => ?_) (fun h7 => ?_)
            ·
              refine VC.skip (VE.seqN ?_)
              refine VC.seq ?_
              refine VC.block ?_
              refine VC.seq ?_
              refine VC.reg (VO.l (LO.fa (r := 10) F95_3 (.r rfl) rfl) rfl <| VO.l (LO.ld O93 (.r rfl) (fun _ hw => cells_at hw 0 rfl ⟨_, rfl⟩)) rfl <| VO.l (LO.mv (.r rfl)) rfl <| VO.l (LO.ixs S93 N50 hl.1.sm (.r rfl) (.r rfl) rfl (by omega)) rfl <| VO.l (LO.ld O50 (.r rfl) (fun w hw => cells_part (off := 0) ((hl.1.at zRE (j := i) (by omega)) w hw) ⟨_, rfl⟩)) rfl <| VO.l (LO.mv (.r rfl)) rfl <| VO.l (LO.ixs S50 N32 hrow.2.sm (.r rfl) (.r rfl) rfl (by omega)) rfl <| VO.l (LO.lda (vs := [_, _, _, _, _, _, _, _, _, _, _, _, _, _]) A32 (.r rfl) (fun w hw => cells_part (off := 0) ((hrow.2.at zE (j := m) (by omega)) w hw) ⟨_, rfl⟩) rfl) rfl <| VO.l (LO.call (xs := [_]) (vs := [_]) C30 ⟨(.r rfl), trivial⟩ (fun w _ => echoR_c ((rs.getD i zRE).l.getD m zE) w)) rfl <| VO.l (LO.as (.r rfl)) rfl <| VO.nil ?_)
              refine VE.seqN ?_
              refine VC.seq ?_
              refine VC.reg (VO.l (LO.mv (.r rfl)) rfl <| VO.l (LO.ne (.r rfl) (.r rfl)) rfl <| VO.nil ?_)
              refine VE.seqN ?_
              refine VC.cond rfl (fun hEr => ?_) (fun hEr => ?_)
              ·
                refine VC.seq ?_
                refine VC.reg (VO.l (LO.mv (.r rfl)) rfl <| VO.l (LO.as (.r rfl)) rfl <| VO.nil ?_)
                refine VE.seqN ?_
                refine VC.ret (VE.inR (VE.thenR (VE.thenR (VE.inR (VE.inR (VE.thenR (VE.thenR (VE.inR (VE.thenR (VE.res (vs := [_]) rfl ⟨rfl, trivial⟩ (fun w hw => ?_)))))))))))
                refine ⟨?_, hw.nil⟩
                simp only [resV]
                first | rw [sw1 hS] | rw [sw2 hS (by omega)] | rw [sw3 hS (by omega) (by omega)] | rw [sw4 (i := i) hS (by omega) (by omega) (by omega) hLn] | (rw [sw5 hS (by omega) (by omega) hzz]; first | (rw [rows_at hz (by omega) hz2 (by omega) hEr]; done) | (rw [rows_0 fun k hk => hz k (by omega)]; done))
              ·
                refine VC.skip (VE.inN (VE.seqN ?_))
                refine VC.reg (VO.l (LO.mv (.r rfl)) rfl <| VO.l (LO.add (.r rfl) (.r rfl) (wi (by omega) (by omega))) rfl <| VO.l (LO.as (.r rfl)) rfl <| VO.nil ?_)
                refine VE.thenN fun a w ha hw => ⟨m + 1, ⟨by omega, all_step2 (f := fun k => echoE ((rs.getD i zRE).l.getD k zE) = 0) hz2 (Classical.not_not.1 hEr)⟩, (by omega), ha.sub (.cons rfl (.cons rfl (.cons rfl .nil))), hw⟩
            ·
              refine VC.exit (VE.thenX (VE.thenX (VE.inX (VE.inN (VE.seqN ?_)))))
              refine VC.reg (VO.l (LO.mv (.r rfl)) rfl <| VO.l (LO.add (.r rfl) (.r rfl) (wi (by omega) (by omega))) rfl <| VO.l (LO.as (.r rfl)) rfl <| VO.nil ?_)
              refine VE.thenN fun a w ha hw => ⟨i + 1, ⟨by omega, all_step2 (f := fun k => rowE (rs.getD k zRE).l = 0) hz (row_0 fun k hk => hz2 k (by omega))⟩, (by omega), ha.sub (.cons rfl (.cons rfl .nil)), hw⟩
          ·
            refine VC.exit (VE.thenX (VE.thenX (VE.inX (VE.seqN ?_))))
            refine VC.seq ?_
            refine VC.reg (VO.l (LO.as (.r rfl)) rfl <| VO.nil ?_)
            refine VE.seqN ?_
            refine VC.ret (VE.res (vs := [_]) rfl ⟨rfl, trivial⟩ (fun w hw => ?_))
            refine ⟨?_, hw.nil⟩
            simp only [resV]
            first | rw [sw1 hS] | rw [sw2 hS (by omega)] | rw [sw3 hS (by omega) (by omega)] | rw [sw4 (i := i) hS (by omega) (by omega) (by omega) hLn] | (rw [sw5 hS (by omega) (by omega) hzz]; first | (rw [rows_at hz (by omega) hz2 (by omega) hEr]; done) | (rw [rows_0 fun k hk => hz k (by omega)]; done))

end Go.Proofs.Ytcnlhifkablmkaa
