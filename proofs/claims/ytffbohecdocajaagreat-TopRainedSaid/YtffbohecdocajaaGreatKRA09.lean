/-
  Walks of package rain: models, filling, what a power is worth.
  Walks of package rain: what is left of a power.
  Walks of package rain: factors and the other steps.
  Walks of package rain: a path.
  PulseBetter is walked.
  The predicate of names.
  Names and sites are checked.
  Walks of package beam: heights and places.
  Walks of package beam: heights and places, second part.
-/
import Derived.Test.YtffbohecdocajaaGreatKRA08

set_option linter.unusedSimpArgs false
namespace Go.Proofs.YtffbohecdocajaaGreat
open Go.SL Go.Proofs Go.Pulse
set_option linter.unusedVariables false

theorem F35_0 : FieldAt Tryz.prog 35 0 0 := ⟨_,_, Tryz.underlying35, rfl, rfl, 0, by kernel_rfl⟩
theorem O33 : IsOne Tryz.prog 33 := ⟨⟨_, Tryz.underlying33, rfl⟩, by kernel_rfl⟩
theorem C49 : IsFn Tryz.prog 49 := ⟨_, Tryz.func49, by decide, rfl⟩
theorem F35_1 : FieldAt Tryz.prog 35 1 1 := ⟨_,_, Tryz.underlying35, rfl, rfl, 0, by kernel_rfl⟩
theorem F35_2 : FieldAt Tryz.prog 35 2 2 := ⟨_,_, Tryz.underlying35, rfl, rfl, 1, by kernel_rfl⟩
theorem C50 : IsFn Tryz.prog 50 := ⟨_, Tryz.func50, by decide, rfl⟩
theorem F35_3 : FieldAt Tryz.prog 35 3 4 := ⟨_,_, Tryz.underlying35, rfl, rfl, 1, by kernel_rfl⟩
theorem F35_4 : FieldAt Tryz.prog 35 4 6 := ⟨_,_, Tryz.underlying35, rfl, rfl, 1, by kernel_rfl⟩
theorem C342 : IsFn Tryz.prog 342 := ⟨_, Tryz.func342, by decide, rfl⟩
theorem C343 : IsFn Tryz.prog 343 := ⟨_, Tryz.func343, by decide, rfl⟩
theorem C344 : IsFn Tryz.prog 344 := ⟨_, Tryz.func344, by decide, rfl⟩
theorem C237 : IsFn Tryz.prog 237 := ⟨_, Tryz.func237, by decide, rfl⟩
theorem C236 : IsFn Tryz.prog 236 := ⟨_, Tryz.func236, by decide, rfl⟩
theorem C189 : IsFn Tryz.prog 189 := ⟨_, Tryz.func189, by decide, rfl⟩
theorem B484 : Builds Tryz.prog 484 [(0,2), (2,1)] [.int .i64 0, .int .i64 0, .nilFunc] := Builds.mk fun _ => by kernel_rfl


/-- A model as it lies: its tables are slices. -/
structure MdA where
  m : Mdl
  pl : Option Addr
  cl : Nat
  pr : Option Addr
  cr : Nat
def mdC (x : MdA) : List Value := [.slice x.pl x.m.loss.length x.cl, .slice x.pr x.m.rate.length x.cr, .int .i64 x.m.melt.lo, .int .i64 x.m.melt.hi, .int .i64 x.m.inn.lo, .int .i64 x.m.inn.hi, .int .i64 x.m.above.lo, .int .i64 x.m.above.hi]
structure MdI (w : World) (x : MdA) : Prop where
  l : Pts w x.pl x.m.loss
  r : Pts w x.pr x.m.rate
theorem md1 {m : Mdl} (h : ¬ tabE 32768 m.loss = 0) : mdlE m = tabE 32768 m.loss := if_pos h
theorem md2 {m : Mdl} (h : ¬ ¬ tabE 32768 m.loss = 0) (k : ¬ tabE 1000000 m.rate = 0) : mdlE m = tabE 1000000 m.rate := by unfold mdlE; rw [if_neg h, if_pos k]
theorem md3 {m : Mdl} (h : ¬ ¬ tabE 32768 m.loss = 0) (k : ¬ ¬ tabE 1000000 m.rate = 0) (q : ¬ (inR m.melt 20000 ∧ inR m.inn 100000 ∧ inR m.above 100000)) : mdlE m = 3 := by unfold mdlE; rw [if_neg h, if_neg k, if_neg q]
theorem md4 {m : Mdl} (h : ¬ ¬ tabE 32768 m.loss = 0) (k : ¬ ¬ tabE 1000000 m.rate = 0) (q : inR m.melt 20000 ∧ inR m.inn 100000 ∧ inR m.above 100000) : mdlE m = 0 := by unfold mdlE; rw [if_neg h, if_neg k, if_pos q]
theorem mul_bd {a b A B : Int} (h0 : 0 ≤ a) (h1 : a ≤ A) (k0 : 0 ≤ b) (k1 : b ≤ B) : 0 ≤ a * b ∧ a * b ≤ A * B := ⟨Int.mul_nonneg h0 k0, mul_le2 h1 k1 k0 (by omega)⟩
theorem fi1 {n : Int} {b p : Span} (h : n = b.lo) : fillS n b p = ⟨min (p.lo * n) 1073741824,1073741824⟩ := if_pos h
theorem fi2 {n : Int} {b p : Span} (h : ¬ n = b.lo) (k : n = b.hi) : fillS n b p = ⟨min (p.lo * n / (n - b.lo)) 1073741824,1073741824⟩ := by unfold fillS; rw [if_neg h, if_pos k]
theorem fi3 {n : Int} {b p : Span} (h : ¬ n = b.lo) (k : ¬ n = b.hi) : fillS n b p = ⟨min (p.lo * n / (n - b.lo)) 1073741824, min (up (p.hi * n) (n - b.hi)) 1073741824⟩ := by unfold fillS; rw [if_neg h, if_neg k]
theorem wu {e : Int} (h1 : 0 ≤ e) (h2 : e ≤ 18446744073709551615) : IntKind.wrap .u64 e = e := IntWalk.u64_in _ ⟨h1, h2⟩
theorem half_w {i j : Nat} (h : i + j ≤ 1000000000000000000) : IntKind.i64.wrap (((i : Int) + (j : Int)).fdiv (2 ^ (min (1 : Int).toNat (IntKind.u64.bits)))) = (((i + j) / 2 : Nat) : Int) := by
  have e : (2 : Int) ^ (min (1 : Int).toNat (IntKind.u64.bits)) = 2 := by decide
  rw [e, Int.fdiv_eq_ediv_of_nonneg _ (by decide)]
  rw [wi (by omega) (by omega)]
  omega
theorem wE_b {l : List Pt} {z : Int} : (decide ((wIx z l : Int) < l.length) && decide ((l.getD (wIx z l) zPt).z - z = 0)) = decide (wIx z l < l.length ∧ (l.getD (wIx z l) zPt).z = z) := by
  rw [Bool.eq_iff_iff, Bool.and_eq_true, decide_eq_true_iff, decide_eq_true_iff, decide_eq_true_iff]
  omega
theorem wt1 {u : Bool} {l : List Pt} {z : Int} (h : wIx z l < l.length ∧ (l.getD (wIx z l) zPt).z = z) : wth u l z = (l.getD (wIx z l) zPt).r := if_pos h
theorem wt2 {u : Bool} {l : List Pt} {z : Int} (h : ¬ (wIx z l < l.length ∧ (l.getD (wIx z l) zPt).z = z)) (k : (wIx z l : Int) = l.length) : wth u l z = (l.getD (wIx z l - 1) zPt).r := by unfold wth; rw [if_neg h, if_pos (by omega)]
theorem wt3 {u : Bool} {l : List Pt} {z : Int} (h : ¬ (wIx z l < l.length ∧ (l.getD (wIx z l) zPt).z = z)) (k : ¬ (wIx z l : Int) = l.length) : wth u l z = (l.getD (wIx z l - 1) zPt).r + rnd u (((l.getD (wIx z l) zPt).r - (l.getD (wIx z l - 1) zPt).r) * (z - (l.getD (wIx z l - 1) zPt).z)) ((l.getD (wIx z l) zPt).z - (l.getD (wIx z l - 1) zPt).z) := by unfold wth; rw [if_neg h, if_neg (by omega)]

set_option maxRecDepth 20000 in
theorem CheckModel_c (x : MdA) (w : World) (h1 : x.m.loss.length < 1000000000000000000) (h2 : x.m.rate.length < 1000000000000000000) (hx : MdI w x) :
  Calls Tryz.prog 10 #[.agg (mdC x).toArray] w fun e w' => e = .returned (.int .i64 (mdlE x.m)) ∧ St (bs w) [] w' := by
  refine enter (vs := [_]) (env := [(0,_)]) Tryz.func10 rfl rfl rfl rfl ?_
  refine VC.seq ?_
  refine VC.reg (VO.h rfl<|HO.box (C := #[_,_,_,_,_,_,_,_]) rfl rfl fun b1 => VO.l (LO.as (.r rfl)) rfl<|VO.nil ?_)
  refine VE.seqN ?_
  refine VC.seq ?_
  refine VC.seq ?_
  refine VC.reg (VO.l (LO.fa (r := 0) F35_0 (.r rfl) rfl) rfl<|VO.l (LO.ld O33 (.r rfl) (fun _ hw => cells_at hw 0 rfl ⟨_, rfl⟩)) rfl<|VO.l (LO.call (xs := [_,_]) (vs := [_,_]) C49 ⟨(.r rfl), (.r rfl), trivial⟩ (fun w hw => CheckTable_c x.m.loss x.pl x.cl 32768 w h1 (hx.l.keep w hw))) rfl<|VO.l (LO.as (.r rfl)) rfl<|VO.nil ?_)
  refine VE.seqN ?_
  refine VC.seq ?_
  refine VC.reg (VO.l (LO.mv (.r rfl)) rfl<|VO.l (LO.ne (.r rfl) (.r rfl)) rfl<|VO.nil ?_)
  refine VE.seqN ?_
  refine VC.cond rfl (fun h9 => ?_) (fun h9 => ?_)
  ·
    refine VC.seq ?_
    refine VC.reg (VO.l (LO.mv (.r rfl)) rfl<|VO.l (LO.as (.r rfl)) rfl<|VO.nil ?_)
    refine VE.seqN ?_
    refine VC.ret (VE.thenR (VE.res (vs := [_]) rfl ⟨rfl, trivial⟩ (fun w hw => ?_)))
    refine ⟨?_, hw.nil⟩
    simp only [resV]
    first | rw [md1 h9] | rw [md2 h9 h15] | rw [md3 h9 h15 (by unfold inR; omega)] | rw [md4 h9 h15 (by unfold inR; omega)]
  ·
    refine VC.skip (VE.seqN ?_)
    refine VC.seq ?_
    refine VC.seq ?_
    refine VC.reg (VO.l (LO.fa (r := 1) F35_1 (.r rfl) rfl) rfl<|VO.l (LO.ld O33 (.r rfl) (fun _ hw => cells_at hw 0 rfl ⟨_, rfl⟩)) rfl<|VO.l (LO.call (xs := [_,_]) (vs := [_,_]) C49 ⟨(.r rfl), (.r rfl), trivial⟩ (fun w hw => CheckTable_c x.m.rate x.pr x.cr 1000000 w h2 (hx.r.keep w hw))) rfl<|VO.l (LO.as (.r rfl)) rfl<|VO.nil ?_)
    refine VE.seqN ?_
    refine VC.seq ?_
    refine VC.reg (VO.l (LO.mv (.r rfl)) rfl<|VO.l (LO.ne (.r rfl) (.r rfl)) rfl<|VO.nil ?_)
    refine VE.seqN ?_
    refine VC.cond rfl (fun h15 => ?_) (fun h15 => ?_)
    ·
      refine VC.seq ?_
      refine VC.reg (VO.l (LO.mv (.r rfl)) rfl<|VO.l (LO.as (.r rfl)) rfl<|VO.nil ?_)
      refine VE.seqN ?_
      refine VC.ret (VE.thenR (VE.res (vs := [_]) rfl ⟨rfl, trivial⟩ (fun w hw => ?_)))
      refine ⟨?_, hw.nil⟩
      simp only [resV]
      first | rw [md1 h9] | rw [md2 h9 h15] | rw [md3 h9 h15 (by unfold inR; omega)] | rw [md4 h9 h15 (by unfold inR; omega)]
    ·
      refine VC.skip (VE.seqN ?_)
      refine VC.seq ?_
      refine VC.seq ?_
      refine VC.reg (VO.l (LO.fa (r := 2) F35_2 (.r rfl) rfl) rfl<|VO.l (LO.lda (vs := [_,_]) A25 (.r rfl) (fun _ hw => cells_at hw 0 rfl ⟨_, rfl⟩) rfl) rfl<|VO.l (LO.call (xs := [_,_]) (vs := [_,_]) C50 ⟨(.r rfl), (.r rfl), trivial⟩ (fun w _ => nInside_c _ _ _ w)) rfl<|VO.l (LO.not (.r rfl)) rfl<|VO.l (LO.mv (.r rfl)) rfl<|VO.lg rfl rfl (GD.f _) (fun hg => LO.fa (r := 4) F35_3 (.r rfl) rfl) rfl<|VO.lg rfl rfl (GD.f _) (fun hg => LO.lda (vs := [_,_]) A25 (.g hg rfl) (fun _ hw => cells_at hw 0 rfl ⟨_, rfl⟩) rfl) rfl<|VO.lg rfl rfl (GD.f _) (fun hg => LO.call (xs := [_,_]) (vs := [_,_]) C50 ⟨(.g hg rfl), (.r rfl), trivial⟩ (fun w _ => nInside_c _ _ _ w)) rfl<|VO.lg rfl rfl (GD.f _) (fun hg => LO.not (.g hg rfl)) rfl<|VO.l (LO.pkO (.r rfl) (.r rfl) rfl rfl) rfl<|VO.l (LO.mv (.r rfl)) rfl<|VO.lg rfl rfl (GD.f _) (fun hg => LO.fa (r := 6) F35_4 (.r rfl) rfl) rfl<|VO.lg rfl rfl (GD.f _) (fun hg => LO.lda (vs := [_,_]) A25 (.g hg rfl) (fun _ hw => cells_at hw 0 rfl ⟨_, rfl⟩) rfl) rfl<|VO.lg rfl rfl (GD.f _) (fun hg => LO.call (xs := [_,_]) (vs := [_,_]) C50 ⟨(.g hg rfl), (.r rfl), trivial⟩ (fun w _ => nInside_c _ _ _ w)) rfl<|VO.lg rfl rfl (GD.f _) (fun hg => LO.not (.g hg rfl)) rfl<|VO.l (LO.pkO (.r rfl) (.r rfl) rfl rfl) rfl<|VO.nil ?_)
      refine VE.seqN ?_
      refine VC.cond rfl (fun h32 => ?_) (fun h32 => ?_)
      ·
        refine VC.seq ?_
        refine VC.reg (VO.l (LO.as (.r rfl)) rfl<|VO.nil ?_)
        refine VE.seqN ?_
        refine VC.ret (VE.thenR (VE.res (vs := [_]) rfl ⟨rfl, trivial⟩ (fun w hw => ?_)))
        refine ⟨?_, hw.nil⟩
        simp only [resV]
        first | rw [md1 h9] | rw [md2 h9 h15] | rw [md3 h9 h15 (by unfold inR; omega)] | rw [md4 h9 h15 (by unfold inR; omega)]
      ·
        refine VC.skip (VE.seqN ?_)
        refine VC.seq ?_
        refine VC.reg (VO.l (LO.as (.r rfl)) rfl<|VO.nil ?_)
        refine VE.seqN ?_
        refine VC.ret (VE.res (vs := [_]) rfl ⟨rfl, trivial⟩ (fun w hw => ?_))
        refine ⟨?_, hw.nil⟩
        simp only [resV]
        first | rw [md1 h9] | rw [md2 h9 h15] | rw [md3 h9 h15 (by unfold inR; omega)] | rw [md4 h9 h15 (by unfold inR; omega)]

set_option maxRecDepth 20000 in
theorem fill_c (p b : Span) (n : Int) (w : World) (hn : 1 ≤ n ∧ n ≤ 17) (hp : inR p 1073741824) (hb : inR b n) :
  Calls Tryz.prog 341 #[spanV p, .int .i64 n, spanV b] w fun e w' => e = .returned (spanV (fillS n b p)) ∧ St (bs w) [] w' := by
  obtain ⟨p1, p2, p3⟩ := hp
  obtain ⟨b1, b2, b3⟩ := hb
  have m1 := mul_bd (a := p.lo) (b := n) (A := 1073741824) (B := 17) (by omega) (by omega) (by omega) (by omega)
  have m2 := mul_bd (a := p.hi) (b := n) (A := 1073741824) (B := 17) (by omega) (by omega) (by omega) (by omega)
  refine enter (vs := [_,_,_]) (env := [(0,_), (1,_), (2,_)]) Tryz.func341 rfl rfl rfl rfl ?_
  refine VC.seq ?_
  refine VC.reg (VO.h rfl<|HO.box (C := #[_,_]) rfl rfl fun b1 => VO.h rfl<|HO.box (C := #[_,_]) rfl rfl fun b2 => VO.h rfl<|HO.alloc (C := #[_,_]) Z25 rfl fun b3 => VO.nil ?_)
  refine VE.seqN ?_
  refine VC.seq ?_
  refine VC.seq ?_
  refine VC.reg (VO.l (LO.mv (.r rfl)) rfl<|VO.nil ?_)
  refine VE.seqN ?_
  refine VC.block ?_
  refine VC.seq ?_
  refine VC.reg (VO.l (LO.fa (r := 0) F25_0 (.r rfl) rfl) rfl<|VO.l (LO.ld O3 (.r rfl) (fun _ hw => cells_at hw 1 rfl ⟨_, rfl⟩)) rfl<|VO.l (LO.eq (.r rfl) (.r rfl)) rfl<|VO.l (LO.as (.r rfl)) rfl<|VO.nil ?_)
  refine VE.seqN ?_
  refine VC.cond rfl (fun h8 => ?_) (fun h8 => ?_)
  ·
    refine VC.seq ?_
    refine VC.reg (VO.l (LO.fa (r := 0) F25_0 (.r rfl) rfl) rfl<|VO.l (LO.ld O3 (.r rfl) (fun _ hw => cells_at hw 2 rfl ⟨_, rfl⟩)) rfl<|VO.l (LO.mv (.r rfl)) rfl<|VO.l (LO.mul (.r rfl) (.r rfl) (wi (by omega) (by omega))) rfl<|VO.l (LO.call (xs := [_,_]) (vs := [_,_]) C342 ⟨(.r rfl), (.r rfl), trivial⟩ (fun w _ => capped_c _ _ w)) rfl<|VO.h0<|HO.st 0 (vs := [_,_]) (C' := [_,_]) (L' := [_,_,_]) N25 rfl rfl rfl rfl rfl rfl rfl rfl<|VO.nil ?_)
    refine VE.seqN ?_
    refine VC.ret (VE.inR (VE.thenR (VE.res (vs := [_]) rfl ⟨RV.agg (vs := [_,_]) A25 rfl (cells_blk 0 rfl ⟨_, rfl⟩) rfl, trivial⟩ (fun w hw => ?_))))
    refine ⟨?_, hw.nil⟩
    simp only [resV]
    first | (rw [fi1 h8]; rfl) | (rw [fi2 h8 h17]; rfl) | (rw [fi3 h8 h17])
  ·
    refine VC.seq ?_
    refine VC.reg (VO.l (LO.fa (r := 1) F25_1 (.r rfl) rfl) rfl<|VO.l (LO.ld O3 (.r rfl) (fun _ hw => cells_at hw 1 rfl ⟨_, rfl⟩)) rfl<|VO.l (LO.eq (.r rfl) (.r rfl)) rfl<|VO.l (LO.as (.r rfl)) rfl<|VO.nil ?_)
    refine VE.seqN ?_
    refine VC.cond rfl (fun h17 => ?_) (fun h17 => ?_)
    ·
      refine VC.seq ?_
      refine VC.reg (VO.l (LO.fa (r := 0) F25_0 (.r rfl) rfl) rfl<|VO.l (LO.ld O3 (.r rfl) (fun _ hw => cells_at hw 2 rfl ⟨_, rfl⟩)) rfl<|VO.l (LO.mv (.r rfl)) rfl<|VO.l (LO.mul (.r rfl) (.r rfl) (wi (by omega) (by omega))) rfl<|VO.l (LO.mv (.r rfl)) rfl<|VO.l (LO.fa (r := 0) F25_0 (.r rfl) rfl) rfl<|VO.l (LO.ld O3 (.r rfl) (fun _ hw => cells_at hw 1 rfl ⟨_, rfl⟩)) rfl<|VO.l (LO.sub (.r rfl) (.r rfl) (wi (by omega) (by omega))) rfl<|VO.l (LO.call (xs := [_,_]) (vs := [_,_]) C343 ⟨(.r rfl), (.r rfl), trivial⟩ (fun w _ => nDown_c _ _ (by omega) (by omega) (by omega) w)) rfl<|VO.l (LO.call (xs := [_,_]) (vs := [_,_]) C342 ⟨(.r rfl), (.r rfl), trivial⟩ (fun w _ => capped_c _ _ w)) rfl<|VO.h0<|HO.st 0 (vs := [_,_]) (C' := [_,_]) (L' := [_,_,_]) N25 rfl rfl rfl rfl rfl rfl rfl rfl<|VO.nil ?_)
      refine VE.seqN ?_
      refine VC.ret (VE.inR (VE.thenR (VE.res (vs := [_]) rfl ⟨RV.agg (vs := [_,_]) A25 rfl (cells_blk 0 rfl ⟨_, rfl⟩) rfl, trivial⟩ (fun w hw => ?_))))
      refine ⟨?_, hw.nil⟩
      simp only [resV]
      first | (rw [fi1 h8]; rfl) | (rw [fi2 h8 h17]; rfl) | (rw [fi3 h8 h17])
    ·
      refine VC.skip (VE.inN (VE.seqN ?_))
      refine VC.seq ?_
      refine VC.drawH [[0,1,2], [1,2]] [some 0, some 0, some 0, some 0, some 0, some 0, some 0, some 0, some 0, some 0, some 0, some 0, some 0, some 0, some 0, some 0, some 0, some 0, some 0, none] mixed (by kernel_rfl) rfl (LX.l (fun _ hJ => LO.fa (r := 0) F25_0 (.r rfl) rfl) rfl<|LX.l (fun _ hJ => LO.ld O3 (.r rfl) (fun _ hw => cells_at (hJ _ hw) 2 rfl ⟨_, rfl⟩)) rfl<|LX.l (fun _ hJ => LO.mv (.r rfl)) rfl<|LX.l (fun _ hJ => LO.mul (.r rfl) (.r rfl) (wi (by omega) (by omega))) rfl<|LX.l (fun _ hJ => LO.mv (.r rfl)) rfl<|LX.l (fun _ hJ => LO.fa (r := 0) F25_0 (.r rfl) rfl) rfl<|LX.l (fun _ hJ => LO.ld O3 (.r rfl) (fun _ hw => cells_at (hJ _ hw) 1 rfl ⟨_, rfl⟩)) rfl<|LX.l (fun _ hJ => LO.sub (.r rfl) (.r rfl) (wi (by omega) (by omega))) rfl<|LX.l (fun _ hJ => LO.call (xs := [_,_]) (vs := [_,_]) C343 ⟨(.r rfl), (.r rfl), trivial⟩ (fun w _ => nDown_c _ _ (by omega) (by omega) (by omega) w)) rfl<|LX.l (fun _ hJ => LO.fa (r := 1) F25_1 (.r rfl) rfl) rfl<|LX.l (fun _ hJ => LO.ld O3 (.r rfl) (fun _ hw => cells_at (hJ _ hw) 2 rfl ⟨_, rfl⟩)) rfl<|LX.l (fun _ hJ => LO.mv (.r rfl)) rfl<|LX.l (fun _ hJ => LO.mul (.r rfl) (.r rfl) (wi (by omega) (by omega))) rfl<|LX.l (fun _ hJ => LO.mv (.r rfl)) rfl<|LX.l (fun _ hJ => LO.fa (r := 1) F25_1 (.r rfl) rfl) rfl<|LX.l (fun _ hJ => LO.ld O3 (.r rfl) (fun _ hw => cells_at (hJ _ hw) 1 rfl ⟨_, rfl⟩)) rfl<|LX.l (fun _ hJ => LO.sub (.r rfl) (.r rfl) (wi (by omega) (by omega))) rfl<|LX.l (fun _ hJ => LO.call (xs := [_,_]) (vs := [_,_]) C344 ⟨(.r rfl), (.r rfl), trivial⟩ (fun w _ => nUp_c _ _ (by omega) (by omega) (by omega) w)) rfl<|LX.l (fun _ hJ => LO.call (xs := [_,_]) (vs := [_,_]) C342 ⟨(.r rfl), (.r rfl), trivial⟩ (fun w _ => capped_c _ _ w)) rfl<|LX.s<|LX.nil) (HX.s<|HX.s<|HX.s<|HX.s<|HX.s<|HX.s<|HX.s<|HX.s<|HX.s<|HX.s<|HX.s<|HX.s<|HX.s<|HX.s<|HX.s<|HX.s<|HX.s<|HX.s<|HX.s<|HX.h0<|HO.st 0 (vs := [_,_]) (C' := [_,_]) (L' := [_,_,_]) N25 rfl rfl rfl rfl rfl rfl rfl rfl<|⟨fun _ hw => hw.sel [1,2] rfl, HX.nil ?_⟩)
      refine VE.seqN ?_
      refine VC.ret (VE.res (vs := [_]) rfl ⟨RV.agg (vs := [_,_]) A25 rfl (cells_blk 0 rfl ⟨_, rfl⟩) rfl, trivial⟩ (fun w hw => ?_))
      refine ⟨?_, hw.nil⟩
      simp only [resV]
      first | (rw [fi1 h8]; rfl) | (rw [fi2 h8 h17]; rfl) | (rw [fi3 h8 h17])

set_option maxRecDepth 20000 in
theorem cmpP_c (q : Pt) (z : Int) (w : World) (h1 : 0 ≤ q.z ∧ q.z ≤ 1073741824) (h2 : 0 ≤ z ∧ z ≤ 1073741824) :
  Calls Tryz.prog 237 #[.agg #[.int .i64 q.z, .int .i64 q.r], .int .i64 z] w fun e w' => e = .returned (.int .i64 (q.z - z)) ∧ St (bs w) [] w' := by
  refine enter (vs := [_,_]) (env := [(0,_), (1,_)]) Tryz.func237 rfl rfl rfl rfl ?_
  refine VC.seq ?_
  refine VC.reg (VO.h rfl<|HO.box (C := #[_,_]) rfl rfl fun b1 => VO.l (LO.as (.r rfl)) rfl<|VO.nil ?_)
  refine VE.seqN ?_
  refine VC.seq ?_
  refine VC.reg (VO.l (LO.fa (r := 0) F166_0 (.r rfl) rfl) rfl<|VO.l (LO.ld O3 (.r rfl) (fun _ hw => cells_at hw 0 rfl ⟨_, rfl⟩)) rfl<|VO.l (LO.mv (.r rfl)) rfl<|VO.l (LO.sub (.r rfl) (.r rfl) (wi (by omega) (by omega))) rfl<|VO.l (LO.as (.r rfl)) rfl<|VO.nil ?_)
  refine VE.seqN ?_
  refine VC.ret (VE.res (vs := [_]) rfl ⟨rfl, trivial⟩ (fun w hw => ?_))
  exact ⟨rfl, hw.nil⟩

set_option maxRecDepth 20000 in
theorem Search_c (l : List Pt) (p : Option Addr) (c : Nat) (z most : Int) (w : World) (hl : Pts w p l) (hT : tabOk l most) (hn : l.length ≤ 32) (hz : 0 ≤ z ∧ z ≤ 1073741824) :
  Calls Tryz.prog 236 #[.slice p l.length c, .int .i64 z, .func (.func 237) #[] #[]] w fun e w' => e = .returned (.tuple #[.int .i64 (wIx z l : Nat), .bool (decide (wIx z l < l.length ∧ (l.getD (wIx z l) zPt).z = z))]) ∧ St (bs w) [] w' := by
  refine enter (vs := [_,_,_]) (env := [(0,_), (1,_), (2,_)]) Tryz.func236 rfl rfl rfl rfl ?_
  refine VC.seq ?_
  refine VC.reg (VO.l (LO.as (.r rfl)) rfl<|VO.l (LO.as (.r rfl)) rfl<|VO.nil ?_)
  refine VE.seqN ?_
  refine VC.seq ?_
  refine VC.reg (VO.l (LO.mv (.r rfl)) rfl<|VO.l (LO.len S33 (.r rfl) rfl) rfl<|VO.l (LO.as (.r rfl)) rfl<|VO.nil ?_)
  refine VE.seqN ?_
  refine VC.seq ?_
  refine VC.reg (VO.l (LO.mv (.r rfl)) rfl<|VO.l (LO.as (.r rfl)) rfl<|VO.l (LO.as (.r rfl)) rfl<|VO.nil ?_)
  refine VE.seqN ?_
  refine VC.seq ?_
  refine VC.block ?_
  refine VC.loopK (α := Nat × Nat) 0 (fun gx => [(9, .int .i64 (gx.1 : Nat)), (10, .int .i64 (gx.2 : Nat))]) [(0,_), (1,_), (2,_), (8,_)] (fun gx => []) (fun gx => gx.1 ≤ gx.2 ∧ gx.2 ≤ l.length ∧ (∀ k, k < gx.1 → (l.getD k zPt).z < z) ∧ (gx.2 < l.length → z ≤ (l.getD gx.2 zPt).z)) (fun gx => gx.2 - gx.1) (0, l.length) (by exact ⟨Nat.zero_le _, Nat.le_refl _, fun k hk => by omega, fun q => by omega⟩) (.cons rfl (.cons rfl (.cons rfl (.cons rfl (.cons rfl (.cons rfl .nil)))))) (fun _ h => h) ?_
  rintro ⟨i, j⟩ ⟨hij, hj, hA, hB⟩
  show VC _ _ _ _ _ ([(9, .int .i64 (i : Nat)), (10, .int .i64 (j : Nat))] ++ _) ([] ++ _) _ _
  refine VC.seq ?_
  refine VC.seq ?_
  refine VC.reg (VO.l (LO.mv (.r rfl)) rfl<|VO.l (LO.mv (.r rfl)) rfl<|VO.l (LO.lt (.r rfl) (.r rfl)) rfl<|VO.nil ?_)
  refine VE.seqN ?_
  refine VC.cond rfl (fun h1 => ?_) (fun h1 => ?_)
  ·
    refine VC.skip (VE.seqN ?_)
    refine VC.block ?_
    refine VC.seq ?_
    refine VC.reg (VO.l (LO.mv (.r rfl)) rfl<|VO.l (LO.mv (.r rfl)) rfl<|VO.l (LO.add (.r rfl) (.r rfl) (wi (by omega) (by omega))) rfl<|VO.l (LO.cv ⟨_, Tryz.underlying3⟩ Tryz.underlying396 (.r rfl) (wu (by omega) (by omega))) rfl<|VO.l (LO.shr (.r rfl) (.r rfl) (by omega)) rfl<|VO.l (LO.cv ⟨_, Tryz.underlying396⟩ Tryz.underlying3 (.r rfl) (half_w (by omega))) rfl<|VO.l (LO.as (.r rfl)) rfl<|VO.nil ?_)
    refine VE.seqN ?_
    refine VC.seq ?_
    have hk1 := tab_at hT (k := (i + j) / 2) (by omega)
    refine VC.reg (VO.l (LO.mv (.r rfl)) rfl<|VO.l (LO.mv (.r rfl)) rfl<|VO.l (LO.mv (.r rfl)) rfl<|VO.l (LO.ixs S33 N166 hl.sm (.r rfl) (.r rfl) rfl (by omega)) rfl<|VO.l (LO.lda (vs := [_,_]) A166 (.r rfl) (fun w hw => cells_part (off := 0) ((hl.at zPt (j := ((i + j) / 2)) (by omega)) w hw) ⟨_, rfl⟩) rfl) rfl<|VO.l (LO.mv (.r rfl)) rfl<|VO.l (LO.callv (first := []) (cap := []) (xs := [_,_]) (vs := [_,_]) (.r rfl) C237 ⟨(.r rfl), (.r rfl), trivial⟩ (fun w _ => cmpP_c (l.getD ((i + j) / 2) zPt) z w (tab_at hT (by omega)).1 hz)) rfl<|VO.l (LO.lt (.r rfl) (.r rfl)) rfl<|VO.nil ?_)
    refine VE.seqN ?_
    refine VC.cond rfl (fun h31 => ?_) (fun h31 => ?_)
    ·
      refine VC.reg (VO.l (LO.mv (.r rfl)) rfl<|VO.l (LO.add (.r rfl) (.r rfl) (wi (by omega) (by omega))) rfl<|VO.l (LO.as (.r rfl)) rfl<|VO.nil ?_)
      refine VE.inN ?_
      refine VE.thenN fun a w ha hw => ⟨((i + j) / 2 + 1, j), ⟨by dsimp only; omega, by dsimp only; omega, by first | exact hA | (intro k hk; have e1 := (tab_mono hT (i := k) (k := (i + j) / 2) (by dsimp only at hk; omega) (by omega)).1; omega), by first | exact hB | (intro _; dsimp only; omega)⟩, (by dsimp only; omega), ha.sub (.cons rfl (.cons rfl (.cons rfl (.cons rfl (.cons rfl (.cons rfl .nil)))))), hw⟩
    ·
      refine VC.reg (VO.l (LO.mv (.r rfl)) rfl<|VO.l (LO.as (.r rfl)) rfl<|VO.nil ?_)
      refine VE.inN ?_
      refine VE.thenN fun a w ha hw => ⟨(i, (i + j) / 2), ⟨by dsimp only; omega, by dsimp only; omega, by first | exact hA | (intro k hk; have e1 := (tab_mono hT (i := k) (k := (i + j) / 2) (by dsimp only at hk; omega) (by omega)).1; omega), by first | exact hB | (intro _; dsimp only; omega)⟩, (by dsimp only; omega), ha.sub (.cons rfl (.cons rfl (.cons rfl (.cons rfl (.cons rfl (.cons rfl .nil)))))), hw⟩
  ·
    refine VC.exit (VE.thenX (VE.thenX (VE.inX (VE.seqN ?_))))
    refine VC.seq ?_
    dsimp only at hij hj hA hB
    have eij : i = j := by omega
    have ei : i = wIx z l := wIx_eq hA (fun q => by rw [eij] at q ⊢; exact hB q) (by omega)
    refine VC.reg (VO.l (LO.mv (.r rfl)) rfl<|VO.l (LO.mv (.r rfl)) rfl<|VO.l (LO.mv (.r rfl)) rfl<|VO.l (LO.lt (.r rfl) (.r rfl)) rfl<|VO.l (LO.mv (.r rfl)) rfl<|VO.lg rfl rfl (GD.t _) (fun hg => LO.mv (.r rfl)) rfl<|VO.lg rfl rfl (GD.t _) (fun hg => LO.mv (.r rfl)) rfl<|VO.lg rfl rfl (GD.t _) (fun hg => LO.mv (.r rfl)) rfl<|VO.lg rfl rfl (GD.t _) (fun hg => LO.ixs S33 N166 hl.sm (.g hg rfl) (.g hg rfl) rfl (by have q := IsP.yes inferInstance hg; omega)) rfl<|VO.lg rfl rfl (GD.t _) (fun hg => LO.lda (vs := [_,_]) A166 (.g hg rfl) (fun _ hw => cells_part (off := 0) (hl.at zPt (j := i) (by have q := IsP.yes inferInstance hg; omega) _ hw) ⟨_, rfl⟩) rfl) rfl<|VO.lg rfl rfl (GD.t _) (fun hg => LO.mv (.r rfl)) rfl<|VO.lg rfl rfl (GD.t _) (fun hg => LO.callv (first := []) (cap := []) (xs := [_,_]) (vs := [_,_]) (.g hg rfl) C237 ⟨(.g hg rfl), (.g hg rfl), trivial⟩ (fun w _ => cmpP_c (l.getD i zPt) z w (tab_at hT (by have q := IsP.yes inferInstance hg; omega)).1 hz)) rfl<|VO.lg rfl rfl (GD.t _) (fun hg => LO.eq (.g hg rfl) (.r rfl)) rfl<|VO.l (LO.pkA (.r rfl) rfl rfl (.r rfl)) rfl<|VO.l (LO.as (.r rfl)) rfl<|VO.l (LO.as (.r rfl)) rfl<|VO.nil ?_)
    refine VE.seqN ?_
    refine VC.ret (VE.res (vs := [_,_]) rfl ⟨rfl, rfl, trivial⟩ (fun w hw => ?_))
    subst ei
    refine ⟨?_, hw.nil⟩
    simp only [resV]
    rw [wE_b]

set_option maxRecDepth 20000 in
theorem worth1_c (u : Bool) (F : Nat) (l : List Pt) (p : Option Addr) (c b : Nat) (z most : Int) (w : World) (hF : IsFn Tryz.prog F) (hFc : ∀ (x y : Int) (w : World), 0 ≤ x → 0 < y → x + y ≤ 9223372036854775807 → Calls Tryz.prog F #[.int .i64 x, .int .i64 y] w fun e w' => e = .returned (.int .i64 (rnd u x y)) ∧ St (bs w) [] w') (hc : Cells w ⟨b, 0, none⟩ [.slice p l.length c]) (hl : Pts w p l) (hT : tabOk l most) (hm : most ≤ 1073741824) (hl2 : 2 ≤ l.length ∧ l.length ≤ 32) (hz : 0 ≤ z ∧ z ≤ 1073741824) :
  Calls Tryz.prog 235 #[.int .i64 z, .func (.func F) #[] #[], .pointer (some ⟨b, 0, none⟩)] w fun e w' => e = .returned (.int .i64 (wth u l z)) ∧ St (bs w) [] w' := by
  have a1 := wIx_le z l
  refine enter (vs := [_,_,_]) (env := [(0,_), (1,_), (2,_)]) Tryz.func235 rfl rfl rfl rfl ?_
  refine VC.seq ?_
  refine VC.reg (VO.l (LO.as (.r rfl)) rfl<|VO.nil ?_)
  refine VE.seqN ?_
  refine VC.seq ?_
  refine VC.reg (VO.l (LO.ld O33 (.r rfl) (cells_keep (sub_cells (off := 0) hc ⟨_, rfl⟩))) rfl<|VO.l (LO.mv (.r rfl)) rfl<|VO.l (LO.call (xs := [_,_,_]) (vs := [_,_,_]) C236 ⟨(.r rfl), (.r rfl), (.r rfl), trivial⟩ (fun w hw => Search_c l p c z most w (hl.keep w hw) hT hl2.2 hz)) rfl<|VO.l (LO.mv (.r rfl)) rfl<|VO.l (LO.ex (.r rfl) rfl) rfl<|VO.l (LO.ex (.r rfl) rfl) rfl<|VO.l (LO.as (.r rfl)) rfl<|VO.l (LO.as (.r rfl)) rfl<|VO.nil ?_)
  refine VE.seqN ?_
  refine VC.seq ?_
  refine VC.block ?_
  refine VC.seq ?_
  refine VC.reg (VO.l (LO.mv (.r rfl)) rfl<|VO.l (LO.as (.r rfl)) rfl<|VO.nil ?_)
  refine VE.seqN ?_
  refine VC.cond rfl (fun h16 => ?_) (fun h16 => ?_)
  ·
    refine VC.seq ?_
    refine VC.reg (VO.l (LO.ld O33 (.r rfl) (cells_keep (sub_cells (off := 0) hc ⟨_, rfl⟩))) rfl<|VO.l (LO.mv (.r rfl)) rfl<|VO.l (LO.ixs S33 N166 hl.sm (.r rfl) (.r rfl) rfl (by omega)) rfl<|VO.l (LO.fa F166_1 (.r rfl) rfl) rfl<|VO.l (LO.ld O3 (.r rfl) (fun w hw => cells_part (off := 1) ((hl.at zPt (j := (wIx z l)) (by omega)) w hw) ⟨_, rfl⟩)) rfl<|VO.l (LO.as (.r rfl)) rfl<|VO.nil ?_)
    refine VE.seqN ?_
    refine VC.ret (VE.inR (VE.thenR (VE.res (vs := [_]) rfl ⟨rfl, trivial⟩ (fun w hw => ?_))))
    refine ⟨?_, hw.nil⟩
    simp only [resV]
    first | rw [wt1 h16] | rw [wt2 h16 h23] | rw [wt3 h16 h23]
  ·
    refine VC.seq ?_
    refine VC.reg (VO.l (LO.mv (.r rfl)) rfl<|VO.l (LO.ld O33 (.r rfl) (cells_keep (sub_cells (off := 0) hc ⟨_, rfl⟩))) rfl<|VO.l (LO.len S33 (.r rfl) rfl) rfl<|VO.l (LO.eq (.r rfl) (.r rfl)) rfl<|VO.l (LO.as (.r rfl)) rfl<|VO.nil ?_)
    refine VE.seqN ?_
    refine VC.cond rfl (fun h23 => ?_) (fun h23 => ?_)
    ·
      refine VC.seq ?_
      refine VC.reg (VO.l (LO.ld O33 (.r rfl) (cells_keep (sub_cells (off := 0) hc ⟨_, rfl⟩))) rfl<|VO.l (LO.mv (.r rfl)) rfl<|VO.l (LO.sub (.r rfl) (.r rfl) (wi (by omega) (by omega))) rfl<|VO.l (LO.ixs S33 N166 hl.sm (.r rfl) (.r rfl) (by omega) (by omega)) rfl<|VO.l (LO.fa F166_1 (.r rfl) rfl) rfl<|VO.l (LO.ld O3 (.r rfl) (fun w hw => cells_part (off := 1) ((hl.at zPt (j := (wIx z l - 1)) (by omega)) w hw) ⟨_, rfl⟩)) rfl<|VO.l (LO.as (.r rfl)) rfl<|VO.nil ?_)
      refine VE.seqN ?_
      refine VC.ret (VE.inR (VE.thenR (VE.res (vs := [_]) rfl ⟨rfl, trivial⟩ (fun w hw => ?_))))
      refine ⟨?_, hw.nil⟩
      simp only [resV]
      first | rw [wt1 h16] | rw [wt2 h16 h23] | rw [wt3 h16 h23]
    ·
      refine VC.skip (VE.inN (VE.seqN ?_))
      refine VC.seq ?_
      have hp := wIx_pos hT hz.1 (by omega) h16
      have t0 := tab_lt hT (i := wIx z l - 1) (k := wIx z l) (by omega) (by omega)
      have t1 := tab_at hT (k := wIx z l - 1) (by omega)
      have t2 := tab_at hT (k := wIx z l) (by omega)
      have g1 := wIx_lt l (wIx z l - 1) (z := z) (by omega)
      have g2 := wIx_ge (z := z) l (by omega)
      refine VC.drawB [⟨9,8, fun b => .pointer (some ⟨b, 0, none⟩), 166, #[.int .i64 0, .int .i64 0]⟩, ⟨10,9, fun b => .pointer (some ⟨b, 0, none⟩), 166, #[.int .i64 0, .int .i64 0]⟩] [[], [], [], [], []] [some 2, some 2, some 2, some 2, some 2, some 3, some 3, some 3, some 3, none, none, none, none] mixed (by kernel_rfl) rfl (LX.l (fun _ hJ => LO.ld O33 (.r rfl) (cells_keep (sub_cells (off := 0) hc ⟨_, rfl⟩))) rfl<|LX.l (fun _ hJ => LO.mv (.r rfl)) rfl<|LX.l (fun _ hJ => LO.sub (.r rfl) (.r rfl) (wi (by omega) (by omega))) rfl<|LX.l (fun _ hJ => LO.ixs S33 N166 hl.sm (.r rfl) (.r rfl) (by omega) (by omega)) rfl<|LX.l (fun _ hJ => LO.lda (vs := [_,_]) A166 (.r rfl) (fun w hw => cells_part (off := 0) ((hl.at zPt (j := (wIx z l - 1)) (by omega)) w (hJ _ hw)) ⟨_, rfl⟩) rfl) rfl<|LX.l (fun _ hJ => LO.ld O33 (.r rfl) (cells_keep (sub_cells (off := 0) hc ⟨_, rfl⟩))) rfl<|LX.l (fun _ hJ => LO.mv (.r rfl)) rfl<|LX.l (fun _ hJ => LO.ixs S33 N166 hl.sm (.r rfl) (.r rfl) rfl (by omega)) rfl<|LX.l (fun _ hJ => LO.lda (vs := [_,_]) A166 (.r rfl) (fun w hw => cells_part (off := 0) ((hl.at zPt (j := (wIx z l)) (by omega)) w (hJ _ hw)) ⟨_, rfl⟩) rfl) rfl<|LX.s<|LX.s<|LX.s<|LX.s<|LX.nil) (⟨⟨rfl,_, rfl, FO.alloc Z166 rfl⟩, ⟨⟨rfl,_, rfl, FO.alloc Z166 rfl⟩, trivial⟩⟩) (HY.s<|HY.s<|HY.s<|HY.s<|HY.s<|HY.s<|HY.s<|HY.s<|HY.s<|HY.f rfl fun b5 => ⟨selJ (L1 := []) [] rfl rfl rfl, HY.f rfl fun b6 => ⟨selJ (L1 := []) [] rfl rfl rfl, HY.h0 rfl fun X => HO.st 1 (vs := [_,_]) (C' := [_,_]) (L' := [_,_] ++ X) N166 rfl rfl rfl rfl rfl rfl rfl rfl<|⟨[_,_], rfl, selJ (L1 := []) [] rfl rfl rfl, HY.h0 rfl fun X => HO.st 0 (vs := [_,_]) (C' := [_,_]) (L' := [_,_] ++ X) N166 rfl rfl rfl rfl rfl rfl rfl rfl<|⟨[_,_], rfl, selJ (L1 := []) [] rfl rfl rfl, HY.nil ?_⟩⟩⟩⟩)
      refine VE.seqN ?_
      refine VC.seq ?_
      have m1 := mul_bd (a := (l.getD (wIx z l) zPt).r - (l.getD (wIx z l - 1) zPt).r) (b := z - (l.getD (wIx z l - 1) zPt).z) (A := 1073741824) (B := 1073741824) (by omega) (by omega) (by omega) (by omega)
      have m2 := rnd_bd (u := u) (a := (l.getD (wIx z l) zPt).r - (l.getD (wIx z l - 1) zPt).r) (b := 0) (c := z - (l.getD (wIx z l - 1) zPt).z) (d := (l.getD (wIx z l) zPt).z - (l.getD (wIx z l - 1) zPt).z) (by omega) (by omega) (by omega) (by omega)
      refine VC.draw mixed (LL.l (LO.fa (r := 1) F166_1 (.r rfl) rfl) rfl<|LL.l (LO.ld O3 (.r rfl) (fun _ hw => cells_at hw 1 rfl ⟨_, rfl⟩)) rfl<|LL.l (LO.mv (.r rfl)) rfl<|LL.l (LO.fa (r := 1) F166_1 (.r rfl) rfl) rfl<|LL.l (LO.ld O3 (.r rfl) (fun _ hw => cells_at hw 0 rfl ⟨_, rfl⟩)) rfl<|LL.l (LO.fa (r := 1) F166_1 (.r rfl) rfl) rfl<|LL.l (LO.ld O3 (.r rfl) (fun _ hw => cells_at hw 1 rfl ⟨_, rfl⟩)) rfl<|LL.l (LO.sub (.r rfl) (.r rfl) (wi (by omega) (by omega))) rfl<|LL.l (LO.mv (.r rfl)) rfl<|LL.l (LO.fa (r := 0) F166_0 (.r rfl) rfl) rfl<|LL.l (LO.ld O3 (.r rfl) (fun _ hw => cells_at hw 1 rfl ⟨_, rfl⟩)) rfl<|LL.l (LO.sub (.r rfl) (.r rfl) (wi (by omega) (by omega))) rfl<|LL.l (LO.mul (.r rfl) (.r rfl) (wi (by omega) (by omega))) rfl<|LL.l (LO.fa (r := 0) F166_0 (.r rfl) rfl) rfl<|LL.l (LO.ld O3 (.r rfl) (fun _ hw => cells_at hw 0 rfl ⟨_, rfl⟩)) rfl<|LL.l (LO.fa (r := 0) F166_0 (.r rfl) rfl) rfl<|LL.l (LO.ld O3 (.r rfl) (fun _ hw => cells_at hw 1 rfl ⟨_, rfl⟩)) rfl<|LL.l (LO.sub (.r rfl) (.r rfl) (wi (by omega) (by omega))) rfl<|LL.l (LO.callv (first := []) (cap := []) (xs := [_,_]) (vs := [_,_]) (.r rfl) hF ⟨(.r rfl), (.r rfl), trivial⟩ (fun w _ => hFc _ _ w (by omega) (by omega) (by omega))) rfl<|LL.l (LO.add (.r rfl) (.r rfl) (wi (by omega) (by omega))) rfl<|LL.l (LO.as (.r rfl)) rfl<|LL.nil) (by kernel_rfl) ?_
      refine VE.seqN ?_
      refine VC.ret (VE.res (vs := [_]) rfl ⟨rfl, trivial⟩ (fun w hw => ?_))
      refine ⟨?_, hw.nil⟩
      simp only [resV]
      first | rw [wt1 h16] | rw [wt2 h16 h23] | rw [wt3 h16 h23]

set_option maxRecDepth 20000 in
theorem worth_c (l : List Pt) (p : Option Addr) (c : Nat) (w : World) :
  Calls Tryz.prog 189 #[.slice p l.length c] w fun e w' => ∃ b : Nat, True ∧ e = .returned (.func (.func 235) #[] #[.pointer (some ⟨b, 0, none⟩)]) ∧ St (bs w) [blk b (.cells #[.slice p l.length c] 33)] w' := by
  refine enter (vs := [_]) (env := [(0,_)]) Tryz.func189 rfl rfl rfl rfl ?_
  refine VC.seq ?_
  refine VC.reg (VO.h rfl<|HO.box (C := #[_]) rfl rfl fun b1 => VO.l (LO.as (.r rfl)) rfl<|VO.nil ?_)
  refine VE.seqN ?_
  refine VC.seq ?_
  refine VC.reg (VO.h rfl<|HO.lo (LO.mf (cap := [_]) ⟨(.r rfl), trivial⟩)<|VO.h rfl<|HO.lo (LO.as (.r rfl))<|VO.nil ?_)
  refine VE.seqN ?_
  refine VC.ret (VE.res (vs := [_]) rfl ⟨rfl, trivial⟩ (fun w hw => ?_))
  exact ⟨b1, trivial, rfl, hw⟩

set_option maxRecDepth 20000 in
theorem passing_c (l : List Pt) (p : Option Addr) (c : Nat) (w : World) :
  Calls Tryz.prog 188 #[.slice p l.length c] w fun e w' => ∃ bb : Nat × Nat, True ∧ e = .returned (.pointer (some ⟨bb.1,0, none⟩)) ∧ St (bs w) [blk bb.1 (.cells #[.int .i64 1073741824, .int .i64 1073741824, .func (.func 235) #[] #[.pointer (some ⟨bb.2,0, none⟩)]] 484), blk bb.2 (.cells #[.slice p l.length c] 33)] w' := by
  refine enter (vs := [_]) (env := [(0,_)]) Tryz.func188 rfl rfl rfl rfl ?_
  refine VC.seq ?_
  refine VC.reg (VO.l (LO.as (.r rfl)) rfl<|VO.nil ?_)
  refine VE.seqN ?_
  refine VC.seq ?_
  refine VC.reg (VO.l (LO.bd (ps := [(_,_), (_,_)]) (vs := [(_,_), (_,_)]) (C := [_,_]) B25  ⟨(.r rfl), (.r rfl), trivial⟩ rfl ⟨_, [_], [_,_], rfl, rfl, rfl, rfl, ⟨_, [_], [_,_], rfl, rfl, rfl, rfl, rfl⟩⟩) rfl<|VO.l (LO.mv (.r rfl)) rfl<|VO.h rfl<|HO.callx (xs := [_]) (vs := [_]) C189 ⟨(.r rfl), trivial⟩ (fun w _ => worth_c l p c w) fun vb _ => VO.h rfl<|HO.lo (LO.bd (ps := [(_,_), (_,_)]) (vs := [(_,_), (_,_)]) (C := [_,_,_]) B484  ⟨(.r rfl), (.r rfl), trivial⟩ rfl ⟨_, [_,_], [_,_,_], rfl, rfl, rfl, rfl, ⟨_, [_], [_,_,_], rfl, rfl, rfl, rfl, rfl⟩⟩)<|VO.h rfl<|HO.box (C := #[_,_,_]) rfl rfl fun b2 => VO.h rfl<|HO.lo (LO.as (.r rfl))<|VO.nil ?_)
  refine VE.seqN ?_
  refine VC.ret (VE.res (vs := [_]) rfl ⟨rfl, trivial⟩ (fun w hw => ?_))
  exact ⟨(_, vb), trivial, rfl, hw⟩

end Go.Proofs.YtffbohecdocajaaGreat

namespace Go.Proofs.YtffbohecdocajaaGreat
open Go.SL Go.Proofs Go.Pulse
set_option linter.unusedVariables false

theorem F484_0 : FieldAt Tryz.prog 484 0 0 := ⟨_,_, Tryz.underlying484, rfl, rfl, 1, by kernel_rfl⟩
theorem F484_1 : FieldAt Tryz.prog 484 1 2 := ⟨_,_, Tryz.underlying484, rfl, rfl, 0, by kernel_rfl⟩
theorem O423 : IsOne Tryz.prog 423 := ⟨⟨_, Tryz.underlying423, rfl⟩, by kernel_rfl⟩
theorem C235 : IsFn Tryz.prog 235 := ⟨_, Tryz.func235, by decide, rfl⟩
theorem C346 : IsFn Tryz.prog 346 := ⟨_, Tryz.func346, by decide, rfl⟩


abbrev pasB (bP b : Nat) (t : Span) : Res := blk bP (.cells #[.int .i64 t.lo, .int .i64 t.hi, .func (.func 235) #[] #[.pointer (some ⟨b, 0, none⟩)]] 484)
/-- A table that a function value has. -/
structure LoI (w : World) (b : Nat) (l : List Pt) (p : Option Addr) (c : Nat) : Prop where
  c : Cells w ⟨b, 0, none⟩ [.slice p l.length c]
  l : Pts w p l
def pasOk (t : Span) : Prop := 0 ≤ t.lo ∧ t.lo ≤ t.hi ∧ 1 ≤ t.hi ∧ t.hi ≤ 1073741824
theorem rdF : IsFn Tryz.prog 343 ∧ ∀ (x y : Int) (w : World), 0 ≤ x → 0 < y → x + y ≤ 9223372036854775807 → Calls Tryz.prog 343 #[.int .i64 x, .int .i64 y] w fun e w' => e = .returned (.int .i64 (rnd false x y)) ∧ St (bs w) [] w' := ⟨C343, fun x y w h1 h2 h3 => nDown_c x y h1 (by omega) h2 w⟩
theorem ruF : IsFn Tryz.prog 344 ∧ ∀ (x y : Int) (w : World), 0 ≤ x → 0 < y → x + y ≤ 9223372036854775807 → Calls Tryz.prog 344 #[.int .i64 x, .int .i64 y] w fun e w' => e = .returned (.int .i64 (rnd true x y)) ∧ St (bs w) [] w' := ⟨C344, fun x y w h1 h2 h3 => nUp_c x y h1 h2 h3 w⟩
theorem pas_bd {t q : Span} (ht : pasOk t) (hq : inR q 1073741824) : inR (pasA t q) 1073741824 := by
  obtain ⟨t1, t2, t3, t4⟩ := ht
  obtain ⟨q1, q2, q3⟩ := hq
  have := pasA_in (p := q) (p' := q) (t := t) (t' := t) ⟨q2, Int.le_refl _, Int.le_refl _⟩ q1 ⟨t2, Int.le_refl _, Int.le_refl _⟩ t1 t3
  exact ⟨this.2.1, this.1.1, this.2.2⟩
theorem paA1 {t q : Span} (h : 1048576 ≤ t.lo) : pasA t q = ⟨min 1073741824 (q.lo * 1073741824 / t.hi), min 1073741824 (up (q.hi * 1073741824) t.lo)⟩ := by unfold pasA; rw [if_pos h]
theorem paA2 {t q : Span} (h : ¬ 1048576 ≤ t.lo) : pasA t q = ⟨min 1073741824 (q.lo * 1073741824 / t.hi), 1073741824⟩ := by unfold pasA; rw [if_neg h]

set_option maxRecDepth 20000 in
theorem through_c (bP b : Nat) (t z : Span) (l : List Pt) (p : Option Addr) (c : Nat) (w : World) (hh : Has w [pasB bP b t]) (hK : ∀ L w2, St ⟨w, fpL [pasB bP b t]⟩ L w2 → LoI w2 b l p c) (hT : tabOk l 32768) (hl2 : 2 ≤ l.length ∧ l.length ≤ 32) (ht : pasOk t) (hz : inR z 1073741824) :
  Calls Tryz.prog 346 #[.pointer (some ⟨bP, 0, none⟩), spanV z] w fun e w' => ∃ _ : Unit, True ∧ e = .returned (.tuple #[]) ∧ St ⟨w, fpL [pasB bP b t]⟩ [pasB bP b (pasT l t z)] w' := by
  obtain ⟨z1, z2, z3⟩ := hz
  obtain ⟨t1, t2, t3, t4⟩ := ht
  have w1 := wth_bd hT (show 0 ≤ z.hi by omega) true (by omega)
  have w2 := wth_bd hT (show 0 ≤ z.lo by omega) false (by omega)
  have m1 := mul_bd (a := t.lo) (b := 65536 - wth true l z.hi) (A := 1073741824) (B := 65536) (by omega) (by omega) (by omega) (by omega)
  have m2 := mul_bd (a := t.hi) (b := 65536 - wth false l z.lo) (A := 1073741824) (B := 65536) (by omega) (by omega) (by omega) (by omega)
  refine enterO (vs := [_,_]) (env := [(0,_), (1,_)]) hh.enter Tryz.func346 rfl rfl rfl rfl ?_
  refine VC.seq ?_
  refine VC.reg (VO.h rfl<|HO.box (C := #[_,_]) rfl rfl fun b2 => VO.nil ?_)
  refine VE.seqN ?_
  refine VC.drawH [[0,1], [0]] [some 0, some 0, some 0, some 0, some 0, some 0, some 0, some 0, some 0, some 0, some 0, some 0, some 0, some 0, some 0, some 0, some 0, some 0, some 0, some 0, some 0, some 0, some 0, some 0, some 0, some 0, some 0, some 0, some 0, some 0, some 0, some 0, some 0, some 0, none] mixed (by kernel_rfl) rfl (LX.l (fun _ hJ => LO.mv (.r rfl)) rfl<|LX.l (fun _ hJ => LO.mv (.r rfl)) rfl<|LX.l (fun _ hJ => LO.nc (.r rfl)) rfl<|LX.l (fun _ hJ => LO.fa (r := 0) F484_0 (.r rfl) rfl) rfl<|LX.l (fun _ hJ => LO.fa (r := 0) F25_0 (.r rfl) rfl) rfl<|LX.l (fun _ hJ => LO.ld O3 (.r rfl) (fun _ hw => cells_at (hJ _ hw) 1 rfl ⟨_, rfl⟩)) rfl<|LX.l (fun _ hJ => LO.mv (.r rfl)) rfl<|LX.l (fun _ hJ => LO.nc (.r rfl)) rfl<|LX.l (fun _ hJ => LO.fa (r := 2) F484_1 (.r rfl) rfl) rfl<|LX.l (fun _ hJ => LO.ld O423 (.r rfl) (fun _ hw => cells_at (hJ _ hw) 1 rfl ⟨_, rfl⟩)) rfl<|LX.l (fun _ hJ => LO.fa (r := 1) F25_1 (.r rfl) rfl) rfl<|LX.l (fun _ hJ => LO.ld O3 (.r rfl) (fun _ hw => cells_at (hJ _ hw) 0 rfl ⟨_, rfl⟩)) rfl<|LX.l (fun _ hJ => LO.callv (first := []) (cap := [_]) (xs := [_,_]) (vs := [_,_]) (.r rfl) C235 ⟨(.r rfl), (.r rfl), trivial⟩ (fun w hw => worth1_c true 344 l p c b z.hi 32768 w ruF.1 ruF.2 (hK _ w (hJ _ hw)).c (hK _ w (hJ _ hw)).l hT (by omega) hl2 (by omega))) rfl<|LX.l (fun _ hJ => LO.sub (.r rfl) (.r rfl) (wi (by omega) (by omega))) rfl<|LX.l (fun _ hJ => LO.mul (.r rfl) (.r rfl) (wi (by omega) (by omega))) rfl<|LX.l (fun _ hJ => LO.call (xs := [_,_]) (vs := [_,_]) C343 ⟨(.r rfl), (.r rfl), trivial⟩ (fun w _ => nDown_c _ _ (by omega) (by omega) (by omega) w)) rfl<|LX.l (fun _ hJ => LO.mv (.r rfl)) rfl<|LX.l (fun _ hJ => LO.nc (.r rfl)) rfl<|LX.l (fun _ hJ => LO.fa (r := 0) F484_0 (.r rfl) rfl) rfl<|LX.l (fun _ hJ => LO.fa (r := 1) F25_1 (.r rfl) rfl) rfl<|LX.l (fun _ hJ => LO.ld O3 (.r rfl) (fun _ hw => cells_at (hJ _ hw) 1 rfl ⟨_, rfl⟩)) rfl<|LX.l (fun _ hJ => LO.mv (.r rfl)) rfl<|LX.l (fun _ hJ => LO.nc (.r rfl)) rfl<|LX.l (fun _ hJ => LO.fa (r := 2) F484_1 (.r rfl) rfl) rfl<|LX.l (fun _ hJ => LO.ld O423 (.r rfl) (fun _ hw => cells_at (hJ _ hw) 1 rfl ⟨_, rfl⟩)) rfl<|LX.l (fun _ hJ => LO.fa (r := 0) F25_0 (.r rfl) rfl) rfl<|LX.l (fun _ hJ => LO.ld O3 (.r rfl) (fun _ hw => cells_at (hJ _ hw) 0 rfl ⟨_, rfl⟩)) rfl<|LX.l (fun _ hJ => LO.callv (first := []) (cap := [_]) (xs := [_,_]) (vs := [_,_]) (.r rfl) C235 ⟨(.r rfl), (.r rfl), trivial⟩ (fun w hw => worth1_c false 343 l p c b z.lo 32768 w rdF.1 rdF.2 (hK _ w (hJ _ hw)).c (hK _ w (hJ _ hw)).l hT (by omega) hl2 (by omega))) rfl<|LX.l (fun _ hJ => LO.sub (.r rfl) (.r rfl) (wi (by omega) (by omega))) rfl<|LX.l (fun _ hJ => LO.mul (.r rfl) (.r rfl) (wi (by omega) (by omega))) rfl<|LX.l (fun _ hJ => LO.call (xs := [_,_]) (vs := [_,_]) C344 ⟨(.r rfl), (.r rfl), trivial⟩ (fun w _ => nUp_c _ _ (by omega) (by omega) (by omega) w)) rfl<|LX.l (fun _ hJ => LO.bd (ps := [(_,_), (_,_)]) (vs := [(_,_), (_,_)]) (C := [_,_]) B25  ⟨(.r rfl), (.r rfl), trivial⟩ rfl ⟨_, [_], [_,_], rfl, rfl, rfl, rfl, ⟨_, [_], [_,_], rfl, rfl, rfl, rfl, rfl⟩⟩) rfl<|LX.l (fun _ hJ => LO.nc (.r rfl)) rfl<|LX.l (fun _ hJ => LO.fa (r := 0) F484_0 (.r rfl) rfl) rfl<|LX.s<|LX.nil) (HX.s<|HX.s<|HX.s<|HX.s<|HX.s<|HX.s<|HX.s<|HX.s<|HX.s<|HX.s<|HX.s<|HX.s<|HX.s<|HX.s<|HX.s<|HX.s<|HX.s<|HX.s<|HX.s<|HX.s<|HX.s<|HX.s<|HX.s<|HX.s<|HX.s<|HX.s<|HX.s<|HX.s<|HX.s<|HX.s<|HX.s<|HX.s<|HX.s<|HX.s<|HX.h0<|HO.st 1 (vs := [_,_]) (C' := [_,_,_]) (L' := [_,_]) N25 rfl rfl rfl rfl rfl rfl rfl rfl<|⟨fun _ hw => hw.sel [0] rfl, HX.nil ?_⟩)
  refine VE.resN (vs := []) rfl trivial (fun w hw => ?_)
  exact ⟨(), trivial, rfl, hw.sel [1] rfl⟩

set_option maxRecDepth 20000 in
theorem pasDo_c (bP b : Nat) (t q : Span) (l : List Pt) (p : Option Addr) (c : Nat) (w : World) (hh : Has w [pasB bP b t]) (hK : ∀ L w2, St ⟨w, fpL [pasB bP b t]⟩ L w2 → LoI w2 b l p c) (hT : tabOk l 32768) (hl2 : 2 ≤ l.length ∧ l.length ≤ 32) (ht : pasOk t) (hq : inR q 1073741824) (i : Int) :
  Calls Tryz.prog 345 #[.pointer (some ⟨bP, 0, none⟩), .int .i64 i, spanV q] w fun e w' => ∃ _ : Unit, True ∧ e = .returned (spanV (pasA t q)) ∧ St ⟨w, fpL [pasB bP b t]⟩ [pasB bP b (pasT l t (pasA t q))] w' := by
  have hz := pas_bd ht hq
  have ⟨q1, q2, q3⟩ := hq
  have ⟨t1, t2, t3, t4⟩ := ht
  refine enterO (vs := [_,_,_]) (env := [(0,_), (1,_), (2,_)]) hh.enter Tryz.func345 rfl rfl rfl rfl ?_
  refine VC.seq ?_
  refine VC.reg (VO.h rfl<|HO.box (C := #[_,_]) rfl rfl fun b2 => VO.h rfl<|HO.alloc (C := #[_,_]) Z25 rfl fun b3 => VO.nil ?_)
  refine VE.seqN ?_
  refine VC.seq ?_
  refine VC.drawH [[0,1,2], [0,1,2], [0,1,2]] [some 1, some 1, some 1, some 1, some 1, some 1, some 1, some 1, some 1, some 1, some 1, none, none] mixed (by kernel_rfl) rfl (LX.l (fun _ hJ => LO.fa (r := 0) F25_0 (.r rfl) rfl) rfl<|LX.l (fun _ hJ => LO.ld O3 (.r rfl) (fun _ hw => cells_at (hJ _ hw) 1 rfl ⟨_, rfl⟩)) rfl<|LX.l (fun _ hJ => LO.mul (.r rfl) (.r rfl) (wi (by omega) (by omega))) rfl<|LX.l (fun _ hJ => LO.mv (.r rfl)) rfl<|LX.l (fun _ hJ => LO.nc (.r rfl)) rfl<|LX.l (fun _ hJ => LO.fa (r := 0) F484_0 (.r rfl) rfl) rfl<|LX.l (fun _ hJ => LO.fa (r := 1) F25_1 (.r rfl) rfl) rfl<|LX.l (fun _ hJ => LO.ld O3 (.r rfl) (fun _ hw => cells_at (hJ _ hw) 2 rfl ⟨_, rfl⟩)) rfl<|LX.l (fun _ hJ => LO.call (xs := [_,_]) (vs := [_,_]) C343 ⟨(.r rfl), (.r rfl), trivial⟩ (fun w _ => nDown_c _ _ (by omega) (by omega) (by omega) w)) rfl<|LX.l (fun _ hJ => LO.min (.r rfl) (.r rfl)) rfl<|LX.l (fun _ hJ => LO.bd (ps := [(_,_), (_,_)]) (vs := [(_,_), (_,_)]) (C := [_,_]) B25  ⟨(.r rfl), (.r rfl), trivial⟩ rfl ⟨_, [_], [_,_], rfl, rfl, rfl, rfl, ⟨_, [_], [_,_], rfl, rfl, rfl, rfl, rfl⟩⟩) rfl<|LX.s<|LX.s<|LX.nil) (HX.s<|HX.s<|HX.s<|HX.s<|HX.s<|HX.s<|HX.s<|HX.s<|HX.s<|HX.s<|HX.s<|HX.h rfl<|HO.alloc (C := #[_,_]) Z25 rfl fun b6 => ⟨fun _ hw => hw.sel [1,2,3] rfl, HX.h0<|HO.st 0 (vs := [_,_]) (C' := [_,_]) (L' := [_,_,_,_]) N25 rfl rfl rfl rfl rfl rfl rfl rfl<|⟨fun _ hw => hw.sel [1,2,3] rfl, HX.nil ?_⟩⟩)
  refine VE.seqN ?_
  refine VC.seq ?_
  refine VC.seq ?_
  refine VC.reg (VO.l (LO.mv (.r rfl)) rfl<|VO.l (LO.nc (.r rfl)) rfl<|VO.l (LO.fa (r := 0) F484_0 (.r rfl) rfl) rfl<|VO.l (LO.fa (r := 0) F25_0 (.r rfl) rfl) rfl<|VO.l (LO.ld O3 (.r rfl) (fun _ hw => cells_at hw 3 rfl ⟨_, rfl⟩)) rfl<|VO.l (LO.ge (.r rfl) (.r rfl)) rfl<|VO.nil ?_)
  refine VE.seqN ?_
  refine VC.cond rfl (fun h24 => ?_) (fun h24 => ?_)
  ·
    have eA := paA1 (q := q) h24
    refine VC.drawH [[0,1,2,3], [1,2,3]] [some 0, some 0, some 0, some 0, some 0, some 0, some 0, some 0, some 0, some 0, some 0, none] mixed (by kernel_rfl) rfl (LX.l (fun _ hJ => LO.fa (r := 1) F25_1 (.r rfl) rfl) rfl<|LX.l (fun _ hJ => LO.ld O3 (.r rfl) (fun _ hw => cells_at (hJ _ hw) 2 rfl ⟨_, rfl⟩)) rfl<|LX.l (fun _ hJ => LO.mul (.r rfl) (.r rfl) (wi (by omega) (by omega))) rfl<|LX.l (fun _ hJ => LO.mv (.r rfl)) rfl<|LX.l (fun _ hJ => LO.nc (.r rfl)) rfl<|LX.l (fun _ hJ => LO.fa (r := 0) F484_0 (.r rfl) rfl) rfl<|LX.l (fun _ hJ => LO.fa (r := 0) F25_0 (.r rfl) rfl) rfl<|LX.l (fun _ hJ => LO.ld O3 (.r rfl) (fun _ hw => cells_at (hJ _ hw) 3 rfl ⟨_, rfl⟩)) rfl<|LX.l (fun _ hJ => LO.call (xs := [_,_]) (vs := [_,_]) C344 ⟨(.r rfl), (.r rfl), trivial⟩ (fun w _ => nUp_c _ _ (by omega) (by omega) (by omega) w)) rfl<|LX.l (fun _ hJ => LO.min (.r rfl) (.r rfl)) rfl<|LX.l (fun _ hJ => LO.fa (r := 1) F25_1 (.r rfl) rfl) rfl<|LX.s<|LX.nil) (HX.s<|HX.s<|HX.s<|HX.s<|HX.s<|HX.s<|HX.s<|HX.s<|HX.s<|HX.s<|HX.s<|HX.h0<|HO.st 0 (vs := [_]) (C' := [_,_]) (L' := [_,_,_,_]) N3 rfl rfl rfl rfl rfl rfl rfl rfl<|⟨fun _ hw => hw.sel [1,2,3] rfl, HX.nil ?_⟩)
    refine VE.seqN ?_
    refine VC.seq ?_
    refine VC.reg (VO.l (LO.mv (.r rfl)) rfl<|VO.l (LO.lda (vs := [_,_]) A25 (.r rfl) (fun _ hw => cells_at hw 0 rfl ⟨_, rfl⟩) rfl) rfl<|VO.h rfl<|HO.callP (first := []) (cap := []) (xs := [_,_]) (vs := [_,_]) [_] [_,_,_] (selK (L1 := [_] ++ [_,_,_]) [3,0,1,2] rfl rfl) (.r rfl) C346 ⟨(.r rfl), (.r rfl), trivial⟩ (fun w hw hh => through_c bP b t ⟨min 1073741824 (q.lo * 1073741824 / t.hi), min 1073741824 (up (q.hi * 1073741824) t.lo)⟩ l p c w hh (fun L w2 h2 => hK _ w2 (St.fz (selK (L1 := [_] ++ [_,_,_]) [3,0,1,2] rfl rfl w hw) h2)) hT hl2 ht (by rw [← eA]; exact hz)) fun _ _ => VO.nil ?_)
    refine VE.seqN ?_
    refine VC.seq ?_
    refine VC.reg (VO.l (LO.lda (vs := [_,_]) A25 (.r rfl) (fun _ hw => cells_at hw 1 rfl ⟨_, rfl⟩) rfl) rfl<|VO.h0<|HO.st 2 (vs := [_,_]) (C' := [_,_]) (L' := [_,_,_,_]) N25 rfl rfl rfl rfl rfl rfl rfl rfl<|VO.nil ?_)
    refine VE.seqN ?_
    refine VC.ret (VE.res (vs := [_]) rfl ⟨RV.agg (vs := [_,_]) A25 rfl (cells_blk 2 rfl ⟨_, rfl⟩) rfl, trivial⟩ (fun w hw => ?_))
    rw [eA]
    exact ⟨(), trivial, rfl, hw.sel [0] rfl⟩
  ·
    have eA := paA2 (q := q) h24
    refine VC.skip (VE.seqN ?_)
    refine VC.seq ?_
    refine VC.reg (VO.l (LO.mv (.r rfl)) rfl<|VO.l (LO.lda (vs := [_,_]) A25 (.r rfl) (fun _ hw => cells_at hw 0 rfl ⟨_, rfl⟩) rfl) rfl<|VO.h rfl<|HO.callP (first := []) (cap := []) (xs := [_,_]) (vs := [_,_]) [_] [_,_,_] (selK (L1 := [_] ++ [_,_,_]) [3,0,1,2] rfl rfl) (.r rfl) C346 ⟨(.r rfl), (.r rfl), trivial⟩ (fun w hw hh => through_c bP b t ⟨min 1073741824 (q.lo * 1073741824 / t.hi), 1073741824⟩ l p c w hh (fun L w2 h2 => hK _ w2 (St.fz (selK (L1 := [_] ++ [_,_,_]) [3,0,1,2] rfl rfl w hw) h2)) hT hl2 ht (by rw [← eA]; exact hz)) fun _ _ => VO.nil ?_)
    refine VE.seqN ?_
    refine VC.seq ?_
    refine VC.reg (VO.l (LO.lda (vs := [_,_]) A25 (.r rfl) (fun _ hw => cells_at hw 1 rfl ⟨_, rfl⟩) rfl) rfl<|VO.h0<|HO.st 2 (vs := [_,_]) (C' := [_,_]) (L' := [_,_,_,_]) N25 rfl rfl rfl rfl rfl rfl rfl rfl<|VO.nil ?_)
    refine VE.seqN ?_
    refine VC.ret (VE.res (vs := [_]) rfl ⟨RV.agg (vs := [_,_]) A25 rfl (cells_blk 2 rfl ⟨_, rfl⟩) rfl, trivial⟩ (fun w hw => ?_))
    rw [eA]
    exact ⟨(), trivial, rfl, hw.sel [0] rfl⟩

end Go.Proofs.YtffbohecdocajaaGreat

namespace Go.Proofs.YtffbohecdocajaaGreat
open Go.SL Go.Proofs Go.Pulse
set_option linter.unusedVariables false

theorem B582 : Builds Tryz.prog 582 [(0,1), (1,2)] [.bool false, .int .i64 0, .int .i64 0] := Builds.mk fun _ => by kernel_rfl
theorem S583 : IsSlice Tryz.prog 583 582 := Tryz.underlying583
theorem Z582 : ZeroOf Tryz.prog 582 (.agg #[.bool false, .int .i64 0, .int .i64 0]) := by unfold ZeroOf; kernel_rfl
theorem N582 : (Tryz.prog.info? 582).map (·.size) = some 3 := by kernel_rfl
theorem A582 : IsAgg Tryz.prog 582 3 := ⟨⟨_, Tryz.underlying582, rfl⟩, by kernel_rfl⟩
theorem F582_0 : FieldAt Tryz.prog 582 0 0 := ⟨_,_, Tryz.underlying582, rfl, rfl, 0, by kernel_rfl⟩
theorem O4 : IsOne Tryz.prog 4 := ⟨⟨_, Tryz.underlying4, rfl⟩, by kernel_rfl⟩
theorem F582_1 : FieldAt Tryz.prog 582 1 1 := ⟨_,_, Tryz.underlying582, rfl, rfl, 1, by kernel_rfl⟩
theorem F418_0 : FieldAt Tryz.prog 418 0 0 := ⟨_,_, Tryz.underlying418, rfl, rfl, 0, by kernel_rfl⟩
theorem F418_1 : FieldAt Tryz.prog 418 1 1 := ⟨_,_, Tryz.underlying418, rfl, rfl, 0, by kernel_rfl⟩
theorem O45 : IsOne Tryz.prog 45 := ⟨⟨_, Tryz.underlying45, rfl⟩, by kernel_rfl⟩
theorem C341 : IsFn Tryz.prog 341 := ⟨_, Tryz.func341, by decide, rfl⟩
theorem F422_0 : FieldAt Tryz.prog 422 0 0 := ⟨_,_, Tryz.underlying422, rfl, rfl, 7, by kernel_rfl⟩
theorem A35 : IsAgg Tryz.prog 35 8 := ⟨⟨_, Tryz.underlying35, rfl⟩, by kernel_rfl⟩
theorem F422_1 : FieldAt Tryz.prog 422 1 8 := ⟨_,_, Tryz.underlying422, rfl, rfl, 0, by kernel_rfl⟩
theorem C336 : IsFn Tryz.prog 336 := ⟨_, Tryz.func336, by decide, rfl⟩
theorem F426_0 : FieldAt Tryz.prog 426 0 0 := ⟨_,_, Tryz.underlying426, rfl, rfl, 0, by kernel_rfl⟩


/-- The factor so far. -/
def facN (m : Mdl) (b : Span) : Nat → Span
  | 0 => ⟨100000,0⟩
  | 1 => facC ⟨100000,0⟩ (b.lo < m.melt.lo) ⟨1000,1000⟩
  | 2 => facC (facC ⟨100000,0⟩ (b.lo < m.melt.lo) ⟨1000,1000⟩) (max b.lo m.melt.lo ≤ min b.hi m.melt.hi) m.inn
  | _ => facS m b
theorem fc_t {o f : Span} {b : Prop} [Decidable b] (h : b) : facC o b f = ⟨min o.lo f.lo, max o.hi f.hi⟩ := if_pos h
theorem fc_f {o f : Span} {b : Prop} [Decidable b] (h : ¬ b) : facC o b f = o := if_neg h
section
variable {m : Mdl} {b : Span}
theorem fN1 (h : b.lo < m.melt.lo) : facN m b (0 + 1) = ⟨min (facN m b 0).lo 1000, max (facN m b 0).hi 1000⟩ := fc_t h
theorem fN1f (h : ¬ b.lo < m.melt.lo) : facN m b (0 + 1) = facN m b 0 := fc_f h
theorem fN2 (h : max b.lo m.melt.lo ≤ min b.hi m.melt.hi) : facN m b (1 + 1) = ⟨min (facN m b 1).lo m.inn.lo, max (facN m b 1).hi m.inn.hi⟩ := fc_t h
theorem fN2f (h : ¬ max b.lo m.melt.lo ≤ min b.hi m.melt.hi) : facN m b (1 + 1) = facN m b 1 := fc_f h
theorem fN3 (h : m.melt.hi < b.hi) : facN m b (2 + 1) = ⟨min (facN m b 2).lo m.above.lo, max (facN m b 2).hi m.above.hi⟩ := fc_t h
theorem fN3f (h : ¬ m.melt.hi < b.hi) : facN m b (2 + 1) = facN m b 2 := fc_f h
end

set_option maxRecDepth 20000 in
theorem factor_c (x : MdA) (b : Span) (w : World) :
  Calls Tryz.prog 336 #[.agg (mdC x).toArray, spanV b] w fun e w' => e = .returned (spanV (facS x.m b)) ∧ St (bs w) [] w' := by
  refine enter (vs := [_,_]) (env := [(0,_), (1,_)]) Tryz.func336 rfl rfl rfl rfl ?_
  refine VC.seq ?_
  refine VC.reg (VO.h rfl<|HO.box (C := #[_,_,_,_,_,_,_,_]) rfl rfl fun b1 => VO.h rfl<|HO.box (C := #[_,_]) rfl rfl fun b2 => VO.h rfl<|HO.alloc (C := #[_,_]) Z25 rfl fun b3 => VO.nil ?_)
  refine VE.seqN ?_
  refine VC.seq ?_
  refine VC.reg (VO.l (LO.bd (ps := [(_,_), (_,_)]) (vs := [(_,_), (_,_)]) (C := [_,_]) B25  ⟨(.r rfl), (.r rfl), trivial⟩ rfl ⟨_, [_], [_,_], rfl, rfl, rfl, rfl, ⟨_, [_], [_,_], rfl, rfl, rfl, rfl, rfl⟩⟩) rfl<|VO.h rfl<|HO.alloc (C := #[_,_]) Z25 rfl fun b4 => VO.h0<|HO.st 0 (vs := [_,_]) (C' := [_,_]) (L' := [_,_,_,_]) N25 rfl rfl rfl rfl rfl rfl rfl rfl<|VO.nil ?_)
  refine VE.seqN ?_
  refine VC.seq ?_
  refine VC.seq ?_
  refine VC.reg (VO.l (LO.fa (r := 0) F25_0 (.r rfl) rfl) rfl<|VO.l (LO.ld O3 (.r rfl) (fun _ hw => cells_at hw 2 rfl ⟨_, rfl⟩)) rfl<|VO.l (LO.fa (r := 2) F35_2 (.r rfl) rfl) rfl<|VO.l (LO.fa (r := 2) F25_0 (.r rfl) rfl) rfl<|VO.l (LO.ld O3 (.r rfl) (fun _ hw => cells_at hw 3 rfl ⟨_, rfl⟩)) rfl<|VO.l (LO.lt (.r rfl) (.r rfl)) rfl<|VO.l (LO.bd (ps := [(_,_), (_,_)]) (vs := [(_,_), (_,_)]) (C := [_,_]) B25  ⟨(.r rfl), (.r rfl), trivial⟩ rfl ⟨_, [_], [_,_], rfl, rfl, rfl, rfl, ⟨_, [_], [_,_], rfl, rfl, rfl, rfl, rfl⟩⟩) rfl<|VO.l (LO.bd (ps := [(_,_), (_,_)]) (vs := [(_,_), (_,_)]) (C := [_,_,_]) B582  ⟨(.r rfl), (.r rfl), trivial⟩ rfl ⟨_, [_], [_,_,_], rfl, rfl, rfl, rfl, ⟨_, [_,_], [_,_,_], rfl, rfl, rfl, rfl, rfl⟩⟩) rfl<|VO.l (LO.fa (r := 0) F25_0 (.r rfl) rfl) rfl<|VO.l (LO.ld O3 (.r rfl) (fun _ hw => cells_at hw 2 rfl ⟨_, rfl⟩)) rfl<|VO.l (LO.fa (r := 2) F35_2 (.r rfl) rfl) rfl<|VO.l (LO.fa (r := 2) F25_0 (.r rfl) rfl) rfl<|VO.l (LO.ld O3 (.r rfl) (fun _ hw => cells_at hw 3 rfl ⟨_, rfl⟩)) rfl<|VO.l (LO.max (.r rfl) (.r rfl)) rfl<|VO.l (LO.fa (r := 1) F25_1 (.r rfl) rfl) rfl<|VO.l (LO.ld O3 (.r rfl) (fun _ hw => cells_at hw 2 rfl ⟨_, rfl⟩)) rfl<|VO.l (LO.fa (r := 2) F35_2 (.r rfl) rfl) rfl<|VO.l (LO.fa (r := 3) F25_1 (.r rfl) rfl) rfl<|VO.l (LO.ld O3 (.r rfl) (fun _ hw => cells_at hw 3 rfl ⟨_, rfl⟩)) rfl<|VO.l (LO.min (.r rfl) (.r rfl)) rfl<|VO.l (LO.le (.r rfl) (.r rfl)) rfl<|VO.l (LO.fa (r := 4) F35_3 (.r rfl) rfl) rfl<|VO.l (LO.lda (vs := [_,_]) A25 (.r rfl) (fun _ hw => cells_at hw 3 rfl ⟨_, rfl⟩) rfl) rfl<|VO.l (LO.bd (ps := [(_,_), (_,_)]) (vs := [(_,_), (_,_)]) (C := [_,_,_]) B582  ⟨(.r rfl), (.r rfl), trivial⟩ rfl ⟨_, [_], [_,_,_], rfl, rfl, rfl, rfl, ⟨_, [_,_], [_,_,_], rfl, rfl, rfl, rfl, rfl⟩⟩) rfl<|VO.l (LO.fa (r := 1) F25_1 (.r rfl) rfl) rfl<|VO.l (LO.ld O3 (.r rfl) (fun _ hw => cells_at hw 2 rfl ⟨_, rfl⟩)) rfl<|VO.l (LO.fa (r := 2) F35_2 (.r rfl) rfl) rfl<|VO.l (LO.fa (r := 3) F25_1 (.r rfl) rfl) rfl<|VO.l (LO.ld O3 (.r rfl) (fun _ hw => cells_at hw 3 rfl ⟨_, rfl⟩)) rfl<|VO.l (LO.gt (.r rfl) (.r rfl)) rfl<|VO.l (LO.fa (r := 6) F35_4 (.r rfl) rfl) rfl<|VO.l (LO.lda (vs := [_,_]) A25 (.r rfl) (fun _ hw => cells_at hw 3 rfl ⟨_, rfl⟩) rfl) rfl<|VO.l (LO.bd (ps := [(_,_), (_,_)]) (vs := [(_,_), (_,_)]) (C := [_,_,_]) B582  ⟨(.r rfl), (.r rfl), trivial⟩ rfl ⟨_, [_], [_,_,_], rfl, rfl, rfl, rfl, ⟨_, [_,_], [_,_,_], rfl, rfl, rfl, rfl, rfl⟩⟩) rfl<|VO.h rfl<|HO.bs (ps := [(_,_), (_,_), (_,_)]) (vs := [(_,_), (_,_), (_,_)]) (Z := [_,_,_,_,_,_,_,_,_]) (C := [_,_,_,_,_,_,_,_,_]) S583 Z582 N582 ⟨(.r rfl), (.r rfl), (.r rfl), trivial⟩ rfl rfl rfl rfl ⟨_, [_,_,_], [_,_,_,_,_,_,_,_,_], rfl, rfl, rfl, rfl, ⟨_, [_,_,_], [_,_,_,_,_,_,_,_,_], rfl, rfl, rfl, rfl, ⟨_, [_,_,_], [_,_,_,_,_,_,_,_,_], rfl, rfl, rfl, rfl, rfl⟩⟩⟩ fun b6 => VO.h rfl<|HO.lo (LO.len S583 (.r rfl) rfl)<|VO.l (LO.mv (.r rfl)) rfl<|VO.nil ?_)
  refine VE.seqN ?_
  refine VC.block ?_
  refine VC.perm [1,0,2,3,4] rfl ?_
  refine VC.loopK (α := Nat) 1 (fun gx => [(44, .int .i64 (gx : Nat))]) [(4,_), (5,_), (42,_), (43,_)] (fun gx => [blk b4 (.cells #[.int .i64 (facN x.m b gx).lo, .int .i64 (facN x.m b gx).hi] 25)]) (fun gx => gx ≤ 3) (fun gx => 3 - gx) 0 (by decide) (.cons rfl (.cons rfl (.cons rfl (.cons rfl (.cons rfl .nil))))) (fun _ h => h) ?_
  rintro i hi
  refine VC.seq ?_
  refine VC.reg (VO.l (LO.lt (.r rfl) (.r rfl)) rfl<|VO.nil ?_)
  refine VE.seqN ?_
  refine VC.seq ?_
  refine VC.cond rfl (fun h1 => ?_) (fun h1 => ?_)
  ·
    refine VC.skip (VE.seqN ?_)
    refine VC.seq ?_
    refine VC.block ?_
    refine VC.seq ?_
    obtain rfl | rfl | rfl : i = 0 ∨ i = 1 ∨ i = 2 := by omega
    ·
      refine VC.reg (VO.l (LO.ix (j := 0) S583 N582 (.r rfl) (.r rfl) (by decide)) rfl<|VO.l (LO.lda (vs := [_,_,_]) A582 (.r rfl) (fun _ hw => cells_at hw 1 rfl ⟨_, rfl⟩) rfl) rfl<|VO.h rfl<|HO.alloc (C := #[_,_,_]) Z582 rfl fun b7 => VO.h0<|HO.st 0 (vs := [_,_,_]) (C' := [_,_,_]) (L' := [_,_,_,_,_,_]) N582 rfl rfl rfl rfl rfl rfl rfl rfl<|VO.nil ?_)
      refine VE.seqN ?_
      refine VC.seq ?_
      refine VC.reg (VO.l (LO.fa (r := 0) F582_0 (.r rfl) rfl) rfl<|VO.l (LO.ld O4 (.r rfl) (fun _ hw => cells_at hw 0 rfl ⟨_, rfl⟩)) rfl<|VO.nil ?_)
      refine VE.seqN ?_
      refine VC.cond rfl (fun h49 => ?_) (fun h49 => ?_)
      ·
        refine VC.reg (VO.l (LO.fa (r := 0) F25_0 (.r rfl) rfl) rfl<|VO.l (LO.ld O3 (.r rfl) (fun _ hw => cells_at hw 1 rfl ⟨_, rfl⟩)) rfl<|VO.l (LO.fa (r := 1) F582_1 (.r rfl) rfl) rfl<|VO.l (LO.fa (r := 1) F25_0 (.r rfl) rfl) rfl<|VO.l (LO.ld O3 (.r rfl) (fun _ hw => cells_at hw 0 rfl ⟨_, rfl⟩)) rfl<|VO.l (LO.min (.r rfl) (.r rfl)) rfl<|VO.l (LO.fa (r := 1) F25_1 (.r rfl) rfl) rfl<|VO.l (LO.ld O3 (.r rfl) (fun _ hw => cells_at hw 1 rfl ⟨_, rfl⟩)) rfl<|VO.l (LO.fa (r := 1) F582_1 (.r rfl) rfl) rfl<|VO.l (LO.fa (r := 2) F25_1 (.r rfl) rfl) rfl<|VO.l (LO.ld O3 (.r rfl) (fun _ hw => cells_at hw 0 rfl ⟨_, rfl⟩)) rfl<|VO.l (LO.max (.r rfl) (.r rfl)) rfl<|VO.l (LO.bd (ps := [(_,_), (_,_)]) (vs := [(_,_), (_,_)]) (C := [_,_]) B25  ⟨(.r rfl), (.r rfl), trivial⟩ rfl ⟨_, [_], [_,_], rfl, rfl, rfl, rfl, ⟨_, [_], [_,_], rfl, rfl, rfl, rfl, rfl⟩⟩) rfl<|VO.h0<|HO.st 1 (vs := [_,_]) (C' := [_,_]) (L' := [_,_,_,_,_,_]) N25 rfl rfl rfl rfl rfl rfl rfl rfl<|VO.nil ?_)
        refine VE.inN (VE.seqN ?_)
        refine VC.reg (VO.l (LO.add (.r rfl) (.r rfl) (wi (by omega) (by omega))) rfl<|VO.l (LO.mv (.r rfl)) rfl<|VO.nil ?_)
        refine VE.thenN fun a w ha hw => ⟨0 + 1, (by omega), (by omega), ha.sub (.cons rfl (.cons rfl (.cons rfl (.cons rfl (.cons rfl .nil))))), (by first | (rw [fN1 h49]; exact hw.sel [1,2,3,4,5] rfl) | (rw [fN1f h49]; exact hw.sel [1,2,3,4,5] rfl) | (rw [fN2 h49]; exact hw.sel [1,2,3,4,5] rfl) | (rw [fN2f h49]; exact hw.sel [1,2,3,4,5] rfl) | (rw [fN3 h49]; exact hw.sel [1,2,3,4,5] rfl) | (rw [fN3f h49]; exact hw.sel [1,2,3,4,5] rfl))⟩
      ·
        refine VC.skip (VE.inN (VE.seqN ?_))
        refine VC.reg (VO.l (LO.add (.r rfl) (.r rfl) (wi (by omega) (by omega))) rfl<|VO.l (LO.mv (.r rfl)) rfl<|VO.nil ?_)
        refine VE.thenN fun a w ha hw => ⟨0 + 1, (by omega), (by omega), ha.sub (.cons rfl (.cons rfl (.cons rfl (.cons rfl (.cons rfl .nil))))), (by first | (rw [fN1 h49]; exact hw.sel [1,2,3,4,5] rfl) | (rw [fN1f h49]; exact hw.sel [1,2,3,4,5] rfl) | (rw [fN2 h49]; exact hw.sel [1,2,3,4,5] rfl) | (rw [fN2f h49]; exact hw.sel [1,2,3,4,5] rfl) | (rw [fN3 h49]; exact hw.sel [1,2,3,4,5] rfl) | (rw [fN3f h49]; exact hw.sel [1,2,3,4,5] rfl))⟩
    ·
      refine VC.reg (VO.l (LO.ix (j := 1) S583 N582 (.r rfl) (.r rfl) (by decide)) rfl<|VO.l (LO.lda (vs := [_,_,_]) A582 (.r rfl) (fun _ hw => cells_at hw 1 rfl ⟨_, rfl⟩) rfl) rfl<|VO.h rfl<|HO.alloc (C := #[_,_,_]) Z582 rfl fun b10 => VO.h0<|HO.st 0 (vs := [_,_,_]) (C' := [_,_,_]) (L' := [_,_,_,_,_,_]) N582 rfl rfl rfl rfl rfl rfl rfl rfl<|VO.nil ?_)
      refine VE.seqN ?_
      refine VC.seq ?_
      refine VC.reg (VO.l (LO.fa (r := 0) F582_0 (.r rfl) rfl) rfl<|VO.l (LO.ld O4 (.r rfl) (fun _ hw => cells_at hw 0 rfl ⟨_, rfl⟩)) rfl<|VO.nil ?_)
      refine VE.seqN ?_
      refine VC.cond rfl (fun h49 => ?_) (fun h49 => ?_)
      ·
        refine VC.reg (VO.l (LO.fa (r := 0) F25_0 (.r rfl) rfl) rfl<|VO.l (LO.ld O3 (.r rfl) (fun _ hw => cells_at hw 1 rfl ⟨_, rfl⟩)) rfl<|VO.l (LO.fa (r := 1) F582_1 (.r rfl) rfl) rfl<|VO.l (LO.fa (r := 1) F25_0 (.r rfl) rfl) rfl<|VO.l (LO.ld O3 (.r rfl) (fun _ hw => cells_at hw 0 rfl ⟨_, rfl⟩)) rfl<|VO.l (LO.min (.r rfl) (.r rfl)) rfl<|VO.l (LO.fa (r := 1) F25_1 (.r rfl) rfl) rfl<|VO.l (LO.ld O3 (.r rfl) (fun _ hw => cells_at hw 1 rfl ⟨_, rfl⟩)) rfl<|VO.l (LO.fa (r := 1) F582_1 (.r rfl) rfl) rfl<|VO.l (LO.fa (r := 2) F25_1 (.r rfl) rfl) rfl<|VO.l (LO.ld O3 (.r rfl) (fun _ hw => cells_at hw 0 rfl ⟨_, rfl⟩)) rfl<|VO.l (LO.max (.r rfl) (.r rfl)) rfl<|VO.l (LO.bd (ps := [(_,_), (_,_)]) (vs := [(_,_), (_,_)]) (C := [_,_]) B25  ⟨(.r rfl), (.r rfl), trivial⟩ rfl ⟨_, [_], [_,_], rfl, rfl, rfl, rfl, ⟨_, [_], [_,_], rfl, rfl, rfl, rfl, rfl⟩⟩) rfl<|VO.h0<|HO.st 1 (vs := [_,_]) (C' := [_,_]) (L' := [_,_,_,_,_,_]) N25 rfl rfl rfl rfl rfl rfl rfl rfl<|VO.nil ?_)
        refine VE.inN (VE.seqN ?_)
        refine VC.reg (VO.l (LO.add (.r rfl) (.r rfl) (wi (by omega) (by omega))) rfl<|VO.l (LO.mv (.r rfl)) rfl<|VO.nil ?_)
        refine VE.thenN fun a w ha hw => ⟨1 + 1, (by omega), (by omega), ha.sub (.cons rfl (.cons rfl (.cons rfl (.cons rfl (.cons rfl .nil))))), (by first | (rw [fN1 h49]; exact hw.sel [1,2,3,4,5] rfl) | (rw [fN1f h49]; exact hw.sel [1,2,3,4,5] rfl) | (rw [fN2 h49]; exact hw.sel [1,2,3,4,5] rfl) | (rw [fN2f h49]; exact hw.sel [1,2,3,4,5] rfl) | (rw [fN3 h49]; exact hw.sel [1,2,3,4,5] rfl) | (rw [fN3f h49]; exact hw.sel [1,2,3,4,5] rfl))⟩
      ·
        refine VC.skip (VE.inN (VE.seqN ?_))
        refine VC.reg (VO.l (LO.add (.r rfl) (.r rfl) (wi (by omega) (by omega))) rfl<|VO.l (LO.mv (.r rfl)) rfl<|VO.nil ?_)
        refine VE.thenN fun a w ha hw => ⟨1 + 1, (by omega), (by omega), ha.sub (.cons rfl (.cons rfl (.cons rfl (.cons rfl (.cons rfl .nil))))), (by first | (rw [fN1 h49]; exact hw.sel [1,2,3,4,5] rfl) | (rw [fN1f h49]; exact hw.sel [1,2,3,4,5] rfl) | (rw [fN2 h49]; exact hw.sel [1,2,3,4,5] rfl) | (rw [fN2f h49]; exact hw.sel [1,2,3,4,5] rfl) | (rw [fN3 h49]; exact hw.sel [1,2,3,4,5] rfl) | (rw [fN3f h49]; exact hw.sel [1,2,3,4,5] rfl))⟩
    ·
      refine VC.reg (VO.l (LO.ix (j := 2) S583 N582 (.r rfl) (.r rfl) (by decide)) rfl<|VO.l (LO.lda (vs := [_,_,_]) A582 (.r rfl) (fun _ hw => cells_at hw 1 rfl ⟨_, rfl⟩) rfl) rfl<|VO.h rfl<|HO.alloc (C := #[_,_,_]) Z582 rfl fun b13 => VO.h0<|HO.st 0 (vs := [_,_,_]) (C' := [_,_,_]) (L' := [_,_,_,_,_,_]) N582 rfl rfl rfl rfl rfl rfl rfl rfl<|VO.nil ?_)
      refine VE.seqN ?_
      refine VC.seq ?_
      refine VC.reg (VO.l (LO.fa (r := 0) F582_0 (.r rfl) rfl) rfl<|VO.l (LO.ld O4 (.r rfl) (fun _ hw => cells_at hw 0 rfl ⟨_, rfl⟩)) rfl<|VO.nil ?_)
      refine VE.seqN ?_
      refine VC.cond rfl (fun h49 => ?_) (fun h49 => ?_)
      ·
        refine VC.reg (VO.l (LO.fa (r := 0) F25_0 (.r rfl) rfl) rfl<|VO.l (LO.ld O3 (.r rfl) (fun _ hw => cells_at hw 1 rfl ⟨_, rfl⟩)) rfl<|VO.l (LO.fa (r := 1) F582_1 (.r rfl) rfl) rfl<|VO.l (LO.fa (r := 1) F25_0 (.r rfl) rfl) rfl<|VO.l (LO.ld O3 (.r rfl) (fun _ hw => cells_at hw 0 rfl ⟨_, rfl⟩)) rfl<|VO.l (LO.min (.r rfl) (.r rfl)) rfl<|VO.l (LO.fa (r := 1) F25_1 (.r rfl) rfl) rfl<|VO.l (LO.ld O3 (.r rfl) (fun _ hw => cells_at hw 1 rfl ⟨_, rfl⟩)) rfl<|VO.l (LO.fa (r := 1) F582_1 (.r rfl) rfl) rfl<|VO.l (LO.fa (r := 2) F25_1 (.r rfl) rfl) rfl<|VO.l (LO.ld O3 (.r rfl) (fun _ hw => cells_at hw 0 rfl ⟨_, rfl⟩)) rfl<|VO.l (LO.max (.r rfl) (.r rfl)) rfl<|VO.l (LO.bd (ps := [(_,_), (_,_)]) (vs := [(_,_), (_,_)]) (C := [_,_]) B25  ⟨(.r rfl), (.r rfl), trivial⟩ rfl ⟨_, [_], [_,_], rfl, rfl, rfl, rfl, ⟨_, [_], [_,_], rfl, rfl, rfl, rfl, rfl⟩⟩) rfl<|VO.h0<|HO.st 1 (vs := [_,_]) (C' := [_,_]) (L' := [_,_,_,_,_,_]) N25 rfl rfl rfl rfl rfl rfl rfl rfl<|VO.nil ?_)
        refine VE.inN (VE.seqN ?_)
        refine VC.reg (VO.l (LO.add (.r rfl) (.r rfl) (wi (by omega) (by omega))) rfl<|VO.l (LO.mv (.r rfl)) rfl<|VO.nil ?_)
        refine VE.thenN fun a w ha hw => ⟨2 + 1, (by omega), (by omega), ha.sub (.cons rfl (.cons rfl (.cons rfl (.cons rfl (.cons rfl .nil))))), (by first | (rw [fN1 h49]; exact hw.sel [1,2,3,4,5] rfl) | (rw [fN1f h49]; exact hw.sel [1,2,3,4,5] rfl) | (rw [fN2 h49]; exact hw.sel [1,2,3,4,5] rfl) | (rw [fN2f h49]; exact hw.sel [1,2,3,4,5] rfl) | (rw [fN3 h49]; exact hw.sel [1,2,3,4,5] rfl) | (rw [fN3f h49]; exact hw.sel [1,2,3,4,5] rfl))⟩
      ·
        refine VC.skip (VE.inN (VE.seqN ?_))
        refine VC.reg (VO.l (LO.add (.r rfl) (.r rfl) (wi (by omega) (by omega))) rfl<|VO.l (LO.mv (.r rfl)) rfl<|VO.nil ?_)
        refine VE.thenN fun a w ha hw => ⟨2 + 1, (by omega), (by omega), ha.sub (.cons rfl (.cons rfl (.cons rfl (.cons rfl (.cons rfl .nil))))), (by first | (rw [fN1 h49]; exact hw.sel [1,2,3,4,5] rfl) | (rw [fN1f h49]; exact hw.sel [1,2,3,4,5] rfl) | (rw [fN2 h49]; exact hw.sel [1,2,3,4,5] rfl) | (rw [fN2f h49]; exact hw.sel [1,2,3,4,5] rfl) | (rw [fN3 h49]; exact hw.sel [1,2,3,4,5] rfl) | (rw [fN3f h49]; exact hw.sel [1,2,3,4,5] rfl))⟩
  ·
    refine VC.exit (VE.thenX (VE.thenX (VE.inX (VE.seqN ?_))))
    refine VC.seq ?_
    have e3 : i = 3 := by omega
    subst e3
    refine VC.reg (VO.l (LO.lda (vs := [_,_]) A25 (.r rfl) (fun _ hw => cells_at hw 0 rfl ⟨_, rfl⟩) rfl) rfl<|VO.h0<|HO.st 2 (vs := [_,_]) (C' := [_,_]) (L' := [_,_,_,_,_]) N25 rfl rfl rfl rfl rfl rfl rfl rfl<|VO.nil ?_)
    refine VE.seqN ?_
    refine VC.ret (VE.res (vs := [_]) rfl ⟨RV.agg (vs := [_,_]) A25 rfl (cells_blk 2 rfl ⟨_, rfl⟩) rfl, trivial⟩ (fun w hw => ?_))
    exact ⟨rfl, hw.nil⟩

set_option maxRecDepth 20000 in
theorem thrDo_c (n : Int) (bl : List Span) (p : Option Addr) (c j : Nat) (q : Span) (w : World) (hbl : Spans w p bl) (hj : j < bl.length) (hn : 1 ≤ n ∧ n ≤ 17) (hq : inR q 1073741824) (hb : inR (bl.getD j zsp) n) :
  Calls Tryz.prog 340 #[.agg #[.int .i64 n, .slice p bl.length c], .int .i64 (j : Nat), spanV q] w fun e w' => e = .returned (spanV (fillS n (bl.getD j zsp) q)) ∧ St (bs w) [] w' := by
  refine enter (vs := [_,_,_]) (env := [(0,_), (1,_), (2,_)]) Tryz.func340 rfl rfl rfl rfl ?_
  refine VC.seq ?_
  refine VC.reg (VO.h rfl<|HO.box (C := #[_,_]) rfl rfl fun b1 => VO.h rfl<|HO.box (C := #[_,_]) rfl rfl fun b2 => VO.h rfl<|HO.alloc (C := #[_,_]) Z25 rfl fun b3 => VO.nil ?_)
  refine VE.seqN ?_
  refine VC.seq ?_
  refine VC.drawH [[0,1,2], [1,2]] [some 0, some 0, some 0, some 0, some 0, some 0, some 0, some 0, some 0, none] mixed (by kernel_rfl) rfl (LX.l (fun _ hJ => LO.lda (vs := [_,_]) A25 (.r rfl) (fun _ hw => cells_at (hJ _ hw) 1 rfl ⟨_, rfl⟩) rfl) rfl<|LX.l (fun _ hJ => LO.fa (r := 0) F418_0 (.r rfl) rfl) rfl<|LX.l (fun _ hJ => LO.ld O3 (.r rfl) (fun _ hw => cells_at (hJ _ hw) 2 rfl ⟨_, rfl⟩)) rfl<|LX.l (fun _ hJ => LO.fa (r := 1) F418_1 (.r rfl) rfl) rfl<|LX.l (fun _ hJ => LO.ld O45 (.r rfl) (fun _ hw => cells_at (hJ _ hw) 2 rfl ⟨_, rfl⟩)) rfl<|LX.l (fun _ hJ => LO.mv (.r rfl)) rfl<|LX.l (fun _ hJ => LO.ixs S45 N25 hbl.sm (.r rfl) (.r rfl) rfl (by omega)) rfl<|LX.l (fun _ hJ => LO.lda (vs := [_,_]) A25 (.r rfl) (fun w hw => cells_part (off := 0) ((hbl.at zsp (j := j) (by omega)) w (hJ _ hw)) ⟨_, rfl⟩) rfl) rfl<|LX.l (fun _ hJ => LO.call (xs := [_,_,_]) (vs := [_,_,_]) C341 ⟨(.r rfl), (.r rfl), (.r rfl), trivial⟩ (fun w _ => fill_c q (bl.getD j zsp) n w hn hq hb)) rfl<|LX.s<|LX.nil) (HX.s<|HX.s<|HX.s<|HX.s<|HX.s<|HX.s<|HX.s<|HX.s<|HX.s<|HX.h0<|HO.st 0 (vs := [_,_]) (C' := [_,_]) (L' := [_,_,_]) N25 rfl rfl rfl rfl rfl rfl rfl rfl<|⟨fun _ hw => hw.sel [1,2] rfl, HX.nil ?_⟩)
  refine VE.seqN ?_
  refine VC.ret (VE.res (vs := [_]) rfl ⟨RV.agg (vs := [_,_]) A25 rfl (cells_blk 0 rfl ⟨_, rfl⟩) rfl, trivial⟩ (fun w hw => ?_))
  exact ⟨rfl, hw.nil⟩

set_option maxRecDepth 20000 in
theorem layDo_c (x : MdA) (bd : List Span) (p : Option Addr) (c j : Nat) (q : Span) (w : World) (hbd : Spans w p bd) (hj : j < bd.length) (hm : MdlOk x.m) (hq : inR q 1073741824) (hb : (bd.getD j zsp).lo ≤ (bd.getD j zsp).hi) :
  Calls Tryz.prog 347 #[.agg (mdC x ++ [Value.slice p bd.length c]).toArray, .int .i64 (j : Nat), spanV q] w fun e w' => e = .returned (spanV (layS (facS x.m (bd.getD j zsp)) q)) ∧ St (bs w) [] w' := by
  have hf := fac_bd hm hb
  obtain ⟨f1, f2, f3⟩ := hf
  obtain ⟨q1, q2, q3⟩ := hq
  have m1 := mul_bd (a := q.lo) (b := (facS x.m (bd.getD j zsp)).lo) (A := 1073741824) (B := 100000) (by omega) (by omega) (by omega) (by omega)
  have m2 := mul_bd (a := q.hi) (b := (facS x.m (bd.getD j zsp)).hi) (A := 1073741824) (B := 100000) (by omega) (by omega) (by omega) (by omega)
  refine enter (vs := [_,_,_]) (env := [(0,_), (1,_), (2,_)]) Tryz.func347 rfl rfl rfl rfl ?_
  refine VC.seq ?_
  refine VC.reg (VO.h rfl<|HO.box (C := #[_,_,_,_,_,_,_,_,_]) rfl rfl fun b1 => VO.h rfl<|HO.box (C := #[_,_]) rfl rfl fun b2 => VO.h rfl<|HO.alloc (C := #[_,_]) Z25 rfl fun b3 => VO.nil ?_)
  refine VE.seqN ?_
  refine VC.seq ?_
  refine VC.drawH [[0,1,2], [0,1,2], [0,1,2]] [some 1, some 1, some 1, some 1, some 1, some 1, some 1, some 1, none, none] mixed (by kernel_rfl) rfl (LX.l (fun _ hJ => LO.fa (r := 0) F422_0 (.r rfl) rfl) rfl<|LX.l (fun _ hJ => LO.lda (vs := [_,_,_,_,_,_,_,_]) A35 (.r rfl) (fun _ hw => cells_at (hJ _ hw) 2 rfl ⟨_, rfl⟩) rfl) rfl<|LX.l (fun _ hJ => LO.fa (r := 8) F422_1 (.r rfl) rfl) rfl<|LX.l (fun _ hJ => LO.ld O45 (.r rfl) (fun _ hw => cells_at (hJ _ hw) 2 rfl ⟨_, rfl⟩)) rfl<|LX.l (fun _ hJ => LO.mv (.r rfl)) rfl<|LX.l (fun _ hJ => LO.ixs S45 N25 hbd.sm (.r rfl) (.r rfl) rfl (by omega)) rfl<|LX.l (fun _ hJ => LO.lda (vs := [_,_]) A25 (.r rfl) (fun w hw => cells_part (off := 0) ((hbd.at zsp (j := j) (by omega)) w (hJ _ hw)) ⟨_, rfl⟩) rfl) rfl<|LX.l (fun _ hJ => LO.call (xs := [_,_]) (vs := [_,_]) C336 ⟨(.r rfl), (.r rfl), trivial⟩ (fun w _ => factor_c x (bd.getD j zsp) w)) rfl<|LX.s<|LX.s<|LX.nil) (HX.s<|HX.s<|HX.s<|HX.s<|HX.s<|HX.s<|HX.s<|HX.s<|HX.h rfl<|HO.alloc (C := #[_,_]) Z25 rfl fun b6 => ⟨fun _ hw => hw.sel [1,2,3] rfl, HX.h0<|HO.st 0 (vs := [_,_]) (C' := [_,_]) (L' := [_,_,_,_]) N25 rfl rfl rfl rfl rfl rfl rfl rfl<|⟨fun _ hw => hw.sel [1,2,3] rfl, HX.nil ?_⟩⟩)
  refine VE.seqN ?_
  refine VC.seq ?_
  refine VC.drawH [[0,1,2,3], [0,2,3]] [some 0, some 0, some 0, some 0, some 0, some 0, some 0, some 0, some 0, some 0, some 0, some 0, some 0, none] mixed (by kernel_rfl) rfl (LX.l (fun _ hJ => LO.fa (r := 0) F25_0 (.r rfl) rfl) rfl<|LX.l (fun _ hJ => LO.ld O3 (.r rfl) (fun _ hw => cells_at (hJ _ hw) 2 rfl ⟨_, rfl⟩)) rfl<|LX.l (fun _ hJ => LO.fa (r := 0) F25_0 (.r rfl) rfl) rfl<|LX.l (fun _ hJ => LO.ld O3 (.r rfl) (fun _ hw => cells_at (hJ _ hw) 0 rfl ⟨_, rfl⟩)) rfl<|LX.l (fun _ hJ => LO.mul (.r rfl) (.r rfl) (wi (by omega) (by omega))) rfl<|LX.l (fun _ hJ => LO.call (xs := [_,_]) (vs := [_,_]) C343 ⟨(.r rfl), (.r rfl), trivial⟩ (fun w _ => nDown_c _ _ (by omega) (by omega) (by omega) w)) rfl<|LX.l (fun _ hJ => LO.fa (r := 1) F25_1 (.r rfl) rfl) rfl<|LX.l (fun _ hJ => LO.ld O3 (.r rfl) (fun _ hw => cells_at (hJ _ hw) 2 rfl ⟨_, rfl⟩)) rfl<|LX.l (fun _ hJ => LO.fa (r := 1) F25_1 (.r rfl) rfl) rfl<|LX.l (fun _ hJ => LO.ld O3 (.r rfl) (fun _ hw => cells_at (hJ _ hw) 0 rfl ⟨_, rfl⟩)) rfl<|LX.l (fun _ hJ => LO.mul (.r rfl) (.r rfl) (wi (by omega) (by omega))) rfl<|LX.l (fun _ hJ => LO.call (xs := [_,_]) (vs := [_,_]) C344 ⟨(.r rfl), (.r rfl), trivial⟩ (fun w _ => nUp_c _ _ (by omega) (by omega) (by omega) w)) rfl<|LX.l (fun _ hJ => LO.call (xs := [_,_]) (vs := [_,_]) C342 ⟨(.r rfl), (.r rfl), trivial⟩ (fun w _ => capped_c _ _ w)) rfl<|LX.s<|LX.nil) (HX.s<|HX.s<|HX.s<|HX.s<|HX.s<|HX.s<|HX.s<|HX.s<|HX.s<|HX.s<|HX.s<|HX.s<|HX.s<|HX.h0<|HO.st 1 (vs := [_,_]) (C' := [_,_]) (L' := [_,_,_,_]) N25 rfl rfl rfl rfl rfl rfl rfl rfl<|⟨fun _ hw => hw.sel [0,2,3] rfl, HX.nil ?_⟩)
  refine VE.seqN ?_
  refine VC.ret (VE.res (vs := [_]) rfl ⟨RV.agg (vs := [_,_]) A25 rfl (cells_blk 1 rfl ⟨_, rfl⟩) rfl, trivial⟩ (fun w hw => ?_))
  exact ⟨rfl, hw.nil⟩

set_option maxRecDepth 20000 in
theorem ratDo_c (l : List Pt) (p : Option Addr) (c b : Nat) (i : Int) (q : Span) (w : World) (hl : LoI w b l p c) (hT : tabOk l 1000000) (hl2 : 2 ≤ l.length ∧ l.length ≤ 32) (hq : inR q 1073741824) :
  Calls Tryz.prog 348 #[.agg #[.func (.func 235) #[] #[.pointer (some ⟨b, 0, none⟩)]], .int .i64 i, spanV q] w fun e w' => e = .returned (spanV (ratS l q)) ∧ St (bs w) [] w' := by
  obtain ⟨q1, q2, q3⟩ := hq
  refine enter (vs := [_,_,_]) (env := [(0,_), (1,_), (2,_)]) Tryz.func348 rfl rfl rfl rfl ?_
  refine VC.seq ?_
  refine VC.reg (VO.h rfl<|HO.box (C := #[_]) rfl rfl fun b1 => VO.h rfl<|HO.box (C := #[_,_]) rfl rfl fun b2 => VO.h rfl<|HO.alloc (C := #[_,_]) Z25 rfl fun b3 => VO.nil ?_)
  refine VE.seqN ?_
  refine VC.seq ?_
  refine VC.drawH [[0,1,2], [1,2]] [some 0, some 0, some 0, some 0, some 0, some 0, some 0, some 0, some 0, some 0, some 0, none] mixed (by kernel_rfl) rfl (LX.l (fun _ hJ => LO.fa (r := 0) F426_0 (.r rfl) rfl) rfl<|LX.l (fun _ hJ => LO.ld O423 (.r rfl) (fun _ hw => cells_at (hJ _ hw) 2 rfl ⟨_, rfl⟩)) rfl<|LX.l (fun _ hJ => LO.fa (r := 0) F25_0 (.r rfl) rfl) rfl<|LX.l (fun _ hJ => LO.ld O3 (.r rfl) (fun _ hw => cells_at (hJ _ hw) 1 rfl ⟨_, rfl⟩)) rfl<|LX.l (fun _ hJ => LO.callv (first := []) (cap := [_]) (xs := [_,_]) (vs := [_,_]) (.r rfl) C235 ⟨(.r rfl), (.r rfl), trivial⟩ (fun w hw => worth1_c false 343 l p c b q.lo 1000000 w rdF.1 rdF.2 (cells_keep hl.c w (hJ _ hw)) (hl.l.keep w (hJ _ hw)) hT (by omega) hl2 (by omega))) rfl<|LX.l (fun _ hJ => LO.fa (r := 0) F426_0 (.r rfl) rfl) rfl<|LX.l (fun _ hJ => LO.ld O423 (.r rfl) (fun _ hw => cells_at (hJ _ hw) 2 rfl ⟨_, rfl⟩)) rfl<|LX.l (fun _ hJ => LO.fa (r := 1) F25_1 (.r rfl) rfl) rfl<|LX.l (fun _ hJ => LO.ld O3 (.r rfl) (fun _ hw => cells_at (hJ _ hw) 1 rfl ⟨_, rfl⟩)) rfl<|LX.l (fun _ hJ => LO.callv (first := []) (cap := [_]) (xs := [_,_]) (vs := [_,_]) (.r rfl) C235 ⟨(.r rfl), (.r rfl), trivial⟩ (fun w hw => worth1_c true 344 l p c b q.hi 1000000 w ruF.1 ruF.2 (cells_keep hl.c w (hJ _ hw)) (hl.l.keep w (hJ _ hw)) hT (by omega) hl2 (by omega))) rfl<|LX.l (fun _ hJ => LO.bd (ps := [(_,_), (_,_)]) (vs := [(_,_), (_,_)]) (C := [_,_]) B25  ⟨(.r rfl), (.r rfl), trivial⟩ rfl ⟨_, [_], [_,_], rfl, rfl, rfl, rfl, ⟨_, [_], [_,_], rfl, rfl, rfl, rfl, rfl⟩⟩) rfl<|LX.s<|LX.nil) (HX.s<|HX.s<|HX.s<|HX.s<|HX.s<|HX.s<|HX.s<|HX.s<|HX.s<|HX.s<|HX.s<|HX.h0<|HO.st 0 (vs := [_,_]) (C' := [_,_]) (L' := [_,_,_]) N25 rfl rfl rfl rfl rfl rfl rfl rfl<|⟨fun _ hw => hw.sel [1,2] rfl, HX.nil ?_⟩)
  refine VE.seqN ?_
  refine VC.ret (VE.res (vs := [_]) rfl ⟨RV.agg (vs := [_,_]) A25 rfl (cells_blk 0 rfl ⟨_, rfl⟩) rfl, trivial⟩ (fun w hw => ?_))
  exact ⟨rfl, hw.nil⟩

end Go.Proofs.YtffbohecdocajaaGreat

namespace Go.Proofs.YtffbohecdocajaaGreat
open Go.SL Go.Proofs Go.Pulse
set_option linter.unusedVariables false

theorem S428 : IsSlice Tryz.prog 428 488 := Tryz.underlying428
theorem N488 : (Tryz.prog.info? 488).map (·.size) = some 1 := by kernel_rfl
theorem O488 : IsOne Tryz.prog 488 := ⟨⟨_, Tryz.underlying488, rfl⟩, by kernel_rfl⟩
theorem C340 : IsFn Tryz.prog 340 := ⟨_, Tryz.func340, by decide, rfl⟩
theorem C345 : IsFn Tryz.prog 345 := ⟨_, Tryz.func345, by decide, rfl⟩
theorem C347 : IsFn Tryz.prog 347 := ⟨_, Tryz.func347, by decide, rfl⟩
theorem C348 : IsFn Tryz.prog 348 := ⟨_, Tryz.func348, by decide, rfl⟩
theorem I25 : EInfo Tryz.prog 25 2 16 (.agg #[.int .i64 0, .int .i64 0]) := ⟨by kernel_rfl, by kernel_rfl, by unfold ZeroOf; kernel_rfl, rfl, by decide⟩


theorem un1 {P : Program} {f : FuncId} {a : Array Value} {w : World} {v : Value} (h : Calls P f a w fun e w' => e = .returned v ∧ St (bs w) [] w') : Calls P f a w fun e w' => ∃ _ : Unit, True ∧ e = .returned v ∧ St (bs w) [] w' := h.mono fun _ _ ⟨h1, h2⟩ => ⟨(), trivial, h1, h2⟩
/-- The steps of a path, and what they are done for. -/
structure AllX where
  x : MdA
  n : Int
  bl : List Span
  bd : List Span
  ps : List Span
  pl : Option Addr
  cl : Nat
  pd : Option Addr
  cd : Nat
  pp : Option Addr
  cp : Nat
  bs : Nat
  bP : Nat
  bc : Nat
  br : Nat
def vC (v : Value) : List Value := [v]
def AllX.st (X : AllX) : List Value := [.iface 418 (.agg #[.int .i64 X.n, .slice X.pl X.bl.length X.cl]), .iface 419 (.pointer (some ⟨X.bP, 0, none⟩)), .iface 422 (.agg (mdC X.x ++ [Value.slice X.pd X.bd.length X.cd]).toArray), .iface 426 (.agg #[.func (.func 235) #[] #[.pointer (some ⟨X.br, 0, none⟩)]])]
structure AllI (w : World) (X : AllX) : Prop where
  s : RO 1 vC w (some ⟨X.bs, 0, none⟩) X.st
  p : Spans w X.pp X.ps
  b : Spans w X.pl X.bl
  d : Spans w X.pd X.bd
  l : LoI w X.bc X.x.m.loss X.x.pl X.x.cl
  r : LoI w X.br X.x.m.rate X.x.pr X.x.cr
structure AllK (X : AllX) : Prop where
  m : MdlOk X.x.m
  r : RayIn X.n X.bl X.bd X.ps X.ps
  n : X.n ≤ 17
  b : X.bl.length = X.ps.length
  d : X.bd.length = X.ps.length
  l : X.ps.length ≤ 1000
abbrev AllX.pas (X : AllX) (j : Nat) : Span := pasN X.x.m X.n X.bl X.ps j
/-- A power between two steps. -/
def AllX.at (X : AllX) (j : Nat) : Nat → Span
  | 0 => X.ps.getD j zsp
  | 1 => fillS X.n (X.bl.getD j zsp) (X.ps.getD j zsp)
  | 2 => gateZ X.x.m X.n X.bl X.ps j
  | 3 => layS (facS X.x.m (X.bd.getD j zsp)) (gateZ X.x.m X.n X.bl X.ps j)
  | _ => gateR X.x.m X.n X.bl X.bd X.ps j
def AllX.pat (X : AllX) (j : Nat) : Nat → Span
  | 0 => X.pas j
  | 1 => X.pas j
  | _ => X.pas (j + 1)
theorem all_bd {X : AllX} (h : AllK X) {j : Nat} (hj : j < X.ps.length) : inR (X.at j 0) 1073741824 ∧ inR (X.at j 1) 1073741824 ∧ inR (X.at j 2) 1073741824 ∧ inR (X.at j 3) 1073741824 ∧ pasOk (X.pas j) := by
  obtain ⟨k1, k2, k3, k4⟩ := pas_in h.m h.r j (by omega)
  obtain ⟨⟨p1, p2, p3⟩, q⟩ := h.r.ps j hj
  obtain ⟨f1, f2, f3⟩ := fill_in h.r.n1 (h.r.bl j hj) q p1 p3
  obtain ⟨a1, a2, a3⟩ := pasA_in f1 f2 k1 k2 k3
  have f := fac_bd h.m (h.r.bd j hj)
  obtain ⟨l1, l2⟩ := lay_in f a1 a2
  refine ⟨⟨p1, p2, p3⟩, ⟨f2, f1.1, f3⟩, ⟨a2, a1.1, a3⟩, ⟨l2, l1.1, ?_⟩, k2, k1.1, k3, k4⟩
  show min _ (1073741824 : Int) ≤ _
  omega
def AllX.out (X : AllX) (j : Nat) : List Span := (List.range j).map (gateR X.x.m X.n X.bl X.bd X.ps)
theorem out_step {X : AllX} {j : Nat} : X.out (j + 1) = X.out j ++ [X.at j 4] := by unfold AllX.out; rw [List.range_succ, List.map_append]; rfl
theorem out_len {X : AllX} {j : Nat} : (X.out j).length = j := by unfold AllX.out; rw [List.length_map, List.length_range]

set_option maxRecDepth 20000 in
theorem all_c (X : AllX) (w : World) (hh : Has w [pasB X.bP X.bc (X.pas 0)]) (hK : ∀ L w2, St ⟨w, fpL [pasB X.bP X.bc (X.pas 0)]⟩ L w2 → AllI w2 X) (hA : AllK X) :
  Calls Tryz.prog 190 #[.slice (some ⟨X.bs, 0, none⟩) 4 4, .slice X.pp X.ps.length X.cp] w fun e w' => ∃ y : Option Addr × Nat, True ∧ e = .returned (.slice y.1 (X.out X.ps.length).length y.2) ∧ St ⟨w, fpL [pasB X.bP X.bc (X.pas 0)]⟩ [pasB X.bP X.bc (X.pas X.ps.length), own 25 2 y.1 y.2 ((X.out X.ps.length).map spanC)] w' := by
  have hI0 := hK _ w hh.enter
  have hll := hA.l
  refine enterO (vs := [_,_]) (env := [(0,_), (1,_)]) hh.enter Tryz.func190 rfl rfl rfl rfl ?_
  refine VC.seq ?_
  refine VC.reg (VO.l (LO.as (.r rfl)) rfl<|VO.nil ?_)
  refine VE.seqN ?_
  refine VC.seq ?_
  refine VC.reg (VO.l (LO.as (.r rfl)) rfl<|VO.nil ?_)
  refine VE.seqN ?_
  refine VC.seq ?_
  refine VC.seq ?_
  refine VC.reg (VO.l (LO.mv (.r rfl)) rfl<|VO.l (LO.len S45 (.r rfl) rfl) rfl<|VO.l (LO.mv (.r rfl)) rfl<|VO.nil ?_)
  refine VE.seqN ?_
  refine VC.block ?_
  refine VC.loopK (α := Nat × (Option Addr) × Nat) 1 (fun gx => [(5, .slice gx.2.1 (X.out gx.1).length gx.2.2), (12, .int .i64 (gx.1 : Nat))]) [(0,_), (10,_), (11,_)] (fun gx => [own 25 2 gx.2.1 gx.2.2 ((X.out gx.1).map spanC), pasB X.bP X.bc (X.pas gx.1)]) (fun gx => gx.1 ≤ X.ps.length) (fun gx => X.ps.length - gx.1) (0, none, 0) (by exact Nat.zero_le _) (.cons rfl (.cons rfl (.cons rfl (.cons rfl (.cons rfl .nil))))) (fun _ h => (h.ownNil 25 2)) ?_
  rintro ⟨j, px, cx⟩ hj
  show VC _ _ _ _ _ ([(5, .slice px (X.out j).length cx), (12, .int .i64 (j : Nat))] ++ _) ([own 25 2 px cx ((X.out j).map spanC), pasB X.bP X.bc (X.pas j)] ++ _) _ _
  dsimp only at hj
  refine VC.seq ?_
  refine VC.reg (VO.l (LO.lt (.r rfl) (.r rfl)) rfl<|VO.nil ?_)
  refine VE.seqN ?_
  refine VC.seq ?_
  refine VC.cond rfl (fun h1 => ?_) (fun h1 => ?_)
  ·
    refine VC.skip (VE.seqN ?_)
    refine VC.seq ?_
    refine VC.block ?_
    refine VC.seq ?_
    have hjl : j < X.ps.length := by omega
    obtain ⟨hb0, hb1, hb2, hb3, hb4⟩ := all_bd hA hjl
    refine VC.reg (VO.l (LO.mv (.r rfl)) rfl<|VO.l (LO.ixs S45 N25 hI0.p.sm (.r rfl) (.r rfl) rfl (by omega)) rfl<|VO.l (LO.lda (vs := [_,_]) A25 (.r rfl) (fun w hw => (hK _ w hw).p.here zsp (j := j) (by omega)) rfl) rfl<|VO.h rfl<|HO.alloc (C := #[_,_]) Z25 rfl fun b3 => VO.l (LO.as (.r rfl)) rfl<|VO.h0<|HO.st 0 (vs := [_,_]) (C' := [_,_]) (L' := [_,_,_]) N25 rfl rfl rfl rfl rfl rfl rfl rfl<|VO.nil ?_)
    refine VE.seqN ?_
    refine VC.seq ?_
    refine VC.seq ?_
    refine VC.reg (VO.l (LO.mv (.r rfl)) rfl<|VO.l (LO.len S428 (.r rfl) rfl) rfl<|VO.l (LO.mv (.r rfl)) rfl<|VO.nil ?_)
    refine VE.seqN ?_
    refine VC.block ?_
    refine VC.perm [0,2,1] rfl ?_
    refine VC.loopK (α := Nat) 2 (fun gx => [(19, .int .i64 (gx : Nat))]) [(0,_), (5,_), (6,_), (7,_), (10,_), (11,_), (12,_), (17,_), (18,_)] (fun gx => [blk b3 (.cells #[.int .i64 (X.at j gx).lo, .int .i64 (X.at j gx).hi] 25), pasB X.bP X.bc (X.pat j gx)]) (fun gx => gx ≤ 4) (fun gx => 4 - gx) 0 (by decide) (.cons rfl (.cons rfl (.cons rfl (.cons rfl (.cons rfl (.cons rfl (.cons rfl (.cons rfl (.cons rfl (.cons rfl .nil)))))))))) (fun _ h => h) ?_
    rintro i hi
    refine VC.seq ?_
    refine VC.reg (VO.l (LO.lt (.r rfl) (.r rfl)) rfl<|VO.nil ?_)
    refine VE.seqN ?_
    refine VC.seq ?_
    refine VC.cond rfl (fun h2 => ?_) (fun h2 => ?_)
    ·
      refine VC.skip (VE.seqN ?_)
      refine VC.seq ?_
      refine VC.block ?_
      refine VC.seq ?_
      obtain rfl | rfl | rfl | rfl : i = 0 ∨ i = 1 ∨ i = 2 ∨ i = 3 := by omega
      ·
        refine VC.reg (VO.l (LO.ixs S428 N488 hI0.s.sm (.r rfl) (.r rfl) rfl (show 0 < 4 by decide)) rfl<|VO.l (LO.ld (v := .iface 418 (.agg #[.int .i64 X.n, .slice X.pl X.bl.length X.cl])) O488 (.r rfl) (fun w hw => (hK _ w hw).s.here (.int .i64 0) (j := 0) (show 0 < 4 by decide))) rfl<|VO.l (LO.as (.r rfl)) rfl<|VO.nil ?_)
        refine VE.seqN ?_
        refine VC.reg (VO.l (LO.mv (.r rfl)) rfl<|VO.l (LO.mv (.r rfl)) rfl<|VO.l (LO.lda (vs := [_,_]) A25 (.r rfl) (fun _ hw => cells_at hw 0 rfl ⟨_, rfl⟩) rfl) rfl<|VO.h rfl<|HO.invx (xs := [_,_]) (vs := [_,_]) (.r rfl) (fun _ => by kernel_rfl) C340 ⟨(.r rfl), (.r rfl), trivial⟩ (fun w hw => un1 (thrDo_c X.n X.bl X.pl X.cl j (X.at j 0) w (hK _ w hw).b (by rw [hA.b]; exact hjl) ⟨hA.r.n1, hA.n⟩ hb0 (hA.r.bl j hjl))) fun _ _ => VO.h0<|HO.st 0 (vs := [_,_]) (C' := [_,_]) (L' := [_,_,_]) N25 rfl rfl rfl rfl rfl rfl rfl rfl<|VO.nil ?_)
        refine VE.inN (VE.seqN ?_)
        refine VC.reg (VO.l (LO.add (.r rfl) (.r rfl) (wi (by omega) (by omega))) rfl<|VO.l (LO.mv (.r rfl)) rfl<|VO.nil ?_)
        refine VE.thenN fun a w ha hw => ⟨0 + 1, (by decide), (by decide), ha.sub (.cons rfl (.cons rfl (.cons rfl (.cons rfl (.cons rfl (.cons rfl (.cons rfl (.cons rfl (.cons rfl (.cons rfl .nil)))))))))), hw⟩
      ·
        refine VC.reg (VO.l (LO.ixs S428 N488 hI0.s.sm (.r rfl) (.r rfl) rfl (show 1 < 4 by decide)) rfl<|VO.l (LO.ld (v := .iface 419 (.pointer (some ⟨X.bP, 0, none⟩))) O488 (.r rfl) (fun w hw => (hK _ w hw).s.here (.int .i64 0) (j := 1) (show 1 < 4 by decide))) rfl<|VO.l (LO.as (.r rfl)) rfl<|VO.nil ?_)
        refine VE.seqN ?_
        refine VC.reg (VO.l (LO.mv (.r rfl)) rfl<|VO.l (LO.mv (.r rfl)) rfl<|VO.l (LO.lda (vs := [_,_]) A25 (.r rfl) (fun _ hw => cells_at hw 0 rfl ⟨_, rfl⟩) rfl) rfl<|VO.h rfl<|HO.inv (xs := [_,_]) (vs := [_,_]) [_] [_,_] (selK (L1 := [_] ++ [_,_]) [1,0,2] rfl rfl) (.r rfl) (fun _ => by kernel_rfl) C345 ⟨(.r rfl), (.r rfl), trivial⟩ (fun w hw hh => pasDo_c X.bP X.bc (X.pas j) (X.at j 1) X.x.m.loss X.x.pl X.x.cl w hh (fun L w2 h2 => (hK _ w2 (St.fz (selK (L1 := [_] ++ [_,_]) [1,0,2] rfl rfl w hw) h2)).l) hA.m.l1 hA.m.l0 hb4 hb1 j) fun _ _ => VO.h0<|HO.st 1 (vs := [_,_]) (C' := [_,_]) (L' := [_,_,_]) N25 rfl rfl rfl rfl rfl rfl rfl rfl<|VO.nil ?_)
        refine VE.inN (VE.seqN ?_)
        refine VC.reg (VO.l (LO.add (.r rfl) (.r rfl) (wi (by omega) (by omega))) rfl<|VO.l (LO.mv (.r rfl)) rfl<|VO.nil ?_)
        refine VE.thenN fun a w ha hw => ⟨1 + 1, (by decide), (by decide), ha.sub (.cons rfl (.cons rfl (.cons rfl (.cons rfl (.cons rfl (.cons rfl (.cons rfl (.cons rfl (.cons rfl (.cons rfl .nil)))))))))), hw.sel [1,0,2] rfl⟩
      ·
        refine VC.reg (VO.l (LO.ixs S428 N488 hI0.s.sm (.r rfl) (.r rfl) rfl (show 2 < 4 by decide)) rfl<|VO.l (LO.ld (v := .iface 422 (.agg (mdC X.x ++ [Value.slice X.pd X.bd.length X.cd]).toArray)) O488 (.r rfl) (fun w hw => (hK _ w hw).s.here (.int .i64 0) (j := 2) (show 2 < 4 by decide))) rfl<|VO.l (LO.as (.r rfl)) rfl<|VO.nil ?_)
        refine VE.seqN ?_
        refine VC.reg (VO.l (LO.mv (.r rfl)) rfl<|VO.l (LO.mv (.r rfl)) rfl<|VO.l (LO.lda (vs := [_,_]) A25 (.r rfl) (fun _ hw => cells_at hw 0 rfl ⟨_, rfl⟩) rfl) rfl<|VO.h rfl<|HO.invx (xs := [_,_]) (vs := [_,_]) (.r rfl) (fun _ => by kernel_rfl) C347 ⟨(.r rfl), (.r rfl), trivial⟩ (fun w hw => un1 (layDo_c X.x X.bd X.pd X.cd j (X.at j 2) w (hK _ w hw).d (by rw [hA.d]; exact hjl) hA.m hb2 (hA.r.bd j hjl))) fun _ _ => VO.h0<|HO.st 0 (vs := [_,_]) (C' := [_,_]) (L' := [_,_,_]) N25 rfl rfl rfl rfl rfl rfl rfl rfl<|VO.nil ?_)
        refine VE.inN (VE.seqN ?_)
        refine VC.reg (VO.l (LO.add (.r rfl) (.r rfl) (wi (by omega) (by omega))) rfl<|VO.l (LO.mv (.r rfl)) rfl<|VO.nil ?_)
        refine VE.thenN fun a w ha hw => ⟨2 + 1, (by decide), (by decide), ha.sub (.cons rfl (.cons rfl (.cons rfl (.cons rfl (.cons rfl (.cons rfl (.cons rfl (.cons rfl (.cons rfl (.cons rfl .nil)))))))))), hw⟩
      ·
        refine VC.reg (VO.l (LO.ixs S428 N488 hI0.s.sm (.r rfl) (.r rfl) rfl (show 3 < 4 by decide)) rfl<|VO.l (LO.ld (v := .iface 426 (.agg #[.func (.func 235) #[] #[.pointer (some ⟨X.br, 0, none⟩)]])) O488 (.r rfl) (fun w hw => (hK _ w hw).s.here (.int .i64 0) (j := 3) (show 3 < 4 by decide))) rfl<|VO.l (LO.as (.r rfl)) rfl<|VO.nil ?_)
        refine VE.seqN ?_
        refine VC.reg (VO.l (LO.mv (.r rfl)) rfl<|VO.l (LO.mv (.r rfl)) rfl<|VO.l (LO.lda (vs := [_,_]) A25 (.r rfl) (fun _ hw => cells_at hw 0 rfl ⟨_, rfl⟩) rfl) rfl<|VO.h rfl<|HO.invx (xs := [_,_]) (vs := [_,_]) (.r rfl) (fun _ => by kernel_rfl) C348 ⟨(.r rfl), (.r rfl), trivial⟩ (fun w hw => un1 (ratDo_c X.x.m.rate X.x.pr X.x.cr X.br j (X.at j 3) w (hK _ w hw).r hA.m.r1 hA.m.r0 hb3)) fun _ _ => VO.h0<|HO.st 0 (vs := [_,_]) (C' := [_,_]) (L' := [_,_,_]) N25 rfl rfl rfl rfl rfl rfl rfl rfl<|VO.nil ?_)
        refine VE.inN (VE.seqN ?_)
        refine VC.reg (VO.l (LO.add (.r rfl) (.r rfl) (wi (by omega) (by omega))) rfl<|VO.l (LO.mv (.r rfl)) rfl<|VO.nil ?_)
        refine VE.thenN fun a w ha hw => ⟨3 + 1, (by decide), (by decide), ha.sub (.cons rfl (.cons rfl (.cons rfl (.cons rfl (.cons rfl (.cons rfl (.cons rfl (.cons rfl (.cons rfl (.cons rfl .nil)))))))))), hw⟩
    ·
      refine VC.exit (VE.thenX (VE.thenX (VE.inX (VE.seqN ?_))))
      have e4 : i = 4 := by omega
      subst e4
      refine VC.reg (VO.l (LO.mv (.r rfl)) rfl<|VO.l (LO.lda (vs := [_,_]) A25 (.r rfl) (fun _ hw => cells_at hw 0 rfl ⟨_, rfl⟩) rfl) rfl<|VO.h rfl<|HO.bs (ps := [(_,_)]) (vs := [(_,_)]) (Z := [_,_]) (C := [_,_]) S45 Z25 N25 ⟨(.r rfl), trivial⟩ rfl rfl rfl rfl ⟨_, [_,_], [_,_], rfl, rfl, rfl, rfl, rfl⟩ fun b10 => VO.h rfl<|HO.appT ((X.at j 4)) 3 0 (fun R => [_,_,_, R]) S45 S45 I25 (.r rfl) (.r rfl) rfl rfl rfl rfl rfl rfl rfl (fun _ => rfl) rfl (by rw [out_len]; omega) fun p3 c3 => VO.h rfl<|HO.lo (LO.as (.r rfl))<|VO.nil ?_)
      refine VE.inN (VE.seqN ?_)
      refine VC.reg (VO.l (LO.add (.r rfl) (.r rfl) (wi (by omega) (by omega))) rfl<|VO.l (LO.mv (.r rfl)) rfl<|VO.nil ?_)
      refine VE.thenN fun a w ha hw => ⟨(j + 1, p3, c3), (by dsimp only; omega), (by dsimp only; omega), ha.sub (.cons (by show _ = some (Value.slice p3 (X.out (j + 1)).length c3); rw [out_step]; rfl) (.cons rfl (.cons rfl (.cons rfl (.cons rfl .nil))))), (by rw [out_step]; exact hw.sel [3,2] rfl)⟩
  ·
    refine VC.exit (VE.thenX (VE.thenX (VE.inX (VE.seqN ?_))))
    refine VC.seq ?_
    refine VC.reg (VO.l (LO.mv (.r rfl)) rfl<|VO.l (LO.as (.r rfl)) rfl<|VO.nil ?_)
    refine VE.seqN ?_
    refine VC.ret (VE.res (vs := [_]) rfl ⟨rfl, trivial⟩ (fun w hw => ?_))
    have ej : j = X.ps.length := by omega
    subst ej
    exact ⟨(px, cx), trivial, rfl, hw.sel [1,0] rfl⟩

end Go.Proofs.YtffbohecdocajaaGreat

namespace Go.Proofs.YtffbohecdocajaaGreat
open Go.SL Go.Proofs Go.Pulse
set_option linter.unusedVariables false

theorem N28 : (Tryz.prog.info? 28).map (·.size) = some 1 := by kernel_rfl
theorem O28 : IsOne Tryz.prog 28 := ⟨⟨_, Tryz.underlying28, rfl⟩, by kernel_rfl⟩
theorem Z27 : ZeroOf Tryz.prog 27 (.agg #[.int .i64 0, .int .i64 0, .int .i64 0, .int .i64 0]) := by unfold ZeroOf; kernel_rfl
theorem N27 : (Tryz.prog.info? 27).map (·.size) = some 4 := by kernel_rfl
end Go.Proofs.YtffbohecdocajaaGreat

namespace Go.Proofs.YtffbohecdocajaaGreat
open Go.SL Go.Proofs Go.Pulse
set_option linter.unusedVariables false

theorem C272 : IsFn Tryz.prog 272 := ⟨_, Tryz.func272, by decide, rfl⟩
theorem C273 : IsFn Tryz.prog 273 := ⟨_, Tryz.func273, by decide, rfl⟩
theorem C239 : IsFn Tryz.prog 239 := ⟨_, Tryz.func239, by decide, rfl⟩
theorem C193 : IsFn Tryz.prog 193 := ⟨_, Tryz.func193, by decide, rfl⟩
theorem C192 : IsFn Tryz.prog 192 := ⟨_, Tryz.func192, by decide, rfl⟩
theorem C271 : IsFn Tryz.prog 271 := ⟨_, Tryz.func271, by decide, rfl⟩
theorem C238 : IsFn Tryz.prog 238 := ⟨_, Tryz.func238, by decide, rfl⟩


def hayS : ByteArray := ⟨#[97,98,99,100,101,102,103,104,105,106,107,108,109,110,111,112,113,114,115,116,117,118,119,120,121,122,48,49,50,51,52,53,54,55,56,57,95]⟩
/-- What may stand in a name. -/
def nameR (r : Nat) : Bool := (decide (97 ≤ r) && decide (r ≤ 122)) || (decide (48 ≤ r) && decide (r ≤ 57)) || decide (r = 95)
def pN (r : Nat) : Bool := !nameR r
theorem pN_high (r : Nat) (h : 128 ≤ r) : pN r = true := by unfold pN nameR; simp; omega
theorem hay_ascii : ∀ b ∈ hayS.data.toList, b.toNat < 128 := by decide
theorem hay_has : ∀ n : Fin 128, decide (0 ≤ Lib.indexByte hayS.data.toList n.val.toUInt8) = nameR n.val := by decide +kernel
def runeIx (s : ByteArray) (r : Int) : Int := if r < 128 then Lib.indexByte s.data.toList r.toNat.toUInt8 else -1
theorem hay_rune (r : Nat) : decide (0 ≤ runeIx hayS (r : Int)) = nameR r := by
  unfold runeIx
  by_cases h : r < 128
  · rw [if_pos (by omega)]
    exact hay_has ⟨r, h⟩
  · rw [if_neg (by omega)]
    have := pN_high r (by omega)
    unfold pN at this
    simp at this
    rw [this]; rfl
theorem u8_of {r : Int} (h0 : 0 ≤ r) (h1 : r < 128) : IntKind.u8.wrap r = r := by
  have e : r % 256 = r := by omega
  unfold IntKind.wrap
  simp [IntKind.bits, IntKind.signed, e]
theorem St.of_eq {w w' : World} (h : w' = w) : St (bs w) [] w' := by subst h; exact St.refl _
theorem byteN (c : UInt8) : ((c.toNat : Nat) : Int).toNat.toUInt8 = c := by simp
theorem enc_f {r : Int} (hv : Lib.validRune r = true) (h : 128 ≤ r) : 2 ≤ (Utf8.encode r).size ∧ (Utf8.encode r).size ≤ 4 ∧ 128 ≤ ((Utf8.encode r).data.toList.getD ((Utf8.encode r).size - 1) 0).toNat := by
  have hv2 : Utf8.valid r = true := by rw [validRune_eq]; exact hv
  obtain ⟨h1, h2, h3⟩ := encode_facts r hv2 h
  refine ⟨h1, h2, ?_⟩
  have hl : (Utf8.encode r).size - 1 < (Utf8.encode r).data.toList.length := by
    rw [Array.length_toList]; exact (show (Utf8.encode r).size - 1 < (Utf8.encode r).size by omega)
  have := h3 (by omega)
  simp only [List.getD, List.getElem?_eq_getElem hl, Option.getD_some]
  exact this
theorem byte_lt {s : ByteArray} (hs : ∀ b ∈ s.data.toList, b.toNat < 128) (j : Nat) : (s.data.toList.getD j 0).toNat < 128 := by
  rcases Nat.lt_or_ge j s.data.toList.length with h | h
  · exact hs _ (getD_mem h)
  · rw [List.getD_eq_getElem?_getD, List.getElem?_eq_none h]; decide
theorem ix_none {s : ByteArray} {a e : Nat} {c : UInt8} (hs : ∀ b ∈ s.data.toList, b.toNat < 128) (hc : 128 ≤ c.toNat) : Lib.indexByte (s.extract a e).data.toList ((c.toNat : Nat) : Int).toNat.toUInt8 = -1 := by
  rw [byteN, ← Lib.firstIdx_eq]; exact firstIdx_ascii s a e c hs hc
theorem dec_lt {s : ByteArray} (hs : ∀ b ∈ s.data.toList, b.toNat < 128) {q : Nat} (hq : q < s.size) : (Utf8.decode s q).1 < 128 := by
  have h : (s[q]'hq).toNat < 128 := hs _ (Array.getElem_mem_toList (xs := s.data) hq)
  rw [decode_ascii s q hq h]; exact h

set_option maxRecDepth 20000 in
theorem validRune_c (r : Int) (w : World) :
  Calls Tryz.prog 273 #[.int .i32 r] w fun e w' => e = .returned (.bool (Lib.validRune r)) ∧ St (bs w) [] w' := by
  refine enter (vs := [_]) (env := [(0,_)]) Tryz.func273 rfl rfl rfl rfl ?_
  refine VC.seq ?_
  refine VC.reg (VO.l (LO.as (.r rfl)) rfl<|VO.nil ?_)
  refine VE.seqN ?_
  refine VC.seq ?_
  refine VC.block ?_
  refine VC.seq ?_
  refine VC.reg (VO.l (LO.mv (.r rfl)) rfl<|VO.l (LO.le (.r rfl) (.r rfl)) rfl<|VO.l (LO.mv (.r rfl)) rfl<|VO.lg rfl rfl (GD.t _) (fun hg => LO.mv (.r rfl)) rfl<|VO.lg rfl rfl (GD.t _) (fun hg => LO.lt (.g hg rfl) (.r rfl)) rfl<|VO.l (LO.pkA (.r rfl) rfl rfl (.r rfl)) rfl<|VO.l (LO.as (.r rfl)) rfl<|VO.nil ?_)
  refine VE.seqN ?_
  refine VC.cond rfl (fun h1 => ?_) (fun h1 => ?_)
  ·
    refine VC.seq ?_
    refine VC.reg (VO.l (LO.as (.r rfl)) rfl<|VO.nil ?_)
    refine VE.seqN ?_
    refine VC.ret (VE.inR (VE.thenR (VE.res (vs := [_]) rfl ⟨rfl, trivial⟩ (fun w hw => ?_))))
    exact ⟨by simp only [resV, Lib.validRune]; first | rw [decide_eq_true (show (0 ≤ r ∧ r < 0xD800) ∨ (0xDFFF < r ∧ r ≤ 0x10FFFF) by omega)] | rw [decide_eq_false (show ¬ ((0 ≤ r ∧ r < 0xD800) ∨ (0xDFFF < r ∧ r ≤ 0x10FFFF)) by omega)], hw.nil⟩
  ·
    refine VC.seq ?_
    refine VC.reg (VO.l (LO.mv (.r rfl)) rfl<|VO.l (LO.lt (.r rfl) (.r rfl)) rfl<|VO.l (LO.mv (.r rfl)) rfl<|VO.lg rfl rfl (GD.t _) (fun hg => LO.mv (.r rfl)) rfl<|VO.lg rfl rfl (GD.t _) (fun hg => LO.le (.g hg rfl) (.r rfl)) rfl<|VO.l (LO.pkA (.r rfl) rfl rfl (.r rfl)) rfl<|VO.l (LO.as (.r rfl)) rfl<|VO.nil ?_)
    refine VE.seqN ?_
    refine VC.cond rfl (fun h2 => ?_) (fun h2 => ?_)
    ·
      refine VC.seq ?_
      refine VC.reg (VO.l (LO.as (.r rfl)) rfl<|VO.nil ?_)
      refine VE.seqN ?_
      refine VC.ret (VE.inR (VE.thenR (VE.res (vs := [_]) rfl ⟨rfl, trivial⟩ (fun w hw => ?_))))
      exact ⟨by simp only [resV, Lib.validRune]; first | rw [decide_eq_true (show (0 ≤ r ∧ r < 0xD800) ∨ (0xDFFF < r ∧ r ≤ 0x10FFFF) by omega)] | rw [decide_eq_false (show ¬ ((0 ≤ r ∧ r < 0xD800) ∨ (0xDFFF < r ∧ r ≤ 0x10FFFF)) by omega)], hw.nil⟩
    ·
      refine VC.skip (VE.inN (VE.seqN ?_))
      refine VC.seq ?_
      refine VC.reg (VO.l (LO.as (.r rfl)) rfl<|VO.nil ?_)
      refine VE.seqN ?_
      refine VC.ret (VE.res (vs := [_]) rfl ⟨rfl, trivial⟩ (fun w hw => ?_))
      exact ⟨by simp only [resV, Lib.validRune]; first | rw [decide_eq_true (show (0 ≤ r ∧ r < 0xD800) ∨ (0xDFFF < r ∧ r ≤ 0x10FFFF) by omega)] | rw [decide_eq_false (show ¬ ((0 ≤ r ∧ r < 0xD800) ∨ (0xDFFF < r ∧ r ≤ 0x10FFFF)) by omega)], hw.nil⟩

set_option maxRecDepth 20000 in
theorem indexRune_c (s : ByteArray) (r : Int) (w : World) (h0 : 0 ≤ r) (hs : ∀ b ∈ s.data.toList, b.toNat < 128) (h4 : 4 ≤ s.size) (h5 : s.size < 100000) :
  Calls Tryz.prog 239 #[.string s, .int .i32 r] w fun e w' => e = .returned (.int .i64 (runeIx s r)) ∧ St (bs w) [] w' := by
  refine enter (vs := [_,_]) (env := [(0,_), (1,_)]) Tryz.func239 rfl rfl rfl rfl ?_
  refine VC.seq ?_
  refine VC.reg (VO.l (LO.as (.r rfl)) rfl<|VO.nil ?_)
  refine VE.seqN ?_
  refine VC.block ?_
  refine VC.seq ?_
  refine VC.reg (VO.l (LO.mv (.r rfl)) rfl<|VO.l (LO.le (.r rfl) (.r rfl)) rfl<|VO.l (LO.mv (.r rfl)) rfl<|VO.lg rfl rfl (GD.t _) (fun hg => LO.mv (.r rfl)) rfl<|VO.lg rfl rfl (GD.t _) (fun hg => LO.lt (.g hg rfl) (.r rfl)) rfl<|VO.l (LO.pkA (.r rfl) rfl rfl (.r rfl)) rfl<|VO.l (LO.as (.r rfl)) rfl<|VO.nil ?_)
  refine VE.seqN ?_
  refine VC.cond rfl (fun h160 => ?_) (fun h160 => ?_)
  ·
    refine VC.seq ?_
    refine VC.reg (VO.l (LO.mv (.r rfl)) rfl<|VO.l (LO.mv (.r rfl)) rfl<|VO.l (LO.cv ⟨_, Tryz.underlying21⟩ Tryz.underlying5 (.r rfl) (u8_of (by omega) (by omega))) rfl<|VO.l (LO.call (xs := [_,_]) (vs := [_,_]) C272 ⟨(.r rfl), (.r rfl), trivial⟩ (fun w _ => (Tryz.strings_IndexByte s r w).mono fun e w' q => ⟨q.1, St.of_eq q.2⟩)) rfl<|VO.l (LO.as (.r rfl)) rfl<|VO.nil ?_)
    refine VE.seqN ?_
    refine VC.ret (VE.inR (VE.res (vs := [_]) rfl ⟨rfl, trivial⟩ (fun w hw => ?_)))
    first | exact ⟨by simp only [resV, runeIx]; rw [if_pos (by omega)], hw.nil⟩ | exact ⟨by simp only [resV, runeIx]; rw [if_neg (by omega)], hw.nil⟩
  ·
    refine VC.seq ?_
    refine VC.reg (VO.l (LO.mv (.r rfl)) rfl<|VO.l (LO.eq (.r rfl) (.r rfl)) rfl<|VO.l (LO.as (.r rfl)) rfl<|VO.nil ?_)
    refine VE.seqN ?_
    refine VC.cond rfl (fun h171 => ?_) (fun h171 => ?_)
    ·
      refine VC.seq ?_
      refine VC.seq ?_
      refine VC.reg (VO.l (LO.mv (.r rfl)) rfl<|VO.h rfl<|HO.range Tryz.underlying9 rfl fun b1 => VO.nil ?_)
      refine VE.seqN ?_
      refine VC.block ?_
      refine VC.loopK (α := Nat) 1 (fun gx => []) [(175,_)] (fun gx => [blk b1 (.stringIter s gx)]) (fun gx => True) (fun gx => s.size - gx) 0 (by exact trivial) (.cons rfl .nil) (fun _ h => h) ?_
      rintro q _
      refine VC.seq ?_
      by_cases hps : q < s.size
      ·
        refine VC.reg (VO.h rfl<|HO.nextT 0 (fun R => [R]) rfl rfl (fun _ => rfl) hps<|VO.h rfl<|HO.lo (LO.ex (.r rfl) rfl)<|VO.nil ?_)
        refine VE.seqN ?_
        refine VC.seq ?_
        refine VC.cond rfl (fun h177 => ?_) (fun h177 => ?_)
        ·
          refine VC.skip (VE.seqN ?_)
          refine VC.block ?_
          refine VC.seq ?_
          refine VC.reg (VO.l (LO.ex (.r rfl) rfl) rfl<|VO.l (LO.ex (.r rfl) rfl) rfl<|VO.l (LO.as (.r rfl)) rfl<|VO.l (LO.as (.r rfl)) rfl<|VO.nil ?_)
          refine VE.seqN ?_
          refine VC.seq ?_
          have hdc := dec_lt hs hps
          refine VC.reg (VO.l (LO.mv (.r rfl)) rfl<|VO.l (LO.eq (.r rfl) (.r rfl)) rfl<|VO.nil ?_)
          refine VE.seqN ?_
          refine VC.cond rfl (fun h181 => ?_) (fun h181 => ?_)
          ·
            (exfalso; omega)
          ·
            refine VC.skip (VE.inN ?_)
            refine VE.thenN fun a w ha hw => ⟨q + (Utf8.decode s q).2, trivial, (by have := decode_pos s q; omega), ha.sub (.cons rfl .nil), hw⟩
        ·
          (exfalso; exact h177 rfl)
      ·
        refine VC.reg (VO.h rfl<|HO.nextF 0 rfl rfl hps<|VO.h rfl<|HO.lo (LO.ex (.r rfl) rfl)<|VO.nil ?_)
        refine VE.seqN ?_
        refine VC.seq ?_
        refine VC.cond rfl (fun h177 => ?_) (fun h177 => ?_)
        ·
          (exfalso; cases h177)
        ·
          refine VC.exit (VE.thenX (VE.thenX (VE.inX (VE.seqN ?_))))
          refine VC.seq ?_
          refine VC.reg (VO.l (LO.as (.r rfl)) rfl<|VO.nil ?_)
          refine VE.seqN ?_
          refine VC.ret (VE.inR (VE.res (vs := [_]) rfl ⟨rfl, trivial⟩ (fun w hw => ?_)))
          first | exact ⟨by simp only [resV, runeIx]; rw [if_pos (by omega)], hw.nil⟩ | exact ⟨by simp only [resV, runeIx]; rw [if_neg (by omega)], hw.nil⟩
    ·
      refine VC.seq ?_
      refine VC.reg (VO.l (LO.mv (.r rfl)) rfl<|VO.l (LO.call (xs := [_]) (vs := [_]) C273 ⟨(.r rfl), trivial⟩ (fun w _ => validRune_c _ w)) rfl<|VO.l (LO.not (.r rfl)) rfl<|VO.l (LO.as (.r rfl)) rfl<|VO.nil ?_)
      refine VE.seqN ?_
      refine VC.cond rfl (fun h183 => ?_) (fun h183 => ?_)
      ·
        refine VC.seq ?_
        refine VC.reg (VO.l (LO.as (.r rfl)) rfl<|VO.nil ?_)
        refine VE.seqN ?_
        refine VC.ret (VE.inR (VE.res (vs := [_]) rfl ⟨rfl, trivial⟩ (fun w hw => ?_)))
        first | exact ⟨by simp only [resV, runeIx]; rw [if_pos (by omega)], hw.nil⟩ | exact ⟨by simp only [resV, runeIx]; rw [if_neg (by omega)], hw.nil⟩
      ·
        have hv : Lib.validRune r = true := by simpa using h183
        obtain ⟨e1, e2, e3⟩ := enc_f hv (by omega)
        have b1 := byte_lt hs ((Utf8.encode r).size - 1)
        refine VC.scope ?_
        refine VC.seq ?_
        refine VC.reg (VO.l (LO.mv (.r rfl)) rfl<|VO.l (LO.cvS ⟨_, Tryz.underlying21⟩ Tryz.underlying9 (.r rfl)) rfl<|VO.l (LO.as (.r rfl)) rfl<|VO.nil ?_)
        refine VE.seqN ?_
        refine VC.seq ?_
        refine VC.reg (VO.l (LO.mv (.r rfl)) rfl<|VO.l (LO.lenS Tryz.underlying9 (.r rfl) rfl) rfl<|VO.l (LO.sub (.r rfl) (.r rfl) (wi (by omega) (by omega))) rfl<|VO.l (LO.as (.r rfl)) rfl<|VO.nil ?_)
        refine VE.seqN ?_
        refine VC.seq ?_
        refine VC.reg (VO.l (LO.mv (.r rfl)) rfl<|VO.l (LO.as (.r rfl)) rfl<|VO.nil ?_)
        refine VE.seqN ?_
        refine VC.seq ?_
        refine VC.reg (VO.l (LO.as (.r rfl)) rfl<|VO.nil ?_)
        refine VE.seqN ?_
        refine VC.seq ?_
        refine VC.block ?_
        refine VC.loopK (α := Nat) 0 (fun gx => [(4, .int .i64 0), (9, .int .i64 (((Utf8.encode r).size : Int) - 1))]) [(0,_), (7,_), (8,_)] (fun gx => []) (fun gx => True) (fun gx => gx) 0 (by exact trivial) (.cons rfl (.cons rfl (.cons rfl (.cons rfl (.cons rfl .nil))))) (fun _ h => h) ?_
        rintro u _
        refine VC.seq ?_
        refine VC.seq ?_
        refine VC.reg (VO.l (LO.mv (.r rfl)) rfl<|VO.l (LO.mv (.r rfl)) rfl<|VO.l (LO.lenS Tryz.underlying9 (.r rfl) rfl) rfl<|VO.l (LO.lt (.r rfl) (.r rfl)) rfl<|VO.nil ?_)
        refine VE.seqN ?_
        refine VC.cond rfl (fun h26 => ?_) (fun h26 => ?_)
        ·
          refine VC.skip (VE.seqN ?_)
          refine VC.block ?_
          refine VC.scope ?_
          refine VC.seq ?_
          refine VC.seq ?_
          refine VC.draw mixed (LL.l (LO.mv (.r rfl)) rfl<|LL.l (LO.mv (.r rfl)) rfl<|LL.l (LO.ixS (j := ((Utf8.encode r).size - 1)) Tryz.underlying9 (.r rfl) (.r rfl) (by omega) (by omega)) rfl<|LL.l (LO.mv (.r rfl)) rfl<|LL.l (LO.mv (.r rfl)) rfl<|LL.l (LO.ixS (j := ((Utf8.encode r).size - 1)) Tryz.underlying9 (.r rfl) (.r rfl) (by omega) (by omega)) rfl<|LL.l (LO.ne (.r rfl) (.r rfl)) rfl<|LL.nil) (by kernel_rfl) ?_
          refine VE.seqN ?_
          refine VC.cond rfl (fun h33 => ?_) (fun h33 => ?_)
          ·
            refine VC.seq ?_
            refine VC.draw mixed (LL.l (LO.mv (.r rfl)) rfl<|LL.l (LO.mv (.r rfl)) rfl<|LL.l (LO.add (.r rfl) (.r rfl) (wi (by omega) (by omega))) rfl<|LL.l (LO.slS Tryz.underlying9 (.r rfl) (.r rfl) (by omega) (by omega)) rfl<|LL.l (LO.mv (.r rfl)) rfl<|LL.l (LO.mv (.r rfl)) rfl<|LL.l (LO.ixS (j := ((Utf8.encode r).size - 1)) Tryz.underlying9 (.r rfl) (.r rfl) (by omega) (by omega)) rfl<|LL.l (LO.call (xs := [_,_]) (vs := [_,_]) C272 ⟨(.r rfl), (.r rfl), trivial⟩ (fun w _ => (Tryz.strings_IndexByte _ _ w).mono fun e w' q => ⟨q.1, St.of_eq q.2⟩)) rfl<|LL.l (LO.as (.r rfl)) rfl<|LL.nil) (by kernel_rfl) ?_
            refine VE.seqN ?_
            refine VC.seq ?_
            refine VC.seq ?_
            refine VC.reg (VO.l (LO.mv (.r rfl)) rfl<|VO.l (LO.lt (.r rfl) (.r rfl)) rfl<|VO.nil ?_)
            refine VE.seqN ?_
            refine VC.cond rfl (fun h43 => ?_) (fun h43 => ?_)
            ·
              refine VC.seq ?_
              refine VC.reg (VO.l (LO.as (.r rfl)) rfl<|VO.nil ?_)
              refine VE.seqN ?_
              refine VC.ret (VE.thenR (VE.thenR (VE.scR (VE.inR (VE.thenR (VE.inR (VE.thenR (VE.scR (VE.inR (VE.res (vs := [_]) rfl ⟨rfl, trivial⟩ (fun w hw => ?_)))))))))))
              first | exact ⟨by simp only [resV, runeIx]; rw [if_pos (by omega)], hw.nil⟩ | exact ⟨by simp only [resV, runeIx]; rw [if_neg (by omega)], hw.nil⟩
            ·
              (exfalso; (rw [ix_none hs e3] at h43; omega))
          ·
            (exfalso; omega)
        ·
          (exfalso; omega)

set_option maxRecDepth 20000 in
theorem containsRune_c (s : ByteArray) (r : Int) (w : World) (h0 : 0 ≤ r) (hs : ∀ b ∈ s.data.toList, b.toNat < 128) (h4 : 4 ≤ s.size) (h5 : s.size < 100000) :
  Calls Tryz.prog 193 #[.string s, .int .i32 r] w fun e w' => e = .returned (.bool (decide (0 ≤ runeIx s r))) ∧ St (bs w) [] w' := by
  refine enter (vs := [_,_]) (env := [(0,_), (1,_)]) Tryz.func193 rfl rfl rfl rfl ?_
  refine VC.seq ?_
  refine VC.reg (VO.l (LO.as (.r rfl)) rfl<|VO.nil ?_)
  refine VE.seqN ?_
  refine VC.seq ?_
  refine VC.reg (VO.l (LO.mv (.r rfl)) rfl<|VO.l (LO.mv (.r rfl)) rfl<|VO.l (LO.call (xs := [_,_]) (vs := [_,_]) C239 ⟨(.r rfl), (.r rfl), trivial⟩ (fun w _ => indexRune_c s r w h0 hs h4 h5)) rfl<|VO.l (LO.ge (.r rfl) (.r rfl)) rfl<|VO.l (LO.as (.r rfl)) rfl<|VO.nil ?_)
  refine VE.seqN ?_
  refine VC.ret (VE.res (vs := [_]) rfl ⟨rfl, trivial⟩ (fun w hw => ?_))
  exact ⟨rfl, hw.nil⟩

set_option maxRecDepth 20000 in
theorem nameRune_c (r : Nat) (w : World) :
  Calls Tryz.prog 192 #[.int .i32 (r : Int)] w fun e w' => e = .returned (.bool (pN r)) ∧ St (bs w) [] w' := by
  refine enter (vs := [_]) (env := [(0,_)]) Tryz.func192 rfl rfl rfl rfl ?_
  refine VC.seq ?_
  refine VC.reg (VO.l (LO.as (.r rfl)) rfl<|VO.nil ?_)
  refine VE.seqN ?_
  refine VC.seq ?_
  refine VC.reg (VO.l (LO.mv (.r rfl)) rfl<|VO.l (LO.call (xs := [_,_]) (vs := [_,_]) C193 ⟨(.r rfl), (.r rfl), trivial⟩ (fun w _ => containsRune_c hayS (r : Int) w (by omega) hay_ascii (by decide) (by decide))) rfl<|VO.l (LO.not (.r rfl)) rfl<|VO.l (LO.as (.r rfl)) rfl<|VO.nil ?_)
  refine VE.seqN ?_
  refine VC.ret (VE.res (vs := [_]) rfl ⟨rfl, trivial⟩ (fun w hw => ?_))
  exact ⟨by simp only [resV]; rw [hay_rune]; rfl, hw.nil⟩

set_option maxRecDepth 20000 in
theorem indexFunc_c (s : ByteArray) (w : World) :
  Calls Tryz.prog 271 #[.string s, .func (.func 192) #[] #[], .bool true] w fun e w' => e = .returned (.int .i64 (idxF pN s s.size 0)) ∧ St (bs w) [] w' := by
  refine enter (vs := [_,_,_]) (env := [(0,_), (1,_), (2,_)]) Tryz.func271 rfl rfl rfl rfl ?_
  refine VC.seq ?_
  refine VC.reg (VO.l (LO.as (.r rfl)) rfl<|VO.nil ?_)
  refine VE.seqN ?_
  refine VC.seq ?_
  refine VC.seq ?_
  refine VC.reg (VO.l (LO.mv (.r rfl)) rfl<|VO.h rfl<|HO.range Tryz.underlying9 rfl fun b1 => VO.nil ?_)
  refine VE.seqN ?_
  refine VC.block ?_
  refine VC.loopK (α := Nat × Nat) 1 (fun gx => []) [(1,_), (2,_), (10,_)] (fun gx => [blk b1 (.stringIter s gx.1)]) (fun gx => idxF pN s gx.2 gx.1 = idxF pN s s.size 0 ∧ s.size ≤ gx.1 + gx.2) (fun gx => gx.2) (0, s.size) (by exact ⟨rfl, by omega⟩) (.cons rfl (.cons rfl (.cons rfl .nil))) (fun _ h => h) ?_
  rintro ⟨q, f⟩ ⟨hI, hf⟩
  show VC _ _ _ _ _ ([] ++ _) ([blk b1 (.stringIter s q)] ++ _) _ _
  dsimp only at hI hf
  refine VC.seq ?_
  by_cases hps : q < s.size
  ·
    obtain ⟨f, rfl⟩ : ∃ k, f = k + 1 := ⟨f - 1, by omega⟩
    rw [idxF, if_pos hps] at hI
    refine VC.reg (VO.h rfl<|HO.nextT 0 (fun R => [R]) rfl rfl (fun _ => rfl) hps<|VO.h rfl<|HO.lo (LO.ex (.r rfl) rfl)<|VO.nil ?_)
    refine VE.seqN ?_
    refine VC.seq ?_
    refine VC.cond rfl (fun h12 => ?_) (fun h12 => ?_)
    ·
      refine VC.skip (VE.seqN ?_)
      refine VC.block ?_
      refine VC.seq ?_
      refine VC.reg (VO.l (LO.ex (.r rfl) rfl) rfl<|VO.l (LO.ex (.r rfl) rfl) rfl<|VO.l (LO.as (.r rfl)) rfl<|VO.l (LO.as (.r rfl)) rfl<|VO.nil ?_)
      refine VE.seqN ?_
      refine VC.seq ?_
      refine VC.reg (VO.l (LO.mv (.r rfl)) rfl<|VO.l (LO.mv (.r rfl)) rfl<|VO.l (LO.callv (first := []) (cap := []) (xs := [_]) (vs := [_]) (.r rfl) C192 ⟨(.r rfl), trivial⟩ (fun w _ => nameRune_c _ w)) rfl<|VO.l (LO.mv (.r rfl)) rfl<|VO.l (LO.eqB Tryz.underlying4 (.r rfl) (.r rfl)) rfl<|VO.nil ?_)
      refine VE.seqN ?_
      refine VC.cond rfl (fun h19 => ?_) (fun h19 => ?_)
      ·
        rw [if_pos h19] at hI
        refine VC.seq ?_
        refine VC.reg (VO.l (LO.mv (.r rfl)) rfl<|VO.l (LO.as (.r rfl)) rfl<|VO.nil ?_)
        refine VE.seqN ?_
        refine VC.ret (VE.inR (VE.thenR (VE.inR (VE.thenR (VE.res (vs := [_]) rfl ⟨rfl, trivial⟩ (fun w hw => ?_))))))
        exact ⟨by simp only [resV]; rw [← hI] <;> rfl, hw.nil⟩
      ·
        rw [if_neg h19] at hI
        refine VC.skip (VE.inN ?_)
        refine VE.thenN fun a w ha hw => ⟨(q + (Utf8.decode s q).2, f), ⟨hI, by have := decode_pos s q; dsimp only; omega⟩, (by dsimp only; omega), ha.sub (.cons rfl (.cons rfl (.cons rfl .nil))), hw⟩
    ·
      (exfalso; exact h12 rfl)
  ·
    rw [idxF_end hps] at hI
    refine VC.reg (VO.h rfl<|HO.nextF 0 rfl rfl hps<|VO.h rfl<|HO.lo (LO.ex (.r rfl) rfl)<|VO.nil ?_)
    refine VE.seqN ?_
    refine VC.seq ?_
    refine VC.cond rfl (fun h12 => ?_) (fun h12 => ?_)
    ·
      (exfalso; cases h12)
    ·
      refine VC.exit (VE.thenX (VE.thenX (VE.inX (VE.seqN ?_))))
      refine VC.seq ?_
      refine VC.reg (VO.l (LO.as (.r rfl)) rfl<|VO.nil ?_)
      refine VE.seqN ?_
      refine VC.ret (VE.res (vs := [_]) rfl ⟨rfl, trivial⟩ (fun w hw => ?_))
      exact ⟨by simp only [resV]; rw [← hI] <;> rfl, hw.nil⟩

set_option maxRecDepth 20000 in
theorem IndexFunc_c (s : ByteArray) (w : World) :
  Calls Tryz.prog 238 #[.string s, .func (.func 192) #[] #[]] w fun e w' => e = .returned (.int .i64 (idxF pN s s.size 0)) ∧ St (bs w) [] w' := by
  refine enter (vs := [_,_]) (env := [(0,_), (1,_)]) Tryz.func238 rfl rfl rfl rfl ?_
  refine VC.seq ?_
  refine VC.reg (VO.l (LO.as (.r rfl)) rfl<|VO.nil ?_)
  refine VE.seqN ?_
  refine VC.seq ?_
  refine VC.reg (VO.l (LO.mv (.r rfl)) rfl<|VO.l (LO.mv (.r rfl)) rfl<|VO.l (LO.call (xs := [_,_,_]) (vs := [_,_,_]) C271 ⟨(.r rfl), (.r rfl), (.r rfl), trivial⟩ (fun w _ => indexFunc_c _ w)) rfl<|VO.l (LO.as (.r rfl)) rfl<|VO.nil ?_)
  refine VE.seqN ?_
  refine VC.ret (VE.res (vs := [_]) rfl ⟨rfl, trivial⟩ (fun w hw => ?_))
  exact ⟨rfl, hw.nil⟩

set_option maxRecDepth 20000 in
theorem ContainsFunc_c (s : ByteArray) (w : World) :
  Calls Tryz.prog 191 #[.string s, .func (.func 192) #[] #[]] w fun e w' => e = .returned (.bool (decide (0 ≤ idxF pN s s.size 0))) ∧ St (bs w) [] w' := by
  refine enter (vs := [_,_]) (env := [(0,_), (1,_)]) Tryz.func191 rfl rfl rfl rfl ?_
  refine VC.seq ?_
  refine VC.reg (VO.l (LO.as (.r rfl)) rfl<|VO.nil ?_)
  refine VE.seqN ?_
  refine VC.seq ?_
  refine VC.reg (VO.l (LO.mv (.r rfl)) rfl<|VO.l (LO.mv (.r rfl)) rfl<|VO.l (LO.call (xs := [_,_]) (vs := [_,_]) C238 ⟨(.r rfl), (.r rfl), trivial⟩ (fun w _ => IndexFunc_c _ w)) rfl<|VO.l (LO.ge (.r rfl) (.r rfl)) rfl<|VO.l (LO.as (.r rfl)) rfl<|VO.nil ?_)
  refine VE.seqN ?_
  refine VC.ret (VE.res (vs := [_]) rfl ⟨rfl, trivial⟩ (fun w hw => ?_))
  exact ⟨rfl, hw.nil⟩

end Go.Proofs.YtffbohecdocajaaGreat

namespace Go.Proofs.YtffbohecdocajaaGreat
open Go.SL Go.Proofs Go.Pulse
set_option linter.unusedVariables false

theorem C191 : IsFn Tryz.prog 191 := ⟨_, Tryz.func191, by decide, rfl⟩
theorem F59_0 : FieldAt Tryz.prog 59 0 0 := ⟨_,_, Tryz.underlying59, rfl, rfl, 0, by kernel_rfl⟩
theorem O9 : IsOne Tryz.prog 9 := ⟨⟨_, Tryz.underlying9, rfl⟩, by kernel_rfl⟩
theorem C118 : IsFn Tryz.prog 118 := ⟨_, Tryz.func118, by decide, rfl⟩
theorem F59_1 : FieldAt Tryz.prog 59 1 1 := ⟨_,_, Tryz.underlying59, rfl, rfl, 0, by kernel_rfl⟩
theorem C119 : IsFn Tryz.prog 119 := ⟨_, Tryz.func119, by decide, rfl⟩
theorem F59_4 : FieldAt Tryz.prog 59 4 4 := ⟨_,_, Tryz.underlying59, rfl, rfl, 0, by kernel_rfl⟩
theorem F59_5 : FieldAt Tryz.prog 59 5 5 := ⟨_,_, Tryz.underlying59, rfl, rfl, 0, by kernel_rfl⟩
theorem F59_6 : FieldAt Tryz.prog 59 6 6 := ⟨_,_, Tryz.underlying59, rfl, rfl, 0, by kernel_rfl⟩
theorem F59_7 : FieldAt Tryz.prog 59 7 7 := ⟨_,_, Tryz.underlying59, rfl, rfl, 0, by kernel_rfl⟩
theorem F59_2 : FieldAt Tryz.prog 59 2 2 := ⟨_,_, Tryz.underlying59, rfl, rfl, 0, by kernel_rfl⟩
theorem F59_3 : FieldAt Tryz.prog 59 3 3 := ⟨_,_, Tryz.underlying59, rfl, rfl, 0, by kernel_rfl⟩
def byteAt (s : ByteArray) (j : Nat) : Nat := (s.data.toList.getD j 0).toNat
def nameB (s : ByteArray) : Bool := ((((decide (1 ≤ (s.size : Int)) && decide ((s.size : Int) ≤ 12)) && decide (97 ≤ (byteAt s 0 : Int))) && decide ((byteAt s 0 : Int) ≤ 122)) && (List.range s.size).all fun j => nameR (byteAt s j))
theorem nameB_idx {s : ByteArray} : (!decide (0 ≤ idxF pN s s.size 0)) = (List.range s.size).all fun j => nameR (byteAt s j) := by
  have h := idxF_bytes (p := pN) (s := s) (fun r hr => pN_high r hr) (f := s.size) (q := 0) (by omega)
  rw [Bool.eq_iff_iff, List.all_eq_true]
  constructor
  · intro q j hj
    have h1 : idxF pN s s.size 0 < 0 := by simpa using q
    have := h.1 h1 j (Nat.zero_le _) (List.mem_range.1 hj)
    unfold pN at this
    cases k : nameR (byteAt s j) with
    | true => rfl
    | false => unfold byteAt at k; rw [k] at this; cases this
  · intro q
    have : idxF pN s s.size 0 < 0 := h.2 fun j _ hj => by
      have := q j (List.mem_range.2 hj)
      unfold byteAt at this
      unfold pN; rw [this]; rfl
    simpa using this
theorem LO.neE {P : Program} {β : Bs} {env : Env} {L : List Res} {d : Option Nat} {ty : TypeId} {pos : String} {aft : Array Edge} {g : Option (Nat × Bool)} {xT yT : Nat} {x y : Operand} {s : ByteArray} (hx : OV env x (.string s)) (hy : OV env y (.string ⟨#[]⟩)) : LO P β env L ⟨d, .binOp .neq xT x y yT, ty, pos, aft, g⟩ (.bool (decide (1 ≤ (s.size : Int)))) := by
  have h := LO.neS (P := P) (β := β) (L := L) (d := d) (ty := ty) (pos := pos) (aft := aft) (g := g) (xT := xT) (yT := yT) hx hy
  have e : (!(s.toList == (⟨#[]⟩ : ByteArray).toList)) = decide (1 ≤ (s.size : Int)) := by
    rw [ByteArray.toList_eq, ByteArray.toList_eq]
    have hs : s.data.toList.length = s.size := Array.length_toList
    cases q : s.data.toList with
    | nil => rw [q] at hs; simp at hs; simp [← hs]
    | cons b l => rw [q] at hs; simp at hs; simp; omega
  rw [e] at h
  exact h

structure Site where
  name : ByteArray
  x : Int
  y : Int
  z : Int
  rose : Int
  gates : Int
  step : Int
  width : Int
def siteC (s : Site) : List Value := [.string s.name, .int .i64 s.x, .int .i64 s.y, .int .i64 s.z, .int .i64 s.rose, .int .i64 s.gates, .int .i64 s.step, .int .i64 s.width]
def siteOk (s : Site) : Prop := ((((((((-1048576 ≤ s.x ∧ s.x ≤ 1048576) ∧ -1048576 ≤ s.y ∧ s.y ≤ 1048576) ∧ 0 ≤ s.z ∧ s.z ≤ 20000) ∧ 1 ≤ s.rose ∧ s.rose ≤ 90) ∧ 1 ≤ s.gates ∧ s.gates ≤ 200) ∧ 50 ≤ s.step ∧ s.step ≤ 2000) ∧ 0 ≤ s.width ∧ s.width ≤ 8))
instance (s : Site) : Decidable (siteOk s) := by unfold siteOk; exact inferInstance
def siteE (s : Site) : Int := if nameB s.name = true then (if siteOk s then 0 else 3) else 10
theorem siteE1 {s : Site} (h : ¬ nameB s.name = true) : siteE s = 10 := if_neg h
theorem siteE2 {s : Site} (h : nameB s.name = true) (k : ¬ siteOk s) : siteE s = 3 := by unfold siteE; rw [if_pos h, if_neg k]
theorem siteE3 {s : Site} (h : nameB s.name = true) (k : siteOk s) : siteE s = 0 := by unfold siteE; rw [if_pos h, if_pos k]
theorem nn {b : Bool} (h : ¬ ¬ b = true) : b = true := Classical.not_not.1 h

set_option maxRecDepth 20000 in
theorem Name_c (s : ByteArray) (w : World) :
  Calls Tryz.prog 118 #[.string s] w fun e w' => e = .returned (.bool (nameB s)) ∧ St (bs w) [] w' := by
  refine enter (vs := [_]) (env := [(0,_)]) Tryz.func118 rfl rfl rfl rfl ?_
  refine VC.seq ?_
  refine VC.reg (VO.l (LO.as (.r rfl)) rfl<|VO.nil ?_)
  refine VE.seqN ?_
  refine VC.seq ?_
  refine VC.reg (VO.l (LO.mv (.r rfl)) rfl<|VO.l (LO.neE (.r rfl) (.r rfl)) rfl<|VO.l (LO.mv (.r rfl)) rfl<|VO.lg rfl rfl (GD.t _) (fun hg => LO.mv (.r rfl)) rfl<|VO.lg rfl rfl (GD.t _) (fun hg => LO.lenS Tryz.underlying9 (.g hg rfl) rfl) rfl<|VO.lg rfl rfl (GD.t _) (fun hg => LO.le (.g hg rfl) (.r rfl)) rfl<|VO.l (LO.pkA (.r rfl) rfl rfl (.r rfl)) rfl<|VO.l (LO.mv (.r rfl)) rfl<|VO.lg rfl rfl (GD.t _) (fun hg => LO.mv (.r rfl)) rfl<|VO.lg rfl rfl (GD.t _) (fun hg => LO.ixS (j := 0) Tryz.underlying9 (.g hg rfl) (.r rfl) rfl (by have q := IsP.yes inferInstance hg; omega)) rfl<|VO.lg rfl rfl (GD.t _) (fun hg => LO.ge (.g hg rfl) (.r rfl)) rfl<|VO.l (LO.pkA (.r rfl) rfl rfl (.r rfl)) rfl<|VO.l (LO.mv (.r rfl)) rfl<|VO.lg rfl rfl (GD.t _) (fun hg => LO.mv (.r rfl)) rfl<|VO.lg rfl rfl (GD.t _) (fun hg => LO.ixS (j := 0) Tryz.underlying9 (.g hg rfl) (.r rfl) rfl (by have q := IsP.yes inferInstance hg; omega)) rfl<|VO.lg rfl rfl (GD.t _) (fun hg => LO.le (.g hg rfl) (.r rfl)) rfl<|VO.l (LO.pkA (.r rfl) rfl rfl (.r rfl)) rfl<|VO.l (LO.mv (.r rfl)) rfl<|VO.lg rfl rfl (GD.t _) (fun hg => LO.mv (.r rfl)) rfl<|VO.lg rfl rfl (GD.t _) (fun hg => LO.call (xs := [_,_]) (vs := [_,_]) C191 ⟨(.g hg rfl), (.r rfl), trivial⟩ (fun w _ => ContainsFunc_c _ w)) rfl<|VO.lg rfl rfl (GD.t _) (fun hg => LO.not (.g hg rfl)) rfl<|VO.l (LO.pkA (.r rfl) rfl rfl (.r rfl)) rfl<|VO.l (LO.as (.r rfl)) rfl<|VO.nil ?_)
  refine VE.seqN ?_
  refine VC.ret (VE.res (vs := [_]) rfl ⟨rfl, trivial⟩ (fun w hw => ?_))
  exact ⟨by simp only [resV]; rw [nameB_idx]; rfl, hw.nil⟩

set_option maxRecDepth 20000 in
theorem CheckSite_c (s : Site) (w : World) :
  Calls Tryz.prog 53 #[.agg (siteC s).toArray] w fun e w' => e = .returned (.int .i64 (siteE s)) ∧ St (bs w) [] w' := by
  refine enter (vs := [_]) (env := [(0,_)]) Tryz.func53 rfl rfl rfl rfl ?_
  refine VC.seq ?_
  refine VC.reg (VO.h rfl<|HO.box (C := #[_,_,_,_,_,_,_,_]) rfl rfl fun b1 => VO.l (LO.as (.r rfl)) rfl<|VO.nil ?_)
  refine VE.seqN ?_
  refine VC.seq ?_
  refine VC.block ?_
  refine VC.seq ?_
  refine VC.reg (VO.l (LO.fa (r := 0) F59_0 (.r rfl) rfl) rfl<|VO.l (LO.ld O9 (.r rfl) (fun _ hw => cells_at hw 0 rfl ⟨_, rfl⟩)) rfl<|VO.l (LO.call (xs := [_]) (vs := [_]) C118 ⟨(.r rfl), trivial⟩ (fun w _ => Name_c _ w)) rfl<|VO.l (LO.not (.r rfl)) rfl<|VO.l (LO.as (.r rfl)) rfl<|VO.nil ?_)
  refine VE.seqN ?_
  refine VC.cond rfl (fun hNm => ?_) (fun hNm => ?_)
  ·
    refine VC.seq ?_
    refine VC.reg (VO.l (LO.as (.r rfl)) rfl<|VO.nil ?_)
    refine VE.seqN ?_
    refine VC.ret (VE.inR (VE.thenR (VE.res (vs := [_]) rfl ⟨rfl, trivial⟩ (fun w hw => ?_))))
    refine ⟨?_, hw.nil⟩
    simp only [resV]
    first | (exfalso; omega) | rw [siteE1 hNm] | rw [siteE2 (nn hNm) (by unfold siteOk; omega)] | rw [siteE3 (nn hNm) (by unfold siteOk; omega)]
  ·
    refine VC.seq ?_
    refine VC.seq ?_
    refine VC.reg (VO.l (LO.fa (r := 1) F59_1 (.r rfl) rfl) rfl<|VO.l (LO.ld O3 (.r rfl) (fun _ hw => cells_at hw 0 rfl ⟨_, rfl⟩)) rfl<|VO.l (LO.call (xs := [_,_,_]) (vs := [_,_,_]) C119 ⟨(.r rfl), (.r rfl), (.r rfl), trivial⟩ (fun w _ => bwithin_c _ _ _ w)) rfl<|VO.l (LO.not (.r rfl)) rfl<|VO.l (LO.as (.r rfl)) rfl<|VO.nil ?_)
    refine VE.seqN ?_
    refine VC.cond rfl (fun h2 => ?_) (fun h2 => ?_)
    ·
      refine VC.skip (VE.seqN ?_)
      refine VC.cond rfl (fun h3 => ?_) (fun h3 => ?_)
      ·
        refine VC.seq ?_
        refine VC.reg (VO.l (LO.as (.r rfl)) rfl<|VO.nil ?_)
        refine VE.seqN ?_
        refine VC.ret (VE.inR (VE.thenR (VE.res (vs := [_]) rfl ⟨rfl, trivial⟩ (fun w hw => ?_))))
        refine ⟨?_, hw.nil⟩
        simp only [resV]
        first | (exfalso; omega) | rw [siteE1 hNm] | rw [siteE2 (nn hNm) (by unfold siteOk; omega)] | rw [siteE3 (nn hNm) (by unfold siteOk; omega)]
      ·
        refine VC.seq ?_
        refine VC.seq ?_
        refine VC.reg (VO.l (LO.fa (r := 4) F59_4 (.r rfl) rfl) rfl<|VO.l (LO.ld O3 (.r rfl) (fun _ hw => cells_at hw 0 rfl ⟨_, rfl⟩)) rfl<|VO.l (LO.call (xs := [_,_,_]) (vs := [_,_,_]) C119 ⟨(.r rfl), (.r rfl), (.r rfl), trivial⟩ (fun w _ => bwithin_c _ _ _ w)) rfl<|VO.l (LO.not (.r rfl)) rfl<|VO.l (LO.as (.r rfl)) rfl<|VO.nil ?_)
        refine VE.seqN ?_
        refine VC.cond rfl (fun h4 => ?_) (fun h4 => ?_)
        ·
          refine VC.skip (VE.seqN ?_)
          refine VC.cond rfl (fun h5 => ?_) (fun h5 => ?_)
          ·
            refine VC.seq ?_
            refine VC.reg (VO.l (LO.as (.r rfl)) rfl<|VO.nil ?_)
            refine VE.seqN ?_
            refine VC.ret (VE.inR (VE.thenR (VE.res (vs := [_]) rfl ⟨rfl, trivial⟩ (fun w hw => ?_))))
            refine ⟨?_, hw.nil⟩
            simp only [resV]
            first | (exfalso; omega) | rw [siteE1 hNm] | rw [siteE2 (nn hNm) (by unfold siteOk; omega)] | rw [siteE3 (nn hNm) (by unfold siteOk; omega)]
          ·
            refine VC.skip (VE.inN (VE.seqN ?_))
            refine VC.seq ?_
            refine VC.reg (VO.l (LO.as (.r rfl)) rfl<|VO.nil ?_)
            refine VE.seqN ?_
            refine VC.ret (VE.res (vs := [_]) rfl ⟨rfl, trivial⟩ (fun w hw => ?_))
            refine ⟨?_, hw.nil⟩
            simp only [resV]
            first | (exfalso; omega) | rw [siteE1 hNm] | rw [siteE2 (nn hNm) (by unfold siteOk; omega)] | rw [siteE3 (nn hNm) (by unfold siteOk; omega)]
        ·
          refine VC.seq ?_
          refine VC.reg (VO.l (LO.fa (r := 5) F59_5 (.r rfl) rfl) rfl<|VO.l (LO.ld O3 (.r rfl) (fun _ hw => cells_at hw 0 rfl ⟨_, rfl⟩)) rfl<|VO.l (LO.call (xs := [_,_,_]) (vs := [_,_,_]) C119 ⟨(.r rfl), (.r rfl), (.r rfl), trivial⟩ (fun w _ => bwithin_c _ _ _ w)) rfl<|VO.l (LO.not (.r rfl)) rfl<|VO.l (LO.as (.r rfl)) rfl<|VO.nil ?_)
          refine VE.seqN ?_
          refine VC.cond rfl (fun h6 => ?_) (fun h6 => ?_)
          ·
            refine VC.skip (VE.seqN ?_)
            refine VC.cond rfl (fun h7 => ?_) (fun h7 => ?_)
            ·
              refine VC.seq ?_
              refine VC.reg (VO.l (LO.as (.r rfl)) rfl<|VO.nil ?_)
              refine VE.seqN ?_
              refine VC.ret (VE.inR (VE.thenR (VE.res (vs := [_]) rfl ⟨rfl, trivial⟩ (fun w hw => ?_))))
              refine ⟨?_, hw.nil⟩
              simp only [resV]
              first | (exfalso; omega) | rw [siteE1 hNm] | rw [siteE2 (nn hNm) (by unfold siteOk; omega)] | rw [siteE3 (nn hNm) (by unfold siteOk; omega)]
            ·
              refine VC.skip (VE.inN (VE.seqN ?_))
              refine VC.seq ?_
              refine VC.reg (VO.l (LO.as (.r rfl)) rfl<|VO.nil ?_)
              refine VE.seqN ?_
              refine VC.ret (VE.res (vs := [_]) rfl ⟨rfl, trivial⟩ (fun w hw => ?_))
              refine ⟨?_, hw.nil⟩
              simp only [resV]
              first | (exfalso; omega) | rw [siteE1 hNm] | rw [siteE2 (nn hNm) (by unfold siteOk; omega)] | rw [siteE3 (nn hNm) (by unfold siteOk; omega)]
          ·
            refine VC.seq ?_
            refine VC.reg (VO.l (LO.fa (r := 6) F59_6 (.r rfl) rfl) rfl<|VO.l (LO.ld O3 (.r rfl) (fun _ hw => cells_at hw 0 rfl ⟨_, rfl⟩)) rfl<|VO.l (LO.call (xs := [_,_,_]) (vs := [_,_,_]) C119 ⟨(.r rfl), (.r rfl), (.r rfl), trivial⟩ (fun w _ => bwithin_c _ _ _ w)) rfl<|VO.l (LO.not (.r rfl)) rfl<|VO.l (LO.as (.r rfl)) rfl<|VO.nil ?_)
            refine VE.seqN ?_
            refine VC.cond rfl (fun h8 => ?_) (fun h8 => ?_)
            ·
              refine VC.skip (VE.seqN ?_)
              refine VC.cond rfl (fun h9 => ?_) (fun h9 => ?_)
              ·
                refine VC.seq ?_
                refine VC.reg (VO.l (LO.as (.r rfl)) rfl<|VO.nil ?_)
                refine VE.seqN ?_
                refine VC.ret (VE.inR (VE.thenR (VE.res (vs := [_]) rfl ⟨rfl, trivial⟩ (fun w hw => ?_))))
                refine ⟨?_, hw.nil⟩
                simp only [resV]
                first | (exfalso; omega) | rw [siteE1 hNm] | rw [siteE2 (nn hNm) (by unfold siteOk; omega)] | rw [siteE3 (nn hNm) (by unfold siteOk; omega)]
              ·
                refine VC.skip (VE.inN (VE.seqN ?_))
                refine VC.seq ?_
                refine VC.reg (VO.l (LO.as (.r rfl)) rfl<|VO.nil ?_)
                refine VE.seqN ?_
                refine VC.ret (VE.res (vs := [_]) rfl ⟨rfl, trivial⟩ (fun w hw => ?_))
                refine ⟨?_, hw.nil⟩
                simp only [resV]
                first | (exfalso; omega) | rw [siteE1 hNm] | rw [siteE2 (nn hNm) (by unfold siteOk; omega)] | rw [siteE3 (nn hNm) (by unfold siteOk; omega)]
            ·
              refine VC.reg (VO.l (LO.fa (r := 7) F59_7 (.r rfl) rfl) rfl<|VO.l (LO.ld O3 (.r rfl) (fun _ hw => cells_at hw 0 rfl ⟨_, rfl⟩)) rfl<|VO.l (LO.call (xs := [_,_,_]) (vs := [_,_,_]) C119 ⟨(.r rfl), (.r rfl), (.r rfl), trivial⟩ (fun w _ => bwithin_c _ _ _ w)) rfl<|VO.l (LO.not (.r rfl)) rfl<|VO.l (LO.as (.r rfl)) rfl<|VO.nil ?_)
              refine VE.seqN ?_
              refine VC.cond rfl (fun h10 => ?_) (fun h10 => ?_)
              ·
                refine VC.seq ?_
                refine VC.reg (VO.l (LO.as (.r rfl)) rfl<|VO.nil ?_)
                refine VE.seqN ?_
                refine VC.ret (VE.inR (VE.thenR (VE.res (vs := [_]) rfl ⟨rfl, trivial⟩ (fun w hw => ?_))))
                refine ⟨?_, hw.nil⟩
                simp only [resV]
                first | (exfalso; omega) | rw [siteE1 hNm] | rw [siteE2 (nn hNm) (by unfold siteOk; omega)] | rw [siteE3 (nn hNm) (by unfold siteOk; omega)]
              ·
                refine VC.skip (VE.inN (VE.seqN ?_))
                refine VC.seq ?_
                refine VC.reg (VO.l (LO.as (.r rfl)) rfl<|VO.nil ?_)
                refine VE.seqN ?_
                refine VC.ret (VE.res (vs := [_]) rfl ⟨rfl, trivial⟩ (fun w hw => ?_))
                refine ⟨?_, hw.nil⟩
                simp only [resV]
                first | (exfalso; omega) | rw [siteE1 hNm] | rw [siteE2 (nn hNm) (by unfold siteOk; omega)] | rw [siteE3 (nn hNm) (by unfold siteOk; omega)]
    ·
      refine VC.seq ?_
      refine VC.reg (VO.l (LO.fa (r := 2) F59_2 (.r rfl) rfl) rfl<|VO.l (LO.ld O3 (.r rfl) (fun _ hw => cells_at hw 0 rfl ⟨_, rfl⟩)) rfl<|VO.l (LO.call (xs := [_,_,_]) (vs := [_,_,_]) C119 ⟨(.r rfl), (.r rfl), (.r rfl), trivial⟩ (fun w _ => bwithin_c _ _ _ w)) rfl<|VO.l (LO.not (.r rfl)) rfl<|VO.l (LO.as (.r rfl)) rfl<|VO.nil ?_)
      refine VE.seqN ?_
      refine VC.cond rfl (fun h11 => ?_) (fun h11 => ?_)
      ·
        refine VC.skip (VE.seqN ?_)
        refine VC.cond rfl (fun h12 => ?_) (fun h12 => ?_)
        ·
          refine VC.seq ?_
          refine VC.reg (VO.l (LO.as (.r rfl)) rfl<|VO.nil ?_)
          refine VE.seqN ?_
          refine VC.ret (VE.inR (VE.thenR (VE.res (vs := [_]) rfl ⟨rfl, trivial⟩ (fun w hw => ?_))))
          refine ⟨?_, hw.nil⟩
          simp only [resV]
          first | (exfalso; omega) | rw [siteE1 hNm] | rw [siteE2 (nn hNm) (by unfold siteOk; omega)] | rw [siteE3 (nn hNm) (by unfold siteOk; omega)]
        ·
          refine VC.seq ?_
          refine VC.seq ?_
          refine VC.reg (VO.l (LO.fa (r := 4) F59_4 (.r rfl) rfl) rfl<|VO.l (LO.ld O3 (.r rfl) (fun _ hw => cells_at hw 0 rfl ⟨_, rfl⟩)) rfl<|VO.l (LO.call (xs := [_,_,_]) (vs := [_,_,_]) C119 ⟨(.r rfl), (.r rfl), (.r rfl), trivial⟩ (fun w _ => bwithin_c _ _ _ w)) rfl<|VO.l (LO.not (.r rfl)) rfl<|VO.l (LO.as (.r rfl)) rfl<|VO.nil ?_)
          refine VE.seqN ?_
          refine VC.cond rfl (fun h13 => ?_) (fun h13 => ?_)
          ·
            refine VC.skip (VE.seqN ?_)
            refine VC.cond rfl (fun h14 => ?_) (fun h14 => ?_)
            ·
              refine VC.seq ?_
              refine VC.reg (VO.l (LO.as (.r rfl)) rfl<|VO.nil ?_)
              refine VE.seqN ?_
              refine VC.ret (VE.inR (VE.thenR (VE.res (vs := [_]) rfl ⟨rfl, trivial⟩ (fun w hw => ?_))))
              refine ⟨?_, hw.nil⟩
              simp only [resV]
              first | (exfalso; omega) | rw [siteE1 hNm] | rw [siteE2 (nn hNm) (by unfold siteOk; omega)] | rw [siteE3 (nn hNm) (by unfold siteOk; omega)]
            ·
              refine VC.skip (VE.inN (VE.seqN ?_))
              refine VC.seq ?_
              refine VC.reg (VO.l (LO.as (.r rfl)) rfl<|VO.nil ?_)
              refine VE.seqN ?_
              refine VC.ret (VE.res (vs := [_]) rfl ⟨rfl, trivial⟩ (fun w hw => ?_))
              refine ⟨?_, hw.nil⟩
              simp only [resV]
              first | (exfalso; omega) | rw [siteE1 hNm] | rw [siteE2 (nn hNm) (by unfold siteOk; omega)] | rw [siteE3 (nn hNm) (by unfold siteOk; omega)]
          ·
            refine VC.seq ?_
            refine VC.reg (VO.l (LO.fa (r := 5) F59_5 (.r rfl) rfl) rfl<|VO.l (LO.ld O3 (.r rfl) (fun _ hw => cells_at hw 0 rfl ⟨_, rfl⟩)) rfl<|VO.l (LO.call (xs := [_,_,_]) (vs := [_,_,_]) C119 ⟨(.r rfl), (.r rfl), (.r rfl), trivial⟩ (fun w _ => bwithin_c _ _ _ w)) rfl<|VO.l (LO.not (.r rfl)) rfl<|VO.l (LO.as (.r rfl)) rfl<|VO.nil ?_)
            refine VE.seqN ?_
            refine VC.cond rfl (fun h15 => ?_) (fun h15 => ?_)
            ·
              refine VC.skip (VE.seqN ?_)
              refine VC.cond rfl (fun h16 => ?_) (fun h16 => ?_)
              ·
                refine VC.seq ?_
                refine VC.reg (VO.l (LO.as (.r rfl)) rfl<|VO.nil ?_)
                refine VE.seqN ?_
                refine VC.ret (VE.inR (VE.thenR (VE.res (vs := [_]) rfl ⟨rfl, trivial⟩ (fun w hw => ?_))))
                refine ⟨?_, hw.nil⟩
                simp only [resV]
                first | (exfalso; omega) | rw [siteE1 hNm] | rw [siteE2 (nn hNm) (by unfold siteOk; omega)] | rw [siteE3 (nn hNm) (by unfold siteOk; omega)]
              ·
                refine VC.skip (VE.inN (VE.seqN ?_))
                refine VC.seq ?_
                refine VC.reg (VO.l (LO.as (.r rfl)) rfl<|VO.nil ?_)
                refine VE.seqN ?_
                refine VC.ret (VE.res (vs := [_]) rfl ⟨rfl, trivial⟩ (fun w hw => ?_))
                refine ⟨?_, hw.nil⟩
                simp only [resV]
                first | (exfalso; omega) | rw [siteE1 hNm] | rw [siteE2 (nn hNm) (by unfold siteOk; omega)] | rw [siteE3 (nn hNm) (by unfold siteOk; omega)]
            ·
              refine VC.seq ?_
              refine VC.reg (VO.l (LO.fa (r := 6) F59_6 (.r rfl) rfl) rfl<|VO.l (LO.ld O3 (.r rfl) (fun _ hw => cells_at hw 0 rfl ⟨_, rfl⟩)) rfl<|VO.l (LO.call (xs := [_,_,_]) (vs := [_,_,_]) C119 ⟨(.r rfl), (.r rfl), (.r rfl), trivial⟩ (fun w _ => bwithin_c _ _ _ w)) rfl<|VO.l (LO.not (.r rfl)) rfl<|VO.l (LO.as (.r rfl)) rfl<|VO.nil ?_)
              refine VE.seqN ?_
              refine VC.cond rfl (fun h17 => ?_) (fun h17 => ?_)
              ·
                refine VC.skip (VE.seqN ?_)
                refine VC.cond rfl (fun h18 => ?_) (fun h18 => ?_)
                ·
                  refine VC.seq ?_
                  refine VC.reg (VO.l (LO.as (.r rfl)) rfl<|VO.nil ?_)
                  refine VE.seqN ?_
                  refine VC.ret (VE.inR (VE.thenR (VE.res (vs := [_]) rfl ⟨rfl, trivial⟩ (fun w hw => ?_))))
                  refine ⟨?_, hw.nil⟩
                  simp only [resV]
                  first | (exfalso; omega) | rw [siteE1 hNm] | rw [siteE2 (nn hNm) (by unfold siteOk; omega)] | rw [siteE3 (nn hNm) (by unfold siteOk; omega)]
                ·
                  refine VC.skip (VE.inN (VE.seqN ?_))
                  refine VC.seq ?_
                  refine VC.reg (VO.l (LO.as (.r rfl)) rfl<|VO.nil ?_)
                  refine VE.seqN ?_
                  refine VC.ret (VE.res (vs := [_]) rfl ⟨rfl, trivial⟩ (fun w hw => ?_))
                  refine ⟨?_, hw.nil⟩
                  simp only [resV]
                  first | (exfalso; omega) | rw [siteE1 hNm] | rw [siteE2 (nn hNm) (by unfold siteOk; omega)] | rw [siteE3 (nn hNm) (by unfold siteOk; omega)]
              ·
                refine VC.reg (VO.l (LO.fa (r := 7) F59_7 (.r rfl) rfl) rfl<|VO.l (LO.ld O3 (.r rfl) (fun _ hw => cells_at hw 0 rfl ⟨_, rfl⟩)) rfl<|VO.l (LO.call (xs := [_,_,_]) (vs := [_,_,_]) C119 ⟨(.r rfl), (.r rfl), (.r rfl), trivial⟩ (fun w _ => bwithin_c _ _ _ w)) rfl<|VO.l (LO.not (.r rfl)) rfl<|VO.l (LO.as (.r rfl)) rfl<|VO.nil ?_)
                refine VE.seqN ?_
                refine VC.cond rfl (fun h19 => ?_) (fun h19 => ?_)
                ·
                  refine VC.seq ?_
                  refine VC.reg (VO.l (LO.as (.r rfl)) rfl<|VO.nil ?_)
                  refine VE.seqN ?_
                  refine VC.ret (VE.inR (VE.thenR (VE.res (vs := [_]) rfl ⟨rfl, trivial⟩ (fun w hw => ?_))))
                  refine ⟨?_, hw.nil⟩
                  simp only [resV]
                  first | (exfalso; omega) | rw [siteE1 hNm] | rw [siteE2 (nn hNm) (by unfold siteOk; omega)] | rw [siteE3 (nn hNm) (by unfold siteOk; omega)]
                ·
                  refine VC.skip (VE.inN (VE.seqN ?_))
                  refine VC.seq ?_
                  refine VC.reg (VO.l (LO.as (.r rfl)) rfl<|VO.nil ?_)
                  refine VE.seqN ?_
                  refine VC.ret (VE.res (vs := [_]) rfl ⟨rfl, trivial⟩ (fun w hw => ?_))
                  refine ⟨?_, hw.nil⟩
                  simp only [resV]
                  first | (exfalso; omega) | rw [siteE1 hNm] | rw [siteE2 (nn hNm) (by unfold siteOk; omega)] | rw [siteE3 (nn hNm) (by unfold siteOk; omega)]
      ·
        refine VC.reg (VO.l (LO.fa (r := 3) F59_3 (.r rfl) rfl) rfl<|VO.l (LO.ld O3 (.r rfl) (fun _ hw => cells_at hw 0 rfl ⟨_, rfl⟩)) rfl<|VO.l (LO.call (xs := [_,_,_]) (vs := [_,_,_]) C119 ⟨(.r rfl), (.r rfl), (.r rfl), trivial⟩ (fun w _ => bwithin_c _ _ _ w)) rfl<|VO.l (LO.not (.r rfl)) rfl<|VO.l (LO.as (.r rfl)) rfl<|VO.nil ?_)
        refine VE.seqN ?_
        refine VC.cond rfl (fun h20 => ?_) (fun h20 => ?_)
        ·
          refine VC.seq ?_
          refine VC.reg (VO.l (LO.as (.r rfl)) rfl<|VO.nil ?_)
          refine VE.seqN ?_
          refine VC.ret (VE.inR (VE.thenR (VE.res (vs := [_]) rfl ⟨rfl, trivial⟩ (fun w hw => ?_))))
          refine ⟨?_, hw.nil⟩
          simp only [resV]
          first | (exfalso; omega) | rw [siteE1 hNm] | rw [siteE2 (nn hNm) (by unfold siteOk; omega)] | rw [siteE3 (nn hNm) (by unfold siteOk; omega)]
        ·
          refine VC.seq ?_
          refine VC.seq ?_
          refine VC.reg (VO.l (LO.fa (r := 4) F59_4 (.r rfl) rfl) rfl<|VO.l (LO.ld O3 (.r rfl) (fun _ hw => cells_at hw 0 rfl ⟨_, rfl⟩)) rfl<|VO.l (LO.call (xs := [_,_,_]) (vs := [_,_,_]) C119 ⟨(.r rfl), (.r rfl), (.r rfl), trivial⟩ (fun w _ => bwithin_c _ _ _ w)) rfl<|VO.l (LO.not (.r rfl)) rfl<|VO.l (LO.as (.r rfl)) rfl<|VO.nil ?_)
          refine VE.seqN ?_
          refine VC.cond rfl (fun h21 => ?_) (fun h21 => ?_)
          ·
            refine VC.skip (VE.seqN ?_)
            refine VC.cond rfl (fun h22 => ?_) (fun h22 => ?_)
            ·
              refine VC.seq ?_
              refine VC.reg (VO.l (LO.as (.r rfl)) rfl<|VO.nil ?_)
              refine VE.seqN ?_
              refine VC.ret (VE.inR (VE.thenR (VE.res (vs := [_]) rfl ⟨rfl, trivial⟩ (fun w hw => ?_))))
              refine ⟨?_, hw.nil⟩
              simp only [resV]
              first | (exfalso; omega) | rw [siteE1 hNm] | rw [siteE2 (nn hNm) (by unfold siteOk; omega)] | rw [siteE3 (nn hNm) (by unfold siteOk; omega)]
            ·
              refine VC.skip (VE.inN (VE.seqN ?_))
              refine VC.seq ?_
              refine VC.reg (VO.l (LO.as (.r rfl)) rfl<|VO.nil ?_)
              refine VE.seqN ?_
              refine VC.ret (VE.res (vs := [_]) rfl ⟨rfl, trivial⟩ (fun w hw => ?_))
              refine ⟨?_, hw.nil⟩
              simp only [resV]
              first | (exfalso; omega) | rw [siteE1 hNm] | rw [siteE2 (nn hNm) (by unfold siteOk; omega)] | rw [siteE3 (nn hNm) (by unfold siteOk; omega)]
          ·
            refine VC.seq ?_
            refine VC.reg (VO.l (LO.fa (r := 5) F59_5 (.r rfl) rfl) rfl<|VO.l (LO.ld O3 (.r rfl) (fun _ hw => cells_at hw 0 rfl ⟨_, rfl⟩)) rfl<|VO.l (LO.call (xs := [_,_,_]) (vs := [_,_,_]) C119 ⟨(.r rfl), (.r rfl), (.r rfl), trivial⟩ (fun w _ => bwithin_c _ _ _ w)) rfl<|VO.l (LO.not (.r rfl)) rfl<|VO.l (LO.as (.r rfl)) rfl<|VO.nil ?_)
            refine VE.seqN ?_
            refine VC.cond rfl (fun h23 => ?_) (fun h23 => ?_)
            ·
              refine VC.skip (VE.seqN ?_)
              refine VC.cond rfl (fun h24 => ?_) (fun h24 => ?_)
              ·
                refine VC.seq ?_
                refine VC.reg (VO.l (LO.as (.r rfl)) rfl<|VO.nil ?_)
                refine VE.seqN ?_
                refine VC.ret (VE.inR (VE.thenR (VE.res (vs := [_]) rfl ⟨rfl, trivial⟩ (fun w hw => ?_))))
                refine ⟨?_, hw.nil⟩
                simp only [resV]
                first | (exfalso; omega) | rw [siteE1 hNm] | rw [siteE2 (nn hNm) (by unfold siteOk; omega)] | rw [siteE3 (nn hNm) (by unfold siteOk; omega)]
              ·
                refine VC.skip (VE.inN (VE.seqN ?_))
                refine VC.seq ?_
                refine VC.reg (VO.l (LO.as (.r rfl)) rfl<|VO.nil ?_)
                refine VE.seqN ?_
                refine VC.ret (VE.res (vs := [_]) rfl ⟨rfl, trivial⟩ (fun w hw => ?_))
                refine ⟨?_, hw.nil⟩
                simp only [resV]
                first | (exfalso; omega) | rw [siteE1 hNm] | rw [siteE2 (nn hNm) (by unfold siteOk; omega)] | rw [siteE3 (nn hNm) (by unfold siteOk; omega)]
            ·
              refine VC.seq ?_
              refine VC.reg (VO.l (LO.fa (r := 6) F59_6 (.r rfl) rfl) rfl<|VO.l (LO.ld O3 (.r rfl) (fun _ hw => cells_at hw 0 rfl ⟨_, rfl⟩)) rfl<|VO.l (LO.call (xs := [_,_,_]) (vs := [_,_,_]) C119 ⟨(.r rfl), (.r rfl), (.r rfl), trivial⟩ (fun w _ => bwithin_c _ _ _ w)) rfl<|VO.l (LO.not (.r rfl)) rfl<|VO.l (LO.as (.r rfl)) rfl<|VO.nil ?_)
              refine VE.seqN ?_
              refine VC.cond rfl (fun h25 => ?_) (fun h25 => ?_)
              ·
                refine VC.skip (VE.seqN ?_)
                refine VC.cond rfl (fun h26 => ?_) (fun h26 => ?_)
                ·
                  refine VC.seq ?_
                  refine VC.reg (VO.l (LO.as (.r rfl)) rfl<|VO.nil ?_)
                  refine VE.seqN ?_
                  refine VC.ret (VE.inR (VE.thenR (VE.res (vs := [_]) rfl ⟨rfl, trivial⟩ (fun w hw => ?_))))
                  refine ⟨?_, hw.nil⟩
                  simp only [resV]
                  first | (exfalso; omega) | rw [siteE1 hNm] | rw [siteE2 (nn hNm) (by unfold siteOk; omega)] | rw [siteE3 (nn hNm) (by unfold siteOk; omega)]
                ·
                  refine VC.skip (VE.inN (VE.seqN ?_))
                  refine VC.seq ?_
                  refine VC.reg (VO.l (LO.as (.r rfl)) rfl<|VO.nil ?_)
                  refine VE.seqN ?_
                  refine VC.ret (VE.res (vs := [_]) rfl ⟨rfl, trivial⟩ (fun w hw => ?_))
                  refine ⟨?_, hw.nil⟩
                  simp only [resV]
                  first | (exfalso; omega) | rw [siteE1 hNm] | rw [siteE2 (nn hNm) (by unfold siteOk; omega)] | rw [siteE3 (nn hNm) (by unfold siteOk; omega)]
              ·
                refine VC.reg (VO.l (LO.fa (r := 7) F59_7 (.r rfl) rfl) rfl<|VO.l (LO.ld O3 (.r rfl) (fun _ hw => cells_at hw 0 rfl ⟨_, rfl⟩)) rfl<|VO.l (LO.call (xs := [_,_,_]) (vs := [_,_,_]) C119 ⟨(.r rfl), (.r rfl), (.r rfl), trivial⟩ (fun w _ => bwithin_c _ _ _ w)) rfl<|VO.l (LO.not (.r rfl)) rfl<|VO.l (LO.as (.r rfl)) rfl<|VO.nil ?_)
                refine VE.seqN ?_
                refine VC.cond rfl (fun h27 => ?_) (fun h27 => ?_)
                ·
                  refine VC.seq ?_
                  refine VC.reg (VO.l (LO.as (.r rfl)) rfl<|VO.nil ?_)
                  refine VE.seqN ?_
                  refine VC.ret (VE.inR (VE.thenR (VE.res (vs := [_]) rfl ⟨rfl, trivial⟩ (fun w hw => ?_))))
                  refine ⟨?_, hw.nil⟩
                  simp only [resV]
                  first | (exfalso; omega) | rw [siteE1 hNm] | rw [siteE2 (nn hNm) (by unfold siteOk; omega)] | rw [siteE3 (nn hNm) (by unfold siteOk; omega)]
                ·
                  refine VC.skip (VE.inN (VE.seqN ?_))
                  refine VC.seq ?_
                  refine VC.reg (VO.l (LO.as (.r rfl)) rfl<|VO.nil ?_)
                  refine VE.seqN ?_
                  refine VC.ret (VE.res (vs := [_]) rfl ⟨rfl, trivial⟩ (fun w hw => ?_))
                  refine ⟨?_, hw.nil⟩
                  simp only [resV]
                  first | (exfalso; omega) | rw [siteE1 hNm] | rw [siteE2 (nn hNm) (by unfold siteOk; omega)] | rw [siteE3 (nn hNm) (by unfold siteOk; omega)]

end Go.Proofs.YtffbohecdocajaaGreat

namespace Go.Proofs.YtffbohecdocajaaGreat
open Go.SL Go.Proofs Go.Pulse
set_option linter.unusedVariables false

theorem Z520 : ZeroOf Tryz.prog 520 (.agg #[.int .i64 0, .int .i64 0, .int .i64 0]) := by unfold ZeroOf; kernel_rfl
theorem B520 : Builds Tryz.prog 520 [(0,1), (1,1), (2,1)] [.int .i64 0, .int .i64 0, .int .i64 0] := Builds.mk fun _ => by kernel_rfl
theorem N520 : (Tryz.prog.info? 520).map (·.size) = some 3 := by kernel_rfl
theorem A520 : IsAgg Tryz.prog 520 3 := ⟨⟨_, Tryz.underlying520, rfl⟩, by kernel_rfl⟩
theorem C269 : IsFn Tryz.prog 269 := ⟨_, Tryz.func269, by decide, rfl⟩
theorem F520_0 : FieldAt Tryz.prog 520 0 0 := ⟨_,_, Tryz.underlying520, rfl, rfl, 0, by kernel_rfl⟩
theorem F520_2 : FieldAt Tryz.prog 520 2 2 := ⟨_,_, Tryz.underlying520, rfl, rfl, 0, by kernel_rfl⟩
theorem A59 : IsAgg Tryz.prog 59 8 := ⟨⟨_, Tryz.underlying59, rfl⟩, by kernel_rfl⟩
theorem C270 : IsFn Tryz.prog 270 := ⟨_, Tryz.func270, by decide, rfl⟩
theorem F520_1 : FieldAt Tryz.prog 520 1 1 := ⟨_,_, Tryz.underlying520, rfl, rfl, 0, by kernel_rfl⟩


def nmA : ByteArray := ⟨#[97]⟩
abbrev sitV (z n wd : Int) : List Value := [.string nmA, .int .i64 0, .int .i64 0, .int .i64 z, .int .i64 1, .int .i64 n, .int .i64 1000, .int .i64 wd]
theorem up_bd9 (a b : Int) (hb : 0 < b) (h1 : -9223372036854775807 ≤ a) (h2 : a ≤ 9223372036854775807) : (-9223372036854775807 ≤ a.tdiv b ∧ a.tdiv b ≤ 9223372036854775807) ∧ (-9223372036854775807 ≤ a.tdiv b * b ∧ a.tdiv b * b ≤ 9223372036854775807) ∧ (a.tdiv b * b < a → a.tdiv b + 1 = up a b) ∧ (¬ a.tdiv b * b < a → a.tdiv b = up a b) ∧ -9223372036854775807 ≤ up a b ∧ up a b ≤ 9223372036854775807 := by
  obtain ⟨q1, q2, q3, q4, q5, q6⟩ := down_bd (-a) b hb (by omega) (by omega)
  rw [Int.neg_tdiv] at q1 q2 q3 q4
  rw [Int.neg_mul] at q2 q3 q4
  unfold up
  refine ⟨by omega, by omega, fun h => ?_, fun h => ?_, by omega, by omega⟩
  · have := q3 (by omega); omega
  · have := q4 (by omega); omega
structure RndS (u : Bool) (F : Nat) : Prop where
  f : IsFn Tryz.prog F
  c : ∀ (x y : Int) (w : World), -4611686018427387904 ≤ x → x ≤ 4611686018427387904 → 0 < y → Calls Tryz.prog F #[.int .i64 x, .int .i64 y] w fun e w' => e = .returned (.int .i64 (rnd u x y)) ∧ St (bs w) [] w'
theorem sin_bd {t : Int} (h1 : -30 ≤ t) (h2 : t ≤ 30) : (-30720 ≤ sinT t ∧ sinT t ≤ 30720) ∧ (261000 ≤ cosT t ∧ cosT t ≤ 262144) ∧ 262144 ≤ lenT t ∧ lenT t ≤ 263044 := by
  have := tt_bd h1 h2
  unfold sinT cosT lenT; omega
theorem smul_bd {a b A B : Int} (h0 : 0 ≤ a) (h1 : a ≤ A) (k0 : -B ≤ b) (k1 : b ≤ B) (hB : 0 ≤ B) : -(A * B) ≤ a * b ∧ a * b ≤ A * B := by
  constructor
  · have e1 : a * (-B) ≤ a * b := Int.mul_le_mul_of_nonneg_left k0 h0
    have e2 : a * B ≤ A * B := Int.mul_le_mul_of_nonneg_right h1 hB
    rw [Int.mul_neg] at e1; omega
  · exact Int.le_trans (Int.mul_le_mul_of_nonneg_left k1 h0) (Int.mul_le_mul_of_nonneg_right h1 hB)
theorem rnd_abs {u : Bool} {a d B : Int} (hd : 0 < d) (h1 : -B ≤ a) (h2 : a ≤ B) (hB : 0 ≤ B) : -B ≤ rnd u a d ∧ rnd u a d ≤ B := by
  unfold rnd
  split
  · unfold up
    have := ediv_abs (a := -a) (B := B) hd (by omega) (by omega) hB
    omega
  · exact ediv_abs hd h1 h2 hB
theorem ris_bd {u : Bool} {z t j e : Int} (h1 : -30 ≤ t) (h2 : t ≤ 30) (hj : 0 ≤ j) (hj2 : j ≤ 10) (he : 0 < e) (hz : 0 ≤ z ∧ z ≤ 20000) : (0 ≤ reaV u t j ∧ reaV u t j ≤ 10500) ∧ (0 ≤ reaV u t j * reaV u t j ∧ reaV u t j * reaV u t j ≤ 110250000) ∧ (-645120000 ≤ (2 * j + 1) * 1000 * sinT t ∧ (2 * j + 1) * 1000 * sinT t ≤ 645120000) ∧ (-645120000 ≤ rnd u ((2 * j + 1) * 1000 * sinT t) (2 * lenT t) ∧ rnd u ((2 * j + 1) * 1000 * sinT t) (2 * lenT t) ≤ 645120000) ∧ -110250000 ≤ rnd u (reaV u t j * reaV u t j) (2 * e) ∧ rnd u (reaV u t j * reaV u t j) (2 * e) ≤ 110250000 := by
  have r := reaV_bd h1 h2 hj hj2
  have s := sin_bd h1 h2
  have r1 : 0 ≤ reaV u t j ∧ reaV u t j ≤ 10500 := by cases u <;> omega
  have r2 := mul_bd r1.1 r1.2 r1.1 r1.2
  have r3 := smul_bd (a := (2 * j + 1) * 1000) (b := sinT t) (A := 21000) (B := 30720) (by omega) (by omega) (by omega) (by omega) (by omega)
  refine ⟨r1, ⟨r2.1, by omega⟩, ⟨by omega, by omega⟩, rnd_abs (by omega) (by omega) (by omega) (by omega), rnd_abs (by omega) (by omega) (by omega) (by omega)⟩

set_option maxRecDepth 20000 in
theorem bDown_c (a b : Int) (h1 : -9223372036854775807 ≤ a) (h2 : a ≤ 9223372036854775807) (hb : 0 < b) (w : World) :
  Calls Tryz.prog 233 #[.int .i64 a, .int .i64 b] w fun e w' => e = .returned (.int .i64 (a / b)) ∧ St (bs w) [] w' := by
  have ⟨q1, q2, q3, q4, q5⟩ := down_bd a b hb h1 h2
  refine enter (vs := [_,_]) (env := [(0,_), (1,_)]) Tryz.func233 rfl rfl rfl rfl ?_
  refine VC.seq ?_
  refine VC.reg (VO.l (LO.as (.r rfl)) rfl<|VO.nil ?_)
  refine VE.seqN ?_
  refine VC.seq ?_
  refine VC.reg (VO.l (LO.mv (.r rfl)) rfl<|VO.l (LO.mv (.r rfl)) rfl<|VO.l (LO.quo (.r rfl) (.r rfl) (by omega) (wi (by omega) (by omega))) rfl<|VO.l (LO.as (.r rfl)) rfl<|VO.nil ?_)
  refine VE.seqN ?_
  refine VC.seq ?_
  refine VC.seq ?_
  refine VC.reg (VO.l (LO.mv (.r rfl)) rfl<|VO.l (LO.mv (.r rfl)) rfl<|VO.l (LO.mul (.r rfl) (.r rfl) (wi (by omega) (by omega))) rfl<|VO.l (LO.mv (.r rfl)) rfl<|VO.l (LO.gt (.r rfl) (.r rfl)) rfl<|VO.nil ?_)
  refine VE.seqN ?_
  refine VC.cond rfl (fun h1 => ?_) (fun h1 => ?_)
  ·
    refine VC.reg (VO.l (LO.mv (.r rfl)) rfl<|VO.l (LO.sub (.r rfl) (.r rfl) (wi (by omega) (by omega))) rfl<|VO.l (LO.as (.r rfl)) rfl<|VO.nil ?_)
    refine VE.seqN ?_
    refine VC.seq ?_
    refine VC.reg (VO.l (LO.mv (.r rfl)) rfl<|VO.l (LO.as (.r rfl)) rfl<|VO.nil ?_)
    refine VE.seqN ?_
    refine VC.ret (VE.res (vs := [_]) rfl ⟨rfl, trivial⟩ (fun w hw => ?_))
    exact ⟨by simp only [resV]; congr 2; omega, hw.nil⟩
  ·
    refine VC.skip (VE.seqN ?_)
    refine VC.seq ?_
    refine VC.reg (VO.l (LO.mv (.r rfl)) rfl<|VO.l (LO.as (.r rfl)) rfl<|VO.nil ?_)
    refine VE.seqN ?_
    refine VC.ret (VE.res (vs := [_]) rfl ⟨rfl, trivial⟩ (fun w hw => ?_))
    exact ⟨by simp only [resV]; congr 2; omega, hw.nil⟩

set_option maxRecDepth 20000 in
theorem bUp_c (a b : Int) (h1 : -9223372036854775807 ≤ a) (h2 : a ≤ 9223372036854775807) (hb : 0 < b) (w : World) :
  Calls Tryz.prog 234 #[.int .i64 a, .int .i64 b] w fun e w' => e = .returned (.int .i64 (up a b)) ∧ St (bs w) [] w' := by
  have ⟨q1, q2, q3, q4, q5⟩ := up_bd9 a b hb h1 h2
  refine enter (vs := [_,_]) (env := [(0,_), (1,_)]) Tryz.func234 rfl rfl rfl rfl ?_
  refine VC.seq ?_
  refine VC.reg (VO.l (LO.as (.r rfl)) rfl<|VO.nil ?_)
  refine VE.seqN ?_
  refine VC.seq ?_
  refine VC.reg (VO.l (LO.mv (.r rfl)) rfl<|VO.l (LO.mv (.r rfl)) rfl<|VO.l (LO.quo (.r rfl) (.r rfl) (by omega) (wi (by omega) (by omega))) rfl<|VO.l (LO.as (.r rfl)) rfl<|VO.nil ?_)
  refine VE.seqN ?_
  refine VC.seq ?_
  refine VC.seq ?_
  refine VC.reg (VO.l (LO.mv (.r rfl)) rfl<|VO.l (LO.mv (.r rfl)) rfl<|VO.l (LO.mul (.r rfl) (.r rfl) (wi (by omega) (by omega))) rfl<|VO.l (LO.mv (.r rfl)) rfl<|VO.l (LO.lt (.r rfl) (.r rfl)) rfl<|VO.nil ?_)
  refine VE.seqN ?_
  refine VC.cond rfl (fun h1 => ?_) (fun h1 => ?_)
  ·
    refine VC.reg (VO.l (LO.mv (.r rfl)) rfl<|VO.l (LO.add (.r rfl) (.r rfl) (wi (by omega) (by omega))) rfl<|VO.l (LO.as (.r rfl)) rfl<|VO.nil ?_)
    refine VE.seqN ?_
    refine VC.seq ?_
    refine VC.reg (VO.l (LO.mv (.r rfl)) rfl<|VO.l (LO.as (.r rfl)) rfl<|VO.nil ?_)
    refine VE.seqN ?_
    refine VC.ret (VE.res (vs := [_]) rfl ⟨rfl, trivial⟩ (fun w hw => ?_))
    exact ⟨by simp only [resV]; congr 2; omega, hw.nil⟩
  ·
    refine VC.skip (VE.seqN ?_)
    refine VC.seq ?_
    refine VC.reg (VO.l (LO.mv (.r rfl)) rfl<|VO.l (LO.as (.r rfl)) rfl<|VO.nil ?_)
    refine VE.seqN ?_
    refine VC.ret (VE.res (vs := [_]) rfl ⟨rfl, trivial⟩ (fun w hw => ?_))
    exact ⟨by simp only [resV]; congr 2; omega, hw.nil⟩

set_option maxRecDepth 20000 in
theorem slant_c (t : Int) (ht1 : -30 ≤ t) (ht2 : t ≤ 30) (w : World) :
  Calls Tryz.prog 269 #[.int .i64 t] w fun e w' => e = .returned (.agg #[.int .i64 (cosT t), .int .i64 (sinT t), .int .i64 (lenT t)]) ∧ St (bs w) [] w' := by
  have ⟨q1, q2⟩ := tt_bd ht1 ht2
  refine enter (vs := [_]) (env := [(0,_)]) Tryz.func269 rfl rfl rfl rfl ?_
  refine VC.seq ?_
  refine VC.reg (VO.h rfl<|HO.alloc (C := #[_,_,_]) Z520 rfl fun b1 => VO.nil ?_)
  refine VE.seqN ?_
  refine VC.seq ?_
  refine VC.reg (VO.l (LO.mv (.r rfl)) rfl<|VO.l (LO.mv (.r rfl)) rfl<|VO.l (LO.mul (.r rfl) (.r rfl) (wi (by omega) (by omega))) rfl<|VO.l (LO.sub (.r rfl) (.r rfl) (wi (by omega) (by omega))) rfl<|VO.l (LO.mv (.r rfl)) rfl<|VO.l (LO.mul (.r rfl) (.r rfl) (wi (by omega) (by omega))) rfl<|VO.l (LO.mv (.r rfl)) rfl<|VO.l (LO.mv (.r rfl)) rfl<|VO.l (LO.mul (.r rfl) (.r rfl) (wi (by omega) (by omega))) rfl<|VO.l (LO.add (.r rfl) (.r rfl) (wi (by omega) (by omega))) rfl<|VO.l (LO.bd (ps := [(_,_), (_,_), (_,_)]) (vs := [(_,_), (_,_), (_,_)]) (C := [_,_,_]) B520  ⟨(.r rfl), (.r rfl), (.r rfl), trivial⟩ rfl ⟨_, [_], [_,_,_], rfl, rfl, rfl, rfl, ⟨_, [_], [_,_,_], rfl, rfl, rfl, rfl, ⟨_, [_], [_,_,_], rfl, rfl, rfl, rfl, rfl⟩⟩⟩) rfl<|VO.h0<|HO.st 0 (vs := [_,_,_]) (C' := [_,_,_]) (L' := [_]) N520 rfl rfl rfl rfl rfl rfl rfl rfl<|VO.nil ?_)
  refine VE.seqN ?_
  refine VC.ret (VE.res (vs := [_]) rfl ⟨RV.agg (vs := [_,_,_]) A520 rfl (cells_blk 0 rfl ⟨_, rfl⟩) rfl, trivial⟩ (fun w hw => ?_))
  exact ⟨rfl, hw.nil⟩

set_option maxRecDepth 20000 in
theorem reach_c (u : Bool) (F : Nat) (z n wd t j : Int) (hF : RndS u F) (ht1 : -30 ≤ t) (ht2 : t ≤ 30) (hj : 0 ≤ j) (hj2 : j ≤ 10) (w : World) :
  Calls Tryz.prog 270 #[.agg (sitV z n wd).toArray, .int .i64 t, .int .i64 j, .func (.func F) #[] #[]] w fun e w' => e = .returned (.int .i64 (reaV u t j)) ∧ St (bs w) [] w' := by
  have ⟨q1, q2, q3⟩ := sin_bd ht1 ht2
  have m1 := mul_bd (a := (2 * j + 1) * 1000) (b := cosT t) (A := 21000) (B := 262144) (by omega) (by omega) (by omega) (by omega)
  refine enter (vs := [_,_,_,_]) (env := [(0,_), (1,_), (2,_), (3,_)]) Tryz.func270 rfl rfl rfl rfl ?_
  refine VC.seq ?_
  refine VC.reg (VO.h rfl<|HO.box (C := #[_,_,_,_,_,_,_,_]) rfl rfl fun b1 => VO.l (LO.as (.r rfl)) rfl<|VO.nil ?_)
  refine VE.seqN ?_
  refine VC.seq ?_
  refine VC.reg (VO.l (LO.mv (.r rfl)) rfl<|VO.l (LO.call (xs := [_]) (vs := [_]) C269 ⟨(.r rfl), trivial⟩ (fun w _ => slant_c t ht1 ht2 w)) rfl<|VO.h rfl<|HO.alloc (C := #[_,_,_]) Z520 rfl fun b2 => VO.h0<|HO.st 0 (vs := [_,_,_]) (C' := [_,_,_]) (L' := [_,_]) N520 rfl rfl rfl rfl rfl rfl rfl rfl<|VO.nil ?_)
  refine VE.seqN ?_
  refine VC.seq ?_
  refine VC.reg (VO.l (LO.mv (.r rfl)) rfl<|VO.l (LO.mv (.r rfl)) rfl<|VO.l (LO.mul (.r rfl) (.r rfl) (wi (by omega) (by omega))) rfl<|VO.l (LO.add (.r rfl) (.r rfl) (wi (by omega) (by omega))) rfl<|VO.l (LO.fa (r := 6) F59_6 (.r rfl) rfl) rfl<|VO.l (LO.ld O3 (.r rfl) (fun _ hw => cells_at hw 1 rfl ⟨_, rfl⟩)) rfl<|VO.l (LO.mul (.r rfl) (.r rfl) (wi (by omega) (by omega))) rfl<|VO.l (LO.fa (r := 0) F520_0 (.r rfl) rfl) rfl<|VO.l (LO.ld O3 (.r rfl) (fun _ hw => cells_at hw 0 rfl ⟨_, rfl⟩)) rfl<|VO.l (LO.mul (.r rfl) (.r rfl) (wi (by omega) (by omega))) rfl<|VO.l (LO.fa (r := 2) F520_2 (.r rfl) rfl) rfl<|VO.l (LO.ld O3 (.r rfl) (fun _ hw => cells_at hw 0 rfl ⟨_, rfl⟩)) rfl<|VO.l (LO.mul (.r rfl) (.r rfl) (wi (by omega) (by omega))) rfl<|VO.l (LO.callv (first := []) (cap := []) (xs := [_,_]) (vs := [_,_]) (.r rfl) hF.f ⟨(.r rfl), (.r rfl), trivial⟩ (fun w _ => hF.c _ _ w (by omega) (by omega) (by omega))) rfl<|VO.l (LO.as (.r rfl)) rfl<|VO.nil ?_)
  refine VE.seqN ?_
  refine VC.ret (VE.res (vs := [_]) rfl ⟨rfl, trivial⟩ (fun w hw => ?_))
  exact ⟨rfl, hw.nil⟩

set_option maxRecDepth 20000 in
theorem rise_c (u : Bool) (F : Nat) (z n wd t j ea : Int) (hF : RndS u F) (hz : 0 ≤ z ∧ z ≤ 20000) (ht1 : -30 ≤ t) (ht2 : t ≤ 30) (hj : 0 ≤ j) (hj2 : j ≤ 10) (he : 0 < ea) (he2 : ea ≤ 100000000) (w : World) :
  Calls Tryz.prog 232 #[.agg (sitV z n wd).toArray, .int .i64 t, .int .i64 j, .int .i64 ea, .func (.func F) #[] #[]] w fun e w' => e = .returned (.int .i64 (risV u z t j ea)) ∧ St (bs w) [] w' := by
  have ⟨q1, q2, q3⟩ := sin_bd ht1 ht2
  have ⟨r1, r2, r3, r4, r5⟩ := ris_bd (u := u) ht1 ht2 hj hj2 he hz
  refine enter (vs := [_,_,_,_,_]) (env := [(0,_), (1,_), (2,_), (3,_), (4,_)]) Tryz.func232 rfl rfl rfl rfl ?_
  refine VC.seq ?_
  refine VC.reg (VO.h rfl<|HO.box (C := #[_,_,_,_,_,_,_,_]) rfl rfl fun b1 => VO.l (LO.as (.r rfl)) rfl<|VO.nil ?_)
  refine VE.seqN ?_
  refine VC.seq ?_
  refine VC.reg (VO.l (LO.mv (.r rfl)) rfl<|VO.l (LO.call (xs := [_]) (vs := [_]) C269 ⟨(.r rfl), trivial⟩ (fun w _ => slant_c t ht1 ht2 w)) rfl<|VO.h rfl<|HO.alloc (C := #[_,_,_]) Z520 rfl fun b2 => VO.h0<|HO.st 0 (vs := [_,_,_]) (C' := [_,_,_]) (L' := [_,_]) N520 rfl rfl rfl rfl rfl rfl rfl rfl<|VO.nil ?_)
  refine VE.seqN ?_
  refine VC.seq ?_
  refine VC.reg (VO.l (LO.lda (vs := [_,_,_,_,_,_,_,_]) A59 (.r rfl) (fun _ hw => cells_at hw 1 rfl ⟨_, rfl⟩) rfl) rfl<|VO.l (LO.mv (.r rfl)) rfl<|VO.l (LO.mv (.r rfl)) rfl<|VO.l (LO.mv (.r rfl)) rfl<|VO.l (LO.call (xs := [_,_,_,_]) (vs := [_,_,_,_]) C270 ⟨(.r rfl), (.r rfl), (.r rfl), (.r rfl), trivial⟩ (fun w _ => reach_c u F z n wd t j hF ht1 ht2 hj hj2 w)) rfl<|VO.l (LO.as (.r rfl)) rfl<|VO.nil ?_)
  refine VE.seqN ?_
  refine VC.seq ?_
  refine VC.draw mixed (LL.l (LO.fa (r := 3) F59_3 (.r rfl) rfl) rfl<|LL.l (LO.ld O3 (.r rfl) (fun _ hw => cells_at hw 1 rfl ⟨_, rfl⟩)) rfl<|LL.l (LO.mv (.r rfl)) rfl<|LL.l (LO.mv (.r rfl)) rfl<|LL.l (LO.mul (.r rfl) (.r rfl) (wi (by omega) (by omega))) rfl<|LL.l (LO.add (.r rfl) (.r rfl) (wi (by omega) (by omega))) rfl<|LL.l (LO.fa (r := 6) F59_6 (.r rfl) rfl) rfl<|LL.l (LO.ld O3 (.r rfl) (fun _ hw => cells_at hw 1 rfl ⟨_, rfl⟩)) rfl<|LL.l (LO.mul (.r rfl) (.r rfl) (wi (by omega) (by omega))) rfl<|LL.l (LO.fa (r := 1) F520_1 (.r rfl) rfl) rfl<|LL.l (LO.ld O3 (.r rfl) (fun _ hw => cells_at hw 0 rfl ⟨_, rfl⟩)) rfl<|LL.l (LO.mul (.r rfl) (.r rfl) (wi (by omega) (by omega))) rfl<|LL.l (LO.fa (r := 2) F520_2 (.r rfl) rfl) rfl<|LL.l (LO.ld O3 (.r rfl) (fun _ hw => cells_at hw 0 rfl ⟨_, rfl⟩)) rfl<|LL.l (LO.mul (.r rfl) (.r rfl) (wi (by omega) (by omega))) rfl<|LL.l (LO.callv (first := []) (cap := []) (xs := [_,_]) (vs := [_,_]) (.r rfl) hF.f ⟨(.r rfl), (.r rfl), trivial⟩ (fun w _ => hF.c _ _ w (by omega) (by omega) (by omega))) rfl<|LL.l (LO.add (.r rfl) (.r rfl) (wi (by omega) (by omega))) rfl<|LL.l (LO.mv (.r rfl)) rfl<|LL.l (LO.mv (.r rfl)) rfl<|LL.l (LO.mv (.r rfl)) rfl<|LL.l (LO.mul (.r rfl) (.r rfl) (wi (by omega) (by omega))) rfl<|LL.l (LO.mv (.r rfl)) rfl<|LL.l (LO.mul (.r rfl) (.r rfl) (wi (by omega) (by omega))) rfl<|LL.l (LO.callv (first := []) (cap := []) (xs := [_,_]) (vs := [_,_]) (.r rfl) hF.f ⟨(.r rfl), (.r rfl), trivial⟩ (fun w _ => hF.c _ _ w (by omega) (by omega) (by omega))) rfl<|LL.l (LO.add (.r rfl) (.r rfl) (wi (by omega) (by omega))) rfl<|LL.l (LO.as (.r rfl)) rfl<|LL.nil) (by kernel_rfl) ?_
  refine VE.seqN ?_
  refine VC.ret (VE.res (vs := [_]) rfl ⟨rfl, trivial⟩ (fun w hw => ?_))
  exact ⟨rfl, hw.nil⟩

end Go.Proofs.YtffbohecdocajaaGreat

namespace Go.Proofs.YtffbohecdocajaaGreat
open Go.SL Go.Proofs Go.Pulse
set_option linter.unusedVariables false

theorem C232 : IsFn Tryz.prog 232 := ⟨_, Tryz.func232, by decide, rfl⟩
theorem Z546 : ZeroOf Tryz.prog 546 (.agg #[.int .i64 0, .int .i64 0, .int .i64 0]) := by unfold ZeroOf; kernel_rfl
theorem B546 : Builds Tryz.prog 546 [(0,1), (1,1), (2,1)] [.int .i64 0, .int .i64 0, .int .i64 0] := Builds.mk fun _ => by kernel_rfl
theorem B553 : BuildsA Tryz.prog 553 [(0,3), (3,3), (6,3), (9,3)] [.int .i64 0, .int .i64 0, .int .i64 0, .int .i64 0, .int .i64 0, .int .i64 0, .int .i64 0, .int .i64 0, .int .i64 0, .int .i64 0, .int .i64 0, .int .i64 0] := BuildsA.mk (z := 3) (n := 4) (fun _ => by kernel_rfl) rfl
theorem Z553 : ZeroOf Tryz.prog 553 (.agg #[.int .i64 0, .int .i64 0, .int .i64 0, .int .i64 0, .int .i64 0, .int .i64 0, .int .i64 0, .int .i64 0, .int .i64 0, .int .i64 0, .int .i64 0, .int .i64 0]) := by unfold ZeroOf; kernel_rfl
theorem N553 : (Tryz.prog.info? 553).map (·.size) = some 12 := by kernel_rfl
theorem N546 : (Tryz.prog.info? 546).map (·.size) = some 3 := by kernel_rfl
theorem A546 : IsAgg Tryz.prog 546 3 := ⟨⟨_, Tryz.underlying546, rfl⟩, by kernel_rfl⟩
theorem C298 : IsFn Tryz.prog 298 := ⟨_, Tryz.func298, by decide, rfl⟩
theorem F546_0 : FieldAt Tryz.prog 546 0 0 := ⟨_,_, Tryz.underlying546, rfl, rfl, 0, by kernel_rfl⟩
theorem F546_2 : FieldAt Tryz.prog 546 2 2 := ⟨_,_, Tryz.underlying546, rfl, rfl, 0, by kernel_rfl⟩
theorem C233 : IsFn Tryz.prog 233 := ⟨_, Tryz.func233, by decide, rfl⟩
theorem F546_1 : FieldAt Tryz.prog 546 1 1 := ⟨_,_, Tryz.underlying546, rfl, rfl, 0, by kernel_rfl⟩
theorem F88_0 : FieldAt Tryz.prog 88 0 0 := ⟨_,_, Tryz.underlying88, rfl, rfl, 0, by kernel_rfl⟩
theorem F88_1 : FieldAt Tryz.prog 88 1 1 := ⟨_,_, Tryz.underlying88, rfl, rfl, 0, by kernel_rfl⟩
theorem F88_3 : FieldAt Tryz.prog 88 3 3 := ⟨_,_, Tryz.underlying88, rfl, rfl, 0, by kernel_rfl⟩
theorem F88_2 : FieldAt Tryz.prog 88 2 2 := ⟨_,_, Tryz.underlying88, rfl, rfl, 0, by kernel_rfl⟩
theorem F88_4 : FieldAt Tryz.prog 88 4 4 := ⟨_,_, Tryz.underlying88, rfl, rfl, 0, by kernel_rfl⟩


theorem C234 : IsFn Tryz.prog 234 := ⟨_, Tryz.func234, by decide, rfl⟩
theorem bDF : RndS false 233 := ⟨C233, fun x y w h1 h2 h3 => bDown_c x y (by omega) (by omega) h3 w⟩
theorem bUF : RndS true 234 := ⟨C234, fun x y w h1 h2 h3 => bUp_c x y (by omega) (by omega) h3 w⟩

theorem pix_3 {x y : Int} (hx : 0 ≤ x ∧ x < 10000) (hy : 0 ≤ y ∧ y < 10000) : (y - -10000).tdiv 10000 = 1 ∧ (x - -10000).tdiv 10000 = 1 := by
  constructor
  · rw [Int.tdiv_eq_ediv_of_nonneg (by omega)]; omega
  · rw [Int.tdiv_eq_ediv_of_nonneg (by omega)]; omega

set_option maxRecDepth 20000 in
theorem height_c (z n wd t j : Int) (hz : 0 ≤ z ∧ z ≤ 20000) (ht1 : -30 ≤ t) (ht2 : t ≤ 30) (hj : 0 ≤ j) (hj2 : j ≤ 10) (w : World) :
  Calls Tryz.prog 231 #[.agg (sitV z n wd).toArray, .int .i64 t, .int .i64 j, .agg #[.int .i64 8000000, .int .i64 9000000]] w fun e w' => e = .returned (spanV (heiS z t j)) ∧ St (bs w) [] w' := by
  refine enter (vs := [_,_,_,_]) (env := [(0,_), (1,_), (2,_), (3,_)]) Tryz.func231 rfl rfl rfl rfl ?_
  refine VC.seq ?_
  refine VC.reg (VO.h rfl<|HO.box (C := #[_,_,_,_,_,_,_,_]) rfl rfl fun b1 => VO.h rfl<|HO.box (C := #[_,_]) rfl rfl fun b2 => VO.h rfl<|HO.alloc (C := #[_,_]) Z25 rfl fun b3 => VO.nil ?_)
  refine VE.seqN ?_
  refine VC.seq ?_
  refine VC.drawH [[0,1,2], [1,2]] [some 0, some 0, some 0, some 0, some 0, some 0, some 0, some 0, some 0, some 0, some 0, some 0, some 0, none] mixed (by kernel_rfl) rfl (LX.l (fun _ hJ => LO.lda (vs := [_,_,_,_,_,_,_,_]) A59 (.r rfl) (fun _ hw => cells_at (hJ _ hw) 2 rfl ⟨_, rfl⟩) rfl) rfl<|LX.l (fun _ hJ => LO.mv (.r rfl)) rfl<|LX.l (fun _ hJ => LO.mv (.r rfl)) rfl<|LX.l (fun _ hJ => LO.fa (r := 1) F25_1 (.r rfl) rfl) rfl<|LX.l (fun _ hJ => LO.ld O3 (.r rfl) (fun _ hw => cells_at (hJ _ hw) 1 rfl ⟨_, rfl⟩)) rfl<|LX.l (fun _ hJ => LO.call (xs := [_,_,_,_,_]) (vs := [_,_,_,_,_]) C232 ⟨(.r rfl), (.r rfl), (.r rfl), (.r rfl), (.r rfl), trivial⟩ (fun w _ => rise_c false 233 z n wd t j 9000000 bDF hz (by omega) (by omega) hj hj2 (by omega) (by omega) w)) rfl<|LX.l (fun _ hJ => LO.lda (vs := [_,_,_,_,_,_,_,_]) A59 (.r rfl) (fun _ hw => cells_at (hJ _ hw) 2 rfl ⟨_, rfl⟩) rfl) rfl<|LX.l (fun _ hJ => LO.mv (.r rfl)) rfl<|LX.l (fun _ hJ => LO.mv (.r rfl)) rfl<|LX.l (fun _ hJ => LO.fa (r := 0) F25_0 (.r rfl) rfl) rfl<|LX.l (fun _ hJ => LO.ld O3 (.r rfl) (fun _ hw => cells_at (hJ _ hw) 1 rfl ⟨_, rfl⟩)) rfl<|LX.l (fun _ hJ => LO.call (xs := [_,_,_,_,_]) (vs := [_,_,_,_,_]) C232 ⟨(.r rfl), (.r rfl), (.r rfl), (.r rfl), (.r rfl), trivial⟩ (fun w _ => rise_c true 234 z n wd t j 8000000 bUF hz (by omega) (by omega) hj hj2 (by omega) (by omega) w)) rfl<|LX.l (fun _ hJ => LO.bd (ps := [(_,_), (_,_)]) (vs := [(_,_), (_,_)]) (C := [_,_]) B25  ⟨(.r rfl), (.r rfl), trivial⟩ rfl ⟨_, [_], [_,_], rfl, rfl, rfl, rfl, ⟨_, [_], [_,_], rfl, rfl, rfl, rfl, rfl⟩⟩) rfl<|LX.s<|LX.nil) (HX.s<|HX.s<|HX.s<|HX.s<|HX.s<|HX.s<|HX.s<|HX.s<|HX.s<|HX.s<|HX.s<|HX.s<|HX.s<|HX.h0<|HO.st 0 (vs := [_,_]) (C' := [_,_]) (L' := [_,_,_]) N25 rfl rfl rfl rfl rfl rfl rfl rfl<|⟨fun _ hw => hw.sel [1,2] rfl, HX.nil ?_⟩)
  refine VE.seqN ?_
  refine VC.ret (VE.res (vs := [_]) rfl ⟨RV.agg (vs := [_,_]) A25 rfl (cells_blk 0 rfl ⟨_, rfl⟩) rfl, trivial⟩ (fun w hw => ?_))
  exact ⟨rfl, hw.nil⟩

set_option maxRecDepth 20000 in
theorem dir_c (w : World) :
  Calls Tryz.prog 298 #[.int .i64 2, .int .i64 1] w fun e w' => e = .returned (.agg #[.int .i64 4, .int .i64 3, .int .i64 5]) ∧ St (bs w) [] w' := by
  have hm : (1 : Int).tmod 2 = 1 := by decide
  have hm2 : (1 : Int).tmod 2 * (1 : Int).tmod 2 = 1 := by decide
  refine enter (vs := [_,_]) (env := [(0,_), (1,_)]) Tryz.func298 rfl rfl rfl rfl ?_
  refine VC.seq ?_
  refine VC.reg (VO.h rfl<|HO.alloc (C := #[_,_,_]) Z546 rfl fun b1 => VO.nil ?_)
  refine VE.seqN ?_
  refine VC.seq ?_
  refine VC.reg (VO.l (LO.mv (.r rfl)) rfl<|VO.l (LO.mv (.r rfl)) rfl<|VO.l (LO.rem (.r rfl) (.r rfl) (by decide)) rfl<|VO.l (LO.as (.r rfl)) rfl<|VO.nil ?_)
  refine VE.seqN ?_
  refine VC.seq ?_
  refine VC.reg (VO.l (LO.mv (.r rfl)) rfl<|VO.l (LO.mul (.r rfl) (.r rfl) (wi (by omega) (by omega))) rfl<|VO.l (LO.mv (.r rfl)) rfl<|VO.l (LO.mul (.r rfl) (.r rfl) (wi (by omega) (by omega))) rfl<|VO.l (LO.mv (.r rfl)) rfl<|VO.l (LO.mv (.r rfl)) rfl<|VO.l (LO.mul (.r rfl) (.r rfl) (wi (by omega) (by omega))) rfl<|VO.l (LO.mv (.r rfl)) rfl<|VO.l (LO.mv (.r rfl)) rfl<|VO.l (LO.mul (.r rfl) (.r rfl) (wi (by omega) (by omega))) rfl<|VO.l (LO.sub (.r rfl) (.r rfl) (wi (by omega) (by omega))) rfl<|VO.l (LO.mv (.r rfl)) rfl<|VO.l (LO.mv (.r rfl)) rfl<|VO.l (LO.mul (.r rfl) (.r rfl) (wi (by omega) (by omega))) rfl<|VO.l (LO.mv (.r rfl)) rfl<|VO.l (LO.mv (.r rfl)) rfl<|VO.l (LO.mul (.r rfl) (.r rfl) (wi (by omega) (by omega))) rfl<|VO.l (LO.add (.r rfl) (.r rfl) (wi (by omega) (by omega))) rfl<|VO.l (LO.as (.r rfl)) rfl<|VO.l (LO.as (.r rfl)) rfl<|VO.l (LO.as (.r rfl)) rfl<|VO.nil ?_)
  refine VE.seqN ?_
  refine VC.seq ?_
  refine VC.reg (VO.l (LO.mv (.r rfl)) rfl<|VO.l (LO.mv (.r rfl)) rfl<|VO.l (LO.mv (.r rfl)) rfl<|VO.l (LO.bd (ps := [(_,_), (_,_), (_,_)]) (vs := [(_,_), (_,_), (_,_)]) (C := [_,_,_]) B546  ⟨(.r rfl), (.r rfl), (.r rfl), trivial⟩ rfl ⟨_, [_], [_,_,_], rfl, rfl, rfl, rfl, ⟨_, [_], [_,_,_], rfl, rfl, rfl, rfl, ⟨_, [_], [_,_,_], rfl, rfl, rfl, rfl, rfl⟩⟩⟩) rfl<|VO.l (LO.mv (.r rfl)) rfl<|VO.l (LO.mv (.r rfl)) rfl<|VO.l (LO.neg (.r rfl) (wi (by omega) (by omega))) rfl<|VO.l (LO.mv (.r rfl)) rfl<|VO.l (LO.bd (ps := [(_,_), (_,_), (_,_)]) (vs := [(_,_), (_,_), (_,_)]) (C := [_,_,_]) B546  ⟨(.r rfl), (.r rfl), (.r rfl), trivial⟩ rfl ⟨_, [_], [_,_,_], rfl, rfl, rfl, rfl, ⟨_, [_], [_,_,_], rfl, rfl, rfl, rfl, ⟨_, [_], [_,_,_], rfl, rfl, rfl, rfl, rfl⟩⟩⟩) rfl<|VO.l (LO.mv (.r rfl)) rfl<|VO.l (LO.neg (.r rfl) (wi (by omega) (by omega))) rfl<|VO.l (LO.mv (.r rfl)) rfl<|VO.l (LO.neg (.r rfl) (wi (by omega) (by omega))) rfl<|VO.l (LO.mv (.r rfl)) rfl<|VO.l (LO.bd (ps := [(_,_), (_,_), (_,_)]) (vs := [(_,_), (_,_), (_,_)]) (C := [_,_,_]) B546  ⟨(.r rfl), (.r rfl), (.r rfl), trivial⟩ rfl ⟨_, [_], [_,_,_], rfl, rfl, rfl, rfl, ⟨_, [_], [_,_,_], rfl, rfl, rfl, rfl, ⟨_, [_], [_,_,_], rfl, rfl, rfl, rfl, rfl⟩⟩⟩) rfl<|VO.l (LO.mv (.r rfl)) rfl<|VO.l (LO.neg (.r rfl) (wi (by omega) (by omega))) rfl<|VO.l (LO.mv (.r rfl)) rfl<|VO.l (LO.mv (.r rfl)) rfl<|VO.l (LO.bd (ps := [(_,_), (_,_), (_,_)]) (vs := [(_,_), (_,_), (_,_)]) (C := [_,_,_]) B546  ⟨(.r rfl), (.r rfl), (.r rfl), trivial⟩ rfl ⟨_, [_], [_,_,_], rfl, rfl, rfl, rfl, ⟨_, [_], [_,_,_], rfl, rfl, rfl, rfl, ⟨_, [_], [_,_,_], rfl, rfl, rfl, rfl, rfl⟩⟩⟩) rfl<|VO.l (LO.bda (ps := [(_,_), (_,_), (_,_), (_,_)]) (vs := [(_,_), (_,_), (_,_), (_,_)]) (C := [_,_,_,_,_,_,_,_,_,_,_,_]) B553 rfl ⟨(.r rfl), (.r rfl), (.r rfl), (.r rfl), trivial⟩ rfl ⟨_, [_,_,_], [_,_,_,_,_,_,_,_,_,_,_,_], rfl, rfl, rfl, rfl, ⟨_, [_,_,_], [_,_,_,_,_,_,_,_,_,_,_,_], rfl, rfl, rfl, rfl, ⟨_, [_,_,_], [_,_,_,_,_,_,_,_,_,_,_,_], rfl, rfl, rfl, rfl, ⟨_, [_,_,_], [_,_,_,_,_,_,_,_,_,_,_,_], rfl, rfl, rfl, rfl, rfl⟩⟩⟩⟩) rfl<|VO.h rfl<|HO.alloc (C := #[_,_,_,_,_,_,_,_,_,_,_,_]) Z553 rfl fun b2 => VO.h0<|HO.st 0 (vs := [_,_,_,_,_,_,_,_,_,_,_,_]) (C' := [_,_,_,_,_,_,_,_,_,_,_,_]) (L' := [_,_]) N553 rfl rfl rfl rfl rfl rfl rfl rfl<|VO.nil ?_)
  refine VE.seqN ?_
  refine VC.seq ?_
  refine VC.reg (VO.l (LO.mv (.r rfl)) rfl<|VO.l (LO.mv (.r rfl)) rfl<|VO.l (LO.quo (.r rfl) (.r rfl) (by decide) (wi (by decide) (by decide))) rfl<|VO.l (LO.ixa (j := 0) (r := 0) Tryz.underlying553 N546 (.r rfl) (.r rfl) rfl (by decide) rfl) rfl<|VO.l (LO.lda (vs := [_,_,_]) A546 (.r rfl) (fun _ hw => cells_at hw 0 rfl ⟨_, rfl⟩) rfl) rfl<|VO.h0<|HO.st 1 (vs := [_,_,_]) (C' := [_,_,_]) (L' := [_,_]) N546 rfl rfl rfl rfl rfl rfl rfl rfl<|VO.nil ?_)
  refine VE.seqN ?_
  refine VC.ret (VE.res (vs := [_]) rfl ⟨RV.agg (vs := [_,_,_]) A546 rfl (cells_blk 1 rfl ⟨_, rfl⟩) rfl, trivial⟩ (fun w hw => ?_))
  exact ⟨rfl, hw.nil⟩

set_option maxRecDepth 20000 in
theorem place_c (z n wd t j : Int) (ht1 : -30 ≤ t) (ht2 : t ≤ 30) (hj : 0 ≤ j) (hj2 : j ≤ 10) (w : World) :
  Calls Tryz.prog 267 #[.agg (sitV z n wd).toArray, .int .i64 t, .int .i64 0, .int .i64 j] w fun e w' => e = .returned (.tuple #[.int .i64 (0 + reaV false t j * 4 / 5), .int .i64 (0 + reaV false t j * 3 / 5)]) ∧ St (bs w) [] w' := by
  have q1 := reaV_bd ht1 ht2 hj hj2
  refine enter (vs := [_,_,_,_]) (env := [(0,_), (1,_), (2,_), (3,_)]) Tryz.func267 rfl rfl rfl rfl ?_
  refine VC.seq ?_
  refine VC.reg (VO.h rfl<|HO.box (C := #[_,_,_,_,_,_,_,_]) rfl rfl fun b1 => VO.l (LO.as (.r rfl)) rfl<|VO.l (LO.as (.r rfl)) rfl<|VO.nil ?_)
  refine VE.seqN ?_
  refine VC.seq ?_
  refine VC.reg (VO.l (LO.fa (r := 4) F59_4 (.r rfl) rfl) rfl<|VO.l (LO.ld O3 (.r rfl) (fun _ hw => cells_at hw 0 rfl ⟨_, rfl⟩)) rfl<|VO.l (LO.mul (.r rfl) (.r rfl) (wi (by omega) (by omega))) rfl<|VO.l (LO.mv (.r rfl)) rfl<|VO.l (LO.mul (.r rfl) (.r rfl) (wi (by omega) (by omega))) rfl<|VO.l (LO.add (.r rfl) (.r rfl) (wi (by omega) (by omega))) rfl<|VO.l (LO.call (xs := [_,_]) (vs := [_,_]) C298 ⟨(.r rfl), (.r rfl), trivial⟩ (fun w _ => dir_c w)) rfl<|VO.h rfl<|HO.alloc (C := #[_,_,_]) Z546 rfl fun b2 => VO.h0<|HO.st 0 (vs := [_,_,_]) (C' := [_,_,_]) (L' := [_,_]) N546 rfl rfl rfl rfl rfl rfl rfl rfl<|VO.nil ?_)
  refine VE.seqN ?_
  refine VC.seq ?_
  refine VC.reg (VO.l (LO.lda (vs := [_,_,_,_,_,_,_,_]) A59 (.r rfl) (fun _ hw => cells_at hw 1 rfl ⟨_, rfl⟩) rfl) rfl<|VO.l (LO.mv (.r rfl)) rfl<|VO.l (LO.mv (.r rfl)) rfl<|VO.l (LO.call (xs := [_,_,_,_]) (vs := [_,_,_,_]) C270 ⟨(.r rfl), (.r rfl), (.r rfl), (.r rfl), trivial⟩ (fun w _ => reach_c false 233 z n wd t j bDF ht1 ht2 hj hj2 w)) rfl<|VO.l (LO.as (.r rfl)) rfl<|VO.nil ?_)
  refine VE.seqN ?_
  refine VC.seq ?_
  refine VC.draw mixed (LL.l (LO.fa (r := 1) F59_1 (.r rfl) rfl) rfl<|LL.l (LO.ld O3 (.r rfl) (fun _ hw => cells_at hw 1 rfl ⟨_, rfl⟩)) rfl<|LL.l (LO.mv (.r rfl)) rfl<|LL.l (LO.fa (r := 0) F546_0 (.r rfl) rfl) rfl<|LL.l (LO.ld O3 (.r rfl) (fun _ hw => cells_at hw 0 rfl ⟨_, rfl⟩)) rfl<|LL.l (LO.mul (.r rfl) (.r rfl) (wi (by omega) (by omega))) rfl<|LL.l (LO.fa (r := 2) F546_2 (.r rfl) rfl) rfl<|LL.l (LO.ld O3 (.r rfl) (fun _ hw => cells_at hw 0 rfl ⟨_, rfl⟩)) rfl<|LL.l (LO.call (xs := [_,_]) (vs := [_,_]) C233 ⟨(.r rfl), (.r rfl), trivial⟩ (fun w _ => bDown_c _ _ (by omega) (by omega) (by omega) w)) rfl<|LL.l (LO.add (.r rfl) (.r rfl) (wi (by omega) (by omega))) rfl<|LL.l (LO.fa (r := 2) F59_2 (.r rfl) rfl) rfl<|LL.l (LO.ld O3 (.r rfl) (fun _ hw => cells_at hw 1 rfl ⟨_, rfl⟩)) rfl<|LL.l (LO.mv (.r rfl)) rfl<|LL.l (LO.fa (r := 1) F546_1 (.r rfl) rfl) rfl<|LL.l (LO.ld O3 (.r rfl) (fun _ hw => cells_at hw 0 rfl ⟨_, rfl⟩)) rfl<|LL.l (LO.mul (.r rfl) (.r rfl) (wi (by omega) (by omega))) rfl<|LL.l (LO.fa (r := 2) F546_2 (.r rfl) rfl) rfl<|LL.l (LO.ld O3 (.r rfl) (fun _ hw => cells_at hw 0 rfl ⟨_, rfl⟩)) rfl<|LL.l (LO.call (xs := [_,_]) (vs := [_,_]) C233 ⟨(.r rfl), (.r rfl), trivial⟩ (fun w _ => bDown_c _ _ (by omega) (by omega) (by omega) w)) rfl<|LL.l (LO.add (.r rfl) (.r rfl) (wi (by omega) (by omega))) rfl<|LL.l (LO.as (.r rfl)) rfl<|LL.l (LO.as (.r rfl)) rfl<|LL.nil) (by kernel_rfl) ?_
  refine VE.seqN ?_
  refine VC.ret (VE.res (vs := [_,_]) rfl ⟨rfl, rfl, trivial⟩ (fun w hw => ?_))
  exact ⟨rfl, hw.nil⟩

set_option maxRecDepth 20000 in
theorem pixel_c (x y : Int) (w : World) (hx : 0 ≤ x ∧ x < 10000) (hy : 0 ≤ y ∧ y < 10000) :
  Calls Tryz.prog 268 #[.agg #[.int .i64 (-10000), .int .i64 (-10000), .int .i64 10000, .int .i64 2, .int .i64 2], .int .i64 x, .int .i64 y] w fun e w' => e = .returned (.int .i64 3) ∧ St (bs w) [] w' := by
  have ⟨q1, q2⟩ := pix_3 hx hy
  refine enter (vs := [_,_,_]) (env := [(0,_), (1,_), (2,_)]) Tryz.func268 rfl rfl rfl rfl ?_
  refine VC.seq ?_
  refine VC.reg (VO.h rfl<|HO.box (C := #[_,_,_,_,_]) rfl rfl fun b1 => VO.l (LO.as (.r rfl)) rfl<|VO.nil ?_)
  refine VE.seqN ?_
  refine VC.seq ?_
  refine VC.seq ?_
  refine VC.reg (VO.l (LO.mv (.r rfl)) rfl<|VO.l (LO.fa (r := 0) F88_0 (.r rfl) rfl) rfl<|VO.l (LO.ld O3 (.r rfl) (fun _ hw => cells_at hw 0 rfl ⟨_, rfl⟩)) rfl<|VO.l (LO.lt (.r rfl) (.r rfl)) rfl<|VO.l (LO.mv (.r rfl)) rfl<|VO.lg rfl rfl (GD.f _) (fun hg => LO.mv (.r rfl)) rfl<|VO.lg rfl rfl (GD.f _) (fun hg => LO.fa (r := 1) F88_1 (.r rfl) rfl) rfl<|VO.lg rfl rfl (GD.f _) (fun hg => LO.ld O3 (.g hg rfl) (fun _ hw => cells_at hw 0 rfl ⟨_, rfl⟩)) rfl<|VO.lg rfl rfl (GD.f _) (fun hg => LO.lt (.g hg rfl) (.g hg rfl)) rfl<|VO.l (LO.pkO (.r rfl) (.r rfl) rfl rfl) rfl<|VO.l (LO.mv (.r rfl)) rfl<|VO.lg rfl rfl (GD.f _) (fun hg => LO.mv (.r rfl)) rfl<|VO.lg rfl rfl (GD.f _) (fun hg => LO.fa (r := 0) F88_0 (.r rfl) rfl) rfl<|VO.lg rfl rfl (GD.f _) (fun hg => LO.ld O3 (.g hg rfl) (fun _ hw => cells_at hw 0 rfl ⟨_, rfl⟩)) rfl<|VO.lg rfl rfl (GD.f _) (fun hg => LO.fa (r := 3) F88_3 (.r rfl) rfl) rfl<|VO.lg rfl rfl (GD.f _) (fun hg => LO.ld O3 (.g hg rfl) (fun _ hw => cells_at hw 0 rfl ⟨_, rfl⟩)) rfl<|VO.lg rfl rfl (GD.f _) (fun hg => LO.fa (r := 2) F88_2 (.r rfl) rfl) rfl<|VO.lg rfl rfl (GD.f _) (fun hg => LO.ld O3 (.g hg rfl) (fun _ hw => cells_at hw 0 rfl ⟨_, rfl⟩)) rfl<|VO.lg rfl rfl (GD.f _) (fun hg => LO.mul (.g hg rfl) (.g hg rfl) (wi (by decide) (by decide))) rfl<|VO.lg rfl rfl (GD.f _) (fun hg => LO.add (.g hg rfl) (.g hg rfl) (wi (by decide) (by decide))) rfl<|VO.lg rfl rfl (GD.f _) (fun hg => LO.ge (.g hg rfl) (.g hg rfl)) rfl<|VO.l (LO.pkO (.r rfl) (.r rfl) rfl rfl) rfl<|VO.l (LO.mv (.r rfl)) rfl<|VO.lg rfl rfl (GD.f _) (fun hg => LO.mv (.r rfl)) rfl<|VO.lg rfl rfl (GD.f _) (fun hg => LO.fa (r := 1) F88_1 (.r rfl) rfl) rfl<|VO.lg rfl rfl (GD.f _) (fun hg => LO.ld O3 (.g hg rfl) (fun _ hw => cells_at hw 0 rfl ⟨_, rfl⟩)) rfl<|VO.lg rfl rfl (GD.f _) (fun hg => LO.fa (r := 4) F88_4 (.r rfl) rfl) rfl<|VO.lg rfl rfl (GD.f _) (fun hg => LO.ld O3 (.g hg rfl) (fun _ hw => cells_at hw 0 rfl ⟨_, rfl⟩)) rfl<|VO.lg rfl rfl (GD.f _) (fun hg => LO.fa (r := 2) F88_2 (.r rfl) rfl) rfl<|VO.lg rfl rfl (GD.f _) (fun hg => LO.ld O3 (.g hg rfl) (fun _ hw => cells_at hw 0 rfl ⟨_, rfl⟩)) rfl<|VO.lg rfl rfl (GD.f _) (fun hg => LO.mul (.g hg rfl) (.g hg rfl) (wi (by decide) (by decide))) rfl<|VO.lg rfl rfl (GD.f _) (fun hg => LO.add (.g hg rfl) (.g hg rfl) (wi (by decide) (by decide))) rfl<|VO.lg rfl rfl (GD.f _) (fun hg => LO.ge (.g hg rfl) (.g hg rfl)) rfl<|VO.l (LO.pkO (.r rfl) (.r rfl) rfl rfl) rfl<|VO.nil ?_)
  refine VE.seqN ?_
  refine VC.cond rfl (fun h40 => ?_) (fun h40 => ?_)
  ·
    (exfalso; omega)
  ·
    refine VC.skip (VE.seqN ?_)
    refine VC.seq ?_
    refine VC.draw mixed (LL.l (LO.mv (.r rfl)) rfl<|LL.l (LO.fa (r := 1) F88_1 (.r rfl) rfl) rfl<|LL.l (LO.ld O3 (.r rfl) (fun _ hw => cells_at hw 0 rfl ⟨_, rfl⟩)) rfl<|LL.l (LO.sub (.r rfl) (.r rfl) (wi (by omega) (by omega))) rfl<|LL.l (LO.fa (r := 2) F88_2 (.r rfl) rfl) rfl<|LL.l (LO.ld O3 (.r rfl) (fun _ hw => cells_at hw 0 rfl ⟨_, rfl⟩)) rfl<|LL.l (LO.quo (.r rfl) (.r rfl) (by omega) (wi (by omega) (by omega))) rfl<|LL.l (LO.fa (r := 3) F88_3 (.r rfl) rfl) rfl<|LL.l (LO.ld O3 (.r rfl) (fun _ hw => cells_at hw 0 rfl ⟨_, rfl⟩)) rfl<|LL.l (LO.mul (.r rfl) (.r rfl) (wi (by omega) (by omega))) rfl<|LL.l (LO.mv (.r rfl)) rfl<|LL.l (LO.fa (r := 0) F88_0 (.r rfl) rfl) rfl<|LL.l (LO.ld O3 (.r rfl) (fun _ hw => cells_at hw 0 rfl ⟨_, rfl⟩)) rfl<|LL.l (LO.sub (.r rfl) (.r rfl) (wi (by omega) (by omega))) rfl<|LL.l (LO.fa (r := 2) F88_2 (.r rfl) rfl) rfl<|LL.l (LO.ld O3 (.r rfl) (fun _ hw => cells_at hw 0 rfl ⟨_, rfl⟩)) rfl<|LL.l (LO.quo (.r rfl) (.r rfl) (by omega) (wi (by omega) (by omega))) rfl<|LL.l (LO.add (.r rfl) (.r rfl) (wi (by omega) (by omega))) rfl<|LL.l (LO.as (.r rfl)) rfl<|LL.nil) (by kernel_rfl) ?_
    refine VE.seqN ?_
    refine VC.ret (VE.res (vs := [_]) rfl ⟨rfl, trivial⟩ (fun w hw => ?_))
    exact ⟨by simp only [resV]; rw [q1, q2]; rfl, hw.nil⟩

set_option maxRecDepth 20000 in
theorem valid_c (w : World) :
  Calls Tryz.prog 229 #[.agg #[.int .i64 8000000, .int .i64 9000000]] w fun e w' => e = .returned (.bool true) ∧ St (bs w) [] w' := by
  refine enter (vs := [_]) (env := [(0,_)]) Tryz.func229 rfl rfl rfl rfl ?_
  refine VC.seq ?_
  refine VC.reg (VO.h rfl<|HO.box (C := #[_,_]) rfl rfl fun b1 => VO.l (LO.as (.r rfl)) rfl<|VO.nil ?_)
  refine VE.seqN ?_
  refine VC.seq ?_
  refine VC.reg (VO.l (LO.fa (r := 0) F25_0 (.r rfl) rfl) rfl<|VO.l (LO.ld O3 (.r rfl) (fun _ hw => cells_at hw 0 rfl ⟨_, rfl⟩)) rfl<|VO.l (LO.le (.r rfl) (.r rfl)) rfl<|VO.l (LO.mv (.r rfl)) rfl<|VO.lg rfl rfl (GD.t _) (fun hg => LO.fa (r := 0) F25_0 (.r rfl) rfl) rfl<|VO.lg rfl rfl (GD.t _) (fun hg => LO.ld O3 (.g hg rfl) (fun _ hw => cells_at hw 0 rfl ⟨_, rfl⟩)) rfl<|VO.lg rfl rfl (GD.t _) (fun hg => LO.fa (r := 1) F25_1 (.r rfl) rfl) rfl<|VO.lg rfl rfl (GD.t _) (fun hg => LO.ld O3 (.g hg rfl) (fun _ hw => cells_at hw 0 rfl ⟨_, rfl⟩)) rfl<|VO.lg rfl rfl (GD.t _) (fun hg => LO.le (.g hg rfl) (.g hg rfl)) rfl<|VO.l (LO.pkA (.r rfl) rfl rfl (.r rfl)) rfl<|VO.l (LO.mv (.r rfl)) rfl<|VO.lg rfl rfl (GD.t _) (fun hg => LO.fa (r := 1) F25_1 (.r rfl) rfl) rfl<|VO.lg rfl rfl (GD.t _) (fun hg => LO.ld O3 (.g hg rfl) (fun _ hw => cells_at hw 0 rfl ⟨_, rfl⟩)) rfl<|VO.lg rfl rfl (GD.t _) (fun hg => LO.le (.g hg rfl) (.r rfl)) rfl<|VO.l (LO.pkA (.r rfl) rfl rfl (.r rfl)) rfl<|VO.l (LO.as (.r rfl)) rfl<|VO.nil ?_)
  refine VE.seqN ?_
  refine VC.ret (VE.res (vs := [_]) rfl ⟨rfl, trivial⟩ (fun w hw => ?_))
  exact ⟨rfl, hw.nil⟩

end Go.Proofs.YtffbohecdocajaaGreat
