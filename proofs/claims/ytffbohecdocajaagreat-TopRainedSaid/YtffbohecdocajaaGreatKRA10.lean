/-
  Walks of package beam: bands, fields, the gates under a ray.
  Walks of package beam: how many threads of a beam are blocked.
  Sweeps are checked.
  What rates are asked of is checked.
  The rates of a ray, by the program.
  Rates, by the program.
  Turns that move a little.
  Truths behind samples.
  PulseTruth is walked.
  The echoes of a ray are walked.
  The rates of a ray that was heard, by the law's own function.
  The example of rain.
  Rain: what better receivers and the truth of samples have within what was heard (the plain law).
-/
import Derived.Test.YtffbohecdocajaaGreatKRA09

set_option linter.unusedSimpArgs false
namespace Go.Proofs.YtffbohecdocajaaGreat
open Go.SL Go.Proofs Go.Pulse
set_option linter.unusedVariables false

theorem F108_0 : FieldAt Tryz.prog 108 0 0 := ⟨_,_, Tryz.underlying108, rfl, rfl, 4, by kernel_rfl⟩
theorem A88 : IsAgg Tryz.prog 88 5 := ⟨⟨_, Tryz.underlying88, rfl⟩, by kernel_rfl⟩
theorem C83 : IsFn Tryz.prog 83 := ⟨_, Tryz.func83, by decide, rfl⟩
theorem F108_1 : FieldAt Tryz.prog 108 1 5 := ⟨_,_, Tryz.underlying108, rfl, rfl, 0, by kernel_rfl⟩
theorem C53 : IsFn Tryz.prog 53 := ⟨_, Tryz.func53, by decide, rfl⟩
theorem C229 : IsFn Tryz.prog 229 := ⟨_, Tryz.func229, by decide, rfl⟩
theorem C267 : IsFn Tryz.prog 267 := ⟨_, Tryz.func267, by decide, rfl⟩
theorem C268 : IsFn Tryz.prog 268 := ⟨_, Tryz.func268, by decide, rfl⟩


theorem rep_get {G : Span} {i : Nat} (hi : i < 4) : (List.replicate 4 G).getD i zsp = G := by
  rw [List.getD_eq_getElem?_getD, List.getElem?_replicate, if_pos hi]; rfl
theorem g4_at {w0 : World} {L : List Res} {pg : Option Addr} {G : Span} (hg : Spans w0 pg (List.replicate 4 G)) {j : Nat} (hj : j < 4) : ∀ w, St (bs w0) L w → Cells w ⟨pb pg, po pg + j * 2, none⟩ (spanC G) := fun w hw => by
  have := hg.at zsp (j := j) (by rw [List.length_replicate]; exact hj) w hw
  rwa [rep_get hj] at this
abbrev grdV : List Value := [.int .i64 (-10000), .int .i64 (-10000), .int .i64 10000, .int .i64 2, .int .i64 2]
abbrev fldV (pg : Option Addr) (cg : Nat) : List Value := [.int .i64 (-10000), .int .i64 (-10000), .int .i64 10000, .int .i64 2, .int .i64 2, .slice pg 4 cg]
abbrev earV : Value := .agg #[.int .i64 8000000, .int .i64 9000000]
theorem nm_ok : nameB nmA = true := by decide +kernel
theorem sit_0 {z n wd : Int} (hz : 0 ≤ z ∧ z ≤ 20000) (hn : 1 ≤ n ∧ n ≤ 200) (hw : 0 ≤ wd ∧ wd ≤ 8) : siteE ⟨nmA, 0,0, z, 1, n, 1000, wd⟩ = 0 := siteE3 nm_ok (by unfold siteOk; dsimp only; omega)
theorem tE_v {z n wd : Int} (hz : 0 ≤ z ∧ z ≤ 20000) (hn : 1 ≤ n ∧ n ≤ 200) (hw : 0 ≤ wd ∧ wd ≤ 8) (w : World) : Calls Tryz.prog 53 #[.agg (sitV z n wd).toArray] w fun e w' => e = .returned (.int .i64 0) ∧ St (bs w) [] w' := by
  have h := CheckSite_c ⟨nmA, 0,0, z, 1, n, 1000, wd⟩ w
  rw [sit_0 hz hn hw] at h; exact h

/-- What the gates under a ray are found by. -/
structure UndC (z : Int) (n : Nat) (wd t : Int) (G : Span) (pg : Option Addr) (cg : Nat) (q : Nat × Nat × Nat × Nat) (w : World) : Prop where
  s : Cells w ⟨q.1,0, none⟩ (sitV z n wd)
  t : Cells w ⟨q.2.1,0, none⟩ [.int .i64 t]
  r : Cells w ⟨q.2.2.1,0, none⟩ [.int .i64 0]
  f : Cells w ⟨q.2.2.2,0, none⟩ (fldV pg cg)
  g : Spans w pg (List.replicate 4 G)
def undS (n : Nat) (G : Span) : List (List Value) := (List.range n).map fun j => [.int .i64 (j : Nat), spanV G]
theorem und_at {n j : Nat} {G : Span} (h : j < n) : (undS n G)[j]? = some [.int .i64 (j : Nat), spanV G] := by
  unfold undS; rw [List.getElem?_map, List.getElem?_range h]; rfl
theorem und_len {n : Nat} {G : Span} : (undS n G).length = n := by unfold undS; rw [List.length_map, List.length_range]
theorem pl_bd {t j : Int} (h1 : -30 ≤ t) (h2 : t ≤ 30) (hj : 0 ≤ j) (hj2 : j ≤ 10) : (0 ≤ 0 + reaV false t j * 4 / 5 ∧ 0 + reaV false t j * 4 / 5 < 10000) ∧ 0 ≤ 0 + reaV false t j * 3 / 5 ∧ 0 + reaV false t j * 3 / 5 < 10000 := by
  have := reaV_bd h1 h2 hj hj2
  omega
theorem g4_here {w : World} {pg : Option Addr} {G : Span} (hg : Spans w pg (List.replicate 4 G)) {j : Nat} (hj : j < 4) : Cells w ⟨pb pg, po pg + j * 2, none⟩ (spanC G) := by
  have := hg.here zsp (j := j) (by rw [List.length_replicate]; exact hj)
  rwa [rep_get hj] at this

set_option maxRecDepth 20000 in
theorem grid_c (w : World) :
  Calls Tryz.prog 83 #[.agg grdV.toArray] w fun e w' => e = .returned (.int .i64 0) ∧ St (bs w) [] w' := by
  refine enter (vs := [_]) (env := [(0,_)]) Tryz.func83 rfl rfl rfl rfl ?_
  refine VC.seq ?_
  refine VC.reg (VO.h rfl<|HO.box (C := #[_,_,_,_,_]) rfl rfl fun b1 => VO.l (LO.as (.r rfl)) rfl<|VO.nil ?_)
  refine VE.seqN ?_
  refine VC.seq ?_
  refine VC.block ?_
  refine VC.seq ?_
  refine VC.seq ?_
  refine VC.reg (VO.l (LO.fa (r := 0) F88_0 (.r rfl) rfl) rfl<|VO.l (LO.ld O3 (.r rfl) (fun _ hw => cells_at hw 0 rfl ⟨_, rfl⟩)) rfl<|VO.l (LO.call (xs := [_,_,_]) (vs := [_,_,_]) C119 ⟨(.r rfl), (.r rfl), (.r rfl), trivial⟩ (fun w _ => bwithin_c _ _ _ w)) rfl<|VO.l (LO.not (.r rfl)) rfl<|VO.l (LO.as (.r rfl)) rfl<|VO.nil ?_)
  refine VE.seqN ?_
  refine VC.cond rfl (fun h3 => ?_) (fun h3 => ?_)
  ·
    (exfalso; omega)
  ·
    refine VC.seq ?_
    refine VC.reg (VO.l (LO.fa (r := 1) F88_1 (.r rfl) rfl) rfl<|VO.l (LO.ld O3 (.r rfl) (fun _ hw => cells_at hw 0 rfl ⟨_, rfl⟩)) rfl<|VO.l (LO.call (xs := [_,_,_]) (vs := [_,_,_]) C119 ⟨(.r rfl), (.r rfl), (.r rfl), trivial⟩ (fun w _ => bwithin_c _ _ _ w)) rfl<|VO.l (LO.not (.r rfl)) rfl<|VO.l (LO.as (.r rfl)) rfl<|VO.nil ?_)
    refine VE.seqN ?_
    refine VC.cond rfl (fun h3 => ?_) (fun h3 => ?_)
    ·
      (exfalso; omega)
    ·
      refine VC.seq ?_
      refine VC.reg (VO.l (LO.fa (r := 2) F88_2 (.r rfl) rfl) rfl<|VO.l (LO.ld O3 (.r rfl) (fun _ hw => cells_at hw 0 rfl ⟨_, rfl⟩)) rfl<|VO.l (LO.call (xs := [_,_,_]) (vs := [_,_,_]) C119 ⟨(.r rfl), (.r rfl), (.r rfl), trivial⟩ (fun w _ => bwithin_c _ _ _ w)) rfl<|VO.l (LO.not (.r rfl)) rfl<|VO.l (LO.as (.r rfl)) rfl<|VO.nil ?_)
      refine VE.seqN ?_
      refine VC.cond rfl (fun h3 => ?_) (fun h3 => ?_)
      ·
        (exfalso; omega)
      ·
        refine VC.seq ?_
        refine VC.reg (VO.l (LO.fa (r := 3) F88_3 (.r rfl) rfl) rfl<|VO.l (LO.ld O3 (.r rfl) (fun _ hw => cells_at hw 0 rfl ⟨_, rfl⟩)) rfl<|VO.l (LO.call (xs := [_,_,_]) (vs := [_,_,_]) C119 ⟨(.r rfl), (.r rfl), (.r rfl), trivial⟩ (fun w _ => bwithin_c _ _ _ w)) rfl<|VO.l (LO.not (.r rfl)) rfl<|VO.l (LO.as (.r rfl)) rfl<|VO.nil ?_)
        refine VE.seqN ?_
        refine VC.cond rfl (fun h3 => ?_) (fun h3 => ?_)
        ·
          (exfalso; omega)
        ·
          refine VC.reg (VO.l (LO.fa (r := 4) F88_4 (.r rfl) rfl) rfl<|VO.l (LO.ld O3 (.r rfl) (fun _ hw => cells_at hw 0 rfl ⟨_, rfl⟩)) rfl<|VO.l (LO.call (xs := [_,_,_]) (vs := [_,_,_]) C119 ⟨(.r rfl), (.r rfl), (.r rfl), trivial⟩ (fun w _ => bwithin_c _ _ _ w)) rfl<|VO.l (LO.not (.r rfl)) rfl<|VO.l (LO.as (.r rfl)) rfl<|VO.nil ?_)
          refine VE.seqN ?_
          refine VC.cond rfl (fun h3 => ?_) (fun h3 => ?_)
          ·
            (exfalso; omega)
          ·
            refine VC.skip (VE.inN (VE.seqN ?_))
            refine VC.seq ?_
            refine VC.reg (VO.l (LO.as (.r rfl)) rfl<|VO.nil ?_)
            refine VE.seqN ?_
            refine VC.ret (VE.res (vs := [_]) rfl ⟨rfl, trivial⟩ (fun w hw => ?_))
            exact ⟨rfl, hw.nil⟩

set_option maxRecDepth 20000 in
theorem check_c (G : Span) (pg : Option Addr) (cg : Nat) (w : World) (hg : Spans w pg (List.replicate 4 G)) (hG : 0 ≤ G.lo ∧ G.lo ≤ G.hi ∧ G.hi ≤ 20000) :
  Calls Tryz.prog 157 #[.agg (fldV pg cg).toArray, .int .i64 20000] w fun e w' => e = .returned (.int .i64 0) ∧ St (bs w) [] w' := by
  refine enter (vs := [_,_]) (env := [(0,_), (1,_)]) Tryz.func157 rfl rfl rfl rfl ?_
  refine VC.seq ?_
  refine VC.reg (VO.h rfl<|HO.box (C := #[_,_,_,_,_,_]) rfl rfl fun b1 => VO.l (LO.as (.r rfl)) rfl<|VO.nil ?_)
  refine VE.seqN ?_
  refine VC.seq ?_
  refine VC.seq ?_
  refine VC.reg (VO.l (LO.fa (r := 0) F108_0 (.r rfl) rfl) rfl<|VO.l (LO.lda (vs := [_,_,_,_,_]) A88 (.r rfl) (fun _ hw => cells_at hw 0 rfl ⟨_, rfl⟩) rfl) rfl<|VO.l (LO.call (xs := [_]) (vs := [_]) C83 ⟨(.r rfl), trivial⟩ (fun w _ => grid_c w)) rfl<|VO.l (LO.as (.r rfl)) rfl<|VO.nil ?_)
  refine VE.seqN ?_
  refine VC.seq ?_
  refine VC.reg (VO.l (LO.mv (.r rfl)) rfl<|VO.l (LO.ne (.r rfl) (.r rfl)) rfl<|VO.nil ?_)
  refine VE.seqN ?_
  refine VC.cond rfl (fun h12 => ?_) (fun h12 => ?_)
  ·
    (exfalso; exact h12 rfl)
  ·
    refine VC.skip (VE.seqN ?_)
    refine VC.seq ?_
    refine VC.seq ?_
    refine VC.reg (VO.l (LO.fa (r := 5) F108_1 (.r rfl) rfl) rfl<|VO.l (LO.ld O45 (.r rfl) (fun _ hw => cells_at hw 0 rfl ⟨_, rfl⟩)) rfl<|VO.l (LO.len S45 (.r rfl) rfl) rfl<|VO.l (LO.fa (r := 0) F108_0 (.r rfl) rfl) rfl<|VO.l (LO.fa (r := 3) F88_3 (.r rfl) rfl) rfl<|VO.l (LO.ld O3 (.r rfl) (fun _ hw => cells_at hw 0 rfl ⟨_, rfl⟩)) rfl<|VO.l (LO.fa (r := 0) F108_0 (.r rfl) rfl) rfl<|VO.l (LO.fa (r := 4) F88_4 (.r rfl) rfl) rfl<|VO.l (LO.ld O3 (.r rfl) (fun _ hw => cells_at hw 0 rfl ⟨_, rfl⟩)) rfl<|VO.l (LO.mul (.r rfl) (.r rfl) (wi (by omega) (by omega))) rfl<|VO.l (LO.ne (.r rfl) (.r rfl)) rfl<|VO.nil ?_)
    refine VE.seqN ?_
    refine VC.cond rfl (fun h24 => ?_) (fun h24 => ?_)
    ·
      (exfalso; omega)
    ·
      refine VC.skip (VE.seqN ?_)
      refine VC.seq ?_
      refine VC.seq ?_
      refine VC.reg (VO.l (LO.fa (r := 5) F108_1 (.r rfl) rfl) rfl<|VO.l (LO.ld O45 (.r rfl) (fun _ hw => cells_at hw 0 rfl ⟨_, rfl⟩)) rfl<|VO.l (LO.len S45 (.r rfl) rfl) rfl<|VO.l (LO.mv (.r rfl)) rfl<|VO.nil ?_)
      refine VE.seqN ?_
      refine VC.block ?_
      refine VC.loopK (α := Nat) 0 (fun gx => [(28, .int .i64 (gx : Nat))]) [(1,_), (26,_), (27,_)] (fun gx => []) (fun gx => gx ≤ 4) (fun gx => 4 - gx) 0 (by decide) (.cons rfl (.cons rfl (.cons rfl (.cons rfl .nil)))) (fun _ h => h) ?_
      rintro i hi
      refine VC.seq ?_
      refine VC.reg (VO.l (LO.lt (.r rfl) (.r rfl)) rfl<|VO.nil ?_)
      refine VE.seqN ?_
      refine VC.seq ?_
      refine VC.cond rfl (fun h3 => ?_) (fun h3 => ?_)
      ·
        refine VC.skip (VE.seqN ?_)
        refine VC.seq ?_
        refine VC.block ?_
        refine VC.seq ?_
        refine VC.reg (VO.l (LO.ixs S45 N25 (show SlSome pg 4 from hg.sm) (.r rfl) (.r rfl) rfl (by omega)) rfl<|VO.l (LO.lda (vs := [_,_]) A25 (.r rfl) (fun w hw => cells_part (off := 0) ((g4_at hg (j := i) (by omega)) w hw) ⟨_, rfl⟩) rfl) rfl<|VO.h rfl<|HO.alloc (C := #[_,_]) Z25 rfl fun b2 => VO.h0<|HO.st 0 (vs := [_,_]) (C' := [_,_]) (L' := [_,_]) N25 rfl rfl rfl rfl rfl rfl rfl rfl<|VO.nil ?_)
        refine VE.seqN ?_
        refine VC.seq ?_
        refine VC.reg (VO.l (LO.fa (r := 0) F25_0 (.r rfl) rfl) rfl<|VO.l (LO.ld O3 (.r rfl) (fun _ hw => cells_at hw 0 rfl ⟨_, rfl⟩)) rfl<|VO.l (LO.lt (.r rfl) (.r rfl)) rfl<|VO.l (LO.mv (.r rfl)) rfl<|VO.lg rfl rfl (GD.f _) (fun hg => LO.fa (r := 1) F25_1 (.r rfl) rfl) rfl<|VO.lg rfl rfl (GD.f _) (fun hg => LO.ld O3 (.g hg rfl) (fun _ hw => cells_at hw 0 rfl ⟨_, rfl⟩)) rfl<|VO.lg rfl rfl (GD.f _) (fun hg => LO.fa (r := 0) F25_0 (.r rfl) rfl) rfl<|VO.lg rfl rfl (GD.f _) (fun hg => LO.ld O3 (.g hg rfl) (fun _ hw => cells_at hw 0 rfl ⟨_, rfl⟩)) rfl<|VO.lg rfl rfl (GD.f _) (fun hg => LO.lt (.g hg rfl) (.g hg rfl)) rfl<|VO.l (LO.pkO (.r rfl) (.r rfl) rfl rfl) rfl<|VO.l (LO.mv (.r rfl)) rfl<|VO.lg rfl rfl (GD.f _) (fun hg => LO.fa (r := 1) F25_1 (.r rfl) rfl) rfl<|VO.lg rfl rfl (GD.f _) (fun hg => LO.ld O3 (.g hg rfl) (fun _ hw => cells_at hw 0 rfl ⟨_, rfl⟩)) rfl<|VO.lg rfl rfl (GD.f _) (fun hg => LO.mv (.r rfl)) rfl<|VO.lg rfl rfl (GD.f _) (fun hg => LO.gt (.g hg rfl) (.g hg rfl)) rfl<|VO.l (LO.pkO (.r rfl) (.r rfl) rfl rfl) rfl<|VO.nil ?_)
        refine VE.seqN ?_
        refine VC.cond rfl (fun h47 => ?_) (fun h47 => ?_)
        ·
          (exfalso; omega)
        ·
          refine VC.skip (VE.inN (VE.seqN ?_))
          refine VC.reg (VO.l (LO.add (.r rfl) (.r rfl) (wi (by omega) (by omega))) rfl<|VO.l (LO.mv (.r rfl)) rfl<|VO.nil ?_)
          refine VE.thenN fun a w ha hw => ⟨i + 1, (by omega), (by omega), ha.sub (.cons rfl (.cons rfl (.cons rfl (.cons rfl .nil)))), hw.sel [1] rfl⟩
      ·
        refine VC.exit (VE.thenX (VE.thenX (VE.inX (VE.seqN ?_))))
        refine VC.seq ?_
        refine VC.reg (VO.l (LO.as (.r rfl)) rfl<|VO.nil ?_)
        refine VE.seqN ?_
        refine VC.ret (VE.res (vs := [_]) rfl ⟨rfl, trivial⟩ (fun w hw => ?_))
        exact ⟨rfl, hw.nil⟩

set_option maxRecDepth 20000 in
theorem band_c (z n wd t j : Int) (hz : 0 ≤ z ∧ z ≤ 20000) (hn : 1 ≤ n ∧ n ≤ 200) (hwd : 0 ≤ wd ∧ wd ≤ 8) (ht : 0 ≤ t ∧ t ≤ 15) (hw2 : wd ≤ 2) (hj : 0 ≤ j ∧ j ≤ 5) (hjn : j < n) (w : World) :
  Calls Tryz.prog 187 #[.agg (sitV z n wd).toArray, .int .i64 t, earV, .int .i64 j] w fun e w' => e = .returned (.tuple #[spanV (banS z t wd j), .int .i64 0]) ∧ St (bs w) [] w' := by
  refine enter (vs := [_,_,_,_]) (env := [(0,_), (1,_), (2,_), (3,_)]) Tryz.func187 rfl rfl rfl rfl ?_
  refine VC.seq ?_
  refine VC.reg (VO.h rfl<|HO.box (C := #[_,_,_,_,_,_,_,_]) rfl rfl fun b1 => VO.h rfl<|HO.box (C := #[_,_]) rfl rfl fun b2 => VO.h rfl<|HO.alloc (C := #[_,_]) Z25 rfl fun b3 => VO.l (LO.as (.r rfl)) rfl<|VO.nil ?_)
  refine VE.seqN ?_
  refine VC.seq ?_
  refine VC.seq ?_
  refine VC.reg (VO.l (LO.lda (vs := [_,_,_,_,_,_,_,_]) A59 (.r rfl) (fun _ hw => cells_at hw 2 rfl ⟨_, rfl⟩) rfl) rfl<|VO.l (LO.call (xs := [_]) (vs := [_]) C53 ⟨(.r rfl), trivial⟩ (fun w _ => tE_v hz hn hwd w)) rfl<|VO.l (LO.as (.r rfl)) rfl<|VO.nil ?_)
  refine VE.seqN ?_
  refine VC.seq ?_
  refine VC.reg (VO.l (LO.mv (.r rfl)) rfl<|VO.l (LO.ne (.r rfl) (.r rfl)) rfl<|VO.nil ?_)
  refine VE.seqN ?_
  refine VC.cond rfl (fun h14 => ?_) (fun h14 => ?_)
  ·
    (exfalso; exact h14 rfl)
  ·
    refine VC.skip (VE.seqN ?_)
    refine VC.seq ?_
    refine VC.seq ?_
    refine VC.reg (VO.l (LO.mv (.r rfl)) rfl<|VO.l (LO.call (xs := [_,_,_]) (vs := [_,_,_]) C119 ⟨(.r rfl), (.r rfl), (.r rfl), trivial⟩ (fun w _ => bwithin_c _ _ _ w)) rfl<|VO.l (LO.not (.r rfl)) rfl<|VO.l (LO.mv (.r rfl)) rfl<|VO.lg rfl rfl (GD.f _) (fun hg => LO.lda (vs := [_,_]) A25 (.r rfl) (fun _ hw => cells_at hw 1 rfl ⟨_, rfl⟩) rfl) rfl<|VO.lg rfl rfl (GD.f _) (fun hg => LO.call (xs := [_]) (vs := [_]) C229 ⟨(.g hg rfl), trivial⟩ (fun w _ => valid_c w)) rfl<|VO.lg rfl rfl (GD.f _) (fun hg => LO.not (.g hg rfl)) rfl<|VO.l (LO.pkO (.r rfl) (.r rfl) rfl rfl) rfl<|VO.l (LO.mv (.r rfl)) rfl<|VO.lg rfl rfl (GD.f _) (fun hg => LO.mv (.r rfl)) rfl<|VO.lg rfl rfl (GD.f _) (fun hg => LO.fa (r := 5) F59_5 (.r rfl) rfl) rfl<|VO.lg rfl rfl (GD.f _) (fun hg => LO.ld O3 (.g hg rfl) (fun _ hw => cells_at hw 2 rfl ⟨_, rfl⟩)) rfl<|VO.lg rfl rfl (GD.f _) (fun hg => LO.sub (.g hg rfl) (.r rfl) (wi (by omega) (by omega))) rfl<|VO.lg rfl rfl (GD.f _) (fun hg => LO.call (xs := [_,_,_]) (vs := [_,_,_]) C119 ⟨(.g hg rfl), (.r rfl), (.g hg rfl), trivial⟩ (fun w _ => bwithin_c _ _ _ w)) rfl<|VO.lg rfl rfl (GD.f _) (fun hg => LO.not (.g hg rfl)) rfl<|VO.l (LO.pkO (.r rfl) (.r rfl) rfl rfl) rfl<|VO.nil ?_)
    refine VE.seqN ?_
    refine VC.cond rfl (fun h32 => ?_) (fun h32 => ?_)
    ·
      (exfalso; simp at h32; omega)
    ·
      refine VC.skip (VE.seqN ?_)
      refine VC.seq ?_
      refine VC.drawH [[0,1,2], [1,2]] [some 0, some 0, some 0, some 0, some 0, some 0, some 0, some 0, some 0, some 0, some 0, some 0, some 0, some 0, some 0, some 0, some 0, some 0, some 0, none, some 1] mixed (by kernel_rfl) rfl (LX.l (fun _ hJ => LO.lda (vs := [_,_,_,_,_,_,_,_]) A59 (.r rfl) (fun _ hw => cells_at (hJ _ hw) 2 rfl ⟨_, rfl⟩) rfl) rfl<|LX.l (fun _ hJ => LO.mv (.r rfl)) rfl<|LX.l (fun _ hJ => LO.fa (r := 7) F59_7 (.r rfl) rfl) rfl<|LX.l (fun _ hJ => LO.ld O3 (.r rfl) (fun _ hw => cells_at (hJ _ hw) 2 rfl ⟨_, rfl⟩)) rfl<|LX.l (fun _ hJ => LO.sub (.r rfl) (.r rfl) (wi (by omega) (by omega))) rfl<|LX.l (fun _ hJ => LO.mv (.r rfl)) rfl<|LX.l (fun _ hJ => LO.fa (r := 1) F25_1 (.r rfl) rfl) rfl<|LX.l (fun _ hJ => LO.ld O3 (.r rfl) (fun _ hw => cells_at (hJ _ hw) 1 rfl ⟨_, rfl⟩)) rfl<|LX.l (fun _ hJ => LO.call (xs := [_,_,_,_,_]) (vs := [_,_,_,_,_]) C232 ⟨(.r rfl), (.r rfl), (.r rfl), (.r rfl), (.r rfl), trivial⟩ (fun w _ => rise_c false 233 z n wd (t - wd) j 9000000 bDF hz (by omega) (by omega) (by omega) (by omega) (by omega) (by omega) w)) rfl<|LX.l (fun _ hJ => LO.lda (vs := [_,_,_,_,_,_,_,_]) A59 (.r rfl) (fun _ hw => cells_at (hJ _ hw) 2 rfl ⟨_, rfl⟩) rfl) rfl<|LX.l (fun _ hJ => LO.mv (.r rfl)) rfl<|LX.l (fun _ hJ => LO.fa (r := 7) F59_7 (.r rfl) rfl) rfl<|LX.l (fun _ hJ => LO.ld O3 (.r rfl) (fun _ hw => cells_at (hJ _ hw) 2 rfl ⟨_, rfl⟩)) rfl<|LX.l (fun _ hJ => LO.add (.r rfl) (.r rfl) (wi (by omega) (by omega))) rfl<|LX.l (fun _ hJ => LO.mv (.r rfl)) rfl<|LX.l (fun _ hJ => LO.fa (r := 0) F25_0 (.r rfl) rfl) rfl<|LX.l (fun _ hJ => LO.ld O3 (.r rfl) (fun _ hw => cells_at (hJ _ hw) 1 rfl ⟨_, rfl⟩)) rfl<|LX.l (fun _ hJ => LO.call (xs := [_,_,_,_,_]) (vs := [_,_,_,_,_]) C232 ⟨(.r rfl), (.r rfl), (.r rfl), (.r rfl), (.r rfl), trivial⟩ (fun w _ => rise_c true 234 z n wd (t + wd) j 8000000 bUF hz (by omega) (by omega) (by omega) (by omega) (by omega) (by omega) w)) rfl<|LX.l (fun _ hJ => LO.bd (ps := [(_,_), (_,_)]) (vs := [(_,_), (_,_)]) (C := [_,_]) B25  ⟨(.r rfl), (.r rfl), trivial⟩ rfl ⟨_, [_], [_,_], rfl, rfl, rfl, rfl, ⟨_, [_], [_,_], rfl, rfl, rfl, rfl, rfl⟩⟩) rfl<|LX.s<|LX.l (fun _ hJ => LO.as (.r rfl)) rfl<|LX.nil) (HX.s<|HX.s<|HX.s<|HX.s<|HX.s<|HX.s<|HX.s<|HX.s<|HX.s<|HX.s<|HX.s<|HX.s<|HX.s<|HX.s<|HX.s<|HX.s<|HX.s<|HX.s<|HX.s<|HX.h0<|HO.st 0 (vs := [_,_]) (C' := [_,_]) (L' := [_,_,_]) N25 rfl rfl rfl rfl rfl rfl rfl rfl<|⟨fun _ hw => hw.sel [1,2] rfl, HX.s<|HX.nil ?_⟩)
      refine VE.seqN ?_
      refine VC.ret (VE.res (vs := [_,_]) rfl ⟨RV.agg (vs := [_,_]) A25 rfl (cells_blk 0 rfl ⟨_, rfl⟩) rfl, rfl, trivial⟩ (fun w hw => ?_))
      exact ⟨rfl, hw.nil⟩

set_option maxRecDepth 20000 in
theorem under_c (z n wd t : Int) (pg : Option Addr) (cg : Nat) (w : World) :
  Calls Tryz.prog 230 #[.agg (sitV z n wd).toArray, .int .i64 t, .int .i64 0, .agg (fldV pg cg).toArray] w fun e w' => ∃ q : Nat × Nat × Nat × Nat, True ∧ e = .returned (.func (.func 266) #[] #[.pointer (some ⟨q.1,0, none⟩), .pointer (some ⟨q.2.1,0, none⟩), .pointer (some ⟨q.2.2.1,0, none⟩), .pointer (some ⟨q.2.2.2,0, none⟩)]) ∧ St (bs w) [blk q.2.2.2 (.cells (fldV pg cg).toArray 108), blk q.2.2.1 (.cells #[.int .i64 0] 3), blk q.2.1 (.cells #[.int .i64 t] 3), blk q.1 (.cells (sitV z n wd).toArray 59)] w' := by
  refine enter (vs := [_,_,_,_]) (env := [(0,_), (1,_), (2,_), (3,_)]) Tryz.func230 rfl rfl rfl rfl ?_
  refine VC.seq ?_
  refine VC.reg (VO.h rfl<|HO.box (C := #[_,_,_,_,_,_,_,_]) rfl rfl fun b1 => VO.h rfl<|HO.box (C := #[_]) rfl rfl fun b2 => VO.h rfl<|HO.box (C := #[_]) rfl rfl fun b3 => VO.h rfl<|HO.box (C := #[_,_,_,_,_,_]) rfl rfl fun b4 => VO.l (LO.as (.r rfl)) rfl<|VO.nil ?_)
  refine VE.seqN ?_
  refine VC.seq ?_
  refine VC.reg (VO.h rfl<|HO.lo (LO.mf (cap := [_,_,_,_]) ⟨(.r rfl), (.r rfl), (.r rfl), (.r rfl), trivial⟩)<|VO.h rfl<|HO.lo (LO.as (.r rfl))<|VO.nil ?_)
  refine VE.seqN ?_
  refine VC.ret (VE.res (vs := [_]) rfl ⟨rfl, trivial⟩ (fun w hw => ?_))
  exact ⟨(b1, b2, b3, b4), trivial, rfl, hw⟩

set_option maxRecDepth 20000 in
theorem under_seq (z : Int) (n : Nat) (wd t : Int) (G : Span) (pg : Option Addr) (cg : Nat) (q : Nat × Nat × Nat × Nat) (hn6 : n ≤ 10) (ht1 : -30 ≤ t) (ht2 : t ≤ 30) :
  SeqC Tryz.prog 266 [.pointer (some ⟨q.1,0, none⟩), .pointer (some ⟨q.2.1,0, none⟩), .pointer (some ⟨q.2.2.1,0, none⟩), .pointer (some ⟨q.2.2.2,0, none⟩)] (UndC z n wd t G pg cg q) (undS n G) := by
  intro l0 J Jx w r hCap hyl hJ hi0 hf0
  have hs0 : SlSome pg 4 := (hCap _ _ _ hJ hi0).g.sm
  refine enterO (vs := [_,_,_,_,_]) (env := [(0,_), (1,_), (2,_), (3,_), (4,_)]) (St.one hi0 hf0) Tryz.func266 rfl rfl rfl rfl ?_
  refine VC.seq ?_
  refine VC.reg (VO.l (LO.fa (r := 5) F59_5 (.r rfl) rfl) rfl<|VO.l (LO.ld O3 (.r rfl) (fun _ hw => sub_cells (off := 5) (hCap _ _ _ hJ (St.inv hw 0 _ rfl)).s ⟨_, rfl⟩)) rfl<|VO.l (LO.mv (.r rfl)) rfl<|VO.nil ?_)
  refine VE.seqN ?_
  refine VC.block ?_
  refine VC.loopK (α := Nat × Res) 1 (fun x => [(13, .int .i64 (x.1 : Nat))]) [(0,_), (1,_), (2,_), (3,_), (4,_), (12,_)] (fun x => [x.2]) (fun x => x.1 ≤ n ∧ J x.1 x.2) (fun x => n - x.1) (0, r) (by exact ⟨by omega, hJ⟩) (.cons rfl (.cons rfl (.cons rfl (.cons rfl (.cons rfl (.cons rfl (.cons rfl .nil))))))) (fun _ h => h) ?_
  rintro ⟨j, r⟩ ⟨hi, hJ⟩
  show VC _ _ _ _ _ ([(13, .int .i64 (j : Nat))] ++ _) ([r] ++ _) _ _
  refine VC.seq ?_
  refine VC.reg (VO.l (LO.lt (.r rfl) (.r rfl)) rfl<|VO.nil ?_)
  refine VE.seqN ?_
  refine VC.seq ?_
  refine VC.cond rfl (fun h1 => ?_) (fun h1 => ?_)
  ·
    refine VC.skip (VE.seqN ?_)
    refine VC.seq ?_
    refine VC.block ?_
    refine VC.seq ?_
    refine VC.reg (VO.l (LO.mv (.r rfl)) rfl<|VO.l (LO.as (.r rfl)) rfl<|VO.nil ?_)
    refine VE.seqN ?_
    refine VC.seq ?_
    refine VC.reg (VO.l (LO.bd (ps := [(_,_)]) (vs := [(_,_)]) (C := [_,_]) B25  ⟨(.r rfl), trivial⟩ rfl ⟨_, [_], [_,_], rfl, rfl, rfl, rfl, rfl⟩) rfl<|VO.h rfl<|HO.alloc (C := #[_,_]) Z25 rfl fun b2 => VO.h0<|HO.st 0 (vs := [_,_]) (C' := [_,_]) (L' := [_,_]) N25 rfl rfl rfl rfl rfl rfl rfl rfl<|VO.nil ?_)
    refine VE.seqN ?_
    refine VC.seq ?_
    refine VC.reg (VO.l (LO.lda (vs := [_,_,_,_,_,_,_,_]) A59 (.r rfl) (fun _ hw => sub_cells (off := 0) (hCap _ _ _ hJ (St.inv hw 1 _ rfl)).s ⟨_, rfl⟩) rfl) rfl<|VO.l (LO.ld O3 (.r rfl) (fun _ hw => sub_cells (off := 0) (hCap _ _ _ hJ (St.inv hw 1 _ rfl)).t ⟨_, rfl⟩)) rfl<|VO.l (LO.ld O3 (.r rfl) (fun _ hw => sub_cells (off := 0) (hCap _ _ _ hJ (St.inv hw 1 _ rfl)).r ⟨_, rfl⟩)) rfl<|VO.l (LO.mv (.r rfl)) rfl<|VO.l (LO.call (xs := [_,_,_,_]) (vs := [_,_,_,_]) C267 ⟨(.r rfl), (.r rfl), (.r rfl), (.r rfl), trivial⟩ (fun w _ => place_c z n wd t (j : Nat) ht1 ht2 (by omega) (by omega) w)) rfl<|VO.l (LO.mv (.r rfl)) rfl<|VO.l (LO.ex (.r rfl) rfl) rfl<|VO.l (LO.ex (.r rfl) rfl) rfl<|VO.l (LO.as (.r rfl)) rfl<|VO.l (LO.as (.r rfl)) rfl<|VO.nil ?_)
    refine VE.seqN ?_
    refine VC.seq ?_
    refine VC.seq ?_
    have hpl := pl_bd ht1 ht2 (j := (j : Nat)) (by omega) (by omega)
    refine VC.reg (VO.l (LO.fa (r := 0) F108_0 (.r rfl) rfl) rfl<|VO.l (LO.lda (vs := [_,_,_,_,_]) A88 (.r rfl) (fun _ hw => sub_cells (off := 0) (hCap _ _ _ hJ (St.inv hw 1 _ rfl)).f ⟨_, rfl⟩) rfl) rfl<|VO.l (LO.mv (.r rfl)) rfl<|VO.l (LO.mv (.r rfl)) rfl<|VO.l (LO.call (xs := [_,_,_]) (vs := [_,_,_]) C268 ⟨(.r rfl), (.r rfl), (.r rfl), trivial⟩ (fun w _ => pixel_c _ _ w hpl.1 hpl.2)) rfl<|VO.l (LO.as (.r rfl)) rfl<|VO.nil ?_)
    refine VE.seqN ?_
    refine VC.seq ?_
    refine VC.reg (VO.l (LO.mv (.r rfl)) rfl<|VO.l (LO.ge (.r rfl) (.r rfl)) rfl<|VO.nil ?_)
    refine VE.seqN ?_
    refine VC.cond rfl (fun h31 => ?_) (fun h31 => ?_)
    ·
      refine VC.reg (VO.l (LO.fa (r := 5) F108_1 (.r rfl) rfl) rfl<|VO.l (LO.ld O45 (.r rfl) (fun _ hw => sub_cells (off := 5) (hCap _ _ _ hJ (St.inv hw 1 _ rfl)).f ⟨_, rfl⟩)) rfl<|VO.l (LO.mv (.r rfl)) rfl<|VO.l (LO.ixs S45 N25 hs0 (.r rfl) (.r rfl) (show (3 : Int) = ((3 : Nat) : Int) from rfl) (show 3 < 4 by decide)) rfl<|VO.l (LO.lda (vs := [_,_]) A25 (.r rfl) (fun w hw => g4_here (hCap _ _ _ hJ (St.inv hw 1 _ rfl)).g (j := 3) (by decide)) rfl) rfl<|VO.h0<|HO.st 0 (vs := [_,_]) (C' := [_,_]) (L' := [_,_]) N25 rfl rfl rfl rfl rfl rfl rfl rfl<|VO.nil ?_)
      refine VE.seqN ?_
      refine VC.seq ?_
      refine VC.reg (VO.l (LO.mv (.r rfl)) rfl<|VO.l (LO.mv (.r rfl)) rfl<|VO.l (LO.lda (vs := [_,_]) A25 (.r rfl) (fun _ hw => cells_at hw 0 rfl ⟨_, rfl⟩) rfl) rfl<|VO.h rfl<|HO.yield 1 (r := r) (vs := [_,_]) (post := fun b r' => if b = true then J (j + 1) r' else Jx (j + 1) r') (.r rfl) ⟨.r rfl, .r rfl, trivial⟩ rfl (fun w2 hi hr hs => hyl j _ (und_at (by omega)) r w2 hJ hi hr hs) fun bb1 r1 hp => VO.h rfl<|HO.lo (LO.not (.r rfl))<|VO.nil ?_)
      refine VE.seqN ?_
      refine VC.cond rfl (fun h4 => ?_) (fun h4 => ?_)
      ·
        rw [if_neg h4] at hp
        have hE : J (undS n G).length r1 ∨ ∃ m, m ≤ (undS n G).length ∧ Jx m r1 := .inr ⟨j + 1, by rw [und_len]; omega, hp⟩
        refine VC.ret (VE.inR (VE.thenR (VE.thenR (VE.inR (VE.res (vs := []) rfl trivial (fun w hw => ?_))))))
        first | exact ⟨rfl, seq_end hE hw⟩ | exact ⟨rfl, seq_end hE (hw.sel [1] rfl)⟩
      ·
        rw [if_pos (by simpa using h4)] at hp
        refine VC.skip (VE.inN (VE.seqN ?_))
        refine VC.reg (VO.l (LO.add (.r rfl) (.r rfl) (wi (by omega) (by omega))) rfl<|VO.l (LO.mv (.r rfl)) rfl<|VO.nil ?_)
        refine VE.thenN fun a w ha hw => ⟨(j + 1,_), ⟨by omega, hp⟩, by omega, ha.sub (.cons rfl (.cons rfl (.cons rfl (.cons rfl (.cons rfl (.cons rfl (.cons rfl .nil))))))), hw.sel [1] rfl⟩
    ·
      (exfalso; omega)
  ·
    have hE : J (undS n G).length r ∨ ∃ m, m ≤ (undS n G).length ∧ Jx m r := .inl (by rw [und_len, show n = j by omega]; exact hJ)
    refine VC.exit (VE.thenX (VE.thenX (VE.inX (VE.resN (vs := []) rfl trivial (fun w hw => ?_)))))
    first | exact ⟨rfl, seq_end hE hw⟩ | exact ⟨rfl, seq_end hE (hw.sel [1] rfl)⟩

end Go.Proofs.YtffbohecdocajaaGreat

namespace Go.Proofs.YtffbohecdocajaaGreat
open Go.SL Go.Proofs Go.Pulse
set_option linter.unusedVariables false

theorem A108 : IsAgg Tryz.prog 108 6 := ⟨⟨_, Tryz.underlying108, rfl⟩, by kernel_rfl⟩
theorem C157 : IsFn Tryz.prog 157 := ⟨_, Tryz.func157, by decide, rfl⟩
theorem Z45 : ZeroOf Tryz.prog 45 (.slice none 0 0) := by unfold ZeroOf; kernel_rfl
theorem N45 : (Tryz.prog.info? 45).map (·.size) = some 1 := by kernel_rfl
theorem Z4 : ZeroOf Tryz.prog 4 (.bool false) := by unfold ZeroOf; kernel_rfl
theorem N4 : (Tryz.prog.info? 4).map (·.size) = some 1 := by kernel_rfl
theorem C230 : IsFn Tryz.prog 230 := ⟨_, Tryz.func230, by decide, rfl⟩
theorem C231 : IsFn Tryz.prog 231 := ⟨_, Tryz.func231, by decide, rfl⟩


theorem C266 : IsFn Tryz.prog 266 := ⟨_, Tryz.func266, by decide, rfl⟩
theorem map_get {α β : Type} {f : α → β} {l : List α} {k : Nat} {x : α} (h : l[k]? = some x) : (l.map f)[k]? = some (f x) := by rw [List.getElem?_map, h]; rfl
theorem und_get {n m : Nat} {G : Span} {vs : List Value} (h : (undS n G)[m]? = some vs) : m < n ∧ vs = [.int .i64 (m : Nat), spanV G] := by
  have hm : m < n := by have := (List.getElem?_eq_some_iff.1 h).1; rwa [und_len] at this
  rw [und_at hm] at h
  exact ⟨hm, (Option.some.inj h).symm⟩
theorem addH_set {o : List Span} {j : Nat} : (o.map spanC).set j ((spanC (o.getD j zsp)).take 1 ++ [Value.int .i64 ((o.getD j zsp).hi + 1)] ++ (spanC (o.getD j zsp)).drop (1 + [Value.int .i64 ((o.getD j zsp).hi + 1)].length)) = (addH o j).map spanC := by
  unfold addH; rw [List.map_set]; rfl
theorem addL_set {o : List Span} {j : Nat} : (o.map spanC).set j ((spanC (o.getD j zsp)).take 0 ++ [Value.int .i64 ((o.getD j zsp).lo + 1)] ++ (spanC (o.getD j zsp)).drop (0 + [Value.int .i64 ((o.getD j zsp).lo + 1)].length)) = (addL o j).map spanC := by
  unfold addL; rw [List.map_set]; rfl
theorem thr_1 {n m : Nat} {G : Span} {h : Nat → Span} {p : Bool} {o : List Span} (hm : m < n) : thrB n G h (n - m) p o = if (h m).hi ≤ G.lo then resB n (n - (m + 1)) (addL (if (p || decide ((h m).lo ≤ G.hi)) = true then addH o m else o) m) else thrB n G h (n - (m + 1)) (p || decide ((h m).lo ≤ G.hi)) (if (p || decide ((h m).lo ≤ G.hi)) = true then addH o m else o) := by
  have e : n - m = (n - (m + 1)) + 1 := by omega
  rw [e, thrB]
  rw [show n - ((n - (m + 1)) + 1) = m by omega]
theorem res_1 {n m : Nat} {o : List Span} (hm : m < n) : resB n (n - m) o = resB n (n - (m + 1)) (addH (addL o m) m) := by
  have e : n - m = (n - (m + 1)) + 1 := by omega
  rw [e, resB]
  rw [show n - ((n - (m + 1)) + 1) = m by omega]
theorem til_1 {n : Nat} {G : Span} {z t T : Int} {o : List Span} (h : t < T) : tilB n G z t (T - t).toNat o = tilB n G z (t + 1) (T - (t + 1)).toNat (thrB n G (fun j => heiS z t j) n false o) := by
  have e : (T - t).toNat = (T - (t + 1)).toNat + 1 := by omega
  rw [e, tilB]
/-- Each number of threads is small. -/
def smO (o : List Span) (c : Int) : Prop := ∀ i, (0 ≤ (o.getD i zsp).lo ∧ (o.getD i zsp).lo ≤ c) ∧ 0 ≤ (o.getD i zsp).hi ∧ (o.getD i zsp).hi ≤ c
theorem smO_H {o : List Span} {c : Int} (h : smO o c) (j : Nat) : smO (addH o j) (c + 1) := fun i => by
  have a := h i
  have b := h j
  unfold addH
  rw [getD_set]
  split
  · dsimp only; omega
  · omega
theorem smO_L {o : List Span} {c : Int} (h : smO o c) (j : Nat) : smO (addL o j) (c + 1) := fun i => by
  have a := h i
  have b := h j
  unfold addL
  rw [getD_set]
  split
  · dsimp only; omega
  · omega
theorem smO_up {o : List Span} {c d : Int} (h : smO o c) (hd : c ≤ d) : smO o d := fun i => by have := h i; omega
theorem smO_rep (n : Nat) : smO (List.replicate n zsp) 0 := fun i => by
  have e : (List.replicate n zsp).getD i zsp = zsp := by
    rw [List.getD_eq_getElem?_getD, List.getElem?_replicate]
    split <;> rfl
  rw [e]; decide

set_option maxRecDepth 20000 in
set_option maxHeartbeats 4000000 in
theorem Blocked_c (z : Int) (n : Nat) (wd t : Int) (G : Span) (pg : Option Addr) (cg : Nat) (w : World) (hz : 0 ≤ z ∧ z ≤ 20000) (hn : 1 ≤ (n : Int) ∧ (n : Int) ≤ 200) (hwd : 0 ≤ wd ∧ wd ≤ 8) (hn6 : n ≤ 6) (hw2 : wd ≤ 2) (ht : 0 ≤ t ∧ t ≤ 15) (hg : Spans w pg (List.replicate 4 G)) (hG : 0 ≤ G.lo ∧ G.lo ≤ G.hi ∧ G.hi ≤ 20000) :
  Calls Tryz.prog 186 #[.agg (sitV z n wd).toArray, .int .i64 t, earV, .agg (fldV pg cg).toArray, .int .i64 0] w fun e w' => ∃ y : Option Addr × Nat, True ∧ e = .returned (.tuple #[.slice y.1 (bloB n G z t wd).length y.2, .int .i64 0]) ∧ St (bs w) [own 25 2 y.1 y.2 ((bloB n G z t wd).map spanC)] w' := by
  obtain ⟨FIN, hFINe⟩ : ∃ x, x = bloB n G z t wd := ⟨_, rfl⟩
  have hFIN : tilB n G z (t - wd) (t + wd + 1 - (t - wd)).toNat (List.replicate n zsp) = FIN := by rw [hFINe, show t + wd + 1 - (t - wd) = 2 * wd + 1 by omega]; rfl
  refine enter (vs := [_,_,_,_,_]) (env := [(0,_), (1,_), (2,_), (3,_), (4,_)]) Tryz.func186 rfl rfl rfl rfl ?_
  refine VC.seq ?_
  refine VC.dm0 ?_
  refine VC.reg (VO.h rfl<|HO.box (C := #[_,_,_,_,_,_,_,_]) rfl rfl fun b2 => VO.h rfl<|HO.box (C := #[_,_]) rfl rfl fun b3 => VO.h rfl<|HO.box (C := #[_,_,_,_,_,_]) rfl rfl fun b4 => VO.l (LO.as (.r rfl)) rfl<|VO.l (LO.as (.r rfl)) rfl<|VO.nil ?_)
  refine VE.seqN ?_
  refine VC.scope ?_
  refine VC.seq ?_
  refine VC.seq ?_
  refine VC.reg (VO.l (LO.lda (vs := [_,_,_,_,_,_,_,_]) A59 (.r rfl) (fun _ hw => cells_at hw 2 rfl ⟨_, rfl⟩) rfl) rfl<|VO.l (LO.call (xs := [_]) (vs := [_]) C53 ⟨(.r rfl), trivial⟩ (fun w _ => tE_v hz hn hwd w)) rfl<|VO.l (LO.as (.r rfl)) rfl<|VO.nil ?_)
  refine VE.seqN ?_
  refine VC.seq ?_
  refine VC.reg (VO.l (LO.mv (.r rfl)) rfl<|VO.l (LO.ne (.r rfl) (.r rfl)) rfl<|VO.nil ?_)
  refine VE.seqN ?_
  refine VC.cond rfl (fun h24 => ?_) (fun h24 => ?_)
  ·
    (exfalso; exact h24 rfl)
  ·
    refine VC.skip (VE.seqN ?_)
    refine VC.seq ?_
    refine VC.seq ?_
    refine VC.reg (VO.l (LO.lda (vs := [_,_,_,_,_,_]) A108 (.r rfl) (fun _ hw => cells_at hw 0 rfl ⟨_, rfl⟩) rfl) rfl<|VO.l (LO.call (xs := [_,_]) (vs := [_,_]) C157 ⟨(.r rfl), (.r rfl), trivial⟩ (fun w hw => check_c G pg cg w (hg.keep w hw) hG)) rfl<|VO.l (LO.as (.r rfl)) rfl<|VO.nil ?_)
    refine VE.seqN ?_
    refine VC.seq ?_
    refine VC.reg (VO.l (LO.mv (.r rfl)) rfl<|VO.l (LO.ne (.r rfl) (.r rfl)) rfl<|VO.nil ?_)
    refine VE.seqN ?_
    refine VC.cond rfl (fun h29 => ?_) (fun h29 => ?_)
    ·
      (exfalso; exact h29 rfl)
    ·
      refine VC.skip (VE.seqN ?_)
      refine VC.seq ?_
      refine VC.seq ?_
      refine VC.reg (VO.l (LO.mv (.r rfl)) rfl<|VO.l (LO.call (xs := [_,_,_]) (vs := [_,_,_]) C119 ⟨(.r rfl), (.r rfl), (.r rfl), trivial⟩ (fun w _ => bwithin_c _ _ _ w)) rfl<|VO.l (LO.not (.r rfl)) rfl<|VO.l (LO.mv (.r rfl)) rfl<|VO.lg rfl rfl (GD.f _) (fun hg => LO.lda (vs := [_,_]) A25 (.r rfl) (fun _ hw => cells_at hw 1 rfl ⟨_, rfl⟩) rfl) rfl<|VO.lg rfl rfl (GD.f _) (fun hg => LO.call (xs := [_]) (vs := [_]) C229 ⟨(.g hg rfl), trivial⟩ (fun w _ => valid_c w)) rfl<|VO.lg rfl rfl (GD.f _) (fun hg => LO.not (.g hg rfl)) rfl<|VO.l (LO.pkO (.r rfl) (.r rfl) rfl rfl) rfl<|VO.l (LO.mv (.r rfl)) rfl<|VO.lg rfl rfl (GD.f _) (fun hg => LO.mv (.r rfl)) rfl<|VO.lg rfl rfl (GD.f _) (fun hg => LO.fa (r := 4) F59_4 (.r rfl) rfl) rfl<|VO.lg rfl rfl (GD.f _) (fun hg => LO.ld O3 (.g hg rfl) (fun _ hw => cells_at hw 2 rfl ⟨_, rfl⟩)) rfl<|VO.lg rfl rfl (GD.f _) (fun hg => LO.mul (.r rfl) (.g hg rfl) (wi (by omega) (by omega))) rfl<|VO.lg rfl rfl (GD.f _) (fun hg => LO.sub (.g hg rfl) (.r rfl) (wi (by omega) (by omega))) rfl<|VO.lg rfl rfl (GD.f _) (fun hg => LO.call (xs := [_,_,_]) (vs := [_,_,_]) C119 ⟨(.g hg rfl), (.r rfl), (.g hg rfl), trivial⟩ (fun w _ => bwithin_c _ _ _ w)) rfl<|VO.lg rfl rfl (GD.f _) (fun hg => LO.not (.g hg rfl)) rfl<|VO.l (LO.pkO (.r rfl) (.r rfl) rfl rfl) rfl<|VO.nil ?_)
      refine VE.seqN ?_
      refine VC.cond rfl (fun h47 => ?_) (fun h47 => ?_)
      ·
        (exfalso; simp at h47; omega)
      ·
        refine VC.skip (VE.seqN ?_)
        refine VC.seq ?_
        refine VC.reg (VO.l (LO.fa (r := 5) F59_5 (.r rfl) rfl) rfl<|VO.l (LO.ld O3 (.r rfl) (fun _ hw => cells_at hw 2 rfl ⟨_, rfl⟩)) rfl<|VO.h rfl<|HO.mksM (f := spanC) (z0 := zsp) (n := n) rfl S45 I25 (.r rfl) (.r rfl) rfl (by decide) (by omega) (by omega) fun b5 => VO.h rfl<|HO.alloc (C := #[_]) Z45 rfl fun b6 => VO.h0<|HO.st 0 (vs := [_]) (C' := [_]) (L' := [_,_,_,_,_,_]) N45 rfl rfl rfl rfl rfl rfl rfl rfl<|VO.nil ?_)
        refine VE.seqN ?_
        refine VC.seq ?_
        refine VC.label (VE.seqN ?_)
        refine VC.seq ?_
        refine VC.seq ?_
        refine VC.reg (VO.l (LO.mv (.r rfl)) rfl<|VO.l (LO.fa (r := 7) F59_7 (.r rfl) rfl) rfl<|VO.l (LO.ld O3 (.r rfl) (fun _ hw => cells_at hw 4 rfl ⟨_, rfl⟩)) rfl<|VO.l (LO.sub (.r rfl) (.r rfl) (wi (by omega) (by omega))) rfl<|VO.h rfl<|HO.alloc (C := #[_]) Z3 rfl fun b8 => VO.h0<|HO.st 0 (vs := [_]) (C' := [_]) (L' := [_,_,_,_,_,_,_]) N3 rfl rfl rfl rfl rfl rfl rfl rfl<|VO.nil ?_)
        refine VE.seqN ?_
        refine VC.block ?_
        refine VC.perm [0,2,6,1,3,4,5] rfl ?_
        refine VC.loopD (α := Int × Nat × (List Span) × (List Nat)) 3 (fun gx => [(15, .pointer (some ⟨gx.2.1,0, none⟩))]) [(1,_), (4,_), (5,_), (7,_), (8,_), (14,_)] (fun gx => [blk gx.2.1 (.cells #[.int .i64 gx.1] 3), own 25 2 (some ⟨b5,0, none⟩) n (gx.2.2.1.map spanC), Db gx.2.2.2]) (fun gx => gx.2.2.2) (fun gx => (t - wd ≤ gx.1 ∧ gx.1 ≤ t + wd + 1) ∧ gx.2.2.1.length = n ∧ smO gx.2.2.1 (100 * (gx.1 + 30)) ∧ tilB n G z gx.1 (t + wd + 1 - gx.1).toNat gx.2.2.1 = FIN) (fun gx => (t + wd + 1 - gx.1).toNat) ((t - wd), b8, (List.replicate n zsp), []) rfl (by exact ⟨⟨Int.le_refl _, by omega⟩, List.length_replicate, smO_up (smO_rep n) (by omega), hFIN⟩) (.cons rfl (.cons rfl (.cons rfl (.cons rfl (.cons rfl (.cons rfl (.cons rfl .nil))))))) (fun _ h => h) ?_
        rintro ⟨t_, bt, o, Ds⟩ ⟨htt, hol, hsm, hfin⟩
        show VC _ _ _ _ _ ([(15, .pointer (some ⟨bt, 0, none⟩))] ++ _) ([blk bt (.cells #[.int .i64 t_] 3), own 25 2 (some ⟨b5,0, none⟩) n (o.map spanC), Db Ds] ++ _) _ _
        dsimp only at htt hol hsm hfin
        refine VC.seq ?_
        refine VC.seq ?_
        refine VC.reg (VO.l (LO.ld O3 (.r rfl) (fun _ hw => cells_at hw 0 rfl ⟨_, rfl⟩)) rfl<|VO.l (LO.mv (.r rfl)) rfl<|VO.l (LO.fa (r := 7) F59_7 (.r rfl) rfl) rfl<|VO.l (LO.ld O3 (.r rfl) (fun _ hw => cells_at hw 6 rfl ⟨_, rfl⟩)) rfl<|VO.l (LO.add (.r rfl) (.r rfl) (wi (by omega) (by omega))) rfl<|VO.l (LO.le (.r rfl) (.r rfl)) rfl<|VO.nil ?_)
        refine VE.seqN ?_
        refine VC.cond rfl (fun h60 => ?_) (fun h60 => ?_)
        ·
          refine VC.skip (VE.seqN ?_)
          refine VC.seq ?_
          refine VC.block ?_
          refine VC.seq ?_
          obtain ⟨TH, hTH⟩ : ∃ x, x = thrB n G (fun j => heiS z t_ j) n false o := ⟨_, rfl⟩
          refine VC.reg (VO.h rfl<|HO.alloc (C := #[_]) Z4 rfl fun b10 => VO.h0<|HO.st 0 (vs := [_]) (C' := [_]) (L' := [_,_,_,_,_,_,_,_]) N4 rfl rfl rfl rfl rfl rfl rfl rfl<|VO.nil ?_)
          refine VE.seqN ?_
          refine VC.seq ?_
          refine VC.reg (VO.l (LO.lda (vs := [_,_,_,_,_,_,_,_]) A59 (.r rfl) (fun _ hw => cells_at hw 7 rfl ⟨_, rfl⟩) rfl) rfl<|VO.l (LO.mv (.r rfl)) rfl<|VO.l (LO.mv (.r rfl)) rfl<|VO.l (LO.lda (vs := [_,_,_,_,_,_]) A108 (.r rfl) (fun _ hw => cells_at hw 5 rfl ⟨_, rfl⟩) rfl) rfl<|VO.h rfl<|HO.callx (xs := [_,_,_,_]) (vs := [_,_,_,_]) C230 ⟨(.r rfl), (.r rfl), (.r rfl), (.r rfl), trivial⟩ (fun w hw => under_c z n wd t pg cg w) fun q _ => VO.nil ?_)
          refine VE.seqN ?_
          refine VC.block ?_
          refine VC.rangeFuncN (α := (List Span) × Bool) (γ := Nat) [_,_,_,_,_,_,_,_,_] (fun gx => [own 25 2 (some ⟨b5,0, none⟩) n (gx.1.map spanC), blk b10 (.cells #[.bool gx.2] 4)]) (fun n_ gx => gx.1.length = n ∧ smO gx.1 (100 * (t_ + 30) + n_) ∧ thrB n G (fun j => heiS z t_ j) (n - n_) gx.2 gx.1 = TH) (fun c_ n_ gx => c_ = .exit 1 ∧ gx.1.length = n ∧ smO gx.1 (100 * (t_ + 30) + 60) ∧ gx.1 = TH) (o, false) (fun vs y_ => [blk y_ (.cells #[.int .i64 G.lo, .int .i64 G.hi] 25)]) (fun vs y_ => [(18, .pointer (some ⟨y_, 0, none⟩)), (5, .pointer (some ⟨b2,0, none⟩)), (7, .pointer (some ⟨b3,0, none⟩)), (14, .pointer (some ⟨b6,0, none⟩)), (15, .pointer (some ⟨bt, 0, none⟩)), (16, .pointer (some ⟨b10,0, none⟩)), (17, vs.getD 0 (.int .i64 0))]) rfl C266 (under_seq z n wd t G pg cg q (by omega) (by omega) (by omega)) (selK [6,4,0,1,2,3,5,8,9,10,11,7] rfl rfl) (⟨hol, smO_up hsm (by show _ ≤ _ + ((0 : Nat) : Int); omega), by rw [Nat.sub_zero]; exact hTH.symm⟩) (fun vs hv => by obtain ⟨n,_, rfl⟩ := List.mem_map.1 hv; rfl) (by decide) (fun n x w2 _ h h3 => ⟨cells_inv (h 5 _ rfl), cells_inv (h 4 _ rfl), cells_inv (h 3 _ rfl), cells_inv (h 2 _ rfl), ro_fr (fun k hk => h3 k hk (fun q => q)) hg⟩) ?_ ?_ ?_ ?_
          ·
            rintro n_ ⟨o2, pp⟩ vs__ l_ T w1 hI hxs hst
            obtain ⟨hmn, rfl⟩ := und_get hxs
            obtain ⟨hl2, hs2, hT2⟩ := hI
            dsimp only at hl2 hs2 hT2
            show VC _ _ _ _ _ _ ([own 25 2 (some ⟨b5,0, none⟩) n (o2.map spanC), blk b10 (.cells #[.bool pp] 4),_,_,_,_,_,_,_,_,_] ++ T) _ _
            refine VC.seq ?_
            refine VC.reg (VO.l (LO.as (.r rfl)) rfl<|VO.nil ?_)
            refine VE.seqN ?_
            refine VC.reg (VO.h rfl<|HO.alloc (C := #[_,_]) Z25 rfl fun b27 => VO.h0<|HO.st 0 (vs := [_,_]) (C' := [_,_]) N25 rfl rfl rfl rfl rfl rfl rfl rfl<|VO.nil ?_)
            exact fun a w ha hw => ⟨rfl, b27, ha.sub (.cons rfl (.cons rfl (.cons rfl (.cons rfl (.cons rfl (.cons rfl (.cons rfl .nil))))))), selKT (L := [_,_,_,_,_,_,_,_,_,_,_,_]) (L1 := [_,_,_,_,_,_,_,_,_,_,_,_]) (L2 := []) (X := T) [0,1,2,3,4,5,6,7,8,9,10,11] rfl rfl rfl w hw⟩
          ·
            rintro n_ ⟨o2, pp⟩ vs__ b29 l_ T w1 hI hxs hst
            obtain ⟨hmn, rfl⟩ := und_get hxs
            obtain ⟨hl2, hs2, hT2⟩ := hI
            dsimp only at hl2 hs2 hT2
            show VC _ _ _ _ _ _ ([blk b29 (.cells #[.int .i64 G.lo, .int .i64 G.hi] 25), own 25 2 (some ⟨b5,0, none⟩) n (o2.map spanC), blk b10 (.cells #[.bool pp] 4),_,_,_,_,_,_,_,_,_] ++ T) _ _
            refine VC.block ?_
            refine VC.seq ?_
            refine VC.reg (VO.l (LO.lda (vs := [_,_,_,_,_,_,_,_]) A59 (.r rfl) (fun _ hw => cells_at hw 11 rfl ⟨_, rfl⟩) rfl) rfl<|VO.l (LO.ld O3 (.r rfl) (fun _ hw => cells_at hw 7 rfl ⟨_, rfl⟩)) rfl<|VO.l (LO.mv (.r rfl)) rfl<|VO.l (LO.lda (vs := [_,_]) A25 (.r rfl) (fun _ hw => cells_at hw 10 rfl ⟨_, rfl⟩) rfl) rfl<|VO.l (LO.call (xs := [_,_,_,_]) (vs := [_,_,_,_]) C231 ⟨(.r rfl), (.r rfl), (.r rfl), (.r rfl), trivial⟩ (fun w _ => height_c z n wd t_ (n_ : Nat) hz (by omega) (by omega) (by omega) (by omega) w)) rfl<|VO.h rfl<|HO.alloc (C := #[_,_]) Z25 rfl fun b41 => VO.h0<|HO.st 0 (vs := [_,_]) (C' := [_,_]) N25 rfl rfl rfl rfl rfl rfl rfl rfl<|VO.nil ?_)
            refine VE.seqN ?_
            refine VC.seq ?_
            refine VC.reg (VO.l (LO.ld O4 (.r rfl) (fun _ hw => cells_at hw 3 rfl ⟨_, rfl⟩)) rfl<|VO.l (LO.mv (.r rfl)) rfl<|VO.lg rfl rfl (GD.f _) (fun hg => LO.fa (r := 1) F25_1 (.r rfl) rfl) rfl<|VO.lg rfl rfl (GD.f _) (fun hg => LO.ld O3 (.g hg rfl) (fun _ hw => cells_at hw 1 rfl ⟨_, rfl⟩)) rfl<|VO.lg rfl rfl (GD.f _) (fun hg => LO.fa (r := 0) F25_0 (.r rfl) rfl) rfl<|VO.lg rfl rfl (GD.f _) (fun hg => LO.ld O3 (.g hg rfl) (fun _ hw => cells_at hw 0 rfl ⟨_, rfl⟩)) rfl<|VO.lg rfl rfl (GD.f _) (fun hg => LO.ge (.g hg rfl) (.g hg rfl)) rfl<|VO.l (LO.pkO (.r rfl) (.r rfl) rfl rfl) rfl<|VO.h0<|HO.st 3 (vs := [_]) (C' := [_]) N4 rfl rfl rfl rfl rfl rfl rfl rfl<|VO.nil ?_)
            refine VE.seqN ?_
            refine VC.seq ?_
            refine VC.seq ?_
            refine VC.reg (VO.l (LO.ld O4 (.r rfl) (fun _ hw => cells_at hw 3 rfl ⟨_, rfl⟩)) rfl<|VO.nil ?_)
            refine VE.seqN ?_
            refine VC.cond rfl (fun h83 => ?_) (fun h83 => ?_)
            ·
              have hp : (pp || decide ((heiS z t_ (n_ : Nat)).lo ≤ G.hi)) = true := by rw [Bool.or_eq_true, decide_eq_true_iff]; exact h83
              have q1 := hs2 n_
              refine VC.reg (VO.l (LO.ld O45 (.r rfl) (fun _ hw => cells_at hw 9 rfl ⟨_, rfl⟩)) rfl<|VO.l (LO.mv (.r rfl)) rfl<|VO.l (LO.ixo S45 N25 (fun _ hw => (own_rows hw 2 rfl).some (by rw [List.length_map]; first | omega | (rw [addH_len]; omega) | (rw [addL_len]; omega))) (.r rfl) (.r rfl) rfl (by omega)) rfl<|VO.l (LO.fa F25_1 (.r rfl) rfl) rfl<|VO.l (LO.ld O3 (.r rfl) (fun w hw => cells_part (off := 1) (own_cell hw 2 rfl (getD_some (d := zsp) (by first | omega | (rw [addH_len]; omega) | (rw [addL_len]; omega)))) ⟨_, rfl⟩)) rfl<|VO.l (LO.add (.r rfl) (.r rfl) (wi (by omega) (by omega))) rfl<|VO.l (LO.ixo S45 N25 (fun _ hw => (own_rows hw 2 rfl).some (by rw [List.length_map]; first | omega | (rw [addH_len]; omega) | (rw [addL_len]; omega))) (.r rfl) (.r rfl) rfl (by omega)) rfl<|VO.l (LO.fa F25_1 (.r rfl) rfl) rfl<|VO.h0<|HO.sto 2 (fun R => [_,_, R,_,_,_,_,_,_,_,_,_,_] ++ T) (o := 1) (vs := [_]) N3 (.r rfl) (.r rfl) rfl (map_get (getD_some (d := zsp) (by omega))) rfl rfl (Nat.le_of_ble_eq_true rfl) rfl (fun _ => rfl)<|VO.nil ?_)
              rw [addH_set]
              refine VE.seqN ?_
              refine VC.seq ?_
              refine VC.reg (VO.l (LO.fa (r := 0) F25_0 (.r rfl) rfl) rfl<|VO.l (LO.ld O3 (.r rfl) (fun _ hw => cells_at hw 1 rfl ⟨_, rfl⟩)) rfl<|VO.l (LO.fa (r := 1) F25_1 (.r rfl) rfl) rfl<|VO.l (LO.ld O3 (.r rfl) (fun _ hw => cells_at hw 0 rfl ⟨_, rfl⟩)) rfl<|VO.l (LO.ge (.r rfl) (.r rfl)) rfl<|VO.nil ?_)
              refine VE.seqN ?_
              refine VC.cond rfl (fun h96 => ?_) (fun h96 => ?_)
              ·
                refine VC.seq ?_
                have q2 := smO_H hs2 n_ n_
                have q3 := hs2 n_
                refine VC.reg (VO.l (LO.ld O45 (.r rfl) (fun _ hw => cells_at hw 9 rfl ⟨_, rfl⟩)) rfl<|VO.l (LO.mv (.r rfl)) rfl<|VO.l (LO.ixo S45 N25 (fun _ hw => (own_rows hw 2 rfl).some (by rw [List.length_map]; first | omega | (rw [addH_len]; omega) | (rw [addL_len]; omega))) (.r rfl) (.r rfl) rfl (by omega)) rfl<|VO.l (LO.fa F25_0 (.r rfl) rfl) rfl<|VO.l (LO.ld O3 (.r rfl) (fun w hw => cells_part (off := 0) (own_cell hw 2 rfl (getD_some (d := zsp) (by first | omega | (rw [addH_len]; omega) | (rw [addL_len]; omega)))) ⟨_, rfl⟩)) rfl<|VO.l (LO.add (.r rfl) (.r rfl) (wi (by omega) (by omega))) rfl<|VO.l (LO.ixo S45 N25 (fun _ hw => (own_rows hw 2 rfl).some (by rw [List.length_map]; first | omega | (rw [addH_len]; omega) | (rw [addL_len]; omega))) (.r rfl) (.r rfl) rfl (by omega)) rfl<|VO.l (LO.fa F25_0 (.r rfl) rfl) rfl<|VO.h0<|HO.sto 2 (fun R => [_,_, R,_,_,_,_,_,_,_,_,_,_] ++ T) (o := 0) (vs := [_]) N3 (.r rfl) (.r rfl) rfl (map_get (getD_some (d := zsp) (by first | omega | (rw [addH_len]; omega)))) rfl rfl (Nat.le_of_ble_eq_true rfl) rfl (fun _ => rfl)<|VO.nil ?_)
                rw [addL_set]
                rw [thr_1 hmn, if_pos h96, if_pos hp] at hT2
                have hOO1 : (addL (addH o2 n_) n_).length = n := by first | (rw [addL_len]; exact hl2) | (rw [addL_len, addH_len]; exact hl2)
                have hOO2 : smO (addL (addH o2 n_) n_) (100 * (t_ + 30) + 20 + 2 * ((n_ + 1 : Nat) : Int)) := smO_up (smO_L (smO_H hs2 n_) n_) (by omega)
                refine VE.seqN ?_
                refine VC.seq ?_
                refine VC.seq ?_
                refine VC.reg (VO.l (LO.mv (.r rfl)) rfl<|VO.l (LO.add (.r rfl) (.r rfl) (wi (by omega) (by omega))) rfl<|VO.l (LO.as (.r rfl)) rfl<|VO.nil ?_)
                refine VE.seqN ?_
                refine VC.block ?_
                refine VC.res (selKT (L := [_,_,_,_,_,_,_,_,_,_,_,_,_]) (L1 := [_,_,_,_,_,_,_,_,_,_,_,_,_]) (L2 := []) (X := T) [2,0,1,3,4,5,6,7,8,9,10,11,12] rfl rfl rfl) ?_
                show VC _ _ _ _ _ _ ([_,_,_,_,_,_,_,_,_,_,_,_,_] ++ T) _ _
                refine VC.loopK (α := Nat × (List Span)) 1 (fun gx => [(20, .int .i64 (gx.1 : Nat))]) [(5,_), (14,_)] (fun gx => [own 25 2 (some ⟨b5,0, none⟩) n (gx.2.map spanC)]) (fun gx => gx.1 ≤ n ∧ gx.2.length = n ∧ smO gx.2 (100 * (t_ + 30) + 20 + 2 * gx.1) ∧ resB n (n - gx.1) gx.2 = TH) (fun gx => n - gx.1) (n_ + 1, (addL (addH o2 n_) n_)) (by exact ⟨by omega, hOO1, hOO2, hT2⟩) (.cons rfl (.cons rfl (.cons rfl .nil))) (fun _ h => h) ?_
                rintro ⟨i, o3⟩ ⟨hi, hl3, hs3, hr3⟩
                show VC _ _ _ _ _ ([(20, .int .i64 (i : Nat))] ++ _) ([own 25 2 (some ⟨b5,0, none⟩) n (o3.map spanC)] ++ _) _ _
                dsimp only at hi hl3 hs3 hr3
                refine VC.seq ?_
                refine VC.seq ?_
                refine VC.reg (VO.l (LO.mv (.r rfl)) rfl<|VO.l (LO.fa (r := 5) F59_5 (.r rfl) rfl) rfl<|VO.l (LO.ld O3 (.r rfl) (fun _ hw => cells_at hw 12 rfl ⟨_, rfl⟩)) rfl<|VO.l (LO.lt (.r rfl) (.r rfl)) rfl<|VO.nil ?_)
                refine VE.seqN ?_
                refine VC.cond rfl (fun h110 => ?_) (fun h110 => ?_)
                ·
                  refine VC.skip (VE.seqN ?_)
                  refine VC.seq ?_
                  refine VC.block ?_
                  refine VC.seq ?_
                  have q4 := hs3 i
                  refine VC.reg (VO.l (LO.ld O45 (.r rfl) (fun _ hw => cells_at hw 9 rfl ⟨_, rfl⟩)) rfl<|VO.l (LO.mv (.r rfl)) rfl<|VO.l (LO.ixo S45 N25 (fun _ hw => (own_rows hw 0 rfl).some (by rw [List.length_map]; first | omega | (rw [addH_len]; omega) | (rw [addL_len]; omega))) (.r rfl) (.r rfl) rfl (by omega)) rfl<|VO.l (LO.fa F25_0 (.r rfl) rfl) rfl<|VO.l (LO.ld O3 (.r rfl) (fun w hw => cells_part (off := 0) (own_cell hw 0 rfl (getD_some (d := zsp) (by first | omega | (rw [addH_len]; omega) | (rw [addL_len]; omega)))) ⟨_, rfl⟩)) rfl<|VO.l (LO.add (.r rfl) (.r rfl) (wi (by omega) (by omega))) rfl<|VO.l (LO.ixo S45 N25 (fun _ hw => (own_rows hw 0 rfl).some (by rw [List.length_map]; first | omega | (rw [addH_len]; omega) | (rw [addL_len]; omega))) (.r rfl) (.r rfl) rfl (by omega)) rfl<|VO.l (LO.fa F25_0 (.r rfl) rfl) rfl<|VO.h0<|HO.sto 0 (fun R => [R,_,_,_,_,_,_,_,_,_,_,_,_] ++ T) (o := 0) (vs := [_]) N3 (.r rfl) (.r rfl) rfl (map_get (getD_some (d := zsp) (by omega))) rfl rfl (Nat.le_of_ble_eq_true rfl) rfl (fun _ => rfl)<|VO.nil ?_)
                  rw [addL_set]
                  refine VE.seqN ?_
                  have q5 := smO_L hs3 i i
                  refine VC.reg (VO.l (LO.ld O45 (.r rfl) (fun _ hw => cells_at hw 9 rfl ⟨_, rfl⟩)) rfl<|VO.l (LO.mv (.r rfl)) rfl<|VO.l (LO.ixo S45 N25 (fun _ hw => (own_rows hw 0 rfl).some (by rw [List.length_map]; first | omega | (rw [addH_len]; omega) | (rw [addL_len]; omega))) (.r rfl) (.r rfl) rfl (by omega)) rfl<|VO.l (LO.fa F25_1 (.r rfl) rfl) rfl<|VO.l (LO.ld O3 (.r rfl) (fun w hw => cells_part (off := 1) (own_cell hw 0 rfl (getD_some (d := zsp) (by first | omega | (rw [addH_len]; omega) | (rw [addL_len]; omega)))) ⟨_, rfl⟩)) rfl<|VO.l (LO.add (.r rfl) (.r rfl) (wi (by omega) (by omega))) rfl<|VO.l (LO.ixo S45 N25 (fun _ hw => (own_rows hw 0 rfl).some (by rw [List.length_map]; first | omega | (rw [addH_len]; omega) | (rw [addL_len]; omega))) (.r rfl) (.r rfl) rfl (by omega)) rfl<|VO.l (LO.fa F25_1 (.r rfl) rfl) rfl<|VO.h0<|HO.sto 0 (fun R => [R,_,_,_,_,_,_,_,_,_,_,_,_] ++ T) (o := 1) (vs := [_]) N3 (.r rfl) (.r rfl) rfl (map_get (getD_some (d := zsp) (by rw [addL_len]; omega))) rfl rfl (Nat.le_of_ble_eq_true rfl) rfl (fun _ => rfl)<|VO.nil ?_)
                  rw [addH_set]
                  refine VE.inN (VE.seqN ?_)
                  refine VC.reg (VO.l (LO.mv (.r rfl)) rfl<|VO.l (LO.add (.r rfl) (.r rfl) (wi (by omega) (by omega))) rfl<|VO.l (LO.as (.r rfl)) rfl<|VO.nil ?_)
                  refine VE.thenN fun a w ha hw => ⟨(i + 1, addH (addL o3 i) i), ⟨by omega, by rw [addH_len, addL_len]; exact hl3, smO_up (smO_H (smO_L hs3 i) i) (by omega), by rw [← res_1 (by omega)]; exact hr3⟩, (by dsimp only; omega), ha.sub (.cons rfl (.cons rfl (.cons rfl .nil))), hw⟩
                ·
                  refine VC.exit (VE.thenX (VE.thenX (VE.inX (VE.seqN ?_))))
                  refine VC.exit (VE.outX rfl ?_)
                  exact fun a w ha hw => ⟨(o3, (pp || decide ((heiS z t_ (n_ : Nat)).lo ≤ G.hi))), ⟨rfl, ⟨hl3, smO_up hs3 (by omega), (by have e : i = n := (by omega); subst e; rw [Nat.sub_self] at hr3; exact hr3)⟩⟩, selKT (L := [_,_,_,_,_,_,_,_,_,_,_,_,_]) (L1 := [_,_,_,_,_,_,_,_,_,_,_]) (L2 := []) (X := T) [0,3,4,5,6,7,8,9,10,11,12] rfl rfl rfl w hw⟩
              ·
                refine VC.skip (VE.inN ?_)
                exact fun a w ha hw => ⟨((addH o2 n_), (pp || decide ((heiS z t_ (n_ : Nat)).lo ≤ G.hi))), ⟨by first | exact hl2 | (rw [addH_len]; exact hl2), smO_up (smO_H hs2 n_) (by omega), by rw [thr_1 hmn, if_neg h96, if_pos hp] at hT2; exact hT2⟩, selKT (L := [_,_,_,_,_,_,_,_,_,_,_,_,_]) (L1 := [_,_,_,_,_,_,_,_,_,_,_]) (L2 := []) (X := T) [2,3,4,5,6,7,8,9,10,11,12] rfl rfl rfl w hw⟩
            ·
              have hp : ¬ (pp || decide ((heiS z t_ (n_ : Nat)).lo ≤ G.hi)) = true := by rw [Bool.or_eq_true, decide_eq_true_iff]; exact h83
              refine VC.skip (VE.seqN ?_)
              refine VC.seq ?_
              refine VC.reg (VO.l (LO.fa (r := 0) F25_0 (.r rfl) rfl) rfl<|VO.l (LO.ld O3 (.r rfl) (fun _ hw => cells_at hw 1 rfl ⟨_, rfl⟩)) rfl<|VO.l (LO.fa (r := 1) F25_1 (.r rfl) rfl) rfl<|VO.l (LO.ld O3 (.r rfl) (fun _ hw => cells_at hw 0 rfl ⟨_, rfl⟩)) rfl<|VO.l (LO.ge (.r rfl) (.r rfl)) rfl<|VO.nil ?_)
              refine VE.seqN ?_
              refine VC.cond rfl (fun h96 => ?_) (fun h96 => ?_)
              ·
                refine VC.seq ?_
                have q2 := smO_H hs2 n_ n_
                have q3 := hs2 n_
                refine VC.reg (VO.l (LO.ld O45 (.r rfl) (fun _ hw => cells_at hw 9 rfl ⟨_, rfl⟩)) rfl<|VO.l (LO.mv (.r rfl)) rfl<|VO.l (LO.ixo S45 N25 (fun _ hw => (own_rows hw 2 rfl).some (by rw [List.length_map]; first | omega | (rw [addH_len]; omega) | (rw [addL_len]; omega))) (.r rfl) (.r rfl) rfl (by omega)) rfl<|VO.l (LO.fa F25_0 (.r rfl) rfl) rfl<|VO.l (LO.ld O3 (.r rfl) (fun w hw => cells_part (off := 0) (own_cell hw 2 rfl (getD_some (d := zsp) (by first | omega | (rw [addH_len]; omega) | (rw [addL_len]; omega)))) ⟨_, rfl⟩)) rfl<|VO.l (LO.add (.r rfl) (.r rfl) (wi (by omega) (by omega))) rfl<|VO.l (LO.ixo S45 N25 (fun _ hw => (own_rows hw 2 rfl).some (by rw [List.length_map]; first | omega | (rw [addH_len]; omega) | (rw [addL_len]; omega))) (.r rfl) (.r rfl) rfl (by omega)) rfl<|VO.l (LO.fa F25_0 (.r rfl) rfl) rfl<|VO.h0<|HO.sto 2 (fun R => [_,_, R,_,_,_,_,_,_,_,_,_,_] ++ T) (o := 0) (vs := [_]) N3 (.r rfl) (.r rfl) rfl (map_get (getD_some (d := zsp) (by first | omega | (rw [addH_len]; omega)))) rfl rfl (Nat.le_of_ble_eq_true rfl) rfl (fun _ => rfl)<|VO.nil ?_)
                rw [addL_set]
                rw [thr_1 hmn, if_pos h96, if_neg hp] at hT2
                have hOO1 : (addL o2 n_).length = n := by first | (rw [addL_len]; exact hl2) | (rw [addL_len, addH_len]; exact hl2)
                have hOO2 : smO (addL o2 n_) (100 * (t_ + 30) + 20 + 2 * ((n_ + 1 : Nat) : Int)) := smO_up (smO_L (hs2) n_) (by omega)
                refine VE.seqN ?_
                refine VC.seq ?_
                refine VC.seq ?_
                refine VC.reg (VO.l (LO.mv (.r rfl)) rfl<|VO.l (LO.add (.r rfl) (.r rfl) (wi (by omega) (by omega))) rfl<|VO.l (LO.as (.r rfl)) rfl<|VO.nil ?_)
                refine VE.seqN ?_
                refine VC.block ?_
                refine VC.res (selKT (L := [_,_,_,_,_,_,_,_,_,_,_,_,_]) (L1 := [_,_,_,_,_,_,_,_,_,_,_,_,_]) (L2 := []) (X := T) [2,0,1,3,4,5,6,7,8,9,10,11,12] rfl rfl rfl) ?_
                show VC _ _ _ _ _ _ ([_,_,_,_,_,_,_,_,_,_,_,_,_] ++ T) _ _
                refine VC.loopK (α := Nat × (List Span)) 1 (fun gx => [(20, .int .i64 (gx.1 : Nat))]) [(5,_), (14,_)] (fun gx => [own 25 2 (some ⟨b5,0, none⟩) n (gx.2.map spanC)]) (fun gx => gx.1 ≤ n ∧ gx.2.length = n ∧ smO gx.2 (100 * (t_ + 30) + 20 + 2 * gx.1) ∧ resB n (n - gx.1) gx.2 = TH) (fun gx => n - gx.1) (n_ + 1, (addL o2 n_)) (by exact ⟨by omega, hOO1, hOO2, hT2⟩) (.cons rfl (.cons rfl (.cons rfl .nil))) (fun _ h => h) ?_
                rintro ⟨i, o3⟩ ⟨hi, hl3, hs3, hr3⟩
                show VC _ _ _ _ _ ([(20, .int .i64 (i : Nat))] ++ _) ([own 25 2 (some ⟨b5,0, none⟩) n (o3.map spanC)] ++ _) _ _
                dsimp only at hi hl3 hs3 hr3
                refine VC.seq ?_
                refine VC.seq ?_
                refine VC.reg (VO.l (LO.mv (.r rfl)) rfl<|VO.l (LO.fa (r := 5) F59_5 (.r rfl) rfl) rfl<|VO.l (LO.ld O3 (.r rfl) (fun _ hw => cells_at hw 12 rfl ⟨_, rfl⟩)) rfl<|VO.l (LO.lt (.r rfl) (.r rfl)) rfl<|VO.nil ?_)
                refine VE.seqN ?_
                refine VC.cond rfl (fun h110 => ?_) (fun h110 => ?_)
                ·
                  refine VC.skip (VE.seqN ?_)
                  refine VC.seq ?_
                  refine VC.block ?_
                  refine VC.seq ?_
                  have q4 := hs3 i
                  refine VC.reg (VO.l (LO.ld O45 (.r rfl) (fun _ hw => cells_at hw 9 rfl ⟨_, rfl⟩)) rfl<|VO.l (LO.mv (.r rfl)) rfl<|VO.l (LO.ixo S45 N25 (fun _ hw => (own_rows hw 0 rfl).some (by rw [List.length_map]; first | omega | (rw [addH_len]; omega) | (rw [addL_len]; omega))) (.r rfl) (.r rfl) rfl (by omega)) rfl<|VO.l (LO.fa F25_0 (.r rfl) rfl) rfl<|VO.l (LO.ld O3 (.r rfl) (fun w hw => cells_part (off := 0) (own_cell hw 0 rfl (getD_some (d := zsp) (by first | omega | (rw [addH_len]; omega) | (rw [addL_len]; omega)))) ⟨_, rfl⟩)) rfl<|VO.l (LO.add (.r rfl) (.r rfl) (wi (by omega) (by omega))) rfl<|VO.l (LO.ixo S45 N25 (fun _ hw => (own_rows hw 0 rfl).some (by rw [List.length_map]; first | omega | (rw [addH_len]; omega) | (rw [addL_len]; omega))) (.r rfl) (.r rfl) rfl (by omega)) rfl<|VO.l (LO.fa F25_0 (.r rfl) rfl) rfl<|VO.h0<|HO.sto 0 (fun R => [R,_,_,_,_,_,_,_,_,_,_,_,_] ++ T) (o := 0) (vs := [_]) N3 (.r rfl) (.r rfl) rfl (map_get (getD_some (d := zsp) (by omega))) rfl rfl (Nat.le_of_ble_eq_true rfl) rfl (fun _ => rfl)<|VO.nil ?_)
                  rw [addL_set]
                  refine VE.seqN ?_
                  have q5 := smO_L hs3 i i
                  refine VC.reg (VO.l (LO.ld O45 (.r rfl) (fun _ hw => cells_at hw 9 rfl ⟨_, rfl⟩)) rfl<|VO.l (LO.mv (.r rfl)) rfl<|VO.l (LO.ixo S45 N25 (fun _ hw => (own_rows hw 0 rfl).some (by rw [List.length_map]; first | omega | (rw [addH_len]; omega) | (rw [addL_len]; omega))) (.r rfl) (.r rfl) rfl (by omega)) rfl<|VO.l (LO.fa F25_1 (.r rfl) rfl) rfl<|VO.l (LO.ld O3 (.r rfl) (fun w hw => cells_part (off := 1) (own_cell hw 0 rfl (getD_some (d := zsp) (by first | omega | (rw [addH_len]; omega) | (rw [addL_len]; omega)))) ⟨_, rfl⟩)) rfl<|VO.l (LO.add (.r rfl) (.r rfl) (wi (by omega) (by omega))) rfl<|VO.l (LO.ixo S45 N25 (fun _ hw => (own_rows hw 0 rfl).some (by rw [List.length_map]; first | omega | (rw [addH_len]; omega) | (rw [addL_len]; omega))) (.r rfl) (.r rfl) rfl (by omega)) rfl<|VO.l (LO.fa F25_1 (.r rfl) rfl) rfl<|VO.h0<|HO.sto 0 (fun R => [R,_,_,_,_,_,_,_,_,_,_,_,_] ++ T) (o := 1) (vs := [_]) N3 (.r rfl) (.r rfl) rfl (map_get (getD_some (d := zsp) (by rw [addL_len]; omega))) rfl rfl (Nat.le_of_ble_eq_true rfl) rfl (fun _ => rfl)<|VO.nil ?_)
                  rw [addH_set]
                  refine VE.inN (VE.seqN ?_)
                  refine VC.reg (VO.l (LO.mv (.r rfl)) rfl<|VO.l (LO.add (.r rfl) (.r rfl) (wi (by omega) (by omega))) rfl<|VO.l (LO.as (.r rfl)) rfl<|VO.nil ?_)
                  refine VE.thenN fun a w ha hw => ⟨(i + 1, addH (addL o3 i) i), ⟨by omega, by rw [addH_len, addL_len]; exact hl3, smO_up (smO_H (smO_L hs3 i) i) (by omega), by rw [← res_1 (by omega)]; exact hr3⟩, (by dsimp only; omega), ha.sub (.cons rfl (.cons rfl (.cons rfl .nil))), hw⟩
                ·
                  refine VC.exit (VE.thenX (VE.thenX (VE.inX (VE.seqN ?_))))
                  refine VC.exit (VE.outX rfl ?_)
                  exact fun a w ha hw => ⟨(o3, (pp || decide ((heiS z t_ (n_ : Nat)).lo ≤ G.hi))), ⟨rfl, ⟨hl3, smO_up hs3 (by omega), (by have e : i = n := (by omega); subst e; rw [Nat.sub_self] at hr3; exact hr3)⟩⟩, selKT (L := [_,_,_,_,_,_,_,_,_,_,_,_,_]) (L1 := [_,_,_,_,_,_,_,_,_,_,_]) (L2 := []) (X := T) [0,3,4,5,6,7,8,9,10,11,12] rfl rfl rfl w hw⟩
              ·
                refine VC.skip (VE.inN ?_)
                exact fun a w ha hw => ⟨(o2, (pp || decide ((heiS z t_ (n_ : Nat)).lo ≤ G.hi))), ⟨by first | exact hl2 | (rw [addH_len]; exact hl2), smO_up (hs2) (by omega), by rw [thr_1 hmn, if_neg h96, if_neg hp] at hT2; exact hT2⟩, selKT (L := [_,_,_,_,_,_,_,_,_,_,_,_,_]) (L1 := [_,_,_,_,_,_,_,_,_,_,_]) (L2 := []) (X := T) [2,3,4,5,6,7,8,9,10,11,12] rfl rfl rfl w hw⟩
          ·
            rintro D_ ⟨o2, pp⟩ hI
            obtain ⟨hl2, hs2, hT2⟩ := hI
            dsimp only at hl2 hs2 hT2
            rw [und_len, Nat.sub_self] at hT2
            have hT2 : o2 = thrB n G (fun j => heiS z t_ j) n false o := by rw [← hTH]; exact hT2
            rw [und_len] at hs2
            show VE _ _ _ _ [own 25 2 (some ⟨b5,0, none⟩) n (o2.map spanC), blk b10 (.cells #[.bool pp] 4),_,_,_,_,_,_,_,_,_,_] _ _
            refine VE.inN (VE.inN (VE.seqN ?_))
            refine VC.seq ?_
            refine VC.seq ?_
            refine VC.reg (VO.l (LO.ld O3 (.r rfl) (fun _ hw => cells_at hw 6 rfl ⟨_, rfl⟩)) rfl<|VO.nil ?_)
            refine VE.seqN ?_
            refine VC.reg (VO.h rfl<|HO.alloc (C := #[_]) Z3 rfl fun b56 => VO.h0<|HO.st 0 (vs := [_]) (C' := [_]) (L' := [_,_,_,_,_,_,_,_,_,_,_,_,_]) N3 rfl rfl rfl rfl rfl rfl rfl rfl<|VO.nil ?_)
            refine VE.seqN ?_
            refine VC.reg (VO.l (LO.ld O3 (.r rfl) (fun _ hw => cells_at hw 0 rfl ⟨_, rfl⟩)) rfl<|VO.l (LO.add (.r rfl) (.r rfl) (wi (by omega) (by omega))) rfl<|VO.h0<|HO.st 0 (vs := [_]) (C' := [_]) (L' := [_,_,_,_,_,_,_,_,_,_,_,_,_]) N3 rfl rfl rfl rfl rfl rfl rfl rfl<|VO.nil ?_)
            refine VE.thenN fun a w ha hw => ⟨(t_ + 1, b56, o2, D_ :: Ds), ⟨by dsimp only; omega, hl2, smO_up hs2 (by omega), by rw [hT2]; rw [til_1 (by omega)] at hfin; exact hfin⟩, (by dsimp only; omega), ha.sub (.cons rfl (.cons rfl (.cons rfl (.cons rfl (.cons rfl (.cons rfl (.cons rfl .nil))))))), (hw.sel [0,1,12,8,9,10,11] rfl)⟩
          ·
            rintro D_ c_ n_ ⟨o2, pp⟩ hn_ ⟨rfl, hI⟩
            obtain ⟨hl2, hs2, hT2⟩ := hI
            dsimp only at hl2 hs2 hT2
            rw [hTH] at hT2
            show VC _ _ _ _ _ _ [own 25 2 (some ⟨b5,0, none⟩) n (o2.map spanC), blk b10 (.cells #[.bool pp] 4),_,_,_,_,_,_,_,_,_,_] _ _
            refine VC.exit (VE.outX rfl (VE.inX (VE.seqN ?_)))
            refine VC.seq ?_
            refine VC.seq ?_
            refine VC.reg (VO.l (LO.ld O3 (.r rfl) (fun _ hw => cells_at hw 6 rfl ⟨_, rfl⟩)) rfl<|VO.nil ?_)
            refine VE.seqN ?_
            refine VC.reg (VO.h rfl<|HO.alloc (C := #[_]) Z3 rfl fun b71 => VO.h0<|HO.st 0 (vs := [_]) (C' := [_]) (L' := [_,_,_,_,_,_,_,_,_,_,_,_,_]) N3 rfl rfl rfl rfl rfl rfl rfl rfl<|VO.nil ?_)
            refine VE.seqN ?_
            refine VC.reg (VO.l (LO.ld O3 (.r rfl) (fun _ hw => cells_at hw 0 rfl ⟨_, rfl⟩)) rfl<|VO.l (LO.add (.r rfl) (.r rfl) (wi (by omega) (by omega))) rfl<|VO.h0<|HO.st 0 (vs := [_]) (C' := [_]) (L' := [_,_,_,_,_,_,_,_,_,_,_,_,_]) N3 rfl rfl rfl rfl rfl rfl rfl rfl<|VO.nil ?_)
            refine VE.thenN fun a w ha hw => ⟨(t_ + 1, b71, o2, D_ :: Ds), ⟨by dsimp only; omega, hl2, smO_up hs2 (by omega), by rw [hT2]; rw [til_1 (by omega)] at hfin; exact hfin⟩, (by dsimp only; omega), ha.sub (.cons rfl (.cons rfl (.cons rfl (.cons rfl (.cons rfl (.cons rfl (.cons rfl .nil))))))), (hw.sel [0,1,12,8,9,10,11] rfl)⟩
        ·
          refine VC.exit (VE.thenX (VE.thenX (VE.inX (VE.seqN ?_))))
          refine VC.seq ?_
          refine VC.reg (VO.l (LO.ld O45 (.r rfl) (fun _ hw => cells_at hw 3 rfl ⟨_, rfl⟩)) rfl<|VO.l (LO.as (.r rfl)) rfl<|VO.l (LO.as (.r rfl)) rfl<|VO.nil ?_)
          refine VE.seqN ?_
          refine VC.ret (VE.scR (VE.resDm (vs := [_,_]) (A := [_,_,_,_,_,_]) rfl (selK [2,0,1,3,4,5,6] rfl rfl) ⟨rfl, rfl, trivial⟩ (fun w hw => ?_)))
          have hfo : o = bloB n G z t wd := by rw [← hFINe, ← hfin, show (t + wd + 1 - t_).toNat = 0 by omega]; rfl
          refine ⟨(some ⟨b5,0, none⟩, n), trivial, ?_, ?_⟩
          · rw [blo_len]; rfl
          · rw [← hfo]; exact hw.sel [1] rfl

end Go.Proofs.YtffbohecdocajaaGreat

namespace Go.Proofs.YtffbohecdocajaaGreat
open Go.SL Go.Proofs Go.Pulse
set_option linter.unusedVariables false

theorem S41 : IsSlice Tryz.prog 41 76 := Tryz.underlying41
theorem F62_0 : FieldAt Tryz.prog 62 0 0 := ⟨_,_, Tryz.underlying62, rfl, rfl, 7, by kernel_rfl⟩
theorem F62_1 : FieldAt Tryz.prog 62 1 8 := ⟨_,_, Tryz.underlying62, rfl, rfl, 0, by kernel_rfl⟩
theorem F62_2 : FieldAt Tryz.prog 62 2 9 := ⟨_,_, Tryz.underlying62, rfl, rfl, 0, by kernel_rfl⟩
theorem F62_3 : FieldAt Tryz.prog 62 3 10 := ⟨_,_, Tryz.underlying62, rfl, rfl, 0, by kernel_rfl⟩
theorem O60 : IsOne Tryz.prog 60 := ⟨⟨_, Tryz.underlying60, rfl⟩, by kernel_rfl⟩
theorem S60 : IsSlice Tryz.prog 60 41 := Tryz.underlying60
theorem N41 : (Tryz.prog.info? 41).map (·.size) = some 1 := by kernel_rfl
theorem O41 : IsOne Tryz.prog 41 := ⟨⟨_, Tryz.underlying41, rfl⟩, by kernel_rfl⟩
abbrev ERow := RowA Echo
abbrev ERows (w : World) (p : Option Addr) (rs : List ERow) : Prop := RR 14 echoC w p rs
def zRE : ERow := RowA.z
def lensOk (rs : List ERow) (n : Int) : Prop := ∀ x ∈ rs, (x.l.length : Int) = n
instance (rs : List ERow) (n : Int) : Decidable (lensOk rs n) := by unfold lensOk; exact inferInstance
def rowE (l : List Echo) : Int := firstE (fun k => echoE (l.getD k zE)) l.length
def rowsE (rs : List ERow) : Int := firstE (fun i => rowE (rs.getD i zRE).l) rs.length
def sweepE (s : Site) (ti tm : Int) (rs : List ERow) : Int :=
  if siteE s ≠ 0 then siteE s else if ¬ ((0 ≤ ti ∧ ti ≤ 256) ∧ 0 ≤ tm ∧ tm ≤ 4294967296) then 3 else if (rs.length : Int) ≠ 4 * s.rose then 11 else if ¬ lensOk rs s.gates then 11 else rowsE rs
section
variable {s : Site} {ti tm : Int} {rs : List ERow}
theorem sw1 (h : ¬ siteE s = 0) : sweepE s ti tm rs = siteE s := if_pos h
theorem sw2 (h : ¬ ¬ siteE s = 0) (k : ¬ ((0 ≤ ti ∧ ti ≤ 256) ∧ 0 ≤ tm ∧ tm ≤ 4294967296)) : sweepE s ti tm rs = 3 := by unfold sweepE; rw [if_neg h, if_pos k]
theorem sw3 (h : ¬ ¬ siteE s = 0) (k : (0 ≤ ti ∧ ti ≤ 256) ∧ 0 ≤ tm ∧ tm ≤ 4294967296) (q : ¬ (rs.length : Int) = 4 * s.rose) : sweepE s ti tm rs = 11 := by unfold sweepE; rw [if_neg h, if_neg (fun f => f k), if_pos q]
theorem sw4 {i : Nat} (h : ¬ ¬ siteE s = 0) (k : (0 ≤ ti ∧ ti ≤ 256) ∧ 0 ≤ tm ∧ tm ≤ 4294967296) (q : ¬ ¬ (rs.length : Int) = 4 * s.rose) (hi : i < rs.length) (hl : ¬ ((rs.getD i zRE).l.length : Int) = s.gates) : sweepE s ti tm rs = 11 := by
  unfold sweepE; rw [if_neg h, if_neg (fun f => f k), if_neg q, if_pos (fun f => hl (f _ (getD_mem (d := zRE) hi)))]
theorem sw5 (h : ¬ ¬ siteE s = 0) (k : (0 ≤ ti ∧ ti ≤ 256) ∧ 0 ≤ tm ∧ tm ≤ 4294967296) (q : ¬ ¬ (rs.length : Int) = 4 * s.rose) (hl : ∀ j, j < rs.length → ((rs.getD j zRE).l.length : Int) = s.gates) : sweepE s ti tm rs = rowsE rs := by
  unfold sweepE; rw [if_neg h, if_neg (fun f => f k), if_neg q, if_neg]
  intro f
  refine f fun x hx => ?_
  obtain ⟨j, hj, rfl⟩ := mem_getD (d := zRE) hx
  exact hl j hj
theorem rows_at {i m : Nat} (hz : ∀ k, k < i → rowE (rs.getD k zRE).l = 0) (hi : i < rs.length) (hz2 : ∀ k, k < m → echoE ((rs.getD i zRE).l.getD k zE) = 0) (hm : m < (rs.getD i zRE).l.length) (he : ¬ echoE ((rs.getD i zRE).l.getD m zE) = 0) : rowsE rs = echoE ((rs.getD i zRE).l.getD m zE) := by
  have e : rowE (rs.getD i zRE).l = echoE ((rs.getD i zRE).l.getD m zE) := firstE_at (f := fun k => echoE ((rs.getD i zRE).l.getD k zE)) hz2 he hm
  unfold rowsE
  rw [firstE_at (f := fun i => rowE (rs.getD i zRE).l) hz (by rw [e]; exact he) hi, e]
theorem rows_0 (hz : ∀ k, k < rs.length → rowE (rs.getD k zRE).l = 0) : rowsE rs = 0 := firstE_zero hz
theorem row_0 {i : Nat} (hz2 : ∀ k, k < (rs.getD i zRE).l.length → echoE ((rs.getD i zRE).l.getD k zE) = 0) : rowE (rs.getD i zRE).l = 0 := firstE_zero hz2
theorem all_step2 {f : Nat → Prop} {i : Nat} (hz : ∀ k, k < i → f k) (h : f i) : ∀ k, k < i + 1 → f k := fun k hk => by
  by_cases q : k = i
  · subst q; exact h
  · exact hz k (by omega)
theorem erow_at {w : World} {p : Option Addr} (h : ERows w p rs) {i : Nat} (hi : i < rs.length) : (rs.getD i zRE).l.length ≤ (rs.getD i zRE).c ∧ RO 14 echoC w (rs.getD i zRE).p (rs.getD i zRE).l := h.2 _ (getD_mem (d := zRE) hi)
end

def sweepC (s : Site) (ti tm : Int) (p : Option Addr) (n c : Nat) : List Value := [.string s.name, .int .i64 s.x, .int .i64 s.y, .int .i64 s.z, .int .i64 s.rose, .int .i64 s.gates, .int .i64 s.step, .int .i64 s.width, .int .i64 ti, .int .i64 tm, .slice p n c]

theorem site_r {s : Site} (h : siteE s = 0) : 1 ≤ s.rose ∧ s.rose ≤ 90 := by
  unfold siteE at h
  by_cases q : nameB s.name = true
  · rw [if_pos q] at h
    by_cases k : siteOk s
    · unfold siteOk at k; omega
    · rw [if_neg k] at h; exact absurd h (by decide)
  · rw [if_neg q] at h; exact absurd h (by decide)

set_option maxRecDepth 20000 in
theorem CheckSweep_c (s : Site) (ti tm : Int) (rs : List ERow) (p : Option Addr) (c : Nat) (w : World) (hn : rs.length ≤ 200) (hm : ∀ x ∈ rs, x.l.length ≤ 60) (hl : ERows w p rs) :
  Calls Tryz.prog 14 #[.agg (sweepC s ti tm p rs.length c).toArray] w fun e w' => e = .returned (.int .i64 (sweepE s ti tm rs)) ∧ St (bs w) [] w' := by
  refine enter (vs := [_]) (env := [(0,_)]) Tryz.func14 rfl rfl rfl rfl ?_
  refine VC.seq ?_
  refine VC.reg (VO.h rfl<|HO.box (C := #[_,_,_,_,_,_,_,_,_,_,_]) rfl rfl fun b1 => VO.l (LO.as (.r rfl)) rfl<|VO.nil ?_)
  refine VE.seqN ?_
  refine VC.seq ?_
  refine VC.seq ?_
  refine VC.reg (VO.l (LO.fa (r := 0) F62_0 (.r rfl) rfl) rfl<|VO.l (LO.lda (vs := [_,_,_,_,_,_,_,_]) A59 (.r rfl) (fun _ hw => cells_at hw 0 rfl ⟨_, rfl⟩) rfl) rfl<|VO.l (LO.call (xs := [_]) (vs := [_]) C53 ⟨(.r rfl), trivial⟩ (fun w _ => CheckSite_c s w)) rfl<|VO.l (LO.as (.r rfl)) rfl<|VO.nil ?_)
  refine VE.seqN ?_
  refine VC.seq ?_
  refine VC.reg (VO.l (LO.mv (.r rfl)) rfl<|VO.l (LO.ne (.r rfl) (.r rfl)) rfl<|VO.nil ?_)
  refine VE.seqN ?_
  refine VC.cond rfl (fun hS => ?_) (fun hS => ?_)
  ·
    refine VC.seq ?_
    refine VC.reg (VO.l (LO.mv (.r rfl)) rfl<|VO.l (LO.as (.r rfl)) rfl<|VO.nil ?_)
    refine VE.seqN ?_
    refine VC.ret (VE.thenR (VE.res (vs := [_]) rfl ⟨rfl, trivial⟩ (fun w hw => ?_)))
    refine ⟨?_, hw.nil⟩
    simp only [resV]
    first | rw [sw1 hS] | rw [sw2 hS (by omega)] | rw [sw3 hS (by omega) (by omega)] | rw [sw4 (i := i) hS (by omega) (by omega) (by omega) hLn] | (rw [sw5 hS (by omega) (by omega) hzz]; first | (rw [rows_at hz (by omega) hz2 (by omega) hEr]; done) | (rw [rows_0 fun k hk => hz k (by omega)]; done))
  ·
    have hs0 : siteE s = 0 := Classical.not_not.1 hS
    have hsr := site_r hs0
    refine VC.skip (VE.seqN ?_)
    refine VC.seq ?_
    refine VC.seq ?_
    refine VC.reg (VO.l (LO.fa (r := 8) F62_1 (.r rfl) rfl) rfl<|VO.l (LO.ld O3 (.r rfl) (fun _ hw => cells_at hw 0 rfl ⟨_, rfl⟩)) rfl<|VO.l (LO.call (xs := [_,_,_]) (vs := [_,_,_]) C54 ⟨(.r rfl), (.r rfl), (.r rfl), trivial⟩ (fun w _ => within_c _ _ _ w)) rfl<|VO.l (LO.not (.r rfl)) rfl<|VO.l (LO.mv (.r rfl)) rfl<|VO.lg rfl rfl (GD.f _) (fun hg => LO.fa (r := 9) F62_2 (.r rfl) rfl) rfl<|VO.lg rfl rfl (GD.f _) (fun hg => LO.ld O3 (.g hg rfl) (fun _ hw => cells_at hw 0 rfl ⟨_, rfl⟩)) rfl<|VO.lg rfl rfl (GD.f _) (fun hg => LO.call (xs := [_,_,_]) (vs := [_,_,_]) C54 ⟨(.g hg rfl), (.r rfl), (.r rfl), trivial⟩ (fun w _ => within_c _ _ _ w)) rfl<|VO.lg rfl rfl (GD.f _) (fun hg => LO.not (.g hg rfl)) rfl<|VO.l (LO.pkO (.r rfl) (.r rfl) rfl rfl) rfl<|VO.nil ?_)
    refine VE.seqN ?_
    refine VC.cond rfl (fun h26 => ?_) (fun h26 => ?_)
    ·
      refine VC.seq ?_
      refine VC.reg (VO.l (LO.as (.r rfl)) rfl<|VO.nil ?_)
      refine VE.seqN ?_
      refine VC.ret (VE.thenR (VE.res (vs := [_]) rfl ⟨rfl, trivial⟩ (fun w hw => ?_)))
      refine ⟨?_, hw.nil⟩
      simp only [resV]
      first | rw [sw1 hS] | rw [sw2 hS (by omega)] | rw [sw3 hS (by omega) (by omega)] | rw [sw4 (i := i) hS (by omega) (by omega) (by omega) hLn] | (rw [sw5 hS (by omega) (by omega) hzz]; first | (rw [rows_at hz (by omega) hz2 (by omega) hEr]; done) | (rw [rows_0 fun k hk => hz k (by omega)]; done))
    ·
      refine VC.skip (VE.seqN ?_)
      refine VC.seq ?_
      refine VC.seq ?_
      refine VC.reg (VO.l (LO.fa (r := 10) F62_3 (.r rfl) rfl) rfl<|VO.l (LO.ld O60 (.r rfl) (fun _ hw => cells_at hw 0 rfl ⟨_, rfl⟩)) rfl<|VO.l (LO.len S60 (.r rfl) rfl) rfl<|VO.l (LO.fa (r := 0) F62_0 (.r rfl) rfl) rfl<|VO.l (LO.fa (r := 4) F59_4 (.r rfl) rfl) rfl<|VO.l (LO.ld O3 (.r rfl) (fun _ hw => cells_at hw 0 rfl ⟨_, rfl⟩)) rfl<|VO.l (LO.mul (.r rfl) (.r rfl) (wi (by omega) (by omega))) rfl<|VO.l (LO.ne (.r rfl) (.r rfl)) rfl<|VO.nil ?_)
      refine VE.seqN ?_
      refine VC.cond rfl (fun h34 => ?_) (fun h34 => ?_)
      ·
        refine VC.seq ?_
        refine VC.reg (VO.l (LO.as (.r rfl)) rfl<|VO.nil ?_)
        refine VE.seqN ?_
        refine VC.ret (VE.thenR (VE.res (vs := [_]) rfl ⟨rfl, trivial⟩ (fun w hw => ?_)))
        refine ⟨?_, hw.nil⟩
        simp only [resV]
        first | rw [sw1 hS] | rw [sw2 hS (by omega)] | rw [sw3 hS (by omega) (by omega)] | rw [sw4 (i := i) hS (by omega) (by omega) (by omega) hLn] | (rw [sw5 hS (by omega) (by omega) hzz]; first | (rw [rows_at hz (by omega) hz2 (by omega) hEr]; done) | (rw [rows_0 fun k hk => hz k (by omega)]; done))
      ·
        refine VC.skip (VE.seqN ?_)
        refine VC.seq ?_
        refine VC.seq ?_
        refine VC.reg (VO.l (LO.fa (r := 10) F62_3 (.r rfl) rfl) rfl<|VO.l (LO.ld O60 (.r rfl) (fun _ hw => cells_at hw 0 rfl ⟨_, rfl⟩)) rfl<|VO.l (LO.len S60 (.r rfl) rfl) rfl<|VO.l (LO.mv (.r rfl)) rfl<|VO.nil ?_)
        refine VE.seqN ?_
        refine VC.block ?_
        refine VC.loopK (α := Nat) 0 (fun gx => [(38, .int .i64 (gx : Nat))]) [(1,_), (36,_), (37,_)] (fun gx => []) (fun gx => gx ≤ rs.length ∧ ∀ k, k < gx → ((rs.getD k zRE).l.length : Int) = s.gates) (fun gx => rs.length - gx) 0 (by exact ⟨Nat.zero_le _, fun k hk => by omega⟩) (.cons rfl (.cons rfl (.cons rfl (.cons rfl .nil)))) (fun _ h => h) ?_
        rintro i ⟨hi, hz⟩
        refine VC.seq ?_
        refine VC.reg (VO.l (LO.lt (.r rfl) (.r rfl)) rfl<|VO.nil ?_)
        refine VE.seqN ?_
        refine VC.seq ?_
        refine VC.cond rfl (fun h4 => ?_) (fun h4 => ?_)
        ·
          refine VC.skip (VE.seqN ?_)
          refine VC.seq ?_
          refine VC.block ?_
          refine VC.seq ?_
          have hrow := erow_at hl (i := i) (by omega)
          have hr60 := hm _ (getD_mem (d := zRE) (show i < rs.length by omega))
          refine VC.reg (VO.l (LO.ixs S60 N41 hl.1.sm (.r rfl) (.r rfl) rfl (by omega)) rfl<|VO.l (LO.ld O41 (.r rfl) (fun w hw => cells_part (off := 0) ((hl.1.at zRE (j := i) (by omega)) w hw) ⟨_, rfl⟩)) rfl<|VO.l (LO.as (.r rfl)) rfl<|VO.nil ?_)
          refine VE.seqN ?_
          refine VC.seq ?_
          refine VC.reg (VO.l (LO.mv (.r rfl)) rfl<|VO.l (LO.len S41 (.r rfl) rfl) rfl<|VO.l (LO.fa (r := 0) F62_0 (.r rfl) rfl) rfl<|VO.l (LO.fa (r := 5) F59_5 (.r rfl) rfl) rfl<|VO.l (LO.ld O3 (.r rfl) (fun _ hw => cells_at hw 0 rfl ⟨_, rfl⟩)) rfl<|VO.l (LO.ne (.r rfl) (.r rfl)) rfl<|VO.nil ?_)
          refine VE.seqN ?_
          refine VC.cond rfl (fun hLn => ?_) (fun hLn => ?_)
          ·
            refine VC.seq ?_
            refine VC.reg (VO.l (LO.as (.r rfl)) rfl<|VO.nil ?_)
            refine VE.seqN ?_
            refine VC.ret (VE.inR (VE.thenR (VE.thenR (VE.inR (VE.thenR (VE.res (vs := [_]) rfl ⟨rfl, trivial⟩ (fun w hw => ?_)))))))
            refine ⟨?_, hw.nil⟩
            simp only [resV]
            first | rw [sw1 hS] | rw [sw2 hS (by omega)] | rw [sw3 hS (by omega) (by omega)] | rw [sw4 (i := i) hS (by omega) (by omega) (by omega) hLn] | (rw [sw5 hS (by omega) (by omega) hzz]; first | (rw [rows_at hz (by omega) hz2 (by omega) hEr]; done) | (rw [rows_0 fun k hk => hz k (by omega)]; done))
          ·
            refine VC.skip (VE.inN (VE.seqN ?_))
            refine VC.reg (VO.l (LO.add (.r rfl) (.r rfl) (wi (by omega) (by omega))) rfl<|VO.l (LO.mv (.r rfl)) rfl<|VO.nil ?_)
            refine VE.thenN fun a w ha hw => ⟨i + 1, ⟨by omega, all_step2 (f := fun k => ((rs.getD k zRE).l.length : Int) = s.gates) hz (Classical.not_not.1 hLn)⟩, (by omega), ha.sub (.cons rfl (.cons rfl (.cons rfl (.cons rfl .nil)))), hw⟩
        ·
          refine VC.exit (VE.thenX (VE.thenX (VE.inX (VE.seqN ?_))))
          refine VC.seq ?_
          refine VC.seq ?_
          have hir : i = rs.length := by omega
          subst hir
          have hzz := hz
          clear hz
          refine VC.reg (VO.l (LO.fa (r := 10) F62_3 (.r rfl) rfl) rfl<|VO.l (LO.ld O60 (.r rfl) (fun _ hw => cells_at hw 0 rfl ⟨_, rfl⟩)) rfl<|VO.l (LO.len S60 (.r rfl) rfl) rfl<|VO.l (LO.mv (.r rfl)) rfl<|VO.nil ?_)
          refine VE.seqN ?_
          refine VC.block ?_
          refine VC.loopK (α := Nat) 0 (fun gx => [(52, .int .i64 (gx : Nat))]) [(50,_), (51,_)] (fun gx => []) (fun gx => gx ≤ rs.length ∧ ∀ k, k < gx → rowE (rs.getD k zRE).l = 0) (fun gx => rs.length - gx) 0 (by exact ⟨Nat.zero_le _, fun k hk => by omega⟩) (.cons rfl (.cons rfl (.cons rfl .nil))) (fun _ h => h) ?_
          rintro i ⟨hi, hz⟩
          refine VC.seq ?_
          refine VC.reg (VO.l (LO.lt (.r rfl) (.r rfl)) rfl<|VO.nil ?_)
          refine VE.seqN ?_
          refine VC.seq ?_
          refine VC.cond rfl (fun h6 => ?_) (fun h6 => ?_)
          ·
            refine VC.skip (VE.seqN ?_)
            refine VC.seq ?_
            refine VC.block ?_
            refine VC.seq ?_
            have hrow := erow_at hl (i := i) (by omega)
            have hr60 := hm _ (getD_mem (d := zRE) (show i < rs.length by omega))
            refine VC.reg (VO.l (LO.ixs S60 N41 hl.1.sm (.r rfl) (.r rfl) rfl (by omega)) rfl<|VO.l (LO.ld O41 (.r rfl) (fun w hw => cells_part (off := 0) ((hl.1.at zRE (j := i) (by omega)) w hw) ⟨_, rfl⟩)) rfl<|VO.l (LO.as (.r rfl)) rfl<|VO.nil ?_)
            refine VE.seqN ?_
            refine VC.seq ?_
            refine VC.reg (VO.l (LO.mv (.r rfl)) rfl<|VO.l (LO.len S41 (.r rfl) rfl) rfl<|VO.l (LO.mv (.r rfl)) rfl<|VO.nil ?_)
            refine VE.seqN ?_
            refine VC.block ?_
            refine VC.loopK (α := Nat) 0 (fun gx => [(58, .int .i64 (gx : Nat))]) [(50,_), (51,_), (52,_), (56,_), (57,_)] (fun gx => []) (fun gx => gx ≤ (rs.getD i zRE).l.length ∧ ∀ k, k < gx → echoE ((rs.getD i zRE).l.getD k zE) = 0) (fun gx => (rs.getD i zRE).l.length - gx) 0 (by exact ⟨Nat.zero_le _, fun k hk => by omega⟩) (.cons rfl (.cons rfl (.cons rfl (.cons rfl (.cons rfl (.cons rfl .nil)))))) (fun _ h => h) ?_
            rintro m ⟨hm2, hz2⟩
            refine VC.seq ?_
            refine VC.reg (VO.l (LO.lt (.r rfl) (.r rfl)) rfl<|VO.nil ?_)
            refine VE.seqN ?_
            refine VC.seq ?_
            refine VC.cond rfl (fun h7 => ?_) (fun h7 => ?_)
            ·
              refine VC.skip (VE.seqN ?_)
              refine VC.seq ?_
              refine VC.block ?_
              refine VC.seq ?_
              refine VC.reg (VO.l (LO.ixs S41 N76 hrow.2.sm (.r rfl) (.r rfl) rfl (by omega)) rfl<|VO.l (LO.lda (vs := [_,_,_,_,_,_,_,_,_,_,_,_,_,_]) A76 (.r rfl) (fun w hw => cells_part (off := 0) ((hrow.2.at zE (j := m) (by omega)) w hw) ⟨_, rfl⟩) rfl) rfl<|VO.h rfl<|HO.alloc (C := #[_,_,_,_,_,_,_,_,_,_,_,_,_,_]) Z76 rfl fun b2 => VO.h0<|HO.st 0 (vs := [_,_,_,_,_,_,_,_,_,_,_,_,_,_]) (C' := [_,_,_,_,_,_,_,_,_,_,_,_,_,_]) (L' := [_,_]) N76 rfl rfl rfl rfl rfl rfl rfl rfl<|VO.nil ?_)
              refine VE.seqN ?_
              refine VC.seq ?_
              refine VC.reg (VO.l (LO.lda (vs := [_,_,_,_,_,_,_,_,_,_,_,_,_,_]) A76 (.r rfl) (fun _ hw => cells_at hw 0 rfl ⟨_, rfl⟩) rfl) rfl<|VO.l (LO.call (xs := [_]) (vs := [_]) C55 ⟨(.r rfl), trivial⟩ (fun w _ => echoP_c ((rs.getD i zRE).l.getD m zE) w)) rfl<|VO.l (LO.as (.r rfl)) rfl<|VO.nil ?_)
              refine VE.seqN ?_
              refine VC.seq ?_
              refine VC.reg (VO.l (LO.mv (.r rfl)) rfl<|VO.l (LO.ne (.r rfl) (.r rfl)) rfl<|VO.nil ?_)
              refine VE.seqN ?_
              refine VC.cond rfl (fun hEr => ?_) (fun hEr => ?_)
              ·
                refine VC.seq ?_
                refine VC.reg (VO.l (LO.mv (.r rfl)) rfl<|VO.l (LO.as (.r rfl)) rfl<|VO.nil ?_)
                refine VE.seqN ?_
                refine VC.ret (VE.inR (VE.thenR (VE.thenR (VE.inR (VE.inR (VE.thenR (VE.thenR (VE.inR (VE.thenR (VE.res (vs := [_]) rfl ⟨rfl, trivial⟩ (fun w hw => ?_)))))))))))
                refine ⟨?_, hw.nil⟩
                simp only [resV]
                first | rw [sw1 hS] | rw [sw2 hS (by omega)] | rw [sw3 hS (by omega) (by omega)] | rw [sw4 (i := i) hS (by omega) (by omega) (by omega) hLn] | (rw [sw5 hS (by omega) (by omega) hzz]; first | (rw [rows_at hz (by omega) hz2 (by omega) hEr]; done) | (rw [rows_0 fun k hk => hz k (by omega)]; done))
              ·
                refine VC.skip (VE.inN (VE.seqN ?_))
                refine VC.reg (VO.l (LO.add (.r rfl) (.r rfl) (wi (by omega) (by omega))) rfl<|VO.l (LO.mv (.r rfl)) rfl<|VO.nil ?_)
                refine VE.thenN fun a w ha hw => ⟨m + 1, ⟨by omega, all_step2 (f := fun k => echoE ((rs.getD i zRE).l.getD k zE) = 0) hz2 (Classical.not_not.1 hEr)⟩, (by omega), ha.sub (.cons rfl (.cons rfl (.cons rfl (.cons rfl (.cons rfl (.cons rfl .nil)))))), hw.sel [1] rfl⟩
            ·
              refine VC.exit (VE.thenX (VE.thenX (VE.inX (VE.inN (VE.seqN ?_)))))
              refine VC.reg (VO.l (LO.add (.r rfl) (.r rfl) (wi (by omega) (by omega))) rfl<|VO.l (LO.mv (.r rfl)) rfl<|VO.nil ?_)
              refine VE.thenN fun a w ha hw => ⟨i + 1, ⟨by omega, all_step2 (f := fun k => rowE (rs.getD k zRE).l = 0) hz (row_0 fun k hk => hz2 k (by omega))⟩, (by omega), ha.sub (.cons rfl (.cons rfl (.cons rfl .nil))), hw⟩
          ·
            refine VC.exit (VE.thenX (VE.thenX (VE.inX (VE.seqN ?_))))
            refine VC.seq ?_
            refine VC.reg (VO.l (LO.as (.r rfl)) rfl<|VO.nil ?_)
            refine VE.seqN ?_
            refine VC.ret (VE.res (vs := [_]) rfl ⟨rfl, trivial⟩ (fun w hw => ?_))
            refine ⟨?_, hw.nil⟩
            simp only [resV]
            first | rw [sw1 hS] | rw [sw2 hS (by omega)] | rw [sw3 hS (by omega) (by omega)] | rw [sw4 (i := i) hS (by omega) (by omega) (by omega) hLn] | (rw [sw5 hS (by omega) (by omega) hzz]; first | (rw [rows_at hz (by omega) hz2 (by omega) hEr]; done) | (rw [rows_0 fun k hk => hz k (by omega)]; done))

end Go.Proofs.YtffbohecdocajaaGreat

namespace Go.Proofs.YtffbohecdocajaaGreat
open Go.SL Go.Proofs Go.Pulse
set_option linter.unusedVariables false

theorem C10 : IsFn Tryz.prog 10 := ⟨_, Tryz.func10, by decide, rfl⟩
theorem A62 : IsAgg Tryz.prog 62 11 := ⟨⟨_, Tryz.underlying62, rfl⟩, by kernel_rfl⟩
theorem C14 : IsFn Tryz.prog 14 := ⟨_, Tryz.func14, by decide, rfl⟩
theorem C186 : IsFn Tryz.prog 186 := ⟨_, Tryz.func186, by decide, rfl⟩


def bdL (z t wd : Int) (n : Nat) : List Span := (List.range n).map fun j => banS z t wd (j : Nat)
def pwL (l : List Echo) : List Span := l.map fun x => x.power
theorem bdL_1 {z t wd : Int} {i : Nat} : bdL z t wd (i + 1) = bdL z t wd i ++ [banS z t wd (i : Nat)] := by unfold bdL; rw [List.range_succ, List.map_append]; rfl
theorem pwL_1 {l : List Echo} {i : Nat} (hi : i < l.length) : pwL (l.take (i + 1)) = pwL (l.take i) ++ [(l.getD i zE).power] := by
  unfold pwL; rw [take_at (getD_some (d := zE) hi), List.map_append]; rfl
theorem bdL_len {z t wd : Int} {n : Nat} : (bdL z t wd n).length = n := by unfold bdL; rw [List.length_map, List.length_range]
theorem bdL_at {z t wd : Int} {n j : Nat} (h : j < n) : (bdL z t wd n).getD j zsp = banS z t wd (j : Nat) := by
  unfold bdL; rw [List.getD_eq_getElem?_getD, List.getElem?_map, List.getElem?_range h]; rfl
theorem pwL_len {l : List Echo} : (pwL l).length = l.length := List.length_map ..
theorem pwL_at {l : List Echo} {j : Nat} (h : j < l.length) : (pwL l).getD j zsp = (l.getD j zE).power := by
  unfold pwL; rw [List.getD_eq_getElem?_getD, List.getElem?_map, getD_some (d := zE) h]; rfl
/-- What a ray is heard as, and where it is. -/
structure RyK (z wd t : Int) (G : Span) (l : List Echo) : Prop where
  z : 0 ≤ z ∧ z ≤ 20000
  wd : 0 ≤ wd ∧ wd ≤ 2
  t : 0 ≤ t ∧ t ≤ 15
  G : 0 ≤ G.lo ∧ G.lo ≤ G.hi ∧ G.hi ≤ 20000
  n : 1 ≤ l.length ∧ l.length ≤ 6
  e : ∀ x ∈ l, echoE x = 0
theorem ech_pow {x : Echo} (h : echoE x = 0) : inR x.power 1073741824 := by
  unfold echoE at h
  split at h
  · split at h
    · rename_i h2; exact h2.1
    · exact absurd h (by decide)
  · exact absurd h (by decide)
/-- The rates of a ray. -/
def ratL (m : Mdl) (z wd t : Int) (G : Span) (l : List Echo) : List Span := rayR m (2 * wd + 1) (bloB l.length G z t wd) (bdL z t wd l.length) (pwL l)
theorem ray_in {z wd t : Int} {G : Span} {l l' : List Echo} (k : RyK z wd t G l) (h : ∀ j, j < l.length → inSp (l'.getD j zE).power (l.getD j zE).power) (hl : l'.length = l.length) : RayIn (2 * wd + 1) (bloB l.length G z t wd) (bdL z t wd l.length) (pwL l) (pwL l') := by
  have hn := k.n
  have hw := k.wd
  have ht := k.t
  refine ⟨by omega, fun j hj => blo_ok k.G.2.1 ht.1 ht.2 hw.1 hw.2 hn.2 j, fun j hj => ?_, fun j hj => ?_⟩
  · rw [pwL_len] at hj
    rw [bdL_at hj]
    exact ban_ok ht.1 ht.2 hw.1 hw.2 (by omega) (by omega)
  · rw [pwL_len] at hj
    rw [pwL_at hj, pwL_at (by omega)]
    exact ⟨ech_pow (k.e _ (getD_mem hj)), h j hj⟩
theorem ray_self {z wd t : Int} {G : Span} {l : List Echo} (k : RyK z wd t G l) : RayIn (2 * wd + 1) (bloB l.length G z t wd) (bdL z t wd l.length) (pwL l) (pwL l) :=
  ray_in k (fun j hj => by have := ech_pow (k.e _ (getD_mem (d := zE) hj)); exact ⟨this.2.1, Int.le_refl _, Int.le_refl _⟩) rfl
theorem rat_mono {m : Mdl} {z wd t : Int} {G : Span} {l l' : List Echo} (hm : MdlOk m) (k : RyK z wd t G l) (h : ∀ j, j < l.length → inSp (l'.getD j zE).power (l.getD j zE).power) (hl : l'.length = l.length) {j : Nat} (hj : j < l.length) : inSp ((ratL m z wd t G l').getD j zsp) ((ratL m z wd t G l).getD j zsp) := by
  have e : ∀ l2 : List Echo, l2.length = l.length → (ratL m z wd t G l2).getD j zsp = gateR m (2 * wd + 1) (bloB l.length G z t wd) (bdL z t wd l.length) (pwL l2) j := fun l2 h2 => by
    unfold ratL rayR
    rw [List.getD_eq_getElem?_getD, List.getElem?_map, pwL_len, h2, List.getElem?_range hj]; rfl
  rw [e l' hl, e l rfl]
  exact gate_in hm (ray_in k h hl) (by rw [pwL_len]; exact hj)
theorem rat_len {m : Mdl} {z wd t : Int} {G : Span} {l : List Echo} : (ratL m z wd t G l).length = l.length := by unfold ratL rayR; rw [List.length_map, List.length_range, pwL_len]
abbrev swpV (z n wd t : Int) (pr : Option Addr) (cr : Nat) : List Value := [.string nmA, .int .i64 0, .int .i64 0, .int .i64 z, .int .i64 1, .int .i64 n, .int .i64 1000, .int .i64 wd, .int .i64 t, .int .i64 0, .slice pr 4 cr]
theorem row4_at {w0 : World} {L : List Res} {pr pe : Option Addr} {ce : Nat} {l : List Echo} (h : RO 1 rowC w0 pr (List.replicate 4 (⟨pe, ce, l⟩ : ERow))) : ∀ w, St (bs w0) L w → Cells w ⟨pb pr, po pr + 0 * 1, none⟩ [.slice pe l.length ce] := fun w hw => by
  have := h.at zRE (j := 0) (by rw [List.length_replicate]; decide) w hw
  exact this
theorem swp_v {z wd t : Int} {G : Span} {l : List Echo} {pr pe : Option Addr} {cr ce : Nat} (k : RyK z wd t G l) (w : World) (h1 : RO 1 rowC w pr (List.replicate 4 (⟨pe, ce, l⟩ : ERow))) (h2 : RO 14 echoC w pe l) (h3 : l.length ≤ ce) : Calls Tryz.prog 14 #[.agg (swpV z (l.length : Int) wd t pr cr).toArray] w fun e w' => e = .returned (.int .i64 0) ∧ St (bs w) [] w' := by
  have hmem : ∀ x, x ∈ List.replicate 4 (⟨pe, ce, l⟩ : ERow) → x = ⟨pe, ce, l⟩ := fun x hx => List.eq_of_mem_replicate hx
  have hn := k.n
  have hw := k.wd
  have ht := k.t
  have hs0 : siteE ⟨nmA, 0,0, z, 1, (l.length : Int), 1000, wd⟩ = 0 := sit_0 k.z (by omega) (by omega)
  have h := CheckSweep_c ⟨nmA, 0,0, z, 1, (l.length : Int), 1000, wd⟩ t 0 (List.replicate 4 (⟨pe, ce, l⟩ : ERow)) pr cr w (by rw [List.length_replicate]; decide) (fun x hx => by rw [hmem x hx]; show l.length ≤ 60; omega) ⟨h1, fun x hx => by rw [hmem x hx]; exact ⟨h3, h2⟩⟩
  have e0 : sweepE ⟨nmA, 0,0, z, 1, (l.length : Int), 1000, wd⟩ t 0 (List.replicate 4 (⟨pe, ce, l⟩ : ERow)) = 0 := by
    rw [sw5 (fun q => q hs0) (by omega) (by rw [List.length_replicate]; exact fun q => q rfl)]
    · refine rows_0 fun j hj => ?_
      rw [hmem _ (getD_mem (d := zRE) hj)]
      exact row_0 (rs := [(⟨pe, ce, l⟩ : ERow)]) (i := 0) fun q hq => k.e _ (getD_mem hq)
    · intro j hj
      rw [hmem _ (getD_mem (d := zRE) hj)]
  rw [e0] at h
  exact h

set_option maxRecDepth 20000 in
theorem checked_c (x : MdA) (z wd t : Int) (G : Span) (l : List Echo) (pr pe : Option Addr) (cr ce : Nat) (pg : Option Addr) (cg : Nat) (w : World) (h1 : x.m.loss.length < 1000000000000000000) (h2 : x.m.rate.length < 1000000000000000000) (hx : MdI w x) (k : RyK z wd t G l) (hr : RO 1 rowC w pr (List.replicate 4 (⟨pe, ce, l⟩ : ERow))) (he : RO 14 echoC w pe l) (hc : l.length ≤ ce) (hg : Spans w pg (List.replicate 4 G)) :
  Calls Tryz.prog 114 #[.agg (mdC x).toArray, .agg (swpV z (l.length : Int) wd t pr cr).toArray, earV, .agg (fldV pg cg).toArray, .int .i64 0] w fun e w' => e = .returned (.int .i64 (mdlE x.m)) ∧ St (bs w) [] w' := by
  have hn := k.n
  have hwd := k.wd
  refine enter (vs := [_,_,_,_,_]) (env := [(0,_), (1,_), (2,_), (3,_), (4,_)]) Tryz.func114 rfl rfl rfl rfl ?_
  refine VC.seq ?_
  refine VC.reg (VO.h rfl<|HO.box (C := #[_,_,_,_,_,_,_,_]) rfl rfl fun b1 => VO.h rfl<|HO.box (C := #[_,_,_,_,_,_,_,_,_,_,_]) rfl rfl fun b2 => VO.h rfl<|HO.box (C := #[_,_]) rfl rfl fun b3 => VO.h rfl<|HO.box (C := #[_,_,_,_,_,_]) rfl rfl fun b4 => VO.l (LO.as (.r rfl)) rfl<|VO.nil ?_)
  refine VE.seqN ?_
  refine VC.seq ?_
  refine VC.seq ?_
  refine VC.reg (VO.l (LO.lda (vs := [_,_,_,_,_,_,_,_]) A35 (.r rfl) (fun _ hw => cells_at hw 3 rfl ⟨_, rfl⟩) rfl) rfl<|VO.l (LO.call (xs := [_]) (vs := [_]) C10 ⟨(.r rfl), trivial⟩ (fun w hw => CheckModel_c x w h1 h2 ⟨hx.l.keep w hw, hx.r.keep w hw⟩)) rfl<|VO.l (LO.as (.r rfl)) rfl<|VO.nil ?_)
  refine VE.seqN ?_
  refine VC.seq ?_
  refine VC.reg (VO.l (LO.mv (.r rfl)) rfl<|VO.l (LO.ne (.r rfl) (.r rfl)) rfl<|VO.nil ?_)
  refine VE.seqN ?_
  refine VC.cond rfl (fun h18 => ?_) (fun h18 => ?_)
  ·
    refine VC.seq ?_
    refine VC.reg (VO.l (LO.mv (.r rfl)) rfl<|VO.l (LO.as (.r rfl)) rfl<|VO.nil ?_)
    refine VE.seqN ?_
    refine VC.ret (VE.thenR (VE.res (vs := [_]) rfl ⟨rfl, trivial⟩ (fun w hw => ?_)))
    refine ⟨?_, hw.nil⟩
    simp only [resV]
  ·
    refine VC.skip (VE.seqN ?_)
    refine VC.seq ?_
    refine VC.seq ?_
    refine VC.reg (VO.l (LO.lda (vs := [_,_,_,_,_,_,_,_,_,_,_]) A62 (.r rfl) (fun _ hw => cells_at hw 2 rfl ⟨_, rfl⟩) rfl) rfl<|VO.l (LO.call (xs := [_]) (vs := [_]) C14 ⟨(.r rfl), trivial⟩ (fun w hw => swp_v k w (hr.keep w hw) (he.keep w hw) hc)) rfl<|VO.l (LO.as (.r rfl)) rfl<|VO.nil ?_)
    refine VE.seqN ?_
    refine VC.seq ?_
    refine VC.reg (VO.l (LO.mv (.r rfl)) rfl<|VO.l (LO.ne (.r rfl) (.r rfl)) rfl<|VO.nil ?_)
    refine VE.seqN ?_
    refine VC.cond rfl (fun h23 => ?_) (fun h23 => ?_)
    ·
      (exfalso; exact h23 rfl)
    ·
      refine VC.skip (VE.seqN ?_)
      refine VC.seq ?_
      refine VC.reg (VO.l (LO.fa (r := 0) F62_0 (.r rfl) rfl) rfl<|VO.l (LO.lda (vs := [_,_,_,_,_,_,_,_]) A59 (.r rfl) (fun _ hw => cells_at hw 2 rfl ⟨_, rfl⟩) rfl) rfl<|VO.l (LO.fa (r := 8) F62_1 (.r rfl) rfl) rfl<|VO.l (LO.ld O3 (.r rfl) (fun _ hw => cells_at hw 2 rfl ⟨_, rfl⟩)) rfl<|VO.l (LO.lda (vs := [_,_]) A25 (.r rfl) (fun _ hw => cells_at hw 1 rfl ⟨_, rfl⟩) rfl) rfl<|VO.l (LO.lda (vs := [_,_,_,_,_,_]) A108 (.r rfl) (fun _ hw => cells_at hw 0 rfl ⟨_, rfl⟩) rfl) rfl<|VO.l (LO.mv (.r rfl)) rfl<|VO.h rfl<|HO.callx (xs := [_,_,_,_,_]) (vs := [_,_,_,_,_]) C186 ⟨(.r rfl), (.r rfl), (.r rfl), (.r rfl), (.r rfl), trivial⟩ (fun w hw => Blocked_c z l.length wd t G pg cg w k.z (by have := k.n; omega) (by have := k.wd; omega) k.n.2 k.wd.2 k.t (hg.keep w hw) k.G) fun yb _ => VO.h rfl<|HO.lo (LO.mv (.r rfl))<|VO.h rfl<|HO.lo (LO.ex (.r rfl) rfl)<|VO.h rfl<|HO.lo (LO.ex (.r rfl) rfl)<|VO.h rfl<|HO.lo (LO.as (.r rfl))<|VO.h rfl<|HO.lo (LO.as (.r rfl))<|VO.nil ?_)
      refine VE.seqN ?_
      refine VC.seq ?_
      refine VC.reg (VO.l (LO.mv (.r rfl)) rfl<|VO.l (LO.as (.r rfl)) rfl<|VO.nil ?_)
      refine VE.seqN ?_
      refine VC.ret (VE.res (vs := [_]) rfl ⟨rfl, trivial⟩ (fun w hw => ?_))
      refine ⟨?_, hw.nil⟩
      simp only [resV]
      rw [Classical.not_not.1 h18]
      rfl

end Go.Proofs.YtffbohecdocajaaGreat

namespace Go.Proofs.YtffbohecdocajaaGreat
open Go.SL Go.Proofs Go.Pulse
set_option linter.unusedVariables false

theorem C187 : IsFn Tryz.prog 187 := ⟨_, Tryz.func187, by decide, rfl⟩
theorem B418 : Builds Tryz.prog 418 [(0,1), (1,1)] [.int .i64 0, .slice none 0 0] := Builds.mk fun _ => by kernel_rfl
theorem C188 : IsFn Tryz.prog 188 := ⟨_, Tryz.func188, by decide, rfl⟩
theorem B422 : Builds Tryz.prog 422 [(0,8), (8,1)] [.slice none 0 0, .slice none 0 0, .int .i64 0, .int .i64 0, .int .i64 0, .int .i64 0, .int .i64 0, .int .i64 0, .slice none 0 0] := Builds.mk fun _ => by kernel_rfl
theorem B426 : Builds Tryz.prog 426 [(0,1)] [.nilFunc] := Builds.mk fun _ => by kernel_rfl
theorem Z488 : ZeroOf Tryz.prog 488 (.nilIface) := by unfold ZeroOf; kernel_rfl
theorem C190 : IsFn Tryz.prog 190 := ⟨_, Tryz.func190, by decide, rfl⟩


theorem mk_allK {x : MdA} {z wd t : Int} {G : Span} {l : List Echo} {ps bd : List Span} (k : RyK z wd t G l) (hm : MdlOk x.m) (h1 : ps = pwL l) (h2 : bd = bdL z t wd l.length) (pl : Option Addr) (cl : Nat) (pd : Option Addr) (cd : Nat) (pp : Option Addr) (cp b1 b2 b3 b4 : Nat) :
    AllK ⟨x, 2 * wd + 1, bloB l.length G z t wd, bd, ps, pl, cl, pd, cd, pp, cp, b1, b2, b3, b4⟩ := by
  subst h1 h2
  have hn := k.n
  have hw := k.wd
  exact ⟨hm, ray_self k, show 2 * wd + 1 ≤ 17 by omega, by show (bloB l.length G z t wd).length = (pwL l).length; rw [blo_len, pwL_len], by show (bdL z t wd l.length).length = (pwL l).length; rw [bdL_len, pwL_len], by show (pwL l).length ≤ 1000; rw [pwL_len]; omega⟩

set_option maxRecDepth 20000 in
set_option maxHeartbeats 1000000 in
theorem rates_c (x : MdA) (z wd t : Int) (G : Span) (l : List Echo) (pr pe : Option Addr) (cr ce : Nat) (pg : Option Addr) (cg : Nat) (w : World) (h1 : x.m.loss.length < 1000000000000000000) (h2 : x.m.rate.length < 1000000000000000000) (hx : MdI w x) (k : RyK z wd t G l) (hr : RO 1 rowC w pr (List.replicate 4 (⟨pe, ce, l⟩ : ERow))) (he : RO 14 echoC w pe l) (hc : l.length ≤ ce) (hg : Spans w pg (List.replicate 4 G)) (hm : MdlOk x.m) :
  Calls Tryz.prog 115 #[.agg (mdC x).toArray, .agg (swpV z (l.length : Int) wd t pr cr).toArray, earV, .agg (fldV pg cg).toArray, .int .i64 0] w fun e w' => ∃ y : Option Addr × Nat, True ∧ e = .returned (.slice y.1 (ratL x.m z wd t G l).length y.2) ∧ St (bs w) [own 25 2 y.1 y.2 ((ratL x.m z wd t G l).map spanC)] w' := by
  have hn := k.n
  have hwd := k.wd
  have ht := k.t
  refine enter (vs := [_,_,_,_,_]) (env := [(0,_), (1,_), (2,_), (3,_), (4,_)]) Tryz.func115 rfl rfl rfl rfl ?_
  refine VC.seq ?_
  refine VC.reg (VO.h rfl<|HO.box (C := #[_,_,_,_,_,_,_,_]) rfl rfl fun b1 => VO.h rfl<|HO.box (C := #[_,_,_,_,_,_,_,_,_,_,_]) rfl rfl fun b2 => VO.h rfl<|HO.box (C := #[_,_]) rfl rfl fun b3 => VO.h rfl<|HO.box (C := #[_,_,_,_,_,_]) rfl rfl fun b4 => VO.l (LO.as (.r rfl)) rfl<|VO.nil ?_)
  refine VE.seqN ?_
  refine VC.seq ?_
  refine VC.reg (VO.l (LO.fa (r := 0) F62_0 (.r rfl) rfl) rfl<|VO.l (LO.lda (vs := [_,_,_,_,_,_,_,_]) A59 (.r rfl) (fun _ hw => cells_at hw 2 rfl ⟨_, rfl⟩) rfl) rfl<|VO.l (LO.fa (r := 8) F62_1 (.r rfl) rfl) rfl<|VO.l (LO.ld O3 (.r rfl) (fun _ hw => cells_at hw 2 rfl ⟨_, rfl⟩)) rfl<|VO.l (LO.lda (vs := [_,_]) A25 (.r rfl) (fun _ hw => cells_at hw 1 rfl ⟨_, rfl⟩) rfl) rfl<|VO.l (LO.lda (vs := [_,_,_,_,_,_]) A108 (.r rfl) (fun _ hw => cells_at hw 0 rfl ⟨_, rfl⟩) rfl) rfl<|VO.l (LO.mv (.r rfl)) rfl<|VO.h rfl<|HO.callx (xs := [_,_,_,_,_]) (vs := [_,_,_,_,_]) C186 ⟨(.r rfl), (.r rfl), (.r rfl), (.r rfl), (.r rfl), trivial⟩ (fun w hw => Blocked_c z l.length wd t G pg cg w k.z (by have := k.n; omega) (by have := k.wd; omega) k.n.2 k.wd.2 k.t (hg.keep w hw) k.G) fun yb _ => VO.h rfl<|HO.lo (LO.mv (.r rfl))<|VO.h rfl<|HO.lo (LO.ex (.r rfl) rfl)<|VO.h rfl<|HO.lo (LO.ex (.r rfl) rfl)<|VO.h rfl<|HO.lo (LO.as (.r rfl))<|VO.h rfl<|HO.lo (LO.as (.r rfl))<|VO.nil ?_)
  refine VE.seqN ?_
  refine VC.seq ?_
  refine VC.reg (VO.l (LO.as (.r rfl)) rfl<|VO.l (LO.as (.r rfl)) rfl<|VO.nil ?_)
  refine VE.seqN ?_
  refine VC.seq ?_
  refine VC.seq ?_
  refine VC.reg (VO.l (LO.fa (r := 10) F62_3 (.r rfl) rfl) rfl<|VO.l (LO.ld O60 (.r rfl) (fun _ hw => cells_at hw 3 rfl ⟨_, rfl⟩)) rfl<|VO.l (LO.mv (.r rfl)) rfl<|VO.l (LO.ixs S60 N41 (show SlSome pr 4 from hr.sm) (.r rfl) (.r rfl) rfl (by decide)) rfl<|VO.l (LO.ld O41 (.r rfl) (fun w hw => cells_part (off := 0) ((row4_at hr) w hw) ⟨_, rfl⟩)) rfl<|VO.l (LO.len S41 (.r rfl) rfl) rfl<|VO.l (LO.mv (.r rfl)) rfl<|VO.nil ?_)
  refine VE.seqN ?_
  refine VC.block ?_
  refine VC.loopK (α := Nat × (List Span) × (Option Addr) × Nat × (List Span) × (Option Addr) × Nat) 0 (fun gx => [(13, .slice gx.2.2.1 gx.2.1.length gx.2.2.2.1), (14, .slice gx.2.2.2.2.2.1 gx.2.2.2.2.1.length gx.2.2.2.2.2.2), (36, .int .i64 (gx.1 : Nat))]) [(5,_), (6,_), (7,_), (11,_), (34,_), (35,_)] (fun gx => [own 25 2 gx.2.2.1 gx.2.2.2.1 (gx.2.1.map spanC), own 25 2 gx.2.2.2.2.2.1 gx.2.2.2.2.2.2 (gx.2.2.2.2.1.map spanC)]) (fun gx => gx.1 ≤ l.length ∧ gx.2.1 = pwL (l.take gx.1) ∧ gx.2.2.2.2.1 = bdL z t wd gx.1) (fun gx => l.length - gx.1) (0, [], none, 0, [], none, 0) (by exact ⟨Nat.zero_le _, rfl, rfl⟩) (.cons rfl (.cons rfl (.cons rfl (.cons rfl (.cons rfl (.cons rfl (.cons rfl (.cons rfl (.cons rfl .nil))))))))) (fun _ h => ((h.ownNil 25 2).ownNil 25 2)) ?_
  rintro ⟨i, ps, px, cx, bd, qx, dx⟩ ⟨hi, hP, hB⟩
  show VC _ _ _ _ _ ([(13, .slice px ps.length cx), (14, .slice qx bd.length dx), (36, .int .i64 (i : Nat))] ++ _) ([own 25 2 px cx (ps.map spanC), own 25 2 qx dx (bd.map spanC)] ++ _) _ _
  dsimp only at hi hP hB
  have hpl : ps.length = i := by rw [hP, pwL_len, List.length_take]; omega
  have hbl : bd.length = i := by rw [hB, bdL_len]
  refine VC.seq ?_
  refine VC.reg (VO.l (LO.lt (.r rfl) (.r rfl)) rfl<|VO.nil ?_)
  refine VE.seqN ?_
  refine VC.seq ?_
  refine VC.cond rfl (fun h1 => ?_) (fun h1 => ?_)
  ·
    refine VC.skip (VE.seqN ?_)
    refine VC.seq ?_
    refine VC.block ?_
    refine VC.seq ?_
    refine VC.reg (VO.l (LO.mv (.r rfl)) rfl<|VO.l (LO.ixs S41 N76 he.sm (.r rfl) (.r rfl) rfl (by omega)) rfl<|VO.l (LO.lda (vs := [_,_,_,_,_,_,_,_,_,_,_,_,_,_]) A76 (.r rfl) (fun w hw => cells_part (off := 0) ((he.at zE (j := i) (by omega)) w hw) ⟨_, rfl⟩) rfl) rfl<|VO.h rfl<|HO.alloc (C := #[_,_,_,_,_,_,_,_,_,_,_,_,_,_]) Z76 rfl fun b8 => VO.l (LO.as (.r rfl)) rfl<|VO.h0<|HO.st 0 (vs := [_,_,_,_,_,_,_,_,_,_,_,_,_,_]) (C' := [_,_,_,_,_,_,_,_,_,_,_,_,_,_]) (L' := [_,_,_,_,_,_,_,_]) N76 rfl rfl rfl rfl rfl rfl rfl rfl<|VO.nil ?_)
    refine VE.seqN ?_
    refine VC.seq ?_
    refine VC.reg (VO.l (LO.fa (r := 0) F62_0 (.r rfl) rfl) rfl<|VO.l (LO.lda (vs := [_,_,_,_,_,_,_,_]) A59 (.r rfl) (fun _ hw => cells_at hw 6 rfl ⟨_, rfl⟩) rfl) rfl<|VO.l (LO.fa (r := 8) F62_1 (.r rfl) rfl) rfl<|VO.l (LO.ld O3 (.r rfl) (fun _ hw => cells_at hw 6 rfl ⟨_, rfl⟩)) rfl<|VO.l (LO.lda (vs := [_,_]) A25 (.r rfl) (fun _ hw => cells_at hw 5 rfl ⟨_, rfl⟩) rfl) rfl<|VO.l (LO.mv (.r rfl)) rfl<|VO.l (LO.call (xs := [_,_,_,_]) (vs := [_,_,_,_]) C187 ⟨(.r rfl), (.r rfl), (.r rfl), (.r rfl), trivial⟩ (fun w _ => band_c z l.length wd t (i : Nat) k.z (by omega) (by omega) k.t hwd.2 (by omega) (by omega) w)) rfl<|VO.l (LO.mv (.r rfl)) rfl<|VO.l (LO.ex (.r rfl) rfl) rfl<|VO.l (LO.ex (.r rfl) rfl) rfl<|VO.h rfl<|HO.alloc (C := #[_,_]) Z25 rfl fun b10 => VO.h0<|HO.st 0 (vs := [_,_]) (C' := [_,_]) (L' := [_,_,_,_,_,_,_,_,_]) N25 rfl rfl rfl rfl rfl rfl rfl rfl<|VO.l (LO.as (.r rfl)) rfl<|VO.nil ?_)
    refine VE.seqN ?_
    refine VC.drawB [⟨3,54, fun b => .slice (some ⟨b, 0, none⟩) 1 1,25, #[_,_]⟩, ⟨7,58, fun b => .slice (some ⟨b, 0, none⟩) 1 1,25, #[_,_]⟩] [[0,1,2,3,4,5,6,7,8], [0,1,2,3,4,5,6,7,8], [0,1,3,4,5,6,7,8], [0,1,3,4,5,6,7,8], [0,1,4,5,6,7,8], [0,1,4,5,6,7,8], [0,1,4,5,6,7,8]] [some 3, some 3, some 3, none, none, some 3, some 2, none, none, none, none] mixed (by kernel_rfl) rfl (LX.l (fun _ hJ => LO.mv (.r rfl)) rfl<|LX.l (fun _ hJ => LO.fa (r := 1) F76_1 (.r rfl) rfl) rfl<|LX.l (fun _ hJ => LO.lda (vs := [_,_]) A25 (.r rfl) (fun _ hw => cells_at (hJ _ hw) 1 rfl ⟨_, rfl⟩) rfl) rfl<|LX.s<|LX.s<|LX.l (fun _ hJ => LO.mv (.r rfl)) rfl<|LX.l (fun _ hJ => LO.lda (vs := [_,_]) A25 (.r rfl) (fun _ hw => cells_at (hJ _ hw) 0 rfl ⟨_, rfl⟩) rfl) rfl<|LX.s<|LX.s<|LX.s<|LX.s<|LX.nil) (⟨⟨rfl,_, rfl, FO.bs (ps := [(_,_)]) (vs := [(_,_)]) (Z := [_,_]) (C := [_,_]) S45 Z25 N25 ⟨(.r rfl), trivial⟩ rfl rfl rfl rfl ⟨_, [_,_], [_,_], rfl, rfl, rfl, rfl, rfl⟩⟩, ⟨⟨rfl,_, rfl, FO.bs (ps := [(_,_)]) (vs := [(_,_)]) (Z := [_,_]) (C := [_,_]) S45 Z25 N25 ⟨(.r rfl), trivial⟩ rfl rfl rfl rfl ⟨_, [_,_], [_,_], rfl, rfl, rfl, rfl, rfl⟩⟩, trivial⟩⟩) (HY.s<|HY.s<|HY.s<|HY.f rfl fun b14 => ⟨selJ (L1 := [_,_,_,_,_,_,_,_,_]) [1,2,3,4,5,6,7,8,9] rfl rfl rfl, HY.h rfl rfl fun X => HO.appT ((l.getD i zE).power) 3 0 (fun R => [_,_,_, R,_,_,_,_,_,_] ++ X) S45 S45 I25 (.r rfl) (.r rfl) rfl rfl rfl rfl rfl rfl rfl (fun _ => rfl) rfl (by omega) fun p4 c4 => ⟨[_,_,_,_,_,_,_,_,_,_], rfl, selJ (L1 := [_,_,_,_,_,_,_,_]) [1,2,4,5,6,7,8,9] rfl rfl rfl, HY.s<|HY.s<|HY.f rfl fun b15 => ⟨selJ (L1 := [_,_,_,_,_,_,_,_]) [2,3,5,6,7,8,9,10] rfl rfl rfl, HY.h rfl rfl fun X => HO.appT ((banS z t wd (i : Nat))) 5 0 (fun R => [_,_,_,_,_, R,_,_,_,_,_] ++ X) S45 S45 I25 (.r rfl) (.r rfl) rfl rfl rfl rfl rfl rfl rfl (fun _ => rfl) rfl (by omega) fun p8 c8 => ⟨[_,_,_,_,_,_,_,_,_,_,_], rfl, selJ (L1 := [_,_,_,_,_,_,_]) [2,3,6,7,8,9,10] rfl rfl rfl, HY.h rfl rfl fun X => HO.lo (LO.as (.r rfl))<|⟨[_,_,_,_,_,_,_,_,_,_,_], rfl, selJ (L1 := [_,_,_,_,_,_,_]) [2,3,6,7,8,9,10] rfl rfl rfl, HY.h rfl rfl fun X => HO.lo (LO.as (.r rfl))<|⟨[_,_,_,_,_,_,_,_,_,_,_], rfl, selJ (L1 := [_,_,_,_,_,_,_]) [2,3,6,7,8,9,10] rfl rfl rfl, HY.nil ?_⟩⟩⟩⟩⟩⟩)
    refine VE.inN (VE.seqN ?_)
    refine VC.reg (VO.l (LO.add (.r rfl) (.r rfl) (wi (by omega) (by omega))) rfl<|VO.l (LO.mv (.r rfl)) rfl<|VO.nil ?_)
    refine VE.thenN fun a w ha hw => ⟨(i + 1, ps ++ [(l.getD i zE).power], p4, c4, bd ++ [banS z t wd (i : Nat)], p8, c8), ⟨by dsimp only; omega, by dsimp only; rw [pwL_1 (by omega), hP], by dsimp only; rw [bdL_1, hB]⟩, (by dsimp only; omega), ha.sub (.cons rfl (.cons rfl (.cons rfl (.cons rfl (.cons rfl (.cons rfl (.cons rfl (.cons rfl (.cons rfl .nil))))))))), hw.sel [4,5,6,7,8,9,10] rfl⟩
  ·
    refine VC.exit (VE.thenX (VE.thenX (VE.inX (VE.seqN ?_))))
    refine VC.seq ?_
    have hil : i = l.length := by omega
    have hP2 : ps = pwL l := by rw [hP, hil, List.take_length]
    have hB2 : bd = bdL z t wd l.length := by rw [hB, hil]
    clear hP hB hpl hbl
    subst hP2
    subst hB2
    refine VC.drawF (G := Option Addr × Nat) (fun y => [(10, .slice y.1 (ratL x.m z wd t G l).length y.2)]) [] (fun y => [own 25 2 y.1 y.2 ((ratL x.m z wd t G l).map spanC)]) [_,_,_,_,_,_,_] (fun y => True) 9 [some 0, some 0, some 0, some 0, some 0, some 0, some 0, some 0, some 0, some 0, none, none, some 0, some 0, some 0, some 0, some 0, some 0, none, none, none, none, some 0, none, none] mixed (by kernel_rfl) (LX.l (fun _ hJ => LO.fa (r := 0) F62_0 (.r rfl) rfl) rfl<|LX.l (fun _ hJ => LO.fa (r := 7) F59_7 (.r rfl) rfl) rfl<|LX.l (fun _ hJ => LO.ld O3 (.r rfl) (fun _ hw => cells_at (hJ _ hw) 5 rfl ⟨_, rfl⟩)) rfl<|LX.l (fun _ hJ => LO.mul (.r rfl) (.r rfl) (wi (by omega) (by omega))) rfl<|LX.l (fun _ hJ => LO.add (.r rfl) (.r rfl) (wi (by omega) (by omega))) rfl<|LX.l (fun _ hJ => LO.mv (.r rfl)) rfl<|LX.l (fun _ hJ => LO.bd (ps := [(_,_), (_,_)]) (vs := [(_,_), (_,_)]) (C := [_,_]) B418  ⟨(.r rfl), (.r rfl), trivial⟩ rfl ⟨_, [_], [_,_], rfl, rfl, rfl, rfl, ⟨_, [_], [_,_], rfl, rfl, rfl, rfl, rfl⟩⟩) rfl<|LX.l (fun _ hJ => LO.mi ⟨_, Tryz.underlying418, rfl⟩ (.r rfl)) rfl<|LX.l (fun _ hJ => LO.fa (r := 0) F35_0 (.r rfl) rfl) rfl<|LX.l (fun _ hJ => LO.ld O33 (.r rfl) (fun _ hw => cells_at (hJ _ hw) 6 rfl ⟨_, rfl⟩)) rfl<|LX.s<|LX.s<|LX.l (fun _ hJ => LO.lda (vs := [_,_,_,_,_,_,_,_]) A35 (.r rfl) (fun _ hw => cells_at (hJ _ hw) 6 rfl ⟨_, rfl⟩) rfl) rfl<|LX.l (fun _ hJ => LO.mv (.r rfl)) rfl<|LX.l (fun _ hJ => LO.bd (ps := [(_,_), (_,_)]) (vs := [(_,_), (_,_)]) (C := [_,_,_,_,_,_,_,_,_]) B422  ⟨(.r rfl), (.r rfl), trivial⟩ rfl ⟨_, [_,_,_,_,_,_,_,_], [_,_,_,_,_,_,_,_,_], rfl, rfl, rfl, rfl, ⟨_, [_], [_,_,_,_,_,_,_,_,_], rfl, rfl, rfl, rfl, rfl⟩⟩) rfl<|LX.l (fun _ hJ => LO.mi ⟨_, Tryz.underlying422, rfl⟩ (.r rfl)) rfl<|LX.l (fun _ hJ => LO.fa (r := 1) F35_1 (.r rfl) rfl) rfl<|LX.l (fun _ hJ => LO.ld O33 (.r rfl) (fun _ hw => cells_at (hJ _ hw) 6 rfl ⟨_, rfl⟩)) rfl<|LX.s<|LX.s<|LX.s<|LX.s<|LX.l (fun _ hJ => LO.mv (.r rfl)) rfl<|LX.s<|LX.s<|LX.nil) (fun hf => (HE.mk [10] (by kernel_rfl) rfl ⟨(HEo.op rfl rfl<|HO.callx (xs := [_]) (vs := [_]) C188 ⟨(.r rfl), trivial⟩ (fun w _ => passing_c x.m.loss x.pl x.cl w) fun bb _ => ⟨selK (L1 := [_,_,_,_,_,_,_]) [2,3,4,5,6,7,8] rfl rfl, (HE.mk [11,18] (by kernel_rfl) rfl ⟨(HEo.op rfl rfl<|HO.lo (LO.mi ⟨_, Tryz.underlying419, rfl⟩ (.r rfl))<|⟨selK (L1 := [_,_,_,_,_,_,_]) [2,3,4,5,6,7,8] rfl rfl, (HE.mk [18] (by kernel_rfl) rfl ⟨(HEo.op rfl rfl<|HO.callx (xs := [_]) (vs := [_]) C189 ⟨(.r rfl), trivial⟩ (fun w _ => worth_c x.m.rate x.pr x.cr w) fun br _ => ⟨selK (L1 := [_,_,_,_,_,_,_]) [3,4,5,6,7,8,9] rfl rfl, (HE.mk [19] (by kernel_rfl) rfl ⟨(HEo.op rfl rfl<|HO.lo (LO.bd (ps := [(_,_)]) (vs := [(_,_)]) (C := [_]) B426  ⟨(.r rfl), trivial⟩ rfl ⟨_, [_], [_], rfl, rfl, rfl, rfl, rfl⟩)<|⟨selK (L1 := [_,_,_,_,_,_,_]) [3,4,5,6,7,8,9] rfl rfl, (HE.mk [20] (by kernel_rfl) rfl ⟨(HEo.op rfl rfl<|HO.lo (LO.mi ⟨_, Tryz.underlying426, rfl⟩ (.r rfl))<|⟨selK (L1 := [_,_,_,_,_,_,_]) [3,4,5,6,7,8,9] rfl rfl, (HE.mk [21] (by kernel_rfl) rfl ⟨(HEo.op rfl rfl<|HO.bs (ps := [(_,_), (_,_), (_,_), (_,_)]) (vs := [(_,_), (_,_), (_,_), (_,_)]) (Z := [_,_,_,_]) (C := [_,_,_,_]) S428 Z488 N488 ⟨(.r rfl), (.r rfl), (.r rfl), (.r rfl), trivial⟩ rfl rfl rfl rfl ⟨_, [_], [_,_,_,_], rfl, rfl, rfl, rfl, ⟨_, [_], [_,_,_,_], rfl, rfl, rfl, rfl, ⟨_, [_], [_,_,_,_], rfl, rfl, rfl, rfl, ⟨_, [_], [_,_,_,_], rfl, rfl, rfl, rfl, rfl⟩⟩⟩⟩ fun b19 => ⟨selK (L1 := [_,_,_,_,_,_,_]) [4,5,6,7,8,9,10] rfl rfl, (HE.mk [23] (by kernel_rfl) rfl ⟨(HEo.op rfl rfl<|HO.callP (first := []) (cap := []) (xs := [_,_]) (vs := [_,_]) [_] [_,_,_,_,_,_,_,_,_,_] (selK (L1 := [_] ++ [_,_,_,_,_,_,_,_,_,_]) [2,0,1,3,4,5,6,7,8,9,10] rfl rfl) (.r rfl) C190 ⟨(.r rfl), (.r rfl), trivial⟩ (fun w hw hh => all_c (⟨x, 2 * wd + 1, bloB l.length G z t wd, bdL z t wd l.length, pwL l, yb.1, yb.2, qx, dx, px, cx, b19, bb.1, bb.2, br⟩ : AllX) w hh (fun L w2 h2 => ⟨RO.ofC (fun _ => rfl) (cells_at (St.rightOf (St.fz (selK (L1 := [_] ++ [_,_,_,_,_,_,_,_,_,_]) [2,0,1,3,4,5,6,7,8,9,10] rfl rfl w hw) h2)) 0 rfl ⟨_, rfl⟩), RO.of_own (St.rightOf (St.fz (selK (L1 := [_] ++ [_,_,_,_,_,_,_,_,_,_]) [2,0,1,3,4,5,6,7,8,9,10] rfl rfl w hw) h2)) 3 rfl, RO.of_own (St.rightOf (St.fz (selK (L1 := [_] ++ [_,_,_,_,_,_,_,_,_,_]) [2,0,1,3,4,5,6,7,8,9,10] rfl rfl w hw) h2)) 5 rfl, RO.of_own (St.rightOf (St.fz (selK (L1 := [_] ++ [_,_,_,_,_,_,_,_,_,_]) [2,0,1,3,4,5,6,7,8,9,10] rfl rfl w hw) h2)) 4 rfl, ⟨cells_at (St.rightOf (St.fz (selK (L1 := [_] ++ [_,_,_,_,_,_,_,_,_,_]) [2,0,1,3,4,5,6,7,8,9,10] rfl rfl w hw) h2)) 2 rfl ⟨_, rfl⟩, hx.l.keep w2 (St.rightOf (St.fz (selK (L1 := [_] ++ [_,_,_,_,_,_,_,_,_,_]) [2,0,1,3,4,5,6,7,8,9,10] rfl rfl w hw) h2))⟩, ⟨cells_at (St.rightOf (St.fz (selK (L1 := [_] ++ [_,_,_,_,_,_,_,_,_,_]) [2,0,1,3,4,5,6,7,8,9,10] rfl rfl w hw) h2)) 1 rfl ⟨_, rfl⟩, hx.r.keep w2 (St.rightOf (St.fz (selK (L1 := [_] ++ [_,_,_,_,_,_,_,_,_,_]) [2,0,1,3,4,5,6,7,8,9,10] rfl rfl w hw) h2))⟩⟩) (mk_allK k hm rfl rfl yb.1 yb.2 qx dx px cx b19 bb.1 bb.2 br)) fun yr _ => ⟨selK (L1 := [_,_,_,_,_,_,_]) [5,6,7,8,9,10,11] rfl rfl, (HE.mk [24] (by kernel_rfl) rfl ⟨(HEo.op rfl rfl<|HO.lo (LO.as (.r rfl))<|⟨selK (L1 := [_,_,_,_,_,_,_]) [5,6,7,8,9,10,11] rfl rfl, (HE.fin (by kernel_rfl) (VE.weak (.cons rfl .nil) (selK (L1 := [_] ++ [_,_,_,_,_,_,_]) [1,5,6,7,8,9,10,11] rfl rfl) (hf yr trivial)))⟩), trivial⟩)⟩), trivial⟩)⟩), trivial⟩)⟩), trivial⟩)⟩), trivial⟩)⟩), trivial⟩)⟩), (HEo.op rfl rfl<|HO.callx (xs := [_]) (vs := [_]) C189 ⟨(.r rfl), trivial⟩ (fun w _ => worth_c x.m.rate x.pr x.cr w) fun br _ => ⟨selK (L1 := [_,_,_,_,_,_,_]) [3,4,5,6,7,8,9] rfl rfl, (HE.mk [11,19] (by kernel_rfl) rfl ⟨(HEo.op rfl rfl<|HO.lo (LO.mi ⟨_, Tryz.underlying419, rfl⟩ (.r rfl))<|⟨selK (L1 := [_,_,_,_,_,_,_]) [3,4,5,6,7,8,9] rfl rfl, (HE.mk [19] (by kernel_rfl) rfl ⟨(HEo.op rfl rfl<|HO.lo (LO.bd (ps := [(_,_)]) (vs := [(_,_)]) (C := [_]) B426  ⟨(.r rfl), trivial⟩ rfl ⟨_, [_], [_], rfl, rfl, rfl, rfl, rfl⟩)<|⟨selK (L1 := [_,_,_,_,_,_,_]) [3,4,5,6,7,8,9] rfl rfl, (HE.mk [20] (by kernel_rfl) rfl ⟨(HEo.op rfl rfl<|HO.lo (LO.mi ⟨_, Tryz.underlying426, rfl⟩ (.r rfl))<|⟨selK (L1 := [_,_,_,_,_,_,_]) [3,4,5,6,7,8,9] rfl rfl, (HE.mk [21] (by kernel_rfl) rfl ⟨(HEo.op rfl rfl<|HO.bs (ps := [(_,_), (_,_), (_,_), (_,_)]) (vs := [(_,_), (_,_), (_,_), (_,_)]) (Z := [_,_,_,_]) (C := [_,_,_,_]) S428 Z488 N488 ⟨(.r rfl), (.r rfl), (.r rfl), (.r rfl), trivial⟩ rfl rfl rfl rfl ⟨_, [_], [_,_,_,_], rfl, rfl, rfl, rfl, ⟨_, [_], [_,_,_,_], rfl, rfl, rfl, rfl, ⟨_, [_], [_,_,_,_], rfl, rfl, rfl, rfl, ⟨_, [_], [_,_,_,_], rfl, rfl, rfl, rfl, rfl⟩⟩⟩⟩ fun b19 => ⟨selK (L1 := [_,_,_,_,_,_,_]) [4,5,6,7,8,9,10] rfl rfl, (HE.mk [23] (by kernel_rfl) rfl ⟨(HEo.op rfl rfl<|HO.callP (first := []) (cap := []) (xs := [_,_]) (vs := [_,_]) [_] [_,_,_,_,_,_,_,_,_,_] (selK (L1 := [_] ++ [_,_,_,_,_,_,_,_,_,_]) [2,0,1,3,4,5,6,7,8,9,10] rfl rfl) (.r rfl) C190 ⟨(.r rfl), (.r rfl), trivial⟩ (fun w hw hh => all_c (⟨x, 2 * wd + 1, bloB l.length G z t wd, bdL z t wd l.length, pwL l, yb.1, yb.2, qx, dx, px, cx, b19, bb.1, bb.2, br⟩ : AllX) w hh (fun L w2 h2 => ⟨RO.ofC (fun _ => rfl) (cells_at (St.rightOf (St.fz (selK (L1 := [_] ++ [_,_,_,_,_,_,_,_,_,_]) [2,0,1,3,4,5,6,7,8,9,10] rfl rfl w hw) h2)) 0 rfl ⟨_, rfl⟩), RO.of_own (St.rightOf (St.fz (selK (L1 := [_] ++ [_,_,_,_,_,_,_,_,_,_]) [2,0,1,3,4,5,6,7,8,9,10] rfl rfl w hw) h2)) 3 rfl, RO.of_own (St.rightOf (St.fz (selK (L1 := [_] ++ [_,_,_,_,_,_,_,_,_,_]) [2,0,1,3,4,5,6,7,8,9,10] rfl rfl w hw) h2)) 5 rfl, RO.of_own (St.rightOf (St.fz (selK (L1 := [_] ++ [_,_,_,_,_,_,_,_,_,_]) [2,0,1,3,4,5,6,7,8,9,10] rfl rfl w hw) h2)) 4 rfl, ⟨cells_at (St.rightOf (St.fz (selK (L1 := [_] ++ [_,_,_,_,_,_,_,_,_,_]) [2,0,1,3,4,5,6,7,8,9,10] rfl rfl w hw) h2)) 2 rfl ⟨_, rfl⟩, hx.l.keep w2 (St.rightOf (St.fz (selK (L1 := [_] ++ [_,_,_,_,_,_,_,_,_,_]) [2,0,1,3,4,5,6,7,8,9,10] rfl rfl w hw) h2))⟩, ⟨cells_at (St.rightOf (St.fz (selK (L1 := [_] ++ [_,_,_,_,_,_,_,_,_,_]) [2,0,1,3,4,5,6,7,8,9,10] rfl rfl w hw) h2)) 1 rfl ⟨_, rfl⟩, hx.r.keep w2 (St.rightOf (St.fz (selK (L1 := [_] ++ [_,_,_,_,_,_,_,_,_,_]) [2,0,1,3,4,5,6,7,8,9,10] rfl rfl w hw) h2))⟩⟩) (mk_allK k hm rfl rfl yb.1 yb.2 qx dx px cx b19 bb.1 bb.2 br)) fun yr _ => ⟨selK (L1 := [_,_,_,_,_,_,_]) [5,6,7,8,9,10,11] rfl rfl, (HE.mk [24] (by kernel_rfl) rfl ⟨(HEo.op rfl rfl<|HO.lo (LO.as (.r rfl))<|⟨selK (L1 := [_,_,_,_,_,_,_]) [5,6,7,8,9,10,11] rfl rfl, (HE.fin (by kernel_rfl) (VE.weak (.cons rfl .nil) (selK (L1 := [_] ++ [_,_,_,_,_,_,_]) [1,5,6,7,8,9,10,11] rfl rfl) (hf yr trivial)))⟩), trivial⟩)⟩), trivial⟩)⟩), trivial⟩)⟩), trivial⟩)⟩), trivial⟩)⟩), (HEo.op rfl rfl<|HO.lo (LO.bd (ps := [(_,_)]) (vs := [(_,_)]) (C := [_]) B426  ⟨(.r rfl), trivial⟩ rfl ⟨_, [_], [_], rfl, rfl, rfl, rfl, rfl⟩)<|⟨selK (L1 := [_,_,_,_,_,_,_]) [3,4,5,6,7,8,9] rfl rfl, (HE.mk [11,20] (by kernel_rfl) rfl ⟨(HEo.op rfl rfl<|HO.lo (LO.mi ⟨_, Tryz.underlying419, rfl⟩ (.r rfl))<|⟨selK (L1 := [_,_,_,_,_,_,_]) [3,4,5,6,7,8,9] rfl rfl, (HE.mk [20] (by kernel_rfl) rfl ⟨(HEo.op rfl rfl<|HO.lo (LO.mi ⟨_, Tryz.underlying426, rfl⟩ (.r rfl))<|⟨selK (L1 := [_,_,_,_,_,_,_]) [3,4,5,6,7,8,9] rfl rfl, (HE.mk [21] (by kernel_rfl) rfl ⟨(HEo.op rfl rfl<|HO.bs (ps := [(_,_), (_,_), (_,_), (_,_)]) (vs := [(_,_), (_,_), (_,_), (_,_)]) (Z := [_,_,_,_]) (C := [_,_,_,_]) S428 Z488 N488 ⟨(.r rfl), (.r rfl), (.r rfl), (.r rfl), trivial⟩ rfl rfl rfl rfl ⟨_, [_], [_,_,_,_], rfl, rfl, rfl, rfl, ⟨_, [_], [_,_,_,_], rfl, rfl, rfl, rfl, ⟨_, [_], [_,_,_,_], rfl, rfl, rfl, rfl, ⟨_, [_], [_,_,_,_], rfl, rfl, rfl, rfl, rfl⟩⟩⟩⟩ fun b19 => ⟨selK (L1 := [_,_,_,_,_,_,_]) [4,5,6,7,8,9,10] rfl rfl, (HE.mk [23] (by kernel_rfl) rfl ⟨(HEo.op rfl rfl<|HO.callP (first := []) (cap := []) (xs := [_,_]) (vs := [_,_]) [_] [_,_,_,_,_,_,_,_,_,_] (selK (L1 := [_] ++ [_,_,_,_,_,_,_,_,_,_]) [2,0,1,3,4,5,6,7,8,9,10] rfl rfl) (.r rfl) C190 ⟨(.r rfl), (.r rfl), trivial⟩ (fun w hw hh => all_c (⟨x, 2 * wd + 1, bloB l.length G z t wd, bdL z t wd l.length, pwL l, yb.1, yb.2, qx, dx, px, cx, b19, bb.1, bb.2, br⟩ : AllX) w hh (fun L w2 h2 => ⟨RO.ofC (fun _ => rfl) (cells_at (St.rightOf (St.fz (selK (L1 := [_] ++ [_,_,_,_,_,_,_,_,_,_]) [2,0,1,3,4,5,6,7,8,9,10] rfl rfl w hw) h2)) 0 rfl ⟨_, rfl⟩), RO.of_own (St.rightOf (St.fz (selK (L1 := [_] ++ [_,_,_,_,_,_,_,_,_,_]) [2,0,1,3,4,5,6,7,8,9,10] rfl rfl w hw) h2)) 3 rfl, RO.of_own (St.rightOf (St.fz (selK (L1 := [_] ++ [_,_,_,_,_,_,_,_,_,_]) [2,0,1,3,4,5,6,7,8,9,10] rfl rfl w hw) h2)) 5 rfl, RO.of_own (St.rightOf (St.fz (selK (L1 := [_] ++ [_,_,_,_,_,_,_,_,_,_]) [2,0,1,3,4,5,6,7,8,9,10] rfl rfl w hw) h2)) 4 rfl, ⟨cells_at (St.rightOf (St.fz (selK (L1 := [_] ++ [_,_,_,_,_,_,_,_,_,_]) [2,0,1,3,4,5,6,7,8,9,10] rfl rfl w hw) h2)) 2 rfl ⟨_, rfl⟩, hx.l.keep w2 (St.rightOf (St.fz (selK (L1 := [_] ++ [_,_,_,_,_,_,_,_,_,_]) [2,0,1,3,4,5,6,7,8,9,10] rfl rfl w hw) h2))⟩, ⟨cells_at (St.rightOf (St.fz (selK (L1 := [_] ++ [_,_,_,_,_,_,_,_,_,_]) [2,0,1,3,4,5,6,7,8,9,10] rfl rfl w hw) h2)) 1 rfl ⟨_, rfl⟩, hx.r.keep w2 (St.rightOf (St.fz (selK (L1 := [_] ++ [_,_,_,_,_,_,_,_,_,_]) [2,0,1,3,4,5,6,7,8,9,10] rfl rfl w hw) h2))⟩⟩) (mk_allK k hm rfl rfl yb.1 yb.2 qx dx px cx b19 bb.1 bb.2 br)) fun yr _ => ⟨selK (L1 := [_,_,_,_,_,_,_]) [5,6,7,8,9,10,11] rfl rfl, (HE.mk [24] (by kernel_rfl) rfl ⟨(HEo.op rfl rfl<|HO.lo (LO.as (.r rfl))<|⟨selK (L1 := [_,_,_,_,_,_,_]) [5,6,7,8,9,10,11] rfl rfl, (HE.fin (by kernel_rfl) (VE.weak (.cons rfl .nil) (selK (L1 := [_] ++ [_,_,_,_,_,_,_]) [1,5,6,7,8,9,10,11] rfl rfl) (hf yr trivial)))⟩), trivial⟩)⟩), trivial⟩)⟩), trivial⟩)⟩), trivial⟩)⟩), (HEo.op rfl rfl<|HO.lo (LO.mi ⟨_, Tryz.underlying426, rfl⟩ (.r rfl))<|⟨selK (L1 := [_,_,_,_,_,_,_]) [3,4,5,6,7,8,9] rfl rfl, (HE.mk [11] (by kernel_rfl) rfl ⟨(HEo.op rfl rfl<|HO.lo (LO.mi ⟨_, Tryz.underlying419, rfl⟩ (.r rfl))<|⟨selK (L1 := [_,_,_,_,_,_,_]) [3,4,5,6,7,8,9] rfl rfl, (HE.mk [21] (by kernel_rfl) rfl ⟨(HEo.op rfl rfl<|HO.bs (ps := [(_,_), (_,_), (_,_), (_,_)]) (vs := [(_,_), (_,_), (_,_), (_,_)]) (Z := [_,_,_,_]) (C := [_,_,_,_]) S428 Z488 N488 ⟨(.r rfl), (.r rfl), (.r rfl), (.r rfl), trivial⟩ rfl rfl rfl rfl ⟨_, [_], [_,_,_,_], rfl, rfl, rfl, rfl, ⟨_, [_], [_,_,_,_], rfl, rfl, rfl, rfl, ⟨_, [_], [_,_,_,_], rfl, rfl, rfl, rfl, ⟨_, [_], [_,_,_,_], rfl, rfl, rfl, rfl, rfl⟩⟩⟩⟩ fun b19 => ⟨selK (L1 := [_,_,_,_,_,_,_]) [4,5,6,7,8,9,10] rfl rfl, (HE.mk [23] (by kernel_rfl) rfl ⟨(HEo.op rfl rfl<|HO.callP (first := []) (cap := []) (xs := [_,_]) (vs := [_,_]) [_] [_,_,_,_,_,_,_,_,_,_] (selK (L1 := [_] ++ [_,_,_,_,_,_,_,_,_,_]) [2,0,1,3,4,5,6,7,8,9,10] rfl rfl) (.r rfl) C190 ⟨(.r rfl), (.r rfl), trivial⟩ (fun w hw hh => all_c (⟨x, 2 * wd + 1, bloB l.length G z t wd, bdL z t wd l.length, pwL l, yb.1, yb.2, qx, dx, px, cx, b19, bb.1, bb.2, br⟩ : AllX) w hh (fun L w2 h2 => ⟨RO.ofC (fun _ => rfl) (cells_at (St.rightOf (St.fz (selK (L1 := [_] ++ [_,_,_,_,_,_,_,_,_,_]) [2,0,1,3,4,5,6,7,8,9,10] rfl rfl w hw) h2)) 0 rfl ⟨_, rfl⟩), RO.of_own (St.rightOf (St.fz (selK (L1 := [_] ++ [_,_,_,_,_,_,_,_,_,_]) [2,0,1,3,4,5,6,7,8,9,10] rfl rfl w hw) h2)) 3 rfl, RO.of_own (St.rightOf (St.fz (selK (L1 := [_] ++ [_,_,_,_,_,_,_,_,_,_]) [2,0,1,3,4,5,6,7,8,9,10] rfl rfl w hw) h2)) 5 rfl, RO.of_own (St.rightOf (St.fz (selK (L1 := [_] ++ [_,_,_,_,_,_,_,_,_,_]) [2,0,1,3,4,5,6,7,8,9,10] rfl rfl w hw) h2)) 4 rfl, ⟨cells_at (St.rightOf (St.fz (selK (L1 := [_] ++ [_,_,_,_,_,_,_,_,_,_]) [2,0,1,3,4,5,6,7,8,9,10] rfl rfl w hw) h2)) 2 rfl ⟨_, rfl⟩, hx.l.keep w2 (St.rightOf (St.fz (selK (L1 := [_] ++ [_,_,_,_,_,_,_,_,_,_]) [2,0,1,3,4,5,6,7,8,9,10] rfl rfl w hw) h2))⟩, ⟨cells_at (St.rightOf (St.fz (selK (L1 := [_] ++ [_,_,_,_,_,_,_,_,_,_]) [2,0,1,3,4,5,6,7,8,9,10] rfl rfl w hw) h2)) 1 rfl ⟨_, rfl⟩, hx.r.keep w2 (St.rightOf (St.fz (selK (L1 := [_] ++ [_,_,_,_,_,_,_,_,_,_]) [2,0,1,3,4,5,6,7,8,9,10] rfl rfl w hw) h2))⟩⟩) (mk_allK k hm rfl rfl yb.1 yb.2 qx dx px cx b19 bb.1 bb.2 br)) fun yr _ => ⟨selK (L1 := [_,_,_,_,_,_,_]) [5,6,7,8,9,10,11] rfl rfl, (HE.mk [24] (by kernel_rfl) rfl ⟨(HEo.op rfl rfl<|HO.lo (LO.as (.r rfl))<|⟨selK (L1 := [_,_,_,_,_,_,_]) [5,6,7,8,9,10,11] rfl rfl, (HE.fin (by kernel_rfl) (VE.weak (.cons rfl .nil) (selK (L1 := [_] ++ [_,_,_,_,_,_,_]) [1,5,6,7,8,9,10,11] rfl rfl) (hf yr trivial)))⟩), trivial⟩)⟩), trivial⟩)⟩), trivial⟩)⟩), trivial⟩)⟩), trivial⟩)⟩), trivial⟩)⟩), trivial⟩)⟩), trivial⟩)) (fun y hy => ?_)

    refine VE.seqN ?_
    refine VC.ret (VE.res (vs := [_]) rfl ⟨rfl, trivial⟩ (fun w hw => ?_))
    exact ⟨y, trivial, rfl, hw.sel [0] rfl⟩

end Go.Proofs.YtffbohecdocajaaGreat

namespace Go.Proofs.YtffbohecdocajaaGreat
open Go.SL Go.Proofs Go.Pulse
set_option linter.unusedVariables false

theorem C114 : IsFn Tryz.prog 114 := ⟨_, Tryz.func114, by decide, rfl⟩
theorem C115 : IsFn Tryz.prog 115 := ⟨_, Tryz.func115, by decide, rfl⟩


def ratE (m : Mdl) (z wd t : Int) (G : Span) (l : List Echo) : List Span := if mdlE m = 0 then ratL m z wd t G l else []
theorem rtE_y {m : Mdl} {z wd t : Int} {G : Span} {l : List Echo} (h : ¬ ¬ mdlE m = 0) : ratE m z wd t G l = ratL m z wd t G l := if_pos (Classical.not_not.1 h)
theorem rtE_n {m : Mdl} {z wd t : Int} {G : Span} {l : List Echo} (h : ¬ mdlE m = 0) : ratE m z wd t G l = [] := if_neg h

set_option maxRecDepth 20000 in
theorem Rates_c (x : MdA) (z wd t : Int) (G : Span) (l : List Echo) (pr pe : Option Addr) (cr ce : Nat) (pg : Option Addr) (cg : Nat) (w : World) (h1 : x.m.loss.length < 1000000000000000000) (h2 : x.m.rate.length < 1000000000000000000) (hx : MdI w x) (k : RyK z wd t G l) (hr : RO 1 rowC w pr (List.replicate 4 (⟨pe, ce, l⟩ : ERow))) (he : RO 14 echoC w pe l) (hc : l.length ≤ ce) (hg : Spans w pg (List.replicate 4 G)) :
  Calls Tryz.prog 48 #[.agg (mdC x).toArray, .agg (swpV z (l.length : Int) wd t pr cr).toArray, earV, .agg (fldV pg cg).toArray, .int .i64 0] w fun e w' => ∃ y : Option Addr × Nat, True ∧ e = .returned (.tuple #[.slice y.1 (ratE x.m z wd t G l).length y.2, .int .i64 (mdlE x.m)]) ∧ St (bs w) [own 25 2 y.1 y.2 ((ratE x.m z wd t G l).map spanC)] w' := by
  refine enter (vs := [_,_,_,_,_]) (env := [(0,_), (1,_), (2,_), (3,_), (4,_)]) Tryz.func48 rfl rfl rfl rfl ?_
  refine VC.seq ?_
  refine VC.reg (VO.h rfl<|HO.box (C := #[_,_,_,_,_,_,_,_]) rfl rfl fun b1 => VO.h rfl<|HO.box (C := #[_,_,_,_,_,_,_,_,_,_,_]) rfl rfl fun b2 => VO.h rfl<|HO.box (C := #[_,_]) rfl rfl fun b3 => VO.h rfl<|HO.box (C := #[_,_,_,_,_,_]) rfl rfl fun b4 => VO.l (LO.as (.r rfl)) rfl<|VO.l (LO.as (.r rfl)) rfl<|VO.nil ?_)
  refine VE.seqN ?_
  refine VC.seq ?_
  refine VC.seq ?_
  refine VC.reg (VO.l (LO.lda (vs := [_,_,_,_,_,_,_,_]) A35 (.r rfl) (fun _ hw => cells_at hw 3 rfl ⟨_, rfl⟩) rfl) rfl<|VO.l (LO.lda (vs := [_,_,_,_,_,_,_,_,_,_,_]) A62 (.r rfl) (fun _ hw => cells_at hw 2 rfl ⟨_, rfl⟩) rfl) rfl<|VO.l (LO.lda (vs := [_,_]) A25 (.r rfl) (fun _ hw => cells_at hw 1 rfl ⟨_, rfl⟩) rfl) rfl<|VO.l (LO.lda (vs := [_,_,_,_,_,_]) A108 (.r rfl) (fun _ hw => cells_at hw 0 rfl ⟨_, rfl⟩) rfl) rfl<|VO.l (LO.mv (.r rfl)) rfl<|VO.l (LO.call (xs := [_,_,_,_,_]) (vs := [_,_,_,_,_]) C114 ⟨(.r rfl), (.r rfl), (.r rfl), (.r rfl), (.r rfl), trivial⟩ (fun w hw => checked_c x z wd t G l pr pe cr ce pg cg w h1 h2 ⟨hx.l.keep w hw, hx.r.keep w hw⟩ k (hr.keep w hw) (he.keep w hw) hc (hg.keep w hw))) rfl<|VO.l (LO.as (.r rfl)) rfl<|VO.nil ?_)
  refine VE.seqN ?_
  refine VC.seq ?_
  refine VC.reg (VO.l (LO.mv (.r rfl)) rfl<|VO.l (LO.ne (.r rfl) (.r rfl)) rfl<|VO.nil ?_)
  refine VE.seqN ?_
  refine VC.cond rfl (fun h20 => ?_) (fun h20 => ?_)
  ·
    refine VC.seq ?_
    refine VC.reg (VO.l (LO.mv (.r rfl)) rfl<|VO.l (LO.as (.r rfl)) rfl<|VO.l (LO.as (.r rfl)) rfl<|VO.nil ?_)
    refine VE.seqN ?_
    refine VC.ret (VE.thenR (VE.res (vs := [_,_]) rfl ⟨rfl, rfl, trivial⟩ (fun w hw => ?_)))
    simp only [resV]
    rw [rtE_n h20]
    exact ⟨(none, 0), trivial, rfl, hw.nil.ownNil 25 2⟩
  ·
    refine VC.skip (VE.seqN ?_)
    refine VC.seq ?_
    refine VC.reg (VO.l (LO.lda (vs := [_,_,_,_,_,_,_,_]) A35 (.r rfl) (fun _ hw => cells_at hw 3 rfl ⟨_, rfl⟩) rfl) rfl<|VO.l (LO.lda (vs := [_,_,_,_,_,_,_,_,_,_,_]) A62 (.r rfl) (fun _ hw => cells_at hw 2 rfl ⟨_, rfl⟩) rfl) rfl<|VO.l (LO.lda (vs := [_,_]) A25 (.r rfl) (fun _ hw => cells_at hw 1 rfl ⟨_, rfl⟩) rfl) rfl<|VO.l (LO.lda (vs := [_,_,_,_,_,_]) A108 (.r rfl) (fun _ hw => cells_at hw 0 rfl ⟨_, rfl⟩) rfl) rfl<|VO.l (LO.mv (.r rfl)) rfl<|VO.h rfl<|HO.callx (xs := [_,_,_,_,_]) (vs := [_,_,_,_,_]) C115 ⟨(.r rfl), (.r rfl), (.r rfl), (.r rfl), (.r rfl), trivial⟩ (fun w hw => rates_c x z wd t G l pr pe cr ce pg cg w h1 h2 ⟨hx.l.keep w hw, hx.r.keep w hw⟩ k (hr.keep w hw) (he.keep w hw) hc (hg.keep w hw) (mdl_0 (Classical.not_not.1 h20))) fun yr _ => VO.h rfl<|HO.lo (LO.as (.r rfl))<|VO.l (LO.as (.r rfl)) rfl<|VO.nil ?_)
    refine VE.seqN ?_
    refine VC.ret (VE.res (vs := [_,_]) rfl ⟨rfl, rfl, trivial⟩ (fun w hw => ?_))
    simp only [resV]
    rw [rtE_y h20, Classical.not_not.1 h20]
    exact ⟨yr, trivial, rfl, hw.sel [0] rfl⟩

end Go.Proofs.YtffbohecdocajaaGreat

namespace Go.Proofs.YtffbohecdocajaaGreat
open Go.SL Go.Proofs Go.Pulse
set_option linter.unusedVariables false



theorem sum_le2 {α : Type} {f g : α → Int} {d : α} : ∀ {l m : List α}, m.length = l.length → (∀ i, i < l.length → f (l.getD i d) ≤ g (m.getD i d)) → (l.map f).sum ≤ (m.map g).sum
  | [], m, h,_ => by cases m with | nil => simp | cons => simp at h
  | x :: l, [], h,_ => by simp at h
  | x :: l, y :: m, h, k => by
    have h0 := k 0 (by simp)
    have h1 := sum_le2 (f := f) (g := g) (d := d) (l := l) (m := m) (by simpa using h) (fun i hi => by have := k (i + 1) (by simpa using hi); simpa using this)
    simp only [List.getD_cons_zero] at h0
    simp only [List.map_cons, List.sum_cons]
    omega
end Go.Proofs.YtffbohecdocajaaGreat

namespace Go.Proofs.YtffbohecdocajaaGreat
open Go.SL Go.Proofs Go.Pulse
set_option linter.unusedVariables false



structure Q4 where
  a : Int
  b : Int
  c : Int
  d : Int
def z4 : Q4 := ⟨0,0,0,0⟩
def q4Ok (q : Q4) : Prop := (0 ≤ q.a ∧ q.a ≤ 65535) ∧ (0 ≤ q.b ∧ q.b ≤ 65535) ∧ (0 ≤ q.c ∧ q.c ≤ 65535) ∧ 0 ≤ q.d ∧ q.d ≤ 65535
def offV (d n : Int) : Int := d.tmod (2 * n + 1) - n
theorem offV_bd {d n : Int} (hd : 0 ≤ d) (hn : 0 ≤ n) : -n ≤ offV d n ∧ offV d n ≤ n := by
  have := tmod_in (a := d) (b := 2 * n + 1) hd (by omega)
  unfold offV; omega
def truthV (x : Sample) (r : Recv) (q : Q4) : Sample := ⟨min 1023 (max 0 (x.h + offV q.a r.level)), wr (x.p + offV q.b r.phase), min 1023 (max 0 (x.v + offV q.c r.level)), wr (x.q + offV q.d r.phase)⟩
def pickQ (ds : List Q4) (i : Nat) : Q4 := if ds = [] then z4 else ds.getD (i % ds.length) z4
def truthL (l : List Sample) (r : Recv) (ds : List Q4) : List Sample := (List.range l.length).map fun i => truthV (l.getD i zSm) r (pickQ ds i)
theorem pickQ_ok {ds : List Q4} (h : ∀ q ∈ ds, q4Ok q) (i : Nat) : q4Ok (pickQ ds i) := by
  unfold pickQ
  by_cases e : ds = []
  · rw [if_pos e]; unfold q4Ok z4; dsimp only; omega
  · rw [if_neg e]
    have hn : 0 < ds.length := by cases ds with | nil => exact absurd rfl e | cons => simp
    exact h _ (getD_mem (Nat.mod_lt _ hn))
section
variable {l : List Sample} {r : Recv} {ds : List Q4} {t : Train}
theorem truthL_len : (truthL l r ds).length = l.length := by unfold truthL; simp
theorem truthL_get {i : Nat} (hi : i < l.length) : (truthL l r ds).getD i zSm = truthV (l.getD i zSm) r (pickQ ds i) := by
  unfold truthL
  rw [List.getD_eq_getElem?_getD, List.getElem?_map, List.getElem?_range hi]; rfl
theorem truth_ok {x : Sample} {q : Q4} (hx : smpOk x) : smpOk (truthV x r q) := by
  unfold smpOk truthV
  dsimp only
  have a := wr_bd (x.p + offV q.b r.phase)
  have b := wr_bd (x.q + offV q.d r.phase)
  omega
theorem truthL_ok (hs : ∀ x ∈ l, smpOk x) : ∀ x ∈ truthL l r ds, smpOk x := fun x hx => by
  unfold truthL at hx
  obtain ⟨i, hi, rfl⟩ := List.mem_map.1 hx
  exact truth_ok (hs _ (getD_mem (by simpa using hi)))
theorem mx_mono {x y x' y' : Int} (h : x ≤ x') (k : y ≤ y') : max 0 x * max 0 y ≤ max 0 x' * max 0 y' := Int.mul_le_mul (by omega) (by omega) (by omega) (by omega)
theorem Bet.truth {pt : Int} (hr : recvOk r) (hs : ∀ x ∈ l, smpOk x) (hq : ∀ q ∈ ds, q4Ok q) (h1 : r.nlo ≤ pt) (h2 : pt ≤ r.nhi) : Bet r ⟨0,0, pt, pt⟩ l (truthL l r ds) := by
  have hr1 := hr
  unfold recvOk at hr1
  have key : ∀ i, i < l.length → (((truthL l r ds).getD i zSm).h ≤ (l.getD i zSm).h + r.level ∧ (l.getD i zSm).h - r.level ≤ ((truthL l r ds).getD i zSm).h) ∧ ((truthL l r ds).getD i zSm).v ≤ (l.getD i zSm).v + r.level ∧ (l.getD i zSm).v - r.level ≤ ((truthL l r ds).getD i zSm).v := fun i hi => by
    rw [truthL_get hi]
    have q := pickQ_ok hq i
    have x := hs _ (getD_mem (d := zSm) hi)
    unfold q4Ok at q
    unfold smpOk at x
    have a := offV_bd (d := (pickQ ds i).a) (n := r.level) (by omega) (by omega)
    have c := offV_bd (d := (pickQ ds i).c) (n := r.level) (by omega) (by omega)
    unfold truthV
    dsimp only
    omega
  refine ⟨hr, ?_, hs, truthL_ok hs, truthL_len, ?_, ?_, ?_, ?_, ?_, ?_, h1, h2⟩
  · unfold recvOk; dsimp only; omega
  · exact sum_le2 (d := zSm) truthL_len fun i hi => mx_mono (by have := key i hi; dsimp only; omega) (by have := key i hi; dsimp only; omega)
  · exact sum_le2 (d := zSm) truthL_len.symm fun i hi => by rw [truthL_len] at hi; exact mx_mono (by have := key i hi; dsimp only; omega) (by have := key i hi; dsimp only; omega)
  · exact sum_le2 (d := zSm) truthL_len fun i hi => mx_mono (by have := key i hi; dsimp only; omega) (by have := key i hi; dsimp only; omega)
  · exact sum_le2 (d := zSm) truthL_len.symm fun i hi => by rw [truthL_len] at hi; exact mx_mono (by have := key i hi; dsimp only; omega) (by have := key i hi; dsimp only; omega)
  · exact sum_le2 (d := zSm) truthL_len fun i hi => mx_mono (by have := key i hi; dsimp only; omega) (by have := key i hi; dsimp only; omega)
  · exact sum_le2 (d := zSm) truthL_len.symm fun i hi => by rw [truthL_len] at hi; exact mx_mono (by have := key i hi; dsimp only; omega) (by have := key i hi; dsimp only; omega)
end
end Go.Proofs.YtffbohecdocajaaGreat

namespace Go.Proofs.YtffbohecdocajaaGreat
open Go.SL Go.Proofs Go.Pulse
set_option linter.unusedVariables false

theorem I50 : EInfo Tryz.prog 50 4 32 (.agg #[.int .i64 0, .int .i64 0, .int .i64 0, .int .i64 0]) := ⟨by kernel_rfl, by kernel_rfl, by unfold ZeroOf; kernel_rfl, rfl, by decide⟩


theorem own_capS {β : Bs} {L : List Res} {w : World} (hw : St β L w) (i : Nat) {α : Type} {f : α → List Value} {E z cap : Nat} {p : Option Addr} {l : List α} (hi : L[i]? = some (own E z p cap (l.map f))) : l.length ≤ cap := by
  have := (hw.inv i _ hi).1
  rwa [List.length_map] at this
end Go.Proofs.YtffbohecdocajaaGreat

namespace Go.Proofs.YtffbohecdocajaaGreat
open Go.SL Go.Proofs Go.Pulse
set_option linter.unusedVariables false

theorem S30 : IsSlice Tryz.prog 30 40 := Tryz.underlying30
theorem N40 : (Tryz.prog.info? 40).map (·.size) = some 1 := by kernel_rfl
theorem I76 : EInfo Tryz.prog 76 14 112 (.agg #[.int .i64 0, .int .i64 0, .int .i64 0, .int .i64 0, .int .i64 0, .int .i64 0, .int .i64 0, .int .i64 0, .int .i64 0, .int .i64 0, .int .i64 0, .int .i64 0, .int .i64 0, .int .i64 0]) := ⟨by kernel_rfl, by kernel_rfl, by unfold ZeroOf; kernel_rfl, rfl, by decide⟩
abbrev SRow := RowA Sample
abbrev SRows (w : World) (p : Option Addr) (rs : List SRow) : Prop := RR 4 smpC w p rs
def zR : SRow := RowA.z
def lss (rs : List SRow) : List (List Sample) := rs.map (·.l)
def rayE (t : Train) (r : Recv) (ls : List (List Sample)) : Int := if trainE t ≠ 0 then trainE t else if recvE r ≠ 0 then recvE r else if 200 < ls.length then 11 else firstE (fun i => hearE t r (ls.getD i [])) ls.length
def rayX (t : Train) (r : Recv) (ls : List (List Sample)) : List Echo := if rayE t r ls = 0 then ls.map (hearR t r) else []
section
variable {t : Train} {r : Recv} {rs : List SRow}
theorem lss_len : (lss rs).length = rs.length := List.length_map ..
theorem lss_get (i : Nat) : (lss rs).getD i [] = (rs.getD i zR).l := by
  unfold lss
  rw [List.getD_eq_getElem?_getD, List.getD_eq_getElem?_getD, List.getElem?_map]
  cases rs[i]? <;> rfl
theorem rayE1 (h : ¬ trainE t = 0) : rayE t r (lss rs) = trainE t := if_pos h
theorem rayE2 (h : ¬ ¬ trainE t = 0) (k : ¬ recvE r = 0) : rayE t r (lss rs) = recvE r := by unfold rayE; rw [if_neg h, if_pos k]
theorem rayE3 (h : ¬ ¬ trainE t = 0) (k : ¬ ¬ recvE r = 0) (q : 200 < (rs.length : Int)) : rayE t r (lss rs) = 11 := by unfold rayE; rw [if_neg h, if_neg k, if_pos (by rw [lss_len]; omega)]
theorem rayE4 {i : Nat} (h : ¬ ¬ trainE t = 0) (k : ¬ ¬ recvE r = 0) (q : ¬ 200 < (rs.length : Int)) (hz : ∀ k, k < i → hearE t r (rs.getD k zR).l = 0) (hi : i < rs.length) (he : ¬ hearE t r (rs.getD i zR).l = 0) : rayE t r (lss rs) = hearE t r (rs.getD i zR).l := by
  unfold rayE; rw [if_neg h, if_neg k, if_neg (by rw [lss_len]; omega), ← lss_get i]
  exact firstE_at (f := fun i => hearE t r ((lss rs).getD i [])) (fun k hk => by rw [lss_get]; exact hz k hk) (by rw [lss_get]; exact he) (by rw [lss_len]; exact hi)
theorem rayE5 (h : ¬ ¬ trainE t = 0) (k : ¬ ¬ recvE r = 0) (q : ¬ 200 < (rs.length : Int)) (hz : ∀ k, k < rs.length → hearE t r (rs.getD k zR).l = 0) : rayE t r (lss rs) = 0 := by
  unfold rayE; rw [if_neg h, if_neg k, if_neg (by rw [lss_len]; omega)]
  exact firstE_zero fun k hk => by rw [lss_get]; exact hz k (by rwa [lss_len] at hk)
theorem rayX0 {n : Int} (h : rayE t r (lss rs) = n) (hn : ¬ n = 0) {w' : World} {β : Bs} {L : List Res} (hw : St β L w') : ∃ x : Option Addr × Nat, True ∧ Ending.returned (.tuple #[.slice none 0 0, .int .i64 n]) = .returned (.tuple #[.slice x.1 (rayX t r (lss rs)).length x.2, .int .i64 (rayE t r (lss rs))]) ∧ St β [own 76 14 x.1 x.2 ((rayX t r (lss rs)).map echoC)] w' := by
  have e : rayX t r (lss rs) = [] := if_neg (by rw [h]; exact hn)
  rw [e, h]
  exact ⟨(none, 0), trivial, rfl, hw.nil.ownNil 76 14⟩
theorem rayX1 (h : rayE t r (lss rs) = 0) {p : Option Addr} {c : Nat} {xs : List Echo} (hx : xs = (rs.take rs.length).map fun x => hearR t r x.l) {w' : World} {β : Bs} (hw : St β [own 76 14 p c (xs.map echoC)] w') : ∃ x : Option Addr × Nat, True ∧ Ending.returned (.tuple #[.slice p xs.length c, .int .i64 0]) = .returned (.tuple #[.slice x.1 (rayX t r (lss rs)).length x.2, .int .i64 (rayE t r (lss rs))]) ∧ St β [own 76 14 x.1 x.2 ((rayX t r (lss rs)).map echoC)] w' := by
  have e : rayX t r (lss rs) = xs := by
    unfold rayX
    rw [if_pos h, hx, List.take_length]
    unfold lss
    rw [List.map_map]; rfl
  rw [e, h]
  exact ⟨(p, c), trivial, rfl, hw⟩
theorem ray_step {i : Nat} (hi : i < rs.length) : (rs.take (i + 1)).map (fun x => hearR t r x.l) = (rs.take i).map (fun x => hearR t r x.l) ++ [hearR t r (rs.getD i zR).l] := by
  rw [take_at (getD_some (d := zR) hi), List.map_append]; rfl
theorem zero_step {i : Nat} (hz : ∀ k, k < i → hearE t r (rs.getD k zR).l = 0) (he : ¬ ¬ hearE t r (rs.getD i zR).l = 0) : ∀ k, k < i + 1 → hearE t r (rs.getD k zR).l = 0 := fun k hk => by
  by_cases q : k = i
  · subst q; exact Classical.not_not.1 he
  · exact hz k (by omega)
theorem row_at {w : World} {p : Option Addr} (h : SRows w p rs) {i : Nat} (hi : i < rs.length) : (rs.getD i zR).l.length ≤ (rs.getD i zR).c ∧ Smps w (rs.getD i zR).p (rs.getD i zR).l := h.2 _ (getD_mem (d := zR) hi)
end

theorem lss_app {xs ys : List SRow} : lss (xs ++ ys) = lss xs ++ lss ys := List.map_append ..
set_option maxRecDepth 20000 in
theorem Ray_c (t : Train) (r : Recv) (rs : List SRow) (p : Option Addr) (c : Nat) (w : World) (hn : rs.length < 1000000000) (hb : ∀ x ∈ rs, x.l.length < 1000000000) (hl : SRows w p rs) :
  Calls Tryz.prog 8 #[trainV t, recvV r, .slice p rs.length c] w fun e w' => ∃ x : Option Addr × Nat, True ∧ e = .returned (.tuple #[.slice x.1 (rayX t r (lss rs)).length x.2, .int .i64 (rayE t r (lss rs))]) ∧ St (bs w) [own 76 14 x.1 x.2 ((rayX t r (lss rs)).map echoC)] w' := by
  refine enter (vs := [_,_,_]) (env := [(0,_), (1,_), (2,_)]) Tryz.func8 rfl rfl rfl rfl ?_
  refine VC.seq ?_
  refine VC.reg (VO.h rfl<|HO.box (C := #[_,_,_,_,_]) rfl rfl fun b1 => VO.h rfl<|HO.box (C := #[_,_,_,_]) rfl rfl fun b2 => VO.l (LO.as (.r rfl)) rfl<|VO.l (LO.as (.r rfl)) rfl<|VO.nil ?_)
  refine VE.seqN ?_
  refine VC.seq ?_
  refine VC.seq ?_
  refine VC.reg (VO.l (LO.lda (vs := [_,_,_,_,_]) A23 (.r rfl) (fun _ hw => cells_at hw 1 rfl ⟨_, rfl⟩) rfl) rfl<|VO.l (LO.call (xs := [_]) (vs := [_]) C45 ⟨(.r rfl), trivial⟩ (fun w _ => trainP_c t w)) rfl<|VO.l (LO.as (.r rfl)) rfl<|VO.nil ?_)
  refine VE.seqN ?_
  refine VC.seq ?_
  refine VC.reg (VO.l (LO.mv (.r rfl)) rfl<|VO.l (LO.ne (.r rfl) (.r rfl)) rfl<|VO.nil ?_)
  refine VE.seqN ?_
  refine VC.cond rfl (fun h18 => ?_) (fun h18 => ?_)
  ·
    refine VC.seq ?_
    refine VC.reg (VO.l (LO.mv (.r rfl)) rfl<|VO.l (LO.as (.r rfl)) rfl<|VO.l (LO.as (.r rfl)) rfl<|VO.nil ?_)
    refine VE.seqN ?_
    refine VC.ret (VE.thenR (VE.res (vs := [_,_]) rfl ⟨rfl, rfl, trivial⟩ (fun w hw => ?_)))
    simp only [resV]
    first | exact rayX0 (rayE1 h18) h18 hw | exact rayX0 (rayE2 h18 h23) h23 hw | exact rayX0 (rayE3 h18 h23 h27) (by decide) hw | exact rayX0 (rayE4 h18 h23 h27 hz (by omega) hE) hE hw | exact rayX1 (rayE5 h18 h23 h27 (fun k hk => hz k (by omega))) (by rw [hX]; congr 2; omega) (hw.sel [0] rfl)
  ·
    refine VC.skip (VE.seqN ?_)
    refine VC.seq ?_
    refine VC.seq ?_
    refine VC.reg (VO.l (LO.lda (vs := [_,_,_,_]) A27 (.r rfl) (fun _ hw => cells_at hw 0 rfl ⟨_, rfl⟩) rfl) rfl<|VO.l (LO.call (xs := [_]) (vs := [_]) C46 ⟨(.r rfl), trivial⟩ (fun w _ => recvP_c r w)) rfl<|VO.l (LO.as (.r rfl)) rfl<|VO.nil ?_)
    refine VE.seqN ?_
    refine VC.seq ?_
    refine VC.reg (VO.l (LO.mv (.r rfl)) rfl<|VO.l (LO.ne (.r rfl) (.r rfl)) rfl<|VO.nil ?_)
    refine VE.seqN ?_
    refine VC.cond rfl (fun h23 => ?_) (fun h23 => ?_)
    ·
      refine VC.seq ?_
      refine VC.reg (VO.l (LO.mv (.r rfl)) rfl<|VO.l (LO.as (.r rfl)) rfl<|VO.l (LO.as (.r rfl)) rfl<|VO.nil ?_)
      refine VE.seqN ?_
      refine VC.ret (VE.thenR (VE.res (vs := [_,_]) rfl ⟨rfl, rfl, trivial⟩ (fun w hw => ?_)))
      simp only [resV]
      first | exact rayX0 (rayE1 h18) h18 hw | exact rayX0 (rayE2 h18 h23) h23 hw | exact rayX0 (rayE3 h18 h23 h27) (by decide) hw | exact rayX0 (rayE4 h18 h23 h27 hz (by omega) hE) hE hw | exact rayX1 (rayE5 h18 h23 h27 (fun k hk => hz k (by omega))) (by rw [hX]; congr 2; omega) (hw.sel [0] rfl)
    ·
      refine VC.skip (VE.seqN ?_)
      refine VC.seq ?_
      refine VC.seq ?_
      refine VC.reg (VO.l (LO.mv (.r rfl)) rfl<|VO.l (LO.len S30 (.r rfl) rfl) rfl<|VO.l (LO.gt (.r rfl) (.r rfl)) rfl<|VO.nil ?_)
      refine VE.seqN ?_
      refine VC.cond rfl (fun h27 => ?_) (fun h27 => ?_)
      ·
        refine VC.seq ?_
        refine VC.reg (VO.l (LO.as (.r rfl)) rfl<|VO.l (LO.as (.r rfl)) rfl<|VO.nil ?_)
        refine VE.seqN ?_
        refine VC.ret (VE.thenR (VE.res (vs := [_,_]) rfl ⟨rfl, rfl, trivial⟩ (fun w hw => ?_)))
        simp only [resV]
        first | exact rayX0 (rayE1 h18) h18 hw | exact rayX0 (rayE2 h18 h23) h23 hw | exact rayX0 (rayE3 h18 h23 h27) (by decide) hw | exact rayX0 (rayE4 h18 h23 h27 hz (by omega) hE) hE hw | exact rayX1 (rayE5 h18 h23 h27 (fun k hk => hz k (by omega))) (by rw [hX]; congr 2; omega) (hw.sel [0] rfl)
      ·
        refine VC.skip (VE.seqN ?_)
        refine VC.seq ?_
        refine VC.reg (VO.l (LO.as (.r rfl)) rfl<|VO.nil ?_)
        refine VE.seqN ?_
        refine VC.seq ?_
        refine VC.seq ?_
        refine VC.reg (VO.l (LO.mv (.r rfl)) rfl<|VO.l (LO.len S30 (.r rfl) rfl) rfl<|VO.l (LO.mv (.r rfl)) rfl<|VO.nil ?_)
        refine VE.seqN ?_
        refine VC.block ?_
        refine VC.loopK (α := Nat × (List Echo) × (Option Addr) × Nat) 0 (fun gx => [(10, .slice gx.2.2.1 gx.2.1.length gx.2.2.2), (30, .int .i64 (gx.1 : Nat))]) [(3,_), (4,_), (28,_), (29,_)] (fun gx => [own 76 14 gx.2.2.1 gx.2.2.2 (gx.2.1.map echoC)]) (fun gx => gx.1 ≤ rs.length ∧ gx.2.1 = (rs.take gx.1).map (fun x => hearR t r x.l) ∧ ∀ k, k < gx.1 → hearE t r (rs.getD k zR).l = 0) (fun gx => rs.length - gx.1) (0, [], none, 0) (by exact ⟨Nat.zero_le _, rfl, fun k hk => by omega⟩) (.cons rfl (.cons rfl (.cons rfl (.cons rfl (.cons rfl (.cons rfl .nil)))))) (fun _ h => (h.ownNil 76 14)) ?_
        rintro ⟨i, xs, px, cx⟩ ⟨hi, hX, hz⟩
        show VC _ _ _ _ _ ([(10, .slice px xs.length cx), (30, .int .i64 (i : Nat))] ++ _) ([own 76 14 px cx (xs.map echoC)] ++ _) _ _
        dsimp only at hi hX hz
        have hxl : xs.length = i := by rw [hX]; simp; omega
        refine VC.seq ?_
        refine VC.reg (VO.l (LO.lt (.r rfl) (.r rfl)) rfl<|VO.nil ?_)
        refine VE.seqN ?_
        refine VC.seq ?_
        refine VC.cond rfl (fun h4 => ?_) (fun h4 => ?_)
        ·
          refine VC.skip (VE.seqN ?_)
          refine VC.seq ?_
          refine VC.block ?_
          refine VC.seq ?_
          have hrow := row_at hl (i := i) (by omega)
          refine VC.reg (VO.l (LO.ixs S30 N40 hl.1.sm (.r rfl) (.r rfl) rfl (by omega)) rfl<|VO.l (LO.ld O40 (.r rfl) (fun w hw => cells_part (off := 0) ((hl.1.at zR (j := i) (by omega)) w hw) ⟨_, rfl⟩)) rfl<|VO.l (LO.as (.r rfl)) rfl<|VO.nil ?_)
          refine VE.seqN ?_
          refine VC.seq ?_
          refine VC.reg (VO.l (LO.lda (vs := [_,_,_,_,_]) A23 (.r rfl) (fun _ hw => cells_at hw 2 rfl ⟨_, rfl⟩) rfl) rfl<|VO.l (LO.lda (vs := [_,_,_,_]) A27 (.r rfl) (fun _ hw => cells_at hw 1 rfl ⟨_, rfl⟩) rfl) rfl<|VO.l (LO.mv (.r rfl)) rfl<|VO.l (LO.call (xs := [_,_,_]) (vs := [_,_,_]) C47 ⟨(.r rfl), (.r rfl), (.r rfl), trivial⟩ (fun w hw => Hear_c t r (rs.getD i zR).l _ _ w (hb _ (getD_mem (d := zR) (by omega))) hrow.1 (hrow.2.keep w hw))) rfl<|VO.l (LO.mv (.r rfl)) rfl<|VO.l (LO.ex (.r rfl) rfl) rfl<|VO.l (LO.ex (.r rfl) rfl) rfl<|VO.h rfl<|HO.alloc (C := #[_,_,_,_,_,_,_,_,_,_,_,_,_,_]) Z76 rfl fun b4 => VO.h0<|HO.st 0 (vs := [_,_,_,_,_,_,_,_,_,_,_,_,_,_]) (C' := [_,_,_,_,_,_,_,_,_,_,_,_,_,_]) (L' := [_,_,_,_]) N76 rfl rfl rfl rfl rfl rfl rfl rfl<|VO.l (LO.as (.r rfl)) rfl<|VO.nil ?_)
          refine VE.seqN ?_
          refine VC.seq ?_
          refine VC.seq ?_
          refine VC.reg (VO.l (LO.mv (.r rfl)) rfl<|VO.l (LO.ne (.r rfl) (.r rfl)) rfl<|VO.nil ?_)
          refine VE.seqN ?_
          refine VC.cond rfl (fun hE => ?_) (fun hE => ?_)
          ·
            refine VC.seq ?_
            refine VC.reg (VO.l (LO.mv (.r rfl)) rfl<|VO.l (LO.as (.r rfl)) rfl<|VO.l (LO.as (.r rfl)) rfl<|VO.nil ?_)
            refine VE.seqN ?_
            refine VC.ret (VE.thenR (VE.inR (VE.thenR (VE.thenR (VE.inR (VE.thenR (VE.res (vs := [_,_]) rfl ⟨rfl, rfl, trivial⟩ (fun w hw => ?_))))))))
            simp only [resV]
            first | exact rayX0 (rayE1 h18) h18 hw | exact rayX0 (rayE2 h18 h23) h23 hw | exact rayX0 (rayE3 h18 h23 h27) (by decide) hw | exact rayX0 (rayE4 h18 h23 h27 hz (by omega) hE) hE hw | exact rayX1 (rayE5 h18 h23 h27 (fun k hk => hz k (by omega))) (by rw [hX]; congr 2; omega) (hw.sel [0] rfl)
          ·
            refine VC.skip (VE.seqN ?_)
            refine VC.reg (VO.l (LO.mv (.r rfl)) rfl<|VO.l (LO.lda (vs := [_,_,_,_,_,_,_,_,_,_,_,_,_,_]) A76 (.r rfl) (fun _ hw => cells_at hw 0 rfl ⟨_, rfl⟩) rfl) rfl<|VO.h rfl<|HO.bs (ps := [(_,_)]) (vs := [(_,_)]) (Z := [_,_,_,_,_,_,_,_,_,_,_,_,_,_]) (C := [_,_,_,_,_,_,_,_,_,_,_,_,_,_]) S41 Z76 N76 ⟨(.r rfl), trivial⟩ rfl rfl rfl rfl ⟨_, [_,_,_,_,_,_,_,_,_,_,_,_,_,_], [_,_,_,_,_,_,_,_,_,_,_,_,_,_], rfl, rfl, rfl, rfl, rfl⟩ fun b6 => VO.h rfl<|HO.appT ((hearR t r (rs.getD i zR).l)) 2 0 (fun R => [_,_, R,_,_]) S41 S41 I76 (.r rfl) (.r rfl) rfl rfl rfl rfl rfl rfl rfl (fun _ => rfl) rfl (by omega) fun p3 c3 => VO.h rfl<|HO.lo (LO.as (.r rfl))<|VO.nil ?_)
            refine VE.inN (VE.seqN ?_)
            refine VC.reg (VO.l (LO.add (.r rfl) (.r rfl) (wi (by omega) (by omega))) rfl<|VO.l (LO.mv (.r rfl)) rfl<|VO.nil ?_)
            refine VE.thenN fun a w ha hw => ⟨(i + 1, xs ++ [(hearR t r (rs.getD i zR).l)], p3, c3), ⟨by dsimp only; omega, by dsimp only; rw [ray_step (by omega), hX], zero_step hz hE⟩, (by dsimp only; omega), ha.sub (.cons rfl (.cons rfl (.cons rfl (.cons rfl (.cons rfl (.cons rfl .nil)))))), hw.sel [2,3,4] rfl⟩
        ·
          refine VC.exit (VE.thenX (VE.thenX (VE.inX (VE.seqN ?_))))
          refine VC.seq ?_
          refine VC.reg (VO.l (LO.mv (.r rfl)) rfl<|VO.l (LO.as (.r rfl)) rfl<|VO.l (LO.as (.r rfl)) rfl<|VO.nil ?_)
          refine VE.seqN ?_
          refine VC.ret (VE.res (vs := [_,_]) rfl ⟨rfl, rfl, trivial⟩ (fun w hw => ?_))
          simp only [resV]
          first | exact rayX0 (rayE1 h18) h18 hw | exact rayX0 (rayE2 h18 h23) h23 hw | exact rayX0 (rayE3 h18 h23 h27) (by decide) hw | exact rayX0 (rayE4 h18 h23 h27 hz (by omega) hE) hE hw | exact rayX1 (rayE5 h18 h23 h27 (fun k hk => hz k (by omega))) (by rw [hX]; congr 2; omega) (hw.sel [0] rfl)

end Go.Proofs.YtffbohecdocajaaGreat

namespace Go.Proofs.YtffbohecdocajaaGreat
open Go.SL Go.Proofs Go.Pulse
set_option linter.unusedVariables false

theorem F38_7 : FieldAt Tryz.prog 38 7 24 := ⟨_,_, Tryz.underlying38, rfl, rfl, 0, by kernel_rfl⟩
theorem F38_8 : FieldAt Tryz.prog 38 8 25 := ⟨_,_, Tryz.underlying38, rfl, rfl, 0, by kernel_rfl⟩
theorem O5 : IsOne Tryz.prog 5 := ⟨⟨_, Tryz.underlying5, rfl⟩, by kernel_rfl⟩
theorem B59 : Builds Tryz.prog 59 [(0,1), (1,1), (2,1), (3,1), (4,1), (5,1), (6,1), (7,1)] [.string ByteArray.empty, .int .i64 0, .int .i64 0, .int .i64 0, .int .i64 0, .int .i64 0, .int .i64 0, .int .i64 0] := Builds.mk fun _ => by kernel_rfl
theorem F38_9 : FieldAt Tryz.prog 38 9 26 := ⟨_,_, Tryz.underlying38, rfl, rfl, 0, by kernel_rfl⟩
theorem B62 : Builds Tryz.prog 62 [(0,8), (8,1), (9,1), (10,1)] [.string ByteArray.empty, .int .i64 0, .int .i64 0, .int .i64 0, .int .i64 0, .int .i64 0, .int .i64 0, .int .i64 0, .int .i64 0, .int .i64 0, .slice none 0 0] := Builds.mk fun _ => by kernel_rfl
theorem Z62 : ZeroOf Tryz.prog 62 (.agg #[.string ByteArray.empty, .int .i64 0, .int .i64 0, .int .i64 0, .int .i64 0, .int .i64 0, .int .i64 0, .int .i64 0, .int .i64 0, .int .i64 0, .slice none 0 0]) := by unfold ZeroOf; kernel_rfl
theorem N62 : (Tryz.prog.info? 62).map (·.size) = some 11 := by kernel_rfl
theorem Z41 : ZeroOf Tryz.prog 41 (.slice none 0 0) := by unfold ZeroOf; kernel_rfl
theorem I41 : EInfo Tryz.prog 41 1 24 (.slice none 0 0) := ⟨by kernel_rfl, by kernel_rfl, by unfold ZeroOf; kernel_rfl, rfl, by decide⟩
theorem N60 : (Tryz.prog.info? 60).map (·.size) = some 1 := by kernel_rfl
theorem F38_10 : FieldAt Tryz.prog 38 10 27 := ⟨_,_, Tryz.underlying38, rfl, rfl, 1, by kernel_rfl⟩
theorem B88 : Builds Tryz.prog 88 [(0,1), (1,1), (2,1), (3,1), (4,1)] [.int .i64 0, .int .i64 0, .int .i64 0, .int .i64 0, .int .i64 0] := Builds.mk fun _ => by kernel_rfl
theorem B108 : Builds Tryz.prog 108 [(0,5), (5,1)] [.int .i64 0, .int .i64 0, .int .i64 0, .int .i64 0, .int .i64 0, .slice none 0 0] := Builds.mk fun _ => by kernel_rfl
theorem Z108 : ZeroOf Tryz.prog 108 (.agg #[.int .i64 0, .int .i64 0, .int .i64 0, .int .i64 0, .int .i64 0, .slice none 0 0]) := by unfold ZeroOf; kernel_rfl
theorem N108 : (Tryz.prog.info? 108).map (·.size) = some 6 := by kernel_rfl
theorem F38_6 : FieldAt Tryz.prog 38 6 16 := ⟨_,_, Tryz.underlying38, rfl, rfl, 7, by kernel_rfl⟩
theorem C48 : IsFn Tryz.prog 48 := ⟨_, Tryz.func48, by decide, rfl⟩


/-- A ray, a better receiver, the truth, a model. -/
structure RnA where
  t : Train
  r : Recv
  d0 : Int
  d1 : Int
  d2 : Int
  d3 : Int
  rs : List SRow
  pr : Option Addr
  cr : Nat
  sl : List Int
  ps : Option Addr
  cs : Nat
  ns : Int
  x : MdA
  z : Int
  wd : Int
  tl : Int
  g0 : Int
  g1 : Int
abbrev RnA.C (y : RnA) : List Value := [.int .i64 y.t.lam, .int .i64 y.t.kind, .int .i64 y.t.first, .int .i64 y.t.second, .int .i64 y.t.count, .int .i64 y.r.level, .int .i64 y.r.phase, .int .i64 y.r.nlo, .int .i64 y.r.nhi, .int .u16 y.d0, .int .u16 y.d1, .int .u16 y.d2, .int .u16 y.d3, .slice y.pr y.rs.length y.cr, .slice y.ps y.sl.length y.cs, .int .u32 y.ns,
  .slice y.x.pl y.x.m.loss.length y.x.cl, .slice y.x.pr y.x.m.rate.length y.x.cr, .int .i64 y.x.m.melt.lo, .int .i64 y.x.m.melt.hi, .int .i64 y.x.m.inn.lo, .int .i64 y.x.m.inn.hi, .int .i64 y.x.m.above.lo, .int .i64 y.x.m.above.hi, .int .u16 y.z, .int .u8 y.wd, .int .u8 y.tl, .int .u16 y.g0, .int .u16 y.g1]
structure RnK (y : RnA) : Prop where
  z : 0 ≤ y.z ∧ y.z ≤ 65535
  wd : 0 ≤ y.wd ∧ y.wd ≤ 255
  tl : 0 ≤ y.tl ∧ y.tl ≤ 255
  g0 : 0 ≤ y.g0 ∧ y.g0 ≤ 65535
  g1 : 0 ≤ y.g1 ∧ y.g1 ≤ 65535
def RnA.zz (y : RnA) : Int := y.z.tmod 2000
def RnA.w3 (y : RnA) : Int := y.wd.tmod 3
def RnA.t16 (y : RnA) : Int := y.tl.tmod 16
def RnA.G (y : RnA) : Span := ⟨y.g0.tmod 2000, y.g0.tmod 2000 + y.g1.tmod 2000⟩
theorem tmd {a n : Int} (ha : 0 ≤ a) (hn : 0 < n) : 0 ≤ a.tmod n ∧ a.tmod n < n := ⟨Int.tmod_nonneg n ha, Int.tmod_lt_of_pos a hn⟩
theorem RnK.ry {y : RnA} (h : RnK y) {l : List Echo} (hn : 1 ≤ l.length ∧ l.length ≤ 6) (he : ∀ x ∈ l, echoE x = 0) : RyK y.zz y.w3 y.t16 y.G l := by
  have a := tmd h.z.1 (show 0 < (2000 : Int) by decide)
  have b := tmd h.wd.1 (show 0 < (3 : Int) by decide)
  have c := tmd h.tl.1 (show 0 < (16 : Int) by decide)
  have d := tmd h.g0.1 (show 0 < (2000 : Int) by decide)
  have e := tmd h.g1.1 (show 0 < (2000 : Int) by decide)
  refine ⟨?_, ?_, ?_, ?_, hn, he⟩
  · unfold RnA.zz; omega
  · unfold RnA.w3; omega
  · unfold RnA.t16; omega
  · unfold RnA.G; dsimp only; omega
/-- The rates that follow from what was heard. -/
abbrev RnA.rat (y : RnA) (l : List Echo) : List Span := ratE y.x.m y.zz y.w3 y.t16 y.G l

set_option maxRecDepth 20000 in
set_option maxHeartbeats 2000000 in
theorem rnRates_c (y : RnA) (l : List Echo) (pe : Option Addr) (ce : Nat) (w : World) (hl1 : y.x.m.loss.length < 1000000000000000000) (hl2 : y.x.m.rate.length < 1000000000000000000) (hx : MdI w y.x) (hk : RnK y) (k : RyK y.zz y.w3 y.t16 y.G l) (he : RO 14 echoC w pe l) (hc : l.length ≤ ce) :
  Calls Tryz.prog 9 #[.agg y.C.toArray, .slice pe l.length ce] w fun e w' => ∃ q : Option Addr × Nat, True ∧ e = .returned (.tuple #[.slice q.1 (y.rat l).length q.2, .int .i64 (mdlE y.x.m)]) ∧ St (bs w) [own 25 2 q.1 q.2 ((y.rat l).map spanC)] w' := by
  have kn := k.n
  have kz := k.z
  have kG := k.G
  unfold RnA.G at kG
  dsimp only at kG
  have hkz := hk.z
  have hkw := hk.wd
  have hkt := hk.tl
  have hk0 := hk.g0
  have hk1 := hk.g1
  refine enter (vs := [_,_]) (env := [(0,_), (1,_)]) Tryz.func9 rfl rfl rfl rfl ?_
  refine VC.seq ?_
  refine VC.reg (VO.h rfl<|HO.box (C := #[_,_,_,_,_,_,_,_,_,_,_,_,_,_,_,_,_,_,_,_,_,_,_,_,_,_,_,_,_]) rfl rfl fun b1 => VO.l (LO.as (.r rfl)) rfl<|VO.l (LO.as (.r rfl)) rfl<|VO.nil ?_)
  refine VE.seqN ?_
  refine VC.seq ?_
  refine VC.reg (VO.l (LO.fa (r := 24) F38_7 (.r rfl) rfl) rfl<|VO.l (LO.ld O28 (.r rfl) (fun _ hw => cells_at hw 0 rfl ⟨_, rfl⟩)) rfl<|VO.l (LO.cv ⟨_, Tryz.underlying28⟩ Tryz.underlying3 (.r rfl) (wi (by omega) (by omega))) rfl<|VO.l (LO.rem (.r rfl) (.r rfl) (by omega)) rfl<|VO.l (LO.mv (.r rfl)) rfl<|VO.l (LO.len S41 (.r rfl) rfl) rfl<|VO.l (LO.fa (r := 25) F38_8 (.r rfl) rfl) rfl<|VO.l (LO.ld O5 (.r rfl) (fun _ hw => cells_at hw 0 rfl ⟨_, rfl⟩)) rfl<|VO.l (LO.cv ⟨_, Tryz.underlying5⟩ Tryz.underlying3 (.r rfl) (wi (by omega) (by omega))) rfl<|VO.l (LO.rem (.r rfl) (.r rfl) (by omega)) rfl<|VO.l (LO.bd (ps := [(_,_), (_,_), (_,_), (_,_), (_,_), (_,_)]) (vs := [(_,_), (_,_), (_,_), (_,_), (_,_), (_,_)]) (C := [_,_,_,_,_,_,_,_]) B59  ⟨(.r rfl), (.r rfl), (.r rfl), (.r rfl), (.r rfl), (.r rfl), trivial⟩ rfl ⟨_, [_], [_,_,_,_,_,_,_,_], rfl, rfl, rfl, rfl, ⟨_, [_], [_,_,_,_,_,_,_,_], rfl, rfl, rfl, rfl, ⟨_, [_], [_,_,_,_,_,_,_,_], rfl, rfl, rfl, rfl, ⟨_, [_], [_,_,_,_,_,_,_,_], rfl, rfl, rfl, rfl, ⟨_, [_], [_,_,_,_,_,_,_,_], rfl, rfl, rfl, rfl, ⟨_, [_], [_,_,_,_,_,_,_,_], rfl, rfl, rfl, rfl, rfl⟩⟩⟩⟩⟩⟩) rfl<|VO.l (LO.fa (r := 26) F38_9 (.r rfl) rfl) rfl<|VO.l (LO.ld O5 (.r rfl) (fun _ hw => cells_at hw 0 rfl ⟨_, rfl⟩)) rfl<|VO.l (LO.cv ⟨_, Tryz.underlying5⟩ Tryz.underlying3 (.r rfl) (wi (by omega) (by omega))) rfl<|VO.l (LO.rem (.r rfl) (.r rfl) (by omega)) rfl<|VO.l (LO.bd (ps := [(_,_), (_,_)]) (vs := [(_,_), (_,_)]) (C := [_,_,_,_,_,_,_,_,_,_,_]) B62  ⟨(.r rfl), (.r rfl), trivial⟩ rfl ⟨_, [_,_,_,_,_,_,_,_], [_,_,_,_,_,_,_,_,_,_,_], rfl, rfl, rfl, rfl, ⟨_, [_], [_,_,_,_,_,_,_,_,_,_,_], rfl, rfl, rfl, rfl, rfl⟩⟩) rfl<|VO.h rfl<|HO.alloc (C := #[_,_,_,_,_,_,_,_,_,_,_]) Z62 rfl fun b2 => VO.h0<|HO.st 0 (vs := [_,_,_,_,_,_,_,_,_,_,_]) (C' := [_,_,_,_,_,_,_,_,_,_,_]) (L' := [_,_]) N62 rfl rfl rfl rfl rfl rfl rfl rfl<|VO.nil ?_)
  refine VE.seqN ?_
  refine VC.seq ?_
  refine VC.seq ?_
  refine VC.reg (VO.l (LO.as (.r rfl)) rfl<|VO.nil ?_)
  refine VE.seqN ?_
  refine VC.block ?_
  refine VC.loopK (α := Nat × (List ERow) × (Option Addr) × Nat) 1 (fun gx => [(7, .int .i64 (gx.1 : Nat))]) [(1,_), (2,_), (6,_)] (fun gx => [blk b2 (.cells #[.string nmA, .int .i64 0, .int .i64 0, .int .i64 (y.z.tmod 2000), .int .i64 1, .int .i64 (l.length : Nat), .int .i64 1000, .int .i64 (y.wd.tmod 3), .int .i64 (y.tl.tmod 16), .int .i64 0, .slice gx.2.2.1 gx.2.1.length gx.2.2.2] 62), own 41 1 gx.2.2.1 gx.2.2.2 (gx.2.1.map rowC)]) (fun gx => gx.1 ≤ 4 ∧ gx.2.1 = List.replicate gx.1 (⟨pe, ce, l⟩ : ERow)) (fun gx => 4 - gx.1) (0, [], none, 0) (by exact ⟨by decide, rfl⟩) (.cons rfl (.cons rfl (.cons rfl (.cons rfl .nil)))) (fun _ h => ((h.ownNil 41 1)).sel [1,0,2] rfl) ?_
  rintro ⟨i, rw_, pr, cr⟩ ⟨hi, hR⟩
  show VC _ _ _ _ _ ([(7, .int .i64 (i : Nat))] ++ _) ([blk b2 (.cells #[.string nmA, .int .i64 0, .int .i64 0, .int .i64 (y.z.tmod 2000), .int .i64 1, .int .i64 (l.length : Nat), .int .i64 1000, .int .i64 (y.wd.tmod 3), .int .i64 (y.tl.tmod 16), .int .i64 0, .slice pr rw_.length cr] 62), own 41 1 pr cr (rw_.map rowC)] ++ _) _ _
  dsimp only at hi hR
  refine VC.seq ?_
  refine VC.seq ?_
  refine VC.reg (VO.l (LO.mv (.r rfl)) rfl<|VO.l (LO.lt (.r rfl) (.r rfl)) rfl<|VO.nil ?_)
  refine VE.seqN ?_
  refine VC.cond rfl (fun h1 => ?_) (fun h1 => ?_)
  ·
    refine VC.skip (VE.seqN ?_)
    refine VC.seq ?_
    refine VC.block ?_
    refine VC.reg (VO.l (LO.fa (r := 10) F62_3 (.r rfl) rfl) rfl<|VO.l (LO.ld O60 (.r rfl) (fun _ hw => cells_at hw 0 rfl ⟨_, rfl⟩)) rfl<|VO.l (LO.mv (.r rfl)) rfl<|VO.h rfl<|HO.bs (ps := [(_,_)]) (vs := [(_,_)]) (Z := [_]) (C := [_]) S60 Z41 N41 ⟨(.r rfl), trivial⟩ rfl rfl rfl rfl ⟨_, [_], [_], rfl, rfl, rfl, rfl, rfl⟩ fun b6 => VO.h rfl<|HO.appT ((⟨pe, ce, l⟩ : ERow)) 2 0 (fun R => [_,_, R,_]) S60 S60 I41 (.r rfl) (.r rfl) rfl rfl rfl rfl rfl rfl rfl (fun _ => rfl) rfl (by rw [hR, List.length_replicate]; omega) fun p4 c4 => VO.l (LO.fa (r := 10) F62_3 (.r rfl) rfl) rfl<|VO.h0<|HO.st 1 (vs := [_]) (C' := [_,_,_,_,_,_,_,_,_,_,_]) (L' := [_,_,_,_]) N60 rfl rfl rfl rfl rfl rfl rfl rfl<|VO.nil ?_)
    refine VE.inN (VE.seqN ?_)
    refine VC.reg (VO.l (LO.mv (.r rfl)) rfl<|VO.l (LO.add (.r rfl) (.r rfl) (wi (by omega) (by omega))) rfl<|VO.l (LO.as (.r rfl)) rfl<|VO.nil ?_)
    refine VE.thenN fun a w ha hw => ⟨(i + 1, rw_ ++ [(⟨pe, ce, l⟩ : ERow)], p4, c4), ⟨by dsimp only; omega, by dsimp only; rw [hR]; exact List.replicate_succ'.symm⟩, (by dsimp only; omega), ha.sub (.cons rfl (.cons rfl (.cons rfl (.cons rfl .nil)))), hw.sel [1,2,3] rfl⟩
  ·
    refine VC.exit (VE.thenX (VE.thenX (VE.inX (VE.seqN ?_))))
    refine VC.seq ?_
    have hi4 : i = 4 := by omega
    subst hi4
    subst hR
    refine VC.reg (VO.l (LO.fa (r := 27) F38_10 (.r rfl) rfl) rfl<|VO.l (LO.ixa (j := 0) (r := 27) Tryz.underlying36 N28 (.r rfl) (.r rfl) rfl (by decide) rfl) rfl<|VO.l (LO.ld O28 (.r rfl) (fun _ hw => cells_at hw 2 rfl ⟨_, rfl⟩)) rfl<|VO.l (LO.cv ⟨_, Tryz.underlying28⟩ Tryz.underlying3 (.r rfl) (wi (by omega) (by omega))) rfl<|VO.l (LO.rem (.r rfl) (.r rfl) (by omega)) rfl<|VO.l (LO.as (.r rfl)) rfl<|VO.nil ?_)
    refine VE.seqN ?_
    refine VC.seq ?_
    refine VC.reg (VO.l (LO.bd (ps := [(_,_), (_,_), (_,_), (_,_), (_,_)]) (vs := [(_,_), (_,_), (_,_), (_,_), (_,_)]) (C := [_,_,_,_,_]) B88  ⟨(.r rfl), (.r rfl), (.r rfl), (.r rfl), (.r rfl), trivial⟩ rfl ⟨_, [_], [_,_,_,_,_], rfl, rfl, rfl, rfl, ⟨_, [_], [_,_,_,_,_], rfl, rfl, rfl, rfl, ⟨_, [_], [_,_,_,_,_], rfl, rfl, rfl, rfl, ⟨_, [_], [_,_,_,_,_], rfl, rfl, rfl, rfl, ⟨_, [_], [_,_,_,_,_], rfl, rfl, rfl, rfl, rfl⟩⟩⟩⟩⟩) rfl<|VO.l (LO.bd (ps := [(_,_)]) (vs := [(_,_)]) (C := [_,_,_,_,_,_]) B108  ⟨(.r rfl), trivial⟩ rfl ⟨_, [_,_,_,_,_], [_,_,_,_,_,_], rfl, rfl, rfl, rfl, rfl⟩) rfl<|VO.h rfl<|HO.alloc (C := #[_,_,_,_,_,_]) Z108 rfl fun b8 => VO.h0<|HO.st 0 (vs := [_,_,_,_,_,_]) (C' := [_,_,_,_,_,_]) (L' := [_,_,_,_]) N108 rfl rfl rfl rfl rfl rfl rfl rfl<|VO.nil ?_)
    refine VE.seqN ?_
    refine VC.seq ?_
    refine VC.seq ?_
    refine VC.reg (VO.l (LO.as (.r rfl)) rfl<|VO.nil ?_)
    refine VE.seqN ?_
    refine VC.block ?_
    refine VC.loopK (α := Nat × (List Span) × (Option Addr) × Nat) 1 (fun gx => [(10, .int .i64 (gx.1 : Nat))]) [(2,_), (6,_), (8,_), (9,_)] (fun gx => [blk b8 (.cells #[.int .i64 (-10000), .int .i64 (-10000), .int .i64 10000, .int .i64 2, .int .i64 2, .slice gx.2.2.1 gx.2.1.length gx.2.2.2] 108), own 25 2 gx.2.2.1 gx.2.2.2 (gx.2.1.map spanC)]) (fun gx => gx.1 ≤ 4 ∧ gx.2.1 = List.replicate gx.1 y.G) (fun gx => 4 - gx.1) (0, [], none, 0) (by exact ⟨by decide, rfl⟩) (.cons rfl (.cons rfl (.cons rfl (.cons rfl (.cons rfl .nil))))) (fun _ h => ((h.ownNil 25 2)).sel [1,0,2,3,4] rfl) ?_
    rintro ⟨i, gs, pg, cg⟩ ⟨hi, hR⟩
    show VC _ _ _ _ _ ([(10, .int .i64 (i : Nat))] ++ _) ([blk b8 (.cells #[.int .i64 (-10000), .int .i64 (-10000), .int .i64 10000, .int .i64 2, .int .i64 2, .slice pg gs.length cg] 108), own 25 2 pg cg (gs.map spanC)] ++ _) _ _
    dsimp only at hi hR
    refine VC.seq ?_
    refine VC.seq ?_
    refine VC.reg (VO.l (LO.mv (.r rfl)) rfl<|VO.l (LO.lt (.r rfl) (.r rfl)) rfl<|VO.nil ?_)
    refine VE.seqN ?_
    refine VC.cond rfl (fun h2 => ?_) (fun h2 => ?_)
    ·
      refine VC.skip (VE.seqN ?_)
      refine VC.seq ?_
      refine VC.block ?_
      refine VC.reg (VO.l (LO.fa (r := 5) F108_1 (.r rfl) rfl) rfl<|VO.l (LO.ld O45 (.r rfl) (fun _ hw => cells_at hw 0 rfl ⟨_, rfl⟩)) rfl<|VO.l (LO.mv (.r rfl)) rfl<|VO.l (LO.mv (.r rfl)) rfl<|VO.l (LO.fa (r := 27) F38_10 (.r rfl) rfl) rfl<|VO.l (LO.ixa (j := 1) (r := 28) Tryz.underlying36 N28 (.r rfl) (.r rfl) rfl (by decide) rfl) rfl<|VO.l (LO.ld O28 (.r rfl) (fun _ hw => cells_at hw 4 rfl ⟨_, rfl⟩)) rfl<|VO.l (LO.cv ⟨_, Tryz.underlying28⟩ Tryz.underlying3 (.r rfl) (wi (by omega) (by omega))) rfl<|VO.l (LO.rem (.r rfl) (.r rfl) (by omega)) rfl<|VO.l (LO.add (.r rfl) (.r rfl) (wi (by omega) (by omega))) rfl<|VO.l (LO.bd (ps := [(_,_), (_,_)]) (vs := [(_,_), (_,_)]) (C := [_,_]) B25  ⟨(.r rfl), (.r rfl), trivial⟩ rfl ⟨_, [_], [_,_], rfl, rfl, rfl, rfl, ⟨_, [_], [_,_], rfl, rfl, rfl, rfl, rfl⟩⟩) rfl<|VO.h rfl<|HO.bs (ps := [(_,_)]) (vs := [(_,_)]) (Z := [_,_]) (C := [_,_]) S45 Z25 N25 ⟨(.r rfl), trivial⟩ rfl rfl rfl rfl ⟨_, [_,_], [_,_], rfl, rfl, rfl, rfl, rfl⟩ fun b12 => VO.h rfl<|HO.appT (y.G) 2 0 (fun R => [_,_, R,_,_,_]) S45 S45 I25 (.r rfl) (.r rfl) rfl rfl rfl rfl rfl rfl rfl (fun _ => rfl) rfl (by rw [hR, List.length_replicate]; omega) fun p12 c12 => VO.l (LO.fa (r := 5) F108_1 (.r rfl) rfl) rfl<|VO.h0<|HO.st 1 (vs := [_]) (C' := [_,_,_,_,_,_]) (L' := [_,_,_,_,_,_]) N45 rfl rfl rfl rfl rfl rfl rfl rfl<|VO.nil ?_)
      refine VE.inN (VE.seqN ?_)
      refine VC.reg (VO.l (LO.mv (.r rfl)) rfl<|VO.l (LO.add (.r rfl) (.r rfl) (wi (by omega) (by omega))) rfl<|VO.l (LO.as (.r rfl)) rfl<|VO.nil ?_)
      refine VE.thenN fun a w ha hw => ⟨(i + 1, gs ++ [y.G], p12, c12), ⟨by dsimp only; omega, by dsimp only; rw [hR]; exact List.replicate_succ'.symm⟩, (by dsimp only; omega), ha.sub (.cons rfl (.cons rfl (.cons rfl (.cons rfl (.cons rfl .nil))))), hw.sel [1,2,3,4,5] rfl⟩
    ·
      refine VC.exit (VE.thenX (VE.thenX (VE.inX (VE.seqN ?_))))
      refine VC.seq ?_
      have hi4 : i = 4 := by omega
      subst hi4
      subst hR
      refine VC.reg (VO.l (LO.fa (r := 16) F38_6 (.r rfl) rfl) rfl<|VO.l (LO.lda (vs := [_,_,_,_,_,_,_,_]) A35 (.r rfl) (fun _ hw => cells_at hw 4 rfl ⟨_, rfl⟩) rfl) rfl<|VO.l (LO.lda (vs := [_,_,_,_,_,_,_,_,_,_,_]) A62 (.r rfl) (fun _ hw => cells_at hw 2 rfl ⟨_, rfl⟩) rfl) rfl<|VO.l (LO.bd (ps := [(_,_), (_,_)]) (vs := [(_,_), (_,_)]) (C := [_,_]) B25  ⟨(.r rfl), (.r rfl), trivial⟩ rfl ⟨_, [_], [_,_], rfl, rfl, rfl, rfl, ⟨_, [_], [_,_], rfl, rfl, rfl, rfl, rfl⟩⟩) rfl<|VO.l (LO.lda (vs := [_,_,_,_,_,_]) A108 (.r rfl) (fun _ hw => cells_at hw 0 rfl ⟨_, rfl⟩) rfl) rfl<|VO.h rfl<|HO.callx (xs := [_,_,_,_,_]) (vs := [_,_,_,_,_]) C48 ⟨(.r rfl), (.r rfl), (.r rfl), (.r rfl), (.r rfl), trivial⟩ (fun w hw => Rates_c y.x y.zz y.w3 y.t16 y.G l pr pe cr ce pg cg w hl1 hl2 ⟨hx.l.keep w hw, hx.r.keep w hw⟩ k (RO.of_own hw 3 rfl) (he.keep w hw) hc (RO.of_own hw 1 rfl)) fun yq _ => VO.h rfl<|HO.lo (LO.ex (.r rfl) rfl)<|VO.h rfl<|HO.lo (LO.ex (.r rfl) rfl)<|VO.h rfl<|HO.lo (LO.as (.r rfl))<|VO.h rfl<|HO.lo (LO.as (.r rfl))<|VO.nil ?_)
      refine VE.seqN ?_
      refine VC.ret (VE.res (vs := [_,_]) rfl ⟨rfl, rfl, trivial⟩ (fun w hw => ?_))
      exact ⟨yq, trivial, rfl, hw.sel [0] rfl⟩

end Go.Proofs.YtffbohecdocajaaGreat

namespace Go.Proofs.YtffbohecdocajaaGreat
open Go.SL Go.Proofs Go.Pulse
set_option linter.unusedVariables false

theorem B35 : Builds Tryz.prog 35 [(0,1), (1,1), (2,2), (4,2), (6,2)] [.slice none 0 0, .slice none 0 0, .int .i64 0, .int .i64 0, .int .i64 0, .int .i64 0, .int .i64 0, .int .i64 0] := Builds.mk fun _ => by kernel_rfl
theorem B38 : Builds Tryz.prog 38 [(0,5), (5,4), (9,4), (13,1), (14,1), (15,1), (16,8), (24,1), (25,1), (26,1), (27,2)] [.int .i64 0, .int .i64 0, .int .i64 0, .int .i64 0, .int .i64 0, .int .i64 0, .int .i64 0, .int .i64 0, .int .i64 0, .int .u16 0, .int .u16 0, .int .u16 0, .int .u16 0, .slice none 0 0, .slice none 0 0, .int .u32 0, .slice none 0 0, .slice none 0 0, .int .i64 0, .int .i64 0, .int .i64 0, .int .i64 0, .int .i64 0, .int .i64 0, .int .u16 0, .int .u8 0, .int .u8 0, .int .u16 0, .int .u16 0] := Builds.mk fun _ => by kernel_rfl
theorem Z38 : ZeroOf Tryz.prog 38 (.agg #[.int .i64 0, .int .i64 0, .int .i64 0, .int .i64 0, .int .i64 0, .int .i64 0, .int .i64 0, .int .i64 0, .int .i64 0, .int .u16 0, .int .u16 0, .int .u16 0, .int .u16 0, .slice none 0 0, .slice none 0 0, .int .u32 0, .slice none 0 0, .slice none 0 0, .int .i64 0, .int .i64 0, .int .i64 0, .int .i64 0, .int .i64 0, .int .i64 0, .int .u16 0, .int .u8 0, .int .u8 0, .int .u16 0, .int .u16 0]) := by unfold ZeroOf; kernel_rfl
theorem N38 : (Tryz.prog.info? 38).map (·.size) = some 29 := by kernel_rfl
theorem Z40 : ZeroOf Tryz.prog 40 (.slice none 0 0) := by unfold ZeroOf; kernel_rfl
theorem C8 : IsFn Tryz.prog 8 := ⟨_, Tryz.func8, by decide, rfl⟩
theorem A38 : IsAgg Tryz.prog 38 29 := ⟨⟨_, Tryz.underlying38, rfl⟩, by kernel_rfl⟩
theorem C9 : IsFn Tryz.prog 9 := ⟨_, Tryz.func9, by decide, rfl⟩
theorem C11 : IsFn Tryz.prog 11 := ⟨_, Tryz.func11, by decide, rfl⟩


def trW : Train := ⟨100000,1,1000,0,4⟩
def rcW : Recv := ⟨0,0,0,0⟩
def foW : List Sample := [⟨10,0,5,0⟩, ⟨10,100,5,100⟩, ⟨10,220,5,220⟩, ⟨10,330,5,330⟩]
def eW : Echo := hearX trW rcW foW
def loW : List Pt := [⟨0,0⟩, ⟨1000,0⟩]
def raW : List Pt := [⟨0,0⟩, ⟨100,10⟩, ⟨200,110⟩]
def mdW : Mdl := ⟨loW, raW, ⟨5000,6000⟩, ⟨0,0⟩, ⟨0,0⟩⟩
theorem ryW : rayE trW rcW [foW, foW] = 0 := by decide +kernel
theorem rxW : rayX trW rcW [foW, foW] = [eW, eW] := by
  unfold rayX; rw [if_pos ryW]
  have h : hearE trW rcW foW = 0 := by decide +kernel
  show [hearR trW rcW foW, hearR trW rcW foW] = _
  rw [hear_R h]; rfl
theorem mdW_0 : mdlE mdW = 0 := by decide +kernel
theorem eW_0 : echoE eW = 0 := by decide +kernel
theorem rtW : ratE mdW 100 0 0 ⟨0,0⟩ [eW, eW] = [⟨10,10⟩, ⟨10,10⟩] := by decide +kernel
theorem ray_W (bf br : Nat) (w : World) (h1 : Cells w ⟨bf, 0, none⟩ (foW.map smpC).flatten) (h2 : Cells w ⟨br, 0, none⟩ [.slice (some ⟨bf, 0, none⟩) 4 4, .slice (some ⟨bf, 0, none⟩) 4 4]) :
    Calls Tryz.prog 8 #[trainV trW, recvV rcW, .slice (some ⟨br, 0, none⟩) 2 2] w fun e w' => ∃ x : Option Addr × Nat, True ∧ e = .returned (.tuple #[.slice x.1 2 x.2, .int .i64 0]) ∧ St (bs w) [own 76 14 x.1 x.2 ([eW, eW].map echoC)] w' := by
  have hf : RO 4 smpC w (some ⟨bf, 0, none⟩) foW := RO.ofC (fun _ => rfl) h1
  have h := Ray_c trW rcW [⟨some ⟨bf, 0, none⟩, 4, foW⟩, ⟨some ⟨bf, 0, none⟩, 4, foW⟩] (some ⟨br, 0, none⟩) 2 w (show 2 < 1000000000 by decide) (fun x hx => by
    simp at hx; subst hx; show foW.length < 1000000000; decide) ⟨RO.ofC (fun _ => rfl) h2, fun x hx => by simp at hx; subst hx; exact ⟨Nat.le_refl _, hf⟩⟩
  have e1 : lss [(⟨some ⟨bf, 0, none⟩, 4, foW⟩ : SRow), ⟨some ⟨bf, 0, none⟩, 4, foW⟩] = [foW, foW] := rfl
  rw [e1, ryW, rxW] at h
  exact h
def yW (bl br : Nat) : RnA := ⟨⟨0,0,0,0,0⟩, ⟨0,0,0,0⟩, 0,0,0,0, [], none, 0, [], none, 0,0, ⟨mdW, some ⟨bl, 0, none⟩, 2, some ⟨br, 0, none⟩, 3⟩, 100,0,0,0,0⟩
theorem rn_W (bl br : Nat) (pe : Option Addr) (ce : Nat) (w : World) (h1 : Cells w ⟨bl, 0, none⟩ (loW.map ptC).flatten) (h2 : Cells w ⟨br, 0, none⟩ (raW.map ptC).flatten) (he : RO 14 echoC w pe [eW, eW]) (hc : 2 ≤ ce) :
    Calls Tryz.prog 9 #[.agg (yW bl br).C.toArray, .slice pe 2 ce] w fun e w' => ∃ q : Option Addr × Nat, True ∧ e = .returned (.tuple #[.slice q.1 2 q.2, .int .i64 0]) ∧ St (bs w) [own 25 2 q.1 q.2 ([(⟨10,10⟩ : Span), ⟨10,10⟩].map spanC)] w' := by
  have hk : RnK (yW bl br) := ⟨show (0 : Int) ≤ 100 ∧ (100 : Int) ≤ 65535 by decide, show (0 : Int) ≤ 0 ∧ (0 : Int) ≤ 255 by decide, show (0 : Int) ≤ 0 ∧ (0 : Int) ≤ 255 by decide, show (0 : Int) ≤ 0 ∧ (0 : Int) ≤ 65535 by decide, show (0 : Int) ≤ 0 ∧ (0 : Int) ≤ 65535 by decide⟩
  have h := rnRates_c (yW bl br) [eW, eW] pe ce w (show loW.length < _ by decide) (show raW.length < _ by decide) ⟨RO.ofC (fun _ => rfl) h1, RO.ofC (fun _ => rfl) h2⟩ hk (hk.ry ⟨by decide, by decide⟩ fun x hx => by
    simp at hx; subst hx; exact eW_0) he hc
  have e1 : (yW bl br).rat [eW, eW] = [⟨10,10⟩, ⟨10,10⟩] := rtW
  have e2 : mdlE (yW bl br).x.m = 0 := mdW_0
  rw [e1, e2] at h
  exact h

set_option maxRecDepth 20000 in
theorem point_c (n : Int) (w : World) :
  Calls Tryz.prog 11 #[.int .i64 n] w fun e w' => e = .returned (.agg #[.int .i64 n, .int .i64 n]) ∧ St (bs w) [] w' := by
  refine enter (vs := [_]) (env := [(0,_)]) Tryz.func11 rfl rfl rfl rfl ?_
  refine VC.seq ?_
  refine VC.reg (VO.h rfl<|HO.alloc (C := #[_,_]) Z25 rfl fun b1 => VO.nil ?_)
  refine VE.seqN ?_
  refine VC.seq ?_
  refine VC.reg (VO.l (LO.mv (.r rfl)) rfl<|VO.l (LO.mv (.r rfl)) rfl<|VO.l (LO.bd (ps := [(_,_), (_,_)]) (vs := [(_,_), (_,_)]) (C := [_,_]) B25  ⟨(.r rfl), (.r rfl), trivial⟩ rfl ⟨_, [_], [_,_], rfl, rfl, rfl, rfl, ⟨_, [_], [_,_], rfl, rfl, rfl, rfl, rfl⟩⟩) rfl<|VO.h0<|HO.st 0 (vs := [_,_]) (C' := [_,_]) (L' := [_]) N25 rfl rfl rfl rfl rfl rfl rfl rfl<|VO.nil ?_)
  refine VE.seqN ?_
  refine VC.ret (VE.res (vs := [_]) rfl ⟨RV.agg (vs := [_,_]) A25 rfl (cells_blk 0 rfl ⟨_, rfl⟩) rfl, trivial⟩ (fun w hw => ?_))
  exact ⟨rfl, hw.nil⟩

set_option maxRecDepth 20000 in
set_option maxHeartbeats 2000000 in
theorem rnWorks_c (w : World) :
  Calls Tryz.prog 7 #[] w fun e w' => e = .returned (.bool true) ∧ St (bs w) [] w' := by
  refine enter (vs := []) (env := []) Tryz.func7 rfl rfl rfl rfl ?_
  refine VC.seq ?_
  refine VC.reg (VO.l (LO.as (.r rfl)) rfl<|VO.nil ?_)
  refine VE.seqN ?_
  refine VC.seq ?_
  refine VC.reg (VO.l (LO.bd (ps := []) (vs := []) (C := [_,_]) B166  trivial rfl rfl) rfl<|VO.l (LO.bd (ps := [(_,_), (_,_)]) (vs := [(_,_), (_,_)]) (C := [_,_]) B166  ⟨(.r rfl), (.r rfl), trivial⟩ rfl ⟨_, [_], [_,_], rfl, rfl, rfl, rfl, ⟨_, [_], [_,_], rfl, rfl, rfl, rfl, rfl⟩⟩) rfl<|VO.h rfl<|HO.bs (ps := [(_,_), (_,_)]) (vs := [(_,_), (_,_)]) (Z := [_,_,_,_]) (C := [_,_,_,_]) S33 Z166 N166 ⟨(.r rfl), (.r rfl), trivial⟩ rfl rfl rfl rfl ⟨_, [_,_], [_,_,_,_], rfl, rfl, rfl, rfl, ⟨_, [_,_], [_,_,_,_], rfl, rfl, rfl, rfl, rfl⟩⟩ fun b1 => VO.l (LO.bd (ps := []) (vs := []) (C := [_,_]) B166  trivial rfl rfl) rfl<|VO.l (LO.bd (ps := [(_,_), (_,_)]) (vs := [(_,_), (_,_)]) (C := [_,_]) B166  ⟨(.r rfl), (.r rfl), trivial⟩ rfl ⟨_, [_], [_,_], rfl, rfl, rfl, rfl, ⟨_, [_], [_,_], rfl, rfl, rfl, rfl, rfl⟩⟩) rfl<|VO.l (LO.bd (ps := [(_,_), (_,_)]) (vs := [(_,_), (_,_)]) (C := [_,_]) B166  ⟨(.r rfl), (.r rfl), trivial⟩ rfl ⟨_, [_], [_,_], rfl, rfl, rfl, rfl, ⟨_, [_], [_,_], rfl, rfl, rfl, rfl, rfl⟩⟩) rfl<|VO.h rfl<|HO.bs (ps := [(_,_), (_,_), (_,_)]) (vs := [(_,_), (_,_), (_,_)]) (Z := [_,_,_,_,_,_]) (C := [_,_,_,_,_,_]) S33 Z166 N166 ⟨(.r rfl), (.r rfl), (.r rfl), trivial⟩ rfl rfl rfl rfl ⟨_, [_,_], [_,_,_,_,_,_], rfl, rfl, rfl, rfl, ⟨_, [_,_], [_,_,_,_,_,_], rfl, rfl, rfl, rfl, ⟨_, [_,_], [_,_,_,_,_,_], rfl, rfl, rfl, rfl, rfl⟩⟩⟩ fun b2 => VO.l (LO.bd (ps := [(_,_), (_,_)]) (vs := [(_,_), (_,_)]) (C := [_,_]) B25  ⟨(.r rfl), (.r rfl), trivial⟩ rfl ⟨_, [_], [_,_], rfl, rfl, rfl, rfl, ⟨_, [_], [_,_], rfl, rfl, rfl, rfl, rfl⟩⟩) rfl<|VO.h rfl<|HO.lo (LO.bd (ps := [(_,_), (_,_), (_,_)]) (vs := [(_,_), (_,_), (_,_)]) (C := [_,_,_,_,_,_,_,_]) B35  ⟨(.r rfl), (.r rfl), (.r rfl), trivial⟩ rfl ⟨_, [_], [_,_,_,_,_,_,_,_], rfl, rfl, rfl, rfl, ⟨_, [_], [_,_,_,_,_,_,_,_], rfl, rfl, rfl, rfl, ⟨_, [_,_], [_,_,_,_,_,_,_,_], rfl, rfl, rfl, rfl, rfl⟩⟩⟩)<|VO.h rfl<|HO.lo (LO.bd (ps := [(_,_), (_,_)]) (vs := [(_,_), (_,_)]) (C := [_,_,_,_,_,_,_,_,_,_,_,_,_,_,_,_,_,_,_,_,_,_,_,_,_,_,_,_,_]) B38  ⟨(.r rfl), (.r rfl), trivial⟩ rfl ⟨_, [_,_,_,_,_,_,_,_], [_,_,_,_,_,_,_,_,_,_,_,_,_,_,_,_,_,_,_,_,_,_,_,_,_,_,_,_,_], rfl, rfl, rfl, rfl, ⟨_, [_], [_,_,_,_,_,_,_,_,_,_,_,_,_,_,_,_,_,_,_,_,_,_,_,_,_,_,_,_,_], rfl, rfl, rfl, rfl, rfl⟩⟩)<|VO.h rfl<|HO.alloc (C := #[_,_,_,_,_,_,_,_,_,_,_,_,_,_,_,_,_,_,_,_,_,_,_,_,_,_,_,_,_]) Z38 rfl fun b3 => VO.h0<|HO.st 0 (vs := [_,_,_,_,_,_,_,_,_,_,_,_,_,_,_,_,_,_,_,_,_,_,_,_,_,_,_,_,_]) (C' := [_,_,_,_,_,_,_,_,_,_,_,_,_,_,_,_,_,_,_,_,_,_,_,_,_,_,_,_,_]) (L' := [_,_,_]) N38 rfl rfl rfl rfl rfl rfl rfl rfl<|VO.nil ?_)
  refine VE.seqN ?_
  refine VC.seq ?_
  refine VC.reg (VO.l (LO.bd (ps := [(_,_), (_,_)]) (vs := [(_,_), (_,_)]) (C := [_,_,_,_]) B50  ⟨(.r rfl), (.r rfl), trivial⟩ rfl ⟨_, [_], [_,_,_,_], rfl, rfl, rfl, rfl, ⟨_, [_], [_,_,_,_], rfl, rfl, rfl, rfl, rfl⟩⟩) rfl<|VO.l (LO.bd (ps := [(_,_), (_,_), (_,_), (_,_)]) (vs := [(_,_), (_,_), (_,_), (_,_)]) (C := [_,_,_,_]) B50  ⟨(.r rfl), (.r rfl), (.r rfl), (.r rfl), trivial⟩ rfl ⟨_, [_], [_,_,_,_], rfl, rfl, rfl, rfl, ⟨_, [_], [_,_,_,_], rfl, rfl, rfl, rfl, ⟨_, [_], [_,_,_,_], rfl, rfl, rfl, rfl, ⟨_, [_], [_,_,_,_], rfl, rfl, rfl, rfl, rfl⟩⟩⟩⟩) rfl<|VO.l (LO.bd (ps := [(_,_), (_,_), (_,_), (_,_)]) (vs := [(_,_), (_,_), (_,_), (_,_)]) (C := [_,_,_,_]) B50  ⟨(.r rfl), (.r rfl), (.r rfl), (.r rfl), trivial⟩ rfl ⟨_, [_], [_,_,_,_], rfl, rfl, rfl, rfl, ⟨_, [_], [_,_,_,_], rfl, rfl, rfl, rfl, ⟨_, [_], [_,_,_,_], rfl, rfl, rfl, rfl, ⟨_, [_], [_,_,_,_], rfl, rfl, rfl, rfl, rfl⟩⟩⟩⟩) rfl<|VO.l (LO.bd (ps := [(_,_), (_,_), (_,_), (_,_)]) (vs := [(_,_), (_,_), (_,_), (_,_)]) (C := [_,_,_,_]) B50  ⟨(.r rfl), (.r rfl), (.r rfl), (.r rfl), trivial⟩ rfl ⟨_, [_], [_,_,_,_], rfl, rfl, rfl, rfl, ⟨_, [_], [_,_,_,_], rfl, rfl, rfl, rfl, ⟨_, [_], [_,_,_,_], rfl, rfl, rfl, rfl, ⟨_, [_], [_,_,_,_], rfl, rfl, rfl, rfl, rfl⟩⟩⟩⟩) rfl<|VO.h rfl<|HO.bs (ps := [(_,_), (_,_), (_,_), (_,_)]) (vs := [(_,_), (_,_), (_,_), (_,_)]) (Z := [_,_,_,_,_,_,_,_,_,_,_,_,_,_,_,_]) (C := [_,_,_,_,_,_,_,_,_,_,_,_,_,_,_,_]) S40 Z50 N50 ⟨(.r rfl), (.r rfl), (.r rfl), (.r rfl), trivial⟩ rfl rfl rfl rfl ⟨_, [_,_,_,_], [_,_,_,_,_,_,_,_,_,_,_,_,_,_,_,_], rfl, rfl, rfl, rfl, ⟨_, [_,_,_,_], [_,_,_,_,_,_,_,_,_,_,_,_,_,_,_,_], rfl, rfl, rfl, rfl, ⟨_, [_,_,_,_], [_,_,_,_,_,_,_,_,_,_,_,_,_,_,_,_], rfl, rfl, rfl, rfl, ⟨_, [_,_,_,_], [_,_,_,_,_,_,_,_,_,_,_,_,_,_,_,_], rfl, rfl, rfl, rfl, rfl⟩⟩⟩⟩ fun b5 => VO.h rfl<|HO.lo (LO.as (.r rfl))<|VO.nil ?_)
  refine VE.seqN ?_
  refine VC.seq ?_
  refine VC.reg (VO.l (LO.bd (ps := [(_,_), (_,_), (_,_), (_,_)]) (vs := [(_,_), (_,_), (_,_), (_,_)]) (C := [_,_,_,_,_]) B23  ⟨(.r rfl), (.r rfl), (.r rfl), (.r rfl), trivial⟩ rfl ⟨_, [_], [_,_,_,_,_], rfl, rfl, rfl, rfl, ⟨_, [_], [_,_,_,_,_], rfl, rfl, rfl, rfl, ⟨_, [_], [_,_,_,_,_], rfl, rfl, rfl, rfl, ⟨_, [_], [_,_,_,_,_], rfl, rfl, rfl, rfl, rfl⟩⟩⟩⟩) rfl<|VO.l (LO.bd (ps := []) (vs := []) (C := [_,_,_,_]) B27  trivial rfl rfl) rfl<|VO.l (LO.mv (.r rfl)) rfl<|VO.l (LO.mv (.r rfl)) rfl<|VO.h rfl<|HO.bs (ps := [(_,_), (_,_)]) (vs := [(_,_), (_,_)]) (Z := [_,_]) (C := [_,_]) S30 Z40 N40 ⟨(.r rfl), (.r rfl), trivial⟩ rfl rfl rfl rfl ⟨_, [_], [_,_], rfl, rfl, rfl, rfl, ⟨_, [_], [_,_], rfl, rfl, rfl, rfl, rfl⟩⟩ fun b6 => VO.h rfl<|HO.callx (xs := [_,_,_]) (vs := [_,_,_]) C8 ⟨(.r rfl), (.r rfl), (.r rfl), trivial⟩ (fun w hw => ray_W b5 b6 w (cells_at hw 1 rfl ⟨_, rfl⟩) (cells_at hw 0 rfl ⟨_, rfl⟩)) fun xe _ => VO.h rfl<|HO.lo (LO.mv (.r rfl))<|VO.h rfl<|HO.lo (LO.ex (.r rfl) rfl)<|VO.h rfl<|HO.lo (LO.ex (.r rfl) rfl)<|VO.h rfl<|HO.lo (LO.as (.r rfl))<|VO.h rfl<|HO.lo (LO.as (.r rfl))<|VO.nil ?_)
  refine VE.seqN ?_
  refine VC.seq ?_
  refine VC.seq ?_
  refine VC.reg (VO.l (LO.mv (.r rfl)) rfl<|VO.l (LO.ne (.r rfl) (.r rfl)) rfl<|VO.l (LO.mv (.r rfl)) rfl<|VO.lg rfl rfl (GD.f _) (fun hg => LO.mv (.r rfl)) rfl<|VO.lg rfl rfl (GD.f _) (fun hg => LO.len S41 (.g hg rfl) rfl) rfl<|VO.lg rfl rfl (GD.f _) (fun hg => LO.ne (.g hg rfl) (.r rfl)) rfl<|VO.l (LO.pkO (.r rfl) (.r rfl) rfl rfl) rfl<|VO.nil ?_)
  refine VE.seqN ?_
  refine VC.cond rfl (fun h36 => ?_) (fun h36 => ?_)
  ·
    (exfalso; simp at h36)
  ·
    refine VC.skip (VE.seqN ?_)
    refine VC.seq ?_
    refine VC.reg (VO.l (LO.lda (vs := [_,_,_,_,_,_,_,_,_,_,_,_,_,_,_,_,_,_,_,_,_,_,_,_,_,_,_,_,_]) A38 (.r rfl) (fun _ hw => cells_at hw 3 rfl ⟨_, rfl⟩) rfl) rfl<|VO.l (LO.mv (.r rfl)) rfl<|VO.h rfl<|HO.callx (xs := [_,_]) (vs := [_,_]) C9 ⟨(.r rfl), (.r rfl), trivial⟩ (fun w hw => rn_W b1 b2 xe.1 xe.2 w (cells_at hw 5 rfl ⟨_, rfl⟩) (cells_at hw 4 rfl ⟨_, rfl⟩) (RO.of_own hw 0 rfl) (own_capS hw 0 rfl)) fun xr _ => VO.h rfl<|HO.lo (LO.mv (.r rfl))<|VO.h rfl<|HO.lo (LO.ex (.r rfl) rfl)<|VO.h rfl<|HO.lo (LO.ex (.r rfl) rfl)<|VO.h rfl<|HO.lo (LO.as (.r rfl))<|VO.h rfl<|HO.lo (LO.as (.r rfl))<|VO.nil ?_)
    refine VE.seqN ?_
    refine VC.seq ?_
    refine VC.draw mixed (LL.l (LO.mv (.r rfl)) rfl<|LL.l (LO.eq (.r rfl) (.r rfl)) rfl<|LL.l (LO.mv (.r rfl)) rfl<|LL.lg rfl rfl (GD.t _) (fun hg => LO.mv (.r rfl)) rfl<|LL.lg rfl rfl (GD.t _) (fun hg => LO.len S45 (.g hg rfl) rfl) rfl<|LL.lg rfl rfl (GD.t _) (fun hg => LO.eq (.g hg rfl) (.r rfl)) rfl<|LL.l (LO.pkA (.r rfl) rfl rfl (.r rfl)) rfl<|LL.l (LO.mv (.r rfl)) rfl<|LL.lg rfl rfl (GD.t _) (fun hg => LO.mv (.r rfl)) rfl<|LL.lg rfl rfl (GD.t _) (fun hg => LO.ixo S45 N25 (fun _ hw => (own_rows hw 0 rfl).some (by decide)) (.g hg rfl) (.r rfl) rfl (by decide)) rfl<|LL.lg rfl rfl (GD.t _) (fun hg => LO.lda (vs := [_,_]) A25 (.g hg rfl) (fun w hw => cells_part (off := 0) (own_cell hw 0 rfl (j := 0) (x := (⟨10,10⟩ : Span)) rfl) ⟨_, rfl⟩) rfl) rfl<|LL.lg rfl rfl (GD.t _) (fun hg => LO.call (xs := [_]) (vs := [_]) C11 ⟨(.r rfl), trivial⟩ (fun w _ => point_c _ w)) rfl<|LL.lg rfl rfl (GD.t _) (fun hg => LO.eqA («as» := [_,_]) (bs := [_,_]) EA25 (.g hg rfl) (.g hg rfl) rfl rfl) rfl<|LL.l (LO.pkA (.r rfl) rfl rfl (.r rfl)) rfl<|LL.l (LO.mv (.r rfl)) rfl<|LL.lg rfl rfl (GD.t _) (fun hg => LO.mv (.r rfl)) rfl<|LL.lg rfl rfl (GD.t _) (fun hg => LO.ixo S45 N25 (fun _ hw => (own_rows hw 0 rfl).some (by decide)) (.g hg rfl) (.r rfl) rfl (by decide)) rfl<|LL.lg rfl rfl (GD.t _) (fun hg => LO.lda (vs := [_,_]) A25 (.g hg rfl) (fun w hw => cells_part (off := 0) (own_cell hw 0 rfl (j := 1) (x := (⟨10,10⟩ : Span)) rfl) ⟨_, rfl⟩) rfl) rfl<|LL.lg rfl rfl (GD.t _) (fun hg => LO.call (xs := [_]) (vs := [_]) C11 ⟨(.r rfl), trivial⟩ (fun w _ => point_c _ w)) rfl<|LL.lg rfl rfl (GD.t _) (fun hg => LO.eqA («as» := [_,_]) (bs := [_,_]) EA25 (.g hg rfl) (.g hg rfl) rfl rfl) rfl<|LL.l (LO.pkA (.r rfl) rfl rfl (.r rfl)) rfl<|LL.l (LO.as (.r rfl)) rfl<|LL.nil) (by kernel_rfl) ?_
    refine VE.seqN ?_
    refine VC.ret (VE.res (vs := [_]) rfl ⟨rfl, trivial⟩ (fun w hw => ?_))
    exact ⟨rfl, hw.nil⟩

end Go.Proofs.YtffbohecdocajaaGreat

namespace Go.Proofs.YtffbohecdocajaaGreat
open Go.SL Go.Proofs Go.Pulse
set_option linter.unusedVariables false

structure RnL (y : RnA) : Prop where
  k : RnK y
  d0 : 0 ≤ y.d0 ∧ y.d0 ≤ 65535
  d1 : 0 ≤ y.d1 ∧ y.d1 ≤ 65535
  d2 : 0 ≤ y.d2 ∧ y.d2 ≤ 65535
  d3 : 0 ≤ y.d3 ∧ y.d3 ≤ 65535
  ns : 0 ≤ y.ns ∧ y.ns ≤ 4294967295
  sl : ∀ n ∈ y.sl, 0 ≤ n ∧ n ≤ 255
def slAt (y : RnA) (i k : Nat) : Int := y.sl.getD ((7 * i + k) % y.sl.length) 0
def trS (y : RnA) (i k : Nat) (s : Sample) : Sample := if y.sl = [] then s else ⟨min 1023 (max 0 (s.h + ((slAt y i k).tmod (2 * y.r.level + 1) - y.r.level))), s.p, s.v, s.q⟩
def trRow (y : RnA) (i : Nat) (l : List Sample) : List Sample := (List.range l.length).map fun k => trS y i k (l.getD k zSm)
def trLs (y : RnA) : List (List Sample) := (List.range y.rs.length).map fun i => trRow y i (y.rs.getD i zR).l
def trB (y : RnA) (i k : Nat) : Int := if y.sl = [] then y.r.level else slAt y i k
def dsR (y : RnA) (i n : Nat) : List Q4 := (List.range n).map fun k => ⟨trB y i k, y.r.phase, y.r.level, y.r.phase⟩
def RnA.pt (y : RnA) : Int := y.r.nlo + y.ns.tmod (y.r.nhi - y.r.nlo + 1)
section
variable {y : RnA} {i : Nat} {l : List Sample}
theorem slAt_bd (h : RnL y) (i k : Nat) : 0 ≤ slAt y i k ∧ slAt y i k ≤ 255 := by
  unfold slAt
  rcases Nat.lt_or_ge ((7 * i + k) % y.sl.length) y.sl.length with q | q
  · exact h.sl _ (getD_mem q)
  · rw [List.getD_eq_getElem?_getD, List.getElem?_eq_none q]; decide
theorem offV_self {n : Int} (h : 0 ≤ n) : offV n n = 0 := by
  unfold offV
  rw [Int.tmod_eq_emod_of_nonneg h, Int.emod_eq_of_lt h (by omega)]; omega
theorem trRow_T (h : RnL y) (hr : recvOk y.r) (hs : ∀ x ∈ l, smpOk x) : trRow y i l = truthL l y.r (dsR y i l.length) := by
  unfold recvOk at hr
  unfold trRow truthL
  refine List.map_congr_left fun k hk => ?_
  rw [List.mem_range] at hk
  have hx := hs _ (getD_mem (d := zSm) hk)
  have hlen : (dsR y i l.length).length = l.length := by unfold dsR; rw [List.length_map, List.length_range]
  have hp : pickQ (dsR y i l.length) k = ⟨trB y i k, y.r.phase, y.r.level, y.r.phase⟩ := by
    unfold pickQ
    rw [if_neg (fun q => by rw [q] at hlen; simp at hlen; omega), hlen, Nat.mod_eq_of_lt hk]
    unfold dsR
    rw [List.getD_eq_getElem?_getD, List.getElem?_map, List.getElem?_range hk]; rfl
  rw [hp]
  unfold truthV
  dsimp only
  rw [offV_self hr.2.1.1, offV_self hr.1.1]
  unfold smpOk at hx
  generalize l.getD k zSm = s at *
  obtain ⟨a, b, c, d⟩ := s
  dsimp only at *
  have e1 : wr (b + 0) = b := by unfold wr; omega
  have e2 : wr (d + 0) = d := by unfold wr; omega
  have e3 : min 1023 (max 0 (c + 0)) = c := by omega
  unfold trS trB
  rw [e1, e2, e3]
  split
  · rw [offV_self hr.1.1, show min 1023 (max 0 (a + 0)) = a by omega]
  · rfl
theorem dsR_ok (h : RnL y) (hr : recvOk y.r) (i n : Nat) : ∀ q ∈ dsR y i n, q4Ok q := fun q hq => by
  unfold recvOk at hr
  unfold dsR at hq
  obtain ⟨k,_, rfl⟩ := List.mem_map.1 hq
  have := slAt_bd h i k
  unfold q4Ok trB
  dsimp only
  refine ⟨?_, by omega, by omega, by omega, by omega⟩
  split <;> omega
theorem trRow_len : (trRow y i l).length = l.length := by unfold trRow; rw [List.length_map, List.length_range]
theorem trLs_len : (trLs y).length = y.rs.length := by unfold trLs; rw [List.length_map, List.length_range]
theorem trLs_at (hi : i < y.rs.length) : (trLs y).getD i [] = trRow y i (y.rs.getD i zR).l := by
  unfold trLs
  rw [List.getD_eq_getElem?_getD, List.getElem?_map, List.getElem?_range hi]; rfl
/-- What is heard of a ray: an echo for each row. -/
theorem rayX_0 {t : Train} {r : Recv} {ls : List (List Sample)} (h : rayE t r ls = 0) : rayX t r ls = ls.map (hearR t r) := if_pos h
theorem rayX_at {t : Train} {r : Recv} {ls : List (List Sample)} (h : rayE t r ls = 0) {j : Nat} (hj : j < ls.length) : (rayX t r ls).getD j zE = hearR t r (ls.getD j []) := by
  rw [rayX_0 h, List.getD_eq_getElem?_getD, List.getElem?_map, List.getElem?_eq_getElem hj, List.getD_eq_getElem?_getD, List.getElem?_eq_getElem hj]; rfl
theorem rayX_n {t : Train} {r : Recv} {ls : List (List Sample)} (h : rayE t r ls = 0) : (rayX t r ls).length = ls.length := by rw [rayX_0 h, List.length_map]
theorem rayE_all {t : Train} {r : Recv} {ls : List (List Sample)} (h : rayE t r ls = 0) : trainE t = 0 ∧ ls.length ≤ 200 ∧ ∀ j, j < ls.length → hearE t r (ls.getD j []) = 0 := by
  unfold rayE at h
  split at h
  · rename_i q; exact absurd h q
  · rename_i q1
    split at h
    · rename_i q; exact absurd h q
    · split at h
      · exact absurd h (by decide)
      · exact ⟨Classical.not_not.1 q1, by omega, fun j hj => firstE_eq h j hj⟩
theorem rayE_of {t : Train} {r : Recv} {ls : List (List Sample)} (h1 : trainE t = 0) (h2 : recvE r = 0) (h3 : ls.length ≤ 200) (h4 : ∀ j, j < ls.length → hearE t r (ls.getD j []) = 0) : rayE t r ls = 0 := by
  unfold rayE
  rw [if_neg (fun q => q h1), if_neg (fun q => q h2), if_neg (by omega)]
  exact firstE_zero h4
theorem bet_min {t : Train} {r r' : Recv} {l l' : List Sample} (B : Bet r r' l l') (e' : hearE t r' l' = 0) (e : hearE t r l = 0) : inSp (hearR t r' l').power (hearR t r l).power := by
  obtain ⟨hb, hr, hc, hs⟩ := hear_0 e
  have ht := hb.2
  unfold trainOk at ht
  rw [hear_R e', hear_R e, hearX_pow, hearX_pow]
  exact B.pow0 (by omega)
theorem ech_0 {t : Train} {r : Recv} {l : List Sample} (e : hearE t r l = 0) : echoE (hearR t r l) = 0 := by
  obtain ⟨hb, hr, hc, hs⟩ := hear_0 e
  have ht := hb.2
  unfold trainOk at ht
  rw [hear_R e]
  exact hear_ok hr (by omega) hs
theorem ray_ech {t : Train} {r : Recv} {ls : List (List Sample)} (h : rayE t r ls = 0) : ∀ x ∈ rayX t r ls, echoE x = 0 := fun x hx => by
  rw [rayX_0 h] at hx
  obtain ⟨l, hl, rfl⟩ := List.mem_map.1 hx
  obtain ⟨j, hj, rfl⟩ := mem_getD (d := ([] : List Sample)) hl
  exact ech_0 ((rayE_all h).2.2 j hj)
/-- All that follows from a ray that was heard. -/
structure RnP (y : RnA) (r' : Recv) (ls' : List (List Sample)) : Prop where
  e : rayE y.t r' ls' = 0
  n : (rayX y.t r' ls').length = y.rs.length
  x : ∀ z ∈ rayX y.t r' ls', echoE z = 0
  p : ∀ j, j < (rayX y.t y.r (lss y.rs)).length → inSp ((rayX y.t r' ls').getD j zE).power ((rayX y.t y.r (lss y.rs)).getD j zE).power
theorem rn_gen {r' : Recv} {ls' : List (List Sample)} (hE : rayE y.t y.r (lss y.rs) = 0) (hr' : recvOk r') (hl : ls'.length = y.rs.length) (hh : ∀ j, j < y.rs.length → hearE y.t r' (ls'.getD j []) = 0 ∧ Bet y.r r' (y.rs.getD j zR).l (ls'.getD j [])) : RnP y r' ls' := by
  obtain ⟨h1, h2, h3⟩ := rayE_all hE
  rw [lss_len] at h2 h3
  have e : rayE y.t r' ls' = 0 := rayE_of h1 (by unfold recvE; rw [if_pos hr']) (by omega) (fun j hj => (hh j (by omega)).1)
  refine ⟨e, by rw [rayX_n e, hl], ray_ech e, fun j hj => ?_⟩
  rw [rayX_n hE, lss_len] at hj
  rw [rayX_at e (by omega), rayX_at hE (by rw [lss_len]; exact hj), lss_get]
  have := h3 j hj
  rw [lss_get] at this
  exact bet_min (hh j hj).2 (hh j hj).1 this
theorem rn_recv (h0 : 1 ≤ y.rs.length) (hE : rayE y.t y.r (lss y.rs) = 0) : recvOk y.r := by
  have := (rayE_all hE).2.2 0 (by rw [lss_len]; omega)
  exact (hear_0 this).2.1
theorem rn_rB (h : RnL y) (hr : recvOk y.r) : recvOk (rB y.r y.d0 y.d1 y.d2 y.d3) := by
  have := h.d0
  have := h.d1
  have := h.d2
  have := h.d3
  unfold recvOk at hr ⊢
  unfold rB
  dsimp only
  omega
theorem rn_better (h : RnL y) (h0 : 1 ≤ y.rs.length) (hE : rayE y.t y.r (lss y.rs) = 0) : RnP y (rB y.r y.d0 y.d1 y.d2 y.d3) (lss y.rs) := by
  have hr := rn_recv h0 hE
  have hr' := rn_rB h hr
  refine rn_gen hE hr' lss_len fun j hj => ?_
  have e := (rayE_all hE).2.2 j (by rw [lss_len]; exact hj)
  rw [lss_get] at e ⊢
  obtain ⟨hb,_, hc, hs⟩ := hear_0 e
  have := h.d0
  have := h.d1
  have := h.d2
  have := h.d3
  have q := hr
  unfold recvOk at q
  exact ⟨rhE hb hr' (fun q => q hc) hs, Bet.recv hr hr' hs (by unfold rB; dsimp only; omega) (by unfold rB; dsimp only; omega) (by unfold rB; dsimp only; omega)⟩
theorem pt_bd (h : RnL y) (hr : recvOk y.r) : y.r.nlo ≤ y.pt ∧ y.pt ≤ y.r.nhi := by
  unfold recvOk at hr
  have := tmd (n := y.r.nhi - y.r.nlo + 1) h.ns.1 (by omega)
  unfold RnA.pt
  omega
theorem rn_truth (h : RnL y) (h0 : 1 ≤ y.rs.length) (hE : rayE y.t y.r (lss y.rs) = 0) : RnP y ⟨0,0, y.pt, y.pt⟩ (trLs y) := by
  have hr := rn_recv h0 hE
  have hp := pt_bd h hr
  refine rn_gen hE (by unfold recvOk at hr ⊢; dsimp only; omega) trLs_len fun j hj => ?_
  have e := (rayE_all hE).2.2 j (by rw [lss_len]; exact hj)
  rw [lss_get] at e
  obtain ⟨hb,_, hc, hs⟩ := hear_0 e
  rw [trLs_at hj, trRow_T h hr hs]
  have B := Bet.truth (ds := dsR y j (y.rs.getD j zR).l.length) hr hs (dsR_ok h hr _ _) hp.1 hp.2
  exact ⟨rhE hb B.hr' (fun q => q (by rw [truthL_len]; exact hc)) B.hs', B⟩
/-- The rates of what is better known lie within the others. -/
theorem rn_in {r' : Recv} {ls' : List (List Sample)} (h : RnL y) (h0 : 1 ≤ y.rs.length ∧ y.rs.length ≤ 6) (hm : mdlE y.x.m = 0) (hE : rayE y.t y.r (lss y.rs) = 0) (P : RnP y r' ls') : (y.rat (rayX y.t r' ls')).length = y.rs.length ∧ ∀ j, j < y.rs.length → inSp ((y.rat (rayX y.t r' ls')).getD j zsp) ((y.rat (rayX y.t y.r (lss y.rs))).getD j zsp) := by
  have hl : (rayX y.t y.r (lss y.rs)).length = y.rs.length := by rw [rayX_n hE, lss_len]
  have k := h.k.ry (l := rayX y.t y.r (lss y.rs)) (by omega) (ray_ech hE)
  unfold RnA.rat
  rw [rtE_y (fun q => q hm), rtE_y (fun q => q hm)]
  refine ⟨by rw [rat_len, P.n], fun j hj => ?_⟩
  exact rat_mono (mdl_0 hm) k P.p (by rw [P.n, hl]) (by omega)
end
end Go.Proofs.YtffbohecdocajaaGreat
