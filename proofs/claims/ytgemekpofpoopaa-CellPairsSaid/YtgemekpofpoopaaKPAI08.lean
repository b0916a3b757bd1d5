/-
  All events, as the document finds them.
  What follows what, as the document has it.
  Possible moves, as the document has them.
  The document's Match and Moves.
  CellPairs, walked.
-/
import Derived.Test.YtgemekpofpoopaaKPAI07

set_option linter.unusedSimpArgs false
namespace Go.Proofs.Ytgemekpofpoopaa
open Go.SL Go.Proofs Go.Cast Go.Cell
set_option linter.unusedVariables false

theorem C114 : IsFn Try.prog 114 := ⟨_, Try.func114, by decide, rfl⟩
theorem Z142 : ZeroOf Try.prog 142 (.slice none 0 0) := by unfold ZeroOf; kernel_rfl
theorem I142 : EInfo Try.prog 142 1 24 (.slice none 0 0) := ⟨by kernel_rfl, by kernel_rfl, by unfold ZeroOf; kernel_rfl, rfl, by decide⟩
theorem C115 : IsFn Try.prog 115 := ⟨_, Try.func115, by decide, rfl⟩
theorem S49 : IsSlice Try.prog 49 157 := Try.underlying49
theorem I157 : EInfo Try.prog 157 3 56 (.agg #[.int .i64 0, .slice none 0 0, .slice none 0 0]) := ⟨by kernel_rfl, by kernel_rfl, by unfold ZeroOf; kernel_rfl, rfl, by decide⟩


def rwTo (m : Nat) (T : Nat → Nat → Bool) (i j : Nat) : List Bool := (List.range m).map fun q => if q < j then T i q else false
theorem rwTo_len {m i j : Nat} {T : Nat → Nat → Bool} : (rwTo m T i j).length = m := by unfold rwTo; simp
theorem rwTo_zero {m i : Nat} {T : Nat → Nat → Bool} : List.replicate m false = rwTo m T i 0 := by
  refine List.ext_getElem? fun q => ?_
  unfold rwTo
  rw [List.getElem?_map, List.getElem?_replicate]
  by_cases e : q < m
  · rw [if_pos e, List.getElem?_range e]; rfl
  · rw [if_neg e, List.getElem?_eq_none (by simpa using e)]; rfl
theorem rwTo_set {m i j : Nat} {b : Bool} {T : Nat → Nat → Bool} (hj : j < m) (hb : b = T i j) : (rwTo m T i j).set j b = rwTo m T i (j + 1) := by
  refine List.ext_getElem? fun q => ?_
  rw [List.getElem?_set]
  unfold rwTo
  by_cases e : j = q
  · subst e
    rw [if_pos rfl, if_pos (by simpa using hj), List.getElem?_map, List.getElem?_range hj]
    simp [hb]
  · rw [if_neg e, List.getElem?_map, List.getElem?_map]
    by_cases hq : q < m
    · rw [List.getElem?_range hq]
      simp only [Option.map_some]
      by_cases z : q < j
      · rw [if_pos z, if_pos (by omega)]
      · rw [if_neg z, if_neg (by omega)]
    · rw [List.getElem?_eq_none (by simpa using hq)]; rfl
theorem rwTo_all {m i : Nat} {T : Nat → Nat → Bool} : rwTo m T i m = bRow m T i := by
  unfold rwTo bRow
  exact List.map_congr_left fun q hq => if_pos (List.mem_range.1 hq)
theorem to_app {m i : Nat} {T : Nat → Nat → Bool} : (List.range (i + 1)).map (bRow m T) = (List.range i).map (bRow m T) ++ [bRow m T i] := by rw [List.range_succ, List.map_append]; rfl
theorem St.evIn {β : Bs} {L : List Res} {w : World} {l : List EvR} {e : EvR} (h : St β (e.fR :: e.tR :: bagD (l.map EvR.fR) :: bagD (l.map EvR.tR) :: L) w) : St β (bagD ((l ++ [e]).map EvR.fR) :: bagD ((l ++ [e]).map EvR.tR) :: L) w := by
  rw [List.map_append, List.map_append]
  have h1 := St.bagDIn (rs := [e.fR]) (Rs := l.map EvR.fR) (L := e.tR :: bagD (l.map EvR.tR) :: L) (h.perm (.cons _ (.swap _ _ _)))
  have h2 := St.bagDIn (rs := [e.tR]) (Rs := l.map EvR.tR) (L := bagD (l.map EvR.fR ++ [e.fR]) :: L) (h1.perm ((List.Perm.swap _ _ _).trans (.cons _ (.swap _ _ _))))
  exact h2.perm (.swap _ _ _)
theorem evf_lt {κ : Nat → Bool × Int} {n m k : Nat} : (∀ i, i ∈ (evF κ n (n + m) k).f → i < n) ∧ ∀ j, j ∈ (evF κ n (n + m) k).t → j < m := by
  unfold evF
  refine ⟨fun i hi => ?_, fun j hj => ?_⟩
  · have := List.mem_range.1 (List.mem_filter.1 hi).1; omega
  · have := List.mem_range.1 (List.mem_filter.1 hj).1; omega
theorem evf_len {κ : Nat → Bool × Int} {n m k : Nat} : (evF κ n (n + m) k).f.length ≤ n ∧ (evF κ n (n + m) k).t.length ≤ m := by
  unfold evF
  exact ⟨Nat.le_trans (List.length_filter_le _ _) (by simp), Nat.le_trans (List.length_filter_le _ _) (by simp)⟩
theorem al_f {n i x : Nat} {f t : List Nat} (h : f[i]? = some x) : (f ++ t.map (n + ·))[i]? = some x := by
  rw [List.getElem?_append_left (List.getElem?_eq_some_iff.1 h).1]; exact h
theorem al_t {n i x : Nat} {f t : List Nat} (h : t[i]? = some x) : (f ++ t.map (n + ·))[f.length + i]? = some (n + x) := by
  rw [List.getElem?_append_right (by omega), show f.length + i - f.length = i by omega, List.getElem?_map, h]; rfl
theorem seen_end {κ : Nat → Bool × Int} {n m k : Nat} {f t : List Nat} (h : isFirst κ k = true) (hf : f = (evF κ n (n + m) k).f) (ht : t = (evF κ n (n + m) k).t) : seenB κ n m k (f ++ t.map (n + ·)) (f.length + t.length) = seenB κ n m (k + 1) [] 0 ∧ evsTo κ n m (k + 1) = evsTo κ n m k ++ [⟨kindM f.length t.length, f, t⟩] := by
  have z := seen_new (n := n) (m := m) h (l := evAll n (evF κ n (n + m) k)) fun t ht => evAll_mem ht
  have e : evAll n (evF κ n (n + m) k) = f ++ t.map (n + ·) := by rw [hf, ht]; rfl
  have hl : (f ++ t.map (n + ·)).length = f.length + t.length := by rw [List.length_append, List.length_map]
  rw [e, hl] at z
  refine ⟨z.1, z.2.trans ?_⟩
  unfold kdM
  rw [← hf, ← ht]

set_option maxRecDepth 20000 in
set_option maxHeartbeats 16000000 in
theorem rEvents_c (g : Grid) (la lb : List AreaR) (pa : Option Addr) (ca : Nat) (pb_ : Option Addr) (cb : Nat) (r : Nat) (T : Nat → Nat → Bool) (J : Bool × Int → Bool × Int → Prop) (ld : Bool × Int → Bool × Int) (w : World) (hg : gridOk g) (ha : AL w pa la) (hb : AL w pb_ lb) (hA : ALB la) (hB : ALB lb) (hAn : ∀ a, a ∈ la → ∀ p, p ∈ a.px.l → p < gW g * gH g) (hBn : ∀ a, a ∈ lb → ∀ p, p ∈ a.px.l → p < gW g * gH g) (hT : ∀ (i j : Nat) a b, la[i]? = some a → lb[j]? = some b → touB (gW g) r a.px.l b.px.l = T i j) (hJ : TJ la.length lb.length T J ld) :
  Calls Try.prog 80 #[gridV g, .slice pa la.length ca, .slice pb_ lb.length cb, .int .i64 (r : Int)] w fun e w' => ∃ y : EvY, y.l.map EvR.m = evsM (kap ld la.length) la.length lb.length ∧ e = .returned (.slice y.p y.l.length y.c) ∧ St (bs w) [own 157 3 y.p y.c (y.l.map EvR.cells), bagD (y.l.map EvR.fR), bagD (y.l.map EvR.tR)] w' := by
  have hal := hA.n
  have hbl := hB.n
  refine enter (vs := [_,_,_,_]) (env := [(0,_), (1,_), (2,_), (3,_)]) Try.func80 rfl rfl rfl rfl ?_
  refine VC.seq ?_
  refine VC.reg (VO.h rfl<|HO.box (C := #[_,_,_,_,_]) rfl rfl fun b1 => VO.l (LO.as (.r rfl)) rfl<|VO.nil ?_)
  refine VE.seqN ?_
  refine VC.seq ?_
  refine VC.reg (VO.l (LO.mv (.r rfl)) rfl<|VO.l (LO.len S33 (.r rfl) rfl) rfl<|VO.l (LO.mv (.r rfl)) rfl<|VO.l (LO.len S33 (.r rfl) rfl) rfl<|VO.l (LO.as (.r rfl)) rfl<|VO.l (LO.as (.r rfl)) rfl<|VO.nil ?_)
  refine VE.seqN ?_
  refine VC.seq ?_
  refine VC.reg (VO.l (LO.as (.r rfl)) rfl<|VO.nil ?_)
  refine VE.seqN ?_
  refine VC.seq ?_
  refine VC.seq ?_
  refine VC.reg (VO.l (LO.as (.r rfl)) rfl<|VO.nil ?_)
  refine VE.seqN ?_
  refine VC.block ?_
  refine VC.loopK (α := Nat × (List (RowA Bool)) × (Option Addr) × Nat) 0 (fun gx => [(11, .slice gx.2.2.1 gx.2.1.length gx.2.2.2), (12, .int .i64 (gx.1 : Nat))]) [(1,_), (2,_), (3,_), (4,_), (9,_), (10,_)] (fun gx => [own 142 1 gx.2.2.1 gx.2.2.2 (gx.2.1.map rowC), bagR 4 1 bC gx.2.1]) (fun gx => gx.1 ≤ la.length ∧ gx.2.1.map RowA.l = (List.range gx.1).map (bRow lb.length T)) (fun gx => la.length - gx.1) (0, [], none, 0) (by exact ⟨Nat.zero_le _, rfl⟩) (.cons rfl (.cons rfl (.cons rfl (.cons rfl (.cons rfl (.cons rfl (.cons rfl (.cons rfl .nil)))))))) (fun _ h => ((h.bagRNil 4 1 bC).ownNil 142 1)) ?_
  rintro ⟨i, rs, pr, cr⟩ ⟨hi, hrs⟩
  show VC _ _ _ _ _ ([(11, .slice pr rs.length cr), (12, .int .i64 (i : Nat))] ++ _) ([own 142 1 pr cr (rs.map rowC), bagR 4 1 bC rs] ++ _) _ _
  dsimp only at hi hrs
  have hrl := congrArg List.length hrs
  rw [List.length_map, List.length_map, List.length_range] at hrl
  refine VC.seq ?_
  refine VC.seq ?_
  refine VC.reg (VO.l (LO.mv (.r rfl)) rfl<|VO.l (LO.mv (.r rfl)) rfl<|VO.l (LO.lt (.r rfl) (.r rfl)) rfl<|VO.nil ?_)
  refine VE.seqN ?_
  refine VC.cond rfl (fun h27 => ?_) (fun h27 => ?_)
  ·
    refine VC.skip (VE.seqN ?_)
    refine VC.seq ?_
    refine VC.block ?_
    refine VC.seq ?_
    refine VC.reg (VO.l (LO.mv (.r rfl)) rfl<|VO.h rfl<|HO.mksM (f := bC) (z0 := false) (n := lb.length) rfl S142 I4 (.r rfl) (.r rfl) rfl (by decide) (by omega) (by omega) fun b4 => VO.h rfl<|HO.lo (LO.as (.r rfl))<|VO.nil ?_)
    rw [show List.replicate lb.length false = rwTo lb.length T i 0 from rwTo_zero]
    refine VE.seqN ?_
    refine VC.seq ?_
    refine VC.seq ?_
    refine VC.reg (VO.l (LO.as (.r rfl)) rfl<|VO.nil ?_)
    refine VE.seqN ?_
    refine VC.block ?_
    refine VC.loopK (α := Nat) 1 (fun gx => [(14, .int .i64 (gx : Nat))]) [(1,_), (2,_), (3,_), (4,_), (9,_), (10,_), (11,_), (12,_), (13,_)] (fun gx => [own 4 1 (some ⟨b4,0, none⟩) lb.length ((rwTo lb.length T i gx).map bC)]) (fun gx => gx ≤ lb.length) (fun gx => lb.length - gx) 0 (by exact Nat.zero_le _) (.cons rfl (.cons rfl (.cons rfl (.cons rfl (.cons rfl (.cons rfl (.cons rfl (.cons rfl (.cons rfl (.cons rfl .nil)))))))))) (fun _ h => h) ?_
    rintro j hj
    refine VC.seq ?_
    refine VC.seq ?_
    refine VC.reg (VO.l (LO.mv (.r rfl)) rfl<|VO.l (LO.mv (.r rfl)) rfl<|VO.l (LO.lt (.r rfl) (.r rfl)) rfl<|VO.nil ?_)
    refine VE.seqN ?_
    refine VC.cond rfl (fun h34 => ?_) (fun h34 => ?_)
    ·
      obtain ⟨aa, hai⟩ := get_ex (l := la) (n := i) (by omega)
      obtain ⟨bb, hbj⟩ := get_ex (l := lb) (n := j) (by omega)
      refine VC.skip (VE.seqN ?_)
      refine VC.seq ?_
      refine VC.block ?_
      refine VC.drawH [[0,1,2,3], [1,2,3]] [some 0, some 0, some 0, some 0, some 0, some 0, some 0, some 0, some 0, some 0, some 0, some 0, some 0, some 0, none] mixed (by kernel_rfl) rfl (LX.l (fun _ hJ => LO.mv (.r rfl)) rfl<|LX.l (fun _ hJ => LO.mv (.r rfl)) rfl<|LX.l (fun _ hJ => LO.lda (vs := [_,_,_,_,_]) A23 (.r rfl) (fun _ hw => cells_at (hJ _ hw) 3 rfl ⟨_, rfl⟩) rfl) rfl<|LX.l (fun _ hJ => LO.mv (.r rfl)) rfl<|LX.l (fun _ hJ => LO.mv (.r rfl)) rfl<|LX.l (fun _ hJ => LO.ixs S33 N135 ha.ar.sm (.r rfl) (.r rfl) rfl (by omega)) rfl<|LX.l (fun _ hJ => LO.lda (vs := [_,_,_,_,_,_,_,_]) A135 (.r rfl) (fun w hw => cells_part (off := 0) ((fun w3 h3 => RO.cel (ha.ar.keep w3 h3) hai) w (hJ _ hw)) ⟨_, rfl⟩) rfl) rfl<|LX.l (fun _ hJ => LO.mv (.r rfl)) rfl<|LX.l (fun _ hJ => LO.mv (.r rfl)) rfl<|LX.l (fun _ hJ => LO.ixs S33 N135 hb.ar.sm (.r rfl) (.r rfl) rfl (by omega)) rfl<|LX.l (fun _ hJ => LO.lda (vs := [_,_,_,_,_,_,_,_]) A135 (.r rfl) (fun w hw => cells_part (off := 0) ((fun w3 h3 => RO.cel (hb.ar.keep w3 h3) hbj) w (hJ _ hw)) ⟨_, rfl⟩) rfl) rfl<|LX.l (fun _ hJ => LO.mv (.r rfl)) rfl<|LX.l (fun _ hJ => LO.call (xs := [_,_,_,_]) (vs := [_,_,_,_]) C114 ⟨(.r rfl), (.r rfl), (.r rfl), (.r rfl), trivial⟩ (fun w2 hw => rTouch_c g aa bb r w2 hg ((ha.px aa (List.mem_of_getElem? hai)).keep w2 hw) ((hb.px bb (List.mem_of_getElem? hbj)).keep w2 hw) (hAn aa (List.mem_of_getElem? hai)) (hBn bb (List.mem_of_getElem? hbj)) (hA.px aa (List.mem_of_getElem? hai)) (hB.px bb (List.mem_of_getElem? hbj)))) rfl<|LX.l (fun _ hJ => LO.ixo S142 N4 (fun _ hw => (own_rows (hJ _ hw) 0 rfl).some (by rw [List.length_map, rwTo_len])) (.r rfl) (.r rfl) rfl (by omega)) rfl<|LX.s<|LX.nil) (HX.s<|HX.s<|HX.s<|HX.s<|HX.s<|HX.s<|HX.s<|HX.s<|HX.s<|HX.s<|HX.s<|HX.s<|HX.s<|HX.s<|HX.h0<|HO.stm 0 (fun R => [R,_,_,_]) ((touB (gW g) r aa.px.l bb.px.l)) (vs := [_]) N4 (.r rfl) (.r rfl) rfl (by rw [rwTo_len]; omega) rfl rfl rfl rfl rfl (fun _ => rfl)<|⟨fun _ hw => hw.sel [1,2,3] rfl, HX.nil ?_⟩)
      rw [rwTo_set (by omega) (hT i j aa bb hai hbj)]
      refine VE.inN (VE.seqN ?_)
      refine VC.reg (VO.l (LO.mv (.r rfl)) rfl<|VO.l (LO.add (.r rfl) (.r rfl) (wi (by omega) (by omega))) rfl<|VO.l (LO.as (.r rfl)) rfl<|VO.nil ?_)
      refine VE.thenN fun a w ha hw => ⟨j + 1, (by omega), (by omega), ha.sub (.cons rfl (.cons rfl (.cons rfl (.cons rfl (.cons rfl (.cons rfl (.cons rfl (.cons rfl (.cons rfl (.cons rfl .nil)))))))))), hw⟩
    ·
      have hje : j = lb.length := by omega
      subst hje
      rw [rwTo_all]
      refine VC.exit (VE.thenX (VE.thenX (VE.inX (VE.seqN ?_))))
      refine VC.reg (VO.l (LO.mv (.r rfl)) rfl<|VO.l (LO.eqv (LO.mv (.r rfl)) (show Value.slice (some ⟨b4,0, none⟩) lb.length lb.length = Value.slice (some ⟨b4,0, none⟩) (bRow lb.length T i).length lb.length from by rw [bRow_len])) rfl<|VO.h rfl<|HO.bs (ps := [(_,_)]) (vs := [(_,_)]) (Z := [_]) (C := [_]) S196 Z142 N142 ⟨(.r rfl), trivial⟩ rfl rfl rfl rfl ⟨_, [_], [_], rfl, rfl, rfl, rfl, rfl⟩ fun b5 => VO.h rfl<|HO.appT ((⟨some ⟨b4,0, none⟩, lb.length, bRow lb.length T i⟩ : RowA Bool)) 2 0 (fun R => [_,_, R,_,_]) S196 S196 I142 (.r rfl) (.r rfl) rfl rfl rfl rfl rfl rfl rfl (fun _ => rfl) rfl (by omega) fun p3 c3 => VO.h rfl<|HO.lo (LO.as (.r rfl))<|VO.nil ?_)
      refine VE.inN (VE.seqN ?_)
      refine VC.reg (VO.l (LO.mv (.r rfl)) rfl<|VO.l (LO.add (.r rfl) (.r rfl) (wi (by omega) (by omega))) rfl<|VO.l (LO.as (.r rfl)) rfl<|VO.nil ?_)
      refine VE.thenN fun a w ha hw => ⟨(i + 1, rs ++ [(⟨some ⟨b4,0, none⟩, lb.length, bRow lb.length T i⟩ : RowA Bool)], p3, c3), ⟨by dsimp only; omega, by dsimp only; rw [List.map_append, hrs, to_app]; rfl⟩, (by dsimp only; omega), ha.sub (.cons rfl (.cons rfl (.cons rfl (.cons rfl (.cons rfl (.cons rfl (.cons rfl (.cons rfl .nil)))))))), (by exact selK (L1 := [_,_,_]) [2,0,3] rfl rfl _ (St.bagRIn (E := 4) (z := 1) (f := bC) (x := (⟨some ⟨b4,0, none⟩, lb.length, bRow lb.length T i⟩ : RowA Bool)) (selK (L1 := [_,_,_,_,_]) [1,3,0,2,4] rfl rfl _ hw)))⟩
  ·
    have hie : i = la.length := by omega
    subst hie
    refine VC.exit (VE.thenX (VE.thenX (VE.inX (VE.seqN ?_))))
    refine VC.seq ?_
    refine VC.rebase fun w1 hst1 => ?_
    have hto : ToI w1 la.length lb.length T pr rs := ⟨RR.of_own hst1 0 1 rfl rfl, hrs⟩
    refine VC.reg (VO.l (LO.as (.r rfl)) rfl<|VO.nil ?_)
    refine VE.seqN ?_
    refine VC.seq ?_
    refine VC.reg (VO.l (LO.mv (.r rfl)) rfl<|VO.l (LO.mv (.r rfl)) rfl<|VO.l (LO.eqv (LO.add (.r rfl) (.r rfl) (wi (by omega) (by omega))) (congrArg (Value.int .i64) (Int.natCast_add _ _).symm)) rfl<|VO.h rfl<|HO.mksM (f := bC) (z0 := false) (n := (la.length + lb.length)) rfl S142 I4 (.r rfl) (.r rfl) rfl (by decide) (by omega) (by omega) fun b6 => VO.h rfl<|HO.lo (LO.as (.r rfl))<|VO.nil ?_)
    rw [show List.replicate (la.length + lb.length) false = seenB (kap ld la.length) la.length lb.length 0 [] 0 from seen_zero]
    refine VE.seqN ?_
    refine VC.seq ?_
    refine VC.seq ?_
    refine VC.reg (VO.l (LO.as (.r rfl)) rfl<|VO.nil ?_)
    refine VE.seqN ?_
    refine VC.block ?_
    refine VC.loopK (α := Nat × (List EvR) × (Option Addr) × Nat) 1 (fun gx => [(15, .slice gx.2.2.1 gx.2.1.length gx.2.2.2), (17, .int .i64 (gx.1 : Nat))]) [(9,_), (10,_), (11,_), (16,_)] (fun gx => [own 4 1 (some ⟨b6,0, none⟩) (la.length + lb.length) ((seenB (kap ld la.length) la.length lb.length gx.1 [] 0).map bC), own 157 3 gx.2.2.1 gx.2.2.2 (gx.2.1.map EvR.cells), bagD (gx.2.1.map EvR.fR), bagD (gx.2.1.map EvR.tR)]) (fun gx => gx.1 ≤ la.length + lb.length ∧ gx.2.1.map EvR.m = evsTo (kap ld la.length) la.length lb.length gx.1) (fun gx => la.length + lb.length - gx.1) (0, [], none, 0) (by exact ⟨Nat.zero_le _, by rw [evsTo_zero]; rfl⟩) (.cons rfl (.cons rfl (.cons rfl (.cons rfl (.cons rfl (.cons rfl .nil)))))) (fun _ h => (((St.bagD (Rs := []) (St.bagD (Rs := []) h)).ownNil 157 3)).sel [3,0,1,2] rfl) ?_
    rintro ⟨k, l, pe, ce⟩ ⟨hk, hl⟩
    show VC _ _ _ _ _ ([(15, .slice pe l.length ce), (17, .int .i64 (k : Nat))] ++ _) ([own 4 1 (some ⟨b6,0, none⟩) (la.length + lb.length) ((seenB (kap ld la.length) la.length lb.length k [] 0).map bC), own 157 3 pe ce (l.map EvR.cells), bagD (l.map EvR.fR), bagD (l.map EvR.tR)] ++ _) _ _
    dsimp only at hk hl
    have hll := evsTo_len (κ := kap ld la.length) (n := la.length) (m := lb.length) (k := k)
    rw [← hl, List.length_map] at hll
    refine VC.seq ?_
    refine VC.seq ?_
    refine VC.reg (VO.l (LO.mv (.r rfl)) rfl<|VO.l (LO.mv (.r rfl)) rfl<|VO.l (LO.mv (.r rfl)) rfl<|VO.l (LO.add (.r rfl) (.r rfl) (wi (by omega) (by omega))) rfl<|VO.l (LO.lt (.r rfl) (.r rfl)) rfl<|VO.nil ?_)
    refine VE.seqN ?_
    refine VC.cond rfl (fun h63 => ?_) (fun h63 => ?_)
    ·
      refine VC.skip (VE.seqN ?_)
      refine VC.seq ?_
      refine VC.block ?_
      refine VC.seq ?_
      refine VC.seq ?_
      refine VC.reg (VO.l (LO.mv (.r rfl)) rfl<|VO.l (LO.mv (.r rfl)) rfl<|VO.l (LO.ixo S142 N4 (fun _ hw => (own_rows hw 0 rfl).some (by rw [List.length_map]; unfold seenB; rw [setB_len])) (.r rfl) (.r rfl) rfl (by omega)) rfl<|VO.l (LO.ld O4 (.r rfl) (fun w hw => cells_part (off := 0) (own_cell hw 0 rfl (getB (n := k) (by unfold seenB; rw [setB_len]; omega))) ⟨_, rfl⟩)) rfl<|VO.nil ?_)
      refine VE.seqN ?_
      refine VC.cond rfl (fun h69 => ?_) (fun h69 => ?_)
      ·
        have hnf : isFirst (kap ld la.length) k = false := by rw [seen_at (by omega)] at h69; simpa using h69
        have hold := seen_old (n := la.length) (m := lb.length) hnf
        refine VC.exit (VE.thenX (VE.inX (VE.seqN ?_)))
        refine VC.reg (VO.l (LO.mv (.r rfl)) rfl<|VO.l (LO.add (.r rfl) (.r rfl) (wi (by omega) (by omega))) rfl<|VO.l (LO.as (.r rfl)) rfl<|VO.nil ?_)
        rw [← hold.1]
        refine VE.thenN fun a w ha hw => ⟨(k + 1, l, pe, ce), ⟨by dsimp only; omega, by dsimp only; rw [hold.2]; exact hl⟩, (by dsimp only; omega), ha.sub (.cons rfl (.cons rfl (.cons rfl (.cons rfl (.cons rfl (.cons rfl .nil)))))), (by exact selK (L1 := [_,_,_,_]) [0,1,2,3] rfl rfl _ hw)⟩
      ·
        have hif_ : isFirst (kap ld la.length) k = true := by rw [seen_at (by omega)] at h69; simpa using h69
        refine VC.skip (VE.seqN ?_)
        refine VC.seq ?_
        refine VC.reg (VO.l (LO.mv (.r rfl)) rfl<|VO.l (LO.mv (.r rfl)) rfl<|VO.l (LO.mv (.r rfl)) rfl<|VO.l (LO.mv (.r rfl)) rfl<|VO.h rfl<|HO.callx (xs := [_,_,_,_]) (vs := [_,_,_,_]) C115 ⟨(.r rfl), (.r rfl), (.r rfl), (.r rfl), trivial⟩ (fun w2 hw => rEvent_c la.length lb.length k T J ld pr cr rs w2 (hto.keep w2 hw) hJ (by omega) (by omega)) fun y hy => VO.h rfl<|HO.alloc (C := #[_,_,_]) Z157 rfl fun b12 => VO.h0<|HO.st 0 (vs := [_,_,_]) (C' := [_,_,_]) (L' := [_,_,_,_,_,_,_]) N157 rfl rfl rfl rfl rfl rfl rfl rfl<|VO.nil ?_)
        obtain ⟨hyf, hyt⟩ := hy
        have hfl := evf_len (κ := kap ld la.length) (n := la.length) (m := lb.length) (k := k)
        rw [← hyf, ← hyt] at hfl
        rw [seen_start (l := (y.f ++ y.t.map (la.length + ·)))]
        refine VE.seqN ?_
        refine VC.seq ?_
        refine VC.seq ?_
        refine VC.reg (VO.l (LO.as (.r rfl)) rfl<|VO.nil ?_)
        refine VE.seqN ?_
        refine VC.block ?_
        refine VC.perm [3,0,1,2,4,5,6] rfl ?_
        refine VC.loopK (α := Nat) 1 (fun gx => [(19, .int .i64 (gx : Nat))]) [(9,_), (10,_), (11,_), (15,_), (16,_), (17,_), (18,_)] (fun gx => [own 4 1 (some ⟨b6,0, none⟩) (la.length + lb.length) ((seenB (kap ld la.length) la.length lb.length k (y.f ++ y.t.map (la.length + ·)) gx).map bC)]) (fun gx => gx ≤ y.f.length) (fun gx => y.f.length - gx) 0 (by exact Nat.zero_le _) (.cons rfl (.cons rfl (.cons rfl (.cons rfl (.cons rfl (.cons rfl (.cons rfl (.cons rfl .nil)))))))) (fun _ h => h) ?_
        rintro i hif
        refine VC.seq ?_
        refine VC.seq ?_
        refine VC.reg (VO.l (LO.mv (.r rfl)) rfl<|VO.l (LO.fa (r := 1) F157_1 (.r rfl) rfl) rfl<|VO.l (LO.ld O40 (.r rfl) (fun _ hw => cells_at hw 1 rfl ⟨_, rfl⟩)) rfl<|VO.l (LO.len S40 (.r rfl) rfl) rfl<|VO.l (LO.lt (.r rfl) (.r rfl)) rfl<|VO.nil ?_)
        refine VE.seqN ?_
        refine VC.cond rfl (fun h79 => ?_) (fun h79 => ?_)
        ·
          obtain ⟨x, hxf⟩ := get_ex (l := y.f) (n := i) (by omega)
          have hxl := (evf_lt (κ := kap ld la.length) (n := la.length) (m := lb.length) (k := k)).1 x (by rw [← hyf]; exact List.mem_of_getElem? hxf)
          refine VC.skip (VE.seqN ?_)
          refine VC.seq ?_
          refine VC.block ?_
          refine VC.reg (VO.l (LO.mv (.r rfl)) rfl<|VO.l (LO.fa (r := 1) F157_1 (.r rfl) rfl) rfl<|VO.l (LO.ld O40 (.r rfl) (fun _ hw => cells_at hw 1 rfl ⟨_, rfl⟩)) rfl<|VO.l (LO.mv (.r rfl)) rfl<|VO.l (LO.ixo S40 N3 (fun _ hw => (own_rows hw 2 rfl).some (by rw [List.length_map])) (.r rfl) (.r rfl) rfl (by omega)) rfl<|VO.l (LO.ld O3 (.r rfl) (fun w hw => cells_part (off := 0) (own_cell hw 2 rfl hxf) ⟨_, rfl⟩)) rfl<|VO.l (LO.ixo S142 N4 (fun _ hw => (own_rows hw 0 rfl).some (by rw [List.length_map]; unfold seenB; rw [setB_len])) (.r rfl) (.r rfl) rfl (by omega)) rfl<|VO.h0<|HO.stm 0 (fun R => [R,_,_,_,_,_,_]) (true) (vs := [_]) N4 (.r rfl) (.r rfl) rfl (by unfold seenB; rw [setB_len]; omega) rfl rfl rfl rfl rfl (fun _ => rfl)<|VO.nil ?_)
          rw [seen_step (al_f hxf) (by omega)]
          refine VE.inN (VE.seqN ?_)
          refine VC.reg (VO.l (LO.mv (.r rfl)) rfl<|VO.l (LO.add (.r rfl) (.r rfl) (wi (by omega) (by omega))) rfl<|VO.l (LO.as (.r rfl)) rfl<|VO.nil ?_)
          refine VE.thenN fun a w ha hw => ⟨i + 1, (by omega), (by omega), ha.sub (.cons rfl (.cons rfl (.cons rfl (.cons rfl (.cons rfl (.cons rfl (.cons rfl (.cons rfl .nil)))))))), hw⟩
        ·
          have hie : i = y.f.length := by omega
          subst hie
          refine VC.exit (VE.thenX (VE.thenX (VE.inX (VE.seqN ?_))))
          refine VC.seq ?_
          refine VC.seq ?_
          refine VC.reg (VO.l (LO.as (.r rfl)) rfl<|VO.nil ?_)
          refine VE.seqN ?_
          refine VC.block ?_
          refine VC.loopK (α := Nat) 1 (fun gx => [(20, .int .i64 (gx : Nat))]) [(9,_), (10,_), (11,_), (15,_), (16,_), (17,_), (18,_)] (fun gx => [own 4 1 (some ⟨b6,0, none⟩) (la.length + lb.length) ((seenB (kap ld la.length) la.length lb.length k (y.f ++ y.t.map (la.length + ·)) (y.f.length + gx)).map bC)]) (fun gx => gx ≤ y.t.length) (fun gx => y.t.length - gx) 0 (by exact Nat.zero_le _) (.cons rfl (.cons rfl (.cons rfl (.cons rfl (.cons rfl (.cons rfl (.cons rfl (.cons rfl .nil)))))))) (fun _ h => h) ?_
          rintro i hit
          refine VC.seq ?_
          refine VC.seq ?_
          refine VC.reg (VO.l (LO.mv (.r rfl)) rfl<|VO.l (LO.fa (r := 2) F157_2 (.r rfl) rfl) rfl<|VO.l (LO.ld O40 (.r rfl) (fun _ hw => cells_at hw 1 rfl ⟨_, rfl⟩)) rfl<|VO.l (LO.len S40 (.r rfl) rfl) rfl<|VO.l (LO.lt (.r rfl) (.r rfl)) rfl<|VO.nil ?_)
          refine VE.seqN ?_
          refine VC.cond rfl (fun h93 => ?_) (fun h93 => ?_)
          ·
            obtain ⟨x, hxt⟩ := get_ex (l := y.t) (n := i) (by omega)
            have hxl := (evf_lt (κ := kap ld la.length) (n := la.length) (m := lb.length) (k := k)).2 x (by rw [← hyt]; exact List.mem_of_getElem? hxt)
            refine VC.skip (VE.seqN ?_)
            refine VC.seq ?_
            refine VC.block ?_
            refine VC.reg (VO.l (LO.mv (.r rfl)) rfl<|VO.l (LO.mv (.r rfl)) rfl<|VO.l (LO.fa (r := 2) F157_2 (.r rfl) rfl) rfl<|VO.l (LO.ld O40 (.r rfl) (fun _ hw => cells_at hw 1 rfl ⟨_, rfl⟩)) rfl<|VO.l (LO.mv (.r rfl)) rfl<|VO.l (LO.ixo S40 N3 (fun _ hw => (own_rows hw 3 rfl).some (by rw [List.length_map])) (.r rfl) (.r rfl) rfl (by omega)) rfl<|VO.l (LO.ld O3 (.r rfl) (fun w hw => cells_part (off := 0) (own_cell hw 3 rfl hxt) ⟨_, rfl⟩)) rfl<|VO.l (LO.eqv (LO.add (.r rfl) (.r rfl) (wi (by omega) (by omega))) (congrArg (Value.int .i64) (Int.natCast_add _ _).symm)) rfl<|VO.l (LO.ixo S142 N4 (fun _ hw => (own_rows hw 0 rfl).some (by rw [List.length_map]; unfold seenB; rw [setB_len])) (.r rfl) (.r rfl) rfl (by omega)) rfl<|VO.h0<|HO.stm 0 (fun R => [R,_,_,_,_,_,_]) (true) (vs := [_]) N4 (.r rfl) (.r rfl) rfl (by unfold seenB; rw [setB_len]; omega) rfl rfl rfl rfl rfl (fun _ => rfl)<|VO.nil ?_)
            rw [seen_step (al_t hxt) (by omega)]
            refine VE.inN (VE.seqN ?_)
            refine VC.reg (VO.l (LO.mv (.r rfl)) rfl<|VO.l (LO.add (.r rfl) (.r rfl) (wi (by omega) (by omega))) rfl<|VO.l (LO.as (.r rfl)) rfl<|VO.nil ?_)
            refine VE.thenN fun a w ha hw => ⟨i + 1, (by omega), (by omega), ha.sub (.cons rfl (.cons rfl (.cons rfl (.cons rfl (.cons rfl (.cons rfl (.cons rfl (.cons rfl .nil)))))))), hw⟩
          ·
            have hie : i = y.t.length := by omega
            subst hie
            have hend := seen_end (n := la.length) (m := lb.length) hif_ hyf hyt
            refine VC.exit (VE.thenX (VE.thenX (VE.inX (VE.seqN ?_))))
            refine VC.reg (VO.l (LO.mv (.r rfl)) rfl<|VO.l (LO.lda (vs := [_,_,_]) A157 (.r rfl) (fun _ hw => cells_at hw 1 rfl ⟨_, rfl⟩) rfl) rfl<|VO.h rfl<|HO.bs (ps := [(_,_)]) (vs := [(_,_)]) (Z := [_,_,_]) (C := [_,_,_]) S49 Z157 N157 ⟨(.r rfl), trivial⟩ rfl rfl rfl rfl ⟨_, [_,_,_], [_,_,_], rfl, rfl, rfl, rfl, rfl⟩ fun b14 => VO.h rfl<|HO.appT ((⟨kindM y.f.length y.t.length, y.fp, y.fc, y.f, y.tp, y.tc, y.t⟩ : EvR)) 5 0 (fun R => [_,_,_,_,_, R,_,_]) S49 S49 I157 (.r rfl) (.r rfl) rfl rfl rfl rfl rfl rfl rfl (fun _ => rfl) rfl (by omega) fun p3 c3 => VO.h rfl<|HO.lo (LO.as (.r rfl))<|VO.nil ?_)
            refine VE.inN (VE.seqN ?_)
            refine VC.reg (VO.l (LO.mv (.r rfl)) rfl<|VO.l (LO.add (.r rfl) (.r rfl) (wi (by omega) (by omega))) rfl<|VO.l (LO.as (.r rfl)) rfl<|VO.nil ?_)
            rw [hend.1]
            refine VE.thenN fun a w ha hw => ⟨(k + 1, l ++ [(⟨kindM y.f.length y.t.length, y.fp, y.fc, y.f, y.tp, y.tc, y.t⟩ : EvR)], p3, c3), ⟨by dsimp only; omega, by dsimp only; rw [List.map_append, hl, hend.2]; rfl⟩, (by dsimp only; omega), ha.sub (.cons rfl (.cons rfl (.cons rfl (.cons rfl (.cons rfl (.cons rfl .nil)))))), (by exact selK (L1 := [_,_,_,_]) [3,5,0,1] rfl rfl _ (St.evIn (e := (⟨kindM y.f.length y.t.length, y.fp, y.fc, y.f, y.tp, y.tc, y.t⟩ : EvR)) (selK (L1 := [_,_,_,_,_,_,_,_]) [3,4,6,7,0,1,2,5] rfl rfl _ hw)))⟩
    ·
      have hke : k = la.length + lb.length := by omega
      subst hke
      refine VC.exit (VE.thenX (VE.thenX (VE.inX (VE.seqN ?_))))
      refine VC.seq ?_
      refine VC.reg (VO.l (LO.mv (.r rfl)) rfl<|VO.l (LO.as (.r rfl)) rfl<|VO.nil ?_)
      refine VE.seqN ?_
      refine VC.ret (VE.res (vs := [_]) rfl ⟨rfl, trivial⟩ (fun w hw => ?_))
      rw [evsTo_all] at hl
      have hf := hst1.call (selK (L1 := [_,_,_]) [1,2,3] rfl rfl _ hw)
      exact ⟨⟨l, pe, ce⟩, hl, rfl, selK [0,1,2] rfl rfl _ hf⟩

end Go.Proofs.Ytgemekpofpoopaa

namespace Go.Proofs.Ytgemekpofpoopaa
open Go.SL Go.Proofs Go.Cast Go.Cell
set_option linter.unusedVariables false



theorem ld_ex {α : Type} (J : α → α → Prop) : ∃ ld : α → α, ∀ a b, ld a = ld b ↔ Eqv J a b := by
  let s : Setoid α := ⟨Eqv J, ⟨fun x => .refl x, fun h => .symm h, fun h k => .trans h k⟩⟩
  have key : ∀ q : Quotient s, ∃ a, Quotient.mk s a = q := fun q => Quotient.exists_rep q
  let out : Quotient s → α := fun q => Classical.choose (key q)
  have hout : ∀ q, Quotient.mk s (out q) = q := fun q => Classical.choose_spec (key q)
  refine ⟨fun a => out (Quotient.mk s a), fun a b => ⟨fun h => ?_, fun h => ?_⟩⟩
  · have h : out (Quotient.mk s a) = out (Quotient.mk s b) := h
    have h1 := hout (Quotient.mk s a)
    rw [h, hout] at h1
    exact (Quotient.exact h1.symm : Eqv J a b)
  · have e : Quotient.mk s a = Quotient.mk s b := Quotient.sound h
    show out (Quotient.mk s a) = out (Quotient.mk s b)
    rw [e]
theorem da_i {W H : Nat} {vs : List Span} {lv : Int} {y : DaY} (h : DaP W H vs lv y) {i : Nat} {a : AreaR} (ha : y.l[i]? = some a) : (partsL W H (mayB vs lv))[i]? = some a.px.l := by rw [← da_px h, List.getElem?_map, ha]; rfl
theorem da_len {W H : Nat} {vs : List Span} {lv : Int} {y : DaY} (h : DaP W H vs lv y) : y.l.length = (partsL W H (mayB vs lv)).length := by rw [← da_px h, List.length_map]
theorem ofL_D {W H q : Nat} {S : Nat → Bool} (h : q < W * H) : (ofL W H S).getD q (-1) = idxL (partsL W H S) q := by rw [List.getD_eq_getElem?_getD, ofL_get h]; rfl
theorem of_mem {W H : Nat} {vs : List Span} {lv : Int} {y : DaY} (h : DaP W H vs lv y) {j : Nat} {b : AreaR} (hb : y.l[j]? = some b) : ∀ q, q < W * H → ((ofL W H (mayB vs lv)).getD q (-1) = (j : Int) ↔ q ∈ b.px.l) := fun q hq => by
  rw [ofL_D hq]
  constructor
  · intro e
    obtain ⟨i, l, h1, h2, h3⟩ := idx_of (q := q) (ls := partsL W H (mayB vs lv)) (by omega)
    have : i = j := by omega
    subst this
    rw [da_i h hb] at h1
    cases h1; exact h2
  · intro hm
    exact idx_at (parts_apart (Nat.le_refl _)) (da_i h hb) hm
theorem da_in {W H : Nat} {vs : List Span} {lv : Int} {y : DaY} (h : DaP W H vs lv y) : ∀ a, a ∈ y.l → ∀ p, p ∈ a.px.l → p < W * H := fun a ha p hp => by
  obtain ⟨i, hi⟩ := List.mem_iff_getElem?.1 ha
  exact (parts_cn (Nat.le_refl _) (List.mem_of_getElem? (da_i h hi)) hp).2.1
def tT (W r : Nat) (y z : DaY) (i j : Nat) : Bool := touB W r (y.l.getD i arZ).px.l (z.l.getD j arZ).px.l
theorem tT_eq {W r : Nat} {y z : DaY} {i j : Nat} {a b : AreaR} (ha : y.l[i]? = some a) (hb : z.l[j]? = some b) : touB W r a.px.l b.px.l = tT W r y z i j := by
  unfold tT
  rw [List.getD_eq_getElem?_getD, ha, List.getD_eq_getElem?_getD, hb]; rfl
theorem nr_iff {W r p q : Nat} : nrB W r p q = true ↔ (q / W ≤ p / W + r ∧ p / W ≤ q / W + r) ∧ q % W ≤ p % W + r ∧ p % W ≤ q % W + r := by
  unfold nrB; rw [decide_eq_true_eq]; omega
theorem tj_doc {W H r : Nat} {lv : Int} {v1 v2 : List Span} {y z : DaY} {ld : Bool × Int → Bool × Int} (h1 : DaP W H v1 lv y) (h2 : DaP W H v2 lv z) (hld : ∀ a b, ld a = ld b ↔ Eqv (Jal W H r (ofL W H (mayB v1 lv)) (ofL W H (mayB v2 lv))) a b) : TJ y.l.length z.l.length (tT W r y z) (Jal W H r (ofL W H (mayB v1 lv)) (ofL W H (mayB v2 lv))) ld where
  eq := hld
  to := fun a b hJ => by
    obtain ⟨p, v, u, hp⟩ := hJ.ex
    have hpl := hp.hp
    obtain ⟨_,_, hv⟩ := hp.hv
    obtain ⟨_,_, hu⟩ := hp.hu
    have hq : v * W + u < W * H := by rw [Nat.mul_comm v W]; exact pix_lt hu hv
    obtain ⟨ea, ha⟩ := hp.ha
    obtain ⟨eb, hb⟩ := hp.hb
    rw [ofL_D hpl] at ea ha
    rw [ofL_D hq] at eb hb
    obtain ⟨i, l, i1, i2, i3⟩ := idx_of ha
    obtain ⟨j, m, j1, j2, j3⟩ := idx_of hb
    have hi : i < y.l.length := by rw [da_len h1]; exact (List.getElem?_eq_some_iff.1 i1).1
    have hj : j < z.l.length := by rw [da_len h2]; exact (List.getElem?_eq_some_iff.1 j1).1
    obtain ⟨x1, hx1⟩ := get_ex hi
    obtain ⟨x2, hx2⟩ := get_ex hj
    have e1 := da_i h1 hx1
    have e2 := da_i h2 hx2
    rw [i1] at e1
    rw [j1] at e2
    have e1 := Option.some.inj e1
    have e2 := Option.some.inj e2
    refine ⟨i, j, hi, hj, by rw [ea, i3], by rw [eb, j3], ?_⟩
    rw [← tT_eq hx1 hx2, ← e1, ← e2]
    have hd := dm_eq (W := W) (p := v * W + u) (a := v) (b := u) (by rw [Nat.mul_comm]) hu
    refine List.any_eq_true.2 ⟨p, i2, List.any_eq_true.2 ⟨_, j2, nr_iff.2 ?_⟩⟩
    rw [hd.1, hd.2]
    exact ⟨⟨hp.hv.1, hp.hv.2.1⟩, hp.hu.1, hp.hu.2.1⟩
  of := fun i j hi hj ht => by
    obtain ⟨x1, hx1⟩ := get_ex hi
    obtain ⟨x2, hx2⟩ := get_ex hj
    rw [← tT_eq hx1 hx2] at ht
    obtain ⟨p, hp, ht⟩ := List.any_eq_true.1 ht
    obtain ⟨q, hq, ht⟩ := List.any_eq_true.1 ht
    have ht := nr_iff.1 ht
    have hpl := da_in h1 x1 (List.mem_of_getElem? hx1) p hp
    have hql := da_in h2 x2 (List.mem_of_getElem? hx2) q hq
    have hW : 0 < W := Nat.pos_of_ne_zero fun z => by subst z; simp at hpl
    have ed : q / W * W + q % W = q := by rw [Nat.mul_comm]; exact Nat.div_add_mod q W
    refine ⟨p, q / W, q % W, ⟨hpl, ⟨ht.1.1, ht.1.2, row_lt hql⟩, ⟨ht.2.1, ht.2.2, Nat.mod_lt _ hW⟩, ⟨?_, ?_⟩, ?_⟩⟩
    · rw [(of_mem h1 hx1 p hpl).2 hp]
    · rw [(of_mem h1 hx1 p hpl).2 hp]; exact Int.natCast_nonneg _
    · rw [ed, (of_mem h2 hx2 q hql).2 hq]; exact ⟨rfl, Int.natCast_nonneg _⟩
theorem da_bd {W H : Nat} {vs : List Span} {lv : Int} {y : DaY} (h : DaP W H vs lv y) (hW : W * H ≤ 4096) : ALB y.l := areas_bd hW h.m
theorem rHas_i (l : List Nat) (p : Option Addr) (c : Nat) (n : Int) (w : World) (hl : RO 1 nC w p l) (hn : l.length ≤ 1000000) : Calls Try.prog 75 #[.slice p l.length c, .int .i64 n] w fun e w' => e = .returned (.bool (decide (n ∈ l.map fun k : Nat => (k : Int)))) ∧ St (bs w) [] w' := by
  have z := rHas_c (l.map fun n : Nat => (n : Int)) p c n w (ro_I hl) (by rw [List.length_map]; exact hn)
  rw [List.length_map] at z
  exact z
theorem good_doc {g : Grid} {of : List Int} {l : List Nat} {j x y : Int} {p : Nat} (hg : gridOk g) (hof : ∀ q, q < gW g * gH g → (of.getD q (-1) = j ↔ q ∈ l)) :
  goodB (gW g) (gH g) of j x y p = true ↔ ¬ ((((0 ≤ ((p % gW g : Nat) : Int) + x ∧ ((p % gW g : Nat) : Int) + x < g.wide) ∧ 0 ≤ ((p / gW g : Nat) : Int) + y) ∧ ((p / gW g : Nat) : Int) + y < g.high) ∧ ¬ ((((p / gW g : Nat) : Int) + y) * g.wide + (((p % gW g : Nat) : Int) + x) ∈ l.map fun k : Nat => (k : Int))) := by
  by_cases hin : (((p % gW g : Nat) : Int) + x < 0 ∨ g.wide ≤ ((p % gW g : Nat) : Int) + x ∨ ((p / gW g : Nat) : Int) + y < 0 ∨ g.high ≤ ((p / gW g : Nat) : Int) + y)
  · rw [good_out hg hin]
    exact ⟨fun _ z => by omega, fun _ => rfl⟩
  · obtain ⟨q, hq1, hq2, hq3⟩ := target hg (x := ((p % gW g : Nat) : Int) + x) (y := ((p / gW g : Nat) : Int) + y) hin
    rw [good_in hg hin hq3, decide_eq_true_eq, hof q hq2, hq1, mem_castI]
    exact ⟨fun h z => z.2 h, fun h => Classical.byContradiction fun z => h ⟨by omega, z⟩⟩

set_option maxRecDepth 20000 in
set_option maxHeartbeats 8000000 in
theorem rFollows_c (g : Grid) (a b : AreaR) (of : List Int) (j : Nat) (mx my : Int) (w : World) (hgr : gridOk g) (hka : RR 1 nC w a.kp a.kr) (hb : RO 1 nC w b.px.p b.px.l) (hks : KrOk (gW g) (gH g) (a.kr.map RowA.l)) (hbl : b.px.l.length ≤ 4096) (hof : ∀ q, q < gW g * gH g → (of.getD q (-1) = (j : Int) ↔ q ∈ b.px.l)) (hx : -8 ≤ mx ∧ mx ≤ 8) (hy : -8 ≤ my ∧ my ≤ 8) :
  Calls Try.prog 117 #[gridV g, .agg #[.slice a.px.p a.px.l.length a.px.c, .slice a.kp a.kr.length a.kc, .int .i64 a.s.xl, .int .i64 a.s.xh, .int .i64 a.s.yl, .int .i64 a.s.yh, .int .i64 a.s.sl, .int .i64 a.s.sh], .agg #[.slice b.px.p b.px.l.length b.px.c, .slice b.kp b.kr.length b.kc, .int .i64 b.s.xl, .int .i64 b.s.xh, .int .i64 b.s.yl, .int .i64 b.s.yh, .int .i64 b.s.sl, .int .i64 b.s.sh], .int .i64 mx, .int .i64 my] w fun e w' => e = .returned (.bool (followsB (gW g) (gH g) (a.kr.map RowA.l) of j mx my)) ∧ St (bs w) [] w' := by
  have har := area_le hgr
  have hkn := hks.1
  rw [List.length_map] at hkn
  obtain ⟨hW, hH, hW1, hW2, hH1, hH2⟩ := gWi hgr
  refine enter (vs := [_,_,_,_,_]) (env := [(0,_), (1,_), (2,_), (3,_), (4,_)]) Try.func117 rfl rfl rfl rfl ?_
  refine VC.seq ?_
  refine VC.reg (VO.h rfl<|HO.box (C := #[_,_,_,_,_]) rfl rfl fun b1 => VO.h rfl<|HO.box (C := #[_,_,_,_,_,_,_,_]) rfl rfl fun b2 => VO.h rfl<|HO.box (C := #[_,_,_,_,_,_,_,_]) rfl rfl fun b3 => VO.l (LO.as (.r rfl)) rfl<|VO.nil ?_)
  refine VE.seqN ?_
  refine VC.seq ?_
  refine VC.seq ?_
  refine VC.reg (VO.l (LO.as (.r rfl)) rfl<|VO.nil ?_)
  refine VE.seqN ?_
  refine VC.block ?_
  refine VC.loopK (α := Nat) 0 (fun gx => [(11, .int .i64 (gx : Nat))]) [(3,_), (4,_), (5,_), (6,_), (7,_)] (fun gx => []) (fun gx => gx ≤ a.kr.length ∧ ∀ i k, i < gx → a.kr[i]? = some k → k.l.all (goodB (gW g) (gH g) of j mx my) = true) (fun gx => a.kr.length - gx) 0 (by exact ⟨Nat.zero_le _, fun i k h => absurd h (Nat.not_lt_zero _)⟩) (.cons rfl (.cons rfl (.cons rfl (.cons rfl (.cons rfl (.cons rfl .nil)))))) (fun _ h => h) ?_
  rintro n ⟨hn, hz⟩
  refine VC.seq ?_
  refine VC.seq ?_
  refine VC.reg (VO.l (LO.mv (.r rfl)) rfl<|VO.l (LO.fa (r := 1) F135_1 (.r rfl) rfl) rfl<|VO.l (LO.ld O41 (.r rfl) (fun _ hw => cells_at hw 1 rfl ⟨_, rfl⟩)) rfl<|VO.l (LO.len S41 (.r rfl) rfl) rfl<|VO.l (LO.lt (.r rfl) (.r rfl)) rfl<|VO.nil ?_)
  refine VE.seqN ?_
  refine VC.cond rfl (fun h20 => ?_) (fun h20 => ?_)
  ·
    obtain ⟨k, hk⟩ := get_ex (l := a.kr) (n := n) (by omega)
    obtain ⟨hkl, hkm⟩ := hks.2 k.l (List.mem_map_of_mem (List.mem_of_getElem? hk))
    refine VC.skip (VE.seqN ?_)
    refine VC.seq ?_
    refine VC.block ?_
    refine VC.seq ?_
    refine VC.reg (VO.l (LO.as (.r rfl)) rfl<|VO.nil ?_)
    refine VE.seqN ?_
    refine VC.block ?_
    refine VC.loopK (α := Nat) 0 (fun gx => [(12, .int .i64 (gx : Nat))]) [(3,_), (4,_), (5,_), (6,_), (7,_), (11,_)] (fun gx => []) (fun gx => gx ≤ k.l.length ∧ ∀ i p, i < gx → k.l[i]? = some p → goodB (gW g) (gH g) of j mx my p = true) (fun gx => k.l.length - gx) 0 (by exact ⟨Nat.zero_le _, fun i k h => absurd h (Nat.not_lt_zero _)⟩) (.cons rfl (.cons rfl (.cons rfl (.cons rfl (.cons rfl (.cons rfl (.cons rfl .nil))))))) (fun _ h => h) ?_
    rintro m ⟨hm, hzm⟩
    refine VC.seq ?_
    refine VC.seq ?_
    refine VC.reg (VO.l (LO.mv (.r rfl)) rfl<|VO.l (LO.fa (r := 1) F135_1 (.r rfl) rfl) rfl<|VO.l (LO.ld O41 (.r rfl) (fun _ hw => cells_at hw 1 rfl ⟨_, rfl⟩)) rfl<|VO.l (LO.mv (.r rfl)) rfl<|VO.l (LO.ixs S41 N40 hka.1.sm (.r rfl) (.r rfl) rfl (by omega)) rfl<|VO.l (LO.ld O40 (.r rfl) (fun w hw => cells_part (off := 0) ((fun w3 h3 => RR.cell (RR.keep hka w3 h3) hk) w hw) ⟨_, rfl⟩)) rfl<|VO.l (LO.len S40 (.r rfl) rfl) rfl<|VO.l (LO.lt (.r rfl) (.r rfl)) rfl<|VO.nil ?_)
    refine VE.seqN ?_
    refine VC.cond rfl (fun h30 => ?_) (fun h30 => ?_)
    ·
      obtain ⟨p, hp⟩ := get_ex (l := k.l) (n := m) (by omega)
      have hpm := hkm p (List.mem_of_getElem? hp)
      refine VC.skip (VE.seqN ?_)
      refine VC.seq ?_
      refine VC.block ?_
      refine VC.seq ?_
      refine VC.reg (VO.l (LO.fa (r := 1) F135_1 (.r rfl) rfl) rfl<|VO.l (LO.ld O41 (.r rfl) (fun _ hw => cells_at hw 1 rfl ⟨_, rfl⟩)) rfl<|VO.l (LO.mv (.r rfl)) rfl<|VO.l (LO.ixs S41 N40 hka.1.sm (.r rfl) (.r rfl) rfl (by omega)) rfl<|VO.l (LO.ld O40 (.r rfl) (fun w hw => cells_part (off := 0) ((fun w3 h3 => RR.cell (RR.keep hka w3 h3) hk) w hw) ⟨_, rfl⟩)) rfl<|VO.l (LO.mv (.r rfl)) rfl<|VO.l (LO.ixs S40 N3 (RR.row hka hk).sm (.r rfl) (.r rfl) rfl (by omega)) rfl<|VO.l (LO.ld O3 (.r rfl) (fun w hw => cells_part (off := 0) ((fun w3 h3 => RO.cel (RR.row (RR.keep hka w3 h3) hk) hp) w hw) ⟨_, rfl⟩)) rfl<|VO.l (LO.as (.r rfl)) rfl<|VO.nil ?_)
      refine VE.seqN ?_
      refine VC.seq ?_
      have hpd := divb hgr (p := p) (by omega)
      have hpr : p % gW g < gW g := Nat.mod_lt _ (by omega)
      refine VC.draw mixed (LL.l (LO.mv (.r rfl)) rfl<|LL.l (LO.fa (r := 3) F23_3 (.r rfl) rfl) rfl<|LL.l (LO.ld O3 (.r rfl) (fun _ hw => cells_at hw 2 rfl ⟨_, rfl⟩)) rfl<|LL.l (LO.eqv (LO.rem (.r rfl) (.r rfl) (by omega)) (congrArg (Value.int .i64) (mod_n hgr p))) rfl<|LL.l (LO.mv (.r rfl)) rfl<|LL.l (LO.add (.r rfl) (.r rfl) (wi (by omega) (by omega))) rfl<|LL.l (LO.mv (.r rfl)) rfl<|LL.l (LO.fa (r := 3) F23_3 (.r rfl) rfl) rfl<|LL.l (LO.ld O3 (.r rfl) (fun _ hw => cells_at hw 2 rfl ⟨_, rfl⟩)) rfl<|LL.l (LO.eqv (LO.quo (.r rfl) (.r rfl) (by omega) (wi (by rw [div_n hgr]; have := divb hgr (p := p) (by omega); omega) (by rw [div_n hgr]; have := divb hgr (p := p) (by omega); omega))) (congrArg (Value.int .i64) (div_n hgr p))) rfl<|LL.l (LO.mv (.r rfl)) rfl<|LL.l (LO.add (.r rfl) (.r rfl) (wi (by omega) (by omega))) rfl<|LL.l (LO.as (.r rfl)) rfl<|LL.l (LO.as (.r rfl)) rfl<|LL.nil) (by kernel_rfl) ?_
      refine VE.seqN ?_
      refine VC.seq ?_
      refine VC.reg (VO.l (LO.mv (.r rfl)) rfl<|VO.l (LO.ge (.r rfl) (.r rfl)) rfl<|VO.l (LO.mv (.r rfl)) rfl<|VO.lg rfl rfl (GD.t _) (fun hg => LO.mv (.r rfl)) rfl<|VO.lg rfl rfl (GD.t _) (fun hg => LO.fa (r := 3) F23_3 (.r rfl) rfl) rfl<|VO.lg rfl rfl (GD.t _) (fun hg => LO.ld O3 (.g hg rfl) (fun _ hw => cells_at hw 2 rfl ⟨_, rfl⟩)) rfl<|VO.lg rfl rfl (GD.t _) (fun hg => LO.lt (.g hg rfl) (.g hg rfl)) rfl<|VO.l (LO.pkA (.r rfl) rfl rfl (.r rfl)) rfl<|VO.l (LO.mv (.r rfl)) rfl<|VO.lg rfl rfl (GD.t _) (fun hg => LO.mv (.r rfl)) rfl<|VO.lg rfl rfl (GD.t _) (fun hg => LO.ge (.g hg rfl) (.r rfl)) rfl<|VO.l (LO.pkA (.r rfl) rfl rfl (.r rfl)) rfl<|VO.l (LO.mv (.r rfl)) rfl<|VO.lg rfl rfl (GD.t _) (fun hg => LO.mv (.r rfl)) rfl<|VO.lg rfl rfl (GD.t _) (fun hg => LO.fa (r := 4) F23_4 (.r rfl) rfl) rfl<|VO.lg rfl rfl (GD.t _) (fun hg => LO.ld O3 (.g hg rfl) (fun _ hw => cells_at hw 2 rfl ⟨_, rfl⟩)) rfl<|VO.lg rfl rfl (GD.t _) (fun hg => LO.lt (.g hg rfl) (.g hg rfl)) rfl<|VO.l (LO.pkA (.r rfl) rfl rfl (.r rfl)) rfl<|VO.l (LO.mv (.r rfl)) rfl<|VO.lg rfl rfl (GD.t _) (fun hg => LO.fa (r := 0) F135_0 (.r rfl) rfl) rfl<|VO.lg rfl rfl (GD.t _) (fun hg => LO.ld O40 (.g hg rfl) (fun _ hw => cells_at hw 0 rfl ⟨_, rfl⟩)) rfl<|VO.lg rfl rfl (GD.t _) (fun hg => LO.mv (.r rfl)) rfl<|VO.lg rfl rfl (GD.t _) (fun hg => LO.fa (r := 3) F23_3 (.r rfl) rfl) rfl<|VO.lg rfl rfl (GD.t _) (fun hg => LO.ld O3 (.g hg rfl) (fun _ hw => cells_at hw 2 rfl ⟨_, rfl⟩)) rfl<|VO.lg rfl rfl (GD.t _) (fun hg => LO.mul (.g hg rfl) (.g hg rfl) (wi (by have z := hg; simp only [Bool.and_eq_true, decide_eq_true_eq] at z; obtain ⟨q, hq1, hq2, hq3⟩ := target hgr (x := ((p % gW g : Nat) : Int) + mx) (y := ((p / gW g : Nat) : Int) + my) (by omega); omega) (by have z := hg; simp only [Bool.and_eq_true, decide_eq_true_eq] at z; obtain ⟨q, hq1, hq2, hq3⟩ := target hgr (x := ((p % gW g : Nat) : Int) + mx) (y := ((p / gW g : Nat) : Int) + my) (by omega); omega))) rfl<|VO.lg rfl rfl (GD.t _) (fun hg => LO.mv (.r rfl)) rfl<|VO.lg rfl rfl (GD.t _) (fun hg => LO.add (.g hg rfl) (.g hg rfl) (wi (by have z := hg; simp only [Bool.and_eq_true, decide_eq_true_eq] at z; obtain ⟨q, hq1, hq2, hq3⟩ := target hgr (x := ((p % gW g : Nat) : Int) + mx) (y := ((p / gW g : Nat) : Int) + my) (by omega); omega) (by have z := hg; simp only [Bool.and_eq_true, decide_eq_true_eq] at z; obtain ⟨q, hq1, hq2, hq3⟩ := target hgr (x := ((p % gW g : Nat) : Int) + mx) (y := ((p / gW g : Nat) : Int) + my) (by omega); omega))) rfl<|VO.lg rfl rfl (GD.t _) (fun hg => LO.call (xs := [_,_]) (vs := [_,_]) C75 ⟨(.g hg rfl), (.g hg rfl), trivial⟩ (fun w2 hw => rHas_i b.px.l b.px.p b.px.c _ w2 (hb.keep w2 hw) (by omega))) rfl<|VO.lg rfl rfl (GD.t _) (fun hg => LO.not (.g hg rfl)) rfl<|VO.l (LO.pkA (.r rfl) rfl rfl (.r rfl)) rfl<|VO.nil ?_)
      refine VE.seqN ?_
      refine VC.cond rfl (fun h82 => ?_) (fun h82 => ?_)
      ·
        refine VC.seq ?_
        refine VC.reg (VO.l (LO.as (.r rfl)) rfl<|VO.nil ?_)
        refine VE.seqN ?_
        refine VC.ret (VE.inR (VE.thenR (VE.thenR (VE.inR (VE.inR (VE.thenR (VE.thenR (VE.inR (VE.thenR (VE.res (vs := [_]) rfl ⟨rfl, trivial⟩ (fun w hw => ?_)))))))))))
        refine ⟨?_, hw.nil⟩
        refine congrArg (fun z => Ending.returned (.bool z)) ?_
        first | exact (fol_end hz (by omega)).symm | exact (fol_no hk (all_no hp fun z => (good_doc hgr hof).1 z h82)).symm
      ·
        refine VC.skip (VE.inN (VE.seqN ?_))
        refine VC.reg (VO.l (LO.mv (.r rfl)) rfl<|VO.l (LO.add (.r rfl) (.r rfl) (wi (by omega) (by omega))) rfl<|VO.l (LO.as (.r rfl)) rfl<|VO.nil ?_)
        refine VE.thenN fun a w ha hw => ⟨m + 1, ⟨by omega, all_step hzm hp ((good_doc hgr hof).2 h82)⟩, (by omega), ha.sub (.cons rfl (.cons rfl (.cons rfl (.cons rfl (.cons rfl (.cons rfl (.cons rfl .nil))))))), hw⟩
    ·
      refine VC.exit (VE.thenX (VE.thenX (VE.inX (VE.inN (VE.seqN ?_)))))
      refine VC.reg (VO.l (LO.mv (.r rfl)) rfl<|VO.l (LO.add (.r rfl) (.r rfl) (wi (by omega) (by omega))) rfl<|VO.l (LO.as (.r rfl)) rfl<|VO.nil ?_)
      refine VE.thenN fun a w ha hw => ⟨n + 1, ⟨by omega, all_step hz hk (all_end hzm (by omega))⟩, (by omega), ha.sub (.cons rfl (.cons rfl (.cons rfl (.cons rfl (.cons rfl (.cons rfl .nil)))))), hw⟩
  ·
    refine VC.exit (VE.thenX (VE.thenX (VE.inX (VE.seqN ?_))))
    refine VC.seq ?_
    refine VC.reg (VO.l (LO.as (.r rfl)) rfl<|VO.nil ?_)
    refine VE.seqN ?_
    refine VC.ret (VE.res (vs := [_]) rfl ⟨rfl, trivial⟩ (fun w hw => ?_))
    refine ⟨?_, hw.nil⟩
    refine congrArg (fun z => Ending.returned (.bool z)) ?_
    first | exact (fol_end hz (by omega)).symm | exact (fol_no hk (all_no hp fun z => (good_doc hgr hof).1 z h82)).symm

end Go.Proofs.Ytgemekpofpoopaa

namespace Go.Proofs.Ytgemekpofpoopaa
open Go.SL Go.Proofs Go.Cast Go.Cell
set_option linter.unusedVariables false

theorem C117 : IsFn Try.prog 117 := ⟨_, Try.func117, by decide, rfl⟩
theorem B87 : Builds Try.prog 87 [(0,1), (1,1)] [.int .i64 0, .int .i64 0] := Builds.mk fun _ => by kernel_rfl
theorem Z87 : ZeroOf Try.prog 87 (.agg #[.int .i64 0, .int .i64 0]) := by unfold ZeroOf; kernel_rfl
theorem I87 : EInfo Try.prog 87 2 16 (.agg #[.int .i64 0, .int .i64 0]) := ⟨by kernel_rfl, by kernel_rfl, by unfold ZeroOf; kernel_rfl, rfl, by decide⟩


theorem mv_ix {r v u : Nat} (hu : u < 2 * r + 1) : mvAt r (v * (2 * r + 1) + u) = ⟨(u : Int) - r, (v : Int) - r⟩ := by
  have hd := dm_eq (W := 2 * r + 1) (p := v * (2 * r + 1) + u) (a := v) (b := u) (by rw [Nat.mul_comm]) hu
  unfold mvAt
  rw [hd.1, hd.2]
theorem mv_row {r v : Nat} : v * (2 * r + 1) + (2 * r + 1) = (v + 1) * (2 * r + 1) := by rw [Nat.add_mul, Nat.one_mul]
theorem mv_cnt {r v u : Nat} (hr : r ≤ 8) (hv : v ≤ 2 * r + 1) (hu : u ≤ 2 * r + 1) : v * (2 * r + 1) + u ≤ 306 := by have := Nat.mul_le_mul (show v ≤ 17 by omega) (show 2 * r + 1 ≤ 17 by omega); omega

set_option maxRecDepth 20000 in
set_option maxHeartbeats 8000000 in
theorem rMoves_c (g : Grid) (a b : AreaR) (ofa ofb : List Int) (i j r : Nat) (w : World) (hgr : gridOk g) (hka : RR 1 nC w a.kp a.kr) (hkb : RR 1 nC w b.kp b.kr) (hpa : RO 1 nC w a.px.p a.px.l) (hpb : RO 1 nC w b.px.p b.px.l) (hksa : KrOk (gW g) (gH g) (a.kr.map RowA.l)) (hksb : KrOk (gW g) (gH g) (b.kr.map RowA.l)) (hal : a.px.l.length ≤ 4096) (hbl : b.px.l.length ≤ 4096) (hofa : ∀ q, q < gW g * gH g → (ofa.getD q (-1) = (i : Int) ↔ q ∈ a.px.l)) (hofb : ∀ q, q < gW g * gH g → (ofb.getD q (-1) = (j : Int) ↔ q ∈ b.px.l)) (hr : r ≤ 8) :
  Calls Try.prog 82 #[gridV g, .agg #[.slice a.px.p a.px.l.length a.px.c, .slice a.kp a.kr.length a.kc, .int .i64 a.s.xl, .int .i64 a.s.xh, .int .i64 a.s.yl, .int .i64 a.s.yh, .int .i64 a.s.sl, .int .i64 a.s.sh], .agg #[.slice b.px.p b.px.l.length b.px.c, .slice b.kp b.kr.length b.kc, .int .i64 b.s.xl, .int .i64 b.s.xh, .int .i64 b.s.yl, .int .i64 b.s.yh, .int .i64 b.s.sl, .int .i64 b.s.sh], .int .i64 (r : Int)] w fun e w' => ∃ y : SlY, True ∧ e = .returned (.slice y.p (movesM (gW g) (gH g) (a.kr.map RowA.l) (b.kr.map RowA.l) ofa ofb i j r).length y.c) ∧ St (bs w) [own 87 2 y.p y.c ((movesM (gW g) (gH g) (a.kr.map RowA.l) (b.kr.map RowA.l) ofa ofb i j r).map Mv.cells)] w' := by
  have hln := fun n => movesTo_len (W := gW g) (H := gH g) (ka := a.kr.map RowA.l) (kb := b.kr.map RowA.l) (ofa := ofa) (ofb := ofb) (i := i) (j := j) (r := r) (n := n)
  refine enter (vs := [_,_,_,_]) (env := [(0,_), (1,_), (2,_), (3,_)]) Try.func82 rfl rfl rfl rfl ?_
  refine VC.seq ?_
  refine VC.reg (VO.h rfl<|HO.box (C := #[_,_,_,_,_]) rfl rfl fun b1 => VO.h rfl<|HO.box (C := #[_,_,_,_,_,_,_,_]) rfl rfl fun b2 => VO.h rfl<|HO.box (C := #[_,_,_,_,_,_,_,_]) rfl rfl fun b3 => VO.l (LO.as (.r rfl)) rfl<|VO.nil ?_)
  refine VE.seqN ?_
  refine VC.seq ?_
  refine VC.reg (VO.l (LO.as (.r rfl)) rfl<|VO.nil ?_)
  refine VE.seqN ?_
  refine VC.seq ?_
  refine VC.seq ?_
  refine VC.reg (VO.l (LO.mv (.r rfl)) rfl<|VO.l (LO.eqv (LO.neg (.r rfl) (wi (by omega) (by omega))) (congrArg (Value.int .i64) (show -(r : Int) = ((0 : Nat) : Int) - r by omega))) rfl<|VO.l (LO.as (.r rfl)) rfl<|VO.nil ?_)
  refine VE.seqN ?_
  refine VC.block ?_
  refine VC.loopK (α := Nat × (Option Addr) × Nat) 0 (fun gx => [(9, .slice gx.2.1 (movesTo (gW g) (gH g) (a.kr.map RowA.l) (b.kr.map RowA.l) ofa ofb i j r (gx.1 * (2 * r + 1))).length gx.2.2), (10, .int .i64 ((gx.1 : Int) - r))]) [(3,_), (4,_), (5,_), (6,_)] (fun gx => [own 87 2 gx.2.1 gx.2.2 ((movesTo (gW g) (gH g) (a.kr.map RowA.l) (b.kr.map RowA.l) ofa ofb i j r (gx.1 * (2 * r + 1))).map Mv.cells)]) (fun gx => gx.1 ≤ 2 * r + 1) (fun gx => 2 * r + 1 - gx.1) (0, none, 0) (by exact Nat.zero_le _) (.cons (congrArg (fun l : List Mv => some (Value.slice none l.length 0)) (show ([] : List Mv) = movesTo (gW g) (gH g) (a.kr.map RowA.l) (b.kr.map RowA.l) ofa ofb i j r (0 * (2 * r + 1)) from by rw [Nat.zero_mul]; rfl)) (.cons rfl (.cons rfl (.cons rfl (.cons rfl (.cons rfl .nil)))))) (fun _ h => by dsimp only; rw [Nat.zero_mul]; exact (h.ownNil 87 2)) ?_
  rintro ⟨v, po, co⟩ hv
  show VC _ _ _ _ _ ([(9, .slice po (movesTo (gW g) (gH g) (a.kr.map RowA.l) (b.kr.map RowA.l) ofa ofb i j r (v * (2 * r + 1))).length co), (10, .int .i64 ((v : Int) - r))] ++ _) ([own 87 2 po co ((movesTo (gW g) (gH g) (a.kr.map RowA.l) (b.kr.map RowA.l) ofa ofb i j r (v * (2 * r + 1))).map Mv.cells)] ++ _) _ _
  dsimp only at hv
  refine VC.seq ?_
  refine VC.seq ?_
  refine VC.reg (VO.l (LO.mv (.r rfl)) rfl<|VO.l (LO.mv (.r rfl)) rfl<|VO.l (LO.le (.r rfl) (.r rfl)) rfl<|VO.nil ?_)
  refine VE.seqN ?_
  refine VC.cond rfl (fun h16 => ?_) (fun h16 => ?_)
  ·
    refine VC.skip (VE.seqN ?_)
    refine VC.seq ?_
    refine VC.block ?_
    refine VC.seq ?_
    refine VC.reg (VO.l (LO.mv (.r rfl)) rfl<|VO.l (LO.eqv (LO.neg (.r rfl) (wi (by omega) (by omega))) (congrArg (Value.int .i64) (show -(r : Int) = ((0 : Nat) : Int) - r by omega))) rfl<|VO.l (LO.as (.r rfl)) rfl<|VO.nil ?_)
    refine VE.seqN ?_
    refine VC.block ?_
    refine VC.loopK (α := Nat × (Option Addr) × Nat) 1 (fun gx => [(9, .slice gx.2.1 (movesTo (gW g) (gH g) (a.kr.map RowA.l) (b.kr.map RowA.l) ofa ofb i j r (v * (2 * r + 1) + gx.1)).length gx.2.2), (11, .int .i64 ((gx.1 : Int) - r))]) [(3,_), (4,_), (5,_), (6,_), (10,_)] (fun gx => [own 87 2 gx.2.1 gx.2.2 ((movesTo (gW g) (gH g) (a.kr.map RowA.l) (b.kr.map RowA.l) ofa ofb i j r (v * (2 * r + 1) + gx.1)).map Mv.cells)]) (fun gx => gx.1 ≤ 2 * r + 1) (fun gx => 2 * r + 1 - gx.1) (0, po, co) (by exact Nat.zero_le _) (.cons rfl (.cons rfl (.cons rfl (.cons rfl (.cons rfl (.cons rfl (.cons rfl .nil))))))) (fun _ h => h) ?_
    rintro ⟨u, po, co⟩ hu
    show VC _ _ _ _ _ ([(9, .slice po (movesTo (gW g) (gH g) (a.kr.map RowA.l) (b.kr.map RowA.l) ofa ofb i j r (v * (2 * r + 1) + u)).length co), (11, .int .i64 ((u : Int) - r))] ++ _) ([own 87 2 po co ((movesTo (gW g) (gH g) (a.kr.map RowA.l) (b.kr.map RowA.l) ofa ofb i j r (v * (2 * r + 1) + u)).map Mv.cells)] ++ _) _ _
    dsimp only at hu
    have hcn := mv_cnt hr (show v ≤ 2 * r + 1 by omega) hu
    refine VC.seq ?_
    refine VC.seq ?_
    refine VC.reg (VO.l (LO.mv (.r rfl)) rfl<|VO.l (LO.mv (.r rfl)) rfl<|VO.l (LO.le (.r rfl) (.r rfl)) rfl<|VO.nil ?_)
    refine VE.seqN ?_
    refine VC.cond rfl (fun h23 => ?_) (fun h23 => ?_)
    ·
      refine VC.skip (VE.seqN ?_)
      refine VC.seq ?_
      refine VC.block ?_
      refine VC.seq ?_
      refine VC.reg (VO.l (LO.lda (vs := [_,_,_,_,_]) A23 (.r rfl) (fun _ hw => cells_at hw 3 rfl ⟨_, rfl⟩) rfl) rfl<|VO.l (LO.lda (vs := [_,_,_,_,_,_,_,_]) A135 (.r rfl) (fun _ hw => cells_at hw 2 rfl ⟨_, rfl⟩) rfl) rfl<|VO.l (LO.lda (vs := [_,_,_,_,_,_,_,_]) A135 (.r rfl) (fun _ hw => cells_at hw 1 rfl ⟨_, rfl⟩) rfl) rfl<|VO.l (LO.mv (.r rfl)) rfl<|VO.l (LO.mv (.r rfl)) rfl<|VO.l (LO.call (xs := [_,_,_,_,_]) (vs := [_,_,_,_,_]) C117 ⟨(.r rfl), (.r rfl), (.r rfl), (.r rfl), (.r rfl), trivial⟩ (fun w2 hw => rFollows_c g a b ofb j ((u : Int) - r) ((v : Int) - r) w2 hgr (RR.keep hka w2 hw) (hpb.keep w2 hw) hksa hbl hofb (by omega) (by omega))) rfl<|VO.l (LO.mv (.r rfl)) rfl<|VO.lg rfl rfl (GD.t _) (fun hg => LO.lda (vs := [_,_,_,_,_]) A23 (.r rfl) (fun _ hw => cells_at hw 3 rfl ⟨_, rfl⟩) rfl) rfl<|VO.lg rfl rfl (GD.t _) (fun hg => LO.lda (vs := [_,_,_,_,_,_,_,_]) A135 (.r rfl) (fun _ hw => cells_at hw 1 rfl ⟨_, rfl⟩) rfl) rfl<|VO.lg rfl rfl (GD.t _) (fun hg => LO.lda (vs := [_,_,_,_,_,_,_,_]) A135 (.r rfl) (fun _ hw => cells_at hw 2 rfl ⟨_, rfl⟩) rfl) rfl<|VO.lg rfl rfl (GD.t _) (fun hg => LO.mv (.r rfl)) rfl<|VO.lg rfl rfl (GD.t _) (fun hg => LO.neg (.g hg rfl) (wi (by omega) (by omega))) rfl<|VO.lg rfl rfl (GD.t _) (fun hg => LO.mv (.r rfl)) rfl<|VO.lg rfl rfl (GD.t _) (fun hg => LO.neg (.g hg rfl) (wi (by omega) (by omega))) rfl<|VO.lg rfl rfl (GD.t _) (fun hg => LO.call (xs := [_,_,_,_,_]) (vs := [_,_,_,_,_]) C117 ⟨(.g hg rfl), (.g hg rfl), (.g hg rfl), (.g hg rfl), (.g hg rfl), trivial⟩ (fun w2 hw => rFollows_c g b a ofa i (-((u : Int) - r)) (-((v : Int) - r)) w2 hgr (RR.keep hkb w2 hw) (hpa.keep w2 hw) hksb hal hofa (by omega) (by omega))) rfl<|VO.l (LO.pkA (.r rfl) rfl rfl (.r rfl)) rfl<|VO.nil ?_)
      refine VE.seqN ?_
      refine VC.cond rfl (fun h41 => ?_) (fun h41 => ?_)
      ·
        have hmx := mv_ix (r := r) (v := v) (u := u) (by omega)
        refine VC.reg (VO.l (LO.mv (.r rfl)) rfl<|VO.l (LO.mv (.r rfl)) rfl<|VO.l (LO.mv (.r rfl)) rfl<|VO.l (LO.bd (ps := [(_,_), (_,_)]) (vs := [(_,_), (_,_)]) (C := [_,_]) B87  ⟨(.r rfl), (.r rfl), trivial⟩ rfl ⟨_, [_], [_,_], rfl, rfl, rfl, rfl, ⟨_, [_], [_,_], rfl, rfl, rfl, rfl, rfl⟩⟩) rfl<|VO.h rfl<|HO.bs (ps := [(_,_)]) (vs := [(_,_)]) (Z := [_,_]) (C := [_,_]) S56 Z87 N87 ⟨(.r rfl), trivial⟩ rfl rfl rfl rfl ⟨_, [_,_], [_,_], rfl, rfl, rfl, rfl, rfl⟩ fun b5 => VO.h rfl<|HO.appT ((⟨(u : Int) - r, (v : Int) - r⟩ : Mv)) (f := Mv.cells) 1 0 (fun R => [_, R,_,_,_]) S56 S56 I87 (.r rfl) (.r rfl) rfl rfl rfl rfl rfl rfl rfl (fun _ => rfl) rfl (by have := hln (v * (2 * r + 1) + u); omega) fun p5 c5 => VO.h rfl<|HO.lo (LO.as (.r rfl))<|VO.nil ?_)
        refine VE.inN (VE.seqN ?_)
        refine VC.reg (VO.l (LO.mv (.r rfl)) rfl<|VO.l (LO.add (.r rfl) (.r rfl) (wi (by omega) (by omega))) rfl<|VO.l (LO.as (.r rfl)) rfl<|VO.nil ?_)
        have hmx := mv_ix (r := r) (v := v) (u := u) (by omega)
        have hmt := movesTo_t (W := gW g) (H := gH g) (ka := a.kr.map RowA.l) (kb := b.kr.map RowA.l) (ofa := ofa) (ofb := ofb) (i := i) (j := j) (r := r) (n := (v * (2 * r + 1) + u)) (by rw [hmx]; show (_ && _) = true; rw [Bool.and_eq_true]; exact h41)
        rw [hmx] at hmt
        refine VE.thenN fun a w ha hw => ⟨(u + 1, p5, c5), (by dsimp only; omega), (by dsimp only; omega), ha.sub (.cons (congrArg (fun l : List Mv => some (Value.slice _ l.length _)) hmt.symm) (.cons (congrArg (fun z => some (Value.int .i64 z)) (by push_cast; omega)) (.cons rfl (.cons rfl (.cons rfl (.cons rfl (.cons rfl .nil))))))), (by dsimp only; rw [show v * (2 * r + 1) + (u + 1) = (v * (2 * r + 1) + u) + 1 from rfl, hmt]; first | exact hw.sel [1,2,3,4] rfl | (rw [hmx]; exact hw.sel [1,2,3,4] rfl))⟩
      ·
        refine VC.skip (VE.inN (VE.seqN ?_))
        refine VC.reg (VO.l (LO.mv (.r rfl)) rfl<|VO.l (LO.add (.r rfl) (.r rfl) (wi (by omega) (by omega))) rfl<|VO.l (LO.as (.r rfl)) rfl<|VO.nil ?_)
        have hmx := mv_ix (r := r) (v := v) (u := u) (by omega)
        have hmt := movesTo_f (W := gW g) (H := gH g) (ka := a.kr.map RowA.l) (kb := b.kr.map RowA.l) (ofa := ofa) (ofb := ofb) (i := i) (j := j) (r := r) (n := (v * (2 * r + 1) + u)) (by rw [hmx]; show ¬ (_ && _) = true; rw [Bool.and_eq_true]; exact h41)
        refine VE.thenN fun a w ha hw => ⟨(u + 1, po, co), (by dsimp only; omega), (by dsimp only; omega), ha.sub (.cons (congrArg (fun l : List Mv => some (Value.slice _ l.length _)) hmt.symm) (.cons (congrArg (fun z => some (Value.int .i64 z)) (by push_cast; omega)) (.cons rfl (.cons rfl (.cons rfl (.cons rfl (.cons rfl .nil))))))), (by dsimp only; rw [show v * (2 * r + 1) + (u + 1) = (v * (2 * r + 1) + u) + 1 from rfl, hmt]; first | exact hw | (rw [hmx]; exact hw))⟩
    ·
      have hue : u = 2 * r + 1 := by omega
      subst hue
      rw [mv_row]
      refine VC.exit (VE.thenX (VE.thenX (VE.inX (VE.inN (VE.seqN ?_)))))
      refine VC.reg (VO.l (LO.mv (.r rfl)) rfl<|VO.l (LO.add (.r rfl) (.r rfl) (wi (by omega) (by omega))) rfl<|VO.l (LO.as (.r rfl)) rfl<|VO.nil ?_)
      refine VE.thenN fun a w ha hw => ⟨(v + 1, po, co), (by dsimp only; omega), (by dsimp only; omega), ha.sub (.cons rfl (.cons (congrArg (fun z => some (Value.int .i64 z)) (by push_cast; omega)) (.cons rfl (.cons rfl (.cons rfl (.cons rfl .nil)))))), hw⟩
  ·
    have hve : v = 2 * r + 1 := by omega
    subst hve
    refine VC.exit (VE.thenX (VE.thenX (VE.inX (VE.seqN ?_))))
    refine VC.seq ?_
    refine VC.reg (VO.l (LO.mv (.r rfl)) rfl<|VO.l (LO.as (.r rfl)) rfl<|VO.nil ?_)
    refine VE.seqN ?_
    refine VC.ret (VE.res (vs := [_]) rfl ⟨rfl, trivial⟩ (fun w hw => ?_))
    exact ⟨⟨po, co⟩, trivial, rfl, selK [0] rfl rfl _ hw⟩

end Go.Proofs.Ytgemekpofpoopaa

namespace Go.Proofs.Ytgemekpofpoopaa
open Go.SL Go.Proofs Go.Cast Go.Cell
set_option linter.unusedVariables false

theorem C79 : IsFn Try.prog 79 := ⟨_, Try.func79, by decide, rfl⟩
theorem C80 : IsFn Try.prog 80 := ⟨_, Try.func80, by decide, rfl⟩
theorem C82 : IsFn Try.prog 82 := ⟨_, Try.func82, by decide, rfl⟩


theorem krOk_m {W H : Nat} {vs : List Span} {lv : Int} {y : DaY} (h : DaP W H vs lv y) {a : AreaR} (ha : a ∈ y.l) : KrOk W H (a.kr.map RowA.l) := by
  have : a.m ∈ areasM W H vs lv := by rw [← h.m]; exact List.mem_map_of_mem ha
  obtain ⟨l,_, e⟩ := List.mem_map.1 this
  have e2 : a.kr.map RowA.l = (partsL W H (inB vs lv)).filter (fun k => decide (k.headD 0 ∈ l)) := (congrArg AreaM.ks e).symm
  rw [e2]; exact krOk_filter krOk_parts
theorem ksAt_da {W H : Nat} {vs : List Span} {lv : Int} {y : DaY} (h : DaP W H vs lv y) {i : Nat} {a : AreaR} (ha : y.l[i]? = some a) : ksAt W H vs lv i = a.kr.map RowA.l := by
  unfold ksAt; rw [← h.m, List.getElem?_map, ha]; rfl
theorem nP_da {g : Grid} {vs : List Span} {lv : Int} {y : DaY} (h : DaP (gW g) (gH g) vs lv y) : nP g vs lv = y.l.length := (da_len h).symm

set_option maxRecDepth 20000 in
set_option maxHeartbeats 4000000 in
theorem rMatch_e (g1 : Grid) (v1 : List Span) (p1 : Option Addr) (c1 : Nat) (g2 : Grid) (v2 : List Span) (p2 : Option Addr) (c2 : Nat) (lv reach : Int) (w : World) (hv1 : Spans w p1 v1) (hv2 : Spans w p2 v2) (hne : pairE g1 v1 g2 v2 lv reach ≠ 0) :
  Calls Try.prog 28 #[fieldV g1 p1 v1.length c1, fieldV g2 p2 v2.length c2, .int .i64 lv, .int .i64 reach] w fun e w' => e = .returned (.tuple #[.slice none 0 0, .int .i64 (pairE g1 v1 g2 v2 lv reach)]) ∧ St (bs w) [] w' := by
  refine enter (vs := [_,_,_,_]) (env := [(0,_), (1,_), (2,_), (3,_)]) Try.func28 rfl rfl rfl rfl ?_
  refine VC.seq ?_
  refine VC.reg (VO.h rfl<|HO.box (C := #[_,_,_,_,_,_]) rfl rfl fun b1 => VO.h rfl<|HO.box (C := #[_,_,_,_,_,_]) rfl rfl fun b2 => VO.l (LO.as (.r rfl)) rfl<|VO.l (LO.as (.r rfl)) rfl<|VO.nil ?_)
  refine VE.seqN ?_
  refine VC.seq ?_
  refine VC.reg (VO.l (LO.lda (vs := [_,_,_,_,_,_]) A26 (.r rfl) (fun _ hw => cells_at hw 1 rfl ⟨_, rfl⟩) rfl) rfl<|VO.l (LO.lda (vs := [_,_,_,_,_,_]) A26 (.r rfl) (fun _ hw => cells_at hw 0 rfl ⟨_, rfl⟩) rfl) rfl<|VO.l (LO.mv (.r rfl)) rfl<|VO.l (LO.mv (.r rfl)) rfl<|VO.l (LO.call (xs := [_,_,_,_]) (vs := [_,_,_,_]) C79 ⟨(.r rfl), (.r rfl), (.r rfl), (.r rfl), trivial⟩ (fun w2 hw => rPair_c g1 v1 p1 c1 _ v2 p2 c2 lv reach w2 (hv1.keep w2 hw) (hv2.keep w2 hw))) rfl<|VO.l (LO.as (.r rfl)) rfl<|VO.nil ?_)
  refine VE.seqN ?_
  refine VC.seq ?_
  refine VC.seq ?_
  refine VC.reg (VO.l (LO.mv (.r rfl)) rfl<|VO.l (LO.ne (.r rfl) (.r rfl)) rfl<|VO.nil ?_)
  refine VE.seqN ?_
  refine VC.cond rfl (fun h17 => ?_) (fun h17 => ?_)
  ·
    refine VC.seq ?_
    refine VC.reg (VO.l (LO.mv (.r rfl)) rfl<|VO.l (LO.as (.r rfl)) rfl<|VO.l (LO.as (.r rfl)) rfl<|VO.nil ?_)
    refine VE.seqN ?_
    refine VC.ret (VE.thenR (VE.res (vs := [_,_]) rfl ⟨rfl, rfl, trivial⟩ (fun w hw => ?_)))
    exact ⟨rfl, hw.nil⟩
  ·
    (exfalso; exact hne (Classical.not_not.1 h17))

set_option maxRecDepth 20000 in
set_option maxHeartbeats 8000000 in
theorem rMatch_ok (g1 : Grid) (v1 : List Span) (p1 : Option Addr) (c1 : Nat) (g2 : Grid) (v2 : List Span) (p2 : Option Addr) (c2 : Nat) (lv : Int) (r : Nat) (w : World) (hv1 : Spans w p1 v1) (hv2 : Spans w p2 v2) (hpr : pairE g1 v1 g2 v2 lv r = 0) :
  Calls Try.prog 28 #[fieldV g1 p1 v1.length c1, fieldV g2 p2 v2.length c2, .int .i64 lv, .int .i64 (r : Int)] w fun e w' => ∃ y : EvY, EvP (gW g1) (gH g1) r (ofL (gW g1) (gH g1) (mayB v1 lv)) (ofL (gW g1) (gH g1) (mayB v2 lv)) (nP g1 v1 lv) (nP g1 v2 lv) (y.l.map EvR.m) ∧ e = .returned (.tuple #[.slice y.p y.l.length y.c, .int .i64 0]) ∧ St (bs w) [own 157 3 y.p y.c (y.l.map EvR.cells), bagD (y.l.map EvR.fR), bagD (y.l.map EvR.tR)] w' := by
  obtain ⟨hf1, hf2, rfl, hl1, hl2, hr1, hr2⟩ := pairOk hpr
  obtain ⟨hg, hlen1, hok1,_,_⟩ := openOk (field_open (lv := lv) hf1 hl1 hl2)
  obtain ⟨_, hlen2, hok2,_,_⟩ := openOk (field_open (lv := lv) hf2 hl1 hl2)
  have har := area_le hg
  have hvl1 : v1.length = gW g1 * gH g1 := len_n hg hlen1
  have hvl2 : v2.length = gW g1 * gH g1 := len_n hg hlen2
  obtain ⟨ld, hld⟩ := ld_ex (Jal (gW g1) (gH g1) r (ofL (gW g1) (gH g1) (mayB v1 lv)) (ofL (gW g1) (gH g1) (mayB v2 lv)))
  refine enter (vs := [_,_,_,_]) (env := [(0,_), (1,_), (2,_), (3,_)]) Try.func28 rfl rfl rfl rfl ?_
  refine VC.seq ?_
  refine VC.reg (VO.h rfl<|HO.box (C := #[_,_,_,_,_,_]) rfl rfl fun b1 => VO.h rfl<|HO.box (C := #[_,_,_,_,_,_]) rfl rfl fun b2 => VO.l (LO.as (.r rfl)) rfl<|VO.l (LO.as (.r rfl)) rfl<|VO.nil ?_)
  refine VE.seqN ?_
  refine VC.seq ?_
  refine VC.reg (VO.l (LO.lda (vs := [_,_,_,_,_,_]) A26 (.r rfl) (fun _ hw => cells_at hw 1 rfl ⟨_, rfl⟩) rfl) rfl<|VO.l (LO.lda (vs := [_,_,_,_,_,_]) A26 (.r rfl) (fun _ hw => cells_at hw 0 rfl ⟨_, rfl⟩) rfl) rfl<|VO.l (LO.mv (.r rfl)) rfl<|VO.l (LO.mv (.r rfl)) rfl<|VO.l (LO.call (xs := [_,_,_,_]) (vs := [_,_,_,_]) C79 ⟨(.r rfl), (.r rfl), (.r rfl), (.r rfl), trivial⟩ (fun w2 hw => rPair_c g1 v1 p1 c1 _ v2 p2 c2 lv (r : Int) w2 (hv1.keep w2 hw) (hv2.keep w2 hw))) rfl<|VO.l (LO.as (.r rfl)) rfl<|VO.nil ?_)
  refine VE.seqN ?_
  refine VC.seq ?_
  refine VC.seq ?_
  refine VC.reg (VO.l (LO.mv (.r rfl)) rfl<|VO.l (LO.ne (.r rfl) (.r rfl)) rfl<|VO.nil ?_)
  refine VE.seqN ?_
  refine VC.cond rfl (fun h17 => ?_) (fun h17 => ?_)
  ·
    (exfalso; exact h17 hpr)
  ·
    refine VC.skip (VE.seqN ?_)
    refine VC.seq ?_
    refine VC.drawH [[0,1], [0,1], [0,1], [0,1], [0,1]] [some 2, some 2, some 0, some 0, none, some 1, some 1, none, some 2, none, none, some 4] mixed (by kernel_rfl) rfl (LX.l (fun _ hJ => LO.fa (r := 0) F26_0 (.r rfl) rfl) rfl<|LX.l (fun _ hJ => LO.lda (vs := [_,_,_,_,_]) A23 (.r rfl) (fun _ hw => cells_at (hJ _ hw) 1 rfl ⟨_, rfl⟩) rfl) rfl<|LX.l (fun _ hJ => LO.lda (vs := [_,_,_,_,_,_]) A26 (.r rfl) (fun _ hw => cells_at (hJ _ hw) 1 rfl ⟨_, rfl⟩) rfl) rfl<|LX.l (fun _ hJ => LO.mv (.r rfl)) rfl<|LX.s<|LX.l (fun _ hJ => LO.lda (vs := [_,_,_,_,_,_]) A26 (.r rfl) (fun _ hw => cells_at (hJ _ hw) 0 rfl ⟨_, rfl⟩) rfl) rfl<|LX.l (fun _ hJ => LO.mv (.r rfl)) rfl<|LX.s<|LX.l (fun _ hJ => LO.mv (.r rfl)) rfl<|LX.s<|LX.s<|LX.l (fun _ hJ => LO.as (.r rfl)) rfl<|LX.nil) (HX.s<|HX.s<|HX.s<|HX.s<|HX.h rfl<|HO.callx (xs := [_,_]) (vs := [_,_]) C60 ⟨(.r rfl), (.r rfl), trivial⟩ (fun w2 hw => rAreas_c g1 v1 p1 c1 lv w2 hg hvl1 hok1 (hv1.keep w2 hw)) fun y1 hy1 => ⟨fun _ hw => hw.sel [3,4] rfl, HX.s<|HX.s<|HX.h rfl<|HO.callx (xs := [_,_]) (vs := [_,_]) C60 ⟨(.r rfl), (.r rfl), trivial⟩ (fun w2 hw => rAreas_c g1 v2 p2 c2 lv w2 hg hvl2 hok2 (hv2.keep w2 hw)) fun y2 hy2 => ⟨fun _ hw => hw.sel [6,7] rfl, HX.s<|HX.h rfl<|HO.callx (xs := [_,_,_,_]) (vs := [_,_,_,_]) C80 ⟨(.r rfl), (.r rfl), (.r rfl), (.r rfl), trivial⟩ (fun w2 hw => rEvents_c g1 y1.l y2.l y1.p y1.c y2.p y2.c r (tT (gW g1) r y1 y2) _ ld w2 hg (AL.of_own hw hy1 3 4 5 rfl rfl rfl) (AL.of_own hw hy2 0 1 2 rfl rfl rfl) (da_bd hy1 har) (da_bd hy2 har) (da_in hy1) (da_in hy2) (fun i j a b ha hb => tT_eq ha hb) (tj_doc hy1 hy2 hld)) fun y hy => ⟨selJ (L1 := [_,_]) [9,10] rfl rfl rfl, HX.h rfl<|HO.lo (LO.as (.r rfl))<|⟨selJ (L1 := [_,_]) [9,10] rfl rfl rfl, HX.s<|HX.nil ?_⟩⟩⟩⟩)
    refine VE.seqN ?_
    refine VC.ret (VE.res (vs := [_,_]) rfl ⟨rfl, rfl, trivial⟩ (fun w hw => ?_))
    exact ⟨y, ⟨ld, hld, by rw [nP_da hy1, nP_da hy2]; exact hy⟩, rfl, selK [0,1,2] rfl rfl _ hw⟩

set_option maxRecDepth 20000 in
set_option maxHeartbeats 4000000 in
theorem rMoves_e1 (g1 : Grid) (v1 : List Span) (p1 : Option Addr) (c1 : Nat) (g2 : Grid) (v2 : List Span) (p2 : Option Addr) (c2 : Nat) (lv reach i j : Int) (w : World) (hv1 : Spans w p1 v1) (hv2 : Spans w p2 v2) (hne : pairE g1 v1 g2 v2 lv reach ≠ 0) :
  Calls Try.prog 31 #[fieldV g1 p1 v1.length c1, fieldV g2 p2 v2.length c2, .int .i64 lv, .int .i64 reach, .int .i64 i, .int .i64 j] w fun e w' => e = .returned (.tuple #[.slice none 0 0, .int .i64 (pairE g1 v1 g2 v2 lv reach)]) ∧ St (bs w) [] w' := by
  refine enter (vs := [_,_,_,_,_,_]) (env := [(0,_), (1,_), (2,_), (3,_), (4,_), (5,_)]) Try.func31 rfl rfl rfl rfl ?_
  refine VC.seq ?_
  refine VC.reg (VO.h rfl<|HO.box (C := #[_,_,_,_,_,_]) rfl rfl fun b1 => VO.h rfl<|HO.box (C := #[_,_,_,_,_,_]) rfl rfl fun b2 => VO.l (LO.as (.r rfl)) rfl<|VO.l (LO.as (.r rfl)) rfl<|VO.nil ?_)
  refine VE.seqN ?_
  refine VC.seq ?_
  refine VC.reg (VO.l (LO.lda (vs := [_,_,_,_,_,_]) A26 (.r rfl) (fun _ hw => cells_at hw 1 rfl ⟨_, rfl⟩) rfl) rfl<|VO.l (LO.lda (vs := [_,_,_,_,_,_]) A26 (.r rfl) (fun _ hw => cells_at hw 0 rfl ⟨_, rfl⟩) rfl) rfl<|VO.l (LO.mv (.r rfl)) rfl<|VO.l (LO.mv (.r rfl)) rfl<|VO.l (LO.call (xs := [_,_,_,_]) (vs := [_,_,_,_]) C79 ⟨(.r rfl), (.r rfl), (.r rfl), (.r rfl), trivial⟩ (fun w2 hw => rPair_c g1 v1 p1 c1 _ v2 p2 c2 lv reach w2 (hv1.keep w2 hw) (hv2.keep w2 hw))) rfl<|VO.l (LO.as (.r rfl)) rfl<|VO.nil ?_)
  refine VE.seqN ?_
  refine VC.seq ?_
  refine VC.seq ?_
  refine VC.reg (VO.l (LO.mv (.r rfl)) rfl<|VO.l (LO.ne (.r rfl) (.r rfl)) rfl<|VO.nil ?_)
  refine VE.seqN ?_
  refine VC.cond rfl (fun h23 => ?_) (fun h23 => ?_)
  ·
    refine VC.seq ?_
    refine VC.reg (VO.l (LO.mv (.r rfl)) rfl<|VO.l (LO.as (.r rfl)) rfl<|VO.l (LO.as (.r rfl)) rfl<|VO.nil ?_)
    refine VE.seqN ?_
    refine VC.ret (VE.thenR (VE.res (vs := [_,_]) rfl ⟨rfl, rfl, trivial⟩ (fun w hw => ?_)))
    exact ⟨rfl, hw.nil⟩
  ·
    (exfalso; exact hne (Classical.not_not.1 h23))

set_option maxRecDepth 20000 in
set_option maxHeartbeats 4000000 in
theorem rMoves_e2 (g1 : Grid) (v1 : List Span) (p1 : Option Addr) (c1 : Nat) (g2 : Grid) (v2 : List Span) (p2 : Option Addr) (c2 : Nat) (lv reach i j : Int) (w : World) (hv1 : Spans w p1 v1) (hv2 : Spans w p2 v2) (hpr : pairE g1 v1 g2 v2 lv reach = 0) (hmm : min i j < 0 ∨ (nP g1 v1 lv : Int) ≤ i ∨ (nP g2 v2 lv : Int) ≤ j) :
  Calls Try.prog 31 #[fieldV g1 p1 v1.length c1, fieldV g2 p2 v2.length c2, .int .i64 lv, .int .i64 reach, .int .i64 i, .int .i64 j] w fun e w' => e = .returned (.tuple #[.slice none 0 0, .int .i64 4]) ∧ St (bs w) [] w' := by
  obtain ⟨hf1, hf2, rfl, hl1, hl2, hr1, hr2⟩ := pairOk hpr
  obtain ⟨hg, hlen1, hok1,_,_⟩ := openOk (field_open (lv := lv) hf1 hl1 hl2)
  obtain ⟨_, hlen2, hok2,_,_⟩ := openOk (field_open (lv := lv) hf2 hl1 hl2)
  have har := area_le hg
  have hvl1 : v1.length = gW g1 * gH g1 := len_n hg hlen1
  have hvl2 : v2.length = gW g1 * gH g1 := len_n hg hlen2
  refine enter (vs := [_,_,_,_,_,_]) (env := [(0,_), (1,_), (2,_), (3,_), (4,_), (5,_)]) Try.func31 rfl rfl rfl rfl ?_
  refine VC.seq ?_
  refine VC.reg (VO.h rfl<|HO.box (C := #[_,_,_,_,_,_]) rfl rfl fun b1 => VO.h rfl<|HO.box (C := #[_,_,_,_,_,_]) rfl rfl fun b2 => VO.l (LO.as (.r rfl)) rfl<|VO.l (LO.as (.r rfl)) rfl<|VO.nil ?_)
  refine VE.seqN ?_
  refine VC.seq ?_
  refine VC.reg (VO.l (LO.lda (vs := [_,_,_,_,_,_]) A26 (.r rfl) (fun _ hw => cells_at hw 1 rfl ⟨_, rfl⟩) rfl) rfl<|VO.l (LO.lda (vs := [_,_,_,_,_,_]) A26 (.r rfl) (fun _ hw => cells_at hw 0 rfl ⟨_, rfl⟩) rfl) rfl<|VO.l (LO.mv (.r rfl)) rfl<|VO.l (LO.mv (.r rfl)) rfl<|VO.l (LO.call (xs := [_,_,_,_]) (vs := [_,_,_,_]) C79 ⟨(.r rfl), (.r rfl), (.r rfl), (.r rfl), trivial⟩ (fun w2 hw => rPair_c g1 v1 p1 c1 _ v2 p2 c2 lv reach w2 (hv1.keep w2 hw) (hv2.keep w2 hw))) rfl<|VO.l (LO.as (.r rfl)) rfl<|VO.nil ?_)
  refine VE.seqN ?_
  refine VC.seq ?_
  refine VC.seq ?_
  refine VC.reg (VO.l (LO.mv (.r rfl)) rfl<|VO.l (LO.ne (.r rfl) (.r rfl)) rfl<|VO.nil ?_)
  refine VE.seqN ?_
  refine VC.cond rfl (fun h23 => ?_) (fun h23 => ?_)
  ·
    (exfalso; exact h23 hpr)
  ·
    refine VC.skip (VE.seqN ?_)
    refine VC.seq ?_
    refine VC.drawH [[0,1], [0,1], [0,1], [0,1], [0,1]] [some 0, some 0, none, some 1, some 1, none, none, none] mixed (by kernel_rfl) rfl (LX.l (fun _ hJ => LO.lda (vs := [_,_,_,_,_,_]) A26 (.r rfl) (fun _ hw => cells_at (hJ _ hw) 1 rfl ⟨_, rfl⟩) rfl) rfl<|LX.l (fun _ hJ => LO.mv (.r rfl)) rfl<|LX.s<|LX.l (fun _ hJ => LO.lda (vs := [_,_,_,_,_,_]) A26 (.r rfl) (fun _ hw => cells_at (hJ _ hw) 0 rfl ⟨_, rfl⟩) rfl) rfl<|LX.l (fun _ hJ => LO.mv (.r rfl)) rfl<|LX.s<|LX.s<|LX.s<|LX.nil) (HX.s<|HX.s<|HX.h rfl<|HO.callx (xs := [_,_]) (vs := [_,_]) C60 ⟨(.r rfl), (.r rfl), trivial⟩ (fun w2 hw => rAreas_c g1 v1 p1 c1 lv w2 hg hvl1 hok1 (hv1.keep w2 hw)) fun y1 hy1 => ⟨fun _ hw => hw.sel [3,4] rfl, HX.s<|HX.s<|HX.h rfl<|HO.callx (xs := [_,_]) (vs := [_,_]) C60 ⟨(.r rfl), (.r rfl), trivial⟩ (fun w2 hw => rAreas_c g1 v2 p2 c2 lv w2 hg hvl2 hok2 (hv2.keep w2 hw)) fun y2 hy2 => ⟨fun _ hw => hw.sel [6,7] rfl, HX.h rfl<|HO.lo (LO.as (.r rfl))<|⟨fun _ hw => hw.sel [6,7] rfl, HX.h rfl<|HO.lo (LO.as (.r rfl))<|⟨fun _ hw => hw.sel [6,7] rfl, HX.nil ?_⟩⟩⟩⟩)
    rw [nP_da hy1, nP_da hy2] at hmm
    refine VE.seqN ?_
    refine VC.seq ?_
    refine VC.seq ?_
    refine VC.reg (VO.l (LO.mv (.r rfl)) rfl<|VO.l (LO.lt (.r rfl) (.r rfl)) rfl<|VO.l (LO.mv (.r rfl)) rfl<|VO.lg rfl rfl (GD.f _) (fun hg => LO.mv (.r rfl)) rfl<|VO.lg rfl rfl (GD.f _) (fun hg => LO.lt (.g hg rfl) (.r rfl)) rfl<|VO.l (LO.pkO (.r rfl) (.r rfl) rfl rfl) rfl<|VO.l (LO.mv (.r rfl)) rfl<|VO.lg rfl rfl (GD.f _) (fun hg => LO.mv (.r rfl)) rfl<|VO.lg rfl rfl (GD.f _) (fun hg => LO.mv (.r rfl)) rfl<|VO.lg rfl rfl (GD.f _) (fun hg => LO.len S33 (.g hg rfl) rfl) rfl<|VO.lg rfl rfl (GD.f _) (fun hg => LO.ge (.g hg rfl) (.g hg rfl)) rfl<|VO.l (LO.pkO (.r rfl) (.r rfl) rfl rfl) rfl<|VO.l (LO.mv (.r rfl)) rfl<|VO.lg rfl rfl (GD.f _) (fun hg => LO.mv (.r rfl)) rfl<|VO.lg rfl rfl (GD.f _) (fun hg => LO.mv (.r rfl)) rfl<|VO.lg rfl rfl (GD.f _) (fun hg => LO.len S33 (.g hg rfl) rfl) rfl<|VO.lg rfl rfl (GD.f _) (fun hg => LO.ge (.g hg rfl) (.g hg rfl)) rfl<|VO.l (LO.pkO (.r rfl) (.r rfl) rfl rfl) rfl<|VO.nil ?_)
    refine VE.seqN ?_
    refine VC.cond rfl (fun h48 => ?_) (fun h48 => ?_)
    ·
      refine VC.seq ?_
      refine VC.reg (VO.l (LO.as (.r rfl)) rfl<|VO.l (LO.as (.r rfl)) rfl<|VO.nil ?_)
      refine VE.seqN ?_
      refine VC.ret (VE.thenR (VE.res (vs := [_,_]) rfl ⟨rfl, rfl, trivial⟩ (fun w hw => ?_)))
      exact ⟨rfl, hw.nil⟩
    ·
      (exfalso; omega)

set_option maxRecDepth 20000 in
set_option maxHeartbeats 8000000 in
theorem rMoves_ok (g1 : Grid) (v1 : List Span) (p1 : Option Addr) (c1 : Nat) (g2 : Grid) (v2 : List Span) (p2 : Option Addr) (c2 : Nat) (lv : Int) (i j r : Nat) (w : World) (hv1 : Spans w p1 v1) (hv2 : Spans w p2 v2) (hmo : moveE g1 v1 g2 v2 lv r i j = 0) :
  Calls Try.prog 31 #[fieldV g1 p1 v1.length c1, fieldV g2 p2 v2.length c2, .int .i64 lv, .int .i64 (r : Int), .int .i64 (i : Int), .int .i64 (j : Int)] w fun e w' => ∃ y : SlY, True ∧ e = .returned (.tuple #[.slice y.p (movesP g1 v1 v2 lv i j r).length y.c, .int .i64 0]) ∧ St (bs w) [own 87 2 y.p y.c ((movesP g1 v1 v2 lv i j r).map Mv.cells)] w' := by
  obtain ⟨hpr, i_, j_, ei, ej, hi, hj⟩ := moveOk0 hmo
  obtain ⟨hf1, hf2, rfl, hl1, hl2, hr1, hr2⟩ := pairOk hpr
  obtain ⟨hg, hlen1, hok1,_,_⟩ := openOk (field_open (lv := lv) hf1 hl1 hl2)
  obtain ⟨_, hlen2, hok2,_,_⟩ := openOk (field_open (lv := lv) hf2 hl1 hl2)
  have har := area_le hg
  have hvl1 : v1.length = gW g1 * gH g1 := len_n hg hlen1
  have hvl2 : v2.length = gW g1 * gH g1 := len_n hg hlen2
  obtain rfl : i_ = i := by omega
  obtain rfl : j_ = j := by omega
  refine enter (vs := [_,_,_,_,_,_]) (env := [(0,_), (1,_), (2,_), (3,_), (4,_), (5,_)]) Try.func31 rfl rfl rfl rfl ?_
  refine VC.seq ?_
  refine VC.reg (VO.h rfl<|HO.box (C := #[_,_,_,_,_,_]) rfl rfl fun b1 => VO.h rfl<|HO.box (C := #[_,_,_,_,_,_]) rfl rfl fun b2 => VO.l (LO.as (.r rfl)) rfl<|VO.l (LO.as (.r rfl)) rfl<|VO.nil ?_)
  refine VE.seqN ?_
  refine VC.seq ?_
  refine VC.reg (VO.l (LO.lda (vs := [_,_,_,_,_,_]) A26 (.r rfl) (fun _ hw => cells_at hw 1 rfl ⟨_, rfl⟩) rfl) rfl<|VO.l (LO.lda (vs := [_,_,_,_,_,_]) A26 (.r rfl) (fun _ hw => cells_at hw 0 rfl ⟨_, rfl⟩) rfl) rfl<|VO.l (LO.mv (.r rfl)) rfl<|VO.l (LO.mv (.r rfl)) rfl<|VO.l (LO.call (xs := [_,_,_,_]) (vs := [_,_,_,_]) C79 ⟨(.r rfl), (.r rfl), (.r rfl), (.r rfl), trivial⟩ (fun w2 hw => rPair_c g1 v1 p1 c1 _ v2 p2 c2 lv (r : Int) w2 (hv1.keep w2 hw) (hv2.keep w2 hw))) rfl<|VO.l (LO.as (.r rfl)) rfl<|VO.nil ?_)
  refine VE.seqN ?_
  refine VC.seq ?_
  refine VC.seq ?_
  refine VC.reg (VO.l (LO.mv (.r rfl)) rfl<|VO.l (LO.ne (.r rfl) (.r rfl)) rfl<|VO.nil ?_)
  refine VE.seqN ?_
  refine VC.cond rfl (fun h23 => ?_) (fun h23 => ?_)
  ·
    (exfalso; exact h23 hpr)
  ·
    refine VC.skip (VE.seqN ?_)
    refine VC.seq ?_
    refine VC.drawH [[0,1], [0,1], [0,1], [0,1], [0,1]] [some 0, some 0, none, some 1, some 1, none, none, none] mixed (by kernel_rfl) rfl (LX.l (fun _ hJ => LO.lda (vs := [_,_,_,_,_,_]) A26 (.r rfl) (fun _ hw => cells_at (hJ _ hw) 1 rfl ⟨_, rfl⟩) rfl) rfl<|LX.l (fun _ hJ => LO.mv (.r rfl)) rfl<|LX.s<|LX.l (fun _ hJ => LO.lda (vs := [_,_,_,_,_,_]) A26 (.r rfl) (fun _ hw => cells_at (hJ _ hw) 0 rfl ⟨_, rfl⟩) rfl) rfl<|LX.l (fun _ hJ => LO.mv (.r rfl)) rfl<|LX.s<|LX.s<|LX.s<|LX.nil) (HX.s<|HX.s<|HX.h rfl<|HO.callx (xs := [_,_]) (vs := [_,_]) C60 ⟨(.r rfl), (.r rfl), trivial⟩ (fun w2 hw => rAreas_c g1 v1 p1 c1 lv w2 hg hvl1 hok1 (hv1.keep w2 hw)) fun y1 hy1 => ⟨fun _ hw => hw.sel [3,4] rfl, HX.s<|HX.s<|HX.h rfl<|HO.callx (xs := [_,_]) (vs := [_,_]) C60 ⟨(.r rfl), (.r rfl), trivial⟩ (fun w2 hw => rAreas_c g1 v2 p2 c2 lv w2 hg hvl2 hok2 (hv2.keep w2 hw)) fun y2 hy2 => ⟨fun _ hw => hw.sel [6,7] rfl, HX.h rfl<|HO.lo (LO.as (.r rfl))<|⟨fun _ hw => hw.sel [6,7] rfl, HX.h rfl<|HO.lo (LO.as (.r rfl))<|⟨fun _ hw => hw.sel [6,7] rfl, HX.nil ?_⟩⟩⟩⟩)
    refine VE.seqN ?_
    refine VC.seq ?_
    refine VC.seq ?_
    refine VC.rebase fun w1 hst1 => ?_
    have hA1 : AL w1 y1.p y1.l := AL.of_own hst1 hy1 3 4 5 rfl rfl rfl
    have hA2 : AL w1 y2.p y2.l := AL.of_own hst1 hy2 0 1 2 rfl rfl rfl
    have hfx : Cells w1 ⟨b1,0, none⟩ [.int .i64 g1.x, .int .i64 g1.y, .int .i64 g1.size, .int .i64 g1.wide, .int .i64 g1.high, .slice p1 v1.length c1] := cells_inv (hst1.inv 7 _ rfl)
    rw [nP_da hy1] at hi
    rw [nP_da hy2] at hj
    have hn1 := (da_bd hy1 har).n
    have hn2 := (da_bd hy2 har).n
    refine VC.reg (VO.l (LO.mv (.r rfl)) rfl<|VO.l (LO.lt (.r rfl) (.r rfl)) rfl<|VO.l (LO.mv (.r rfl)) rfl<|VO.lg rfl rfl (GD.f _) (fun hg => LO.mv (.r rfl)) rfl<|VO.lg rfl rfl (GD.f _) (fun hg => LO.lt (.g hg rfl) (.r rfl)) rfl<|VO.l (LO.pkO (.r rfl) (.r rfl) rfl rfl) rfl<|VO.l (LO.mv (.r rfl)) rfl<|VO.lg rfl rfl (GD.f _) (fun hg => LO.mv (.r rfl)) rfl<|VO.lg rfl rfl (GD.f _) (fun hg => LO.mv (.r rfl)) rfl<|VO.lg rfl rfl (GD.f _) (fun hg => LO.len S33 (.g hg rfl) rfl) rfl<|VO.lg rfl rfl (GD.f _) (fun hg => LO.ge (.g hg rfl) (.g hg rfl)) rfl<|VO.l (LO.pkO (.r rfl) (.r rfl) rfl rfl) rfl<|VO.l (LO.mv (.r rfl)) rfl<|VO.lg rfl rfl (GD.f _) (fun hg => LO.mv (.r rfl)) rfl<|VO.lg rfl rfl (GD.f _) (fun hg => LO.mv (.r rfl)) rfl<|VO.lg rfl rfl (GD.f _) (fun hg => LO.len S33 (.g hg rfl) rfl) rfl<|VO.lg rfl rfl (GD.f _) (fun hg => LO.ge (.g hg rfl) (.g hg rfl)) rfl<|VO.l (LO.pkO (.r rfl) (.r rfl) rfl rfl) rfl<|VO.nil ?_)
    refine VE.seqN ?_
    refine VC.cond rfl (fun h48 => ?_) (fun h48 => ?_)
    ·
      (exfalso; omega)
    ·
      obtain ⟨aa, haa⟩ := get_ex (l := y1.l) (n := i_) (by omega)
      obtain ⟨bb, hbb⟩ := get_ex (l := y2.l) (n := j_) (by omega)
      refine VC.skip (VE.seqN ?_)
      refine VC.seq ?_
      refine VC.drawH [[], [], []] [some 0, some 0, some 0, some 0, some 0, some 0, some 0, some 0, some 0, some 0, some 0, none, none, some 2] mixed (by kernel_rfl) rfl (LX.l (fun _ hJ => LO.fa (r := 0) F26_0 (.r rfl) rfl) rfl<|LX.l (fun _ hJ => LO.lda (vs := [_,_,_,_,_]) A23 (.r rfl) (cells_keep (sub_cells (off := 0) hfx ⟨_, rfl⟩)) rfl) rfl<|LX.l (fun _ hJ => LO.mv (.r rfl)) rfl<|LX.l (fun _ hJ => LO.mv (.r rfl)) rfl<|LX.l (fun _ hJ => LO.ixs S33 N135 hA1.ar.sm (.r rfl) (.r rfl) rfl (by omega)) rfl<|LX.l (fun _ hJ => LO.lda (vs := [_,_,_,_,_,_,_,_]) A135 (.r rfl) (fun w hw => cells_part (off := 0) ((fun w3 h3 => RO.cel (hA1.ar.keep w3 h3) haa) w (hJ _ hw)) ⟨_, rfl⟩) rfl) rfl<|LX.l (fun _ hJ => LO.mv (.r rfl)) rfl<|LX.l (fun _ hJ => LO.mv (.r rfl)) rfl<|LX.l (fun _ hJ => LO.ixs S33 N135 hA2.ar.sm (.r rfl) (.r rfl) rfl (by omega)) rfl<|LX.l (fun _ hJ => LO.lda (vs := [_,_,_,_,_,_,_,_]) A135 (.r rfl) (fun w hw => cells_part (off := 0) ((fun w3 h3 => RO.cel (hA2.ar.keep w3 h3) hbb) w (hJ _ hw)) ⟨_, rfl⟩) rfl) rfl<|LX.l (fun _ hJ => LO.mv (.r rfl)) rfl<|LX.s<|LX.s<|LX.l (fun _ hJ => LO.as (.r rfl)) rfl<|LX.nil) (HX.s<|HX.s<|HX.s<|HX.s<|HX.s<|HX.s<|HX.s<|HX.s<|HX.s<|HX.s<|HX.s<|HX.h rfl<|HO.callx (xs := [_,_,_,_]) (vs := [_,_,_,_]) C82 ⟨(.r rfl), (.r rfl), (.r rfl), (.r rfl), trivial⟩ (fun w2 hw => rMoves_c g1 aa bb (ofL (gW g1) (gH g1) (mayB v1 lv)) (ofL (gW g1) (gH g1) (mayB v2 lv)) i_ j_ r w2 hg ((hA1.kr aa (List.mem_of_getElem? haa)).keep w2 hw) ((hA2.kr bb (List.mem_of_getElem? hbb)).keep w2 hw) ((hA1.px aa (List.mem_of_getElem? haa)).keep w2 hw) ((hA2.px bb (List.mem_of_getElem? hbb)).keep w2 hw) (krOk_m hy1 (List.mem_of_getElem? haa)) (krOk_m hy2 (List.mem_of_getElem? hbb)) ((da_bd hy1 har).px aa (List.mem_of_getElem? haa)) ((da_bd hy2 har).px bb (List.mem_of_getElem? hbb)) (of_mem hy1 haa) (of_mem hy2 hbb) (by omega)) fun y _ => ⟨fun _ hw => hw.sel [] rfl, HX.h rfl<|HO.lo (LO.as (.r rfl))<|⟨fun _ hw => hw.sel [] rfl, HX.s<|HX.nil ?_⟩⟩)
      refine VE.seqN ?_
      refine VC.ret (VE.res (vs := [_,_]) rfl ⟨rfl, rfl, trivial⟩ (fun w hw => ?_))
      have hf := hst1.call hw
      have em : movesP g1 v1 v2 lv i_ j_ r = movesM (gW g1) (gH g1) (aa.kr.map RowA.l) (bb.kr.map RowA.l) (ofL (gW g1) (gH g1) (mayB v1 lv)) (ofL (gW g1) (gH g1) (mayB v2 lv)) i_ j_ r := by unfold movesP; rw [ksAt_da hy1 haa, ksAt_da hy2 hbb]
      rw [← em] at hf
      exact ⟨y, trivial, by rw [em]; rfl, selK [0] rfl rfl _ hf⟩

end Go.Proofs.Ytgemekpofpoopaa

namespace Go.Proofs.Ytgemekpofpoopaa
open Go.SL Go.Proofs Go.Cast Go.Cell
set_option linter.unusedVariables false

theorem C28 : IsFn Try.prog 28 := ⟨_, Try.func28, by decide, rfl⟩
theorem C29 : IsFn Try.prog 29 := ⟨_, Try.func29, by decide, rfl⟩
theorem C31 : IsFn Try.prog 31 := ⟨_, Try.func31, by decide, rfl⟩
theorem C32 : IsFn Try.prog 32 := ⟨_, Try.func32, by decide, rfl⟩


theorem evP_uniq {W H r n m : Nat} {oa ob : List Int} {l l2 : List EvM} (h : EvP W H r oa ob n m l) (k : EvP W H r oa ob n m l2) : l = l2 := by
  obtain ⟨ld, h1, rfl⟩ := h.ex
  obtain ⟨ld2, h2, rfl⟩ := k.ex
  exact evsM_congr fun i j _ _ => (h1 _ _).trans (h2 _ _).symm
structure EbY where
  l : List EvR
  p : Option Addr
  c : Nat
  R : List Res
structure EbP (g1 : Grid) (v1 : List Span) (g2 : Grid) (v2 : List Span) (lv reach : Int) (y : EbY) : Prop where
  ok : pairE g1 v1 g2 v2 lv reach = 0 → EvP (gW g1) (gH g1) reach.toNat (ofL (gW g1) (gH g1) (mayB v1 lv)) (ofL (gW g1) (gH g1) (mayB v2 lv)) (nP g1 v1 lv) (nP g1 v2 lv) (y.l.map EvR.m)
  no : pairE g1 v1 g2 v2 lv reach ≠ 0 → y.l = []
  rd : ∀ w : World, (∀ r, r ∈ y.R → r.inv w) → EvI w y.p y.l
  n : y.l.length ≤ 1000000
  f : ∀ e, e ∈ y.l → e.f.length ≤ 1000000 ∧ e.t.length ≤ 1000000
theorem eb_same {g1 g2 : Grid} {v1 v2 : List Span} {lv reach : Int} {y z : EbY} (h : EbP g1 v1 g2 v2 lv reach y) (k : EbP g1 v1 g2 v2 lv reach z) : y.l.map EvR.m = z.l.map EvR.m := by
  by_cases e : pairE g1 v1 g2 v2 lv reach = 0
  · exact evP_uniq (h.ok e) (k.ok e)
  · rw [h.no e, k.no e]
theorem nP_le {g : Grid} {vs : List Span} {lv : Int} (hW : gW g * gH g ≤ 4096) : nP g vs lv ≤ 4096 := by
  have := parts_len (W := gW g) (H := gH g) (S := mayB vs lv) (p := gW g * gH g)
  unfold nP partsL; omega
theorem ev_bds {W H r n m : Nat} {oa ob : List Int} {l : List EvR} (h : EvP W H r oa ob n m (l.map EvR.m)) (hn : n ≤ 4096) (hm : m ≤ 4096) : l.length ≤ 1000000 ∧ ∀ e, e ∈ l → e.f.length ≤ 1000000 ∧ e.t.length ≤ 1000000 := by
  have hg := h.good
  refine ⟨?_, fun e he => ?_⟩
  · have := hg.lenE
    rw [List.length_map] at this; omega
  · have := hg.lenF (List.mem_map_of_mem (f := EvR.m) he)
    have h1 : e.f.length ≤ n := this.1
    have h2 : e.t.length ≤ m := this.2
    omega
theorem evi_inv {w : World} {T : Nat} {l : List EvR} {p : Option Addr} {c : Nat} (h : ∀ r, r ∈ [own T 3 p c (l.map EvR.cells), bagD (l.map EvR.fR), bagD (l.map EvR.tR)] → r.inv w) : EvI w p l :=
  ⟨own_inv_ro (h (own T 3 p c (l.map EvR.cells)) (by simp)), fun e he => own_inv_ro ((h (bagD (l.map EvR.fR)) (by simp)).1 _ (List.mem_map_of_mem (f := EvR.fR) he)), fun e he => own_inv_ro ((h (bagD (l.map EvR.tR)) (by simp)).1 _ (List.mem_map_of_mem (f := EvR.tR) he))⟩
theorem evi_nil (w : World) : EvI w none [] := ⟨⟨by simp, fun _ => rfl, fun h => absurd rfl h⟩, by simp, by simp⟩
theorem Match_b (g1 : Grid) (v1 : List Span) (p1 : Option Addr) (c1 : Nat) (g2 : Grid) (v2 : List Span) (p2 : Option Addr) (c2 : Nat) (lv reach : Int) (w : World) (hv1 : Spans w p1 v1) (hv2 : Spans w p2 v2) :
  Calls Try.prog 27 #[fieldV g1 p1 v1.length c1, fieldV g2 p2 v2.length c2, .int .i64 lv, .int .i64 reach] w fun e w' => ∃ y : EbY, EbP g1 v1 g2 v2 lv reach y ∧ e = .returned (.tuple #[.slice y.p y.l.length y.c, .int .i64 (pairE g1 v1 g2 v2 lv reach)]) ∧ St (bs w) [bagD y.R] w' := by
  by_cases h : pairE g1 v1 g2 v2 lv reach = 0
  · obtain ⟨hf1,_,_, hl1, hl2, hr1,_⟩ := pairOk h
    have hle := grid_le (field_open (lv := lv) hf1 hl1 hl2)
    obtain ⟨r, rfl⟩ : ∃ r : Nat, reach = r := ⟨reach.toNat, by omega⟩
    refine (Match_ok g1 v1 p1 c1 g2 v2 p2 c2 lv r w hv1 hv2 h).mono fun e w' ⟨y, h1, h2, h3⟩ => ⟨⟨y.l, y.p, y.c, y.R⟩, ⟨fun _ => h1, fun z => absurd h z, fun w k => evi_inv k, (ev_bds h1 (nP_le hle) (nP_le hle)).1, (ev_bds h1 (nP_le hle) (nP_le hle)).2⟩, by rw [h2, h], st_bag h3⟩
  · refine (Match_e g1 v1 p1 c1 g2 v2 p2 c2 lv reach w hv1 hv2 h).mono fun e w' ⟨h2, h3⟩ => ⟨⟨[], none, 0, []⟩, ⟨fun z => absurd z h, fun _ => rfl, fun w k => evi_nil w, Nat.zero_le _, by simp⟩, h2, st_bag h3⟩
theorem rMatch_b (g1 : Grid) (v1 : List Span) (p1 : Option Addr) (c1 : Nat) (g2 : Grid) (v2 : List Span) (p2 : Option Addr) (c2 : Nat) (lv reach : Int) (w : World) (hv1 : Spans w p1 v1) (hv2 : Spans w p2 v2) :
  Calls Try.prog 28 #[fieldV g1 p1 v1.length c1, fieldV g2 p2 v2.length c2, .int .i64 lv, .int .i64 reach] w fun e w' => ∃ y : EbY, EbP g1 v1 g2 v2 lv reach y ∧ e = .returned (.tuple #[.slice y.p y.l.length y.c, .int .i64 (pairE g1 v1 g2 v2 lv reach)]) ∧ St (bs w) [bagD y.R] w' := by
  by_cases h : pairE g1 v1 g2 v2 lv reach = 0
  · obtain ⟨hf1,_,_, hl1, hl2, hr1,_⟩ := pairOk h
    have hle := grid_le (field_open (lv := lv) hf1 hl1 hl2)
    obtain ⟨r, rfl⟩ : ∃ r : Nat, reach = r := ⟨reach.toNat, by omega⟩
    refine (rMatch_ok g1 v1 p1 c1 g2 v2 p2 c2 lv r w hv1 hv2 h).mono fun e w' ⟨y, h1, h2, h3⟩ => ⟨⟨y.l, y.p, y.c, [own 157 3 y.p y.c (y.l.map EvR.cells), bagD (y.l.map EvR.fR), bagD (y.l.map EvR.tR)]⟩, ⟨fun _ => h1, fun z => absurd h z, fun w k => evi_inv k, (ev_bds h1 (nP_le hle) (nP_le hle)).1, (ev_bds h1 (nP_le hle) (nP_le hle)).2⟩, by rw [h2, h], st_bag h3⟩
  · refine (rMatch_e g1 v1 p1 c1 g2 v2 p2 c2 lv reach w hv1 hv2 h).mono fun e w' ⟨h2, h3⟩ => ⟨⟨[], none, 0, []⟩, ⟨fun z => absurd z h, fun _ => rfl, fun w k => evi_nil w, Nat.zero_le _, by simp⟩, h2, st_bag h3⟩
def mvB (g1 : Grid) (v1 : List Span) (g2 : Grid) (v2 : List Span) (lv reach i j : Int) : List Mv := if moveE g1 v1 g2 v2 lv reach i j = 0 then movesP g1 v1 v2 lv i.toNat j.toNat reach.toNat else []
theorem ro_mv {T : Nat} {w : World} {p : Option Addr} {c : Nat} {l : List Mv} (h : ∀ r, r ∈ [own T 2 p c (l.map Mv.cells)] → r.inv w) : RO 2 Mv.cells w p l := own_inv_ro (h (own T 2 p c (l.map Mv.cells)) (by simp))
theorem ro_mv0 (w : World) : RO 2 Mv.cells w none [] := ⟨by simp, fun _ => rfl, fun h => absurd rfl h⟩
structure MbY where
  p : Option Addr
  c : Nat
  R : List Res
theorem mv_size {g1 : Grid} {v1 v2 : List Span} {lv : Int} {i j r : Nat} (hr : r ≤ 8) : (movesP g1 v1 v2 lv i j r).length ≤ 1000000 := by
  unfold movesP movesM
  have := mv_le hr
  exact Nat.le_trans movesTo_len (by omega)
theorem mvB_size {g1 g2 : Grid} {v1 v2 : List Span} {lv reach i j : Int} : (mvB g1 v1 g2 v2 lv reach i j).length ≤ 1000000 := by
  unfold mvB
  split
  · rename_i h
    obtain ⟨hpr,_⟩ := moveOk0 h
    obtain ⟨_,_,_,_,_, h1, h2⟩ := pairOk hpr
    exact mv_size (by omega)
  · exact Nat.zero_le _
theorem Moves_b (g1 : Grid) (v1 : List Span) (p1 : Option Addr) (c1 : Nat) (g2 : Grid) (v2 : List Span) (p2 : Option Addr) (c2 : Nat) (lv reach i j : Int) (w : World) (hv1 : Spans w p1 v1) (hv2 : Spans w p2 v2) :
  Calls Try.prog 30 #[fieldV g1 p1 v1.length c1, fieldV g2 p2 v2.length c2, .int .i64 lv, .int .i64 reach, .int .i64 i, .int .i64 j] w fun e w' => ∃ y : MbY, (∀ w : World, (∀ r, r ∈ y.R → r.inv w) → RO 2 Mv.cells w y.p (mvB g1 v1 g2 v2 lv reach i j)) ∧ e = .returned (.tuple #[.slice y.p (mvB g1 v1 g2 v2 lv reach i j).length y.c, .int .i64 (moveE g1 v1 g2 v2 lv reach i j)]) ∧ St (bs w) [bagD y.R] w' := by
  by_cases h : moveE g1 v1 g2 v2 lv reach i j = 0
  · obtain ⟨hpr, a, b, rfl, rfl,_,_⟩ := moveOk0 h
    obtain ⟨_,_,_,_,_, h1, h2⟩ := pairOk hpr
    obtain ⟨r, rfl⟩ : ∃ r : Nat, reach = r := ⟨reach.toNat, by omega⟩
    have e : mvB g1 v1 g2 v2 lv r a b = movesP g1 v1 v2 lv a b r := if_pos h
    rw [e]
    refine (Moves_ok g1 v1 p1 c1 g2 v2 p2 c2 lv a b r w hv1 hv2 h).mono fun e w' ⟨y,_, h2, h3⟩ => ⟨⟨y.p, y.c, [own 85 2 y.p y.c ((movesP g1 v1 v2 lv a b r).map Mv.cells)]⟩, fun w k => ro_mv k, by rw [h2, h], st_bag h3⟩
  · have e0 : mvB g1 v1 g2 v2 lv reach i j = [] := if_neg h
    rw [e0]
    by_cases hpr : pairE g1 v1 g2 v2 lv reach = 0
    · have hmm := moveNo h hpr
      refine (Moves_e2 g1 v1 p1 c1 g2 v2 p2 c2 lv reach i j w hv1 hv2 hpr hmm).mono fun e w' ⟨h2, h3⟩ => ⟨⟨none, 0, []⟩, fun w k => ro_mv0 w, by rw [h2, ← mE2 hpr hmm]; rfl, st_bag h3⟩
    · refine (Moves_e1 g1 v1 p1 c1 g2 v2 p2 c2 lv reach i j w hv1 hv2 hpr).mono fun e w' ⟨h2, h3⟩ => ⟨⟨none, 0, []⟩, fun w k => ro_mv0 w, by rw [h2, mE1 (i := i) (j := j) hpr]; rfl, st_bag h3⟩
theorem rMoves_b (g1 : Grid) (v1 : List Span) (p1 : Option Addr) (c1 : Nat) (g2 : Grid) (v2 : List Span) (p2 : Option Addr) (c2 : Nat) (lv reach i j : Int) (w : World) (hv1 : Spans w p1 v1) (hv2 : Spans w p2 v2) :
  Calls Try.prog 31 #[fieldV g1 p1 v1.length c1, fieldV g2 p2 v2.length c2, .int .i64 lv, .int .i64 reach, .int .i64 i, .int .i64 j] w fun e w' => ∃ y : MbY, (∀ w : World, (∀ r, r ∈ y.R → r.inv w) → RO 2 Mv.cells w y.p (mvB g1 v1 g2 v2 lv reach i j)) ∧ e = .returned (.tuple #[.slice y.p (mvB g1 v1 g2 v2 lv reach i j).length y.c, .int .i64 (moveE g1 v1 g2 v2 lv reach i j)]) ∧ St (bs w) [bagD y.R] w' := by
  by_cases h : moveE g1 v1 g2 v2 lv reach i j = 0
  · obtain ⟨hpr, a, b, rfl, rfl,_,_⟩ := moveOk0 h
    obtain ⟨_,_,_,_,_, h1, h2⟩ := pairOk hpr
    obtain ⟨r, rfl⟩ : ∃ r : Nat, reach = r := ⟨reach.toNat, by omega⟩
    have e : mvB g1 v1 g2 v2 lv r a b = movesP g1 v1 v2 lv a b r := if_pos h
    rw [e]
    refine (rMoves_ok g1 v1 p1 c1 g2 v2 p2 c2 lv a b r w hv1 hv2 h).mono fun e w' ⟨y,_, h2, h3⟩ => ⟨⟨y.p, y.c, [own 87 2 y.p y.c ((movesP g1 v1 v2 lv a b r).map Mv.cells)]⟩, fun w k => ro_mv k, by rw [h2, h], st_bag h3⟩
  · have e0 : mvB g1 v1 g2 v2 lv reach i j = [] := if_neg h
    rw [e0]
    by_cases hpr : pairE g1 v1 g2 v2 lv reach = 0
    · have hmm := moveNo h hpr
      refine (rMoves_e2 g1 v1 p1 c1 g2 v2 p2 c2 lv reach i j w hv1 hv2 hpr hmm).mono fun e w' ⟨h2, h3⟩ => ⟨⟨none, 0, []⟩, fun w k => ro_mv0 w, by rw [h2, ← mE2 hpr hmm]; rfl, st_bag h3⟩
    · refine (rMoves_e1 g1 v1 p1 c1 g2 v2 p2 c2 lv reach i j w hv1 hv2 hpr).mono fun e w' ⟨h2, h3⟩ => ⟨⟨none, 0, []⟩, fun w k => ro_mv0 w, by rw [h2, mE1 (i := i) (j := j) hpr]; rfl, st_bag h3⟩
theorem ev_at {l m : List EvR} {i : Nat} {a b : EvR} (h : l.map EvR.m = m.map EvR.m) (ha : l[i]? = some a) (hb : m[i]? = some b) : a.kd = b.kd ∧ a.f = b.f ∧ a.t = b.t := by
  have e := congrArg (fun l => l[i]?) h
  simp only [List.getElem?_map, ha, hb, Option.map_some, Option.some.injEq] at e
  exact ⟨congrArg EvM.kd e, congrArg EvM.f e, congrArg EvM.t e⟩
theorem ev_len2 {l m : List EvR} (h : l.map EvR.m = m.map EvR.m) : l.length = m.length := by have := congrArg List.length h; rwa [List.length_map, List.length_map] at this

set_option maxRecDepth 20000 in
set_option maxHeartbeats 8000000 in
theorem evEq_c (la lb : List EvR) (pa : Option Addr) (ca : Nat) (pb_ : Option Addr) (cb : Nat) (w : World) (ha : EvI w pa la) (hb : EvI w pb_ lb) (hE : la.map EvR.m = lb.map EvR.m) (hn : la.length ≤ 1000000) (hl : ∀ e, e ∈ la → e.f.length ≤ 1000000 ∧ e.t.length ≤ 1000000) :
  Calls Try.prog 29 #[.slice pa la.length ca, .slice pb_ lb.length cb] w fun e w' => e = .returned (.bool true) ∧ St (bs w) [] w' := by
  have hlen := ev_len2 hE
  refine enter (vs := [_,_]) (env := [(0,_), (1,_)]) Try.func29 rfl rfl rfl rfl ?_
  refine VC.seq ?_
  refine VC.reg (VO.l (LO.as (.r rfl)) rfl<|VO.nil ?_)
  refine VE.seqN ?_
  refine VC.seq ?_
  refine VC.seq ?_
  refine VC.reg (VO.l (LO.mv (.r rfl)) rfl<|VO.l (LO.len S46 (.r rfl) rfl) rfl<|VO.l (LO.mv (.r rfl)) rfl<|VO.l (LO.len S49 (.r rfl) rfl) rfl<|VO.l (LO.ne (.r rfl) (.r rfl)) rfl<|VO.nil ?_)
  refine VE.seqN ?_
  refine VC.cond rfl (fun h10 => ?_) (fun h10 => ?_)
  ·
    (exfalso; omega)
  ·
    refine VC.skip (VE.seqN ?_)
    refine VC.seq ?_
    refine VC.seq ?_
    refine VC.reg (VO.l (LO.as (.r rfl)) rfl<|VO.nil ?_)
    refine VE.seqN ?_
    refine VC.block ?_
    refine VC.loopK (α := Nat) 0 (fun gx => [(5, .int .i64 (gx : Nat))]) [(0,_), (1,_)] (fun gx => []) (fun gx => gx ≤ la.length) (fun gx => la.length - gx) 0 (by exact Nat.zero_le _) (.cons rfl (.cons rfl (.cons rfl .nil))) (fun _ h => h) ?_
    rintro i hi
    refine VC.seq ?_
    refine VC.seq ?_
    refine VC.reg (VO.l (LO.mv (.r rfl)) rfl<|VO.l (LO.mv (.r rfl)) rfl<|VO.l (LO.len S46 (.r rfl) rfl) rfl<|VO.l (LO.lt (.r rfl) (.r rfl)) rfl<|VO.nil ?_)
    refine VE.seqN ?_
    refine VC.cond rfl (fun h14 => ?_) (fun h14 => ?_)
    ·
      obtain ⟨a, hai⟩ := get_ex (l := la) (n := i) (by omega)
      obtain ⟨b, hbi⟩ := get_ex (l := lb) (n := i) (by omega)
      obtain ⟨e1, e2, e3⟩ := ev_at hE hai hbi
      refine VC.skip (VE.seqN ?_)
      refine VC.seq ?_
      refine VC.block ?_
      refine VC.seq ?_
      refine VC.draw mixed (LL.l (LO.mv (.r rfl)) rfl<|LL.l (LO.mv (.r rfl)) rfl<|LL.l (LO.ixs S46 N81 ha.ev.sm (.r rfl) (.r rfl) rfl (by omega)) rfl<|LL.l (LO.fa F81_0 (.r rfl) rfl) rfl<|LL.l (LO.ld O3 (.r rfl) (fun w hw => cells_part (off := 0) ((fun w3 h3 => RO.cel (ha.keep w3 h3).ev hai) w hw) ⟨_, rfl⟩)) rfl<|LL.l (LO.mv (.r rfl)) rfl<|LL.l (LO.mv (.r rfl)) rfl<|LL.l (LO.ixs S49 N157 hb.ev.sm (.r rfl) (.r rfl) rfl (by omega)) rfl<|LL.l (LO.fa F157_0 (.r rfl) rfl) rfl<|LL.l (LO.ld O3 (.r rfl) (fun w hw => cells_part (off := 0) ((fun w3 h3 => RO.cel (hb.keep w3 h3).ev hbi) w hw) ⟨_, rfl⟩)) rfl<|LL.l (LO.ne (.r rfl) (.r rfl)) rfl<|LL.l (LO.mv (.r rfl)) rfl<|LL.lg rfl rfl (GD.f _) (fun hg => LO.mv (.r rfl)) rfl<|LL.lg rfl rfl (GD.f _) (fun hg => LO.mv (.r rfl)) rfl<|LL.lg rfl rfl (GD.f _) (fun hg => LO.ixs S46 N81 ha.ev.sm (.g hg rfl) (.g hg rfl) rfl (by omega)) rfl<|LL.lg rfl rfl (GD.f _) (fun hg => LO.fa F81_1 (.g hg rfl) rfl) rfl<|LL.lg rfl rfl (GD.f _) (fun hg => LO.ld O40 (.g hg rfl) (fun w hw => cells_part (off := 1) ((fun w3 h3 => RO.cel (ha.keep w3 h3).ev hai) w hw) ⟨_, rfl⟩)) rfl<|LL.lg rfl rfl (GD.f _) (fun hg => LO.mv (.r rfl)) rfl<|LL.lg rfl rfl (GD.f _) (fun hg => LO.mv (.r rfl)) rfl<|LL.lg rfl rfl (GD.f _) (fun hg => LO.ixs S49 N157 hb.ev.sm (.g hg rfl) (.g hg rfl) rfl (by omega)) rfl<|LL.lg rfl rfl (GD.f _) (fun hg => LO.fa F157_1 (.g hg rfl) rfl) rfl<|LL.lg rfl rfl (GD.f _) (fun hg => LO.ld O40 (.g hg rfl) (fun w hw => cells_part (off := 1) ((fun w3 h3 => RO.cel (hb.keep w3 h3).ev hbi) w hw) ⟨_, rfl⟩)) rfl<|LL.lg rfl rfl (GD.f _) (fun hg => LO.call (xs := [_,_]) (vs := [_,_]) C40 ⟨(.g hg rfl), (.g hg rfl), trivial⟩ (fun w2 hw => numbers_k a.f b.f a.fp a.fc b.fp b.fc w2 ((ha.f a (List.mem_of_getElem? hai)).keep w2 hw) ((hb.f b (List.mem_of_getElem? hbi)).keep w2 hw) (hl a (List.mem_of_getElem? hai)).1)) rfl<|LL.lg rfl rfl (GD.f _) (fun hg => LO.not (.g hg rfl)) rfl<|LL.l (LO.pkO (.r rfl) (.r rfl) rfl rfl) rfl<|LL.l (LO.mv (.r rfl)) rfl<|LL.lg rfl rfl (GD.f _) (fun hg => LO.mv (.r rfl)) rfl<|LL.lg rfl rfl (GD.f _) (fun hg => LO.mv (.r rfl)) rfl<|LL.lg rfl rfl (GD.f _) (fun hg => LO.ixs S46 N81 ha.ev.sm (.g hg rfl) (.g hg rfl) rfl (by omega)) rfl<|LL.lg rfl rfl (GD.f _) (fun hg => LO.fa F81_2 (.g hg rfl) rfl) rfl<|LL.lg rfl rfl (GD.f _) (fun hg => LO.ld O40 (.g hg rfl) (fun w hw => cells_part (off := 2) ((fun w3 h3 => RO.cel (ha.keep w3 h3).ev hai) w hw) ⟨_, rfl⟩)) rfl<|LL.lg rfl rfl (GD.f _) (fun hg => LO.mv (.r rfl)) rfl<|LL.lg rfl rfl (GD.f _) (fun hg => LO.mv (.r rfl)) rfl<|LL.lg rfl rfl (GD.f _) (fun hg => LO.ixs S49 N157 hb.ev.sm (.g hg rfl) (.g hg rfl) rfl (by omega)) rfl<|LL.lg rfl rfl (GD.f _) (fun hg => LO.fa F157_2 (.g hg rfl) rfl) rfl<|LL.lg rfl rfl (GD.f _) (fun hg => LO.ld O40 (.g hg rfl) (fun w hw => cells_part (off := 2) ((fun w3 h3 => RO.cel (hb.keep w3 h3).ev hbi) w hw) ⟨_, rfl⟩)) rfl<|LL.lg rfl rfl (GD.f _) (fun hg => LO.call (xs := [_,_]) (vs := [_,_]) C40 ⟨(.g hg rfl), (.g hg rfl), trivial⟩ (fun w2 hw => numbers_k a.t b.t a.tp a.tc b.tp b.tc w2 ((ha.t a (List.mem_of_getElem? hai)).keep w2 hw) ((hb.t b (List.mem_of_getElem? hbi)).keep w2 hw) (hl a (List.mem_of_getElem? hai)).2)) rfl<|LL.lg rfl rfl (GD.f _) (fun hg => LO.not (.g hg rfl)) rfl<|LL.l (LO.pkO (.r rfl) (.r rfl) rfl rfl) rfl<|LL.nil) (by kernel_rfl) ?_
      refine VE.seqN ?_
      refine VC.cond rfl (fun h55 => ?_) (fun h55 => ?_)
      ·
        (exfalso; simp [e1, e2, e3] at h55)
      ·
        refine VC.skip (VE.inN (VE.seqN ?_))
        refine VC.reg (VO.l (LO.mv (.r rfl)) rfl<|VO.l (LO.add (.r rfl) (.r rfl) (wi (by omega) (by omega))) rfl<|VO.l (LO.as (.r rfl)) rfl<|VO.nil ?_)
        refine VE.thenN fun a w ha hw => ⟨i + 1, (by omega), (by omega), ha.sub (.cons rfl (.cons rfl (.cons rfl .nil))), hw⟩
    ·
      refine VC.exit (VE.thenX (VE.thenX (VE.inX (VE.seqN ?_))))
      refine VC.seq ?_
      refine VC.reg (VO.l (LO.as (.r rfl)) rfl<|VO.nil ?_)
      refine VE.seqN ?_
      refine VC.ret (VE.res (vs := [_]) rfl ⟨rfl, trivial⟩ (fun w hw => ?_))
      exact ⟨rfl, hw.nil⟩

set_option maxRecDepth 20000 in
set_option maxHeartbeats 8000000 in
theorem mvEq_c (l : List Mv) (pa : Option Addr) (ca : Nat) (pb_ : Option Addr) (cb : Nat) (w : World) (ha : RO 2 Mv.cells w pa l) (hb : RO 2 Mv.cells w pb_ l) (hn : l.length ≤ 1000000) :
  Calls Try.prog 32 #[.slice pa l.length ca, .slice pb_ l.length cb] w fun e w' => e = .returned (.bool true) ∧ St (bs w) [] w' := by
  refine enter (vs := [_,_]) (env := [(0,_), (1,_)]) Try.func32 rfl rfl rfl rfl ?_
  refine VC.seq ?_
  refine VC.reg (VO.l (LO.as (.r rfl)) rfl<|VO.nil ?_)
  refine VE.seqN ?_
  refine VC.seq ?_
  refine VC.seq ?_
  refine VC.reg (VO.l (LO.mv (.r rfl)) rfl<|VO.l (LO.len S53 (.r rfl) rfl) rfl<|VO.l (LO.mv (.r rfl)) rfl<|VO.l (LO.len S56 (.r rfl) rfl) rfl<|VO.l (LO.ne (.r rfl) (.r rfl)) rfl<|VO.nil ?_)
  refine VE.seqN ?_
  refine VC.cond rfl (fun h10 => ?_) (fun h10 => ?_)
  ·
    (exfalso; omega)
  ·
    refine VC.skip (VE.seqN ?_)
    refine VC.seq ?_
    refine VC.seq ?_
    refine VC.reg (VO.l (LO.as (.r rfl)) rfl<|VO.nil ?_)
    refine VE.seqN ?_
    refine VC.block ?_
    refine VC.loopK (α := Nat) 0 (fun gx => [(5, .int .i64 (gx : Nat))]) [(0,_), (1,_)] (fun gx => []) (fun gx => gx ≤ l.length) (fun gx => l.length - gx) 0 (by exact Nat.zero_le _) (.cons rfl (.cons rfl (.cons rfl .nil))) (fun _ h => h) ?_
    rintro i hi
    refine VC.seq ?_
    refine VC.seq ?_
    refine VC.reg (VO.l (LO.mv (.r rfl)) rfl<|VO.l (LO.mv (.r rfl)) rfl<|VO.l (LO.len S53 (.r rfl) rfl) rfl<|VO.l (LO.lt (.r rfl) (.r rfl)) rfl<|VO.nil ?_)
    refine VE.seqN ?_
    refine VC.cond rfl (fun h14 => ?_) (fun h14 => ?_)
    ·
      obtain ⟨a, hai⟩ := get_ex (l := l) (n := i) (by omega)
      refine VC.skip (VE.seqN ?_)
      refine VC.seq ?_
      refine VC.block ?_
      refine VC.seq ?_
      refine VC.draw mixed (LL.l (LO.mv (.r rfl)) rfl<|LL.l (LO.mv (.r rfl)) rfl<|LL.l (LO.ixs S53 N85 ha.sm (.r rfl) (.r rfl) rfl (by omega)) rfl<|LL.l (LO.fa F85_0 (.r rfl) rfl) rfl<|LL.l (LO.ld O3 (.r rfl) (fun w hw => cells_part (off := 0) ((fun w3 h3 => RO.cel (ha.keep w3 h3) hai) w hw) ⟨_, rfl⟩)) rfl<|LL.l (LO.mv (.r rfl)) rfl<|LL.l (LO.mv (.r rfl)) rfl<|LL.l (LO.ixs S56 N87 hb.sm (.r rfl) (.r rfl) rfl (by omega)) rfl<|LL.l (LO.fa F87_0 (.r rfl) rfl) rfl<|LL.l (LO.ld O3 (.r rfl) (fun w hw => cells_part (off := 0) ((fun w3 h3 => RO.cel (hb.keep w3 h3) hai) w hw) ⟨_, rfl⟩)) rfl<|LL.l (LO.ne (.r rfl) (.r rfl)) rfl<|LL.l (LO.mv (.r rfl)) rfl<|LL.lg rfl rfl (GD.f _) (fun hg => LO.mv (.r rfl)) rfl<|LL.lg rfl rfl (GD.f _) (fun hg => LO.mv (.r rfl)) rfl<|LL.lg rfl rfl (GD.f _) (fun hg => LO.ixs S53 N85 ha.sm (.g hg rfl) (.g hg rfl) rfl (by omega)) rfl<|LL.lg rfl rfl (GD.f _) (fun hg => LO.fa F85_1 (.g hg rfl) rfl) rfl<|LL.lg rfl rfl (GD.f _) (fun hg => LO.ld O3 (.g hg rfl) (fun w hw => cells_part (off := 1) ((fun w3 h3 => RO.cel (ha.keep w3 h3) hai) w hw) ⟨_, rfl⟩)) rfl<|LL.lg rfl rfl (GD.f _) (fun hg => LO.mv (.r rfl)) rfl<|LL.lg rfl rfl (GD.f _) (fun hg => LO.mv (.r rfl)) rfl<|LL.lg rfl rfl (GD.f _) (fun hg => LO.ixs S56 N87 hb.sm (.g hg rfl) (.g hg rfl) rfl (by omega)) rfl<|LL.lg rfl rfl (GD.f _) (fun hg => LO.fa F87_1 (.g hg rfl) rfl) rfl<|LL.lg rfl rfl (GD.f _) (fun hg => LO.ld O3 (.g hg rfl) (fun w hw => cells_part (off := 1) ((fun w3 h3 => RO.cel (hb.keep w3 h3) hai) w hw) ⟨_, rfl⟩)) rfl<|LL.lg rfl rfl (GD.f _) (fun hg => LO.ne (.g hg rfl) (.g hg rfl)) rfl<|LL.l (LO.pkO (.r rfl) (.r rfl) rfl rfl) rfl<|LL.nil) (by kernel_rfl) ?_
      refine VE.seqN ?_
      refine VC.cond rfl (fun h40 => ?_) (fun h40 => ?_)
      ·
        (exfalso; simp at h40)
      ·
        refine VC.skip (VE.inN (VE.seqN ?_))
        refine VC.reg (VO.l (LO.mv (.r rfl)) rfl<|VO.l (LO.add (.r rfl) (.r rfl) (wi (by omega) (by omega))) rfl<|VO.l (LO.as (.r rfl)) rfl<|VO.nil ?_)
        refine VE.thenN fun a w ha hw => ⟨i + 1, (by omega), (by omega), ha.sub (.cons rfl (.cons rfl (.cons rfl .nil))), hw⟩
    ·
      refine VC.exit (VE.thenX (VE.thenX (VE.inX (VE.seqN ?_))))
      refine VC.seq ?_
      refine VC.reg (VO.l (LO.as (.r rfl)) rfl<|VO.nil ?_)
      refine VE.seqN ?_
      refine VC.ret (VE.res (vs := [_]) rfl ⟨rfl, trivial⟩ (fun w hw => ?_))
      exact ⟨rfl, hw.nil⟩

set_option maxRecDepth 20000 in
set_option maxHeartbeats 8000000 in
theorem CellPairs_c (g1 : Grid) (v1 : List Span) (p1 : Option Addr) (c1 : Nat) (g2 : Grid) (v2 : List Span) (p2 : Option Addr) (c2 : Nat) (lv reach i j : Int) (w : World) (hv1 : Spans w p1 v1) (hv2 : Spans w p2 v2) :
  Calls Try.prog 5 #[fieldV g1 p1 v1.length c1, fieldV g2 p2 v2.length c2, .int .i64 lv, .int .i64 reach, .int .i64 i, .int .i64 j] w fun e w' => e = .returned (.bool true) ∧ St (bs w) [] w' := by
  refine enter (vs := [_,_,_,_,_,_]) (env := [(0,_), (1,_), (2,_), (3,_), (4,_), (5,_)]) Try.func5 rfl rfl rfl rfl ?_
  refine VC.seq ?_
  refine VC.reg (VO.h rfl<|HO.box (C := #[_,_,_,_,_,_]) rfl rfl fun b1 => VO.h rfl<|HO.box (C := #[_,_,_,_,_,_]) rfl rfl fun b2 => VO.l (LO.as (.r rfl)) rfl<|VO.nil ?_)
  refine VE.seqN ?_
  refine VC.seq ?_
  refine VC.seq ?_
  refine VC.reg (VO.l (LO.lda (vs := [_,_,_,_,_,_]) A26 (.r rfl) (fun _ hw => cells_at hw 1 rfl ⟨_, rfl⟩) rfl) rfl<|VO.l (LO.call (xs := [_]) (vs := [_]) C15 ⟨(.r rfl), trivial⟩ (fun w2 hw => large_c g1 v1 p1 c1 w2)) rfl<|VO.l (LO.mv (.r rfl)) rfl<|VO.lg rfl rfl (GD.f _) (fun hg => LO.lda (vs := [_,_,_,_,_,_]) A26 (.r rfl) (fun _ hw => cells_at hw 0 rfl ⟨_, rfl⟩) rfl) rfl<|VO.lg rfl rfl (GD.f _) (fun hg => LO.call (xs := [_]) (vs := [_]) C15 ⟨(.g hg rfl), trivial⟩ (fun w2 hw => large_c g2 v2 p2 c2 w2)) rfl<|VO.l (LO.pkO (.r rfl) (.r rfl) rfl rfl) rfl<|VO.nil ?_)
  refine VE.seqN ?_
  refine VC.cond rfl (fun h24 => ?_) (fun h24 => ?_)
  ·
    refine VC.seq ?_
    refine VC.reg (VO.l (LO.call (xs := []) (vs := []) C16 trivial (fun w2 _ => works_c w2)) rfl<|VO.l (LO.as (.r rfl)) rfl<|VO.nil ?_)
    refine VE.seqN ?_
    refine VC.ret (VE.thenR (VE.res (vs := [_]) rfl ⟨rfl, trivial⟩ (fun w hw => ?_)))
    refine ⟨congrArg (fun z => Ending.returned (.bool z)) ?_, hw.nil⟩
    first | rfl | simp
  ·
    refine VC.skip (VE.seqN ?_)
    refine VC.seq ?_
    refine VC.reg (VO.l (LO.lda (vs := [_,_,_,_,_,_]) A26 (.r rfl) (fun _ hw => cells_at hw 1 rfl ⟨_, rfl⟩) rfl) rfl<|VO.l (LO.lda (vs := [_,_,_,_,_,_]) A26 (.r rfl) (fun _ hw => cells_at hw 0 rfl ⟨_, rfl⟩) rfl) rfl<|VO.l (LO.mv (.r rfl)) rfl<|VO.l (LO.mv (.r rfl)) rfl<|VO.h rfl<|HO.callx (xs := [_,_,_,_]) (vs := [_,_,_,_]) C27 ⟨(.r rfl), (.r rfl), (.r rfl), (.r rfl), trivial⟩ (fun w2 hw => Match_b g1 v1 p1 c1 g2 v2 p2 c2 lv reach w2 (hv1.keep w2 hw) (hv2.keep w2 hw)) fun y1 hy1 => VO.h rfl<|HO.lo (LO.mv (.r rfl))<|VO.h rfl<|HO.lo (LO.ex (.r rfl) rfl)<|VO.h rfl<|HO.lo (LO.ex (.r rfl) rfl)<|VO.h rfl<|HO.lo (LO.as (.r rfl))<|VO.h rfl<|HO.lo (LO.as (.r rfl))<|VO.nil ?_)
    refine VE.seqN ?_
    refine VC.seq ?_
    refine VC.reg (VO.l (LO.lda (vs := [_,_,_,_,_,_]) A26 (.r rfl) (fun _ hw => cells_at hw 2 rfl ⟨_, rfl⟩) rfl) rfl<|VO.l (LO.lda (vs := [_,_,_,_,_,_]) A26 (.r rfl) (fun _ hw => cells_at hw 1 rfl ⟨_, rfl⟩) rfl) rfl<|VO.l (LO.mv (.r rfl)) rfl<|VO.l (LO.mv (.r rfl)) rfl<|VO.h rfl<|HO.callx (xs := [_,_,_,_]) (vs := [_,_,_,_]) C28 ⟨(.r rfl), (.r rfl), (.r rfl), (.r rfl), trivial⟩ (fun w2 hw => rMatch_b g1 v1 p1 c1 g2 v2 p2 c2 lv reach w2 (hv1.keep w2 hw) (hv2.keep w2 hw)) fun y2 hy2 => VO.h rfl<|HO.lo (LO.mv (.r rfl))<|VO.h rfl<|HO.lo (LO.ex (.r rfl) rfl)<|VO.h rfl<|HO.lo (LO.ex (.r rfl) rfl)<|VO.h rfl<|HO.lo (LO.as (.r rfl))<|VO.h rfl<|HO.lo (LO.as (.r rfl))<|VO.nil ?_)
    refine VE.seqN ?_
    refine VC.seq ?_
    refine VC.seq ?_
    refine VC.reg (VO.l (LO.mv (.r rfl)) rfl<|VO.l (LO.mv (.r rfl)) rfl<|VO.l (LO.call (xs := [_,_]) (vs := [_,_]) C29 ⟨(.r rfl), (.r rfl), trivial⟩ (fun w2 hw => evEq_c y1.l y2.l y1.p y1.c y2.p y2.c w2 (hy1.rd w2 (hw.inv 1 _ rfl).1) (hy2.rd w2 (hw.inv 0 _ rfl).1) (eb_same hy1 hy2) hy1.n hy1.f)) rfl<|VO.l (LO.not (.r rfl)) rfl<|VO.l (LO.mv (.r rfl)) rfl<|VO.lg rfl rfl (GD.f _) (fun hg => LO.mv (.r rfl)) rfl<|VO.lg rfl rfl (GD.f _) (fun hg => LO.mv (.r rfl)) rfl<|VO.lg rfl rfl (GD.f _) (fun hg => LO.ne (.g hg rfl) (.g hg rfl)) rfl<|VO.l (LO.pkO (.r rfl) (.r rfl) rfl rfl) rfl<|VO.nil ?_)
    refine VE.seqN ?_
    refine VC.cond rfl (fun h50 => ?_) (fun h50 => ?_)
    ·
      (exfalso; simp at h50)
    ·
      refine VC.skip (VE.seqN ?_)
      refine VC.seq ?_
      refine VC.reg (VO.l (LO.lda (vs := [_,_,_,_,_,_]) A26 (.r rfl) (fun _ hw => cells_at hw 3 rfl ⟨_, rfl⟩) rfl) rfl<|VO.l (LO.lda (vs := [_,_,_,_,_,_]) A26 (.r rfl) (fun _ hw => cells_at hw 2 rfl ⟨_, rfl⟩) rfl) rfl<|VO.l (LO.mv (.r rfl)) rfl<|VO.l (LO.mv (.r rfl)) rfl<|VO.l (LO.mv (.r rfl)) rfl<|VO.l (LO.mv (.r rfl)) rfl<|VO.h rfl<|HO.callx (xs := [_,_,_,_,_,_]) (vs := [_,_,_,_,_,_]) C30 ⟨(.r rfl), (.r rfl), (.r rfl), (.r rfl), (.r rfl), (.r rfl), trivial⟩ (fun w2 hw => Moves_b g1 v1 p1 c1 g2 v2 p2 c2 lv reach i j w2 (hv1.keep w2 hw) (hv2.keep w2 hw)) fun y3 hy3 => VO.h rfl<|HO.lo (LO.mv (.r rfl))<|VO.h rfl<|HO.lo (LO.ex (.r rfl) rfl)<|VO.h rfl<|HO.lo (LO.ex (.r rfl) rfl)<|VO.h rfl<|HO.lo (LO.as (.r rfl))<|VO.h rfl<|HO.lo (LO.as (.r rfl))<|VO.nil ?_)
      refine VE.seqN ?_
      refine VC.seq ?_
      refine VC.reg (VO.l (LO.lda (vs := [_,_,_,_,_,_]) A26 (.r rfl) (fun _ hw => cells_at hw 4 rfl ⟨_, rfl⟩) rfl) rfl<|VO.l (LO.lda (vs := [_,_,_,_,_,_]) A26 (.r rfl) (fun _ hw => cells_at hw 3 rfl ⟨_, rfl⟩) rfl) rfl<|VO.l (LO.mv (.r rfl)) rfl<|VO.l (LO.mv (.r rfl)) rfl<|VO.l (LO.mv (.r rfl)) rfl<|VO.l (LO.mv (.r rfl)) rfl<|VO.h rfl<|HO.callx (xs := [_,_,_,_,_,_]) (vs := [_,_,_,_,_,_]) C31 ⟨(.r rfl), (.r rfl), (.r rfl), (.r rfl), (.r rfl), (.r rfl), trivial⟩ (fun w2 hw => rMoves_b g1 v1 p1 c1 g2 v2 p2 c2 lv reach i j w2 (hv1.keep w2 hw) (hv2.keep w2 hw)) fun y4 hy4 => VO.h rfl<|HO.lo (LO.mv (.r rfl))<|VO.h rfl<|HO.lo (LO.ex (.r rfl) rfl)<|VO.h rfl<|HO.lo (LO.ex (.r rfl) rfl)<|VO.h rfl<|HO.lo (LO.as (.r rfl))<|VO.h rfl<|HO.lo (LO.as (.r rfl))<|VO.nil ?_)
      refine VE.seqN ?_
      refine VC.seq ?_
      refine VC.reg (VO.l (LO.mv (.r rfl)) rfl<|VO.l (LO.mv (.r rfl)) rfl<|VO.l (LO.call (xs := [_,_]) (vs := [_,_]) C32 ⟨(.r rfl), (.r rfl), trivial⟩ (fun w2 hw => mvEq_c (mvB g1 v1 g2 v2 lv reach i j) y3.p y3.c y4.p y4.c w2 (hy3 w2 (hw.inv 1 _ rfl).1) (hy4 w2 (hw.inv 0 _ rfl).1) mvB_size)) rfl<|VO.l (LO.mv (.r rfl)) rfl<|VO.lg rfl rfl (GD.t _) (fun hg => LO.mv (.r rfl)) rfl<|VO.lg rfl rfl (GD.t _) (fun hg => LO.mv (.r rfl)) rfl<|VO.lg rfl rfl (GD.t _) (fun hg => LO.eq (.g hg rfl) (.g hg rfl)) rfl<|VO.l (LO.pkA (.r rfl) rfl rfl (.r rfl)) rfl<|VO.l (LO.mv (.r rfl)) rfl<|VO.lg rfl rfl (GD.t _) (fun hg => LO.call (xs := []) (vs := []) C16 trivial (fun w2 _ => works_c w2)) rfl<|VO.l (LO.pkA (.r rfl) rfl rfl (.r rfl)) rfl<|VO.l (LO.as (.r rfl)) rfl<|VO.nil ?_)
      refine VE.seqN ?_
      refine VC.ret (VE.res (vs := [_]) rfl ⟨rfl, trivial⟩ (fun w hw => ?_))
      refine ⟨congrArg (fun z => Ending.returned (.bool z)) ?_, hw.nil⟩
      first | rfl | simp

end Go.Proofs.Ytgemekpofpoopaa
