/-
  What is valid: trains, receivers, spans of turns.
-/
import Derived.Test.YtcnlhifkablmkaaW1
namespace Go.Proofs.Ytcnlhifkablmkaa
open Go.SL Go.Proofs Go.Pulse
set_option linter.unusedVariables false

theorem F23_1 : FieldAt Try.prog 23 1 1 := ⟨_, _, Try.underlying23, rfl, rfl, 0, by kernel_rfl⟩
theorem F23_3 : FieldAt Try.prog 23 3 3 := ⟨_, _, Try.underlying23, rfl, rfl, 0, by kernel_rfl⟩
theorem mixed : Try.prog.follows .mixedOrders = true := by kernel_rfl
theorem F23_0 : FieldAt Try.prog 23 0 0 := ⟨_, _, Try.underlying23, rfl, rfl, 0, by kernel_rfl⟩
theorem C45 : IsFn Try.prog 45 := ⟨_, Try.func45, by decide, rfl⟩
theorem F23_2 : FieldAt Try.prog 23 2 2 := ⟨_, _, Try.underlying23, rfl, rfl, 0, by kernel_rfl⟩
theorem F23_4 : FieldAt Try.prog 23 4 4 := ⟨_, _, Try.underlying23, rfl, rfl, 0, by kernel_rfl⟩
theorem F37_1 : FieldAt Try.prog 37 1 1 := ⟨_, _, Try.underlying37, rfl, rfl, 0, by kernel_rfl⟩
theorem F37_0 : FieldAt Try.prog 37 0 0 := ⟨_, _, Try.underlying37, rfl, rfl, 0, by kernel_rfl⟩
theorem C49 : IsFn Try.prog 49 := ⟨_, Try.func49, by decide, rfl⟩
theorem F37_2 : FieldAt Try.prog 37 2 2 := ⟨_, _, Try.underlying37, rfl, rfl, 0, by kernel_rfl⟩
theorem F37_3 : FieldAt Try.prog 37 3 3 := ⟨_, _, Try.underlying37, rfl, rfl, 0, by kernel_rfl⟩
theorem F37_4 : FieldAt Try.prog 37 4 4 := ⟨_, _, Try.underlying37, rfl, rfl, 0, by kernel_rfl⟩
theorem F27_0 : FieldAt Try.prog 27 0 0 := ⟨_, _, Try.underlying27, rfl, rfl, 0, by kernel_rfl⟩
theorem F27_1 : FieldAt Try.prog 27 1 1 := ⟨_, _, Try.underlying27, rfl, rfl, 0, by kernel_rfl⟩
theorem F27_2 : FieldAt Try.prog 27 2 2 := ⟨_, _, Try.underlying27, rfl, rfl, 1, by kernel_rfl⟩
theorem A25 : IsAgg Try.prog 25 2 := ⟨⟨_, Try.underlying25, rfl⟩, by kernel_rfl⟩
theorem C61 : IsFn Try.prog 61 := ⟨_, Try.func61, by decide, rfl⟩
theorem F38_0 : FieldAt Try.prog 38 0 0 := ⟨_, _, Try.underlying38, rfl, rfl, 0, by kernel_rfl⟩
theorem F38_1 : FieldAt Try.prog 38 1 1 := ⟨_, _, Try.underlying38, rfl, rfl, 0, by kernel_rfl⟩
theorem F38_2 : FieldAt Try.prog 38 2 2 := ⟨_, _, Try.underlying38, rfl, rfl, 1, by kernel_rfl⟩
theorem C62 : IsFn Try.prog 62 := ⟨_, Try.func62, by decide, rfl⟩
theorem A37 : IsAgg Try.prog 37 5 := ⟨⟨_, Try.underlying37, rfl⟩, by kernel_rfl⟩
theorem C26 : IsFn Try.prog 26 := ⟨_, Try.func26, by decide, rfl⟩
theorem A38 : IsAgg Try.prog 38 4 := ⟨⟨_, Try.underlying38, rfl⟩, by kernel_rfl⟩
theorem C28 : IsFn Try.prog 28 := ⟨_, Try.func28, by decide, rfl⟩
theorem S137 : IsSlice Try.prog 137 25 := Try.underlying137
theorem N25 : (Try.prog.info? 25).map (·.size) = some 2 := by kernel_rfl
theorem Z25 : ZeroOf Try.prog 25 (.agg #[.int .i64 0, .int .i64 0]) := by unfold ZeroOf; kernel_rfl


theorem all_step {α : Type} {P : α → Prop} {l : List α} {d : α} {j : Nat} (hz : ∀ k, k < j → P (l.getD k d)) (h : P (l.getD j d)) : ∀ k, k < j + 1 → P (l.getD k d) := by
  intro k hk
  rcases Nat.lt_or_ge k j with q | q
  · exact hz k q
  · have : k = j := by omega
    subst this; exact h
theorem getD_mem {α : Type} {l : List α} {d : α} {j : Nat} (hj : j < l.length) : l.getD j d ∈ l := by
  rw [List.getD_eq_getElem?_getD, List.getElem?_eq_getElem hj]; exact List.getElem_mem hj
theorem mem_getD {α : Type} {l : List α} {d x : α} (h : x ∈ l) : ∃ j, j < l.length ∧ l.getD j d = x := by
  obtain ⟨j, hj, e⟩ := List.mem_iff_getElem.1 h
  exact ⟨j, hj, by rw [List.getD_eq_getElem?_getD, List.getElem?_eq_getElem hj]; exact e⟩
theorem all_no {α : Type} {P : α → Prop} [DecidablePred P] {l : List α} {d : α} {j : Nat} (hj : j < l.length) (h : ¬ P (l.getD j d)) : false = decide (∀ s ∈ l, P s) := by
  symm; rw [decide_eq_false_iff_not]; exact fun q => h (q _ (getD_mem hj))
theorem all_yes {α : Type} {P : α → Prop} [DecidablePred P] {l : List α} {d : α} {j : Nat} (hz : ∀ k, k < j → P (l.getD k d)) (hj : l.length ≤ j) : true = decide (∀ s ∈ l, P s) := by
  symm; rw [decide_eq_true_iff]; intro s hs
  obtain ⟨k, hk, rfl⟩ := mem_getD (d := d) hs
  exact hz k (by omega)
theorem turns_b {s t : Int} : ((decide (-32768 ≤ s) && decide (s ≤ 32767)) && (decide (s ≤ t) && decide (t ≤ s + 65536 - 1))) = decide (turnS ⟨s, t⟩) := by
  rw [Bool.eq_iff_iff]; simp only [Bool.and_eq_true, decide_eq_true_iff]; unfold turnS; dsimp only; omega
def echoF (x : Echo) : Prop := (0 ≤ x.power.lo ∧ x.power.lo ≤ x.power.hi ∧ x.power.hi ≤ 1073741824) ∧
  ((x.kind = 1 ∧ x.power.lo = 0 ∧ x.s0.lo = 0 ∧ x.s0.hi = 0 ∧ x.s1.lo = 0 ∧ x.s1.hi = 0 ∧ x.spread = 0 ∧ x.ratio.lo = 0 ∧ x.ratio.hi = 0 ∧ x.mtch.lo = 0 ∧ x.mtch.hi = 0 ∧ x.turn.lo = 0 ∧ x.turn.hi = 0) ∨
   ((x.kind = 2 ∨ x.kind = 3) ∧ 0 < x.power.lo ∧ (0 ≤ x.ratio.lo ∧ x.ratio.lo ≤ x.ratio.hi ∧ x.ratio.hi ≤ 1000000) ∧ (0 ≤ x.mtch.lo ∧ x.mtch.lo ≤ x.mtch.hi ∧ x.mtch.hi ≤ 1000) ∧ (0 ≤ x.spread ∧ x.spread ≤ 65535) ∧
     ((x.kind = 2 ∧ x.s0.lo = 0 ∧ x.s0.hi = 0 ∧ x.s1.lo = 0 ∧ x.s1.hi = 0 ∧ x.turn.lo = 0 ∧ x.turn.hi = 0) ∨
      (x.kind = 3 ∧ ((-32768 ≤ x.s0.lo ∧ x.s0.lo ≤ 32767) ∧ x.s0.lo ≤ x.s0.hi ∧ x.s0.hi ≤ x.s0.lo + 65535) ∧ ((-32768 ≤ x.s1.lo ∧ x.s1.lo ≤ 32767) ∧ x.s1.lo ≤ x.s1.hi ∧ x.s1.hi ≤ x.s1.lo + 65535) ∧ ((-32768 ≤ x.turn.lo ∧ x.turn.lo ≤ 32767) ∧ x.turn.lo ≤ x.turn.hi ∧ x.turn.hi ≤ x.turn.lo + 65535)))))
instance (x : Echo) : Decidable (echoF x) := by unfold echoF; exact inferInstance
theorem echoOk_iff (x : Echo) : echoOk x ↔ echoF x := by
  obtain ⟨a, ⟨b, c⟩, ⟨d, e⟩, ⟨f, g⟩, i, ⟨j, k⟩, ⟨l, m⟩, ⟨n, o⟩⟩ := x
  simp only [echoOk, echoF, inS, turnS, zE, zs, Echo.mk.injEq, Span.mk.injEq, true_and, and_true, and_assoc, and_self_left]
theorem echoE_flat (x : Echo) : echoE x = if kndOk x.kind then (if echoF x then 0 else 3) else 2 := by
  unfold echoE
  by_cases h : echoF x
  · rw [if_pos h, if_pos ((echoOk_iff x).2 h)]
  · rw [if_neg h, if_neg (fun q => h ((echoOk_iff x).1 q))]

set_option maxRecDepth 20000 in
theorem trainP_c (t : Train) (w : World) :
  Calls Try.prog 25 #[trainV t] w fun e w' => e = .returned (.int .i64 (trainE t)) ∧ St (bs w) [] w' := by
  refine enter (vs := [_]) (env := [(0, _)]) Try.func25 rfl rfl rfl rfl ?_
  refine VC.seq ?_
  refine VC.reg (VO.h rfl <| HO.box (C := #[_, _, _, _, _]) rfl rfl fun b1 => VO.l (LO.as (.r rfl)) rfl <| VO.nil ?_)
  refine VE.seqN ?_
  refine VC.seq ?_
  refine VC.reg (VO.l (LO.as (.r rfl)) rfl <| VO.l (LO.as (.r rfl)) rfl <| VO.nil ?_)
  refine VE.seqN ?_
  refine VC.seq ?_
  refine VC.seq ?_
  refine VC.reg (VO.l (LO.fa (r := 1) F23_1 (.r rfl) rfl) rfl <| VO.l (LO.ld O3 (.r rfl) (fun _ hw => cells_at hw 0 rfl ⟨_, rfl⟩)) rfl <| VO.nil ?_)
  refine VE.seqN ?_
  refine VC.block ?_
  refine VC.seq ?_
  refine VC.reg (VO.l (LO.eq (.r rfl) (.r rfl)) rfl <| VO.l (LO.as (.r rfl)) rfl <| VO.nil ?_)
  refine VE.seqN ?_
  refine VC.cond rfl (fun h1 => ?_) (fun h1 => ?_)
  ·
    refine VC.draw mixed (LL.l (LO.fa (r := 3) F23_3 (.r rfl) rfl) rfl <| LL.l (LO.ld O3 (.r rfl) (fun _ hw => cells_at hw 0 rfl ⟨_, rfl⟩)) rfl <| LL.l (LO.eq (.r rfl) (.r rfl)) rfl <| LL.l (LO.as (.r rfl)) rfl <| LL.l (LO.as (.r rfl)) rfl <| LL.nil) (by kernel_rfl) ?_
    refine VE.inN (VE.seqN ?_)
    refine VC.seq ?_
    refine VC.seq ?_
    refine VC.reg (VO.l (LO.fa (r := 1) F23_1 (.r rfl) rfl) rfl <| VO.l (LO.ld O3 (.r rfl) (fun _ hw => cells_at hw 0 rfl ⟨_, rfl⟩)) rfl <| VO.l (LO.ne (.r rfl) (.r rfl)) rfl <| VO.nil ?_)
    refine VE.seqN ?_
    refine VC.cond rfl (fun h2 => ?_) (fun h2 => ?_)
    ·
      (exfalso; omega)
    ·
      refine VC.skip (VE.seqN ?_)
      refine VC.seq ?_
      refine VC.seq ?_
      refine VC.reg (VO.l (LO.mv (.r rfl)) rfl <| VO.l (LO.not (.r rfl)) rfl <| VO.l (LO.mv (.r rfl)) rfl <| VO.lg rfl rfl (GD.f _) (fun hg => LO.fa (r := 0) F23_0 (.r rfl) rfl) rfl <| VO.lg rfl rfl (GD.f _) (fun hg => LO.ld O3 (.g hg rfl) (fun _ hw => cells_at hw 0 rfl ⟨_, rfl⟩)) rfl <| VO.lg rfl rfl (GD.f _) (fun hg => LO.call (xs := [_, _, _]) (vs := [_, _, _]) C45 ⟨(.g hg rfl), (.r rfl), (.r rfl), trivial⟩ (fun w _ => within_c _ _ _ w)) rfl <| VO.lg rfl rfl (GD.f _) (fun hg => LO.not (.g hg rfl)) rfl <| VO.l (LO.pkO (.r rfl) (.r rfl) rfl rfl) rfl <| VO.l (LO.mv (.r rfl)) rfl <| VO.lg rfl rfl (GD.f _) (fun hg => LO.fa (r := 2) F23_2 (.r rfl) rfl) rfl <| VO.lg rfl rfl (GD.f _) (fun hg => LO.ld O3 (.g hg rfl) (fun _ hw => cells_at hw 0 rfl ⟨_, rfl⟩)) rfl <| VO.lg rfl rfl (GD.f _) (fun hg => LO.call (xs := [_, _, _]) (vs := [_, _, _]) C45 ⟨(.g hg rfl), (.r rfl), (.r rfl), trivial⟩ (fun w _ => within_c _ _ _ w)) rfl <| VO.lg rfl rfl (GD.f _) (fun hg => LO.not (.g hg rfl)) rfl <| VO.l (LO.pkO (.r rfl) (.r rfl) rfl rfl) rfl <| VO.l (LO.mv (.r rfl)) rfl <| VO.lg rfl rfl (GD.f _) (fun hg => LO.fa (r := 4) F23_4 (.r rfl) rfl) rfl <| VO.lg rfl rfl (GD.f _) (fun hg => LO.ld O3 (.g hg rfl) (fun _ hw => cells_at hw 0 rfl ⟨_, rfl⟩)) rfl <| VO.lg rfl rfl (GD.f _) (fun hg => LO.mv (.r rfl)) rfl <| VO.lg rfl rfl (GD.f _) (fun hg => LO.call (xs := [_, _, _]) (vs := [_, _, _]) C45 ⟨(.g hg rfl), (.g hg rfl), (.r rfl), trivial⟩ (fun w _ => within_c _ _ _ w)) rfl <| VO.lg rfl rfl (GD.f _) (fun hg => LO.not (.g hg rfl)) rfl <| VO.l (LO.pkO (.r rfl) (.r rfl) rfl rfl) rfl <| VO.nil ?_)
      refine VE.seqN ?_
      refine VC.cond rfl (fun h3 => ?_) (fun h3 => ?_)
      ·
        refine VC.seq ?_
        refine VC.reg (VO.l (LO.as (.r rfl)) rfl <| VO.nil ?_)
        refine VE.seqN ?_
        refine VC.ret (VE.thenR (VE.res (vs := [_]) rfl ⟨rfl, trivial⟩ (fun w hw => ?_)))
        refine ⟨?_, hw.nil⟩
        simp only [resV]
        congr 2
        try simp only [eq_self, true_and] at *
        have q2 := tmod2 t.count
        rw [trainE]
        first | (rw [if_neg (by unfold kndOk; omega)]; done) | (rw [if_pos (by unfold kndOk; omega), if_pos (by unfold trainOk; omega)]; done) | (rw [if_pos (by unfold kndOk; omega), if_neg (by unfold trainOk; omega)]; done) | (exfalso; omega)
      ·
        refine VC.skip (VE.seqN ?_)
        refine VC.seq ?_
        refine VC.reg (VO.l (LO.as (.r rfl)) rfl <| VO.nil ?_)
        refine VE.seqN ?_
        refine VC.ret (VE.res (vs := [_]) rfl ⟨rfl, trivial⟩ (fun w hw => ?_))
        refine ⟨?_, hw.nil⟩
        simp only [resV]
        congr 2
        try simp only [eq_self, true_and] at *
        have q2 := tmod2 t.count
        rw [trainE]
        first | (rw [if_neg (by unfold kndOk; omega)]; done) | (rw [if_pos (by unfold kndOk; omega), if_pos (by unfold trainOk; omega)]; done) | (rw [if_pos (by unfold kndOk; omega), if_neg (by unfold trainOk; omega)]; done) | (exfalso; omega)
  ·
    refine VC.seq ?_
    refine VC.reg (VO.l (LO.eq (.r rfl) (.r rfl)) rfl <| VO.l (LO.as (.r rfl)) rfl <| VO.nil ?_)
    refine VE.seqN ?_
    refine VC.cond rfl (fun h4 => ?_) (fun h4 => ?_)
    ·
      refine VC.draw mixed (LL.l (LO.fa (r := 4) F23_4 (.r rfl) rfl) rfl <| LL.l (LO.ld O3 (.r rfl) (fun _ hw => cells_at hw 0 rfl ⟨_, rfl⟩)) rfl <| LL.l (LO.rem (.r rfl) (.r rfl) (by omega)) rfl <| LL.l (LO.eq (.r rfl) (.r rfl)) rfl <| LL.l (LO.as (.r rfl)) rfl <| LL.l (LO.as (.r rfl)) rfl <| LL.nil) (by kernel_rfl) ?_
      refine VE.inN (VE.seqN ?_)
      refine VC.seq ?_
      refine VC.seq ?_
      refine VC.reg (VO.l (LO.fa (r := 1) F23_1 (.r rfl) rfl) rfl <| VO.l (LO.ld O3 (.r rfl) (fun _ hw => cells_at hw 0 rfl ⟨_, rfl⟩)) rfl <| VO.l (LO.ne (.r rfl) (.r rfl)) rfl <| VO.nil ?_)
      refine VE.seqN ?_
      refine VC.cond rfl (fun h5 => ?_) (fun h5 => ?_)
      ·
        refine VC.reg (VO.l (LO.mv (.r rfl)) rfl <| VO.l (LO.mv (.r rfl)) rfl <| VO.lg rfl rfl (GD.t _) (fun hg => LO.fa (r := 3) F23_3 (.r rfl) rfl) rfl <| VO.lg rfl rfl (GD.t _) (fun hg => LO.ld O3 (.g hg rfl) (fun _ hw => cells_at hw 0 rfl ⟨_, rfl⟩)) rfl <| VO.lg rfl rfl (GD.t _) (fun hg => LO.call (xs := [_, _, _]) (vs := [_, _, _]) C45 ⟨(.g hg rfl), (.r rfl), (.r rfl), trivial⟩ (fun w _ => within_c _ _ _ w)) rfl <| VO.l (LO.pkA (.r rfl) rfl rfl (.r rfl)) rfl <| VO.l (LO.mv (.r rfl)) rfl <| VO.lg rfl rfl (GD.t _) (fun hg => LO.fa (r := 2) F23_2 (.r rfl) rfl) rfl <| VO.lg rfl rfl (GD.t _) (fun hg => LO.ld O3 (.g hg rfl) (fun _ hw => cells_at hw 0 rfl ⟨_, rfl⟩)) rfl <| VO.lg rfl rfl (GD.t _) (fun hg => LO.fa (r := 3) F23_3 (.r rfl) rfl) rfl <| VO.lg rfl rfl (GD.t _) (fun hg => LO.ld O3 (.g hg rfl) (fun _ hw => cells_at hw 0 rfl ⟨_, rfl⟩)) rfl <| VO.lg rfl rfl (GD.t _) (fun hg => LO.lt (.g hg rfl) (.g hg rfl)) rfl <| VO.l (LO.pkA (.r rfl) rfl rfl (.r rfl)) rfl <| VO.l (LO.as (.r rfl)) rfl <| VO.nil ?_)
        refine VE.seqN ?_
        refine VC.seq ?_
        refine VC.seq ?_
        refine VC.reg (VO.l (LO.mv (.r rfl)) rfl <| VO.l (LO.not (.r rfl)) rfl <| VO.l (LO.mv (.r rfl)) rfl <| VO.lg rfl rfl (GD.f _) (fun hg => LO.fa (r := 0) F23_0 (.r rfl) rfl) rfl <| VO.lg rfl rfl (GD.f _) (fun hg => LO.ld O3 (.g hg rfl) (fun _ hw => cells_at hw 0 rfl ⟨_, rfl⟩)) rfl <| VO.lg rfl rfl (GD.f _) (fun hg => LO.call (xs := [_, _, _]) (vs := [_, _, _]) C45 ⟨(.g hg rfl), (.r rfl), (.r rfl), trivial⟩ (fun w _ => within_c _ _ _ w)) rfl <| VO.lg rfl rfl (GD.f _) (fun hg => LO.not (.g hg rfl)) rfl <| VO.l (LO.pkO (.r rfl) (.r rfl) rfl rfl) rfl <| VO.l (LO.mv (.r rfl)) rfl <| VO.lg rfl rfl (GD.f _) (fun hg => LO.fa (r := 2) F23_2 (.r rfl) rfl) rfl <| VO.lg rfl rfl (GD.f _) (fun hg => LO.ld O3 (.g hg rfl) (fun _ hw => cells_at hw 0 rfl ⟨_, rfl⟩)) rfl <| VO.lg rfl rfl (GD.f _) (fun hg => LO.call (xs := [_, _, _]) (vs := [_, _, _]) C45 ⟨(.g hg rfl), (.r rfl), (.r rfl), trivial⟩ (fun w _ => within_c _ _ _ w)) rfl <| VO.lg rfl rfl (GD.f _) (fun hg => LO.not (.g hg rfl)) rfl <| VO.l (LO.pkO (.r rfl) (.r rfl) rfl rfl) rfl <| VO.l (LO.mv (.r rfl)) rfl <| VO.lg rfl rfl (GD.f _) (fun hg => LO.fa (r := 4) F23_4 (.r rfl) rfl) rfl <| VO.lg rfl rfl (GD.f _) (fun hg => LO.ld O3 (.g hg rfl) (fun _ hw => cells_at hw 0 rfl ⟨_, rfl⟩)) rfl <| VO.lg rfl rfl (GD.f _) (fun hg => LO.mv (.r rfl)) rfl <| VO.lg rfl rfl (GD.f _) (fun hg => LO.call (xs := [_, _, _]) (vs := [_, _, _]) C45 ⟨(.g hg rfl), (.g hg rfl), (.r rfl), trivial⟩ (fun w _ => within_c _ _ _ w)) rfl <| VO.lg rfl rfl (GD.f _) (fun hg => LO.not (.g hg rfl)) rfl <| VO.l (LO.pkO (.r rfl) (.r rfl) rfl rfl) rfl <| VO.nil ?_)
        refine VE.seqN ?_
        refine VC.cond rfl (fun h6 => ?_) (fun h6 => ?_)
        ·
          refine VC.seq ?_
          refine VC.reg (VO.l (LO.as (.r rfl)) rfl <| VO.nil ?_)
          refine VE.seqN ?_
          refine VC.ret (VE.thenR (VE.res (vs := [_]) rfl ⟨rfl, trivial⟩ (fun w hw => ?_)))
          refine ⟨?_, hw.nil⟩
          simp only [resV]
          congr 2
          try simp only [eq_self, true_and] at *
          have q2 := tmod2 t.count
          rw [trainE]
          first | (rw [if_neg (by unfold kndOk; omega)]; done) | (rw [if_pos (by unfold kndOk; omega), if_pos (by unfold trainOk; omega)]; done) | (rw [if_pos (by unfold kndOk; omega), if_neg (by unfold trainOk; omega)]; done) | (exfalso; omega)
        ·
          refine VC.skip (VE.seqN ?_)
          refine VC.seq ?_
          refine VC.reg (VO.l (LO.as (.r rfl)) rfl <| VO.nil ?_)
          refine VE.seqN ?_
          refine VC.ret (VE.res (vs := [_]) rfl ⟨rfl, trivial⟩ (fun w hw => ?_))
          refine ⟨?_, hw.nil⟩
          simp only [resV]
          congr 2
          try simp only [eq_self, true_and] at *
          have q2 := tmod2 t.count
          rw [trainE]
          first | (rw [if_neg (by unfold kndOk; omega)]; done) | (rw [if_pos (by unfold kndOk; omega), if_pos (by unfold trainOk; omega)]; done) | (rw [if_pos (by unfold kndOk; omega), if_neg (by unfold trainOk; omega)]; done) | (exfalso; omega)
      ·
        (exfalso; omega)
    ·
      refine VC.seq ?_
      refine VC.reg (VO.l (LO.eq (.r rfl) (.r rfl)) rfl <| VO.l (LO.as (.r rfl)) rfl <| VO.nil ?_)
      refine VE.seqN ?_
      refine VC.cond rfl (fun h7 => ?_) (fun h7 => ?_)
      ·
        refine VC.reg (VO.l (LO.as (.r rfl)) rfl <| VO.nil ?_)
        refine VE.inN (VE.seqN ?_)
        refine VC.seq ?_
        refine VC.seq ?_
        refine VC.reg (VO.l (LO.fa (r := 1) F23_1 (.r rfl) rfl) rfl <| VO.l (LO.ld O3 (.r rfl) (fun _ hw => cells_at hw 0 rfl ⟨_, rfl⟩)) rfl <| VO.l (LO.ne (.r rfl) (.r rfl)) rfl <| VO.nil ?_)
        refine VE.seqN ?_
        refine VC.cond rfl (fun h8 => ?_) (fun h8 => ?_)
        ·
          refine VC.reg (VO.l (LO.mv (.r rfl)) rfl <| VO.l (LO.mv (.r rfl)) rfl <| VO.lg rfl rfl (GD.t _) (fun hg => LO.fa (r := 3) F23_3 (.r rfl) rfl) rfl <| VO.lg rfl rfl (GD.t _) (fun hg => LO.ld O3 (.g hg rfl) (fun _ hw => cells_at hw 0 rfl ⟨_, rfl⟩)) rfl <| VO.lg rfl rfl (GD.t _) (fun hg => LO.call (xs := [_, _, _]) (vs := [_, _, _]) C45 ⟨(.g hg rfl), (.r rfl), (.r rfl), trivial⟩ (fun w _ => within_c _ _ _ w)) rfl <| VO.l (LO.pkA (.r rfl) rfl rfl (.r rfl)) rfl <| VO.l (LO.mv (.r rfl)) rfl <| VO.lg rfl rfl (GD.t _) (fun hg => LO.fa (r := 2) F23_2 (.r rfl) rfl) rfl <| VO.lg rfl rfl (GD.t _) (fun hg => LO.ld O3 (.g hg rfl) (fun _ hw => cells_at hw 0 rfl ⟨_, rfl⟩)) rfl <| VO.lg rfl rfl (GD.t _) (fun hg => LO.fa (r := 3) F23_3 (.r rfl) rfl) rfl <| VO.lg rfl rfl (GD.t _) (fun hg => LO.ld O3 (.g hg rfl) (fun _ hw => cells_at hw 0 rfl ⟨_, rfl⟩)) rfl <| VO.lg rfl rfl (GD.t _) (fun hg => LO.lt (.g hg rfl) (.g hg rfl)) rfl <| VO.l (LO.pkA (.r rfl) rfl rfl (.r rfl)) rfl <| VO.l (LO.as (.r rfl)) rfl <| VO.nil ?_)
          refine VE.seqN ?_
          refine VC.seq ?_
          refine VC.seq ?_
          refine VC.reg (VO.l (LO.mv (.r rfl)) rfl <| VO.l (LO.not (.r rfl)) rfl <| VO.l (LO.mv (.r rfl)) rfl <| VO.lg rfl rfl (GD.f _) (fun hg => LO.fa (r := 0) F23_0 (.r rfl) rfl) rfl <| VO.lg rfl rfl (GD.f _) (fun hg => LO.ld O3 (.g hg rfl) (fun _ hw => cells_at hw 0 rfl ⟨_, rfl⟩)) rfl <| VO.lg rfl rfl (GD.f _) (fun hg => LO.call (xs := [_, _, _]) (vs := [_, _, _]) C45 ⟨(.g hg rfl), (.r rfl), (.r rfl), trivial⟩ (fun w _ => within_c _ _ _ w)) rfl <| VO.lg rfl rfl (GD.f _) (fun hg => LO.not (.g hg rfl)) rfl <| VO.l (LO.pkO (.r rfl) (.r rfl) rfl rfl) rfl <| VO.l (LO.mv (.r rfl)) rfl <| VO.lg rfl rfl (GD.f _) (fun hg => LO.fa (r := 2) F23_2 (.r rfl) rfl) rfl <| VO.lg rfl rfl (GD.f _) (fun hg => LO.ld O3 (.g hg rfl) (fun _ hw => cells_at hw 0 rfl ⟨_, rfl⟩)) rfl <| VO.lg rfl rfl (GD.f _) (fun hg => LO.call (xs := [_, _, _]) (vs := [_, _, _]) C45 ⟨(.g hg rfl), (.r rfl), (.r rfl), trivial⟩ (fun w _ => within_c _ _ _ w)) rfl <| VO.lg rfl rfl (GD.f _) (fun hg => LO.not (.g hg rfl)) rfl <| VO.l (LO.pkO (.r rfl) (.r rfl) rfl rfl) rfl <| VO.l (LO.mv (.r rfl)) rfl <| VO.lg rfl rfl (GD.f _) (fun hg => LO.fa (r := 4) F23_4 (.r rfl) rfl) rfl <| VO.lg rfl rfl (GD.f _) (fun hg => LO.ld O3 (.g hg rfl) (fun _ hw => cells_at hw 0 rfl ⟨_, rfl⟩)) rfl <| VO.lg rfl rfl (GD.f _) (fun hg => LO.mv (.r rfl)) rfl <| VO.lg rfl rfl (GD.f _) (fun hg => LO.call (xs := [_, _, _]) (vs := [_, _, _]) C45 ⟨(.g hg rfl), (.g hg rfl), (.r rfl), trivial⟩ (fun w _ => within_c _ _ _ w)) rfl <| VO.lg rfl rfl (GD.f _) (fun hg => LO.not (.g hg rfl)) rfl <| VO.l (LO.pkO (.r rfl) (.r rfl) rfl rfl) rfl <| VO.nil ?_)
          refine VE.seqN ?_
          refine VC.cond rfl (fun h9 => ?_) (fun h9 => ?_)
          ·
            refine VC.seq ?_
            refine VC.reg (VO.l (LO.as (.r rfl)) rfl <| VO.nil ?_)
            refine VE.seqN ?_
            refine VC.ret (VE.thenR (VE.res (vs := [_]) rfl ⟨rfl, trivial⟩ (fun w hw => ?_)))
            refine ⟨?_, hw.nil⟩
            simp only [resV]
            congr 2
            try simp only [eq_self, true_and] at *
            have q2 := tmod2 t.count
            rw [trainE]
            first | (rw [if_neg (by unfold kndOk; omega)]; done) | (rw [if_pos (by unfold kndOk; omega), if_pos (by unfold trainOk; omega)]; done) | (rw [if_pos (by unfold kndOk; omega), if_neg (by unfold trainOk; omega)]; done) | (exfalso; omega)
          ·
            refine VC.skip (VE.seqN ?_)
            refine VC.seq ?_
            refine VC.reg (VO.l (LO.as (.r rfl)) rfl <| VO.nil ?_)
            refine VE.seqN ?_
            refine VC.ret (VE.res (vs := [_]) rfl ⟨rfl, trivial⟩ (fun w hw => ?_))
            refine ⟨?_, hw.nil⟩
            simp only [resV]
            congr 2
            try simp only [eq_self, true_and] at *
            have q2 := tmod2 t.count
            rw [trainE]
            first | (rw [if_neg (by unfold kndOk; omega)]; done) | (rw [if_pos (by unfold kndOk; omega), if_pos (by unfold trainOk; omega)]; done) | (rw [if_pos (by unfold kndOk; omega), if_neg (by unfold trainOk; omega)]; done) | (exfalso; omega)
        ·
          (exfalso; omega)
      ·
        refine VC.seq ?_
        refine VC.reg (VO.l (LO.as (.r rfl)) rfl <| VO.nil ?_)
        refine VE.seqN ?_
        refine VC.ret (VE.inR (VE.thenR (VE.res (vs := [_]) rfl ⟨rfl, trivial⟩ (fun w hw => ?_))))
        refine ⟨?_, hw.nil⟩
        simp only [resV]
        congr 2
        try simp only [eq_self, true_and] at *
        have q2 := tmod2 t.count
        rw [trainE]
        first | (rw [if_neg (by unfold kndOk; omega)]; done) | (rw [if_pos (by unfold kndOk; omega), if_pos (by unfold trainOk; omega)]; done) | (rw [if_pos (by unfold kndOk; omega), if_neg (by unfold trainOk; omega)]; done) | (exfalso; omega)

set_option maxRecDepth 20000 in
theorem trainR_c (t : Train) (w : World) :
  Calls Try.prog 26 #[trainV t] w fun e w' => e = .returned (.int .i64 (trainE t)) ∧ St (bs w) [] w' := by
  refine enter (vs := [_]) (env := [(0, _)]) Try.func26 rfl rfl rfl rfl ?_
  refine VC.seq ?_
  refine VC.reg (VO.h rfl <| HO.box (C := #[_, _, _, _, _]) rfl rfl fun b1 => VO.l (LO.as (.r rfl)) rfl <| VO.nil ?_)
  refine VE.seqN ?_
  refine VC.seq ?_
  refine VC.seq ?_
  refine VC.reg (VO.l (LO.fa (r := 1) F37_1 (.r rfl) rfl) rfl <| VO.l (LO.ld O3 (.r rfl) (fun _ hw => cells_at hw 0 rfl ⟨_, rfl⟩)) rfl <| VO.l (LO.ne (.r rfl) (.r rfl)) rfl <| VO.l (LO.mv (.r rfl)) rfl <| VO.lg rfl rfl (GD.t _) (fun hg => LO.fa (r := 1) F37_1 (.r rfl) rfl) rfl <| VO.lg rfl rfl (GD.t _) (fun hg => LO.ld O3 (.g hg rfl) (fun _ hw => cells_at hw 0 rfl ⟨_, rfl⟩)) rfl <| VO.lg rfl rfl (GD.t _) (fun hg => LO.ne (.g hg rfl) (.r rfl)) rfl <| VO.l (LO.pkA (.r rfl) rfl rfl (.r rfl)) rfl <| VO.l (LO.mv (.r rfl)) rfl <| VO.lg rfl rfl (GD.t _) (fun hg => LO.fa (r := 1) F37_1 (.r rfl) rfl) rfl <| VO.lg rfl rfl (GD.t _) (fun hg => LO.ld O3 (.g hg rfl) (fun _ hw => cells_at hw 0 rfl ⟨_, rfl⟩)) rfl <| VO.lg rfl rfl (GD.t _) (fun hg => LO.ne (.g hg rfl) (.r rfl)) rfl <| VO.l (LO.pkA (.r rfl) rfl rfl (.r rfl)) rfl <| VO.nil ?_)
  refine VE.seqN ?_
  refine VC.cond rfl (fun h1 => ?_) (fun h1 => ?_)
  ·
    refine VC.seq ?_
    refine VC.reg (VO.l (LO.as (.r rfl)) rfl <| VO.nil ?_)
    refine VE.seqN ?_
    refine VC.ret (VE.thenR (VE.res (vs := [_]) rfl ⟨rfl, trivial⟩ (fun w hw => ?_)))
    refine ⟨?_, hw.nil⟩
    simp only [resV]
    congr 2
    try simp only [eq_self, true_and] at *
    have q2 := tmod2 t.count
    rw [trainE]
    first | (rw [if_neg (by unfold kndOk; omega)]; done) | (rw [if_pos (by unfold kndOk; omega), if_pos (by unfold trainOk; omega)]; done) | (rw [if_pos (by unfold kndOk; omega), if_neg (by unfold trainOk; omega)]; done) | (exfalso; omega)
  ·
    refine VC.skip (VE.seqN ?_)
    refine VC.seq ?_
    refine VC.seq ?_
    refine VC.reg (VO.l (LO.fa (r := 0) F37_0 (.r rfl) rfl) rfl <| VO.l (LO.ld O3 (.r rfl) (fun _ hw => cells_at hw 0 rfl ⟨_, rfl⟩)) rfl <| VO.l (LO.call (xs := [_, _, _]) (vs := [_, _, _]) C49 ⟨(.r rfl), (.r rfl), (.r rfl), trivial⟩ (fun w _ => In_c _ _ _ w)) rfl <| VO.l (LO.not (.r rfl)) rfl <| VO.l (LO.mv (.r rfl)) rfl <| VO.lg rfl rfl (GD.f _) (fun hg => LO.fa (r := 2) F37_2 (.r rfl) rfl) rfl <| VO.lg rfl rfl (GD.f _) (fun hg => LO.ld O3 (.g hg rfl) (fun _ hw => cells_at hw 0 rfl ⟨_, rfl⟩)) rfl <| VO.lg rfl rfl (GD.f _) (fun hg => LO.call (xs := [_, _, _]) (vs := [_, _, _]) C49 ⟨(.g hg rfl), (.r rfl), (.r rfl), trivial⟩ (fun w _ => In_c _ _ _ w)) rfl <| VO.lg rfl rfl (GD.f _) (fun hg => LO.not (.g hg rfl)) rfl <| VO.l (LO.pkO (.r rfl) (.r rfl) rfl rfl) rfl <| VO.nil ?_)
    refine VE.seqN ?_
    refine VC.cond rfl (fun h2 => ?_) (fun h2 => ?_)
    ·
      refine VC.seq ?_
      refine VC.reg (VO.l (LO.as (.r rfl)) rfl <| VO.nil ?_)
      refine VE.seqN ?_
      refine VC.ret (VE.thenR (VE.res (vs := [_]) rfl ⟨rfl, trivial⟩ (fun w hw => ?_)))
      refine ⟨?_, hw.nil⟩
      simp only [resV]
      congr 2
      try simp only [eq_self, true_and] at *
      have q2 := tmod2 t.count
      rw [trainE]
      first | (rw [if_neg (by unfold kndOk; omega)]; done) | (rw [if_pos (by unfold kndOk; omega), if_pos (by unfold trainOk; omega)]; done) | (rw [if_pos (by unfold kndOk; omega), if_neg (by unfold trainOk; omega)]; done) | (exfalso; omega)
    ·
      refine VC.skip (VE.seqN ?_)
      refine VC.seq ?_
      refine VC.reg (VO.l (LO.as (.r rfl)) rfl <| VO.nil ?_)
      refine VE.seqN ?_
      refine VC.seq ?_
      refine VC.seq ?_
      refine VC.reg (VO.l (LO.fa (r := 1) F37_1 (.r rfl) rfl) rfl <| VO.l (LO.ld O3 (.r rfl) (fun _ hw => cells_at hw 0 rfl ⟨_, rfl⟩)) rfl <| VO.nil ?_)
      refine VE.seqN ?_
      refine VC.block ?_
      refine VC.seq ?_
      refine VC.reg (VO.l (LO.eq (.r rfl) (.r rfl)) rfl <| VO.l (LO.as (.r rfl)) rfl <| VO.nil ?_)
      refine VE.seqN ?_
      refine VC.cond rfl (fun h3 => ?_) (fun h3 => ?_)
      ·
        refine VC.seq ?_
        refine VC.reg (VO.l (LO.fa (r := 3) F37_3 (.r rfl) rfl) rfl <| VO.l (LO.ld O3 (.r rfl) (fun _ hw => cells_at hw 0 rfl ⟨_, rfl⟩)) rfl <| VO.l (LO.ne (.r rfl) (.r rfl)) rfl <| VO.nil ?_)
        refine VE.seqN ?_
        refine VC.cond rfl (fun h4 => ?_) (fun h4 => ?_)
        ·
          refine VC.seq ?_
          refine VC.reg (VO.l (LO.as (.r rfl)) rfl <| VO.nil ?_)
          refine VE.seqN ?_
          refine VC.ret (VE.inR (VE.thenR (VE.res (vs := [_]) rfl ⟨rfl, trivial⟩ (fun w hw => ?_))))
          refine ⟨?_, hw.nil⟩
          simp only [resV]
          congr 2
          try simp only [eq_self, true_and] at *
          have q2 := tmod2 t.count
          rw [trainE]
          first | (rw [if_neg (by unfold kndOk; omega)]; done) | (rw [if_pos (by unfold kndOk; omega), if_pos (by unfold trainOk; omega)]; done) | (rw [if_pos (by unfold kndOk; omega), if_neg (by unfold trainOk; omega)]; done) | (exfalso; omega)
        ·
          refine VC.skip (VE.inN (VE.seqN ?_))
          refine VC.seq ?_
          refine VC.seq ?_
          refine VC.reg (VO.l (LO.fa (r := 1) F37_1 (.r rfl) rfl) rfl <| VO.l (LO.ld O3 (.r rfl) (fun _ hw => cells_at hw 0 rfl ⟨_, rfl⟩)) rfl <| VO.l (LO.ne (.r rfl) (.r rfl)) rfl <| VO.l (LO.mv (.r rfl)) rfl <| VO.lg rfl rfl (GD.t _) (fun hg => LO.fa (r := 3) F37_3 (.r rfl) rfl) rfl <| VO.lg rfl rfl (GD.t _) (fun hg => LO.ld O3 (.g hg rfl) (fun _ hw => cells_at hw 0 rfl ⟨_, rfl⟩)) rfl <| VO.lg rfl rfl (GD.t _) (fun hg => LO.call (xs := [_, _, _]) (vs := [_, _, _]) C49 ⟨(.g hg rfl), (.r rfl), (.r rfl), trivial⟩ (fun w _ => In_c _ _ _ w)) rfl <| VO.lg rfl rfl (GD.t _) (fun hg => LO.not (.g hg rfl)) rfl <| VO.lg rfl rfl (GD.t _) (fun hg => LO.mv (.g hg rfl)) rfl <| VO.lg rfl rfl (GD.nf _ _) (fun hg => LO.fa (r := 2) F37_2 (.r rfl) rfl) rfl <| VO.lg rfl rfl (GD.nf _ _) (fun hg => LO.ld O3 (.g hg rfl) (fun _ hw => cells_at hw 0 rfl ⟨_, rfl⟩)) rfl <| VO.lg rfl rfl (GD.nf _ _) (fun hg => LO.fa (r := 3) F37_3 (.r rfl) rfl) rfl <| VO.lg rfl rfl (GD.nf _ _) (fun hg => LO.ld O3 (.g hg rfl) (fun _ hw => cells_at hw 0 rfl ⟨_, rfl⟩)) rfl <| VO.lg rfl rfl (GD.nf _ _) (fun hg => LO.ge (.g hg rfl) (.g hg rfl)) rfl <| VO.lg rfl rfl (GD.t _) (fun hg => LO.pkO (.g hg rfl) (.r rfl) rfl (and_e hg)) rfl <| VO.l (LO.pkA (.r rfl) rfl rfl (.r rfl)) rfl <| VO.nil ?_)
          refine VE.seqN ?_
          refine VC.cond rfl (fun h5 => ?_) (fun h5 => ?_)
          ·
            refine VC.seq ?_
            refine VC.reg (VO.l (LO.as (.r rfl)) rfl <| VO.nil ?_)
            refine VE.seqN ?_
            refine VC.ret (VE.thenR (VE.res (vs := [_]) rfl ⟨rfl, trivial⟩ (fun w hw => ?_)))
            refine ⟨?_, hw.nil⟩
            simp only [resV]
            congr 2
            try simp only [eq_self, true_and] at *
            have q2 := tmod2 t.count
            rw [trainE]
            first | (rw [if_neg (by unfold kndOk; omega)]; done) | (rw [if_pos (by unfold kndOk; omega), if_pos (by unfold trainOk; omega)]; done) | (rw [if_pos (by unfold kndOk; omega), if_neg (by unfold trainOk; omega)]; done) | (exfalso; omega)
          ·
            refine VC.skip (VE.seqN ?_)
            refine VC.seq ?_
            refine VC.seq ?_
            refine VC.reg (VO.l (LO.fa (r := 4) F37_4 (.r rfl) rfl) rfl <| VO.l (LO.ld O3 (.r rfl) (fun _ hw => cells_at hw 0 rfl ⟨_, rfl⟩)) rfl <| VO.l (LO.mv (.r rfl)) rfl <| VO.l (LO.call (xs := [_, _, _]) (vs := [_, _, _]) C49 ⟨(.r rfl), (.r rfl), (.r rfl), trivial⟩ (fun w _ => In_c _ _ _ w)) rfl <| VO.l (LO.not (.r rfl)) rfl <| VO.nil ?_)
            refine VE.seqN ?_
            refine VC.cond rfl (fun h6 => ?_) (fun h6 => ?_)
            ·
              refine VC.seq ?_
              refine VC.reg (VO.l (LO.as (.r rfl)) rfl <| VO.nil ?_)
              refine VE.seqN ?_
              refine VC.ret (VE.thenR (VE.res (vs := [_]) rfl ⟨rfl, trivial⟩ (fun w hw => ?_)))
              refine ⟨?_, hw.nil⟩
              simp only [resV]
              congr 2
              try simp only [eq_self, true_and] at *
              have q2 := tmod2 t.count
              rw [trainE]
              first | (rw [if_neg (by unfold kndOk; omega)]; done) | (rw [if_pos (by unfold kndOk; omega), if_pos (by unfold trainOk; omega)]; done) | (rw [if_pos (by unfold kndOk; omega), if_neg (by unfold trainOk; omega)]; done) | (exfalso; omega)
            ·
              refine VC.skip (VE.seqN ?_)
              refine VC.seq ?_
              refine VC.reg (VO.l (LO.as (.r rfl)) rfl <| VO.nil ?_)
              refine VE.seqN ?_
              refine VC.ret (VE.res (vs := [_]) rfl ⟨rfl, trivial⟩ (fun w hw => ?_))
              refine ⟨?_, hw.nil⟩
              simp only [resV]
              congr 2
              try simp only [eq_self, true_and] at *
              have q2 := tmod2 t.count
              rw [trainE]
              first | (rw [if_neg (by unfold kndOk; omega)]; done) | (rw [if_pos (by unfold kndOk; omega), if_pos (by unfold trainOk; omega)]; done) | (rw [if_pos (by unfold kndOk; omega), if_neg (by unfold trainOk; omega)]; done) | (exfalso; omega)
      ·
        refine VC.seq ?_
        refine VC.reg (VO.l (LO.eq (.r rfl) (.r rfl)) rfl <| VO.l (LO.as (.r rfl)) rfl <| VO.nil ?_)
        refine VE.seqN ?_
        refine VC.cond rfl (fun h7 => ?_) (fun h7 => ?_)
        ·
          refine VC.seq ?_
          refine VC.reg (VO.l (LO.as (.r rfl)) rfl <| VO.nil ?_)
          refine VE.seqN ?_
          refine VC.seq ?_
          refine VC.reg (VO.l (LO.fa (r := 4) F37_4 (.r rfl) rfl) rfl <| VO.l (LO.ld O3 (.r rfl) (fun _ hw => cells_at hw 0 rfl ⟨_, rfl⟩)) rfl <| VO.l (LO.rem (.r rfl) (.r rfl) (by omega)) rfl <| VO.l (LO.ne (.r rfl) (.r rfl)) rfl <| VO.nil ?_)
          refine VE.seqN ?_
          refine VC.cond rfl (fun h8 => ?_) (fun h8 => ?_)
          ·
            refine VC.seq ?_
            refine VC.reg (VO.l (LO.as (.r rfl)) rfl <| VO.nil ?_)
            refine VE.seqN ?_
            refine VC.ret (VE.inR (VE.thenR (VE.res (vs := [_]) rfl ⟨rfl, trivial⟩ (fun w hw => ?_))))
            refine ⟨?_, hw.nil⟩
            simp only [resV]
            congr 2
            try simp only [eq_self, true_and] at *
            have q2 := tmod2 t.count
            rw [trainE]
            first | (rw [if_neg (by unfold kndOk; omega)]; done) | (rw [if_pos (by unfold kndOk; omega), if_pos (by unfold trainOk; omega)]; done) | (rw [if_pos (by unfold kndOk; omega), if_neg (by unfold trainOk; omega)]; done) | (exfalso; omega)
          ·
            refine VC.skip (VE.inN (VE.seqN ?_))
            refine VC.seq ?_
            refine VC.seq ?_
            refine VC.reg (VO.l (LO.fa (r := 1) F37_1 (.r rfl) rfl) rfl <| VO.l (LO.ld O3 (.r rfl) (fun _ hw => cells_at hw 0 rfl ⟨_, rfl⟩)) rfl <| VO.l (LO.ne (.r rfl) (.r rfl)) rfl <| VO.l (LO.mv (.r rfl)) rfl <| VO.lg rfl rfl (GD.t _) (fun hg => LO.fa (r := 3) F37_3 (.r rfl) rfl) rfl <| VO.lg rfl rfl (GD.t _) (fun hg => LO.ld O3 (.g hg rfl) (fun _ hw => cells_at hw 0 rfl ⟨_, rfl⟩)) rfl <| VO.lg rfl rfl (GD.t _) (fun hg => LO.call (xs := [_, _, _]) (vs := [_, _, _]) C49 ⟨(.g hg rfl), (.r rfl), (.r rfl), trivial⟩ (fun w _ => In_c _ _ _ w)) rfl <| VO.lg rfl rfl (GD.t _) (fun hg => LO.not (.g hg rfl)) rfl <| VO.lg rfl rfl (GD.t _) (fun hg => LO.mv (.g hg rfl)) rfl <| VO.lg rfl rfl (GD.nf _ _) (fun hg => LO.fa (r := 2) F37_2 (.r rfl) rfl) rfl <| VO.lg rfl rfl (GD.nf _ _) (fun hg => LO.ld O3 (.g hg rfl) (fun _ hw => cells_at hw 0 rfl ⟨_, rfl⟩)) rfl <| VO.lg rfl rfl (GD.nf _ _) (fun hg => LO.fa (r := 3) F37_3 (.r rfl) rfl) rfl <| VO.lg rfl rfl (GD.nf _ _) (fun hg => LO.ld O3 (.g hg rfl) (fun _ hw => cells_at hw 0 rfl ⟨_, rfl⟩)) rfl <| VO.lg rfl rfl (GD.nf _ _) (fun hg => LO.ge (.g hg rfl) (.g hg rfl)) rfl <| VO.lg rfl rfl (GD.t _) (fun hg => LO.pkO (.g hg rfl) (.r rfl) rfl (and_e hg)) rfl <| VO.l (LO.pkA (.r rfl) rfl rfl (.r rfl)) rfl <| VO.nil ?_)
            refine VE.seqN ?_
            refine VC.cond rfl (fun h9 => ?_) (fun h9 => ?_)
            ·
              refine VC.seq ?_
              refine VC.reg (VO.l (LO.as (.r rfl)) rfl <| VO.nil ?_)
              refine VE.seqN ?_
              refine VC.ret (VE.thenR (VE.res (vs := [_]) rfl ⟨rfl, trivial⟩ (fun w hw => ?_)))
              refine ⟨?_, hw.nil⟩
              simp only [resV]
              congr 2
              try simp only [eq_self, true_and] at *
              have q2 := tmod2 t.count
              rw [trainE]
              first | (rw [if_neg (by unfold kndOk; omega)]; done) | (rw [if_pos (by unfold kndOk; omega), if_pos (by unfold trainOk; omega)]; done) | (rw [if_pos (by unfold kndOk; omega), if_neg (by unfold trainOk; omega)]; done) | (exfalso; omega)
            ·
              refine VC.skip (VE.seqN ?_)
              refine VC.seq ?_
              refine VC.seq ?_
              refine VC.reg (VO.l (LO.fa (r := 4) F37_4 (.r rfl) rfl) rfl <| VO.l (LO.ld O3 (.r rfl) (fun _ hw => cells_at hw 0 rfl ⟨_, rfl⟩)) rfl <| VO.l (LO.mv (.r rfl)) rfl <| VO.l (LO.call (xs := [_, _, _]) (vs := [_, _, _]) C49 ⟨(.r rfl), (.r rfl), (.r rfl), trivial⟩ (fun w _ => In_c _ _ _ w)) rfl <| VO.l (LO.not (.r rfl)) rfl <| VO.nil ?_)
              refine VE.seqN ?_
              refine VC.cond rfl (fun h10 => ?_) (fun h10 => ?_)
              ·
                refine VC.seq ?_
                refine VC.reg (VO.l (LO.as (.r rfl)) rfl <| VO.nil ?_)
                refine VE.seqN ?_
                refine VC.ret (VE.thenR (VE.res (vs := [_]) rfl ⟨rfl, trivial⟩ (fun w hw => ?_)))
                refine ⟨?_, hw.nil⟩
                simp only [resV]
                congr 2
                try simp only [eq_self, true_and] at *
                have q2 := tmod2 t.count
                rw [trainE]
                first | (rw [if_neg (by unfold kndOk; omega)]; done) | (rw [if_pos (by unfold kndOk; omega), if_pos (by unfold trainOk; omega)]; done) | (rw [if_pos (by unfold kndOk; omega), if_neg (by unfold trainOk; omega)]; done) | (exfalso; omega)
              ·
                refine VC.skip (VE.seqN ?_)
                refine VC.seq ?_
                refine VC.reg (VO.l (LO.as (.r rfl)) rfl <| VO.nil ?_)
                refine VE.seqN ?_
                refine VC.ret (VE.res (vs := [_]) rfl ⟨rfl, trivial⟩ (fun w hw => ?_))
                refine ⟨?_, hw.nil⟩
                simp only [resV]
                congr 2
                try simp only [eq_self, true_and] at *
                have q2 := tmod2 t.count
                rw [trainE]
                first | (rw [if_neg (by unfold kndOk; omega)]; done) | (rw [if_pos (by unfold kndOk; omega), if_pos (by unfold trainOk; omega)]; done) | (rw [if_pos (by unfold kndOk; omega), if_neg (by unfold trainOk; omega)]; done) | (exfalso; omega)
        ·
          refine VC.seq ?_
          refine VC.reg (VO.l (LO.eq (.r rfl) (.r rfl)) rfl <| VO.l (LO.as (.r rfl)) rfl <| VO.nil ?_)
          refine VE.seqN ?_
          refine VC.cond rfl (fun h11 => ?_) (fun h11 => ?_)
          ·
            refine VC.reg (VO.l (LO.as (.r rfl)) rfl <| VO.nil ?_)
            refine VE.inN (VE.seqN ?_)
            refine VC.seq ?_
            refine VC.seq ?_
            refine VC.reg (VO.l (LO.fa (r := 1) F37_1 (.r rfl) rfl) rfl <| VO.l (LO.ld O3 (.r rfl) (fun _ hw => cells_at hw 0 rfl ⟨_, rfl⟩)) rfl <| VO.l (LO.ne (.r rfl) (.r rfl)) rfl <| VO.l (LO.mv (.r rfl)) rfl <| VO.lg rfl rfl (GD.t _) (fun hg => LO.fa (r := 3) F37_3 (.r rfl) rfl) rfl <| VO.lg rfl rfl (GD.t _) (fun hg => LO.ld O3 (.g hg rfl) (fun _ hw => cells_at hw 0 rfl ⟨_, rfl⟩)) rfl <| VO.lg rfl rfl (GD.t _) (fun hg => LO.call (xs := [_, _, _]) (vs := [_, _, _]) C49 ⟨(.g hg rfl), (.r rfl), (.r rfl), trivial⟩ (fun w _ => In_c _ _ _ w)) rfl <| VO.lg rfl rfl (GD.t _) (fun hg => LO.not (.g hg rfl)) rfl <| VO.lg rfl rfl (GD.t _) (fun hg => LO.mv (.g hg rfl)) rfl <| VO.lg rfl rfl (GD.nf _ _) (fun hg => LO.fa (r := 2) F37_2 (.r rfl) rfl) rfl <| VO.lg rfl rfl (GD.nf _ _) (fun hg => LO.ld O3 (.g hg rfl) (fun _ hw => cells_at hw 0 rfl ⟨_, rfl⟩)) rfl <| VO.lg rfl rfl (GD.nf _ _) (fun hg => LO.fa (r := 3) F37_3 (.r rfl) rfl) rfl <| VO.lg rfl rfl (GD.nf _ _) (fun hg => LO.ld O3 (.g hg rfl) (fun _ hw => cells_at hw 0 rfl ⟨_, rfl⟩)) rfl <| VO.lg rfl rfl (GD.nf _ _) (fun hg => LO.ge (.g hg rfl) (.g hg rfl)) rfl <| VO.lg rfl rfl (GD.t _) (fun hg => LO.pkO (.g hg rfl) (.r rfl) rfl (and_e hg)) rfl <| VO.l (LO.pkA (.r rfl) rfl rfl (.r rfl)) rfl <| VO.nil ?_)
            refine VE.seqN ?_
            refine VC.cond rfl (fun h12 => ?_) (fun h12 => ?_)
            ·
              refine VC.seq ?_
              refine VC.reg (VO.l (LO.as (.r rfl)) rfl <| VO.nil ?_)
              refine VE.seqN ?_
              refine VC.ret (VE.thenR (VE.res (vs := [_]) rfl ⟨rfl, trivial⟩ (fun w hw => ?_)))
              refine ⟨?_, hw.nil⟩
              simp only [resV]
              congr 2
              try simp only [eq_self, true_and] at *
              have q2 := tmod2 t.count
              rw [trainE]
              first | (rw [if_neg (by unfold kndOk; omega)]; done) | (rw [if_pos (by unfold kndOk; omega), if_pos (by unfold trainOk; omega)]; done) | (rw [if_pos (by unfold kndOk; omega), if_neg (by unfold trainOk; omega)]; done) | (exfalso; omega)
            ·
              refine VC.skip (VE.seqN ?_)
              refine VC.seq ?_
              refine VC.seq ?_
              refine VC.reg (VO.l (LO.fa (r := 4) F37_4 (.r rfl) rfl) rfl <| VO.l (LO.ld O3 (.r rfl) (fun _ hw => cells_at hw 0 rfl ⟨_, rfl⟩)) rfl <| VO.l (LO.mv (.r rfl)) rfl <| VO.l (LO.call (xs := [_, _, _]) (vs := [_, _, _]) C49 ⟨(.r rfl), (.r rfl), (.r rfl), trivial⟩ (fun w _ => In_c _ _ _ w)) rfl <| VO.l (LO.not (.r rfl)) rfl <| VO.nil ?_)
              refine VE.seqN ?_
              refine VC.cond rfl (fun h13 => ?_) (fun h13 => ?_)
              ·
                refine VC.seq ?_
                refine VC.reg (VO.l (LO.as (.r rfl)) rfl <| VO.nil ?_)
                refine VE.seqN ?_
                refine VC.ret (VE.thenR (VE.res (vs := [_]) rfl ⟨rfl, trivial⟩ (fun w hw => ?_)))
                refine ⟨?_, hw.nil⟩
                simp only [resV]
                congr 2
                try simp only [eq_self, true_and] at *
                have q2 := tmod2 t.count
                rw [trainE]
                first | (rw [if_neg (by unfold kndOk; omega)]; done) | (rw [if_pos (by unfold kndOk; omega), if_pos (by unfold trainOk; omega)]; done) | (rw [if_pos (by unfold kndOk; omega), if_neg (by unfold trainOk; omega)]; done) | (exfalso; omega)
              ·
                refine VC.skip (VE.seqN ?_)
                refine VC.seq ?_
                refine VC.reg (VO.l (LO.as (.r rfl)) rfl <| VO.nil ?_)
                refine VE.seqN ?_
                refine VC.ret (VE.res (vs := [_]) rfl ⟨rfl, trivial⟩ (fun w hw => ?_))
                refine ⟨?_, hw.nil⟩
                simp only [resV]
                congr 2
                try simp only [eq_self, true_and] at *
                have q2 := tmod2 t.count
                rw [trainE]
                first | (rw [if_neg (by unfold kndOk; omega)]; done) | (rw [if_pos (by unfold kndOk; omega), if_pos (by unfold trainOk; omega)]; done) | (rw [if_pos (by unfold kndOk; omega), if_neg (by unfold trainOk; omega)]; done) | (exfalso; omega)
          ·
            refine VC.skip (VE.inN (VE.seqN ?_))
            refine VC.seq ?_
            refine VC.seq ?_
            refine VC.reg (VO.l (LO.fa (r := 1) F37_1 (.r rfl) rfl) rfl <| VO.l (LO.ld O3 (.r rfl) (fun _ hw => cells_at hw 0 rfl ⟨_, rfl⟩)) rfl <| VO.l (LO.ne (.r rfl) (.r rfl)) rfl <| VO.l (LO.mv (.r rfl)) rfl <| VO.lg rfl rfl (GD.t _) (fun hg => LO.fa (r := 3) F37_3 (.r rfl) rfl) rfl <| VO.lg rfl rfl (GD.t _) (fun hg => LO.ld O3 (.g hg rfl) (fun _ hw => cells_at hw 0 rfl ⟨_, rfl⟩)) rfl <| VO.lg rfl rfl (GD.t _) (fun hg => LO.call (xs := [_, _, _]) (vs := [_, _, _]) C49 ⟨(.g hg rfl), (.r rfl), (.r rfl), trivial⟩ (fun w _ => In_c _ _ _ w)) rfl <| VO.lg rfl rfl (GD.t _) (fun hg => LO.not (.g hg rfl)) rfl <| VO.lg rfl rfl (GD.t _) (fun hg => LO.mv (.g hg rfl)) rfl <| VO.lg rfl rfl (GD.nf _ _) (fun hg => LO.fa (r := 2) F37_2 (.r rfl) rfl) rfl <| VO.lg rfl rfl (GD.nf _ _) (fun hg => LO.ld O3 (.g hg rfl) (fun _ hw => cells_at hw 0 rfl ⟨_, rfl⟩)) rfl <| VO.lg rfl rfl (GD.nf _ _) (fun hg => LO.fa (r := 3) F37_3 (.r rfl) rfl) rfl <| VO.lg rfl rfl (GD.nf _ _) (fun hg => LO.ld O3 (.g hg rfl) (fun _ hw => cells_at hw 0 rfl ⟨_, rfl⟩)) rfl <| VO.lg rfl rfl (GD.nf _ _) (fun hg => LO.ge (.g hg rfl) (.g hg rfl)) rfl <| VO.lg rfl rfl (GD.t _) (fun hg => LO.pkO (.g hg rfl) (.r rfl) rfl (and_e hg)) rfl <| VO.l (LO.pkA (.r rfl) rfl rfl (.r rfl)) rfl <| VO.nil ?_)
            refine VE.seqN ?_
            refine VC.cond rfl (fun h14 => ?_) (fun h14 => ?_)
            ·
              refine VC.seq ?_
              refine VC.reg (VO.l (LO.as (.r rfl)) rfl <| VO.nil ?_)
              refine VE.seqN ?_
              refine VC.ret (VE.thenR (VE.res (vs := [_]) rfl ⟨rfl, trivial⟩ (fun w hw => ?_)))
              refine ⟨?_, hw.nil⟩
              simp only [resV]
              congr 2
              try simp only [eq_self, true_and] at *
              have q2 := tmod2 t.count
              rw [trainE]
              first | (rw [if_neg (by unfold kndOk; omega)]; done) | (rw [if_pos (by unfold kndOk; omega), if_pos (by unfold trainOk; omega)]; done) | (rw [if_pos (by unfold kndOk; omega), if_neg (by unfold trainOk; omega)]; done) | (exfalso; omega)
            ·
              refine VC.skip (VE.seqN ?_)
              refine VC.seq ?_
              refine VC.seq ?_
              refine VC.reg (VO.l (LO.fa (r := 4) F37_4 (.r rfl) rfl) rfl <| VO.l (LO.ld O3 (.r rfl) (fun _ hw => cells_at hw 0 rfl ⟨_, rfl⟩)) rfl <| VO.l (LO.mv (.r rfl)) rfl <| VO.l (LO.call (xs := [_, _, _]) (vs := [_, _, _]) C49 ⟨(.r rfl), (.r rfl), (.r rfl), trivial⟩ (fun w _ => In_c _ _ _ w)) rfl <| VO.l (LO.not (.r rfl)) rfl <| VO.nil ?_)
              refine VE.seqN ?_
              refine VC.cond rfl (fun h15 => ?_) (fun h15 => ?_)
              ·
                refine VC.seq ?_
                refine VC.reg (VO.l (LO.as (.r rfl)) rfl <| VO.nil ?_)
                refine VE.seqN ?_
                refine VC.ret (VE.thenR (VE.res (vs := [_]) rfl ⟨rfl, trivial⟩ (fun w hw => ?_)))
                refine ⟨?_, hw.nil⟩
                simp only [resV]
                congr 2
                try simp only [eq_self, true_and] at *
                have q2 := tmod2 t.count
                rw [trainE]
                first | (rw [if_neg (by unfold kndOk; omega)]; done) | (rw [if_pos (by unfold kndOk; omega), if_pos (by unfold trainOk; omega)]; done) | (rw [if_pos (by unfold kndOk; omega), if_neg (by unfold trainOk; omega)]; done) | (exfalso; omega)
              ·
                refine VC.skip (VE.seqN ?_)
                refine VC.seq ?_
                refine VC.reg (VO.l (LO.as (.r rfl)) rfl <| VO.nil ?_)
                refine VE.seqN ?_
                refine VC.ret (VE.res (vs := [_]) rfl ⟨rfl, trivial⟩ (fun w hw => ?_))
                refine ⟨?_, hw.nil⟩
                simp only [resV]
                congr 2
                try simp only [eq_self, true_and] at *
                have q2 := tmod2 t.count
                rw [trainE]
                first | (rw [if_neg (by unfold kndOk; omega)]; done) | (rw [if_pos (by unfold kndOk; omega), if_pos (by unfold trainOk; omega)]; done) | (rw [if_pos (by unfold kndOk; omega), if_neg (by unfold trainOk; omega)]; done) | (exfalso; omega)

set_option maxRecDepth 20000 in
theorem recvP_c (r : Recv) (w : World) :
  Calls Try.prog 27 #[recvV r] w fun e w' => e = .returned (.int .i64 (recvE r)) ∧ St (bs w) [] w' := by
  refine enter (vs := [_]) (env := [(0, _)]) Try.func27 rfl rfl rfl rfl ?_
  refine VC.seq ?_
  refine VC.reg (VO.h rfl <| HO.box (C := #[_, _, _, _]) rfl rfl fun b1 => VO.l (LO.as (.r rfl)) rfl <| VO.nil ?_)
  refine VE.seqN ?_
  refine VC.seq ?_
  refine VC.seq ?_
  refine VC.reg (VO.l (LO.fa (r := 0) F27_0 (.r rfl) rfl) rfl <| VO.l (LO.ld O3 (.r rfl) (fun _ hw => cells_at hw 0 rfl ⟨_, rfl⟩)) rfl <| VO.l (LO.call (xs := [_, _, _]) (vs := [_, _, _]) C45 ⟨(.r rfl), (.r rfl), (.r rfl), trivial⟩ (fun w _ => within_c _ _ _ w)) rfl <| VO.l (LO.not (.r rfl)) rfl <| VO.l (LO.mv (.r rfl)) rfl <| VO.lg rfl rfl (GD.f _) (fun hg => LO.fa (r := 1) F27_1 (.r rfl) rfl) rfl <| VO.lg rfl rfl (GD.f _) (fun hg => LO.ld O3 (.g hg rfl) (fun _ hw => cells_at hw 0 rfl ⟨_, rfl⟩)) rfl <| VO.lg rfl rfl (GD.f _) (fun hg => LO.call (xs := [_, _, _]) (vs := [_, _, _]) C45 ⟨(.g hg rfl), (.r rfl), (.r rfl), trivial⟩ (fun w _ => within_c _ _ _ w)) rfl <| VO.lg rfl rfl (GD.f _) (fun hg => LO.not (.g hg rfl)) rfl <| VO.l (LO.pkO (.r rfl) (.r rfl) rfl rfl) rfl <| VO.l (LO.mv (.r rfl)) rfl <| VO.lg rfl rfl (GD.f _) (fun hg => LO.fa (r := 2) F27_2 (.r rfl) rfl) rfl <| VO.lg rfl rfl (GD.f _) (fun hg => LO.lda (vs := [_, _]) A25 (.g hg rfl) (fun _ hw => cells_at hw 0 rfl ⟨_, rfl⟩) rfl) rfl <| VO.lg rfl rfl (GD.f _) (fun hg => LO.call (xs := [_, _, _]) (vs := [_, _, _]) C61 ⟨(.g hg rfl), (.r rfl), (.r rfl), trivial⟩ (fun w _ => inside_c _ _ _ _ w)) rfl <| VO.lg rfl rfl (GD.f _) (fun hg => LO.not (.g hg rfl)) rfl <| VO.l (LO.pkO (.r rfl) (.r rfl) rfl rfl) rfl <| VO.nil ?_)
  refine VE.seqN ?_
  refine VC.cond rfl (fun h1 => ?_) (fun h1 => ?_)
  ·
    refine VC.seq ?_
    refine VC.reg (VO.l (LO.as (.r rfl)) rfl <| VO.nil ?_)
    refine VE.seqN ?_
    refine VC.ret (VE.thenR (VE.res (vs := [_]) rfl ⟨rfl, trivial⟩ (fun w hw => ?_)))
    refine ⟨?_, hw.nil⟩
    simp only [resV]
    congr 2
    rw [recvE]
    first | (rw [if_pos (by unfold recvOk; omega)]; done) | (rw [if_neg (by unfold recvOk; omega)]; done) | (exfalso; omega)
  ·
    refine VC.skip (VE.seqN ?_)
    refine VC.seq ?_
    refine VC.reg (VO.l (LO.as (.r rfl)) rfl <| VO.nil ?_)
    refine VE.seqN ?_
    refine VC.ret (VE.res (vs := [_]) rfl ⟨rfl, trivial⟩ (fun w hw => ?_))
    refine ⟨?_, hw.nil⟩
    simp only [resV]
    congr 2
    rw [recvE]
    first | (rw [if_pos (by unfold recvOk; omega)]; done) | (rw [if_neg (by unfold recvOk; omega)]; done) | (exfalso; omega)

set_option maxRecDepth 20000 in
theorem recvR_c (r : Recv) (w : World) :
  Calls Try.prog 28 #[recvV r] w fun e w' => e = .returned (.int .i64 (recvE r)) ∧ St (bs w) [] w' := by
  refine enter (vs := [_]) (env := [(0, _)]) Try.func28 rfl rfl rfl rfl ?_
  refine VC.seq ?_
  refine VC.reg (VO.h rfl <| HO.box (C := #[_, _, _, _]) rfl rfl fun b1 => VO.l (LO.as (.r rfl)) rfl <| VO.nil ?_)
  refine VE.seqN ?_
  refine VC.seq ?_
  refine VC.seq ?_
  refine VC.reg (VO.l (LO.fa (r := 0) F38_0 (.r rfl) rfl) rfl <| VO.l (LO.ld O3 (.r rfl) (fun _ hw => cells_at hw 0 rfl ⟨_, rfl⟩)) rfl <| VO.l (LO.call (xs := [_, _, _]) (vs := [_, _, _]) C49 ⟨(.r rfl), (.r rfl), (.r rfl), trivial⟩ (fun w _ => In_c _ _ _ w)) rfl <| VO.l (LO.not (.r rfl)) rfl <| VO.l (LO.mv (.r rfl)) rfl <| VO.lg rfl rfl (GD.f _) (fun hg => LO.fa (r := 1) F38_1 (.r rfl) rfl) rfl <| VO.lg rfl rfl (GD.f _) (fun hg => LO.ld O3 (.g hg rfl) (fun _ hw => cells_at hw 0 rfl ⟨_, rfl⟩)) rfl <| VO.lg rfl rfl (GD.f _) (fun hg => LO.call (xs := [_, _, _]) (vs := [_, _, _]) C49 ⟨(.g hg rfl), (.r rfl), (.r rfl), trivial⟩ (fun w _ => In_c _ _ _ w)) rfl <| VO.lg rfl rfl (GD.f _) (fun hg => LO.not (.g hg rfl)) rfl <| VO.l (LO.pkO (.r rfl) (.r rfl) rfl rfl) rfl <| VO.l (LO.mv (.r rfl)) rfl <| VO.lg rfl rfl (GD.f _) (fun hg => LO.fa (r := 2) F38_2 (.r rfl) rfl) rfl <| VO.lg rfl rfl (GD.f _) (fun hg => LO.lda (vs := [_, _]) A25 (.g hg rfl) (fun _ hw => cells_at hw 0 rfl ⟨_, rfl⟩) rfl) rfl <| VO.lg rfl rfl (GD.f _) (fun hg => LO.call (xs := [_, _, _]) (vs := [_, _, _]) C62 ⟨(.g hg rfl), (.r rfl), (.r rfl), trivial⟩ (fun w _ => Valid_c _ _ _ _ w)) rfl <| VO.lg rfl rfl (GD.f _) (fun hg => LO.not (.g hg rfl)) rfl <| VO.l (LO.pkO (.r rfl) (.r rfl) rfl rfl) rfl <| VO.nil ?_)
  refine VE.seqN ?_
  refine VC.cond rfl (fun h1 => ?_) (fun h1 => ?_)
  ·
    refine VC.seq ?_
    refine VC.reg (VO.l (LO.as (.r rfl)) rfl <| VO.nil ?_)
    refine VE.seqN ?_
    refine VC.ret (VE.thenR (VE.res (vs := [_]) rfl ⟨rfl, trivial⟩ (fun w hw => ?_)))
    refine ⟨?_, hw.nil⟩
    simp only [resV]
    congr 2
    rw [recvE]
    first | (rw [if_pos (by unfold recvOk; omega)]; done) | (rw [if_neg (by unfold recvOk; omega)]; done) | (exfalso; omega)
  ·
    refine VC.skip (VE.seqN ?_)
    refine VC.seq ?_
    refine VC.reg (VO.l (LO.as (.r rfl)) rfl <| VO.nil ?_)
    refine VE.seqN ?_
    refine VC.ret (VE.res (vs := [_]) rfl ⟨rfl, trivial⟩ (fun w hw => ?_))
    refine ⟨?_, hw.nil⟩
    simp only [resV]
    congr 2
    rw [recvE]
    first | (rw [if_pos (by unfold recvOk; omega)]; done) | (rw [if_neg (by unfold recvOk; omega)]; done) | (exfalso; omega)

set_option maxRecDepth 20000 in
theorem both_c (t : Train) (r : Recv) (w : World) :
  Calls Try.prog 48 #[trainV t, recvV r] w fun e w' => e = .returned (.int .i64 (if trainE t ≠ 0 then trainE t else recvE r)) ∧ St (bs w) [] w' := by
  refine enter (vs := [_, _]) (env := [(0, _), (1, _)]) Try.func48 rfl rfl rfl rfl ?_
  refine VC.seq ?_
  refine VC.reg (VO.h rfl <| HO.box (C := #[_, _, _, _, _]) rfl rfl fun b1 => VO.h rfl <| HO.box (C := #[_, _, _, _]) rfl rfl fun b2 => VO.l (LO.as (.r rfl)) rfl <| VO.nil ?_)
  refine VE.seqN ?_
  refine VC.seq ?_
  refine VC.reg (VO.l (LO.lda (vs := [_, _, _, _, _]) A37 (.r rfl) (fun _ hw => cells_at hw 1 rfl ⟨_, rfl⟩) rfl) rfl <| VO.l (LO.call (xs := [_]) (vs := [_]) C26 ⟨(.r rfl), trivial⟩ (fun w _ => trainR_c t w)) rfl <| VO.l (LO.as (.r rfl)) rfl <| VO.nil ?_)
  refine VE.seqN ?_
  refine VC.seq ?_
  refine VC.seq ?_
  refine VC.reg (VO.l (LO.mv (.r rfl)) rfl <| VO.l (LO.ne (.r rfl) (.r rfl)) rfl <| VO.nil ?_)
  refine VE.seqN ?_
  refine VC.cond rfl (fun h1 => ?_) (fun h1 => ?_)
  ·
    refine VC.seq ?_
    refine VC.reg (VO.l (LO.mv (.r rfl)) rfl <| VO.l (LO.as (.r rfl)) rfl <| VO.nil ?_)
    refine VE.seqN ?_
    refine VC.ret (VE.thenR (VE.res (vs := [_]) rfl ⟨rfl, trivial⟩ (fun w hw => ?_)))
    first | exact ⟨by simp only [resV]; rw [if_pos h1], hw.nil⟩ | exact ⟨by simp only [resV]; rw [if_neg h1], hw.nil⟩
  ·
    refine VC.skip (VE.seqN ?_)
    refine VC.seq ?_
    refine VC.reg (VO.l (LO.lda (vs := [_, _, _, _]) A38 (.r rfl) (fun _ hw => cells_at hw 0 rfl ⟨_, rfl⟩) rfl) rfl <| VO.l (LO.call (xs := [_]) (vs := [_]) C28 ⟨(.r rfl), trivial⟩ (fun w _ => recvR_c r w)) rfl <| VO.l (LO.as (.r rfl)) rfl <| VO.nil ?_)
    refine VE.seqN ?_
    refine VC.ret (VE.res (vs := [_]) rfl ⟨rfl, trivial⟩ (fun w hw => ?_))
    first | exact ⟨by simp only [resV]; rw [if_pos h1], hw.nil⟩ | exact ⟨by simp only [resV]; rw [if_neg h1], hw.nil⟩

set_option maxRecDepth 20000 in
theorem turning_c (l : List Span) (p : Option Addr) (c : Nat) (w : World) (hn : l.length < 1000000000000) (hl : Spans w p l) :
  Calls Try.prog 63 #[.slice p l.length c] w fun e w' => e = .returned (.bool (decide (∀ s ∈ l, turnS s))) ∧ St (bs w) [] w' := by
  refine enter (vs := [_]) (env := [(0, _)]) Try.func63 rfl rfl rfl rfl ?_
  refine VC.seq ?_
  refine VC.reg (VO.l (LO.as (.r rfl)) rfl <| VO.nil ?_)
  refine VE.seqN ?_
  refine VC.seq ?_
  refine VC.seq ?_
  refine VC.reg (VO.l (LO.mv (.r rfl)) rfl <| VO.l (LO.len S137 (.r rfl) rfl) rfl <| VO.l (LO.mv (.r rfl)) rfl <| VO.nil ?_)
  refine VE.seqN ?_
  refine VC.block ?_
  refine VC.loopK (α := Nat) 0 (fun gx => [(7, .int .i64 (gx : Nat))]) [(5, _), (6, _)] (fun gx => []) (fun gx => gx ≤ l.length ∧ ∀ k, k < gx → turnS (l.getD k zs)) (fun gx => l.length - gx) 0 (by exact ⟨by omega, fun k hk => by omega⟩) (.cons rfl (.cons rfl (.cons rfl .nil))) (fun _ h => h) ?_
  rintro j ⟨hj, hz⟩
  refine VC.seq ?_
  refine VC.reg (VO.l (LO.lt (.r rfl) (.r rfl)) rfl <| VO.nil ?_)
  refine VE.seqN ?_
  refine VC.seq ?_
  refine VC.cond rfl (fun h1 => ?_) (fun h1 => ?_)
  ·
    refine VC.skip (VE.seqN ?_)
    refine VC.seq ?_
    refine VC.block ?_
    refine VC.seq ?_
    refine VC.reg (VO.l (LO.ixs S137 N25 hl.sm (.r rfl) (.r rfl) rfl (by omega)) rfl <| VO.l (LO.lda (vs := [_, _]) A25 (.r rfl) (fun w hw => cells_part (off := 0) ((hl.at zs (j := j) (by omega)) w hw) ⟨_, rfl⟩) rfl) rfl <| VO.h rfl <| HO.alloc (C := #[_, _]) Z25 rfl fun b1 => VO.h0 <| HO.st 0 (vs := [_, _]) (C' := [_, _]) (L' := [_]) N25 rfl rfl rfl rfl rfl rfl rfl rfl <| VO.nil ?_)
    refine VE.seqN ?_
    refine VC.seq ?_
    refine VC.reg (VO.l (LO.fa (r := 0) F25_0 (.r rfl) rfl) rfl <| VO.l (LO.ld O3 (.r rfl) (fun _ hw => cells_at hw 0 rfl ⟨_, rfl⟩)) rfl <| VO.l (LO.call (xs := [_, _, _]) (vs := [_, _, _]) C45 ⟨(.r rfl), (.r rfl), (.r rfl), trivial⟩ (fun w _ => within_c _ _ _ w)) rfl <| VO.l (LO.not (.r rfl)) rfl <| VO.l (LO.mv (.r rfl)) rfl <| VO.lg rfl rfl (GD.f _) (fun hg => LO.fa (r := 1) F25_1 (.r rfl) rfl) rfl <| VO.lg rfl rfl (GD.f _) (fun hg => LO.ld O3 (.g hg rfl) (fun _ hw => cells_at hw 0 rfl ⟨_, rfl⟩)) rfl <| VO.lg rfl rfl (GD.f _) (fun hg => LO.fa (r := 0) F25_0 (.r rfl) rfl) rfl <| VO.lg rfl rfl (GD.f _) (fun hg => LO.ld O3 (.g hg rfl) (fun _ hw => cells_at hw 0 rfl ⟨_, rfl⟩)) rfl <| VO.lg rfl rfl (GD.f _) (fun hg => LO.fa (r := 0) F25_0 (.r rfl) rfl) rfl <| VO.lg rfl rfl (GD.f _) (fun hg => LO.ld O3 (.g hg rfl) (fun _ hw => cells_at hw 0 rfl ⟨_, rfl⟩)) rfl <| VO.lg rfl rfl (GD.f _) (fun hg => LO.add (.g hg rfl) (.r rfl) (wi (by have q := IsP.yes inferInstance hg; omega) (by have q := IsP.yes inferInstance hg; omega))) rfl <| VO.lg rfl rfl (GD.f _) (fun hg => LO.sub (.g hg rfl) (.r rfl) (wi (by have q := IsP.yes inferInstance hg; omega) (by have q := IsP.yes inferInstance hg; omega))) rfl <| VO.lg rfl rfl (GD.f _) (fun hg => LO.call (xs := [_, _, _]) (vs := [_, _, _]) C45 ⟨(.g hg rfl), (.g hg rfl), (.g hg rfl), trivial⟩ (fun w _ => within_c _ _ _ w)) rfl <| VO.lg rfl rfl (GD.f _) (fun hg => LO.not (.g hg rfl)) rfl <| VO.l (LO.pkO (.r rfl) (.r rfl) rfl rfl) rfl <| VO.nil ?_)
    refine VE.seqN ?_
    refine VC.cond rfl (fun h2 => ?_) (fun h2 => ?_)
    ·
      refine VC.seq ?_
      refine VC.reg (VO.l (LO.as (.r rfl)) rfl <| VO.nil ?_)
      refine VE.seqN ?_
      refine VC.ret (VE.inR (VE.thenR (VE.thenR (VE.inR (VE.thenR (VE.res (vs := [_]) rfl ⟨rfl, trivial⟩ (fun w hw => ?_)))))))
      refine ⟨?_, hw.nil⟩
      simp only [resV]
      congr 2
      first | exact all_no (d := zs) (j := j) (by omega) (by unfold turnS; omega) | exact all_yes (d := zs) (j := j) hz (by omega)
    ·
      refine VC.skip (VE.inN (VE.seqN ?_))
      refine VC.reg (VO.l (LO.add (.r rfl) (.r rfl) (wi (by omega) (by omega))) rfl <| VO.l (LO.mv (.r rfl)) rfl <| VO.nil ?_)
      refine VE.thenN fun a w ha hw => ⟨j + 1, ⟨by omega, all_step hz (by unfold turnS; omega)⟩, (by omega), ha.sub (.cons rfl (.cons rfl (.cons rfl .nil))), hw.sel [] rfl⟩
  ·
    refine VC.exit (VE.thenX (VE.thenX (VE.inX (VE.seqN ?_))))
    refine VC.seq ?_
    refine VC.reg (VO.l (LO.as (.r rfl)) rfl <| VO.nil ?_)
    refine VE.seqN ?_
    refine VC.ret (VE.res (vs := [_]) rfl ⟨rfl, trivial⟩ (fun w hw => ?_))
    refine ⟨?_, hw.nil⟩
    simp only [resV]
    congr 2
    first | exact all_no (d := zs) (j := j) (by omega) (by unfold turnS; omega) | exact all_yes (d := zs) (j := j) hz (by omega)

set_option maxRecDepth 20000 in
theorem turns_c (s t : Int) (w : World) :
  Calls Try.prog 64 #[.agg #[.int .i64 s, .int .i64 t]] w fun e w' => e = .returned (.bool (decide (turnS ⟨s, t⟩))) ∧ St (bs w) [] w' := by
  refine enter (vs := [_]) (env := [(0, _)]) Try.func64 rfl rfl rfl rfl ?_
  refine VC.seq ?_
  refine VC.reg (VO.h rfl <| HO.box (C := #[_, _]) rfl rfl fun b1 => VO.l (LO.as (.r rfl)) rfl <| VO.nil ?_)
  refine VE.seqN ?_
  refine VC.seq ?_
  refine VC.reg (VO.l (LO.fa (r := 0) F25_0 (.r rfl) rfl) rfl <| VO.l (LO.ld O3 (.r rfl) (fun _ hw => cells_at hw 0 rfl ⟨_, rfl⟩)) rfl <| VO.l (LO.call (xs := [_, _, _]) (vs := [_, _, _]) C49 ⟨(.r rfl), (.r rfl), (.r rfl), trivial⟩ (fun w _ => In_c _ _ _ w)) rfl <| VO.l (LO.mv (.r rfl)) rfl <| VO.lg rfl rfl (GD.t _) (fun hg => LO.fa (r := 1) F25_1 (.r rfl) rfl) rfl <| VO.lg rfl rfl (GD.t _) (fun hg => LO.ld O3 (.g hg rfl) (fun _ hw => cells_at hw 0 rfl ⟨_, rfl⟩)) rfl <| VO.lg rfl rfl (GD.t _) (fun hg => LO.fa (r := 0) F25_0 (.r rfl) rfl) rfl <| VO.lg rfl rfl (GD.t _) (fun hg => LO.ld O3 (.g hg rfl) (fun _ hw => cells_at hw 0 rfl ⟨_, rfl⟩)) rfl <| VO.lg rfl rfl (GD.t _) (fun hg => LO.fa (r := 0) F25_0 (.r rfl) rfl) rfl <| VO.lg rfl rfl (GD.t _) (fun hg => LO.ld O3 (.g hg rfl) (fun _ hw => cells_at hw 0 rfl ⟨_, rfl⟩)) rfl <| VO.lg rfl rfl (GD.t _) (fun hg => LO.add (.g hg rfl) (.r rfl) (wi (by have q := IsP.yes inferInstance hg; omega) (by have q := IsP.yes inferInstance hg; omega))) rfl <| VO.lg rfl rfl (GD.t _) (fun hg => LO.sub (.g hg rfl) (.r rfl) (wi (by have q := IsP.yes inferInstance hg; omega) (by have q := IsP.yes inferInstance hg; omega))) rfl <| VO.lg rfl rfl (GD.t _) (fun hg => LO.call (xs := [_, _, _]) (vs := [_, _, _]) C49 ⟨(.g hg rfl), (.g hg rfl), (.g hg rfl), trivial⟩ (fun w _ => In_c _ _ _ w)) rfl <| VO.l (LO.pkA (.r rfl) rfl rfl (.r rfl)) rfl <| VO.l (LO.as (.r rfl)) rfl <| VO.nil ?_)
  refine VE.seqN ?_
  refine VC.ret (VE.res (vs := [_]) rfl ⟨rfl, trivial⟩ (fun w hw => ?_))
  refine ⟨?_, hw.nil⟩
  simp only [resV]
  congr 2
  exact turns_b

end Go.Proofs.Ytcnlhifkablmkaa
