/-
  The document's states, and which clouds are few.
-/
import Derived.Test.YtdcjeoamhjplmaaWB
namespace Go.Proofs.Ytdcjeoamhjplmaa
open Go.SL Go.Proofs Go.Cast
set_option linter.unusedVariables false

theorem S26 : IsSlice Try.prog 26 37 := Try.underlying26
theorem N37 : (Try.prog.info? 37).map (·.size) = some 7 := by kernel_rfl
theorem A37 : IsAgg Try.prog 37 7 := ⟨⟨_, Try.underlying37, rfl⟩, by kernel_rfl⟩
theorem C46 : IsFn Try.prog 46 := ⟨_, Try.func46, by decide, rfl⟩
theorem C58 : IsFn Try.prog 58 := ⟨_, Try.func58, by decide, rfl⟩
theorem Z35 : ZeroOf Try.prog 35 (.agg #[.int .i64 0, .int .i64 0, .int .i64 0, .int .i64 0]) := by unfold ZeroOf; kernel_rfl
theorem B35 : Builds Try.prog 35 [(0, 2), (2, 2)] [.int .i64 0, .int .i64 0, .int .i64 0, .int .i64 0] := Builds.mk fun _ => by kernel_rfl
theorem N35 : (Try.prog.info? 35).map (·.size) = some 4 := by kernel_rfl
theorem Z37 : ZeroOf Try.prog 37 (.agg #[.slice none 0 0, .slice none 0 0, .int .i64 0, .int .i64 0, .int .i64 0, .int .i64 0, .int .i64 0]) := by unfold ZeroOf; kernel_rfl
theorem C33 : IsFn Try.prog 33 := ⟨_, Try.func33, by decide, rfl⟩
theorem B37 : Builds Try.prog 37 [(0, 1), (1, 1), (2, 4), (6, 1)] [.slice none 0 0, .slice none 0 0, .int .i64 0, .int .i64 0, .int .i64 0, .int .i64 0, .int .i64 0] := Builds.mk fun _ => by kernel_rfl


theorem cloudE_neg {g : Grid} {c : Cloud} (h : cloudE g c = 0) : memB c.sure (-1) = false ∧ memB c.may (-1) = false := by
  unfold cloudE at h
  split at h
  · omega
  · split at h
    · omega
    · split at h
      · omega
      · split at h
        · omega
        · split at h
          · omega
          · rename_i q
            have q := Classical.not_not.1 q
            have hm : ∀ n, n ∈ c.may → n ≠ -1 := fun n hn => by
              obtain ⟨i, hi, e⟩ := List.getElem_of_mem hn
              have := firstE_eq q i hi
              unfold mayE at this
              have e2 : c.may.getD i 0 = n := by rw [List.getD_eq_getElem?_getD, List.getElem?_eq_getElem hi]; exact e
              rw [e2] at this
              split at this
              · omega
              · omega
            have hs : ∀ n, n ∈ c.sure → n ∈ c.may := fun n hn => by
              obtain ⟨i, hi, e⟩ := List.getElem_of_mem hn
              have := firstE_eq h i hi
              unfold sureE at this
              have e2 : c.sure.getD i 0 = n := by rw [List.getD_eq_getElem?_getD, List.getElem?_eq_getElem hi]; exact e
              rw [e2] at this
              split at this
              · omega
              · split at this
                · omega
                · rename_i r; exact Classical.not_not.1 r
            constructor
            · rw [memB, decide_eq_false_iff_not]; exact fun k => hm _ (hs _ k) rfl
            · rw [memB, decide_eq_false_iff_not]; exact fun k => hm _ k rfl
def fewB (g : Grid) (c : Cloud) (t : Int) : Bool :=
  if 12 < g.wide ∨ 12 < g.high ∨ (60 : Int) < c.sure.length ∨ (60 : Int) < c.may.length then false
  else if cloudE g c ≠ 0 ∨ t < 0 ∨ 7200 < t then true
  else decide ((c.flow.b - c.flow.a + 2 * c.grow) * t ≤ 30000000) && decide ((c.flow.d - c.flow.c + 2 * c.grow) * t ≤ 30000000)
theorem mul_few {a t : Int} (h1 : 0 ≤ a) (h2 : a ≤ 220000) (h3 : 0 ≤ t) (h4 : t ≤ 7200) : 0 ≤ a * t ∧ a * t ≤ 1584000000 := by
  refine ⟨Int.mul_nonneg h1 h3, ?_⟩
  have : a * t ≤ 220000 * t := Int.mul_le_mul_of_nonneg_right h2 h3
  omega

set_option maxRecDepth 20000 in
theorem rAt_c (g : Grid) (l : List CP) (pl : Option Addr) (cl : Nat) (lead : Int) (w : World) (hll : l.length < 1000000000000) (hl : Clouds w pl l) :
  Calls Try.prog 18 #[gridV g, .slice pl l.length cl, .int .i64 lead] w fun e w' => ∃ x : Option Addr × Nat, True ∧ e = .returned (.tuple #[.slice x.1 (atL g (l.map CP.c) lead).length x.2, .int .i64 (atE g (l.map CP.c) lead)]) ∧ St (bs w) [own 3 1 x.1 x.2 ((atL g (l.map CP.c) lead).map fun n => [.int .i64 n])] w' := by
  refine enter (vs := [_, _, _]) (env := [(0, _), (1, _), (2, _)]) Try.func18 rfl rfl rfl rfl ?_
  refine VC.seq ?_
  refine VC.reg (VO.h rfl <| HO.box (C := #[_, _, _, _, _]) rfl rfl fun b1 => VO.l (LO.as (.r rfl)) rfl <| VO.l (LO.as (.r rfl)) rfl <| VO.nil ?_)
  refine VE.seqN ?_
  refine VC.seq ?_
  refine VC.reg (VO.l (LO.lda (vs := [_, _, _, _, _]) A23 (.r rfl) (fun _ hw => cells_at hw 0 rfl ⟨_, rfl⟩) rfl) rfl <| VO.l (LO.call (xs := [_]) (vs := [_]) C56 ⟨(.r rfl), trivial⟩ (fun w _ => rCheckGrid_c g w)) rfl <| VO.l (LO.as (.r rfl)) rfl <| VO.nil ?_)
  refine VE.seqN ?_
  refine VC.seq ?_
  refine VC.seq ?_
  refine VC.reg (VO.l (LO.mv (.r rfl)) rfl <| VO.l (LO.ne (.r rfl) (.r rfl)) rfl <| VO.nil ?_)
  refine VE.seqN ?_
  refine VC.cond rfl (fun h1 => ?_) (fun h1 => ?_)
  ·
    refine VC.seq ?_
    refine VC.reg (VO.l (LO.mv (.r rfl)) rfl <| VO.l (LO.as (.r rfl)) rfl <| VO.l (LO.as (.r rfl)) rfl <| VO.nil ?_)
    refine VE.seqN ?_
    refine VC.ret (VE.thenR (VE.res (vs := [_, _]) rfl ⟨rfl, rfl, trivial⟩ (fun w hw => ?_)))
    first | exact at_err (aE1 h1) h1 hw | exact at_err (aE2 hgo h2) (by decide) hw | exact at_err (aE3 hgo h2 hz hx h4) h4 hw | exact at_err (aE4 hgo h2 hA0 (by simpa using h5)) (by decide) hw | exact at_ok (aE5 hgo h2 hA0 h5) (by omega) (hw.sel [0] rfl)
  ·
    have h1 := Classical.not_not.1 h1
    have hgo : gridOk g := gridOk_of (by simpa using h1)
    have har := area_bd hgo
    refine VC.skip (VE.seqN ?_)
    refine VC.seq ?_
    refine VC.seq ?_
    refine VC.reg (VO.l (LO.mv (.r rfl)) rfl <| VO.l (LO.len S26 (.r rfl) rfl) rfl <| VO.l (LO.gt (.r rfl) (.r rfl)) rfl <| VO.nil ?_)
    refine VE.seqN ?_
    refine VC.cond rfl (fun h2 => ?_) (fun h2 => ?_)
    ·
      refine VC.seq ?_
      refine VC.reg (VO.l (LO.as (.r rfl)) rfl <| VO.l (LO.as (.r rfl)) rfl <| VO.nil ?_)
      refine VE.seqN ?_
      refine VC.ret (VE.thenR (VE.res (vs := [_, _]) rfl ⟨rfl, rfl, trivial⟩ (fun w hw => ?_)))
      first | exact at_err (aE1 h1) h1 hw | exact at_err (aE2 hgo h2) (by decide) hw | exact at_err (aE3 hgo h2 hz hx h4) h4 hw | exact at_err (aE4 hgo h2 hA0 (by simpa using h5)) (by decide) hw | exact at_ok (aE5 hgo h2 hA0 h5) (by omega) (hw.sel [0] rfl)
    ·
      refine VC.skip (VE.seqN ?_)
      refine VC.seq ?_
      refine VC.seq ?_
      refine VC.reg (VO.l (LO.as (.r rfl)) rfl <| VO.nil ?_)
      refine VE.seqN ?_
      refine VC.block ?_
      refine VC.loopK (α := Nat) 0 (fun x => [(9, .int .i64 (x : Nat))]) [(1, _), (2, _), (3, _)] (fun x => []) (fun x => x ≤ l.length ∧ ∀ k, k < x → cloudE g ((l.map CP.c).getD k default) = 0) (fun x => l.length - x) 0 (by exact ⟨by omega, fun k hk => by omega⟩) (.cons rfl (.cons rfl (.cons rfl (.cons rfl .nil)))) (fun _ h => h) ?_
      rintro j ⟨hj, hz⟩
      refine VC.seq ?_
      refine VC.seq ?_
      refine VC.reg (VO.l (LO.mv (.r rfl)) rfl <| VO.l (LO.mv (.r rfl)) rfl <| VO.l (LO.len S26 (.r rfl) rfl) rfl <| VO.l (LO.lt (.r rfl) (.r rfl)) rfl <| VO.nil ?_)
      refine VE.seqN ?_
      refine VC.cond rfl (fun h3 => ?_) (fun h3 => ?_)
      ·
        obtain ⟨x, hx⟩ : ∃ x, l[j]? = some x := ⟨_, List.getElem?_eq_getElem (by omega)⟩
        have hxo := hl.ok x (List.mem_of_getElem? hx)
        refine VC.skip (VE.seqN ?_)
        refine VC.seq ?_
        refine VC.block ?_
        refine VC.seq ?_
        refine VC.draw mixed (LL.l (LO.lda (vs := [_, _, _, _, _]) A23 (.r rfl) (fun _ hw => cells_at hw 0 rfl ⟨_, rfl⟩) rfl) rfl <| LL.l (LO.mv (.r rfl)) rfl <| LL.l (LO.mv (.r rfl)) rfl <| LL.l (LO.ixs S26 N37 hl.sl (.r rfl) (.r rfl) rfl (by omega)) rfl <| LL.l (LO.lda (vs := [_, _, _, _, _, _, _]) A37 (.r rfl) (hl.at hx) rfl) rfl <| LL.l (LO.call (xs := [_, _]) (vs := [_, _]) C46 ⟨(.r rfl), (.r rfl), trivial⟩ (fun w hw => rCheckCloud_c g x.c x.ps x.pm x.cs x.cm w hxo.2.2.1 hxo.2.2.2 (hxo.1.keep w hw) (hxo.2.1.keep w hw))) rfl <| LL.l (LO.as (.r rfl)) rfl <| LL.nil) (by kernel_rfl) ?_
        refine VE.seqN ?_
        refine VC.seq ?_
        refine VC.reg (VO.l (LO.mv (.r rfl)) rfl <| VO.l (LO.ne (.r rfl) (.r rfl)) rfl <| VO.nil ?_)
        refine VE.seqN ?_
        refine VC.cond rfl (fun h4 => ?_) (fun h4 => ?_)
        ·
          refine VC.seq ?_
          refine VC.reg (VO.l (LO.mv (.r rfl)) rfl <| VO.l (LO.as (.r rfl)) rfl <| VO.l (LO.as (.r rfl)) rfl <| VO.nil ?_)
          refine VE.seqN ?_
          refine VC.ret (VE.inR (VE.thenR (VE.thenR (VE.inR (VE.thenR (VE.res (vs := [_, _]) rfl ⟨rfl, rfl, trivial⟩ (fun w hw => ?_)))))))
          first | exact at_err (aE1 h1) h1 hw | exact at_err (aE2 hgo h2) (by decide) hw | exact at_err (aE3 hgo h2 hz hx h4) h4 hw | exact at_err (aE4 hgo h2 hA0 (by simpa using h5)) (by decide) hw | exact at_ok (aE5 hgo h2 hA0 h5) (by omega) (hw.sel [0] rfl)
        ·
          refine VC.skip (VE.inN (VE.seqN ?_))
          refine VC.reg (VO.l (LO.mv (.r rfl)) rfl <| VO.l (LO.add (.r rfl) (.r rfl) (wi (by omega) (by omega))) rfl <| VO.l (LO.as (.r rfl)) rfl <| VO.nil ?_)
          refine VE.thenN fun a w ha hw => ⟨j + 1, ⟨by omega, step_zero hz (by rw [getD_c hx]; simpa using h4)⟩, (by omega), ha.sub (.cons rfl (.cons rfl (.cons rfl (.cons rfl .nil)))), hw⟩
      ·
        refine VC.exit (VE.thenX (VE.thenX (VE.inX (VE.seqN ?_))))
        refine VC.seq ?_
        refine VC.seq ?_
        have hA0 : firstE (fun k => cloudE g ((l.map CP.c).getD k default)) (l.map CP.c).length = 0 := firstE_zero (fun k hk => hz k (by simp at hk; omega))
        refine VC.reg (VO.l (LO.mv (.r rfl)) rfl <| VO.l (LO.call (xs := [_, _, _]) (vs := [_, _, _]) C57 ⟨(.r rfl), (.r rfl), (.r rfl), trivial⟩ (fun w _ => In_c _ _ _ w)) rfl <| VO.l (LO.not (.r rfl)) rfl <| VO.nil ?_)
        refine VE.seqN ?_
        refine VC.cond rfl (fun h5 => ?_) (fun h5 => ?_)
        ·
          refine VC.seq ?_
          refine VC.reg (VO.l (LO.as (.r rfl)) rfl <| VO.l (LO.as (.r rfl)) rfl <| VO.nil ?_)
          refine VE.seqN ?_
          refine VC.ret (VE.thenR (VE.res (vs := [_, _]) rfl ⟨rfl, rfl, trivial⟩ (fun w hw => ?_)))
          first | exact at_err (aE1 h1) h1 hw | exact at_err (aE2 hgo h2) (by decide) hw | exact at_err (aE3 hgo h2 hz hx h4) h4 hw | exact at_err (aE4 hgo h2 hA0 (by simpa using h5)) (by decide) hw | exact at_ok (aE5 hgo h2 hA0 h5) (by omega) (hw.sel [0] rfl)
        ·
          refine VC.skip (VE.seqN ?_)
          refine VC.seq ?_
          have h5 : 0 ≤ lead ∧ lead ≤ 7200 := by simpa using h5
          refine VC.reg (VO.l (LO.as (.r rfl)) rfl <| VO.nil ?_)
          refine VE.seqN ?_
          refine VC.seq ?_
          refine VC.seq ?_
          refine VC.reg (VO.l (LO.as (.r rfl)) rfl <| VO.nil ?_)
          refine VE.seqN ?_
          refine VC.block ?_
          refine VC.loopK (α := Nat × (Option Addr) × Nat) 0 (fun x => [(10, .slice x.2.1 x.1 x.2.2), (11, .int .i64 (x.1 : Nat))]) [(1, _), (2, _), (3, _)] (fun x => [own 3 1 x.2.1 x.2.2 ((List.range x.1).map fun p : Nat => [.int .i64 (stateAll g (l.map CP.c) lead p)])]) (fun x => x.1 ≤ (g.wide * g.high).toNat) (fun x => (g.wide * g.high).toNat - x.1) (0, none, 0) (by exact Nat.zero_le _) (.cons rfl (.cons rfl (.cons rfl (.cons rfl (.cons rfl .nil))))) (fun _ h => h.ownNil 3 1) ?_
          rintro ⟨k, pr, cr⟩ hk
          show VC _ _ _ _ _ ([(10, .slice pr k cr), (11, .int .i64 (k : Nat))] ++ _) ([own 3 1 pr cr ((List.range k).map fun p : Nat => [.int .i64 (stateAll g (l.map CP.c) lead p)])] ++ _) _ _
          have hk : k ≤ (g.wide * g.high).toNat := hk
          refine VC.seq ?_
          refine VC.seq ?_
          refine VC.reg (VO.l (LO.mv (.r rfl)) rfl <| VO.l (LO.fa (r := 3) F23_3 (.r rfl) rfl) rfl <| VO.l (LO.ld O3 (.r rfl) (fun _ hw => cells_at hw 1 rfl ⟨_, rfl⟩)) rfl <| VO.l (LO.fa (r := 4) F23_4 (.r rfl) rfl) rfl <| VO.l (LO.ld O3 (.r rfl) (fun _ hw => cells_at hw 1 rfl ⟨_, rfl⟩)) rfl <| VO.l (LO.mul (.r rfl) (.r rfl) (wi (by omega) (by omega))) rfl <| VO.l (LO.lt (.r rfl) (.r rfl)) rfl <| VO.nil ?_)
          refine VE.seqN ?_
          refine VC.cond rfl (fun h6 => ?_) (fun h6 => ?_)
          ·
            refine VC.skip (VE.seqN ?_)
            refine VC.seq ?_
            refine VC.block ?_
            refine VC.seq ?_
            refine VC.reg (VO.l (LO.as (.r rfl)) rfl <| VO.nil ?_)
            refine VE.seqN ?_
            refine VC.seq ?_
            refine VC.seq ?_
            refine VC.reg (VO.l (LO.as (.r rfl)) rfl <| VO.nil ?_)
            refine VE.seqN ?_
            refine VC.block ?_
            refine VC.loopK (α := Nat) 0 (fun x => [(12, .int .i64 (((l.map CP.c).take x).foldl (fun m c => max m (stateOf g c (k : Nat) lead)) 0)), (13, .int .i64 (x : Nat))]) [(1, _), (2, _), (3, _), (10, _), (11, _)] (fun x => []) (fun x => x ≤ l.length) (fun x => l.length - x) 0 (by exact Nat.zero_le _) (.cons rfl (.cons rfl (.cons rfl (.cons rfl (.cons rfl (.cons rfl (.cons rfl .nil))))))) (fun _ h => h) ?_
            rintro i hi
            refine VC.seq ?_
            refine VC.seq ?_
            refine VC.reg (VO.l (LO.mv (.r rfl)) rfl <| VO.l (LO.mv (.r rfl)) rfl <| VO.l (LO.len S26 (.r rfl) rfl) rfl <| VO.l (LO.lt (.r rfl) (.r rfl)) rfl <| VO.nil ?_)
            refine VE.seqN ?_
            refine VC.cond rfl (fun h7 => ?_) (fun h7 => ?_)
            ·
              obtain ⟨x, hx⟩ : ∃ x, l[i]? = some x := ⟨_, List.getElem?_eq_getElem (by omega)⟩
              have hxo := hl.ok x (List.mem_of_getElem? hx)
              have hx0 : cloudE g x.c = 0 := by rw [← getD_c hx]; exact hz i (by omega)
              have hxk := cloudE_ok hx0
              have hxn := cloudE_neg hx0
              refine VC.skip (VE.seqN ?_)
              refine VC.seq ?_
              refine VC.block ?_
              refine VC.draw mixed (LL.l (LO.mv (.r rfl)) rfl <| LL.l (LO.lda (vs := [_, _, _, _, _]) A23 (.r rfl) (fun _ hw => cells_at hw 1 rfl ⟨_, rfl⟩) rfl) rfl <| LL.l (LO.mv (.r rfl)) rfl <| LL.l (LO.mv (.r rfl)) rfl <| LL.l (LO.ixs S26 N37 hl.sl (.r rfl) (.r rfl) rfl (by omega)) rfl <| LL.l (LO.lda (vs := [_, _, _, _, _, _, _]) A37 (.r rfl) (hl.at hx) rfl) rfl <| LL.l (LO.mv (.r rfl)) rfl <| LL.l (LO.mv (.r rfl)) rfl <| LL.l (LO.call (xs := [_, _, _, _]) (vs := [_, _, _, _]) C58 ⟨(.r rfl), (.r rfl), (.r rfl), (.r rfl), trivial⟩ (fun w hw => State_c g x.c x.ps x.pm x.cs x.cm (k : Nat) lead w hxo.2.2.1 hxo.2.2.2 (hxo.1.keep w hw) (hxo.2.1.keep w hw) hgo hxk.1 hxk.2.1 hxk.2.2 h5.1 h5.2 (by omega) (by omega) hxn.1 hxn.2)) rfl <| LL.l (LO.max (.r rfl) (.r rfl)) rfl <| LL.l (LO.as (.r rfl)) rfl <| LL.nil) (by kernel_rfl) ?_
              refine VE.inN (VE.seqN ?_)
              refine VC.reg (VO.l (LO.mv (.r rfl)) rfl <| VO.l (LO.add (.r rfl) (.r rfl) (wi (by omega) (by omega))) rfl <| VO.l (LO.as (.r rfl)) rfl <| VO.nil ?_)
              refine VE.thenN fun a w ha hw => ⟨i + 1, (by omega), (by omega), ha.sub (.cons (Eq.trans (b := some (Value.int .i64 (max (((l.map CP.c).take i).foldl (fun m c => max m (stateOf g c (k : Nat) lead)) 0) (stateOf g x.c (k : Nat) lead)))) rfl (by rw [take_c hx, List.foldl_append]; rfl)) (.cons rfl (.cons rfl (.cons rfl (.cons rfl (.cons rfl (.cons rfl .nil))))))), hw⟩
            ·
              have hsk : stateAll g (l.map CP.c) lead (k : Nat) = ((l.map CP.c).take i).foldl (fun m c => max m (stateOf g c (k : Nat) lead)) 0 := by rw [show i = l.length by omega, List.take_of_length_le (by simp)]; rfl
              refine VC.exit (VE.thenX (VE.thenX (VE.inX (VE.seqN ?_))))
              refine VC.reg (VO.l (LO.mv (.r rfl)) rfl <| VO.l (LO.mv (.r rfl)) rfl <| VO.h rfl <| HO.bs (ps := [(_, _)]) (vs := [(_, _)]) (Z := [_]) (C := [_]) S28 Z3 N3 ⟨(.r rfl), trivial⟩ rfl rfl rfl rfl ⟨_, [_], [_], rfl, rfl, rfl, rfl, rfl⟩ fun b3 => VO.h rfl <| HO.app1 1 0 (fun R => [_, R, _]) S28 S28 I3 (.r rfl) (.r rfl) rfl rfl rfl rfl rfl rfl rfl (fun _ => rfl) (by simp) (by omega) fun p3 c3 => VO.h rfl <| HO.lo (LO.as (.r rfl)) <| VO.nil ?_)
              refine VE.inN (VE.seqN ?_)
              refine VC.reg (VO.l (LO.mv (.r rfl)) rfl <| VO.l (LO.add (.r rfl) (.r rfl) (wi (by omega) (by omega))) rfl <| VO.l (LO.as (.r rfl)) rfl <| VO.nil ?_)
              refine VE.thenN fun a w ha hw => ⟨(k + 1, _, _), (by dsimp only; omega), (by dsimp only; omega), ha.sub (.cons rfl (.cons rfl (.cons rfl (.cons rfl (.cons rfl .nil))))), (by show St _ ([own 3 1 _ _ ((List.range (k + 1)).map fun p : Nat => [Value.int .i64 (stateAll g (l.map CP.c) lead p)])] ++ _) w; rw [List.range_succ, List.map_append, List.map_singleton, hsk]; exact hw.sel [1, 2] rfl)⟩
          ·
            refine VC.exit (VE.thenX (VE.thenX (VE.inX (VE.seqN ?_))))
            refine VC.seq ?_
            refine VC.reg (VO.l (LO.mv (.r rfl)) rfl <| VO.l (LO.as (.r rfl)) rfl <| VO.l (LO.as (.r rfl)) rfl <| VO.nil ?_)
            refine VE.seqN ?_
            refine VC.ret (VE.res (vs := [_, _]) rfl ⟨rfl, rfl, trivial⟩ (fun w hw => ?_))
            first | exact at_err (aE1 h1) h1 hw | exact at_err (aE2 hgo h2) (by decide) hw | exact at_err (aE3 hgo h2 hz hx h4) h4 hw | exact at_err (aE4 hgo h2 hA0 (by simpa using h5)) (by decide) hw | exact at_ok (aE5 hgo h2 hA0 h5) (by omega) (hw.sel [0] rfl)

set_option maxRecDepth 20000 in
theorem flow_c (f : Flow) (w : World) :
  Calls Try.prog 33 #[flowV f] w fun e w' => e = .returned (flowV f) ∧ St (bs w) [] w' := by
  refine enter (vs := [_]) (env := [(0, _)]) Try.func33 rfl rfl rfl rfl ?_
  refine VC.seq ?_
  refine VC.reg (VO.h rfl <| HO.box (C := #[_, _, _, _]) rfl rfl fun b1 => VO.h rfl <| HO.alloc (C := #[_, _, _, _]) Z35 rfl fun b2 => VO.nil ?_)
  refine VE.seqN ?_
  refine VC.seq ?_
  refine VC.reg (VO.l (LO.fa (r := 0) F32_0 (.r rfl) rfl) rfl <| VO.l (LO.lda (vs := [_, _]) A30 (.r rfl) (fun _ hw => cells_at hw 1 rfl ⟨_, rfl⟩) rfl) rfl <| VO.l (LO.fa (r := 2) F32_1 (.r rfl) rfl) rfl <| VO.l (LO.lda (vs := [_, _]) A30 (.r rfl) (fun _ hw => cells_at hw 1 rfl ⟨_, rfl⟩) rfl) rfl <| VO.l (LO.bd (ps := [(_, _), (_, _)]) (vs := [(_, _), (_, _)]) (C := [_, _, _, _]) B35 ⟨(.r rfl), (.r rfl), trivial⟩ rfl ⟨_, [_, _], [_, _, _, _], rfl, rfl, rfl, rfl, ⟨_, [_, _], [_, _, _, _], rfl, rfl, rfl, rfl, rfl⟩⟩) rfl <| VO.h0 <| HO.st 0 (vs := [_, _, _, _]) (C' := [_, _, _, _]) (L' := [_, _]) N35 rfl rfl rfl rfl rfl rfl rfl rfl <| VO.nil ?_)
  refine VE.seqN ?_
  refine VC.ret (VE.res (vs := [_]) rfl ⟨RV.agg (vs := [_, _, _, _]) A35 rfl (cells_blk 0 rfl ⟨_, rfl⟩) rfl, trivial⟩ (fun w hw => ?_))
  exact ⟨rfl, hw.nil⟩

set_option maxRecDepth 20000 in
theorem cloud_c (c : Cloud) (ps pm : Option Addr) (cs cm : Nat) (w : World) :
  Calls Try.prog 16 #[cloudV ps cs pm cm c] w fun e w' => e = .returned (cloudV ps cs pm cm c) ∧ St (bs w) [] w' := by
  refine enter (vs := [_]) (env := [(0, _)]) Try.func16 rfl rfl rfl rfl ?_
  refine VC.seq ?_
  refine VC.reg (VO.h rfl <| HO.box (C := #[_, _, _, _, _, _, _]) rfl rfl fun b1 => VO.h rfl <| HO.alloc (C := #[_, _, _, _, _, _, _]) Z37 rfl fun b2 => VO.nil ?_)
  refine VE.seqN ?_
  refine VC.seq ?_
  refine VC.drawH [[0, 1], [1]] [some 0, some 0, some 0, some 0, some 0, some 0, some 0, some 0, some 0, some 0, none] mixed (by kernel_rfl) rfl (LX.l (fun _ hJ => LO.fa (r := 0) F34_0 (.r rfl) rfl) rfl <| LX.l (fun _ hJ => LO.ld O28 (.r rfl) (fun _ hw => cells_at (hJ _ hw) 1 rfl ⟨_, rfl⟩)) rfl <| LX.l (fun _ hJ => LO.fa (r := 1) F34_1 (.r rfl) rfl) rfl <| LX.l (fun _ hJ => LO.ld O28 (.r rfl) (fun _ hw => cells_at (hJ _ hw) 1 rfl ⟨_, rfl⟩)) rfl <| LX.l (fun _ hJ => LO.fa (r := 2) F34_2 (.r rfl) rfl) rfl <| LX.l (fun _ hJ => LO.lda (vs := [_, _, _, _]) A32 (.r rfl) (fun _ hw => cells_at (hJ _ hw) 1 rfl ⟨_, rfl⟩) rfl) rfl <| LX.l (fun _ hJ => LO.call (xs := [_]) (vs := [_]) C33 ⟨(.r rfl), trivial⟩ (fun w _ => flow_c ⟨_, _, _, _⟩ w)) rfl <| LX.l (fun _ hJ => LO.fa (r := 6) F34_3 (.r rfl) rfl) rfl <| LX.l (fun _ hJ => LO.ld O3 (.r rfl) (fun _ hw => cells_at (hJ _ hw) 1 rfl ⟨_, rfl⟩)) rfl <| LX.l (fun _ hJ => LO.bd (ps := [(_, _), (_, _), (_, _), (_, _)]) (vs := [(_, _), (_, _), (_, _), (_, _)]) (C := [_, _, _, _, _, _, _]) B37 ⟨(.r rfl), (.r rfl), (.r rfl), (.r rfl), trivial⟩ rfl ⟨_, [_], [_, _, _, _, _, _, _], rfl, rfl, rfl, rfl, ⟨_, [_], [_, _, _, _, _, _, _], rfl, rfl, rfl, rfl, ⟨_, [_, _, _, _], [_, _, _, _, _, _, _], rfl, rfl, rfl, rfl, ⟨_, [_], [_, _, _, _, _, _, _], rfl, rfl, rfl, rfl, rfl⟩⟩⟩⟩) rfl <| LX.s <| LX.nil) (HX.s <| HX.s <| HX.s <| HX.s <| HX.s <| HX.s <| HX.s <| HX.s <| HX.s <| HX.s <| HX.h0 <| HO.st 0 (vs := [_, _, _, _, _, _, _]) (C' := [_, _, _, _, _, _, _]) (L' := [_, _]) N37 rfl rfl rfl rfl rfl rfl rfl rfl <| ⟨fun _ hw => hw.sel [1] rfl, HX.nil ?_⟩)
  refine VE.seqN ?_
  refine VC.ret (VE.res (vs := [_]) rfl ⟨RV.agg (vs := [_, _, _, _, _, _, _]) A37 rfl (cells_blk 0 rfl ⟨_, rfl⟩) rfl, trivial⟩ (fun w hw => ?_))
  exact ⟨rfl, hw.nil⟩

set_option maxRecDepth 20000 in
theorem few_c (g : Grid) (c : Cloud) (t : Int) (ps pm : Option Addr) (cs cm : Nat) (w : World) (hs : Ints w ps c.sure) (hm : Ints w pm c.may) :
  Calls Try.prog 15 #[gridV g, cloudV ps cs pm cm c, .int .i64 t] w fun e w' => e = .returned (.bool (fewB g c t)) ∧ St (bs w) [] w' := by
  refine enter (vs := [_, _, _]) (env := [(0, _), (1, _), (2, _)]) Try.func15 rfl rfl rfl rfl ?_
  refine VC.seq ?_
  refine VC.reg (VO.h rfl <| HO.box (C := #[_, _, _, _, _]) rfl rfl fun b1 => VO.h rfl <| HO.box (C := #[_, _, _, _, _, _, _]) rfl rfl fun b2 => VO.l (LO.as (.r rfl)) rfl <| VO.nil ?_)
  refine VE.seqN ?_
  refine VC.seq ?_
  refine VC.seq ?_
  refine VC.reg (VO.l (LO.fa (r := 3) F23_3 (.r rfl) rfl) rfl <| VO.l (LO.ld O3 (.r rfl) (fun _ hw => cells_at hw 1 rfl ⟨_, rfl⟩)) rfl <| VO.l (LO.gt (.r rfl) (.r rfl)) rfl <| VO.l (LO.mv (.r rfl)) rfl <| VO.lg rfl rfl (GD.f _) (fun hg => LO.fa (r := 4) F23_4 (.r rfl) rfl) rfl <| VO.lg rfl rfl (GD.f _) (fun hg => LO.ld O3 (.g hg rfl) (fun _ hw => cells_at hw 1 rfl ⟨_, rfl⟩)) rfl <| VO.lg rfl rfl (GD.f _) (fun hg => LO.gt (.g hg rfl) (.r rfl)) rfl <| VO.l (LO.pkO (.r rfl) (.r rfl) rfl rfl) rfl <| VO.l (LO.mv (.r rfl)) rfl <| VO.lg rfl rfl (GD.f _) (fun hg => LO.fa (r := 0) F34_0 (.r rfl) rfl) rfl <| VO.lg rfl rfl (GD.f _) (fun hg => LO.ld O28 (.g hg rfl) (fun _ hw => cells_at hw 0 rfl ⟨_, rfl⟩)) rfl <| VO.lg rfl rfl (GD.f _) (fun hg => LO.len S28 (.g hg rfl) rfl) rfl <| VO.lg rfl rfl (GD.f _) (fun hg => LO.gt (.g hg rfl) (.r rfl)) rfl <| VO.l (LO.pkO (.r rfl) (.r rfl) rfl rfl) rfl <| VO.l (LO.mv (.r rfl)) rfl <| VO.lg rfl rfl (GD.f _) (fun hg => LO.fa (r := 1) F34_1 (.r rfl) rfl) rfl <| VO.lg rfl rfl (GD.f _) (fun hg => LO.ld O28 (.g hg rfl) (fun _ hw => cells_at hw 0 rfl ⟨_, rfl⟩)) rfl <| VO.lg rfl rfl (GD.f _) (fun hg => LO.len S28 (.g hg rfl) rfl) rfl <| VO.lg rfl rfl (GD.f _) (fun hg => LO.gt (.g hg rfl) (.r rfl)) rfl <| VO.l (LO.pkO (.r rfl) (.r rfl) rfl rfl) rfl <| VO.nil ?_)
  refine VE.seqN ?_
  refine VC.cond rfl (fun h1 => ?_) (fun h1 => ?_)
  ·
    refine VC.seq ?_
    refine VC.reg (VO.l (LO.as (.r rfl)) rfl <| VO.nil ?_)
    refine VE.seqN ?_
    refine VC.ret (VE.thenR (VE.res (vs := [_]) rfl ⟨rfl, trivial⟩ (fun w hw => ?_)))
    refine ⟨?_, hw.nil⟩
    simp only [resV]
    congr 2
    unfold fewB
    first | rw [if_pos (by omega)] | rw [if_neg (by omega), if_pos (by omega)] | rw [if_neg (by omega), if_neg (by omega)]
  ·
    refine VC.skip (VE.seqN ?_)
    refine VC.seq ?_
    refine VC.seq ?_
    refine VC.reg (VO.l (LO.lda (vs := [_, _, _, _, _]) A23 (.r rfl) (fun _ hw => cells_at hw 1 rfl ⟨_, rfl⟩) rfl) rfl <| VO.l (LO.lda (vs := [_, _, _, _, _, _, _]) A34 (.r rfl) (fun _ hw => cells_at hw 0 rfl ⟨_, rfl⟩) rfl) rfl <| VO.l (LO.call (xs := [_, _]) (vs := [_, _]) C45 ⟨(.r rfl), (.r rfl), trivial⟩ (fun w hw => checkCloud_c g c ps pm cs cm w (by omega) (by omega) (hs.keep w hw) (hm.keep w hw))) rfl <| VO.l (LO.ne (.r rfl) (.r rfl)) rfl <| VO.l (LO.mv (.r rfl)) rfl <| VO.lg rfl rfl (GD.f _) (fun hg => LO.mv (.r rfl)) rfl <| VO.lg rfl rfl (GD.f _) (fun hg => LO.lt (.g hg rfl) (.r rfl)) rfl <| VO.l (LO.pkO (.r rfl) (.r rfl) rfl rfl) rfl <| VO.l (LO.mv (.r rfl)) rfl <| VO.lg rfl rfl (GD.f _) (fun hg => LO.mv (.r rfl)) rfl <| VO.lg rfl rfl (GD.f _) (fun hg => LO.gt (.g hg rfl) (.r rfl)) rfl <| VO.l (LO.pkO (.r rfl) (.r rfl) rfl rfl) rfl <| VO.nil ?_)
    refine VE.seqN ?_
    refine VC.cond rfl (fun h2 => ?_) (fun h2 => ?_)
    ·
      refine VC.seq ?_
      refine VC.reg (VO.l (LO.as (.r rfl)) rfl <| VO.nil ?_)
      refine VE.seqN ?_
      refine VC.ret (VE.thenR (VE.res (vs := [_]) rfl ⟨rfl, trivial⟩ (fun w hw => ?_)))
      refine ⟨?_, hw.nil⟩
      simp only [resV]
      congr 2
      unfold fewB
      first | rw [if_pos (by omega)] | rw [if_neg (by omega), if_pos (by omega)] | rw [if_neg (by omega), if_neg (by omega)]
    ·
      refine VC.skip (VE.seqN ?_)
      refine VC.seq ?_
      have h0 : cloudE g c = 0 := by omega
      obtain ⟨⟨⟨hfa, hfb, hfc⟩, hfd, hfe, hff⟩, hgr1, hgr2⟩ := cloudE_ok h0
      have m1 := mul_few (a := c.flow.b - c.flow.a + 2 * c.grow) (t := t) (by omega) (by omega) (by omega) (by omega)
      have m2 := mul_few (a := c.flow.d - c.flow.c + 2 * c.grow) (t := t) (by omega) (by omega) (by omega) (by omega)
      refine VC.reg (VO.l (LO.fa (r := 2) F34_2 (.r rfl) rfl) rfl <| VO.l (LO.fa (r := 2) F32_0 (.r rfl) rfl) rfl <| VO.l (LO.fa (r := 3) F30_1 (.r rfl) rfl) rfl <| VO.l (LO.ld O3 (.r rfl) (fun _ hw => cells_at hw 0 rfl ⟨_, rfl⟩)) rfl <| VO.l (LO.fa (r := 2) F34_2 (.r rfl) rfl) rfl <| VO.l (LO.fa (r := 2) F32_0 (.r rfl) rfl) rfl <| VO.l (LO.fa (r := 2) F30_0 (.r rfl) rfl) rfl <| VO.l (LO.ld O3 (.r rfl) (fun _ hw => cells_at hw 0 rfl ⟨_, rfl⟩)) rfl <| VO.l (LO.sub (.r rfl) (.r rfl) (wi (by omega) (by omega))) rfl <| VO.l (LO.fa (r := 6) F34_3 (.r rfl) rfl) rfl <| VO.l (LO.ld O3 (.r rfl) (fun _ hw => cells_at hw 0 rfl ⟨_, rfl⟩)) rfl <| VO.l (LO.mul (.r rfl) (.r rfl) (wi (by omega) (by omega))) rfl <| VO.l (LO.add (.r rfl) (.r rfl) (wi (by omega) (by omega))) rfl <| VO.l (LO.mv (.r rfl)) rfl <| VO.l (LO.mul (.r rfl) (.r rfl) (wi (by omega) (by omega))) rfl <| VO.l (LO.le (.r rfl) (.r rfl)) rfl <| VO.l (LO.mv (.r rfl)) rfl <| VO.lg rfl rfl (GD.t _) (fun hg => LO.fa (r := 2) F34_2 (.r rfl) rfl) rfl <| VO.lg rfl rfl (GD.t _) (fun hg => LO.fa (r := 4) F32_1 (.g hg rfl) rfl) rfl <| VO.lg rfl rfl (GD.t _) (fun hg => LO.fa (r := 5) F30_1 (.g hg rfl) rfl) rfl <| VO.lg rfl rfl (GD.t _) (fun hg => LO.ld O3 (.g hg rfl) (fun _ hw => cells_at hw 0 rfl ⟨_, rfl⟩)) rfl <| VO.lg rfl rfl (GD.t _) (fun hg => LO.fa (r := 2) F34_2 (.r rfl) rfl) rfl <| VO.lg rfl rfl (GD.t _) (fun hg => LO.fa (r := 4) F32_1 (.g hg rfl) rfl) rfl <| VO.lg rfl rfl (GD.t _) (fun hg => LO.fa (r := 4) F30_0 (.g hg rfl) rfl) rfl <| VO.lg rfl rfl (GD.t _) (fun hg => LO.ld O3 (.g hg rfl) (fun _ hw => cells_at hw 0 rfl ⟨_, rfl⟩)) rfl <| VO.lg rfl rfl (GD.t _) (fun hg => LO.sub (.g hg rfl) (.g hg rfl) (wi (by omega) (by omega))) rfl <| VO.lg rfl rfl (GD.t _) (fun hg => LO.fa (r := 6) F34_3 (.r rfl) rfl) rfl <| VO.lg rfl rfl (GD.t _) (fun hg => LO.ld O3 (.g hg rfl) (fun _ hw => cells_at hw 0 rfl ⟨_, rfl⟩)) rfl <| VO.lg rfl rfl (GD.t _) (fun hg => LO.mul (.r rfl) (.g hg rfl) (wi (by omega) (by omega))) rfl <| VO.lg rfl rfl (GD.t _) (fun hg => LO.add (.g hg rfl) (.g hg rfl) (wi (by omega) (by omega))) rfl <| VO.lg rfl rfl (GD.t _) (fun hg => LO.mv (.r rfl)) rfl <| VO.lg rfl rfl (GD.t _) (fun hg => LO.mul (.g hg rfl) (.g hg rfl) (wi (by omega) (by omega))) rfl <| VO.lg rfl rfl (GD.t _) (fun hg => LO.le (.g hg rfl) (.r rfl)) rfl <| VO.l (LO.pkA (.r rfl) rfl rfl (.r rfl)) rfl <| VO.l (LO.as (.r rfl)) rfl <| VO.nil ?_)
      refine VE.seqN ?_
      refine VC.ret (VE.res (vs := [_]) rfl ⟨rfl, trivial⟩ (fun w hw => ?_))
      refine ⟨?_, hw.nil⟩
      simp only [resV]
      congr 2
      unfold fewB
      first | rw [if_pos (by omega)] | rw [if_neg (by omega), if_pos (by omega)] | rw [if_neg (by omega), if_neg (by omega)]

end Go.Proofs.Ytdcjeoamhjplmaa
