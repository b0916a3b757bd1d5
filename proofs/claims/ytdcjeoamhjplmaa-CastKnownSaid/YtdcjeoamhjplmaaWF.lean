/-
  The times of a pixel.
-/
import Derived.Test.YtdcjeoamhjplmaaWE
namespace Go.Proofs.Ytdcjeoamhjplmaa
open Go.SL Go.Proofs Go.Cast
set_option linter.unusedVariables false

theorem E63 : Flat Try.prog 63 5 := ⟨⟨_, Try.underlying63⟩, by kernel_rfl, by kernel_rfl⟩
theorem Z60 : ZeroOf Try.prog 60 (.agg #[.int .i64 0, .int .i64 0, .int .i64 0, .int .i64 0, .int .i64 0]) := by unfold ZeroOf; kernel_rfl
theorem B60 : Builds Try.prog 60 [(0, 1), (1, 1), (2, 1), (3, 1), (4, 1)] [.int .i64 0, .int .i64 0, .int .i64 0, .int .i64 0, .int .i64 0] := Builds.mk fun _ => by kernel_rfl
theorem N60 : (Try.prog.info? 60).map (·.size) = some 5 := by kernel_rfl
theorem A60 : IsAgg Try.prog 60 5 := ⟨⟨_, Try.underlying60, rfl⟩, by kernel_rfl⟩
theorem F60_1 : FieldAt Try.prog 60 1 1 := ⟨_, _, Try.underlying60, rfl, rfl, 0, by kernel_rfl⟩
theorem C60 : IsFn Try.prog 60 := ⟨_, Try.func60, by decide, rfl⟩
theorem F60_3 : FieldAt Try.prog 60 3 3 := ⟨_, _, Try.underlying60, rfl, rfl, 0, by kernel_rfl⟩
theorem F60_0 : FieldAt Try.prog 60 0 0 := ⟨_, _, Try.underlying60, rfl, rfl, 0, by kernel_rfl⟩
theorem F60_2 : FieldAt Try.prog 60 2 2 := ⟨_, _, Try.underlying60, rfl, rfl, 0, by kernel_rfl⟩
theorem F60_4 : FieldAt Try.prog 60 4 4 := ⟨_, _, Try.underlying60, rfl, rfl, 0, by kernel_rfl⟩
theorem Z63 : ZeroOf Try.prog 63 (.agg #[.int .i64 0, .int .i64 0, .int .i64 0, .int .i64 0, .int .i64 0]) := by unfold ZeroOf; kernel_rfl
theorem B63 : Builds Try.prog 63 [(0, 1), (1, 1), (2, 1), (3, 1), (4, 1)] [.int .i64 0, .int .i64 0, .int .i64 0, .int .i64 0, .int .i64 0] := Builds.mk fun _ => by kernel_rfl
theorem N63 : (Try.prog.info? 63).map (·.size) = some 5 := by kernel_rfl
theorem A63 : IsAgg Try.prog 63 5 := ⟨⟨_, Try.underlying63, rfl⟩, by kernel_rfl⟩
theorem F63_0 : FieldAt Try.prog 63 0 0 := ⟨_, _, Try.underlying63, rfl, rfl, 0, by kernel_rfl⟩
theorem F63_2 : FieldAt Try.prog 63 2 2 := ⟨_, _, Try.underlying63, rfl, rfl, 0, by kernel_rfl⟩
theorem F63_4 : FieldAt Try.prog 63 4 4 := ⟨_, _, Try.underlying63, rfl, rfl, 0, by kernel_rfl⟩
theorem F63_1 : FieldAt Try.prog 63 1 1 := ⟨_, _, Try.underlying63, rfl, rfl, 0, by kernel_rfl⟩
theorem F63_3 : FieldAt Try.prog 63 3 3 := ⟨_, _, Try.underlying63, rfl, rfl, 0, by kernel_rfl⟩
theorem C23 : IsFn Try.prog 23 := ⟨_, Try.func23, by decide, rfl⟩
theorem C24 : IsFn Try.prog 24 := ⟨_, Try.func24, by decide, rfl⟩


structure Times where
  first : Int
  sure : Int
  last : Int
  least : Int
  most : Int
def Times.ints (T : Times) : List Int := [T.first, T.sure, T.last, T.least, T.most]
abbrev timesC (T : Times) : Array Value := #[.int .i64 T.first, .int .i64 T.sure, .int .i64 T.last, .int .i64 T.least, .int .i64 T.most]
abbrev timesV (T : Times) : Value := .agg (timesC T)
def Times.setFirst (T : Times) (t : Int) : Times := if T.first < 0 then { T with first := t } else T
def Times.setSure (T : Times) (t : Int) : Times := if T.sure < 0 then { T with sure := t } else T
theorem Times.setFirst_t (T : Times) {t : Int} (h : T.first < 0) : T.setFirst t = ⟨t, T.sure, T.last, T.least, T.most⟩ := if_pos h
theorem Times.setFirst_f (T : Times) {t : Int} (h : ¬ T.first < 0) : T.setFirst t = T := if_neg h
theorem Times.setSure_t (T : Times) {t : Int} (h : T.sure < 0) : T.setSure t = ⟨T.first, t, T.last, T.least, T.most⟩ := if_pos h
theorem Times.setSure_f (T : Times) {t : Int} (h : ¬ T.sure < 0) : T.setSure t = T := if_neg h
theorem Times.setFirst_eq (T : Times) (t : Int) : (T.setFirst t).least = T.least ∧ (T.setFirst t).most = T.most := by unfold Times.setFirst; split <;> exact ⟨rfl, rfl⟩
theorem Times.setSure_eq (T : Times) (t : Int) : (T.setSure t).least = T.least ∧ (T.setSure t).most = T.most := by unfold Times.setSure; split <;> exact ⟨rfl, rfl⟩
def Times.maybe (T : Times) (t : Int) : Times := ⟨(T.setFirst t).first, (T.setFirst t).sure, t, (T.setFirst t).least, (T.setFirst t).most + 1⟩
def Times.sureAt (T : Times) (t : Int) : Times := ⟨(T.setSure t).first, (T.setSure t).sure, (T.setSure t).last, (T.setSure t).least + 1, (T.setSure t).most⟩
def stepT (T : Times) (t s : Int) : Times := if s = 2 then (T.sureAt t).maybe t else if s = 1 then T.maybe t else T
def timesTo (g : Grid) (c : Cloud) (p : Int) : Nat → Times
  | 0 => ⟨-1, -1, -1, 0, 0⟩
  | t + 1 => stepT (timesTo g c p t) t (stateOf g c p t)
theorem timesTo_bd {g : Grid} {c : Cloud} {p : Int} : ∀ t, 0 ≤ (timesTo g c p t).least ∧ (timesTo g c p t).least ≤ t ∧ 0 ≤ (timesTo g c p t).most ∧ (timesTo g c p t).most ≤ t
  | 0 => by simp [timesTo]
  | t + 1 => by
    have ih := timesTo_bd (g := g) (c := c) (p := p) t
    unfold timesTo stepT Times.maybe Times.sureAt Times.setFirst Times.setSure
    generalize timesTo g c p t = T at ih ⊢
    split
    · split <;> split <;> dsimp only <;> omega
    · split
      · split <;> dsimp only <;> omega
      · omega
theorem stateOf_3 (g : Grid) (c : Cloud) (p t : Int) : stateOf g c p t = 0 ∨ stateOf g c p t = 1 ∨ stateOf g c p t = 2 := by
  unfold stateOf; split
  · simp
  · split <;> simp
section
variable {g : Grid} {c : Cloud} {p lead : Int} {t : Nat} {T : Times}
theorem times_2 (h : T = timesTo g c p t) (h5 : stateOf g c p t = 2) : (T.sureAt t).maybe t = timesTo g c p (t + 1) := by unfold timesTo stepT; rw [if_pos h5, h]
theorem times_1 (h : T = timesTo g c p t) (h5 : stateOf g c p t = 1) : T.maybe t = timesTo g c p (t + 1) := by unfold timesTo stepT; rw [if_neg (by omega), if_pos h5, h]
theorem times_0 (h : T = timesTo g c p t) (h5 : ¬ stateOf g c p t = 2) (h6 : ¬ stateOf g c p t = 1) : T = timesTo g c p (t + 1) := by unfold timesTo stepT; rw [if_neg h5, if_neg h6, h]
def whenE (g : Grid) (c : Cloud) (p lead : Int) : Int := if cloudE g c ≠ 0 then cloudE g c else if ¬ (0 ≤ p ∧ p ≤ g.wide * g.high - 1) then 4 else if ¬ (0 ≤ lead ∧ lead ≤ 7200) then 3 else 0
def whenT (g : Grid) (c : Cloud) (p lead : Int) : Times := if whenE g c p lead ≠ 0 then ⟨0, 0, 0, 0, 0⟩ else timesTo g c p (lead + 1).toNat
theorem wE1 (h : ¬ cloudE g c = 0) : cloudE g c = whenE g c p lead := by unfold whenE; rw [if_pos h]
theorem wE2 (h : cloudE g c = 0) (h2 : ¬ (0 ≤ p ∧ p ≤ g.wide * g.high - 1)) : 4 = whenE g c p lead := by unfold whenE; rw [if_neg (fun q => q h), if_pos h2]
theorem wE3 (h : cloudE g c = 0) (h2 : 0 ≤ p ∧ p ≤ g.wide * g.high - 1) (h3 : ¬ (0 ≤ lead ∧ lead ≤ 7200)) : 3 = whenE g c p lead := by unfold whenE; rw [if_neg (fun q => q h), if_neg (fun q => q h2), if_pos h3]
theorem wE4 (h : cloudE g c = 0) (h2 : 0 ≤ p ∧ p ≤ g.wide * g.high - 1) (h3 : 0 ≤ lead ∧ lead ≤ 7200) : whenE g c p lead = 0 := by unfold whenE; rw [if_neg (fun q => q h), if_neg (fun q => q h2), if_neg (fun q => q h3)]
theorem when_err {e : Int} (he : e = whenE g c p lead) (h0 : ¬ e = 0) : Ending.returned (resV [.agg #[.int .i64 0, .int .i64 0, .int .i64 0, .int .i64 0, .int .i64 0], .int .i64 e]) = .returned (.tuple #[timesV (whenT g c p lead), .int .i64 (whenE g c p lead)]) := by
  have hn : whenT g c p lead = ⟨0, 0, 0, 0, 0⟩ := if_pos (by rw [← he]; exact h0)
  rw [hn, ← he]; rfl
theorem when_ok (he : whenE g c p lead = 0) (hk : t = (lead + 1).toNat) (hT : T = timesTo g c p t) : Ending.returned (resV [.agg (timesC T), .int .i64 0]) = .returned (.tuple #[timesV (whenT g c p lead), .int .i64 (whenE g c p lead)]) := by
  have hn : whenT g c p lead = T := by rw [hT, hk]; exact if_neg (by rw [he]; decide)
  rw [hn, he]; rfl
theorem cloudE_grid {g : Grid} {c : Cloud} (h : cloudE g c = 0) : gridOk g := by
  unfold cloudE at h
  split at h
  · omega
  · rename_i q; exact Classical.not_not.1 q
theorem few_len {g : Grid} {c : Cloud} {t : Int} (h : fewB g c t = true) : c.sure.length < 1000000000000 ∧ c.may.length < 1000000000000 := by
  unfold fewB at h
  split at h
  · cases h
  · omega
end
section
variable {T : Times} {t s : Int}
theorem stepT_r0 (h5 : ¬ ¬ s = 0) : stepT T t s = T := by have : s = 0 := by omega
                                                          subst this; rfl
theorem stepT_r10 (h5 : ¬ s = 0) (h6 : T.first < 0) (h7 : ¬ s = 2) (h3 : s = 0 ∨ s = 1 ∨ s = 2) : stepT T t s = ⟨t, T.sure, t, T.least, T.most + 1⟩ := by
  have : s = 1 := by omega
  subst this
  unfold stepT Times.maybe Times.setFirst
  rw [if_neg (by omega), if_pos rfl, if_pos h6]
theorem stepT_r11 (h5 : ¬ s = 0) (h6 : ¬ T.first < 0) (h7 : ¬ s = 2) (h3 : s = 0 ∨ s = 1 ∨ s = 2) : stepT T t s = ⟨T.first, T.sure, t, T.least, T.most + 1⟩ := by
  have : s = 1 := by omega
  subst this
  unfold stepT Times.maybe Times.setFirst
  rw [if_neg (by omega), if_pos rfl, if_neg h6]
theorem stepT_r20 (h5 : ¬ s = 0) (h6 : T.first < 0) (h7 : s = 2) (h8 : T.sure < 0) : stepT T t s = ⟨t, t, t, T.least + 1, T.most + 1⟩ := by
  subst h7; unfold stepT Times.maybe Times.sureAt Times.setFirst Times.setSure
  rw [if_pos rfl, if_pos h8]; dsimp only; rw [if_pos h6]
theorem stepT_r21 (h5 : ¬ s = 0) (h6 : ¬ T.first < 0) (h7 : s = 2) (h8 : T.sure < 0) : stepT T t s = ⟨T.first, t, t, T.least + 1, T.most + 1⟩ := by
  subst h7; unfold stepT Times.maybe Times.sureAt Times.setFirst Times.setSure
  rw [if_pos rfl, if_pos h8]; dsimp only; rw [if_neg h6]
theorem stepT_r22 (h5 : ¬ s = 0) (h6 : T.first < 0) (h7 : s = 2) (h8 : ¬ T.sure < 0) : stepT T t s = ⟨t, T.sure, t, T.least + 1, T.most + 1⟩ := by
  subst h7; unfold stepT Times.maybe Times.sureAt Times.setFirst Times.setSure
  rw [if_pos rfl, if_neg h8]; dsimp only; rw [if_pos h6]
theorem stepT_r23 (h5 : ¬ s = 0) (h6 : ¬ T.first < 0) (h7 : s = 2) (h8 : ¬ T.sure < 0) : stepT T t s = ⟨T.first, T.sure, t, T.least + 1, T.most + 1⟩ := by
  subst h7; unfold stepT Times.maybe Times.sureAt Times.setFirst Times.setSure
  rw [if_pos rfl, if_neg h8]; dsimp only; rw [if_neg h6]
end

set_option maxRecDepth 20000 in
theorem first0_c (b : Nat) (T : Times) (t : Int) (w : World) (hi : (blk b (.cells (timesC T) 60)).inv w) :
  Calls Try.prog 60 #[.pointer (some ⟨b, 0, none⟩), .int .i64 t] w fun e w' => ∃ x : Unit, True ∧ e = .returned (.tuple #[]) ∧ St ⟨w, (blk b (.cells (timesC T) 60)).fp⟩ [blk b (.cells (timesC (T.setFirst t)) 60)] w' := by
  refine enterO (vs := [_, _]) (env := [(0, _), (1, _)]) (St.one hi (fun k hk => by have e : k = b := hk; subst e; exact (Array.getElem?_eq_some_iff.1 hi).1)) Try.func60 rfl rfl rfl rfl ?_
  refine VC.seq ?_
  refine VC.reg (VO.l (LO.mv (.r rfl)) rfl <| VO.l (LO.nc (.r rfl)) rfl <| VO.l (LO.ld O3 (.r rfl) (fun _ hw => cells_at hw 0 rfl ⟨_, rfl⟩)) rfl <| VO.l (LO.lt (.r rfl) (.r rfl)) rfl <| VO.nil ?_)
  refine VE.seqN ?_
  refine VC.cond rfl (fun h1 => ?_) (fun h1 => ?_)
  ·
    refine VC.reg (VO.l (LO.mv (.r rfl)) rfl <| VO.l (LO.mv (.r rfl)) rfl <| VO.l (LO.nc (.r rfl)) rfl <| VO.h0 <| HO.st 0 (vs := [_]) (C' := [_, _, _, _, _]) (L' := [_]) N3 rfl rfl rfl rfl rfl rfl rfl rfl <| VO.nil ?_)
    refine VE.resN (vs := []) rfl trivial (fun w hw => ?_)
    refine ⟨(), trivial, rfl, ?_⟩
    first | (rw [T.setFirst_t h1]; exact hw) | (rw [T.setFirst_f h1]; exact hw)
  ·
    refine VC.skip (VE.resN (vs := []) rfl trivial (fun w hw => ?_))
    refine ⟨(), trivial, rfl, ?_⟩
    first | (rw [T.setFirst_t h1]; exact hw) | (rw [T.setFirst_f h1]; exact hw)

set_option maxRecDepth 20000 in
theorem first1_c (b : Nat) (T : Times) (t : Int) (w : World) (hi : (blk b (.cells (timesC T) 60)).inv w) :
  Calls Try.prog 60 #[.pointer (some ⟨b, 1, none⟩), .int .i64 t] w fun e w' => ∃ x : Unit, True ∧ e = .returned (.tuple #[]) ∧ St ⟨w, (blk b (.cells (timesC T) 60)).fp⟩ [blk b (.cells (timesC (T.setSure t)) 60)] w' := by
  refine enterO (vs := [_, _]) (env := [(0, _), (1, _)]) (St.one hi (fun k hk => by have e : k = b := hk; subst e; exact (Array.getElem?_eq_some_iff.1 hi).1)) Try.func60 rfl rfl rfl rfl ?_
  refine VC.seq ?_
  refine VC.reg (VO.l (LO.mv (.r rfl)) rfl <| VO.l (LO.nc (.r rfl)) rfl <| VO.l (LO.ld O3 (.r rfl) (fun _ hw => cells_at hw 0 rfl ⟨_, rfl⟩)) rfl <| VO.l (LO.lt (.r rfl) (.r rfl)) rfl <| VO.nil ?_)
  refine VE.seqN ?_
  refine VC.cond rfl (fun h1 => ?_) (fun h1 => ?_)
  ·
    refine VC.reg (VO.l (LO.mv (.r rfl)) rfl <| VO.l (LO.mv (.r rfl)) rfl <| VO.l (LO.nc (.r rfl)) rfl <| VO.h0 <| HO.st 0 (vs := [_]) (C' := [_, _, _, _, _]) (L' := [_]) N3 rfl rfl rfl rfl rfl rfl rfl rfl <| VO.nil ?_)
    refine VE.resN (vs := []) rfl trivial (fun w hw => ?_)
    refine ⟨(), trivial, rfl, ?_⟩
    first | (rw [T.setSure_t h1]; exact hw) | (rw [T.setSure_f h1]; exact hw)
  ·
    refine VC.skip (VE.resN (vs := []) rfl trivial (fun w hw => ?_))
    refine ⟨(), trivial, rfl, ?_⟩
    first | (rw [T.setSure_t h1]; exact hw) | (rw [T.setSure_f h1]; exact hw)

set_option maxRecDepth 20000 in
theorem When_c (g : Grid) (c : Cloud) (ps pm : Option Addr) (cs cm : Nat) (p lead : Int) (w : World) (hns : c.sure.length < 1000000000000) (hnm : c.may.length < 1000000000000) (hs : Ints w ps c.sure) (hm : Ints w pm c.may) :
  Calls Try.prog 23 #[gridV g, cloudV ps cs pm cm c, .int .i64 p, .int .i64 lead] w fun e w' => e = .returned (.tuple #[timesV (whenT g c p lead), .int .i64 (whenE g c p lead)]) ∧ St (bs w) [] w' := by
  refine enter (vs := [_, _, _, _]) (env := [(0, _), (1, _), (2, _), (3, _)]) Try.func23 rfl rfl rfl rfl ?_
  refine VC.seq ?_
  refine VC.reg (VO.h rfl <| HO.box (C := #[_, _, _, _, _]) rfl rfl fun b1 => VO.h rfl <| HO.box (C := #[_, _, _, _, _, _, _]) rfl rfl fun b2 => VO.h rfl <| HO.alloc (C := #[_, _, _, _, _]) Z60 rfl fun b3 => VO.l (LO.as (.r rfl)) rfl <| VO.nil ?_)
  refine VE.seqN ?_
  refine VC.seq ?_
  refine VC.seq ?_
  refine VC.reg (VO.l (LO.lda (vs := [_, _, _, _, _]) A23 (.r rfl) (fun _ hw => cells_at hw 2 rfl ⟨_, rfl⟩) rfl) rfl <| VO.l (LO.lda (vs := [_, _, _, _, _, _, _]) A34 (.r rfl) (fun _ hw => cells_at hw 1 rfl ⟨_, rfl⟩) rfl) rfl <| VO.l (LO.call (xs := [_, _]) (vs := [_, _]) C45 ⟨(.r rfl), (.r rfl), trivial⟩ (fun w hw => checkCloud_c g c ps pm cs cm w hns hnm (hs.keep w hw) (hm.keep w hw))) rfl <| VO.l (LO.as (.r rfl)) rfl <| VO.nil ?_)
  refine VE.seqN ?_
  refine VC.seq ?_
  refine VC.reg (VO.l (LO.mv (.r rfl)) rfl <| VO.l (LO.ne (.r rfl) (.r rfl)) rfl <| VO.nil ?_)
  refine VE.seqN ?_
  refine VC.cond rfl (fun h1 => ?_) (fun h1 => ?_)
  ·
    refine VC.seq ?_
    refine VC.reg (VO.l (LO.bd (ps := []) (vs := []) (C := [_, _, _, _, _]) B60 trivial rfl rfl) rfl <| VO.l (LO.mv (.r rfl)) rfl <| VO.h0 <| HO.st 0 (vs := [_, _, _, _, _]) (C' := [_, _, _, _, _]) (L' := [_, _, _]) N60 rfl rfl rfl rfl rfl rfl rfl rfl <| VO.l (LO.as (.r rfl)) rfl <| VO.nil ?_)
    refine VE.seqN ?_
    refine VC.ret (VE.thenR (VE.res (vs := [_, _]) rfl ⟨RV.agg (vs := [_, _, _, _, _]) A60 rfl (cells_blk 0 rfl ⟨_, rfl⟩) rfl, rfl, trivial⟩ (fun w hw => ?_)))
    refine ⟨?_, hw.nil⟩
    first | exact when_err (wE1 h1) h1 | exact when_err (wE2 h1 (by omega)) (by decide) | exact when_err (wE3 h1 (by omega) (by omega)) (by decide) | exact when_ok (wE4 h1 (by omega) (by omega)) (by omega) hT
  ·
    have h1 : cloudE g c = 0 := by omega
    have hgo := cloudE_grid h1
    have har := area_bd hgo
    obtain ⟨hfo, hgr1, hgr2⟩ := cloudE_ok h1
    have hng := cloudE_neg h1
    refine VC.skip (VE.seqN ?_)
    refine VC.seq ?_
    refine VC.block ?_
    refine VC.seq ?_
    refine VC.reg (VO.l (LO.mv (.r rfl)) rfl <| VO.l (LO.fa (r := 3) F23_3 (.r rfl) rfl) rfl <| VO.l (LO.ld O3 (.r rfl) (fun _ hw => cells_at hw 2 rfl ⟨_, rfl⟩)) rfl <| VO.l (LO.fa (r := 4) F23_4 (.r rfl) rfl) rfl <| VO.l (LO.ld O3 (.r rfl) (fun _ hw => cells_at hw 2 rfl ⟨_, rfl⟩)) rfl <| VO.l (LO.mul (.r rfl) (.r rfl) (wi (by omega) (by omega))) rfl <| VO.l (LO.sub (.r rfl) (.r rfl) (wi (by omega) (by omega))) rfl <| VO.l (LO.call (xs := [_, _, _]) (vs := [_, _, _]) C52 ⟨(.r rfl), (.r rfl), (.r rfl), trivial⟩ (fun w _ => within_c _ _ _ w)) rfl <| VO.l (LO.not (.r rfl)) rfl <| VO.l (LO.as (.r rfl)) rfl <| VO.nil ?_)
    refine VE.seqN ?_
    refine VC.cond rfl (fun h2 => ?_) (fun h2 => ?_)
    ·
      refine VC.seq ?_
      refine VC.reg (VO.l (LO.bd (ps := []) (vs := []) (C := [_, _, _, _, _]) B60 trivial rfl rfl) rfl <| VO.h0 <| HO.st 0 (vs := [_, _, _, _, _]) (C' := [_, _, _, _, _]) (L' := [_, _, _]) N60 rfl rfl rfl rfl rfl rfl rfl rfl <| VO.l (LO.as (.r rfl)) rfl <| VO.nil ?_)
      refine VE.seqN ?_
      refine VC.ret (VE.inR (VE.thenR (VE.res (vs := [_, _]) rfl ⟨RV.agg (vs := [_, _, _, _, _]) A60 rfl (cells_blk 0 rfl ⟨_, rfl⟩) rfl, rfl, trivial⟩ (fun w hw => ?_))))
      refine ⟨?_, hw.nil⟩
      first | exact when_err (wE1 h1) h1 | exact when_err (wE2 h1 (by omega)) (by decide) | exact when_err (wE3 h1 (by omega) (by omega)) (by decide) | exact when_ok (wE4 h1 (by omega) (by omega)) (by omega) hT
    ·
      have h2 : 0 ≤ p ∧ p ≤ g.wide * g.high - 1 := by omega
      refine VC.seq ?_
      refine VC.reg (VO.l (LO.mv (.r rfl)) rfl <| VO.l (LO.call (xs := [_, _, _]) (vs := [_, _, _]) C52 ⟨(.r rfl), (.r rfl), (.r rfl), trivial⟩ (fun w _ => within_c _ _ _ w)) rfl <| VO.l (LO.not (.r rfl)) rfl <| VO.l (LO.as (.r rfl)) rfl <| VO.nil ?_)
      refine VE.seqN ?_
      refine VC.cond rfl (fun h3 => ?_) (fun h3 => ?_)
      ·
        refine VC.seq ?_
        refine VC.reg (VO.l (LO.bd (ps := []) (vs := []) (C := [_, _, _, _, _]) B60 trivial rfl rfl) rfl <| VO.h0 <| HO.st 0 (vs := [_, _, _, _, _]) (C' := [_, _, _, _, _]) (L' := [_, _, _]) N60 rfl rfl rfl rfl rfl rfl rfl rfl <| VO.l (LO.as (.r rfl)) rfl <| VO.nil ?_)
        refine VE.seqN ?_
        refine VC.ret (VE.inR (VE.thenR (VE.res (vs := [_, _]) rfl ⟨RV.agg (vs := [_, _, _, _, _]) A60 rfl (cells_blk 0 rfl ⟨_, rfl⟩) rfl, rfl, trivial⟩ (fun w hw => ?_))))
        refine ⟨?_, hw.nil⟩
        first | exact when_err (wE1 h1) h1 | exact when_err (wE2 h1 (by omega)) (by decide) | exact when_err (wE3 h1 (by omega) (by omega)) (by decide) | exact when_ok (wE4 h1 (by omega) (by omega)) (by omega) hT
      ·
        have h3 : 0 ≤ lead ∧ lead ≤ 7200 := by omega
        refine VC.skip (VE.inN (VE.seqN ?_))
        refine VC.seq ?_
        refine VC.reg (VO.l (LO.lda (vs := [_, _, _, _, _]) A23 (.r rfl) (fun _ hw => cells_at hw 2 rfl ⟨_, rfl⟩) rfl) rfl <| VO.l (LO.lda (vs := [_, _, _, _, _, _, _]) A34 (.r rfl) (fun _ hw => cells_at hw 1 rfl ⟨_, rfl⟩) rfl) rfl <| VO.h rfl <| HO.callx (xs := [_, _]) (vs := [_, _]) C51 ⟨(.r rfl), (.r rfl), trivial⟩ (fun w hw => shaped_c g c ps pm cs cm w hns hnm (hs.keep w hw) (hm.keep w hw)) fun q _ => VO.l (LO.bd (ps := [(_, _), (_, _), (_, _)]) (vs := [(_, _), (_, _), (_, _)]) (C := [_, _, _, _, _]) B60 ⟨(.r rfl), (.r rfl), (.r rfl), trivial⟩ rfl ⟨_, [_], [_, _, _, _, _], rfl, rfl, rfl, rfl, ⟨_, [_], [_, _, _, _, _], rfl, rfl, rfl, rfl, ⟨_, [_], [_, _, _, _, _], rfl, rfl, rfl, rfl, rfl⟩⟩⟩) rfl <| VO.h rfl <| HO.alloc (C := #[_, _, _, _, _, _, _, _, _, _, _, _]) Z120 rfl fun b9 => VO.h rfl <| HO.alloc (C := #[_, _, _, _, _]) Z60 rfl fun b10 => VO.h0 <| HO.st 1 (vs := [_, _, _, _, _, _, _, _, _, _, _, _]) (C' := [_, _, _, _, _, _, _, _, _, _, _, _]) (L' := [_, _, _, _, _, _, _]) N120 rfl rfl rfl rfl rfl rfl rfl rfl <| VO.h0 <| HO.st 0 (vs := [_, _, _, _, _]) (C' := [_, _, _, _, _]) (L' := [_, _, _, _, _, _, _]) N60 rfl rfl rfl rfl rfl rfl rfl rfl <| VO.nil ?_)
        refine VE.seqN ?_
        refine VC.seq ?_
        refine VC.reg (VO.l (LO.as (.r rfl)) rfl <| VO.nil ?_)
        refine VE.seqN ?_
        refine VC.seq ?_
        refine VC.seq ?_
        refine VC.reg (VO.l (LO.mv (.r rfl)) rfl <| VO.l (LO.add (.r rfl) (.r rfl) (wi (by omega) (by omega))) rfl <| VO.l (LO.mv (.r rfl)) rfl <| VO.nil ?_)
        refine VE.seqN ?_
        refine VC.block ?_
        refine VC.loopK (α := Nat × Times) 1 (fun gx => [(44, .int .i64 (gx.1 : Nat))]) [(2, _), (8, _), (11, _), (12, _), (13, _), (43, _)] (fun gx => [blk b10 (.cells (timesC gx.2) 60)]) (fun gx => (gx.1 : Int) ≤ lead + 1 ∧ gx.2 = timesTo g c p gx.1) (fun gx => (lead + 1).toNat - gx.1) (0, ⟨-1, -1, -1, 0, 0⟩) (by exact ⟨by dsimp only; omega, rfl⟩) (.cons rfl (.cons rfl (.cons rfl (.cons rfl (.cons rfl (.cons rfl (.cons rfl .nil))))))) (fun _ h => h) ?_
        rintro ⟨t, T⟩ ⟨ht, hT⟩
        show VC _ _ _ _ _ ([(44, .int .i64 (t : Nat))] ++ _) ([blk b10 (.cells (timesC T) 60)] ++ _) _ _
        have ht : (t : Int) ≤ lead + 1 := ht
        have hT : T = timesTo g c p t := hT
        have hTb := timesTo_bd (g := g) (c := c) (p := p) t
        rw [← hT] at hTb
        have hq1 := T.setSure_eq t
        have hq2 := T.setFirst_eq t
        have hq3 := (T.sureAt t).setFirst_eq t
        have hq4 : (T.sureAt t).least = (T.setSure t).least + 1 ∧ (T.sureAt t).most = (T.setSure t).most := ⟨rfl, rfl⟩
        refine VC.seq ?_
        refine VC.reg (VO.l (LO.lt (.r rfl) (.r rfl)) rfl <| VO.nil ?_)
        refine VE.seqN ?_
        refine VC.seq ?_
        refine VC.cond rfl (fun h4 => ?_) (fun h4 => ?_)
        ·
          refine VC.skip (VE.seqN ?_)
          refine VC.seq ?_
          refine VC.block ?_
          refine VC.seq ?_
          refine VC.reg (VO.l (LO.mv (.r rfl)) rfl <| VO.l (LO.as (.r rfl)) rfl <| VO.nil ?_)
          refine VE.seqN ?_
          refine VC.seq ?_
          refine VC.reg (VO.l (LO.lda (vs := [_, _, _, _, _, _, _, _, _, _, _, _]) A120 (.r rfl) (fun _ hw => cells_at hw 1 rfl ⟨_, rfl⟩) rfl) rfl <| VO.l (LO.mv (.r rfl)) rfl <| VO.l (LO.mv (.r rfl)) rfl <| VO.l (LO.call (xs := [_, _, _]) (vs := [_, _, _]) C54 ⟨(.r rfl), (.r rfl), (.r rfl), trivial⟩ (fun w hw => at_c g c q.1 q.2 p (t : Nat) w hgo hfo hgr1 hgr2 (by omega) (by omega) (by omega) (by omega) (hw.inv 3 _ rfl) (hw.inv 2 _ rfl))) rfl <| VO.nil ?_)
          refine VE.seqN ?_
          refine VC.block ?_
          refine VC.seq ?_
          refine VC.block ?_
          refine VC.seq ?_
          refine VC.block ?_
          refine VC.seq ?_
          refine VC.seq ?_
          refine VC.seq ?_
          refine VC.reg (VO.l (LO.eq (.r rfl) (.r rfl)) rfl <| VO.l (LO.as (.r rfl)) rfl <| VO.nil ?_)
          refine VE.seqN ?_
          refine VC.cond rfl (fun h5 => ?_) (fun h5 => ?_)
          ·
            refine VC.exit (VE.thenX (VE.thenX (VE.inX (VE.seqN ?_))))
            refine VC.seq ?_
            refine VC.reg (VO.l (LO.mv (.r rfl)) rfl <| VO.l (LO.fa (r := 1) F60_1 (.r rfl) rfl) rfl <| VO.l (LO.mv (.r rfl)) rfl <| VO.h rfl <| HO.callh (first := []) (cap := []) (xs := [_, _]) (vs := [_, _]) 0 (fun R => [R, _, _, _, _, _, _]) rfl (.r rfl) C60 ⟨(.r rfl), (.r rfl), trivial⟩ (fun _ => rfl) (fun w hw => first1_c _ T _ w (hw.inv 0 _ rfl)) fun u1 _ => VO.nil ?_)
            refine VE.seqN ?_
            refine VC.reg (VO.l (LO.fa (r := 3) F60_3 (.r rfl) rfl) rfl <| VO.l (LO.ld O3 (.r rfl) (fun _ hw => cells_at hw 0 rfl ⟨_, rfl⟩)) rfl <| VO.l (LO.add (.r rfl) (.r rfl) (wi (by omega) (by omega))) rfl <| VO.l (LO.fa (r := 3) F60_3 (.r rfl) rfl) rfl <| VO.h0 <| HO.st 0 (vs := [_]) (C' := [_, _, _, _, _]) (L' := [_, _, _, _, _, _, _]) N3 rfl rfl rfl rfl rfl rfl rfl rfl <| VO.nil ?_)
            refine VE.inN (VE.seqN ?_)
            refine VC.seq ?_
            refine VC.seq ?_
            refine VC.reg (VO.l (LO.mv (.r rfl)) rfl <| VO.l (LO.fa (r := 0) F60_0 (.r rfl) rfl) rfl <| VO.l (LO.mv (.r rfl)) rfl <| VO.h rfl <| HO.callh (first := []) (cap := []) (xs := [_, _]) (vs := [_, _]) 0 (fun R => [R, _, _, _, _, _, _]) rfl (.r rfl) C60 ⟨(.r rfl), (.r rfl), trivial⟩ (fun _ => rfl) (fun w hw => first0_c _ (T.sureAt t) _ w (hw.inv 0 _ rfl)) fun u2 _ => VO.nil ?_)
            refine VE.seqN ?_
            refine VC.seq ?_
            refine VC.reg (VO.l (LO.mv (.r rfl)) rfl <| VO.l (LO.fa (r := 2) F60_2 (.r rfl) rfl) rfl <| VO.h0 <| HO.st 0 (vs := [_]) (C' := [_, _, _, _, _]) (L' := [_, _, _, _, _, _, _]) N3 rfl rfl rfl rfl rfl rfl rfl rfl <| VO.nil ?_)
            refine VE.seqN ?_
            refine VC.reg (VO.l (LO.fa (r := 4) F60_4 (.r rfl) rfl) rfl <| VO.l (LO.ld O3 (.r rfl) (fun _ hw => cells_at hw 0 rfl ⟨_, rfl⟩)) rfl <| VO.l (LO.add (.r rfl) (.r rfl) (wi (by omega) (by omega))) rfl <| VO.l (LO.fa (r := 4) F60_4 (.r rfl) rfl) rfl <| VO.h0 <| HO.st 0 (vs := [_]) (C' := [_, _, _, _, _]) (L' := [_, _, _, _, _, _, _]) N3 rfl rfl rfl rfl rfl rfl rfl rfl <| VO.nil ?_)
            refine VE.seqN ?_
            refine VC.exit (VE.inX (VE.inN (VE.seqN ?_)))
            refine VC.reg (VO.l (LO.add (.r rfl) (.r rfl) (wi (by omega) (by omega))) rfl <| VO.l (LO.mv (.r rfl)) rfl <| VO.nil ?_)
            refine VE.thenN fun a w ha hw => ⟨(t + 1, (T.sureAt t).maybe t), (by first | exact ⟨by dsimp only; omega, times_2 hT (by assumption)⟩ | exact ⟨by dsimp only; omega, times_1 hT (by assumption)⟩ | exact ⟨by dsimp only; omega, times_0 hT (by assumption) (by assumption)⟩), (by dsimp only; omega), ha.sub (.cons rfl (.cons rfl (.cons rfl (.cons rfl (.cons rfl (.cons rfl (.cons rfl .nil))))))), hw⟩
          ·
            refine VC.skip (VE.seqN ?_)
            refine VC.seq ?_
            refine VC.reg (VO.l (LO.eq (.r rfl) (.r rfl)) rfl <| VO.l (LO.as (.r rfl)) rfl <| VO.nil ?_)
            refine VE.seqN ?_
            refine VC.cond rfl (fun h6 => ?_) (fun h6 => ?_)
            ·
              refine VC.exit (VE.thenX (VE.outX rfl (VE.thenX (VE.inX (VE.seqN ?_)))))
              refine VC.seq ?_
              refine VC.seq ?_
              refine VC.reg (VO.l (LO.mv (.r rfl)) rfl <| VO.l (LO.fa (r := 0) F60_0 (.r rfl) rfl) rfl <| VO.l (LO.mv (.r rfl)) rfl <| VO.h rfl <| HO.callh (first := []) (cap := []) (xs := [_, _]) (vs := [_, _]) 0 (fun R => [R, _, _, _, _, _, _]) rfl (.r rfl) C60 ⟨(.r rfl), (.r rfl), trivial⟩ (fun _ => rfl) (fun w hw => first0_c _ T _ w (hw.inv 0 _ rfl)) fun u2 _ => VO.nil ?_)
              refine VE.seqN ?_
              refine VC.seq ?_
              refine VC.reg (VO.l (LO.mv (.r rfl)) rfl <| VO.l (LO.fa (r := 2) F60_2 (.r rfl) rfl) rfl <| VO.h0 <| HO.st 0 (vs := [_]) (C' := [_, _, _, _, _]) (L' := [_, _, _, _, _, _, _]) N3 rfl rfl rfl rfl rfl rfl rfl rfl <| VO.nil ?_)
              refine VE.seqN ?_
              refine VC.reg (VO.l (LO.fa (r := 4) F60_4 (.r rfl) rfl) rfl <| VO.l (LO.ld O3 (.r rfl) (fun _ hw => cells_at hw 0 rfl ⟨_, rfl⟩)) rfl <| VO.l (LO.add (.r rfl) (.r rfl) (wi (by omega) (by omega))) rfl <| VO.l (LO.fa (r := 4) F60_4 (.r rfl) rfl) rfl <| VO.h0 <| HO.st 0 (vs := [_]) (C' := [_, _, _, _, _]) (L' := [_, _, _, _, _, _, _]) N3 rfl rfl rfl rfl rfl rfl rfl rfl <| VO.nil ?_)
              refine VE.seqN ?_
              refine VC.exit (VE.inX (VE.inN (VE.seqN ?_)))
              refine VC.reg (VO.l (LO.add (.r rfl) (.r rfl) (wi (by omega) (by omega))) rfl <| VO.l (LO.mv (.r rfl)) rfl <| VO.nil ?_)
              refine VE.thenN fun a w ha hw => ⟨(t + 1, T.maybe t), (by first | exact ⟨by dsimp only; omega, times_2 hT (by assumption)⟩ | exact ⟨by dsimp only; omega, times_1 hT (by assumption)⟩ | exact ⟨by dsimp only; omega, times_0 hT (by assumption) (by assumption)⟩), (by dsimp only; omega), ha.sub (.cons rfl (.cons rfl (.cons rfl (.cons rfl (.cons rfl (.cons rfl (.cons rfl .nil))))))), hw⟩
            ·
              refine VC.skip (VE.seqN ?_)
              refine VC.exit (VE.outX rfl (VE.thenX (VE.outX rfl (VE.thenX (VE.inX (VE.inN (VE.seqN ?_)))))))
              refine VC.reg (VO.l (LO.add (.r rfl) (.r rfl) (wi (by omega) (by omega))) rfl <| VO.l (LO.mv (.r rfl)) rfl <| VO.nil ?_)
              refine VE.thenN fun a w ha hw => ⟨(t + 1, T), (by first | exact ⟨by dsimp only; omega, times_2 hT (by assumption)⟩ | exact ⟨by dsimp only; omega, times_1 hT (by assumption)⟩ | exact ⟨by dsimp only; omega, times_0 hT (by assumption) (by assumption)⟩), (by dsimp only; omega), ha.sub (.cons rfl (.cons rfl (.cons rfl (.cons rfl (.cons rfl (.cons rfl (.cons rfl .nil))))))), hw⟩
        ·
          refine VC.exit (VE.thenX (VE.thenX (VE.inX (VE.seqN ?_))))
          refine VC.seq ?_
          refine VC.reg (VO.l (LO.lda (vs := [_, _, _, _, _]) A60 (.r rfl) (fun _ hw => cells_at hw 0 rfl ⟨_, rfl⟩) rfl) rfl <| VO.h0 <| HO.st 4 (vs := [_, _, _, _, _]) (C' := [_, _, _, _, _]) (L' := [_, _, _, _, _, _, _]) N60 rfl rfl rfl rfl rfl rfl rfl rfl <| VO.l (LO.as (.r rfl)) rfl <| VO.nil ?_)
          refine VE.seqN ?_
          refine VC.ret (VE.res (vs := [_, _]) rfl ⟨RV.agg (vs := [_, _, _, _, _]) A60 rfl (cells_blk 4 rfl ⟨_, rfl⟩) rfl, rfl, trivial⟩ (fun w hw => ?_))
          refine ⟨?_, hw.nil⟩
          first | exact when_err (wE1 h1) h1 | exact when_err (wE2 h1 (by omega)) (by decide) | exact when_err (wE3 h1 (by omega) (by omega)) (by decide) | exact when_ok (wE4 h1 (by omega) (by omega)) (by omega) hT

set_option maxRecDepth 20000 in
theorem rWhen_c (g : Grid) (c : Cloud) (ps pm : Option Addr) (cs cm : Nat) (p lead : Int) (w : World) (hns : c.sure.length < 1000000000000) (hnm : c.may.length < 1000000000000) (hs : Ints w ps c.sure) (hm : Ints w pm c.may) :
  Calls Try.prog 24 #[gridV g, cloudV ps cs pm cm c, .int .i64 p, .int .i64 lead] w fun e w' => e = .returned (.tuple #[timesV (whenT g c p lead), .int .i64 (whenE g c p lead)]) ∧ St (bs w) [] w' := by
  refine enter (vs := [_, _, _, _]) (env := [(0, _), (1, _), (2, _), (3, _)]) Try.func24 rfl rfl rfl rfl ?_
  refine VC.seq ?_
  refine VC.reg (VO.h rfl <| HO.box (C := #[_, _, _, _, _]) rfl rfl fun b1 => VO.h rfl <| HO.box (C := #[_, _, _, _, _, _, _]) rfl rfl fun b2 => VO.h rfl <| HO.alloc (C := #[_, _, _, _, _]) Z63 rfl fun b3 => VO.l (LO.as (.r rfl)) rfl <| VO.nil ?_)
  refine VE.seqN ?_
  refine VC.seq ?_
  refine VC.reg (VO.l (LO.lda (vs := [_, _, _, _, _]) A23 (.r rfl) (fun _ hw => cells_at hw 2 rfl ⟨_, rfl⟩) rfl) rfl <| VO.l (LO.lda (vs := [_, _, _, _, _, _, _]) A37 (.r rfl) (fun _ hw => cells_at hw 1 rfl ⟨_, rfl⟩) rfl) rfl <| VO.l (LO.call (xs := [_, _]) (vs := [_, _]) C46 ⟨(.r rfl), (.r rfl), trivial⟩ (fun w hw => rCheckCloud_c g c ps pm cs cm w hns hnm (hs.keep w hw) (hm.keep w hw))) rfl <| VO.l (LO.as (.r rfl)) rfl <| VO.nil ?_)
  refine VE.seqN ?_
  refine VC.seq ?_
  refine VC.seq ?_
  refine VC.reg (VO.l (LO.mv (.r rfl)) rfl <| VO.l (LO.ne (.r rfl) (.r rfl)) rfl <| VO.nil ?_)
  refine VE.seqN ?_
  refine VC.cond rfl (fun h1 => ?_) (fun h1 => ?_)
  ·
    refine VC.seq ?_
    refine VC.reg (VO.l (LO.bd (ps := []) (vs := []) (C := [_, _, _, _, _]) B63 trivial rfl rfl) rfl <| VO.l (LO.mv (.r rfl)) rfl <| VO.h0 <| HO.st 0 (vs := [_, _, _, _, _]) (C' := [_, _, _, _, _]) (L' := [_, _, _]) N63 rfl rfl rfl rfl rfl rfl rfl rfl <| VO.l (LO.as (.r rfl)) rfl <| VO.nil ?_)
    refine VE.seqN ?_
    refine VC.ret (VE.thenR (VE.res (vs := [_, _]) rfl ⟨RV.agg (vs := [_, _, _, _, _]) A63 rfl (cells_blk 0 rfl ⟨_, rfl⟩) rfl, rfl, trivial⟩ (fun w hw => ?_)))
    refine ⟨?_, hw.nil⟩
    first | exact when_err (wE1 h1) h1 | exact when_err (wE2 h1 (by omega)) (by decide) | exact when_err (wE3 h1 (by omega) (by omega)) (by decide) | exact when_ok (wE4 h1 (by omega) (by omega)) (by omega) hT
  ·
    have h1 : cloudE g c = 0 := by omega
    have hgo := cloudE_grid h1
    have har := area_bd hgo
    obtain ⟨hfo, hgr1, hgr2⟩ := cloudE_ok h1
    have hng := cloudE_neg h1
    refine VC.skip (VE.seqN ?_)
    refine VC.seq ?_
    refine VC.seq ?_
    refine VC.reg (VO.l (LO.mv (.r rfl)) rfl <| VO.l (LO.fa (r := 3) F23_3 (.r rfl) rfl) rfl <| VO.l (LO.ld O3 (.r rfl) (fun _ hw => cells_at hw 2 rfl ⟨_, rfl⟩)) rfl <| VO.l (LO.fa (r := 4) F23_4 (.r rfl) rfl) rfl <| VO.l (LO.ld O3 (.r rfl) (fun _ hw => cells_at hw 2 rfl ⟨_, rfl⟩)) rfl <| VO.l (LO.mul (.r rfl) (.r rfl) (wi (by omega) (by omega))) rfl <| VO.l (LO.sub (.r rfl) (.r rfl) (wi (by omega) (by omega))) rfl <| VO.l (LO.call (xs := [_, _, _]) (vs := [_, _, _]) C57 ⟨(.r rfl), (.r rfl), (.r rfl), trivial⟩ (fun w _ => In_c _ _ _ w)) rfl <| VO.l (LO.not (.r rfl)) rfl <| VO.nil ?_)
    refine VE.seqN ?_
    refine VC.cond rfl (fun h2 => ?_) (fun h2 => ?_)
    ·
      refine VC.seq ?_
      refine VC.reg (VO.l (LO.bd (ps := []) (vs := []) (C := [_, _, _, _, _]) B63 trivial rfl rfl) rfl <| VO.h0 <| HO.st 0 (vs := [_, _, _, _, _]) (C' := [_, _, _, _, _]) (L' := [_, _, _]) N63 rfl rfl rfl rfl rfl rfl rfl rfl <| VO.l (LO.as (.r rfl)) rfl <| VO.nil ?_)
      refine VE.seqN ?_
      refine VC.ret (VE.thenR (VE.res (vs := [_, _]) rfl ⟨RV.agg (vs := [_, _, _, _, _]) A63 rfl (cells_blk 0 rfl ⟨_, rfl⟩) rfl, rfl, trivial⟩ (fun w hw => ?_)))
      refine ⟨?_, hw.nil⟩
      first | exact when_err (wE1 h1) h1 | exact when_err (wE2 h1 (by omega)) (by decide) | exact when_err (wE3 h1 (by omega) (by omega)) (by decide) | exact when_ok (wE4 h1 (by omega) (by omega)) (by omega) hT
    ·
      have h2 : 0 ≤ p ∧ p ≤ g.wide * g.high - 1 := by omega
      refine VC.skip (VE.seqN ?_)
      refine VC.seq ?_
      refine VC.seq ?_
      refine VC.reg (VO.l (LO.mv (.r rfl)) rfl <| VO.l (LO.call (xs := [_, _, _]) (vs := [_, _, _]) C57 ⟨(.r rfl), (.r rfl), (.r rfl), trivial⟩ (fun w _ => In_c _ _ _ w)) rfl <| VO.l (LO.not (.r rfl)) rfl <| VO.nil ?_)
      refine VE.seqN ?_
      refine VC.cond rfl (fun h3 => ?_) (fun h3 => ?_)
      ·
        refine VC.seq ?_
        refine VC.reg (VO.l (LO.bd (ps := []) (vs := []) (C := [_, _, _, _, _]) B63 trivial rfl rfl) rfl <| VO.h0 <| HO.st 0 (vs := [_, _, _, _, _]) (C' := [_, _, _, _, _]) (L' := [_, _, _]) N63 rfl rfl rfl rfl rfl rfl rfl rfl <| VO.l (LO.as (.r rfl)) rfl <| VO.nil ?_)
        refine VE.seqN ?_
        refine VC.ret (VE.thenR (VE.res (vs := [_, _]) rfl ⟨RV.agg (vs := [_, _, _, _, _]) A63 rfl (cells_blk 0 rfl ⟨_, rfl⟩) rfl, rfl, trivial⟩ (fun w hw => ?_)))
        refine ⟨?_, hw.nil⟩
        first | exact when_err (wE1 h1) h1 | exact when_err (wE2 h1 (by omega)) (by decide) | exact when_err (wE3 h1 (by omega) (by omega)) (by decide) | exact when_ok (wE4 h1 (by omega) (by omega)) (by omega) hT
      ·
        have h3 : 0 ≤ lead ∧ lead ≤ 7200 := by omega
        refine VC.skip (VE.seqN ?_)
        refine VC.seq ?_
        refine VC.reg (VO.l (LO.bd (ps := [(_, _), (_, _), (_, _)]) (vs := [(_, _), (_, _), (_, _)]) (C := [_, _, _, _, _]) B63 ⟨(.r rfl), (.r rfl), (.r rfl), trivial⟩ rfl ⟨_, [_], [_, _, _, _, _], rfl, rfl, rfl, rfl, ⟨_, [_], [_, _, _, _, _], rfl, rfl, rfl, rfl, ⟨_, [_], [_, _, _, _, _], rfl, rfl, rfl, rfl, rfl⟩⟩⟩) rfl <| VO.h rfl <| HO.alloc (C := #[_, _, _, _, _]) Z63 rfl fun b7 => VO.h0 <| HO.st 0 (vs := [_, _, _, _, _]) (C' := [_, _, _, _, _]) (L' := [_, _, _, _]) N63 rfl rfl rfl rfl rfl rfl rfl rfl <| VO.nil ?_)
        refine VE.seqN ?_
        refine VC.seq ?_
        refine VC.seq ?_
        refine VC.reg (VO.l (LO.as (.r rfl)) rfl <| VO.nil ?_)
        refine VE.seqN ?_
        refine VC.block ?_
        refine VC.loopK (α := Nat × Times) 1 (fun gx => [(12, .int .i64 (gx.1 : Nat))]) [(2, _), (3, _), (4, _), (5, _), (8, _), (11, _)] (fun gx => [blk b7 (.cells (timesC gx.2) 63)]) (fun gx => (gx.1 : Int) ≤ lead + 1 ∧ gx.2 = timesTo g c p gx.1) (fun gx => (lead + 1).toNat - gx.1) (0, ⟨-1, -1, -1, 0, 0⟩) (by exact ⟨by dsimp only; omega, rfl⟩) (.cons rfl (.cons rfl (.cons rfl (.cons rfl (.cons rfl (.cons rfl (.cons rfl .nil))))))) (fun _ h => h) ?_
        rintro ⟨t, T⟩ ⟨ht, hT⟩
        show VC _ _ _ _ _ ([(12, .int .i64 (t : Nat))] ++ _) ([blk b7 (.cells (timesC T) 63)] ++ _) _ _
        have ht : (t : Int) ≤ lead + 1 := ht
        have hT : T = timesTo g c p t := hT
        have hTb := timesTo_bd (g := g) (c := c) (p := p) t
        rw [← hT] at hTb
        have h3s := stateOf_3 g c p t
        refine VC.seq ?_
        refine VC.seq ?_
        refine VC.reg (VO.l (LO.mv (.r rfl)) rfl <| VO.l (LO.mv (.r rfl)) rfl <| VO.l (LO.le (.r rfl) (.r rfl)) rfl <| VO.nil ?_)
        refine VE.seqN ?_
        refine VC.cond rfl (fun h4 => ?_) (fun h4 => ?_)
        ·
          refine VC.skip (VE.seqN ?_)
          refine VC.seq ?_
          refine VC.block ?_
          refine VC.seq ?_
          refine VC.reg (VO.l (LO.lda (vs := [_, _, _, _, _]) A23 (.r rfl) (fun _ hw => cells_at hw 3 rfl ⟨_, rfl⟩) rfl) rfl <| VO.l (LO.lda (vs := [_, _, _, _, _, _, _]) A37 (.r rfl) (fun _ hw => cells_at hw 2 rfl ⟨_, rfl⟩) rfl) rfl <| VO.l (LO.mv (.r rfl)) rfl <| VO.l (LO.mv (.r rfl)) rfl <| VO.l (LO.call (xs := [_, _, _, _]) (vs := [_, _, _, _]) C58 ⟨(.r rfl), (.r rfl), (.r rfl), (.r rfl), trivial⟩ (fun w hw => State_c g c ps pm cs cm p (t : Nat) w hns hnm (hs.keep w hw) (hm.keep w hw) hgo hfo hgr1 hgr2 (by omega) (by omega) (by omega) (by omega) hng.1 hng.2)) rfl <| VO.l (LO.as (.r rfl)) rfl <| VO.nil ?_)
          refine VE.seqN ?_
          refine VC.seq ?_
          refine VC.seq ?_
          refine VC.reg (VO.l (LO.mv (.r rfl)) rfl <| VO.l (LO.ne (.r rfl) (.r rfl)) rfl <| VO.nil ?_)
          refine VE.seqN ?_
          refine VC.cond rfl (fun h5 => ?_) (fun h5 => ?_)
          ·
            refine VC.seq ?_
            refine VC.seq ?_
            refine VC.reg (VO.l (LO.fa (r := 0) F63_0 (.r rfl) rfl) rfl <| VO.l (LO.ld O3 (.r rfl) (fun _ hw => cells_at hw 0 rfl ⟨_, rfl⟩)) rfl <| VO.l (LO.lt (.r rfl) (.r rfl)) rfl <| VO.nil ?_)
            refine VE.seqN ?_
            refine VC.cond rfl (fun h6 => ?_) (fun h6 => ?_)
            ·
              refine VC.reg (VO.l (LO.mv (.r rfl)) rfl <| VO.l (LO.fa (r := 0) F63_0 (.r rfl) rfl) rfl <| VO.h0 <| HO.st 0 (vs := [_]) (C' := [_, _, _, _, _]) (L' := [_, _, _, _]) N3 rfl rfl rfl rfl rfl rfl rfl rfl <| VO.nil ?_)
              refine VE.seqN ?_
              refine VC.seq ?_
              refine VC.reg (VO.l (LO.mv (.r rfl)) rfl <| VO.l (LO.fa (r := 2) F63_2 (.r rfl) rfl) rfl <| VO.h0 <| HO.st 0 (vs := [_]) (C' := [_, _, _, _, _]) (L' := [_, _, _, _]) N3 rfl rfl rfl rfl rfl rfl rfl rfl <| VO.nil ?_)
              refine VE.seqN ?_
              refine VC.reg (VO.l (LO.fa (r := 4) F63_4 (.r rfl) rfl) rfl <| VO.l (LO.ld O3 (.r rfl) (fun _ hw => cells_at hw 0 rfl ⟨_, rfl⟩)) rfl <| VO.l (LO.add (.r rfl) (.r rfl) (wi (by omega) (by omega))) rfl <| VO.l (LO.fa (r := 4) F63_4 (.r rfl) rfl) rfl <| VO.h0 <| HO.st 0 (vs := [_]) (C' := [_, _, _, _, _]) (L' := [_, _, _, _]) N3 rfl rfl rfl rfl rfl rfl rfl rfl <| VO.nil ?_)
              refine VE.seqN ?_
              refine VC.seq ?_
              refine VC.reg (VO.l (LO.mv (.r rfl)) rfl <| VO.l (LO.eq (.r rfl) (.r rfl)) rfl <| VO.nil ?_)
              refine VE.seqN ?_
              refine VC.cond rfl (fun h7 => ?_) (fun h7 => ?_)
              ·
                refine VC.seq ?_
                refine VC.seq ?_
                refine VC.reg (VO.l (LO.fa (r := 1) F63_1 (.r rfl) rfl) rfl <| VO.l (LO.ld O3 (.r rfl) (fun _ hw => cells_at hw 0 rfl ⟨_, rfl⟩)) rfl <| VO.l (LO.lt (.r rfl) (.r rfl)) rfl <| VO.nil ?_)
                refine VE.seqN ?_
                refine VC.cond rfl (fun h8 => ?_) (fun h8 => ?_)
                ·
                  refine VC.reg (VO.l (LO.mv (.r rfl)) rfl <| VO.l (LO.fa (r := 1) F63_1 (.r rfl) rfl) rfl <| VO.h0 <| HO.st 0 (vs := [_]) (C' := [_, _, _, _, _]) (L' := [_, _, _, _]) N3 rfl rfl rfl rfl rfl rfl rfl rfl <| VO.nil ?_)
                  refine VE.seqN ?_
                  refine VC.reg (VO.l (LO.fa (r := 3) F63_3 (.r rfl) rfl) rfl <| VO.l (LO.ld O3 (.r rfl) (fun _ hw => cells_at hw 0 rfl ⟨_, rfl⟩)) rfl <| VO.l (LO.add (.r rfl) (.r rfl) (wi (by omega) (by omega))) rfl <| VO.l (LO.fa (r := 3) F63_3 (.r rfl) rfl) rfl <| VO.h0 <| HO.st 0 (vs := [_]) (C' := [_, _, _, _, _]) (L' := [_, _, _, _]) N3 rfl rfl rfl rfl rfl rfl rfl rfl <| VO.nil ?_)
                  refine VE.inN (VE.seqN ?_)
                  refine VC.reg (VO.l (LO.mv (.r rfl)) rfl <| VO.l (LO.add (.r rfl) (.r rfl) (wi (by omega) (by omega))) rfl <| VO.l (LO.as (.r rfl)) rfl <| VO.nil ?_)
                  refine VE.thenN fun a w ha hw => ⟨(t + 1, timesTo g c p (t + 1)), ⟨by dsimp only; omega, rfl⟩, (by dsimp only; omega), ha.sub (.cons rfl (.cons rfl (.cons rfl (.cons rfl (.cons rfl (.cons rfl (.cons rfl .nil))))))), (by rw [timesTo, ← hT]; first | (rw [stepT_r20 h5 h6 h7 h8]; exact hw) | (rw [stepT_r21 h5 h6 h7 h8]; exact hw) | (rw [stepT_r22 h5 h6 h7 h8]; exact hw) | (rw [stepT_r23 h5 h6 h7 h8]; exact hw) | (rw [stepT_r10 h5 h6 h7 h3s]; exact hw) | (rw [stepT_r11 h5 h6 h7 h3s]; exact hw) | (rw [stepT_r0 h5]; exact hw) | (exfalso; omega))⟩
                ·
                  refine VC.skip (VE.seqN ?_)
                  refine VC.reg (VO.l (LO.fa (r := 3) F63_3 (.r rfl) rfl) rfl <| VO.l (LO.ld O3 (.r rfl) (fun _ hw => cells_at hw 0 rfl ⟨_, rfl⟩)) rfl <| VO.l (LO.add (.r rfl) (.r rfl) (wi (by omega) (by omega))) rfl <| VO.l (LO.fa (r := 3) F63_3 (.r rfl) rfl) rfl <| VO.h0 <| HO.st 0 (vs := [_]) (C' := [_, _, _, _, _]) (L' := [_, _, _, _]) N3 rfl rfl rfl rfl rfl rfl rfl rfl <| VO.nil ?_)
                  refine VE.inN (VE.seqN ?_)
                  refine VC.reg (VO.l (LO.mv (.r rfl)) rfl <| VO.l (LO.add (.r rfl) (.r rfl) (wi (by omega) (by omega))) rfl <| VO.l (LO.as (.r rfl)) rfl <| VO.nil ?_)
                  refine VE.thenN fun a w ha hw => ⟨(t + 1, timesTo g c p (t + 1)), ⟨by dsimp only; omega, rfl⟩, (by dsimp only; omega), ha.sub (.cons rfl (.cons rfl (.cons rfl (.cons rfl (.cons rfl (.cons rfl (.cons rfl .nil))))))), (by rw [timesTo, ← hT]; first | (rw [stepT_r20 h5 h6 h7 h8]; exact hw) | (rw [stepT_r21 h5 h6 h7 h8]; exact hw) | (rw [stepT_r22 h5 h6 h7 h8]; exact hw) | (rw [stepT_r23 h5 h6 h7 h8]; exact hw) | (rw [stepT_r10 h5 h6 h7 h3s]; exact hw) | (rw [stepT_r11 h5 h6 h7 h3s]; exact hw) | (rw [stepT_r0 h5]; exact hw) | (exfalso; omega))⟩
              ·
                refine VC.skip (VE.inN (VE.seqN ?_))
                refine VC.reg (VO.l (LO.mv (.r rfl)) rfl <| VO.l (LO.add (.r rfl) (.r rfl) (wi (by omega) (by omega))) rfl <| VO.l (LO.as (.r rfl)) rfl <| VO.nil ?_)
                refine VE.thenN fun a w ha hw => ⟨(t + 1, timesTo g c p (t + 1)), ⟨by dsimp only; omega, rfl⟩, (by dsimp only; omega), ha.sub (.cons rfl (.cons rfl (.cons rfl (.cons rfl (.cons rfl (.cons rfl (.cons rfl .nil))))))), (by rw [timesTo, ← hT]; first | (rw [stepT_r20 h5 h6 h7 h8]; exact hw) | (rw [stepT_r21 h5 h6 h7 h8]; exact hw) | (rw [stepT_r22 h5 h6 h7 h8]; exact hw) | (rw [stepT_r23 h5 h6 h7 h8]; exact hw) | (rw [stepT_r10 h5 h6 h7 h3s]; exact hw) | (rw [stepT_r11 h5 h6 h7 h3s]; exact hw) | (rw [stepT_r0 h5]; exact hw) | (exfalso; omega))⟩
            ·
              refine VC.skip (VE.seqN ?_)
              refine VC.seq ?_
              refine VC.reg (VO.l (LO.mv (.r rfl)) rfl <| VO.l (LO.fa (r := 2) F63_2 (.r rfl) rfl) rfl <| VO.h0 <| HO.st 0 (vs := [_]) (C' := [_, _, _, _, _]) (L' := [_, _, _, _]) N3 rfl rfl rfl rfl rfl rfl rfl rfl <| VO.nil ?_)
              refine VE.seqN ?_
              refine VC.reg (VO.l (LO.fa (r := 4) F63_4 (.r rfl) rfl) rfl <| VO.l (LO.ld O3 (.r rfl) (fun _ hw => cells_at hw 0 rfl ⟨_, rfl⟩)) rfl <| VO.l (LO.add (.r rfl) (.r rfl) (wi (by omega) (by omega))) rfl <| VO.l (LO.fa (r := 4) F63_4 (.r rfl) rfl) rfl <| VO.h0 <| HO.st 0 (vs := [_]) (C' := [_, _, _, _, _]) (L' := [_, _, _, _]) N3 rfl rfl rfl rfl rfl rfl rfl rfl <| VO.nil ?_)
              refine VE.seqN ?_
              refine VC.seq ?_
              refine VC.reg (VO.l (LO.mv (.r rfl)) rfl <| VO.l (LO.eq (.r rfl) (.r rfl)) rfl <| VO.nil ?_)
              refine VE.seqN ?_
              refine VC.cond rfl (fun h7 => ?_) (fun h7 => ?_)
              ·
                refine VC.seq ?_
                refine VC.seq ?_
                refine VC.reg (VO.l (LO.fa (r := 1) F63_1 (.r rfl) rfl) rfl <| VO.l (LO.ld O3 (.r rfl) (fun _ hw => cells_at hw 0 rfl ⟨_, rfl⟩)) rfl <| VO.l (LO.lt (.r rfl) (.r rfl)) rfl <| VO.nil ?_)
                refine VE.seqN ?_
                refine VC.cond rfl (fun h8 => ?_) (fun h8 => ?_)
                ·
                  refine VC.reg (VO.l (LO.mv (.r rfl)) rfl <| VO.l (LO.fa (r := 1) F63_1 (.r rfl) rfl) rfl <| VO.h0 <| HO.st 0 (vs := [_]) (C' := [_, _, _, _, _]) (L' := [_, _, _, _]) N3 rfl rfl rfl rfl rfl rfl rfl rfl <| VO.nil ?_)
                  refine VE.seqN ?_
                  refine VC.reg (VO.l (LO.fa (r := 3) F63_3 (.r rfl) rfl) rfl <| VO.l (LO.ld O3 (.r rfl) (fun _ hw => cells_at hw 0 rfl ⟨_, rfl⟩)) rfl <| VO.l (LO.add (.r rfl) (.r rfl) (wi (by omega) (by omega))) rfl <| VO.l (LO.fa (r := 3) F63_3 (.r rfl) rfl) rfl <| VO.h0 <| HO.st 0 (vs := [_]) (C' := [_, _, _, _, _]) (L' := [_, _, _, _]) N3 rfl rfl rfl rfl rfl rfl rfl rfl <| VO.nil ?_)
                  refine VE.inN (VE.seqN ?_)
                  refine VC.reg (VO.l (LO.mv (.r rfl)) rfl <| VO.l (LO.add (.r rfl) (.r rfl) (wi (by omega) (by omega))) rfl <| VO.l (LO.as (.r rfl)) rfl <| VO.nil ?_)
                  refine VE.thenN fun a w ha hw => ⟨(t + 1, timesTo g c p (t + 1)), ⟨by dsimp only; omega, rfl⟩, (by dsimp only; omega), ha.sub (.cons rfl (.cons rfl (.cons rfl (.cons rfl (.cons rfl (.cons rfl (.cons rfl .nil))))))), (by rw [timesTo, ← hT]; first | (rw [stepT_r20 h5 h6 h7 h8]; exact hw) | (rw [stepT_r21 h5 h6 h7 h8]; exact hw) | (rw [stepT_r22 h5 h6 h7 h8]; exact hw) | (rw [stepT_r23 h5 h6 h7 h8]; exact hw) | (rw [stepT_r10 h5 h6 h7 h3s]; exact hw) | (rw [stepT_r11 h5 h6 h7 h3s]; exact hw) | (rw [stepT_r0 h5]; exact hw) | (exfalso; omega))⟩
                ·
                  refine VC.skip (VE.seqN ?_)
                  refine VC.reg (VO.l (LO.fa (r := 3) F63_3 (.r rfl) rfl) rfl <| VO.l (LO.ld O3 (.r rfl) (fun _ hw => cells_at hw 0 rfl ⟨_, rfl⟩)) rfl <| VO.l (LO.add (.r rfl) (.r rfl) (wi (by omega) (by omega))) rfl <| VO.l (LO.fa (r := 3) F63_3 (.r rfl) rfl) rfl <| VO.h0 <| HO.st 0 (vs := [_]) (C' := [_, _, _, _, _]) (L' := [_, _, _, _]) N3 rfl rfl rfl rfl rfl rfl rfl rfl <| VO.nil ?_)
                  refine VE.inN (VE.seqN ?_)
                  refine VC.reg (VO.l (LO.mv (.r rfl)) rfl <| VO.l (LO.add (.r rfl) (.r rfl) (wi (by omega) (by omega))) rfl <| VO.l (LO.as (.r rfl)) rfl <| VO.nil ?_)
                  refine VE.thenN fun a w ha hw => ⟨(t + 1, timesTo g c p (t + 1)), ⟨by dsimp only; omega, rfl⟩, (by dsimp only; omega), ha.sub (.cons rfl (.cons rfl (.cons rfl (.cons rfl (.cons rfl (.cons rfl (.cons rfl .nil))))))), (by rw [timesTo, ← hT]; first | (rw [stepT_r20 h5 h6 h7 h8]; exact hw) | (rw [stepT_r21 h5 h6 h7 h8]; exact hw) | (rw [stepT_r22 h5 h6 h7 h8]; exact hw) | (rw [stepT_r23 h5 h6 h7 h8]; exact hw) | (rw [stepT_r10 h5 h6 h7 h3s]; exact hw) | (rw [stepT_r11 h5 h6 h7 h3s]; exact hw) | (rw [stepT_r0 h5]; exact hw) | (exfalso; omega))⟩
              ·
                refine VC.skip (VE.inN (VE.seqN ?_))
                refine VC.reg (VO.l (LO.mv (.r rfl)) rfl <| VO.l (LO.add (.r rfl) (.r rfl) (wi (by omega) (by omega))) rfl <| VO.l (LO.as (.r rfl)) rfl <| VO.nil ?_)
                refine VE.thenN fun a w ha hw => ⟨(t + 1, timesTo g c p (t + 1)), ⟨by dsimp only; omega, rfl⟩, (by dsimp only; omega), ha.sub (.cons rfl (.cons rfl (.cons rfl (.cons rfl (.cons rfl (.cons rfl (.cons rfl .nil))))))), (by rw [timesTo, ← hT]; first | (rw [stepT_r20 h5 h6 h7 h8]; exact hw) | (rw [stepT_r21 h5 h6 h7 h8]; exact hw) | (rw [stepT_r22 h5 h6 h7 h8]; exact hw) | (rw [stepT_r23 h5 h6 h7 h8]; exact hw) | (rw [stepT_r10 h5 h6 h7 h3s]; exact hw) | (rw [stepT_r11 h5 h6 h7 h3s]; exact hw) | (rw [stepT_r0 h5]; exact hw) | (exfalso; omega))⟩
          ·
            refine VC.skip (VE.seqN ?_)
            refine VC.seq ?_
            refine VC.reg (VO.l (LO.mv (.r rfl)) rfl <| VO.l (LO.eq (.r rfl) (.r rfl)) rfl <| VO.nil ?_)
            refine VE.seqN ?_
            refine VC.cond rfl (fun h7 => ?_) (fun h7 => ?_)
            ·
              refine VC.seq ?_
              refine VC.seq ?_
              refine VC.reg (VO.l (LO.fa (r := 1) F63_1 (.r rfl) rfl) rfl <| VO.l (LO.ld O3 (.r rfl) (fun _ hw => cells_at hw 0 rfl ⟨_, rfl⟩)) rfl <| VO.l (LO.lt (.r rfl) (.r rfl)) rfl <| VO.nil ?_)
              refine VE.seqN ?_
              refine VC.cond rfl (fun h8 => ?_) (fun h8 => ?_)
              ·
                refine VC.reg (VO.l (LO.mv (.r rfl)) rfl <| VO.l (LO.fa (r := 1) F63_1 (.r rfl) rfl) rfl <| VO.h0 <| HO.st 0 (vs := [_]) (C' := [_, _, _, _, _]) (L' := [_, _, _, _]) N3 rfl rfl rfl rfl rfl rfl rfl rfl <| VO.nil ?_)
                refine VE.seqN ?_
                refine VC.reg (VO.l (LO.fa (r := 3) F63_3 (.r rfl) rfl) rfl <| VO.l (LO.ld O3 (.r rfl) (fun _ hw => cells_at hw 0 rfl ⟨_, rfl⟩)) rfl <| VO.l (LO.add (.r rfl) (.r rfl) (wi (by omega) (by omega))) rfl <| VO.l (LO.fa (r := 3) F63_3 (.r rfl) rfl) rfl <| VO.h0 <| HO.st 0 (vs := [_]) (C' := [_, _, _, _, _]) (L' := [_, _, _, _]) N3 rfl rfl rfl rfl rfl rfl rfl rfl <| VO.nil ?_)
                refine VE.inN (VE.seqN ?_)
                refine VC.reg (VO.l (LO.mv (.r rfl)) rfl <| VO.l (LO.add (.r rfl) (.r rfl) (wi (by omega) (by omega))) rfl <| VO.l (LO.as (.r rfl)) rfl <| VO.nil ?_)
                refine VE.thenN fun a w ha hw => ⟨(t + 1, timesTo g c p (t + 1)), ⟨by dsimp only; omega, rfl⟩, (by dsimp only; omega), ha.sub (.cons rfl (.cons rfl (.cons rfl (.cons rfl (.cons rfl (.cons rfl (.cons rfl .nil))))))), (by rw [timesTo, ← hT]; first | (rw [stepT_r20 h5 h6 h7 h8]; exact hw) | (rw [stepT_r21 h5 h6 h7 h8]; exact hw) | (rw [stepT_r22 h5 h6 h7 h8]; exact hw) | (rw [stepT_r23 h5 h6 h7 h8]; exact hw) | (rw [stepT_r10 h5 h6 h7 h3s]; exact hw) | (rw [stepT_r11 h5 h6 h7 h3s]; exact hw) | (rw [stepT_r0 h5]; exact hw) | (exfalso; omega))⟩
              ·
                refine VC.skip (VE.seqN ?_)
                refine VC.reg (VO.l (LO.fa (r := 3) F63_3 (.r rfl) rfl) rfl <| VO.l (LO.ld O3 (.r rfl) (fun _ hw => cells_at hw 0 rfl ⟨_, rfl⟩)) rfl <| VO.l (LO.add (.r rfl) (.r rfl) (wi (by omega) (by omega))) rfl <| VO.l (LO.fa (r := 3) F63_3 (.r rfl) rfl) rfl <| VO.h0 <| HO.st 0 (vs := [_]) (C' := [_, _, _, _, _]) (L' := [_, _, _, _]) N3 rfl rfl rfl rfl rfl rfl rfl rfl <| VO.nil ?_)
                refine VE.inN (VE.seqN ?_)
                refine VC.reg (VO.l (LO.mv (.r rfl)) rfl <| VO.l (LO.add (.r rfl) (.r rfl) (wi (by omega) (by omega))) rfl <| VO.l (LO.as (.r rfl)) rfl <| VO.nil ?_)
                refine VE.thenN fun a w ha hw => ⟨(t + 1, timesTo g c p (t + 1)), ⟨by dsimp only; omega, rfl⟩, (by dsimp only; omega), ha.sub (.cons rfl (.cons rfl (.cons rfl (.cons rfl (.cons rfl (.cons rfl (.cons rfl .nil))))))), (by rw [timesTo, ← hT]; first | (rw [stepT_r20 h5 h6 h7 h8]; exact hw) | (rw [stepT_r21 h5 h6 h7 h8]; exact hw) | (rw [stepT_r22 h5 h6 h7 h8]; exact hw) | (rw [stepT_r23 h5 h6 h7 h8]; exact hw) | (rw [stepT_r10 h5 h6 h7 h3s]; exact hw) | (rw [stepT_r11 h5 h6 h7 h3s]; exact hw) | (rw [stepT_r0 h5]; exact hw) | (exfalso; omega))⟩
            ·
              refine VC.skip (VE.inN (VE.seqN ?_))
              refine VC.reg (VO.l (LO.mv (.r rfl)) rfl <| VO.l (LO.add (.r rfl) (.r rfl) (wi (by omega) (by omega))) rfl <| VO.l (LO.as (.r rfl)) rfl <| VO.nil ?_)
              refine VE.thenN fun a w ha hw => ⟨(t + 1, timesTo g c p (t + 1)), ⟨by dsimp only; omega, rfl⟩, (by dsimp only; omega), ha.sub (.cons rfl (.cons rfl (.cons rfl (.cons rfl (.cons rfl (.cons rfl (.cons rfl .nil))))))), (by rw [timesTo, ← hT]; first | (rw [stepT_r20 h5 h6 h7 h8]; exact hw) | (rw [stepT_r21 h5 h6 h7 h8]; exact hw) | (rw [stepT_r22 h5 h6 h7 h8]; exact hw) | (rw [stepT_r23 h5 h6 h7 h8]; exact hw) | (rw [stepT_r10 h5 h6 h7 h3s]; exact hw) | (rw [stepT_r11 h5 h6 h7 h3s]; exact hw) | (rw [stepT_r0 h5]; exact hw) | (exfalso; omega))⟩
        ·
          refine VC.exit (VE.thenX (VE.thenX (VE.inX (VE.seqN ?_))))
          refine VC.seq ?_
          refine VC.reg (VO.l (LO.lda (vs := [_, _, _, _, _]) A63 (.r rfl) (fun _ hw => cells_at hw 0 rfl ⟨_, rfl⟩) rfl) rfl <| VO.h0 <| HO.st 1 (vs := [_, _, _, _, _]) (C' := [_, _, _, _, _]) (L' := [_, _, _, _]) N63 rfl rfl rfl rfl rfl rfl rfl rfl <| VO.l (LO.as (.r rfl)) rfl <| VO.nil ?_)
          refine VE.seqN ?_
          refine VC.ret (VE.res (vs := [_, _]) rfl ⟨RV.agg (vs := [_, _, _, _, _]) A63 rfl (cells_blk 1 rfl ⟨_, rfl⟩) rfl, rfl, trivial⟩ (fun w hw => ?_))
          refine ⟨?_, hw.nil⟩
          first | exact when_err (wE1 h1) h1 | exact when_err (wE2 h1 (by omega)) (by decide) | exact when_err (wE3 h1 (by omega) (by omega)) (by decide) | exact when_ok (wE4 h1 (by omega) (by omega)) (by omega) hT

set_option maxRecDepth 20000 in
theorem CastTimes_c (g : Grid) (c : Cloud) (ps pm : Option Addr) (cs cm : Nat) (p lead : Int) (w : World) (hs : Ints w ps c.sure) (hm : Ints w pm c.may) :
  Calls Try.prog 6 #[gridV g, cloudV ps cs pm cm c, .int .i64 p, .int .i64 lead] w fun e w' => e = .returned (.bool true) ∧ St (bs w) [] w' := by
  refine enter (vs := [_, _, _, _]) (env := [(0, _), (1, _), (2, _), (3, _)]) Try.func6 rfl rfl rfl rfl ?_
  refine VC.seq ?_
  refine VC.reg (VO.h rfl <| HO.box (C := #[_, _, _, _, _]) rfl rfl fun b1 => VO.h rfl <| HO.box (C := #[_, _, _, _, _, _, _]) rfl rfl fun b2 => VO.l (LO.as (.r rfl)) rfl <| VO.nil ?_)
  refine VE.seqN ?_
  refine VC.seq ?_
  refine VC.seq ?_
  refine VC.reg (VO.l (LO.lda (vs := [_, _, _, _, _]) A23 (.r rfl) (fun _ hw => cells_at hw 1 rfl ⟨_, rfl⟩) rfl) rfl <| VO.l (LO.lda (vs := [_, _, _, _, _, _, _]) A34 (.r rfl) (fun _ hw => cells_at hw 0 rfl ⟨_, rfl⟩) rfl) rfl <| VO.l (LO.mv (.r rfl)) rfl <| VO.l (LO.call (xs := [_, _, _]) (vs := [_, _, _]) C15 ⟨(.r rfl), (.r rfl), (.r rfl), trivial⟩ (fun w hw => few_c g c lead ps pm cs cm w (hs.keep w hw) (hm.keep w hw))) rfl <| VO.l (LO.not (.r rfl)) rfl <| VO.l (LO.mv (.r rfl)) rfl <| VO.lg rfl rfl (GD.f _) (fun hg => LO.mv (.r rfl)) rfl <| VO.lg rfl rfl (GD.f _) (fun hg => LO.gt (.g hg rfl) (.r rfl)) rfl <| VO.lg rfl rfl (GD.f _) (fun hg => LO.mv (.g hg rfl)) rfl <| VO.lg rfl rfl (GD.nt _ _) (fun hg => LO.mv (.r rfl)) rfl <| VO.lg rfl rfl (GD.nt _ _) (fun hg => LO.le (.g hg rfl) (.r rfl)) rfl <| VO.lg rfl rfl (GD.f _) (fun hg => LO.pkA (.g hg rfl) rfl (and_e hg) (.r rfl)) rfl <| VO.l (LO.pkO (.r rfl) (.r rfl) rfl rfl) rfl <| VO.nil ?_)
  refine VE.seqN ?_
  refine VC.cond rfl (fun h1 => ?_) (fun h1 => ?_)
  ·
    refine VC.seq ?_
    refine VC.reg (VO.l (LO.call (xs := []) (vs := []) C14 trivial (fun w _ => works_c w)) rfl <| VO.l (LO.as (.r rfl)) rfl <| VO.nil ?_)
    refine VE.seqN ?_
    refine VC.ret (VE.thenR (VE.res (vs := [_]) rfl ⟨rfl, trivial⟩ (fun w hw => ?_)))
    first | exact ⟨rfl, hw.nil⟩ | exact ⟨by simp [resV], hw.nil⟩
  ·
    have hl := few_len (g := g) (c := c) (t := lead) (by simpa using fun q => h1 (.inl q))
    refine VC.skip (VE.seqN ?_)
    refine VC.seq ?_
    refine VC.reg (VO.l (LO.lda (vs := [_, _, _, _, _]) A23 (.r rfl) (fun _ hw => cells_at hw 1 rfl ⟨_, rfl⟩) rfl) rfl <| VO.l (LO.lda (vs := [_, _, _, _, _, _, _]) A34 (.r rfl) (fun _ hw => cells_at hw 0 rfl ⟨_, rfl⟩) rfl) rfl <| VO.l (LO.mv (.r rfl)) rfl <| VO.l (LO.mv (.r rfl)) rfl <| VO.l (LO.call (xs := [_, _, _, _]) (vs := [_, _, _, _]) C23 ⟨(.r rfl), (.r rfl), (.r rfl), (.r rfl), trivial⟩ (fun w hw => When_c g c ps pm cs cm p lead w hl.1 hl.2 (hs.keep w hw) (hm.keep w hw))) rfl <| VO.l (LO.mv (.r rfl)) rfl <| VO.l (LO.ex (.r rfl) rfl) rfl <| VO.l (LO.ex (.r rfl) rfl) rfl <| VO.h rfl <| HO.alloc (C := #[_, _, _, _, _]) Z60 rfl fun b3 => VO.h0 <| HO.st 0 (vs := [_, _, _, _, _]) (C' := [_, _, _, _, _]) (L' := [_, _, _]) N60 rfl rfl rfl rfl rfl rfl rfl rfl <| VO.l (LO.as (.r rfl)) rfl <| VO.nil ?_)
    refine VE.seqN ?_
    refine VC.seq ?_
    refine VC.drawH [[0, 1, 2], [0, 1, 2], [0, 1, 2]] [some 1, some 1, some 1, some 1, some 1, some 1, some 1, some 1, some 2, none, none, some 2] mixed (by kernel_rfl) rfl (LX.l (fun _ hJ => LO.lda (vs := [_, _, _, _, _]) A23 (.r rfl) (fun _ hw => cells_at (hJ _ hw) 2 rfl ⟨_, rfl⟩) rfl) rfl <| LX.l (fun _ hJ => LO.lda (vs := [_, _, _, _, _, _, _]) A34 (.r rfl) (fun _ hw => cells_at (hJ _ hw) 1 rfl ⟨_, rfl⟩) rfl) rfl <| LX.l (fun _ hJ => LO.call (xs := [_]) (vs := [_]) C16 ⟨(.r rfl), trivial⟩ (fun w _ => cloud_c c ps pm cs cm w)) rfl <| LX.l (fun _ hJ => LO.mv (.r rfl)) rfl <| LX.l (fun _ hJ => LO.mv (.r rfl)) rfl <| LX.l (fun _ hJ => LO.call (xs := [_, _, _, _]) (vs := [_, _, _, _]) C24 ⟨(.r rfl), (.r rfl), (.r rfl), (.r rfl), trivial⟩ (fun w hw => rWhen_c g c ps pm cs cm p lead w hl.1 hl.2 (hs.keep w hw) (hm.keep w hw))) rfl <| LX.l (fun _ hJ => LO.mv (.r rfl)) rfl <| LX.l (fun _ hJ => LO.ex (.r rfl) rfl) rfl <| LX.l (fun _ hJ => LO.ex (.r rfl) rfl) rfl <| LX.s <| LX.s <| LX.l (fun _ hJ => LO.as (.r rfl)) rfl <| LX.nil) (HX.s <| HX.s <| HX.s <| HX.s <| HX.s <| HX.s <| HX.s <| HX.s <| HX.s <| HX.h rfl <| HO.alloc (C := #[_, _, _, _, _]) Z63 rfl fun b7 => ⟨fun _ hw => hw.sel [1, 2, 3] rfl, HX.h0 <| HO.st 0 (vs := [_, _, _, _, _]) (C' := [_, _, _, _, _]) (L' := [_, _, _, _]) N63 rfl rfl rfl rfl rfl rfl rfl rfl <| ⟨fun _ hw => hw.sel [1, 2, 3] rfl, HX.s <| HX.nil ?_⟩⟩)
    refine VE.seqN ?_
    refine VC.seq ?_
    refine VC.reg (VO.l (LO.lda (vs := [_, _, _, _, _]) A60 (.r rfl) (fun _ hw => cells_at hw 1 rfl ⟨_, rfl⟩) rfl) rfl <| VO.l (LO.lda (vs := [_, _, _, _, _]) A63 (.r rfl) (fun _ hw => cells_at hw 0 rfl ⟨_, rfl⟩) rfl) rfl <| VO.l (LO.eqs («as» := (whenT g c p lead).ints) (bs := (whenT g c p lead).ints) E63 (.r rfl) (.r rfl) rfl rfl) rfl <| VO.l (LO.mv (.r rfl)) rfl <| VO.lg rfl rfl (GD.t _) (fun hg => LO.mv (.r rfl)) rfl <| VO.lg rfl rfl (GD.t _) (fun hg => LO.mv (.r rfl)) rfl <| VO.lg rfl rfl (GD.t _) (fun hg => LO.eq (.g hg rfl) (.g hg rfl)) rfl <| VO.l (LO.pkA (.r rfl) rfl rfl (.r rfl)) rfl <| VO.l (LO.mv (.r rfl)) rfl <| VO.lg rfl rfl (GD.t _) (fun hg => LO.call (xs := []) (vs := []) C14 trivial (fun w _ => works_c w)) rfl <| VO.l (LO.pkA (.r rfl) rfl rfl (.r rfl)) rfl <| VO.l (LO.as (.r rfl)) rfl <| VO.nil ?_)
    refine VE.seqN ?_
    refine VC.ret (VE.res (vs := [_]) rfl ⟨rfl, trivial⟩ (fun w hw => ?_))
    first | exact ⟨rfl, hw.nil⟩ | exact ⟨by simp [resV], hw.nil⟩

end Go.Proofs.Ytdcjeoamhjplmaa
