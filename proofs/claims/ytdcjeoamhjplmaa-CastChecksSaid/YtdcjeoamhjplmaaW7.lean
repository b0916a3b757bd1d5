/-
  The walk of At.
-/
import Derived.Test.YtdcjeoamhjplmaaW6
namespace Go.Proofs.Ytdcjeoamhjplmaa
open Go.SL Go.Proofs Go.Cast
set_option linter.unusedVariables false

theorem S24 : IsSlice Try.prog 24 34 := Try.underlying24
theorem N34 : (Try.prog.info? 34).map (·.size) = some 7 := by kernel_rfl
theorem A34 : IsAgg Try.prog 34 7 := ⟨⟨_, Try.underlying34, rfl⟩, by kernel_rfl⟩
theorem Z34 : ZeroOf Try.prog 34 (.agg #[.slice none 0 0, .slice none 0 0, .int .i64 0, .int .i64 0, .int .i64 0, .int .i64 0, .int .i64 0]) := by unfold ZeroOf; kernel_rfl
theorem C45 : IsFn Try.prog 45 := ⟨_, Try.func45, by decide, rfl⟩
theorem C51 : IsFn Try.prog 51 := ⟨_, Try.func51, by decide, rfl⟩
theorem S117 : IsSlice Try.prog 117 120 := Try.underlying117
theorem I120 : EInfo Try.prog 120 12 96 (.agg #[.int .i64 0, .int .i64 0, .int .i64 0, .int .i64 0, .int .i64 0, .map none, .map none, .int .i64 0, .int .i64 0, .int .i64 0, .int .i64 0, .int .i64 0]) := ⟨by kernel_rfl, by kernel_rfl, by unfold ZeroOf; kernel_rfl, rfl, by decide⟩
theorem C54 : IsFn Try.prog 54 := ⟨_, Try.func54, by decide, rfl⟩
theorem C53 : IsFn Try.prog 53 := ⟨_, Try.func53, by decide, rfl⟩
theorem C55 : IsFn Try.prog 55 := ⟨_, Try.func55, by decide, rfl⟩
theorem Z3 : ZeroOf Try.prog 3 (.int .i64 0) := by unfold ZeroOf; kernel_rfl
theorem I3 : EInfo Try.prog 3 1 8 (.int .i64 0) := ⟨by kernel_rfl, by kernel_rfl, by unfold ZeroOf; kernel_rfl, rfl, by decide⟩


/-- A cloud in memory: where its lists lie. -/
structure CP where
  c : Cloud
  ps : Option Addr
  cs : Nat
  pm : Option Addr
  cm : Nat
def CP.cells (x : CP) : List Value := [.slice x.ps x.c.sure.length x.cs, .slice x.pm x.c.may.length x.cm, .int .i64 x.c.flow.a, .int .i64 x.c.flow.b, .int .i64 x.c.flow.c, .int .i64 x.c.flow.d, .int .i64 x.c.grow]
structure Clouds (w : World) (p : Option Addr) (l : List CP) : Prop where
  rows : Go.SL.Rows w 7 p (l.map CP.cells)
  ok : ∀ x, x ∈ l → Ints w x.ps x.c.sure ∧ Ints w x.pm x.c.may ∧ x.c.sure.length < 1000000000000 ∧ x.c.may.length < 1000000000000
theorem Clouds.sl {w : World} {p : Option Addr} {l : List CP} (h : Clouds w p l) : SlSome p l.length := Go.SL.Rows.some h.rows (by simp)
theorem Clouds.at {w0 : World} {p : Option Addr} {l : List CP} (h : Clouds w0 p l) {L : List Res} {j : Nat} {x : CP} (hx : l[j]? = some x) : ∀ w, St (bs w0) L w → Cells w ⟨pb p, po p + j * 7, none⟩ x.cells :=
  fun w hw => (h.rows.keep w hw).cells j _ (by rw [List.getElem?_map, hx]; rfl)
instance : Inhabited Cloud := ⟨⟨[], [], ⟨0, 0, 0, 0⟩, 0⟩⟩
def stateAll (g : Grid) (l : List Cloud) (t p : Int) : Int := l.foldl (fun m c => max m (stateOf g c p t)) 0
def atE (g : Grid) (l : List Cloud) (t : Int) : Int := if ¬ gridOk g then 3 else if 64 < l.length then 9 else if firstE (fun k => cloudE g (l.getD k default)) l.length ≠ 0 then firstE (fun k => cloudE g (l.getD k default)) l.length else if ¬ (0 ≤ t ∧ t ≤ 7200) then 3 else 0
def atL (g : Grid) (l : List Cloud) (t : Int) : List Int := if atE g l t ≠ 0 then [] else (List.range (g.wide * g.high).toNat).map fun p : Nat => stateAll g l t p
/-- The shapes of clouds as rows. -/
def shRows (g : Grid) (qs : List (Nat × Nat)) (l : List Cloud) : List (List Value) := List.zipWith (fun q c => (shapeC q.1 q.2 g c).toList) qs l
theorem take_c {l : List CP} {j : Nat} {x : CP} (hx : l[j]? = some x) : (l.map CP.c).take (j + 1) = (l.map CP.c).take j ++ [x.c] := by
  rw [List.take_add_one, List.getElem?_map, hx]; rfl
theorem shRows_add {g : Grid} {qs : List (Nat × Nat)} {l : List Cloud} {q : Nat × Nat} {c : Cloud} (h : qs.length = l.length) : shRows g (qs ++ [q]) (l ++ [c]) = shRows g qs l ++ [(shapeC q.1 q.2 g c).toList] := by
  unfold shRows; rw [List.zipWith_append h]; rfl
theorem getD_c {l : List CP} {j : Nat} {x : CP} (hx : l[j]? = some x) : (l.map CP.c).getD j default = x.c := by
  rw [List.getD_eq_getElem?_getD, List.getElem?_map, hx]; rfl
section
variable {g : Grid} {l : List CP} {t : Int}
theorem aE1 (h : ¬ gridE g = 0) : gridE g = atE g (l.map CP.c) t := by
  unfold atE
  by_cases q : gridOk g
  · exact absurd (if_pos q) h
  · rw [if_pos q]; exact if_neg q
theorem aE2 (hg : gridOk g) (h : (64 : Int) < (l.length : Int)) : 9 = atE g (l.map CP.c) t := by
  unfold atE
  rw [if_neg (by simpa using hg), if_pos (by simp; omega)]
theorem aE3 (hg : gridOk g) (h : ¬ (64 : Int) < (l.length : Int)) {j : Nat} {x : CP} (hz : ∀ k, k < j → cloudE g ((l.map CP.c).getD k default) = 0) (hx : l[j]? = some x) (h4 : ¬ cloudE g x.c = 0) : cloudE g x.c = atE g (l.map CP.c) t := by
  have hj : j < l.length := (List.getElem?_eq_some_iff.1 hx).1
  have e : firstE (fun k => cloudE g ((l.map CP.c).getD k default)) (l.map CP.c).length = cloudE g x.c := by
    rw [firstE_at (i := j) hz (by rw [getD_c hx]; exact h4) (by simpa using hj), getD_c hx]
  unfold atE
  rw [if_neg (by simpa using hg), if_neg (by simp; omega), e, if_pos h4]
theorem aE4 (hg : gridOk g) (h : ¬ (64 : Int) < (l.length : Int)) (hz : firstE (fun k => cloudE g ((l.map CP.c).getD k default)) (l.map CP.c).length = 0) (h5 : ¬ (0 ≤ t ∧ t ≤ 7200)) : 3 = atE g (l.map CP.c) t := by
  unfold atE
  rw [if_neg (by simpa using hg), if_neg (by simp; omega), if_neg (fun q => q hz), if_pos h5]
theorem aE5 (hg : gridOk g) (h : ¬ (64 : Int) < (l.length : Int)) (hz : firstE (fun k => cloudE g ((l.map CP.c).getD k default)) (l.map CP.c).length = 0) (h5 : 0 ≤ t ∧ t ≤ 7200) : atE g (l.map CP.c) t = 0 := by
  unfold atE
  rw [if_neg (by simpa using hg), if_neg (by simp; omega), if_neg (fun q => q hz), if_neg (by simpa using h5)]
theorem at_err {w w' : World} {L : List Res} {e : Int} (he : e = atE g (l.map CP.c) t) (h0 : ¬ e = 0) (hw : St (bs w) L w') :
    ∃ x : Option Addr × Nat, True ∧ Ending.returned (.tuple #[.slice none 0 0, .int .i64 e]) = .returned (.tuple #[.slice x.1 (atL g (l.map CP.c) t).length x.2, .int .i64 (atE g (l.map CP.c) t)]) ∧ St (bs w) [own 3 1 x.1 x.2 ((atL g (l.map CP.c) t).map fun n => [.int .i64 n])] w' := by
  have hn : atL g (l.map CP.c) t = [] := if_pos (by rw [← he]; exact h0)
  refine ⟨(none, 0), trivial, ?_, ?_⟩
  · rw [hn, ← he]; rfl
  · rw [hn]; exact hw.nil.ownNil 3 1
theorem at_ok {w w' : World} {k cr : Nat} {pr : Option Addr} (he : atE g (l.map CP.c) t = 0) (hk : k = (g.wide * g.high).toNat) (hw : St (bs w) [own 3 1 pr cr ((List.range k).map fun p : Nat => [.int .i64 (stateAll g (l.map CP.c) t p)])] w') :
    ∃ x : Option Addr × Nat, True ∧ Ending.returned (.tuple #[.slice pr k cr, .int .i64 0]) = .returned (.tuple #[.slice x.1 (atL g (l.map CP.c) t).length x.2, .int .i64 (atE g (l.map CP.c) t)]) ∧ St (bs w) [own 3 1 x.1 x.2 ((atL g (l.map CP.c) t).map fun n => [.int .i64 n])] w' := by
  have hn : atL g (l.map CP.c) t = (List.range (g.wide * g.high).toNat).map fun p : Nat => stateAll g (l.map CP.c) t p := if_neg (by simp [he])
  refine ⟨(pr, cr), trivial, ?_, ?_⟩
  · rw [hn, he, hk]; simp
  · rw [hn, List.map_map, ← hk]; exact hw
end
theorem sets_at {w : World} {qs : List (Nat × Nat)} {l : List Cloud} {i : Nat} {q : Nat × Nat} {c : Cloud} (h : (setsR qs l).inv w) (hq : qs[i]? = some q) (hc : l[i]? = some c) : (setR q.1 (memB c.sure)).inv w ∧ (setR q.2 (memB c.may)).inv w := h i q c hq hc
theorem VC.pure {φ : Prop} {P : Program} {ro : Option Nat} {β : Bs} {N : Nat} {ds : List Deferred} {env : Env} {L : List Res} {c : Code} {Q : Exit → Act → World → Prop} (h : ∀ w, St β L w → φ) (k : φ → VC P ro β N ds env L c Q) : VC P ro β N ds env L c Q := fun a w ha hw => k (h w hw) a w ha hw
theorem cloudE_ok {g : Grid} {c : Cloud} (h : cloudE g c = 0) : flowOk c.flow ∧ 0 ≤ c.grow ∧ c.grow ≤ 10000 := by
  unfold cloudE at h
  split at h
  · omega
  · split at h
    · omega
    · rename_i q
      split at h
      · omega
      · rename_i r
        have := Classical.not_not.1 r
        exact ⟨Classical.not_not.1 q, this.1, this.2⟩
theorem setsNil {β : Bs} {L : List Res} {w : World} (h : St β L w) : St β (setsR [] [] :: L) w := by
  refine ⟨h.os, h.tape, h.output, h.size, h.fr, ?_, ?_, ?_⟩
  · intro i x hx
    cases i with
    | zero => simp at hx; subst hx; intro i q c hq; simp at hq
    | succ i => exact h.inv i x (by simpa using hx)
  · intro i x hx k hk
    cases i with
    | zero => simp at hx; subst hx; obtain ⟨q, hq, _⟩ := hk; simp at hq
    | succ i => exact h.rng i x (by simpa using hx) k hk
  · intro i j x y hij hx hy k hk
    cases i with
    | zero => simp at hx; subst hx; obtain ⟨q, hq, _⟩ := hk; simp at hq
    | succ i => cases j with
      | zero => simp at hy; subst hy; rintro ⟨q, hq, _⟩; simp at hq
      | succ j => exact h.dis i j x y (by omega) (by simpa using hx) (by simpa using hy) k hk

set_option maxRecDepth 20000 in
theorem At_c (g : Grid) (l : List CP) (pl : Option Addr) (cl : Nat) (lead : Int) (w : World) (hll : l.length < 1000000000000) (hl : Clouds w pl l) :
  Calls Try.prog 17 #[gridV g, .slice pl l.length cl, .int .i64 lead] w fun e w' => ∃ x : Option Addr × Nat, True ∧ e = .returned (.tuple #[.slice x.1 (atL g (l.map CP.c) lead).length x.2, .int .i64 (atE g (l.map CP.c) lead)]) ∧ St (bs w) [own 3 1 x.1 x.2 ((atL g (l.map CP.c) lead).map fun n => [.int .i64 n])] w' := by
  refine enter (vs := [_, _, _]) (env := [(0, _), (1, _), (2, _)]) Try.func17 rfl rfl rfl rfl ?_
  refine VC.seq ?_
  refine VC.reg (VO.h rfl <| HO.box (C := #[_, _, _, _, _]) rfl rfl fun b1 => VO.l (LO.as (.r rfl)) rfl <| VO.l (LO.as (.r rfl)) rfl <| VO.nil ?_)
  refine VE.seqN ?_
  refine VC.seq ?_
  refine VC.seq ?_
  refine VC.reg (VO.l (LO.lda (vs := [_, _, _, _, _]) A23 (.r rfl) (fun _ hw => cells_at hw 0 rfl ⟨_, rfl⟩) rfl) rfl <| VO.l (LO.call (xs := [_]) (vs := [_]) C50 ⟨(.r rfl), trivial⟩ (fun w _ => checkGrid_c g w)) rfl <| VO.l (LO.as (.r rfl)) rfl <| VO.nil ?_)
  refine VE.seqN ?_
  refine VC.seq ?_
  refine VC.reg (VO.l (LO.mv (.r rfl)) rfl <| VO.l (LO.ne (.r rfl) (.r rfl)) rfl <| VO.nil ?_)
  refine VE.seqN ?_
  refine VC.cond rfl (fun h1 => ?_) (fun h1 => ?_)
  ·
    refine VC.seq ?_
    refine VC.reg (VO.l (LO.mv (.r rfl)) rfl <| VO.l (LO.as (.r rfl)) rfl <| VO.l (LO.as (.r rfl)) rfl <| VO.nil ?_)
    refine VE.seqN ?_
    refine VC.ret (VE.thenR (VE.res (vs := [_, _]) rfl ⟨rfl, rfl, trivial⟩ (fun w hw => ?_)))
    first | exact at_err (aE1 h1) h1 hw | exact at_err (aE2 hgo h2) (by decide) hw | exact at_err (aE3 hgo h2 hz hx h4) h4 hw | exact at_err (aE4 hgo h2 hA0 h5) (by decide) hw | exact at_ok (aE5 hgo h2 hA0 h5) (by omega) (hw.sel [0] rfl)
  ·
    have hgo : gridOk g := gridOk_of h1
    have har := area_bd hgo
    refine VC.skip (VE.seqN ?_)
    refine VC.seq ?_
    refine VC.seq ?_
    refine VC.reg (VO.l (LO.mv (.r rfl)) rfl <| VO.l (LO.len S24 (.r rfl) rfl) rfl <| VO.l (LO.gt (.r rfl) (.r rfl)) rfl <| VO.nil ?_)
    refine VE.seqN ?_
    refine VC.cond rfl (fun h2 => ?_) (fun h2 => ?_)
    ·
      refine VC.seq ?_
      refine VC.reg (VO.l (LO.as (.r rfl)) rfl <| VO.l (LO.as (.r rfl)) rfl <| VO.nil ?_)
      refine VE.seqN ?_
      refine VC.ret (VE.thenR (VE.res (vs := [_, _]) rfl ⟨rfl, rfl, trivial⟩ (fun w hw => ?_)))
      first | exact at_err (aE1 h1) h1 hw | exact at_err (aE2 hgo h2) (by decide) hw | exact at_err (aE3 hgo h2 hz hx h4) h4 hw | exact at_err (aE4 hgo h2 hA0 h5) (by decide) hw | exact at_ok (aE5 hgo h2 hA0 h5) (by omega) (hw.sel [0] rfl)
    ·
      refine VC.skip (VE.seqN ?_)
      refine VC.seq ?_
      refine VC.reg (VO.l (LO.as (.r rfl)) rfl <| VO.nil ?_)
      refine VE.seqN ?_
      refine VC.seq ?_
      refine VC.seq ?_
      refine VC.reg (VO.l (LO.mv (.r rfl)) rfl <| VO.l (LO.len S24 (.r rfl) rfl) rfl <| VO.l (LO.mv (.r rfl)) rfl <| VO.nil ?_)
      refine VE.seqN ?_
      refine VC.block ?_
      refine VC.loopK (α := Nat × List (Nat × Nat) × Option Addr × Nat) 0 (fun x => [(9, .slice x.2.2.1 x.1 x.2.2.2), (29, .int .i64 (x.1 : Nat))]) [(2, _), (3, _), (27, _), (28, _)] (fun x => [setsR x.2.1 ((l.map CP.c).take x.1), own 120 12 x.2.2.1 x.2.2.2 (shRows g x.2.1 ((l.map CP.c).take x.1))]) (fun x => x.1 ≤ l.length ∧ x.2.1.length = x.1 ∧ ∀ k, k < x.1 → cloudE g ((l.map CP.c).getD k default) = 0) (fun x => l.length - x.1) (0, [], none, 0) (by exact ⟨by omega, rfl, fun k hk => by omega⟩) (.cons rfl (.cons rfl (.cons rfl (.cons rfl (.cons rfl (.cons rfl .nil)))))) (fun w h => setsNil (h.ownNil 120 12)) ?_
      rintro ⟨j, qs, po, co⟩ ⟨hj, hqs, hz⟩
      show VC _ _ _ _ _ ([(9, .slice po j co), (29, .int .i64 (j : Nat))] ++ _) ([setsR qs ((l.map CP.c).take j), own 120 12 po co (shRows g qs ((l.map CP.c).take j))] ++ _) _ _
      have hqs : qs.length = j := hqs
      have hj : j ≤ l.length := hj
      refine VC.seq ?_
      refine VC.reg (VO.l (LO.lt (.r rfl) (.r rfl)) rfl <| VO.nil ?_)
      refine VE.seqN ?_
      refine VC.seq ?_
      refine VC.cond rfl (fun h3 => ?_) (fun h3 => ?_)
      ·
        obtain ⟨x, hx⟩ : ∃ x, l[j]? = some x := ⟨_, List.getElem?_eq_getElem (by omega)⟩
        have hxo := hl.ok x (List.mem_of_getElem? hx)
        refine VC.skip (VE.seqN ?_)
        refine VC.seq ?_
        refine VC.block ?_
        refine VC.seq ?_
        refine VC.reg (VO.l (LO.ixs S24 N34 hl.sl (.r rfl) (.r rfl) rfl (by omega)) rfl <| VO.l (LO.lda (vs := [_, _, _, _, _, _, _]) A34 (.r rfl) (hl.at hx) rfl) rfl <| VO.h rfl <| HO.alloc (C := #[_, _, _, _, _, _, _]) Z34 rfl fun b4 => VO.h0 <| HO.st 0 (vs := [_, _, _, _, _, _, _]) (C' := [_, _, _, _, _, _, _]) (L' := [_, _, _, _]) N34 rfl rfl rfl rfl rfl rfl rfl rfl <| VO.nil ?_)
        refine VE.seqN ?_
        refine VC.seq ?_
        refine VC.seq ?_
        refine VC.reg (VO.l (LO.lda (vs := [_, _, _, _, _]) A23 (.r rfl) (fun _ hw => cells_at hw 3 rfl ⟨_, rfl⟩) rfl) rfl <| VO.l (LO.lda (vs := [_, _, _, _, _, _, _]) A34 (.r rfl) (fun _ hw => cells_at hw 0 rfl ⟨_, rfl⟩) rfl) rfl <| VO.l (LO.call (xs := [_, _]) (vs := [_, _]) C45 ⟨(.r rfl), (.r rfl), trivial⟩ (fun w hw => checkCloud_c g x.c x.ps x.pm x.cs x.cm w hxo.2.2.1 hxo.2.2.2 (hxo.1.keep w hw) (hxo.2.1.keep w hw))) rfl <| VO.l (LO.as (.r rfl)) rfl <| VO.nil ?_)
        refine VE.seqN ?_
        refine VC.seq ?_
        refine VC.reg (VO.l (LO.mv (.r rfl)) rfl <| VO.l (LO.ne (.r rfl) (.r rfl)) rfl <| VO.nil ?_)
        refine VE.seqN ?_
        refine VC.cond rfl (fun h4 => ?_) (fun h4 => ?_)
        ·
          refine VC.seq ?_
          refine VC.reg (VO.l (LO.mv (.r rfl)) rfl <| VO.l (LO.as (.r rfl)) rfl <| VO.l (LO.as (.r rfl)) rfl <| VO.nil ?_)
          refine VE.seqN ?_
          refine VC.ret (VE.thenR (VE.inR (VE.thenR (VE.thenR (VE.inR (VE.thenR (VE.res (vs := [_, _]) rfl ⟨rfl, rfl, trivial⟩ (fun w hw => ?_))))))))
          first | exact at_err (aE1 h1) h1 hw | exact at_err (aE2 hgo h2) (by decide) hw | exact at_err (aE3 hgo h2 hz hx h4) h4 hw | exact at_err (aE4 hgo h2 hA0 h5) (by decide) hw | exact at_ok (aE5 hgo h2 hA0 h5) (by omega) (hw.sel [0] rfl)
        ·
          refine VC.skip (VE.seqN ?_)
          refine VC.reg (VO.l (LO.mv (.r rfl)) rfl <| VO.l (LO.lda (vs := [_, _, _, _, _]) A23 (.r rfl) (fun _ hw => cells_at hw 3 rfl ⟨_, rfl⟩) rfl) rfl <| VO.l (LO.lda (vs := [_, _, _, _, _, _, _]) A34 (.r rfl) (fun _ hw => cells_at hw 0 rfl ⟨_, rfl⟩) rfl) rfl <| VO.h rfl <| HO.callx (xs := [_, _]) (vs := [_, _]) C51 ⟨(.r rfl), (.r rfl), trivial⟩ (fun w hw => shaped_c g x.c x.ps x.pm x.cs x.cm w hxo.2.2.1 hxo.2.2.2 (hxo.1.keep w hw) (hxo.2.1.keep w hw)) fun q hq => VO.h rfl <| HO.bs (ps := [(_, _)]) (vs := [(_, _)]) (Z := [_, _, _, _, _, _, _, _, _, _, _, _]) (C := [_, _, _, _, _, _, _, _, _, _, _, _]) S117 Z120 N120 ⟨(.r rfl), trivial⟩ rfl rfl rfl rfl ⟨_, [_, _, _, _, _, _, _, _, _, _, _, _], [_, _, _, _, _, _, _, _, _, _, _, _], rfl, rfl, rfl, rfl, rfl⟩ fun b8 => VO.h rfl <| HO.app1 5 0 (fun R => [_, _, _, _, _, R, _]) S117 S117 I120 (.r rfl) (.r rfl) rfl rfl rfl rfl rfl rfl rfl (fun _ => rfl) (by unfold shRows; simp; omega) (by omega) fun p5 c5 => VO.h rfl <| HO.lo (LO.as (.r rfl)) <| VO.nil ?_)
          refine VE.inN (VE.seqN ?_)
          refine VC.reg (VO.l (LO.add (.r rfl) (.r rfl) (wi (by omega) (by omega))) rfl <| VO.l (LO.mv (.r rfl)) rfl <| VO.nil ?_)
          refine VE.thenN fun a w ha hw => ⟨(j + 1, qs ++ [q], _, _), ⟨by show j + 1 ≤ l.length; omega, by simp [hqs], step_zero hz (by rw [getD_c hx]; simpa using h4)⟩, (by show l.length - (j + 1) < l.length - j; omega), ha.sub (.cons rfl (.cons rfl (.cons rfl (.cons rfl (.cons rfl (.cons rfl .nil)))))), by rw [take_c hx, shRows_add (by simp; omega)]; exact sets_add (by simp; omega) (hw.sel [1, 2, 4, 5, 6] rfl)⟩
      ·
        refine VC.exit (VE.thenX (VE.thenX (VE.inX (VE.seqN ?_))))
        refine VC.seq ?_
        refine VC.seq ?_
        have hA0 : firstE (fun k => cloudE g ((l.map CP.c).getD k default)) (l.map CP.c).length = 0 := firstE_zero (fun k hk => hz k (by simp at hk; omega))
        refine VC.reg (VO.l (LO.mv (.r rfl)) rfl <| VO.l (LO.call (xs := [_, _, _]) (vs := [_, _, _]) C52 ⟨(.r rfl), (.r rfl), (.r rfl), trivial⟩ (fun w _ => within_c _ _ _ w)) rfl <| VO.l (LO.not (.r rfl)) rfl <| VO.nil ?_)
        refine VE.seqN ?_
        refine VC.cond rfl (fun h5 => ?_) (fun h5 => ?_)
        ·
          refine VC.seq ?_
          refine VC.reg (VO.l (LO.as (.r rfl)) rfl <| VO.l (LO.as (.r rfl)) rfl <| VO.nil ?_)
          refine VE.seqN ?_
          refine VC.ret (VE.thenR (VE.res (vs := [_, _]) rfl ⟨rfl, rfl, trivial⟩ (fun w hw => ?_)))
          first | exact at_err (aE1 h1) h1 hw | exact at_err (aE2 hgo h2) (by decide) hw | exact at_err (aE3 hgo h2 hz hx h4) h4 hw | exact at_err (aE4 hgo h2 hA0 h5) (by decide) hw | exact at_ok (aE5 hgo h2 hA0 h5) (by omega) (hw.sel [0] rfl)
        ·
          have h5 : 0 ≤ lead ∧ lead ≤ 7200 := by simpa using h5
          refine VC.skip (VE.seqN ?_)
          refine VC.seq ?_
          refine VC.reg (VO.l (LO.as (.r rfl)) rfl <| VO.nil ?_)
          refine VE.seqN ?_
          refine VC.seq ?_
          refine VC.reg (VO.l (LO.as (.r rfl)) rfl <| VO.nil ?_)
          refine VE.seqN ?_
          refine VC.seq ?_
          refine VC.seq ?_
          refine VC.reg (VO.l (LO.fa (r := 3) F23_3 (.r rfl) rfl) rfl <| VO.l (LO.ld O3 (.r rfl) (fun _ hw => cells_at hw 2 rfl ⟨_, rfl⟩)) rfl <| VO.l (LO.fa (r := 4) F23_4 (.r rfl) rfl) rfl <| VO.l (LO.ld O3 (.r rfl) (fun _ hw => cells_at hw 2 rfl ⟨_, rfl⟩)) rfl <| VO.l (LO.mul (.r rfl) (.r rfl) (wi (by omega) (by omega))) rfl <| VO.l (LO.mv (.r rfl)) rfl <| VO.nil ?_)
          refine VE.seqN ?_
          refine VC.block ?_
          have hjl : j = l.length := by omega
          have htk : (l.map CP.c).take j = l.map CP.c := List.take_of_length_le (by simp; omega)
          refine VC.pure (φ := SlSome po j) (fun w hw => (own_rows hw 1 rfl).some (by unfold shRows; simp; omega)) fun hso => ?_
          refine VC.loopK (α := Nat × Option Addr × Nat) 0 (fun x => [(14, .slice x.2.1 x.1 x.2.2), (54, .int .i64 (x.1 : Nat))]) [(2, _), (3, _), (9, _), (13, _), (53, _)] (fun x => [own 3 1 x.2.1 x.2.2 ((List.range x.1).map fun p : Nat => [.int .i64 (stateAll g (l.map CP.c) lead p)])]) (fun x => x.1 ≤ (g.wide * g.high).toNat) (fun x => (g.wide * g.high).toNat - x.1) (0, none, 0) (by exact Nat.zero_le _) (.cons rfl (.cons rfl (.cons rfl (.cons rfl (.cons rfl (.cons rfl (.cons rfl .nil))))))) (fun w h => h.ownNil 3 1) ?_
          rintro ⟨k, pr, cr⟩ hk
          show VC _ _ _ _ _ ([(14, .slice pr k cr), (54, .int .i64 (k : Nat))] ++ _) ([own 3 1 pr cr ((List.range k).map fun p : Nat => [.int .i64 (stateAll g (l.map CP.c) lead p)])] ++ _) _ _
          have hk : k ≤ (g.wide * g.high).toNat := hk
          refine VC.seq ?_
          refine VC.reg (VO.l (LO.lt (.r rfl) (.r rfl)) rfl <| VO.nil ?_)
          refine VE.seqN ?_
          refine VC.seq ?_
          refine VC.cond rfl (fun h6 => ?_) (fun h6 => ?_)
          ·
            refine VC.skip (VE.seqN ?_)
            refine VC.seq ?_
            refine VC.block ?_
            refine VC.seq ?_
            refine VC.reg (VO.l (LO.mv (.r rfl)) rfl <| VO.l (LO.as (.r rfl)) rfl <| VO.nil ?_)
            refine VE.seqN ?_
            refine VC.seq ?_
            refine VC.reg (VO.l (LO.as (.r rfl)) rfl <| VO.nil ?_)
            refine VE.seqN ?_
            refine VC.seq ?_
            refine VC.seq ?_
            refine VC.reg (VO.l (LO.mv (.r rfl)) rfl <| VO.l (LO.len S117 (.r rfl) rfl) rfl <| VO.l (LO.mv (.r rfl)) rfl <| VO.nil ?_)
            refine VE.seqN ?_
            refine VC.block ?_
            refine VC.loopK (α := Nat) 0 (fun i => [(16, .int .i64 (((l.map CP.c).take i).foldl (fun m c => max m (stateOf g c (k : Nat) lead)) 0)), (59, .int .i64 (i : Nat))]) [(2, _), (3, _), (9, _), (13, _), (14, _), (15, _), (53, _), (54, _), (57, _), (58, _)] (fun i => []) (fun i => i ≤ j) (fun i => j - i) 0 (by omega) (.cons rfl (.cons rfl (.cons rfl (.cons rfl (.cons rfl (.cons rfl (.cons rfl (.cons rfl (.cons rfl (.cons rfl (.cons rfl (.cons rfl .nil)))))))))))) (fun _ h => h) ?_
            rintro i hi
            refine VC.seq ?_
            refine VC.reg (VO.l (LO.lt (.r rfl) (.r rfl)) rfl <| VO.nil ?_)
            refine VE.seqN ?_
            refine VC.seq ?_
            refine VC.cond rfl (fun h7 => ?_) (fun h7 => ?_)
            ·
              obtain ⟨x, hx⟩ : ∃ x, l[i]? = some x := ⟨_, List.getElem?_eq_getElem (by omega)⟩
              obtain ⟨q, hq⟩ : ∃ q, qs[i]? = some q := ⟨_, List.getElem?_eq_getElem (by omega)⟩
              have hrow : (shRows g qs ((l.map CP.c).take j))[i]? = some (shapeC q.1 q.2 g x.c).toList := by unfold shRows; rw [htk, List.getElem?_zipWith, hq, List.getElem?_map, hx]; rfl
              have hxk := cloudE_ok (c := x.c) (by rw [← getD_c hx]; exact hz i (by omega))
              refine VC.skip (VE.seqN ?_)
              refine VC.seq ?_
              refine VC.block ?_
              refine VC.seq ?_
              refine VC.reg (VO.l (LO.ixs S117 N120 hso (.r rfl) (.r rfl) rfl (by omega)) rfl <| VO.l (LO.lda (vs := [_, _, _, _, _, _, _, _, _, _, _, _]) A120 (.r rfl) (fun _ hw => (own_rows hw 2 rfl).cells i _ hrow) rfl) rfl <| VO.h rfl <| HO.alloc (C := #[_, _, _, _, _, _, _, _, _, _, _, _]) Z120 rfl fun b10 => VO.h0 <| HO.st 0 (vs := [_, _, _, _, _, _, _, _, _, _, _, _]) (C' := [_, _, _, _, _, _, _, _, _, _, _, _]) (L' := [_, _, _, _, _]) N120 rfl rfl rfl rfl rfl rfl rfl rfl <| VO.nil ?_)
              refine VE.seqN ?_
              refine VC.reg (VO.l (LO.mv (.r rfl)) rfl <| VO.l (LO.mv (.r rfl)) rfl <| VO.l (LO.lda (vs := [_, _, _, _, _, _, _, _, _, _, _, _]) A120 (.r rfl) (fun _ hw => cells_at hw 0 rfl ⟨_, rfl⟩) rfl) rfl <| VO.l (LO.mv (.r rfl)) rfl <| VO.l (LO.mv (.r rfl)) rfl <| VO.l (LO.call (xs := [_, _, _]) (vs := [_, _, _]) C54 ⟨(.r rfl), (.r rfl), (.r rfl), trivial⟩ (fun w hw => at_c g x.c q.1 q.2 (k : Nat) lead w hgo hxk.1 hxk.2.1 hxk.2.2 h5.1 h5.2 (by omega) (by omega) (sets_at (hw.inv 2 _ rfl) hq (by rw [htk, List.getElem?_map, hx]; rfl)).1 (sets_at (hw.inv 2 _ rfl) hq (by rw [htk, List.getElem?_map, hx]; rfl)).2)) rfl <| VO.l (LO.callv (first := []) (cap := []) (xs := [_, _]) (vs := [_, _]) (.r rfl) C53 ⟨(.r rfl), (.r rfl), trivial⟩ (fun w _ => or_c _ _ w)) rfl <| VO.l (LO.as (.r rfl)) rfl <| VO.nil ?_)
              refine VE.inN (VE.seqN ?_)
              refine VC.reg (VO.l (LO.add (.r rfl) (.r rfl) (wi (by omega) (by omega))) rfl <| VO.l (LO.mv (.r rfl)) rfl <| VO.nil ?_)
              refine VE.thenN fun a w ha hw => ⟨i + 1, by omega, (by omega), ha.sub (.cons (Eq.trans (b := some (Value.int .i64 (max (((l.map CP.c).take i).foldl (fun m c => max m (stateOf g c (k : Nat) lead)) 0) (stateOf g x.c (k : Nat) lead)))) rfl (by rw [take_c hx, List.foldl_append]; rfl)) (.cons rfl (.cons rfl (.cons rfl (.cons rfl (.cons rfl (.cons rfl (.cons rfl (.cons rfl (.cons rfl (.cons rfl (.cons rfl .nil)))))))))))), hw.sel [1, 2, 3, 4] rfl⟩
            ·
              have hsk : stateAll g (l.map CP.c) lead (k : Nat) = ((l.map CP.c).take i).foldl (fun m c => max m (stateOf g c (k : Nat) lead)) 0 := by rw [show i = j by omega, htk]; rfl
              refine VC.exit (VE.thenX (VE.thenX (VE.inX (VE.seqN ?_))))
              refine VC.reg (VO.l (LO.mv (.r rfl)) rfl <| VO.l (LO.mv (.r rfl)) rfl <| VO.l (LO.call (xs := [_]) (vs := [_]) C55 ⟨(.r rfl), trivial⟩ (fun w _ => number_c _ w)) rfl <| VO.h rfl <| HO.bs (ps := [(_, _)]) (vs := [(_, _)]) (Z := [_]) (C := [_]) S28 Z3 N3 ⟨(.r rfl), trivial⟩ rfl rfl rfl rfl ⟨_, [_], [_], rfl, rfl, rfl, rfl, rfl⟩ fun b12 => VO.h rfl <| HO.app1 1 0 (fun R => [_, R, _, _, _]) S28 S28 I3 (.r rfl) (.r rfl) rfl rfl rfl rfl rfl rfl rfl (fun _ => rfl) (by simp) (by omega) fun p4 c4 => VO.h rfl <| HO.lo (LO.as (.r rfl)) <| VO.nil ?_)
              refine VE.inN (VE.seqN ?_)
              refine VC.reg (VO.l (LO.add (.r rfl) (.r rfl) (wi (by omega) (by omega))) rfl <| VO.l (LO.mv (.r rfl)) rfl <| VO.nil ?_)
              refine VE.thenN fun a w ha hw => ⟨(k + 1, _, _), by show k + 1 ≤ (g.wide * g.high).toNat; omega, (by show (g.wide * g.high).toNat - (k + 1) < (g.wide * g.high).toNat - k; omega), ha.sub (.cons rfl (.cons rfl (.cons rfl (.cons rfl (.cons rfl (.cons rfl (.cons rfl .nil))))))), by show St _ ([own 3 1 _ _ ((List.range (k + 1)).map fun p : Nat => [Value.int .i64 (stateAll g (l.map CP.c) lead p)])] ++ _) w; rw [List.range_succ, List.map_append, List.map_singleton, hsk]; exact hw.sel [1, 2, 3, 4] rfl⟩
          ·
            refine VC.exit (VE.thenX (VE.thenX (VE.inX (VE.seqN ?_))))
            refine VC.seq ?_
            refine VC.reg (VO.l (LO.mv (.r rfl)) rfl <| VO.l (LO.as (.r rfl)) rfl <| VO.l (LO.as (.r rfl)) rfl <| VO.nil ?_)
            refine VE.seqN ?_
            refine VC.ret (VE.res (vs := [_, _]) rfl ⟨rfl, rfl, trivial⟩ (fun w hw => ?_))
            first | exact at_err (aE1 h1) h1 hw | exact at_err (aE2 hgo h2) (by decide) hw | exact at_err (aE3 hgo h2 hz hx h4) h4 hw | exact at_err (aE4 hgo h2 hA0 h5) (by decide) hw | exact at_ok (aE5 hgo h2 hA0 h5) (by omega) (hw.sel [0] rfl)

end Go.Proofs.Ytdcjeoamhjplmaa
