/-
  The walk of CastStates.
-/
import Derived.Test.YtdcjeoamhjplmaaWC
namespace Go.Proofs.Ytdcjeoamhjplmaa
open Go.SL Go.Proofs Go.Cast
set_option linter.unusedVariables false

theorem C14 : IsFn Try.prog 14 := ⟨_, Try.func14, by decide, rfl⟩
theorem C15 : IsFn Try.prog 15 := ⟨_, Try.func15, by decide, rfl⟩
theorem C16 : IsFn Try.prog 16 := ⟨_, Try.func16, by decide, rfl⟩
theorem I37 : EInfo Try.prog 37 7 88 (.agg #[.slice none 0 0, .slice none 0 0, .int .i64 0, .int .i64 0, .int .i64 0, .int .i64 0, .int .i64 0]) := ⟨by kernel_rfl, by kernel_rfl, by unfold ZeroOf; kernel_rfl, rfl, by decide⟩
theorem C18 : IsFn Try.prog 18 := ⟨_, Try.func18, by decide, rfl⟩


/-- Clouds of any size. -/
structure CloudsU (w : World) (p : Option Addr) (l : List CP) : Prop where
  rows : Go.SL.Rows w 7 p (l.map CP.cells)
  ok : ∀ x, x ∈ l → Ints w x.ps x.c.sure ∧ Ints w x.pm x.c.may
theorem CloudsU.sl {w : World} {p : Option Addr} {l : List CP} (h : CloudsU w p l) : SlSome p l.length := Go.SL.Rows.some h.rows (by simp)
theorem CloudsU.at {w0 : World} {p : Option Addr} {l : List CP} (h : CloudsU w0 p l) {L : List Res} {j : Nat} {x : CP} (hx : l[j]? = some x) : ∀ w, St (bs w0) L w → Cells w ⟨pb p, po p + j * 7, none⟩ x.cells :=
  fun w hw => (h.rows.keep w hw).cells j _ (by rw [List.getElem?_map, hx]; rfl)
theorem CloudsU.full {w : World} {p : Option Addr} {l : List CP} (h : CloudsU w p l) (hb : ∀ (k : Nat) (x : CP), l[k]? = some x → x.c.sure.length ≤ 60 ∧ x.c.may.length ≤ 60) : Clouds w p l :=
  ⟨h.rows, fun x hx => by
    obtain ⟨i, hi, e⟩ := List.getElem_of_mem hx
    have := hb i x (by rw [List.getElem?_eq_getElem hi, e])
    exact ⟨(h.ok x hx).1, (h.ok x hx).2, by omega, by omega⟩⟩
theorem Clouds.keep {w0 : World} {p : Option Addr} {l : List CP} (h : Clouds w0 p l) {L : List Res} : ∀ w, St (bs w0) L w → Clouds w p l :=
  fun w hw => ⟨h.rows.keep w hw, fun x hx => ⟨(h.ok x hx).1.keep w hw, (h.ok x hx).2.1.keep w hw, (h.ok x hx).2.2⟩⟩
theorem Clouds.own {w0 : World} {p q : Option Addr} {l : List CP} (h : Clouds w0 p l) {L : List Res} {w : World} (hr : Go.SL.Rows w 7 q ((l.map CP.cells).take l.length)) (hw : St (bs w0) L w) : Clouds w q l := by
  rw [List.take_of_length_le (by simp)] at hr; exact ⟨hr, fun x hx => ⟨(h.ok x hx).1.keep w hw, (h.ok x hx).2.1.keep w hw, (h.ok x hx).2.2⟩⟩
theorem take_cells {l : List CP} {j : Nat} {x : CP} (hx : l[j]? = some x) : (l.map CP.cells).take (j + 1) = (l.map CP.cells).take j ++ [x.cells] := by
  rw [List.take_add_one, List.getElem?_map, hx]; rfl
theorem step_few {g : Grid} {t : Int} {l : List CP} {j : Nat} {x : CP} (hb : ∀ k x, k < j → l[k]? = some x → x.c.sure.length ≤ 60 ∧ x.c.may.length ≤ 60) (hx : l[j]? = some x) (h : fewB g x.c t = true) : ∀ k x, k < j + 1 → l[k]? = some x → x.c.sure.length ≤ 60 ∧ x.c.may.length ≤ 60 := by
  intro k y hk hy
  rcases Nat.lt_or_ge k j with q | q
  · exact hb k y q hy
  · have : k = j := by omega
    subst this
    rw [hx] at hy; cases hy
    unfold fewB at h
    split at h
    · cases h
    · omega
theorem atL_le {g : Grid} {l : List Cloud} {t : Int} : (atL g l t).length ≤ 4096 := by
  unfold atL
  split
  · simp
  · rename_i h
    have h := Classical.not_not.1 h
    unfold atE at h
    split at h
    · omega
    · rename_i q
      have := area_bd (Classical.not_not.1 q)
      simp; omega
theorem atL_lt {g : Grid} {l : List Cloud} {t : Int} : (atL g l t).length < 1000000000000 := by have := @atL_le g l t; omega

set_option maxRecDepth 20000 in
theorem CastStates_c (g : Grid) (l : List CP) (pl : Option Addr) (cl : Nat) (lead : Int) (w : World) (hl : CloudsU w pl l) :
  Calls Try.prog 3 #[gridV g, .slice pl l.length cl, .int .i64 lead] w fun e w' => e = .returned (.bool true) ∧ St (bs w) [] w' := by
  refine enter (vs := [_, _, _]) (env := [(0, _), (1, _), (2, _)]) Try.func3 rfl rfl rfl rfl ?_
  refine VC.seq ?_
  refine VC.reg (VO.h rfl <| HO.box (C := #[_, _, _, _, _]) rfl rfl fun b1 => VO.l (LO.as (.r rfl)) rfl <| VO.nil ?_)
  refine VE.seqN ?_
  refine VC.seq ?_
  refine VC.seq ?_
  refine VC.reg (VO.l (LO.mv (.r rfl)) rfl <| VO.l (LO.len S24 (.r rfl) rfl) rfl <| VO.l (LO.gt (.r rfl) (.r rfl)) rfl <| VO.l (LO.mv (.r rfl)) rfl <| VO.lg rfl rfl (GD.t _) (fun hg => LO.mv (.r rfl)) rfl <| VO.lg rfl rfl (GD.t _) (fun hg => LO.len S24 (.g hg rfl) rfl) rfl <| VO.lg rfl rfl (GD.t _) (fun hg => LO.le (.g hg rfl) (.r rfl)) rfl <| VO.l (LO.pkA (.r rfl) rfl rfl (.r rfl)) rfl <| VO.l (LO.mv (.r rfl)) rfl <| VO.lg rfl rfl (GD.f _) (fun hg => LO.mv (.r rfl)) rfl <| VO.lg rfl rfl (GD.f _) (fun hg => LO.len S24 (.g hg rfl) rfl) rfl <| VO.lg rfl rfl (GD.f _) (fun hg => LO.gt (.g hg rfl) (.r rfl)) rfl <| VO.l (LO.pkO (.r rfl) (.r rfl) rfl rfl) rfl <| VO.nil ?_)
  refine VE.seqN ?_
  refine VC.cond rfl (fun h1 => ?_) (fun h1 => ?_)
  ·
    refine VC.seq ?_
    refine VC.reg (VO.l (LO.call (xs := []) (vs := []) C14 trivial (fun w _ => works_c w)) rfl <| VO.l (LO.as (.r rfl)) rfl <| VO.nil ?_)
    refine VE.seqN ?_
    refine VC.ret (VE.thenR (VE.res (vs := [_]) rfl ⟨rfl, trivial⟩ (fun w hw => ?_)))
    first | exact ⟨rfl, hw.nil⟩ | exact ⟨by simp [resV], hw.nil⟩
  ·
    refine VC.skip (VE.seqN ?_)
    refine VC.seq ?_
    refine VC.reg (VO.l (LO.as (.r rfl)) rfl <| VO.nil ?_)
    refine VE.seqN ?_
    refine VC.seq ?_
    refine VC.seq ?_
    refine VC.reg (VO.l (LO.as (.r rfl)) rfl <| VO.nil ?_)
    refine VE.seqN ?_
    refine VC.block ?_
    refine VC.loopK (α := Nat × (Option Addr) × Nat) 0 (fun gx => [(7, .slice gx.2.1 gx.1 gx.2.2), (8, .int .i64 (gx.1 : Nat))]) [(1, _), (2, _), (3, _)] (fun gx => [own 37 7 gx.2.1 gx.2.2 ((l.map CP.cells).take gx.1)]) (fun gx => gx.1 ≤ l.length ∧ ∀ k x, k < gx.1 → l[k]? = some x → x.c.sure.length ≤ 60 ∧ x.c.may.length ≤ 60) (fun gx => l.length - gx.1) (0, none, 0) (by exact ⟨by dsimp only; omega, fun k x hk => by dsimp only at hk; omega⟩) (.cons rfl (.cons rfl (.cons rfl (.cons rfl (.cons rfl .nil))))) (fun _ h => h.ownNil 37 7) ?_
    rintro ⟨j, pm, cm⟩ ⟨hj, hb⟩
    show VC _ _ _ _ _ ([(7, .slice pm j cm), (8, .int .i64 (j : Nat))] ++ _) ([own 37 7 pm cm ((l.map CP.cells).take j)] ++ _) _ _
    have hj : j ≤ l.length := hj
    have hb : ∀ k x, k < j → l[k]? = some x → x.c.sure.length ≤ 60 ∧ x.c.may.length ≤ 60 := hb
    refine VC.seq ?_
    refine VC.seq ?_
    refine VC.reg (VO.l (LO.mv (.r rfl)) rfl <| VO.l (LO.mv (.r rfl)) rfl <| VO.l (LO.len S24 (.r rfl) rfl) rfl <| VO.l (LO.lt (.r rfl) (.r rfl)) rfl <| VO.nil ?_)
    refine VE.seqN ?_
    refine VC.cond rfl (fun h2 => ?_) (fun h2 => ?_)
    ·
      obtain ⟨x, hx⟩ : ∃ x, l[j]? = some x := ⟨_, List.getElem?_eq_getElem (by omega)⟩
      have hxo := hl.ok x (List.mem_of_getElem? hx)
      refine VC.skip (VE.seqN ?_)
      refine VC.seq ?_
      refine VC.block ?_
      refine VC.seq ?_
      refine VC.seq ?_
      refine VC.draw mixed (LL.l (LO.lda (vs := [_, _, _, _, _]) A23 (.r rfl) (fun _ hw => cells_at hw 1 rfl ⟨_, rfl⟩) rfl) rfl <| LL.l (LO.mv (.r rfl)) rfl <| LL.l (LO.mv (.r rfl)) rfl <| LL.l (LO.ixs S24 N34 hl.sl (.r rfl) (.r rfl) rfl (by omega)) rfl <| LL.l (LO.lda (vs := [_, _, _, _, _, _, _]) A34 (.r rfl) (hl.at hx) rfl) rfl <| LL.l (LO.mv (.r rfl)) rfl <| LL.l (LO.call (xs := [_, _, _]) (vs := [_, _, _]) C15 ⟨(.r rfl), (.r rfl), (.r rfl), trivial⟩ (fun w hw => few_c g x.c lead x.ps x.pm x.cs x.cm w (hxo.1.keep w hw) (hxo.2.keep w hw))) rfl <| LL.l (LO.not (.r rfl)) rfl <| LL.nil) (by kernel_rfl) ?_
      refine VE.seqN ?_
      refine VC.cond rfl (fun h3 => ?_) (fun h3 => ?_)
      ·
        refine VC.seq ?_
        refine VC.reg (VO.l (LO.call (xs := []) (vs := []) C14 trivial (fun w _ => works_c w)) rfl <| VO.l (LO.as (.r rfl)) rfl <| VO.nil ?_)
        refine VE.seqN ?_
        refine VC.ret (VE.thenR (VE.inR (VE.thenR (VE.thenR (VE.inR (VE.thenR (VE.res (vs := [_]) rfl ⟨rfl, trivial⟩ (fun w hw => ?_))))))))
        first | exact ⟨rfl, hw.nil⟩ | exact ⟨by simp [resV], hw.nil⟩
      ·
        have h3 : fewB g x.c lead = true := by simpa using h3
        refine VC.skip (VE.seqN ?_)
        refine VC.reg (VO.l (LO.mv (.r rfl)) rfl <| VO.l (LO.mv (.r rfl)) rfl <| VO.l (LO.mv (.r rfl)) rfl <| VO.l (LO.ixs S24 N34 hl.sl (.r rfl) (.r rfl) rfl (by omega)) rfl <| VO.l (LO.lda (vs := [_, _, _, _, _, _, _]) A34 (.r rfl) (hl.at hx) rfl) rfl <| VO.l (LO.call (xs := [_]) (vs := [_]) C16 ⟨(.r rfl), trivial⟩ (fun w _ => cloud_c x.c x.ps x.pm x.cs x.cm w)) rfl <| VO.h rfl <| HO.bs (ps := [(_, _)]) (vs := [(_, _)]) (Z := [_, _, _, _, _, _, _]) (C := [_, _, _, _, _, _, _]) S26 Z37 N37 ⟨(.r rfl), trivial⟩ rfl rfl rfl rfl ⟨_, [_, _, _, _, _, _, _], [_, _, _, _, _, _, _], rfl, rfl, rfl, rfl, rfl⟩ fun b3 => VO.h rfl <| HO.app1 1 0 (fun R => [_, R, _]) S26 S26 I37 (.r rfl) (.r rfl) rfl rfl rfl rfl rfl rfl rfl (fun _ => rfl) (by rw [List.length_take, List.length_map]; omega) (by omega) fun p7 c7 => VO.h rfl <| HO.lo (LO.as (.r rfl)) <| VO.nil ?_)
        refine VE.inN (VE.seqN ?_)
        refine VC.reg (VO.l (LO.mv (.r rfl)) rfl <| VO.l (LO.add (.r rfl) (.r rfl) (wi (by omega) (by omega))) rfl <| VO.l (LO.as (.r rfl)) rfl <| VO.nil ?_)
        refine VE.thenN fun a w ha hw => ⟨(j + 1, _, _), ⟨by dsimp only; omega, step_few hb hx h3⟩, (by dsimp only; omega), ha.sub (.cons rfl (.cons rfl (.cons rfl (.cons rfl (.cons rfl .nil))))), (by show St _ ([own 37 7 _ _ ((l.map CP.cells).take (j + 1))] ++ _) w; rw [take_cells hx]; exact hw.sel [1, 2] rfl)⟩
    ·
      refine VC.exit (VE.thenX (VE.thenX (VE.inX (VE.seqN ?_))))
      refine VC.seq ?_
      have ej : j = l.length := by omega
      subst ej
      have hcl : Clouds _ pl l := hl.full (fun k x q => hb k x (List.getElem?_eq_some_iff.1 q).1 q)
      refine VC.reg (VO.l (LO.lda (vs := [_, _, _, _, _]) A23 (.r rfl) (fun _ hw => cells_at hw 1 rfl ⟨_, rfl⟩) rfl) rfl <| VO.l (LO.mv (.r rfl)) rfl <| VO.l (LO.mv (.r rfl)) rfl <| VO.h rfl <| HO.callx (xs := [_, _, _]) (vs := [_, _, _]) C17 ⟨(.r rfl), (.r rfl), (.r rfl), trivial⟩ (fun w hw => At_c g l pl cl lead w (by omega) (hcl.keep w hw)) fun x _ => VO.h rfl <| HO.lo (LO.mv (.r rfl)) <| VO.h rfl <| HO.lo (LO.ex (.r rfl) rfl) <| VO.h rfl <| HO.lo (LO.ex (.r rfl) rfl) <| VO.h rfl <| HO.lo (LO.as (.r rfl)) <| VO.h rfl <| HO.lo (LO.as (.r rfl)) <| VO.nil ?_)
      refine VE.seqN ?_
      refine VC.seq ?_
      refine VC.reg (VO.l (LO.lda (vs := [_, _, _, _, _]) A23 (.r rfl) (fun _ hw => cells_at hw 2 rfl ⟨_, rfl⟩) rfl) rfl <| VO.l (LO.mv (.r rfl)) rfl <| VO.l (LO.mv (.r rfl)) rfl <| VO.h rfl <| HO.callx (xs := [_, _, _]) (vs := [_, _, _]) C18 ⟨(.r rfl), (.r rfl), (.r rfl), trivial⟩ (fun w hw => rAt_c g l pm cm lead w (by omega) (hcl.own (own_rows hw 1 rfl) hw)) fun y _ => VO.h rfl <| HO.lo (LO.mv (.r rfl)) <| VO.h rfl <| HO.lo (LO.ex (.r rfl) rfl) <| VO.h rfl <| HO.lo (LO.ex (.r rfl) rfl) <| VO.h rfl <| HO.lo (LO.as (.r rfl)) <| VO.h rfl <| HO.lo (LO.as (.r rfl)) <| VO.nil ?_)
      refine VE.seqN ?_
      refine VC.seq ?_
      refine VC.reg (VO.l (LO.mv (.r rfl)) rfl <| VO.l (LO.mv (.r rfl)) rfl <| VO.l (LO.call (xs := [_, _]) (vs := [_, _]) C19 ⟨(.r rfl), (.r rfl), trivial⟩ (fun w hw => ints_c x.1 y.1 _ _ x.2 y.2 w atL_lt atL_lt (own_rows hw 1 rfl) (own_rows hw 0 rfl))) rfl <| VO.l (LO.mv (.r rfl)) rfl <| VO.lg rfl rfl (GD.t _) (fun hg => LO.mv (.r rfl)) rfl <| VO.lg rfl rfl (GD.t _) (fun hg => LO.mv (.r rfl)) rfl <| VO.lg rfl rfl (GD.t _) (fun hg => LO.eq (.g hg rfl) (.g hg rfl)) rfl <| VO.l (LO.pkA (.r rfl) rfl rfl (.r rfl)) rfl <| VO.l (LO.mv (.r rfl)) rfl <| VO.lg rfl rfl (GD.t _) (fun hg => LO.call (xs := []) (vs := []) C14 trivial (fun w _ => works_c w)) rfl <| VO.l (LO.pkA (.r rfl) rfl rfl (.r rfl)) rfl <| VO.l (LO.as (.r rfl)) rfl <| VO.nil ?_)
      refine VE.seqN ?_
      refine VC.ret (VE.res (vs := [_]) rfl ⟨rfl, trivial⟩ (fun w hw => ?_))
      first | exact ⟨rfl, hw.nil⟩ | exact ⟨by simp [resV], hw.nil⟩

end Go.Proofs.Ytdcjeoamhjplmaa
