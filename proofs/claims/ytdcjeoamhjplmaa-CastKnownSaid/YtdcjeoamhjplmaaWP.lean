/-
  Flows together.
-/
import Derived.Test.YtdcjeoamhjplmaaWO
namespace Go.Proofs.Ytdcjeoamhjplmaa
open Go.SL Go.Proofs Go.Cast
set_option linter.unusedVariables false

theorem S80 : IsSlice Try.prog 80 32 := Try.underlying80
theorem S86 : IsSlice Try.prog 86 35 := Try.underlying86
theorem Z141 : ZeroOf Try.prog 141 (.agg #[.nilFunc, .nilFunc]) := by unfold ZeroOf; kernel_rfl
theorem B141 : Builds Try.prog 141 [(0, 1), (1, 1)] [.nilFunc, .nilFunc] := Builds.mk fun _ => by kernel_rfl
theorem N141 : (Try.prog.info? 141).map (·.size) = some 2 := by kernel_rfl
theorem A141 : IsAgg Try.prog 141 2 := ⟨⟨_, Try.underlying141, rfl⟩, by kernel_rfl⟩
theorem F141_0 : FieldAt Try.prog 141 0 0 := ⟨_, _, Try.underlying141, rfl, rfl, 0, by kernel_rfl⟩
theorem O134 : IsOne Try.prog 134 := ⟨⟨_, Try.underlying134, rfl⟩, by kernel_rfl⟩
theorem C89 : IsFn Try.prog 89 := ⟨_, Try.func89, by decide, rfl⟩
theorem F141_1 : FieldAt Try.prog 141 1 1 := ⟨_, _, Try.underlying141, rfl, rfl, 0, by kernel_rfl⟩
theorem C90 : IsFn Try.prog 90 := ⟨_, Try.func90, by decide, rfl⟩
theorem C73 : IsFn Try.prog 73 := ⟨_, Try.func73, by decide, rfl⟩


def zF : Flow := ⟨0, 0, 0, 0⟩
def Flow.cells (f : Flow) : List Value := [.int .i64 f.a, .int .i64 f.b, .int .i64 f.c, .int .i64 f.d]
def Flows (w : World) (p : Option Addr) (l : List Flow) : Prop := Go.SL.Rows w 4 p (l.map Flow.cells)
theorem Flows.some {w : World} {p : Option Addr} {l : List Flow} (h : Flows w p l) : SlSome p l.length := Go.SL.Rows.some h (by simp)
theorem Flows.keep {w0 : World} {p : Option Addr} {l : List Flow} (h : Flows w0 p l) {L : List Res} : ∀ w, St (bs w0) L w → Flows w p l := Go.SL.Rows.keep h
theorem Flows.at {w0 : World} {p : Option Addr} {l : List Flow} (h : Flows w0 p l) {L : List Res} {j : Nat} (hj : j < l.length) : ∀ w, St (bs w0) L w → Cells w ⟨pb p, po p + j * 4, none⟩ [.int .i64 (l.getD j zF).a, .int .i64 (l.getD j zF).b, .int .i64 (l.getD j zF).c, .int .i64 (l.getD j zF).d] :=
  fun w hw => (h.keep w hw).cells j _ (by simp [List.getElem?_eq_getElem hj, List.getD, Flow.cells])
theorem flows_drop {w : World} {p : Option Addr} {l : List Flow} {k c : Nat} (h : Flows w p l) (hk : k ≤ l.length) (hc : l.length ≤ c) : Flows w (slFrom p c k 4) (l.drop k) := by
  have := rows_drop (k := k) (c := c) h (by simpa using hk) (by simpa using hc)
  rw [← List.map_drop] at this; exact this
def flowsE (l : List Flow) : Int := if l.length = 0 then 18 else if 64 < l.length then 9 else firstE (fun k => flowE (l.getD k zF)) l.length
def meetF (a b : Flow) : Flow := ⟨max a.a b.a, min a.b b.b, max a.c b.c, min a.d b.d⟩
def hullF (a b : Flow) : Flow := ⟨min a.a b.a, max a.b b.b, min a.c b.c, max a.d b.d⟩
def foldF (op : Flow → Flow → Flow) (l : List Flow) (j : Nat) : Flow := ((l.drop 1).take j).foldl op (l.getD 0 zF)
def allF (op : Flow → Flow → Flow) (l : List Flow) : Flow := (l.drop 1).foldl op (l.getD 0 zF)
section
variable {l : List Flow} {j : Nat} {op : Flow → Flow → Flow}
theorem step_z {f : Nat → Int} (hz : ∀ k, k < j → f k = 0) (h : f j = 0) : ∀ k, k < j + 1 → f k = 0 := by
  intro k hk
  rcases Nat.lt_or_ge k j with q | q
  · exact hz k q
  · have : k = j := by omega
    subst this; exact h
theorem flE_0 (h : (l.length : Int) = 0) : (18 : Int) = flowsE l := by unfold flowsE; rw [if_pos (by omega)]
theorem flE_1 (h : ¬ (l.length : Int) = 0) (k : 64 < (l.length : Int)) : (9 : Int) = flowsE l := by unfold flowsE; rw [if_neg (by omega), if_pos (by omega)]
theorem flE_2 (h : ¬ (l.length : Int) = 0) (k : ¬ 64 < (l.length : Int)) (hz : ∀ k, k < j → flowE (l.getD k zF) = 0) (q : ¬ flowE (l.getD j zF) = 0) (hj : j < l.length) : flowE (l.getD j zF) = flowsE l := by
  unfold flowsE; rw [if_neg (by omega), if_neg (by omega), firstE_at hz q hj]
theorem flE_3 (h : ¬ (l.length : Int) = 0) (k : ¬ 64 < (l.length : Int)) (hz : ∀ k, k < j → flowE (l.getD k zF) = 0) (hj : l.length ≤ j) : (0 : Int) = flowsE l := by
  unfold flowsE; rw [if_neg (by omega), if_neg (by omega), firstE_zero (fun k hk => hz k (by omega))]
theorem fold_step (h : j < (l.drop 1).length) : foldF op l (j + 1) = op (foldF op l j) ((l.drop 1).getD j zF) := by
  unfold foldF
  have e : (l.drop 1).getD j zF = (l.drop 1)[j] := by rw [List.getD_eq_getElem?_getD, List.getElem?_eq_getElem h]; rfl
  rw [List.take_add_one, List.foldl_append, e, List.getElem?_eq_getElem h]; rfl
theorem fold_end (h : l.length - 1 ≤ j) : foldF op l j = allF op l := by
  unfold foldF allF; rw [List.take_of_length_le (by simp; omega)]
end

set_option maxRecDepth 20000 in
theorem checked_c (p : Option Addr) (l : List Flow) (c : Nat) (w : World) (hl : Flows w p l) :
  Calls Try.prog 70 #[.slice p l.length c] w fun e w' => e = .returned (.int .i64 (flowsE l)) ∧ St (bs w) [] w' := by
  refine enter (vs := [_]) (env := [(0, _)]) Try.func70 rfl rfl rfl rfl ?_
  refine VC.seq ?_
  refine VC.reg (VO.l (LO.as (.r rfl)) rfl <| VO.nil ?_)
  refine VE.seqN ?_
  refine VC.seq ?_
  refine VC.block ?_
  refine VC.seq ?_
  refine VC.reg (VO.l (LO.mv (.r rfl)) rfl <| VO.l (LO.len S80 (.r rfl) rfl) rfl <| VO.l (LO.eq (.r rfl) (.r rfl)) rfl <| VO.l (LO.as (.r rfl)) rfl <| VO.nil ?_)
  refine VE.seqN ?_
  refine VC.cond rfl (fun h1 => ?_) (fun h1 => ?_)
  ·
    refine VC.seq ?_
    refine VC.reg (VO.l (LO.as (.r rfl)) rfl <| VO.nil ?_)
    refine VE.seqN ?_
    refine VC.ret (VE.inR (VE.thenR (VE.res (vs := [_]) rfl ⟨rfl, trivial⟩ (fun w hw => ?_))))
    refine ⟨?_, hw.nil⟩
    simp only [resV]
    congr 2
    first | exact flE_0 h1 | exact flE_1 h1 h2 | exact flE_2 h1 h2 hz h4 (by omega) | exact flE_3 h1 h2 hz (by omega)
  ·
    refine VC.seq ?_
    refine VC.reg (VO.l (LO.mv (.r rfl)) rfl <| VO.l (LO.len S80 (.r rfl) rfl) rfl <| VO.l (LO.gt (.r rfl) (.r rfl)) rfl <| VO.l (LO.as (.r rfl)) rfl <| VO.nil ?_)
    refine VE.seqN ?_
    refine VC.cond rfl (fun h2 => ?_) (fun h2 => ?_)
    ·
      refine VC.seq ?_
      refine VC.reg (VO.l (LO.as (.r rfl)) rfl <| VO.nil ?_)
      refine VE.seqN ?_
      refine VC.ret (VE.inR (VE.thenR (VE.res (vs := [_]) rfl ⟨rfl, trivial⟩ (fun w hw => ?_))))
      refine ⟨?_, hw.nil⟩
      simp only [resV]
      congr 2
      first | exact flE_0 h1 | exact flE_1 h1 h2 | exact flE_2 h1 h2 hz h4 (by omega) | exact flE_3 h1 h2 hz (by omega)
    ·
      refine VC.skip (VE.inN (VE.seqN ?_))
      refine VC.seq ?_
      refine VC.seq ?_
      refine VC.reg (VO.l (LO.mv (.r rfl)) rfl <| VO.l (LO.len S80 (.r rfl) rfl) rfl <| VO.l (LO.mv (.r rfl)) rfl <| VO.nil ?_)
      refine VE.seqN ?_
      refine VC.block ?_
      refine VC.loopK (α := Nat) 0 (fun gx => [(16, .int .i64 (gx : Nat))]) [(14, _), (15, _)] (fun gx => []) (fun gx => gx ≤ l.length ∧ ∀ k, k < gx → flowE (l.getD k zF) = 0) (fun gx => l.length - gx) 0 (by exact ⟨by omega, fun k hk => by omega⟩) (.cons rfl (.cons rfl (.cons rfl .nil))) (fun _ h => h) ?_
      rintro j ⟨hj, hz⟩
      refine VC.seq ?_
      refine VC.reg (VO.l (LO.lt (.r rfl) (.r rfl)) rfl <| VO.nil ?_)
      refine VE.seqN ?_
      refine VC.seq ?_
      refine VC.cond rfl (fun h3 => ?_) (fun h3 => ?_)
      ·
        refine VC.skip (VE.seqN ?_)
        refine VC.seq ?_
        refine VC.block ?_
        refine VC.seq ?_
        refine VC.reg (VO.l (LO.ixs S80 N32 hl.some (.r rfl) (.r rfl) rfl (by omega)) rfl <| VO.l (LO.lda (vs := [_, _, _, _]) A32 (.r rfl) (hl.at (j := j) (by omega)) rfl) rfl <| VO.h rfl <| HO.alloc (C := #[_, _, _, _]) Z32 rfl fun b1 => VO.h0 <| HO.st 0 (vs := [_, _, _, _]) (C' := [_, _, _, _]) (L' := [_]) N32 rfl rfl rfl rfl rfl rfl rfl rfl <| VO.nil ?_)
        refine VE.seqN ?_
        refine VC.seq ?_
        refine VC.reg (VO.l (LO.lda (vs := [_, _, _, _]) A32 (.r rfl) (fun _ hw => cells_at hw 0 rfl ⟨_, rfl⟩) rfl) rfl <| VO.l (LO.call (xs := [_]) (vs := [_]) C34 ⟨(.r rfl), trivial⟩ (fun w _ => checkFlow_c (l.getD j zF) w)) rfl <| VO.l (LO.as (.r rfl)) rfl <| VO.nil ?_)
        refine VE.seqN ?_
        refine VC.seq ?_
        refine VC.reg (VO.l (LO.mv (.r rfl)) rfl <| VO.l (LO.ne (.r rfl) (.r rfl)) rfl <| VO.nil ?_)
        refine VE.seqN ?_
        refine VC.cond rfl (fun h4 => ?_) (fun h4 => ?_)
        ·
          refine VC.seq ?_
          refine VC.reg (VO.l (LO.mv (.r rfl)) rfl <| VO.l (LO.as (.r rfl)) rfl <| VO.nil ?_)
          refine VE.seqN ?_
          refine VC.ret (VE.inR (VE.thenR (VE.thenR (VE.inR (VE.thenR (VE.res (vs := [_]) rfl ⟨rfl, trivial⟩ (fun w hw => ?_)))))))
          refine ⟨?_, hw.nil⟩
          simp only [resV]
          congr 2
          first | exact flE_0 h1 | exact flE_1 h1 h2 | exact flE_2 h1 h2 hz h4 (by omega) | exact flE_3 h1 h2 hz (by omega)
        ·
          refine VC.skip (VE.inN (VE.seqN ?_))
          refine VC.reg (VO.l (LO.add (.r rfl) (.r rfl) (wi (by omega) (by omega))) rfl <| VO.l (LO.mv (.r rfl)) rfl <| VO.nil ?_)
          refine VE.thenN fun a w ha hw => ⟨j + 1, ⟨by omega, step_z hz (by simpa using h4)⟩, (by omega), ha.sub (.cons rfl (.cons rfl (.cons rfl .nil))), hw.sel [] rfl⟩
      ·
        refine VC.exit (VE.thenX (VE.thenX (VE.inX (VE.seqN ?_))))
        refine VC.seq ?_
        refine VC.reg (VO.l (LO.as (.r rfl)) rfl <| VO.nil ?_)
        refine VE.seqN ?_
        refine VC.ret (VE.res (vs := [_]) rfl ⟨rfl, trivial⟩ (fun w hw => ?_))
        refine ⟨?_, hw.nil⟩
        simp only [resV]
        congr 2
        first | exact flE_0 h1 | exact flE_1 h1 h2 | exact flE_2 h1 h2 hz h4 (by omega) | exact flE_3 h1 h2 hz (by omega)

set_option maxRecDepth 20000 in
theorem rflows_c (p : Option Addr) (l : List Flow) (c : Nat) (w : World) (hl : Flows w p l) :
  Calls Try.prog 74 #[.slice p l.length c] w fun e w' => e = .returned (.int .i64 (flowsE l)) ∧ St (bs w) [] w' := by
  refine enter (vs := [_]) (env := [(0, _)]) Try.func74 rfl rfl rfl rfl ?_
  refine VC.seq ?_
  refine VC.reg (VO.l (LO.as (.r rfl)) rfl <| VO.nil ?_)
  refine VE.seqN ?_
  refine VC.seq ?_
  refine VC.seq ?_
  refine VC.reg (VO.l (LO.mv (.r rfl)) rfl <| VO.l (LO.len S86 (.r rfl) rfl) rfl <| VO.l (LO.eq (.r rfl) (.r rfl)) rfl <| VO.nil ?_)
  refine VE.seqN ?_
  refine VC.cond rfl (fun h1 => ?_) (fun h1 => ?_)
  ·
    refine VC.seq ?_
    refine VC.reg (VO.l (LO.as (.r rfl)) rfl <| VO.nil ?_)
    refine VE.seqN ?_
    refine VC.ret (VE.thenR (VE.res (vs := [_]) rfl ⟨rfl, trivial⟩ (fun w hw => ?_)))
    refine ⟨?_, hw.nil⟩
    simp only [resV]
    congr 2
    first | exact flE_0 h1 | exact flE_1 h1 h2 | exact flE_2 h1 h2 hz h4 (by omega) | exact flE_3 h1 h2 hz (by omega)
  ·
    refine VC.skip (VE.seqN ?_)
    refine VC.seq ?_
    refine VC.seq ?_
    refine VC.reg (VO.l (LO.mv (.r rfl)) rfl <| VO.l (LO.len S86 (.r rfl) rfl) rfl <| VO.l (LO.gt (.r rfl) (.r rfl)) rfl <| VO.nil ?_)
    refine VE.seqN ?_
    refine VC.cond rfl (fun h2 => ?_) (fun h2 => ?_)
    ·
      refine VC.seq ?_
      refine VC.reg (VO.l (LO.as (.r rfl)) rfl <| VO.nil ?_)
      refine VE.seqN ?_
      refine VC.ret (VE.thenR (VE.res (vs := [_]) rfl ⟨rfl, trivial⟩ (fun w hw => ?_)))
      refine ⟨?_, hw.nil⟩
      simp only [resV]
      congr 2
      first | exact flE_0 h1 | exact flE_1 h1 h2 | exact flE_2 h1 h2 hz h4 (by omega) | exact flE_3 h1 h2 hz (by omega)
    ·
      refine VC.skip (VE.seqN ?_)
      refine VC.seq ?_
      refine VC.seq ?_
      refine VC.reg (VO.l (LO.as (.r rfl)) rfl <| VO.nil ?_)
      refine VE.seqN ?_
      refine VC.block ?_
      refine VC.loopK (α := Nat) 0 (fun gx => [(3, .int .i64 (gx : Nat))]) [(0, _)] (fun gx => []) (fun gx => gx ≤ l.length ∧ ∀ k, k < gx → flowE (l.getD k zF) = 0) (fun gx => l.length - gx) 0 (by exact ⟨by omega, fun k hk => by omega⟩) (.cons rfl (.cons rfl .nil)) (fun _ h => h) ?_
      rintro j ⟨hj, hz⟩
      refine VC.seq ?_
      refine VC.seq ?_
      refine VC.reg (VO.l (LO.mv (.r rfl)) rfl <| VO.l (LO.mv (.r rfl)) rfl <| VO.l (LO.len S86 (.r rfl) rfl) rfl <| VO.l (LO.lt (.r rfl) (.r rfl)) rfl <| VO.nil ?_)
      refine VE.seqN ?_
      refine VC.cond rfl (fun h3 => ?_) (fun h3 => ?_)
      ·
        refine VC.skip (VE.seqN ?_)
        refine VC.seq ?_
        refine VC.block ?_
        refine VC.seq ?_
        refine VC.reg (VO.l (LO.mv (.r rfl)) rfl <| VO.l (LO.mv (.r rfl)) rfl <| VO.l (LO.ixs S86 N35 hl.some (.r rfl) (.r rfl) rfl (by omega)) rfl <| VO.l (LO.lda (vs := [_, _, _, _]) A35 (.r rfl) (hl.at (j := j) (by omega)) rfl) rfl <| VO.l (LO.call (xs := [_]) (vs := [_]) C35 ⟨(.r rfl), trivial⟩ (fun w _ => rCheckFlow_c (l.getD j zF) w)) rfl <| VO.l (LO.as (.r rfl)) rfl <| VO.nil ?_)
        refine VE.seqN ?_
        refine VC.seq ?_
        refine VC.reg (VO.l (LO.mv (.r rfl)) rfl <| VO.l (LO.ne (.r rfl) (.r rfl)) rfl <| VO.nil ?_)
        refine VE.seqN ?_
        refine VC.cond rfl (fun h4 => ?_) (fun h4 => ?_)
        ·
          refine VC.seq ?_
          refine VC.reg (VO.l (LO.mv (.r rfl)) rfl <| VO.l (LO.as (.r rfl)) rfl <| VO.nil ?_)
          refine VE.seqN ?_
          refine VC.ret (VE.inR (VE.thenR (VE.thenR (VE.inR (VE.thenR (VE.res (vs := [_]) rfl ⟨rfl, trivial⟩ (fun w hw => ?_)))))))
          refine ⟨?_, hw.nil⟩
          simp only [resV]
          congr 2
          first | exact flE_0 h1 | exact flE_1 h1 h2 | exact flE_2 h1 h2 hz h4 (by omega) | exact flE_3 h1 h2 hz (by omega)
        ·
          refine VC.skip (VE.inN (VE.seqN ?_))
          refine VC.reg (VO.l (LO.mv (.r rfl)) rfl <| VO.l (LO.add (.r rfl) (.r rfl) (wi (by omega) (by omega))) rfl <| VO.l (LO.as (.r rfl)) rfl <| VO.nil ?_)
          refine VE.thenN fun a w ha hw => ⟨j + 1, ⟨by omega, step_z hz (by simpa using h4)⟩, (by omega), ha.sub (.cons rfl (.cons rfl .nil)), hw⟩
      ·
        refine VC.exit (VE.thenX (VE.thenX (VE.inX (VE.seqN ?_))))
        refine VC.seq ?_
        refine VC.reg (VO.l (LO.as (.r rfl)) rfl <| VO.nil ?_)
        refine VE.seqN ?_
        refine VC.ret (VE.res (vs := [_]) rfl ⟨rfl, trivial⟩ (fun w hw => ?_))
        refine ⟨?_, hw.nil⟩
        simp only [resV]
        congr 2
        first | exact flE_0 h1 | exact flE_1 h1 h2 | exact flE_2 h1 h2 hz h4 (by omega) | exact flE_3 h1 h2 hz (by omega)

set_option maxRecDepth 20000 in
theorem common_c (w : World) :
  Calls Try.prog 71 #[] w fun e w' => e = .returned (.agg #[.func (.func 89) #[] #[], .func (.func 90) #[] #[]]) ∧ St (bs w) [] w' := by
  refine enter (vs := []) (env := []) Try.func71 rfl rfl rfl rfl ?_
  refine VC.seq ?_
  refine VC.reg (VO.h rfl <| HO.alloc (C := #[_, _]) Z141 rfl fun b1 => VO.nil ?_)
  refine VE.seqN ?_
  refine VC.seq ?_
  refine VC.reg (VO.l (LO.bd (ps := [(_, _), (_, _)]) (vs := [(_, _), (_, _)]) (C := [_, _]) B141 ⟨(.r rfl), (.r rfl), trivial⟩ rfl ⟨_, [_], [_, _], rfl, rfl, rfl, rfl, ⟨_, [_], [_, _], rfl, rfl, rfl, rfl, rfl⟩⟩) rfl <| VO.h0 <| HO.st 0 (vs := [_, _]) (C' := [_, _]) (L' := [_]) N141 rfl rfl rfl rfl rfl rfl rfl rfl <| VO.nil ?_)
  refine VE.seqN ?_
  refine VC.ret (VE.res (vs := [_]) rfl ⟨RV.agg (vs := [_, _]) A141 rfl (cells_blk 0 rfl ⟨_, rfl⟩) rfl, trivial⟩ (fun w hw => ?_))
  exact ⟨rfl, hw.nil⟩

set_option maxRecDepth 20000 in
theorem hull_c (w : World) :
  Calls Try.prog 75 #[] w fun e w' => e = .returned (.agg #[.func (.func 90) #[] #[], .func (.func 89) #[] #[]]) ∧ St (bs w) [] w' := by
  refine enter (vs := []) (env := []) Try.func75 rfl rfl rfl rfl ?_
  refine VC.seq ?_
  refine VC.reg (VO.h rfl <| HO.alloc (C := #[_, _]) Z141 rfl fun b1 => VO.nil ?_)
  refine VE.seqN ?_
  refine VC.seq ?_
  refine VC.reg (VO.l (LO.bd (ps := [(_, _), (_, _)]) (vs := [(_, _), (_, _)]) (C := [_, _]) B141 ⟨(.r rfl), (.r rfl), trivial⟩ rfl ⟨_, [_], [_, _], rfl, rfl, rfl, rfl, ⟨_, [_], [_, _], rfl, rfl, rfl, rfl, rfl⟩⟩) rfl <| VO.h0 <| HO.st 0 (vs := [_, _]) (C' := [_, _]) (L' := [_]) N141 rfl rfl rfl rfl rfl rfl rfl rfl <| VO.nil ?_)
  refine VE.seqN ?_
  refine VC.ret (VE.res (vs := [_]) rfl ⟨RV.agg (vs := [_, _]) A141 rfl (cells_blk 0 rfl ⟨_, rfl⟩) rfl, trivial⟩ (fun w hw => ?_))
  exact ⟨rfl, hw.nil⟩

set_option maxRecDepth 20000 in
theorem ofC_c (a b : Flow) (w : World) :
  Calls Try.prog 73 #[.agg #[.func (.func 89) #[] #[], .func (.func 90) #[] #[]], flowV a, flowV b] w fun e w' => e = .returned (flowV (meetF a b)) ∧ St (bs w) [] w' := by
  refine enter (vs := [_, _, _]) (env := [(0, _), (1, _), (2, _)]) Try.func73 rfl rfl rfl rfl ?_
  refine VC.seq ?_
  refine VC.reg (VO.h rfl <| HO.box (C := #[_, _]) rfl rfl fun b1 => VO.h rfl <| HO.box (C := #[_, _, _, _]) rfl rfl fun b2 => VO.h rfl <| HO.box (C := #[_, _, _, _]) rfl rfl fun b3 => VO.h rfl <| HO.alloc (C := #[_, _, _, _]) Z32 rfl fun b4 => VO.nil ?_)
  refine VE.seqN ?_
  refine VC.seq ?_
  refine VC.drawH [[0, 1, 2, 3], [1, 2, 3]] [some 0, some 0, some 0, some 0, some 0, some 0, some 0, some 0, some 0, some 0, some 0, some 0, some 0, some 0, some 0, some 0, some 0, some 0, some 0, some 0, some 0, some 0, some 0, some 0, some 0, some 0, some 0, some 0, some 0, some 0, some 0, some 0, some 0, some 0, some 0, some 0, some 0, some 0, some 0, none] mixed (by kernel_rfl) rfl (LX.l (fun _ hJ => LO.fa (r := 0) F141_0 (.r rfl) rfl) rfl <| LX.l (fun _ hJ => LO.ld O134 (.r rfl) (fun _ hw => cells_at (hJ _ hw) 3 rfl ⟨_, rfl⟩)) rfl <| LX.l (fun _ hJ => LO.fa (r := 0) F32_0 (.r rfl) rfl) rfl <| LX.l (fun _ hJ => LO.fa (r := 0) F30_0 (.r rfl) rfl) rfl <| LX.l (fun _ hJ => LO.ld O3 (.r rfl) (fun _ hw => cells_at (hJ _ hw) 2 rfl ⟨_, rfl⟩)) rfl <| LX.l (fun _ hJ => LO.fa (r := 0) F32_0 (.r rfl) rfl) rfl <| LX.l (fun _ hJ => LO.fa (r := 0) F30_0 (.r rfl) rfl) rfl <| LX.l (fun _ hJ => LO.ld O3 (.r rfl) (fun _ hw => cells_at (hJ _ hw) 1 rfl ⟨_, rfl⟩)) rfl <| LX.l (fun _ hJ => LO.callv (first := []) (cap := []) (xs := [_, _]) (vs := [_, _]) (.r rfl) C89 ⟨(.r rfl), (.r rfl), trivial⟩ (fun w _ => greater_c _ _ w)) rfl <| LX.l (fun _ hJ => LO.fa (r := 1) F141_1 (.r rfl) rfl) rfl <| LX.l (fun _ hJ => LO.ld O134 (.r rfl) (fun _ hw => cells_at (hJ _ hw) 3 rfl ⟨_, rfl⟩)) rfl <| LX.l (fun _ hJ => LO.fa (r := 0) F32_0 (.r rfl) rfl) rfl <| LX.l (fun _ hJ => LO.fa (r := 1) F30_1 (.r rfl) rfl) rfl <| LX.l (fun _ hJ => LO.ld O3 (.r rfl) (fun _ hw => cells_at (hJ _ hw) 2 rfl ⟨_, rfl⟩)) rfl <| LX.l (fun _ hJ => LO.fa (r := 0) F32_0 (.r rfl) rfl) rfl <| LX.l (fun _ hJ => LO.fa (r := 1) F30_1 (.r rfl) rfl) rfl <| LX.l (fun _ hJ => LO.ld O3 (.r rfl) (fun _ hw => cells_at (hJ _ hw) 1 rfl ⟨_, rfl⟩)) rfl <| LX.l (fun _ hJ => LO.callv (first := []) (cap := []) (xs := [_, _]) (vs := [_, _]) (.r rfl) C90 ⟨(.r rfl), (.r rfl), trivial⟩ (fun w _ => lesser_c _ _ w)) rfl <| LX.l (fun _ hJ => LO.bd (ps := [(_, _), (_, _)]) (vs := [(_, _), (_, _)]) (C := [_, _]) B30 ⟨(.r rfl), (.r rfl), trivial⟩ rfl ⟨_, [_], [_, _], rfl, rfl, rfl, rfl, ⟨_, [_], [_, _], rfl, rfl, rfl, rfl, rfl⟩⟩) rfl <| LX.l (fun _ hJ => LO.fa (r := 0) F141_0 (.r rfl) rfl) rfl <| LX.l (fun _ hJ => LO.ld O134 (.r rfl) (fun _ hw => cells_at (hJ _ hw) 3 rfl ⟨_, rfl⟩)) rfl <| LX.l (fun _ hJ => LO.fa (r := 2) F32_1 (.r rfl) rfl) rfl <| LX.l (fun _ hJ => LO.fa (r := 2) F30_0 (.r rfl) rfl) rfl <| LX.l (fun _ hJ => LO.ld O3 (.r rfl) (fun _ hw => cells_at (hJ _ hw) 2 rfl ⟨_, rfl⟩)) rfl <| LX.l (fun _ hJ => LO.fa (r := 2) F32_1 (.r rfl) rfl) rfl <| LX.l (fun _ hJ => LO.fa (r := 2) F30_0 (.r rfl) rfl) rfl <| LX.l (fun _ hJ => LO.ld O3 (.r rfl) (fun _ hw => cells_at (hJ _ hw) 1 rfl ⟨_, rfl⟩)) rfl <| LX.l (fun _ hJ => LO.callv (first := []) (cap := []) (xs := [_, _]) (vs := [_, _]) (.r rfl) C89 ⟨(.r rfl), (.r rfl), trivial⟩ (fun w _ => greater_c _ _ w)) rfl <| LX.l (fun _ hJ => LO.fa (r := 1) F141_1 (.r rfl) rfl) rfl <| LX.l (fun _ hJ => LO.ld O134 (.r rfl) (fun _ hw => cells_at (hJ _ hw) 3 rfl ⟨_, rfl⟩)) rfl <| LX.l (fun _ hJ => LO.fa (r := 2) F32_1 (.r rfl) rfl) rfl <| LX.l (fun _ hJ => LO.fa (r := 3) F30_1 (.r rfl) rfl) rfl <| LX.l (fun _ hJ => LO.ld O3 (.r rfl) (fun _ hw => cells_at (hJ _ hw) 2 rfl ⟨_, rfl⟩)) rfl <| LX.l (fun _ hJ => LO.fa (r := 2) F32_1 (.r rfl) rfl) rfl <| LX.l (fun _ hJ => LO.fa (r := 3) F30_1 (.r rfl) rfl) rfl <| LX.l (fun _ hJ => LO.ld O3 (.r rfl) (fun _ hw => cells_at (hJ _ hw) 1 rfl ⟨_, rfl⟩)) rfl <| LX.l (fun _ hJ => LO.callv (first := []) (cap := []) (xs := [_, _]) (vs := [_, _]) (.r rfl) C90 ⟨(.r rfl), (.r rfl), trivial⟩ (fun w _ => lesser_c _ _ w)) rfl <| LX.l (fun _ hJ => LO.bd (ps := [(_, _), (_, _)]) (vs := [(_, _), (_, _)]) (C := [_, _]) B30 ⟨(.r rfl), (.r rfl), trivial⟩ rfl ⟨_, [_], [_, _], rfl, rfl, rfl, rfl, ⟨_, [_], [_, _], rfl, rfl, rfl, rfl, rfl⟩⟩) rfl <| LX.l (fun _ hJ => LO.bd (ps := [(_, _), (_, _)]) (vs := [(_, _), (_, _)]) (C := [_, _, _, _]) B32 ⟨(.r rfl), (.r rfl), trivial⟩ rfl ⟨_, [_, _], [_, _, _, _], rfl, rfl, rfl, rfl, ⟨_, [_, _], [_, _, _, _], rfl, rfl, rfl, rfl, rfl⟩⟩) rfl <| LX.s <| LX.nil) (HX.s <| HX.s <| HX.s <| HX.s <| HX.s <| HX.s <| HX.s <| HX.s <| HX.s <| HX.s <| HX.s <| HX.s <| HX.s <| HX.s <| HX.s <| HX.s <| HX.s <| HX.s <| HX.s <| HX.s <| HX.s <| HX.s <| HX.s <| HX.s <| HX.s <| HX.s <| HX.s <| HX.s <| HX.s <| HX.s <| HX.s <| HX.s <| HX.s <| HX.s <| HX.s <| HX.s <| HX.s <| HX.s <| HX.s <| HX.h0 <| HO.st 0 (vs := [_, _, _, _]) (C' := [_, _, _, _]) (L' := [_, _, _, _]) N32 rfl rfl rfl rfl rfl rfl rfl rfl <| ⟨fun _ hw => hw.sel [1, 2, 3] rfl, HX.nil ?_⟩)
  refine VE.seqN ?_
  refine VC.ret (VE.res (vs := [_]) rfl ⟨RV.agg (vs := [_, _, _, _]) A32 rfl (cells_blk 0 rfl ⟨_, rfl⟩) rfl, trivial⟩ (fun w hw => ?_))
  exact ⟨rfl, hw.nil⟩

set_option maxRecDepth 20000 in
theorem ofH_c (a b : Flow) (w : World) :
  Calls Try.prog 73 #[.agg #[.func (.func 90) #[] #[], .func (.func 89) #[] #[]], flowV a, flowV b] w fun e w' => e = .returned (flowV (hullF a b)) ∧ St (bs w) [] w' := by
  refine enter (vs := [_, _, _]) (env := [(0, _), (1, _), (2, _)]) Try.func73 rfl rfl rfl rfl ?_
  refine VC.seq ?_
  refine VC.reg (VO.h rfl <| HO.box (C := #[_, _]) rfl rfl fun b1 => VO.h rfl <| HO.box (C := #[_, _, _, _]) rfl rfl fun b2 => VO.h rfl <| HO.box (C := #[_, _, _, _]) rfl rfl fun b3 => VO.h rfl <| HO.alloc (C := #[_, _, _, _]) Z32 rfl fun b4 => VO.nil ?_)
  refine VE.seqN ?_
  refine VC.seq ?_
  refine VC.drawH [[0, 1, 2, 3], [1, 2, 3]] [some 0, some 0, some 0, some 0, some 0, some 0, some 0, some 0, some 0, some 0, some 0, some 0, some 0, some 0, some 0, some 0, some 0, some 0, some 0, some 0, some 0, some 0, some 0, some 0, some 0, some 0, some 0, some 0, some 0, some 0, some 0, some 0, some 0, some 0, some 0, some 0, some 0, some 0, some 0, none] mixed (by kernel_rfl) rfl (LX.l (fun _ hJ => LO.fa (r := 0) F141_0 (.r rfl) rfl) rfl <| LX.l (fun _ hJ => LO.ld O134 (.r rfl) (fun _ hw => cells_at (hJ _ hw) 3 rfl ⟨_, rfl⟩)) rfl <| LX.l (fun _ hJ => LO.fa (r := 0) F32_0 (.r rfl) rfl) rfl <| LX.l (fun _ hJ => LO.fa (r := 0) F30_0 (.r rfl) rfl) rfl <| LX.l (fun _ hJ => LO.ld O3 (.r rfl) (fun _ hw => cells_at (hJ _ hw) 2 rfl ⟨_, rfl⟩)) rfl <| LX.l (fun _ hJ => LO.fa (r := 0) F32_0 (.r rfl) rfl) rfl <| LX.l (fun _ hJ => LO.fa (r := 0) F30_0 (.r rfl) rfl) rfl <| LX.l (fun _ hJ => LO.ld O3 (.r rfl) (fun _ hw => cells_at (hJ _ hw) 1 rfl ⟨_, rfl⟩)) rfl <| LX.l (fun _ hJ => LO.callv (first := []) (cap := []) (xs := [_, _]) (vs := [_, _]) (.r rfl) C90 ⟨(.r rfl), (.r rfl), trivial⟩ (fun w _ => lesser_c _ _ w)) rfl <| LX.l (fun _ hJ => LO.fa (r := 1) F141_1 (.r rfl) rfl) rfl <| LX.l (fun _ hJ => LO.ld O134 (.r rfl) (fun _ hw => cells_at (hJ _ hw) 3 rfl ⟨_, rfl⟩)) rfl <| LX.l (fun _ hJ => LO.fa (r := 0) F32_0 (.r rfl) rfl) rfl <| LX.l (fun _ hJ => LO.fa (r := 1) F30_1 (.r rfl) rfl) rfl <| LX.l (fun _ hJ => LO.ld O3 (.r rfl) (fun _ hw => cells_at (hJ _ hw) 2 rfl ⟨_, rfl⟩)) rfl <| LX.l (fun _ hJ => LO.fa (r := 0) F32_0 (.r rfl) rfl) rfl <| LX.l (fun _ hJ => LO.fa (r := 1) F30_1 (.r rfl) rfl) rfl <| LX.l (fun _ hJ => LO.ld O3 (.r rfl) (fun _ hw => cells_at (hJ _ hw) 1 rfl ⟨_, rfl⟩)) rfl <| LX.l (fun _ hJ => LO.callv (first := []) (cap := []) (xs := [_, _]) (vs := [_, _]) (.r rfl) C89 ⟨(.r rfl), (.r rfl), trivial⟩ (fun w _ => greater_c _ _ w)) rfl <| LX.l (fun _ hJ => LO.bd (ps := [(_, _), (_, _)]) (vs := [(_, _), (_, _)]) (C := [_, _]) B30 ⟨(.r rfl), (.r rfl), trivial⟩ rfl ⟨_, [_], [_, _], rfl, rfl, rfl, rfl, ⟨_, [_], [_, _], rfl, rfl, rfl, rfl, rfl⟩⟩) rfl <| LX.l (fun _ hJ => LO.fa (r := 0) F141_0 (.r rfl) rfl) rfl <| LX.l (fun _ hJ => LO.ld O134 (.r rfl) (fun _ hw => cells_at (hJ _ hw) 3 rfl ⟨_, rfl⟩)) rfl <| LX.l (fun _ hJ => LO.fa (r := 2) F32_1 (.r rfl) rfl) rfl <| LX.l (fun _ hJ => LO.fa (r := 2) F30_0 (.r rfl) rfl) rfl <| LX.l (fun _ hJ => LO.ld O3 (.r rfl) (fun _ hw => cells_at (hJ _ hw) 2 rfl ⟨_, rfl⟩)) rfl <| LX.l (fun _ hJ => LO.fa (r := 2) F32_1 (.r rfl) rfl) rfl <| LX.l (fun _ hJ => LO.fa (r := 2) F30_0 (.r rfl) rfl) rfl <| LX.l (fun _ hJ => LO.ld O3 (.r rfl) (fun _ hw => cells_at (hJ _ hw) 1 rfl ⟨_, rfl⟩)) rfl <| LX.l (fun _ hJ => LO.callv (first := []) (cap := []) (xs := [_, _]) (vs := [_, _]) (.r rfl) C90 ⟨(.r rfl), (.r rfl), trivial⟩ (fun w _ => lesser_c _ _ w)) rfl <| LX.l (fun _ hJ => LO.fa (r := 1) F141_1 (.r rfl) rfl) rfl <| LX.l (fun _ hJ => LO.ld O134 (.r rfl) (fun _ hw => cells_at (hJ _ hw) 3 rfl ⟨_, rfl⟩)) rfl <| LX.l (fun _ hJ => LO.fa (r := 2) F32_1 (.r rfl) rfl) rfl <| LX.l (fun _ hJ => LO.fa (r := 3) F30_1 (.r rfl) rfl) rfl <| LX.l (fun _ hJ => LO.ld O3 (.r rfl) (fun _ hw => cells_at (hJ _ hw) 2 rfl ⟨_, rfl⟩)) rfl <| LX.l (fun _ hJ => LO.fa (r := 2) F32_1 (.r rfl) rfl) rfl <| LX.l (fun _ hJ => LO.fa (r := 3) F30_1 (.r rfl) rfl) rfl <| LX.l (fun _ hJ => LO.ld O3 (.r rfl) (fun _ hw => cells_at (hJ _ hw) 1 rfl ⟨_, rfl⟩)) rfl <| LX.l (fun _ hJ => LO.callv (first := []) (cap := []) (xs := [_, _]) (vs := [_, _]) (.r rfl) C89 ⟨(.r rfl), (.r rfl), trivial⟩ (fun w _ => greater_c _ _ w)) rfl <| LX.l (fun _ hJ => LO.bd (ps := [(_, _), (_, _)]) (vs := [(_, _), (_, _)]) (C := [_, _]) B30 ⟨(.r rfl), (.r rfl), trivial⟩ rfl ⟨_, [_], [_, _], rfl, rfl, rfl, rfl, ⟨_, [_], [_, _], rfl, rfl, rfl, rfl, rfl⟩⟩) rfl <| LX.l (fun _ hJ => LO.bd (ps := [(_, _), (_, _)]) (vs := [(_, _), (_, _)]) (C := [_, _, _, _]) B32 ⟨(.r rfl), (.r rfl), trivial⟩ rfl ⟨_, [_, _], [_, _, _, _], rfl, rfl, rfl, rfl, ⟨_, [_, _], [_, _, _, _], rfl, rfl, rfl, rfl, rfl⟩⟩) rfl <| LX.s <| LX.nil) (HX.s <| HX.s <| HX.s <| HX.s <| HX.s <| HX.s <| HX.s <| HX.s <| HX.s <| HX.s <| HX.s <| HX.s <| HX.s <| HX.s <| HX.s <| HX.s <| HX.s <| HX.s <| HX.s <| HX.s <| HX.s <| HX.s <| HX.s <| HX.s <| HX.s <| HX.s <| HX.s <| HX.s <| HX.s <| HX.s <| HX.s <| HX.s <| HX.s <| HX.s <| HX.s <| HX.s <| HX.s <| HX.s <| HX.s <| HX.h0 <| HO.st 0 (vs := [_, _, _, _]) (C' := [_, _, _, _]) (L' := [_, _, _, _]) N32 rfl rfl rfl rfl rfl rfl rfl rfl <| ⟨fun _ hw => hw.sel [1, 2, 3] rfl, HX.nil ?_⟩)
  refine VE.seqN ?_
  refine VC.ret (VE.res (vs := [_]) rfl ⟨RV.agg (vs := [_, _, _, _]) A32 rfl (cells_blk 0 rfl ⟨_, rfl⟩) rfl, trivial⟩ (fun w hw => ?_))
  exact ⟨rfl, hw.nil⟩

set_option maxRecDepth 20000 in
theorem allC_c (p : Option Addr) (l : List Flow) (c : Nat) (w : World) (hl : Flows w p l) (hn : 0 < l.length) (hb : l.length ≤ 64) (hc : l.length ≤ c) :
  Calls Try.prog 72 #[.agg #[.func (.func 89) #[] #[], .func (.func 90) #[] #[]], .slice p l.length c] w fun e w' => e = .returned (flowV (allF meetF l)) ∧ St (bs w) [] w' := by
  have hr := flows_drop (k := 1) hl (by omega) hc
  have hr1 : SlSome (slFrom p c 1 4) (l.length - 1) := by have := hr.some; rwa [List.length_drop] at this
  refine enter (vs := [_, _]) (env := [(0, _), (1, _)]) Try.func72 rfl rfl rfl rfl ?_
  refine VC.seq ?_
  refine VC.reg (VO.h rfl <| HO.box (C := #[_, _]) rfl rfl fun b1 => VO.h rfl <| HO.alloc (C := #[_, _, _, _]) Z32 rfl fun b2 => VO.nil ?_)
  refine VE.seqN ?_
  refine VC.seq ?_
  refine VC.reg (VO.l (LO.mv (.r rfl)) rfl <| VO.l (LO.ixs S80 N32 hl.some (.r rfl) (.r rfl) (j := 0) rfl (by omega)) rfl <| VO.l (LO.lda (vs := [_, _, _, _]) A32 (.r rfl) (hl.at (j := 0) (by omega)) rfl) rfl <| VO.h rfl <| HO.alloc (C := #[_, _, _, _]) Z32 rfl fun b3 => VO.h0 <| HO.st 0 (vs := [_, _, _, _]) (C' := [_, _, _, _]) (L' := [_, _, _]) N32 rfl rfl rfl rfl rfl rfl rfl rfl <| VO.nil ?_)
  refine VE.seqN ?_
  refine VC.seq ?_
  refine VC.seq ?_
  refine VC.reg (VO.l (LO.mv (.r rfl)) rfl <| VO.l (LO.sl (l := 1) S80 N32 (.r rfl) (.r rfl) rfl (by omega)) rfl <| VO.l (LO.len S80 (.r rfl) rfl) rfl <| VO.l (LO.mv (.r rfl)) rfl <| VO.nil ?_)
  refine VE.seqN ?_
  refine VC.block ?_
  refine VC.loopK (α := Nat) 1 (fun gx => [(14, .int .i64 (gx : Nat))]) [(2, _), (4, _), (5, _), (12, _), (13, _)] (fun gx => [blk b3 (.cells #[.int .i64 (foldF meetF l gx).a, .int .i64 (foldF meetF l gx).b, .int .i64 (foldF meetF l gx).c, .int .i64 (foldF meetF l gx).d] 32)]) (fun gx => gx ≤ l.length - 1) (fun gx => l.length - 1 - gx) 0 (by exact Nat.zero_le _) (.cons rfl (.cons rfl (.cons rfl (.cons rfl (.cons rfl (.cons rfl .nil)))))) (fun _ h => h) ?_
  rintro j hj
  refine VC.seq ?_
  refine VC.reg (VO.l (LO.lt (.r rfl) (.r rfl)) rfl <| VO.nil ?_)
  refine VE.seqN ?_
  refine VC.seq ?_
  refine VC.cond rfl (fun h1 => ?_) (fun h1 => ?_)
  ·
    have hj1 : j < (l.drop 1).length := by simp; omega
    refine VC.skip (VE.seqN ?_)
    refine VC.seq ?_
    refine VC.block ?_
    refine VC.seq ?_
    refine VC.reg (VO.l (LO.ixs S80 N32 hr1 (.r rfl) (.r rfl) rfl (by omega)) rfl <| VO.l (LO.lda (vs := [_, _, _, _]) A32 (.r rfl) (hr.at (j := j) (by simp; omega)) rfl) rfl <| VO.h rfl <| HO.alloc (C := #[_, _, _, _]) Z32 rfl fun b5 => VO.h0 <| HO.st 0 (vs := [_, _, _, _]) (C' := [_, _, _, _]) (L' := [_, _, _, _]) N32 rfl rfl rfl rfl rfl rfl rfl rfl <| VO.nil ?_)
    refine VE.seqN ?_
    refine VC.reg (VO.l (LO.lda (vs := [_, _]) A141 (.r rfl) (fun _ hw => cells_at hw 3 rfl ⟨_, rfl⟩) rfl) rfl <| VO.l (LO.lda (vs := [_, _, _, _]) A32 (.r rfl) (fun _ hw => cells_at hw 1 rfl ⟨_, rfl⟩) rfl) rfl <| VO.l (LO.lda (vs := [_, _, _, _]) A32 (.r rfl) (fun _ hw => cells_at hw 0 rfl ⟨_, rfl⟩) rfl) rfl <| VO.l (LO.call (xs := [_, _, _]) (vs := [_, _, _]) C73 ⟨(.r rfl), (.r rfl), (.r rfl), trivial⟩ (fun w _ => ofC_c (foldF meetF l j) ((l.drop 1).getD j zF) w)) rfl <| VO.h0 <| HO.st 1 (vs := [_, _, _, _]) (C' := [_, _, _, _]) (L' := [_, _, _, _]) N32 rfl rfl rfl rfl rfl rfl rfl rfl <| VO.nil ?_)
    refine VE.inN (VE.seqN ?_)
    refine VC.reg (VO.l (LO.add (.r rfl) (.r rfl) (wi (by omega) (by omega))) rfl <| VO.l (LO.mv (.r rfl)) rfl <| VO.nil ?_)
    refine VE.thenN fun a w ha hw => ⟨j + 1, (by omega), (by omega), ha.sub (.cons rfl (.cons rfl (.cons rfl (.cons rfl (.cons rfl (.cons rfl .nil)))))), (by rw [fold_step hj1]; exact hw.sel [1, 2, 3] rfl)⟩
  ·
    refine VC.exit (VE.thenX (VE.thenX (VE.inX (VE.seqN ?_))))
    refine VC.seq ?_
    refine VC.reg (VO.l (LO.lda (vs := [_, _, _, _]) A32 (.r rfl) (fun _ hw => cells_at hw 0 rfl ⟨_, rfl⟩) rfl) rfl <| VO.h0 <| HO.st 1 (vs := [_, _, _, _]) (C' := [_, _, _, _]) (L' := [_, _, _]) N32 rfl rfl rfl rfl rfl rfl rfl rfl <| VO.nil ?_)
    refine VE.seqN ?_
    refine VC.ret (VE.res (vs := [_]) rfl ⟨RV.agg (vs := [_, _, _, _]) A32 rfl (cells_blk 1 rfl ⟨_, rfl⟩) rfl, trivial⟩ (fun w hw => ?_))
    exact ⟨by rw [fold_end (by omega)]; rfl, hw.nil⟩

set_option maxRecDepth 20000 in
theorem allH_c (p : Option Addr) (l : List Flow) (c : Nat) (w : World) (hl : Flows w p l) (hn : 0 < l.length) (hb : l.length ≤ 64) (hc : l.length ≤ c) :
  Calls Try.prog 72 #[.agg #[.func (.func 90) #[] #[], .func (.func 89) #[] #[]], .slice p l.length c] w fun e w' => e = .returned (flowV (allF hullF l)) ∧ St (bs w) [] w' := by
  have hr := flows_drop (k := 1) hl (by omega) hc
  have hr1 : SlSome (slFrom p c 1 4) (l.length - 1) := by have := hr.some; rwa [List.length_drop] at this
  refine enter (vs := [_, _]) (env := [(0, _), (1, _)]) Try.func72 rfl rfl rfl rfl ?_
  refine VC.seq ?_
  refine VC.reg (VO.h rfl <| HO.box (C := #[_, _]) rfl rfl fun b1 => VO.h rfl <| HO.alloc (C := #[_, _, _, _]) Z32 rfl fun b2 => VO.nil ?_)
  refine VE.seqN ?_
  refine VC.seq ?_
  refine VC.reg (VO.l (LO.mv (.r rfl)) rfl <| VO.l (LO.ixs S80 N32 hl.some (.r rfl) (.r rfl) (j := 0) rfl (by omega)) rfl <| VO.l (LO.lda (vs := [_, _, _, _]) A32 (.r rfl) (hl.at (j := 0) (by omega)) rfl) rfl <| VO.h rfl <| HO.alloc (C := #[_, _, _, _]) Z32 rfl fun b3 => VO.h0 <| HO.st 0 (vs := [_, _, _, _]) (C' := [_, _, _, _]) (L' := [_, _, _]) N32 rfl rfl rfl rfl rfl rfl rfl rfl <| VO.nil ?_)
  refine VE.seqN ?_
  refine VC.seq ?_
  refine VC.seq ?_
  refine VC.reg (VO.l (LO.mv (.r rfl)) rfl <| VO.l (LO.sl (l := 1) S80 N32 (.r rfl) (.r rfl) rfl (by omega)) rfl <| VO.l (LO.len S80 (.r rfl) rfl) rfl <| VO.l (LO.mv (.r rfl)) rfl <| VO.nil ?_)
  refine VE.seqN ?_
  refine VC.block ?_
  refine VC.loopK (α := Nat) 1 (fun gx => [(14, .int .i64 (gx : Nat))]) [(2, _), (4, _), (5, _), (12, _), (13, _)] (fun gx => [blk b3 (.cells #[.int .i64 (foldF hullF l gx).a, .int .i64 (foldF hullF l gx).b, .int .i64 (foldF hullF l gx).c, .int .i64 (foldF hullF l gx).d] 32)]) (fun gx => gx ≤ l.length - 1) (fun gx => l.length - 1 - gx) 0 (by exact Nat.zero_le _) (.cons rfl (.cons rfl (.cons rfl (.cons rfl (.cons rfl (.cons rfl .nil)))))) (fun _ h => h) ?_
  rintro j hj
  refine VC.seq ?_
  refine VC.reg (VO.l (LO.lt (.r rfl) (.r rfl)) rfl <| VO.nil ?_)
  refine VE.seqN ?_
  refine VC.seq ?_
  refine VC.cond rfl (fun h1 => ?_) (fun h1 => ?_)
  ·
    have hj1 : j < (l.drop 1).length := by simp; omega
    refine VC.skip (VE.seqN ?_)
    refine VC.seq ?_
    refine VC.block ?_
    refine VC.seq ?_
    refine VC.reg (VO.l (LO.ixs S80 N32 hr1 (.r rfl) (.r rfl) rfl (by omega)) rfl <| VO.l (LO.lda (vs := [_, _, _, _]) A32 (.r rfl) (hr.at (j := j) (by simp; omega)) rfl) rfl <| VO.h rfl <| HO.alloc (C := #[_, _, _, _]) Z32 rfl fun b5 => VO.h0 <| HO.st 0 (vs := [_, _, _, _]) (C' := [_, _, _, _]) (L' := [_, _, _, _]) N32 rfl rfl rfl rfl rfl rfl rfl rfl <| VO.nil ?_)
    refine VE.seqN ?_
    refine VC.reg (VO.l (LO.lda (vs := [_, _]) A141 (.r rfl) (fun _ hw => cells_at hw 3 rfl ⟨_, rfl⟩) rfl) rfl <| VO.l (LO.lda (vs := [_, _, _, _]) A32 (.r rfl) (fun _ hw => cells_at hw 1 rfl ⟨_, rfl⟩) rfl) rfl <| VO.l (LO.lda (vs := [_, _, _, _]) A32 (.r rfl) (fun _ hw => cells_at hw 0 rfl ⟨_, rfl⟩) rfl) rfl <| VO.l (LO.call (xs := [_, _, _]) (vs := [_, _, _]) C73 ⟨(.r rfl), (.r rfl), (.r rfl), trivial⟩ (fun w _ => ofH_c (foldF hullF l j) ((l.drop 1).getD j zF) w)) rfl <| VO.h0 <| HO.st 1 (vs := [_, _, _, _]) (C' := [_, _, _, _]) (L' := [_, _, _, _]) N32 rfl rfl rfl rfl rfl rfl rfl rfl <| VO.nil ?_)
    refine VE.inN (VE.seqN ?_)
    refine VC.reg (VO.l (LO.add (.r rfl) (.r rfl) (wi (by omega) (by omega))) rfl <| VO.l (LO.mv (.r rfl)) rfl <| VO.nil ?_)
    refine VE.thenN fun a w ha hw => ⟨j + 1, (by omega), (by omega), ha.sub (.cons rfl (.cons rfl (.cons rfl (.cons rfl (.cons rfl (.cons rfl .nil)))))), (by rw [fold_step hj1]; exact hw.sel [1, 2, 3] rfl)⟩
  ·
    refine VC.exit (VE.thenX (VE.thenX (VE.inX (VE.seqN ?_))))
    refine VC.seq ?_
    refine VC.reg (VO.l (LO.lda (vs := [_, _, _, _]) A32 (.r rfl) (fun _ hw => cells_at hw 0 rfl ⟨_, rfl⟩) rfl) rfl <| VO.h0 <| HO.st 1 (vs := [_, _, _, _]) (C' := [_, _, _, _]) (L' := [_, _, _]) N32 rfl rfl rfl rfl rfl rfl rfl rfl <| VO.nil ?_)
    refine VE.seqN ?_
    refine VC.ret (VE.res (vs := [_]) rfl ⟨RV.agg (vs := [_, _, _, _]) A32 rfl (cells_blk 1 rfl ⟨_, rfl⟩) rfl, trivial⟩ (fun w hw => ?_))
    exact ⟨by rw [fold_end (by omega)]; rfl, hw.nil⟩

end Go.Proofs.Ytdcjeoamhjplmaa
