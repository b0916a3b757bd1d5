/-
  slices.Concat of slices of ints.
-/
import Derived.Test.YtdcjeoamhjplmaaWC
import Derived.Test.YtdcjeoamhjplmaaHC
import Derived.Test.YtdcjeoamhjplmaaSZ
import Derived.Test.YtdcjeoamhjplmaaSU
namespace Go.Proofs.Ytdcjeoamhjplmaa
open Go.SL Go.Proofs Go.Cast
set_option linter.unusedVariables false

theorem S104 : IsSlice Try.prog 104 28 := Try.underlying104
theorem N28 : (Try.prog.info? 28).map (·.size) = some 1 := by kernel_rfl
theorem C94 : IsFn Try.prog 94 := ⟨_, Try.func94, by decide, rfl⟩


abbrev IRow := RowA Int
abbrev IRows (w : World) (p : Option Addr) (rs : List IRow) : Prop := RR 1 intC w p rs
def zI : IRow := RowA.z
def lsI (rs : List IRow) : List (List Int) := rs.map (·.l)
def catI (rs : List IRow) : List Int := (rs.map (·.l)).flatten
section
variable {rs : List IRow}
theorem irow_at {w : World} {p : Option Addr} (h : IRows w p rs) {i : Nat} (hi : i < rs.length) : (rs.getD i zI).l.length ≤ (rs.getD i zI).c ∧ Ints w (rs.getD i zI).p (rs.getD i zI).l := h.2 _ (List.mem_of_getElem? (show rs[i]? = some (rs.getD i zI) by rw [List.getD_eq_getElem?_getD, List.getElem?_eq_getElem hi]; rfl))
theorem irow_mem {i : Nat} (hi : i < rs.length) : rs.getD i zI ∈ rs := List.mem_of_getElem? (show rs[i]? = some (rs.getD i zI) by rw [List.getD_eq_getElem?_getD, List.getElem?_eq_getElem hi]; rfl)
theorem catI_step {i : Nat} (hi : i < rs.length) : catI (rs.take (i + 1)) = catI (rs.take i) ++ (rs.getD i zI).l := by
  unfold catI
  rw [List.take_add_one, List.getElem?_eq_getElem hi, List.getD_eq_getElem?_getD, List.getElem?_eq_getElem hi]
  simp only [Option.toList_some, List.map_append, List.flatten_append, List.map_cons, List.map_nil, List.flatten_cons, List.flatten_nil, List.append_nil, Option.getD_some]
theorem catI_len (hb : ∀ x ∈ rs, x.l.length ≤ 50) : (catI rs).length ≤ 50 * rs.length := by
  unfold catI
  induction rs with
  | nil => simp
  | cons x rs ih =>
    have h1 := hb x (by simp)
    have h2 := ih (fun y hy => hb y (by simp [hy]))
    simp only [List.map_cons, List.flatten_cons, List.length_append, List.length_cons] at h2 ⊢
    omega
end

set_option maxRecDepth 20000 in
theorem Concat_c (rs : List IRow) (p : Option Addr) (c : Nat) (w : World) (hn : rs.length ≤ 50) (hb : ∀ x ∈ rs, x.l.length ≤ 50) (hl : IRows w p rs) :
  Calls Try.prog 80 #[.slice p rs.length c] w fun e w' => ∃ x : Option Addr × Nat, True ∧ e = .returned (.slice x.1 (catI rs).length x.2) ∧ St (bs w) [own 3 1 x.1 x.2 ((catI rs).map intC)] w' := by
  refine enter (vs := [_]) (env := [(0, _)]) Try.func80 rfl rfl rfl rfl ?_
  refine VC.seq ?_
  refine VC.reg (VO.l (LO.as (.r rfl)) rfl <| VO.nil ?_)
  refine VE.seqN ?_
  refine VC.seq ?_
  refine VC.reg (VO.l (LO.as (.r rfl)) rfl <| VO.nil ?_)
  refine VE.seqN ?_
  refine VC.seq ?_
  refine VC.seq ?_
  refine VC.reg (VO.l (LO.mv (.r rfl)) rfl <| VO.l (LO.len S104 (.r rfl) rfl) rfl <| VO.l (LO.mv (.r rfl)) rfl <| VO.nil ?_)
  refine VE.seqN ?_
  refine VC.block ?_
  refine VC.loopK (α := Nat × Nat) 0 (fun gx => [(3, .int .i64 (gx.2 : Nat)), (11, .int .i64 (gx.1 : Nat))]) [(0, _), (9, _), (10, _)] (fun gx => []) (fun gx => gx.1 ≤ rs.length ∧ gx.2 ≤ 50 * gx.1) (fun gx => rs.length - gx.1) (0, 0) (by exact ⟨Nat.zero_le _, Nat.zero_le _⟩) (.cons rfl (.cons rfl (.cons rfl (.cons rfl (.cons rfl .nil))))) (fun _ h => h) ?_
  rintro ⟨i, n⟩ ⟨hi, hN⟩
  show VC _ _ _ _ _ ([(3, .int .i64 (n : Nat)), (11, .int .i64 (i : Nat))] ++ _) ([] ++ _) _ _
  dsimp only at hi hN
  refine VC.seq ?_
  refine VC.reg (VO.l (LO.lt (.r rfl) (.r rfl)) rfl <| VO.nil ?_)
  refine VE.seqN ?_
  refine VC.seq ?_
  refine VC.cond rfl (fun h1 => ?_) (fun h1 => ?_)
  ·
    refine VC.skip (VE.seqN ?_)
    refine VC.seq ?_
    refine VC.block ?_
    refine VC.seq ?_
    have hrow := irow_at hl (i := i) (by omega)
    have hrl := hb _ (irow_mem (i := i) (by omega))
    refine VC.reg (VO.l (LO.ixs S104 N28 hl.1.sm (.r rfl) (.r rfl) rfl (by omega)) rfl <| VO.l (LO.ld O28 (.r rfl) (fun w hw => cells_part (off := 0) ((hl.1.at zI (j := i) (by omega)) w hw) ⟨_, rfl⟩)) rfl <| VO.l (LO.as (.r rfl)) rfl <| VO.nil ?_)
    refine VE.seqN ?_
    refine VC.seq ?_
    refine VC.reg (VO.l (LO.mv (.r rfl)) rfl <| VO.l (LO.mv (.r rfl)) rfl <| VO.l (LO.len S28 (.r rfl) rfl) rfl <| VO.l (LO.add (.r rfl) (.r rfl) (wi (by omega) (by omega))) rfl <| VO.l (LO.as (.r rfl)) rfl <| VO.nil ?_)
    refine VE.seqN ?_
    refine VC.seq ?_
    refine VC.reg (VO.l (LO.mv (.r rfl)) rfl <| VO.l (LO.lt (.r rfl) (.r rfl)) rfl <| VO.nil ?_)
    refine VE.seqN ?_
    refine VC.cond rfl (fun h20 => ?_) (fun h20 => ?_)
    ·
      (exfalso; (omega))
    ·
      refine VC.skip (VE.inN (VE.seqN ?_))
      refine VC.reg (VO.l (LO.add (.r rfl) (.r rfl) (wi (by omega) (by omega))) rfl <| VO.l (LO.mv (.r rfl)) rfl <| VO.nil ?_)
      refine VE.thenN fun a w ha hw => ⟨(i + 1, n + (rs.getD i zI).l.length), ⟨by dsimp only; omega, by dsimp only; omega⟩, (by dsimp only; omega), ha.sub (.cons rfl (.cons rfl (.cons rfl (.cons rfl (.cons rfl .nil))))), hw⟩
  ·
    refine VC.exit (VE.thenX (VE.thenX (VE.inX (VE.seqN ?_))))
    refine VC.seq ?_
    refine VC.reg (VO.l (LO.mv (.r rfl)) rfl <| VO.h rfl <| HO.callx (xs := [_, _]) (vs := [_, _]) C94 ⟨(.r rfl), (.r rfl), trivial⟩ (fun w _ => Grow_h n w (by omega)) fun q _ => VO.h rfl <| HO.lo (LO.as (.r rfl)) <| VO.nil ?_)
    refine VE.seqN ?_
    refine VC.seq ?_
    refine VC.seq ?_
    refine VC.reg (VO.l (LO.mv (.r rfl)) rfl <| VO.l (LO.len S104 (.r rfl) rfl) rfl <| VO.l (LO.mv (.r rfl)) rfl <| VO.nil ?_)
    refine VE.seqN ?_
    refine VC.block ?_
    refine VC.loopK (α := Nat × (List Int) × (Option Addr) × Nat) 1 (fun gx => [(6, .slice gx.2.2.1 gx.2.1.length gx.2.2.2), (27, .int .i64 (gx.1 : Nat))]) [(25, _), (26, _)] (fun gx => [own 3 1 gx.2.2.1 gx.2.2.2 (gx.2.1.map intC)]) (fun gx => gx.1 ≤ rs.length ∧ gx.2.1 = catI (rs.take gx.1) ∧ gx.2.1.length ≤ 50 * gx.1) (fun gx => rs.length - gx.1) (0, [], _, _) (by exact ⟨Nat.zero_le _, rfl, Nat.zero_le _⟩) (.cons rfl (.cons rfl (.cons rfl (.cons rfl .nil)))) (fun _ h => h) ?_
    rintro ⟨i, xs, px, cx⟩ ⟨hi, hX, hN⟩
    show VC _ _ _ _ _ ([(6, .slice px xs.length cx), (27, .int .i64 (i : Nat))] ++ _) ([own 3 1 px cx (xs.map intC)] ++ _) _ _
    dsimp only at hi hX hN
    refine VC.seq ?_
    refine VC.reg (VO.l (LO.lt (.r rfl) (.r rfl)) rfl <| VO.nil ?_)
    refine VE.seqN ?_
    refine VC.seq ?_
    refine VC.cond rfl (fun h3 => ?_) (fun h3 => ?_)
    ·
      refine VC.skip (VE.seqN ?_)
      refine VC.seq ?_
      refine VC.block ?_
      refine VC.seq ?_
      have hrow := irow_at hl (i := i) (by omega)
      have hrl := hb _ (irow_mem (i := i) (by omega))
      refine VC.reg (VO.l (LO.ixs S104 N28 hl.1.sm (.r rfl) (.r rfl) rfl (by omega)) rfl <| VO.l (LO.ld O28 (.r rfl) (fun w hw => cells_part (off := 0) ((hl.1.at zI (j := i) (by omega)) w hw) ⟨_, rfl⟩)) rfl <| VO.l (LO.as (.r rfl)) rfl <| VO.nil ?_)
      refine VE.seqN ?_
      refine VC.reg (VO.l (LO.mv (.r rfl)) rfl <| VO.l (LO.mv (.r rfl)) rfl <| VO.h rfl <| HO.appN (f := intC) (l := xs) (m := (rs.getD i zI).l) 0 (fun R => [R]) S28 S28 I3 (.r rfl) (.r rfl) rfl (fun w hw => hrow.2.keep w hw) (fun _ => rfl) (fun _ => rfl) rfl rfl (fun _ => rfl) rfl rfl (by omega) fun p2 c2 _ => VO.h rfl <| HO.lo (LO.as (.r rfl)) <| VO.nil ?_)
      refine VE.inN (VE.seqN ?_)
      refine VC.reg (VO.l (LO.add (.r rfl) (.r rfl) (wi (by omega) (by omega))) rfl <| VO.l (LO.mv (.r rfl)) rfl <| VO.nil ?_)
      refine VE.thenN fun a w ha hw => ⟨(i + 1, xs ++ (rs.getD i zI).l, _, _), ⟨by dsimp only; omega, by dsimp only; rw [catI_step (by omega), hX], by dsimp only; rw [List.length_append]; omega⟩, (by dsimp only; omega), ha.sub (.cons (Eq.trans (b := some (Value.slice p2 (xs.length + (rs.getD i zI).l.length) c2)) rfl (by dsimp only; rw [List.length_append])) (.cons rfl (.cons rfl (.cons rfl .nil)))), hw⟩
    ·
      refine VC.exit (VE.thenX (VE.thenX (VE.inX (VE.seqN ?_))))
      refine VC.seq ?_
      refine VC.reg (VO.l (LO.mv (.r rfl)) rfl <| VO.l (LO.as (.r rfl)) rfl <| VO.nil ?_)
      refine VE.seqN ?_
      refine VC.ret (VE.res (vs := [_]) rfl ⟨rfl, trivial⟩ (fun w hw => ?_))
      have e : xs = catI rs := by rw [hX, List.take_of_length_le (by omega)]
      subst e
      exact ⟨(px, cx), trivial, rfl, hw.sel [0] rfl⟩

end Go.Proofs.Ytdcjeoamhjplmaa
