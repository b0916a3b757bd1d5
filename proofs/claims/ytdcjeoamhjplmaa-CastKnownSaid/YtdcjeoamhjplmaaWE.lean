/-
  Fields, and what contradicts them.
-/
import Derived.Test.YtdcjeoamhjplmaaWD
namespace Go.Proofs.Ytdcjeoamhjplmaa
open Go.SL Go.Proofs Go.Cast
set_option linter.unusedVariables false

theorem F70_0 : FieldAt Try.prog 70 0 0 := ⟨_, _, Try.underlying70, rfl, rfl, 4, by kernel_rfl⟩
theorem F70_1 : FieldAt Try.prog 70 1 5 := ⟨_, _, Try.underlying70, rfl, rfl, 0, by kernel_rfl⟩
theorem O68 : IsOne Try.prog 68 := ⟨⟨_, Try.underlying68, rfl⟩, by kernel_rfl⟩
theorem S68 : IsSlice Try.prog 68 30 := Try.underlying68
theorem A70 : IsAgg Try.prog 70 6 := ⟨⟨_, Try.underlying70, rfl⟩, by kernel_rfl⟩
theorem C86 : IsFn Try.prog 86 := ⟨_, Try.func86, by decide, rfl⟩
theorem C87 : IsFn Try.prog 87 := ⟨_, Try.func87, by decide, rfl⟩
theorem C61 : IsFn Try.prog 61 := ⟨_, Try.func61, by decide, rfl⟩
theorem C62 : IsFn Try.prog 62 := ⟨_, Try.func62, by decide, rfl⟩
theorem C25 : IsFn Try.prog 25 := ⟨_, Try.func25, by decide, rfl⟩
theorem C26 : IsFn Try.prog 26 := ⟨_, Try.func26, by decide, rfl⟩


structure Span where
  lo : Int
  hi : Int
def Span.cells (s : Span) : List Value := [.int .i64 s.lo, .int .i64 s.hi]
structure Field where
  g : Grid
  vals : List Span
def Spans (w : World) (p : Option Addr) (l : List Span) : Prop := Go.SL.Rows w 2 p (l.map Span.cells)
theorem Spans.some {w : World} {p : Option Addr} {l : List Span} (h : Spans w p l) : SlSome p l.length := Go.SL.Rows.some h (by simp)
theorem Spans.keep {w0 : World} {p : Option Addr} {l : List Span} (h : Spans w0 p l) {L : List Res} : ∀ w, St (bs w0) L w → Spans w p l := Go.SL.Rows.keep h
theorem Spans.at {w0 : World} {p : Option Addr} {l : List Span} (h : Spans w0 p l) {L : List Res} {j : Nat} (hj : j < l.length) : ∀ w, St (bs w0) L w → Cells w ⟨pb p, po p + j * 2, none⟩ [.int .i64 (l.getD j ⟨0, 0⟩).lo, .int .i64 (l.getD j ⟨0, 0⟩).hi] :=
  fun w hw => (h.keep w hw).cells j _ (by simp [List.getElem?_eq_getElem hj, List.getD, Span.cells])
theorem cells_part {w : World} {b o off : Nat} {C vs : List Value} (h : Cells w ⟨b, o, none⟩ C) (hv : ∃ r, C.drop off = vs ++ r) : Cells w ⟨b, o + off, none⟩ vs := by
  intro j v hj
  obtain ⟨r, hr⟩ := hv
  have h1 : C[off + j]? = some v := by
    rw [← List.getElem?_drop, hr, List.getElem?_append_left (List.getElem?_eq_some_iff.1 hj).1]; exact hj
  have h2 := h (off + j) v h1
  have e1 : (⟨b, o, none⟩ : Addr).add (off + j) = ⟨b, o + (off + j), none⟩ := by unfold Addr.add; split <;> simp_all
  have e2 : (⟨b, o + off, none⟩ : Addr).add j = ⟨b, o + off + j, none⟩ := by unfold Addr.add; split <;> simp_all
  rw [e1] at h2; rw [e2, Nat.add_assoc]; exact h2
def spanOk (m : Int) (s : Span) : Prop := 0 ≤ s.lo ∧ s.lo ≤ s.hi ∧ s.hi ≤ m
instance (m : Int) (s : Span) : Decidable (spanOk m s) := by unfold spanOk; exact inferInstance
def valE (m : Int) (l : List Span) (i : Nat) : Int := if spanOk m (l.getD i ⟨0, 0⟩) then 0 else 3
def fieldE (m : Int) (f : Field) : Int := if ¬ gridOk f.g then 3 else if (f.vals.length : Int) ≠ f.g.wide * f.g.high then 11 else firstE (valE m f.vals) f.vals.length
def stE (s : List Int) (i : Nat) : Int := if 0 ≤ s.getD i 0 ∧ s.getD i 0 ≤ 2 then 0 else 3
def heldE (s : List Int) (f : Field) (lv : Int) : Int := if fieldE 1073741824 f ≠ 0 then fieldE 1073741824 f else if s.length ≠ f.vals.length then 11 else if ¬ (1 ≤ lv ∧ lv ≤ 1073741824) then 3 else firstE (stE s) s.length
def heldAt (s : List Int) (f : Field) (lv : Int) (p : Nat) : Prop := (s.getD p 0 = 2 ∧ (f.vals.getD p ⟨0, 0⟩).hi < lv) ∨ (s.getD p 0 = 0 ∧ lv ≤ (f.vals.getD p ⟨0, 0⟩).lo)
instance (s : List Int) (f : Field) (lv : Int) (p : Nat) : Decidable (heldAt s f lv p) := by unfold heldAt; exact inferInstance
def heldTo (s : List Int) (f : Field) (lv : Int) : Nat → List Int
  | 0 => []
  | p + 1 => if heldAt s f lv p then heldTo s f lv p ++ [(p : Int)] else heldTo s f lv p
def heldL (s : List Int) (f : Field) (lv : Int) : List Int := if heldE s f lv ≠ 0 then [] else heldTo s f lv s.length
section
variable {m : Int} {f : Field} {s l : List Int} {lv : Int} {j : Nat}
theorem valE_zero (h : spanOk m (f.vals.getD j ⟨0, 0⟩)) : valE m f.vals j = 0 := if_pos h
theorem stE_zero (h : 0 ≤ s.getD j 0 ∧ s.getD j 0 ≤ 2) : stE s j = 0 := if_pos h
theorem fE1 (h : ¬ gridE f.g = 0) : gridE f.g = fieldE m f := by
  unfold fieldE
  by_cases q : gridOk f.g
  · exact absurd (if_pos q) h
  · rw [if_pos q]; exact if_neg q
theorem fE2 (hg : gridOk f.g) (h : ¬ (f.vals.length : Int) = f.g.wide * f.g.high) : 11 = fieldE m f := by
  unfold fieldE
  rw [if_neg (fun q => q hg), if_pos h]
theorem fE3 (hg : gridOk f.g) (h : (f.vals.length : Int) = f.g.wide * f.g.high) (hz : ∀ k, k < j → valE m f.vals k = 0) (hj : j < f.vals.length) (h4 : ¬ spanOk m (f.vals.getD j ⟨0, 0⟩)) : 3 = fieldE m f := by
  have e : valE m f.vals j = 3 := if_neg h4
  unfold fieldE
  rw [if_neg (fun q => q hg), if_neg (fun q => q h), firstE_at hz (by omega) hj, e]
theorem fE4 (hg : gridOk f.g) (h : (f.vals.length : Int) = f.g.wide * f.g.high) (hz : ∀ k, k < j → valE m f.vals k = 0) (hj : f.vals.length ≤ j) : 0 = fieldE m f := by
  unfold fieldE
  rw [if_neg (fun q => q hg), if_neg (fun q => q h), firstE_zero (fun k hk => hz k (by omega))]
theorem fieldE_ok (h : fieldE m f = 0) : gridOk f.g ∧ (f.vals.length : Int) = f.g.wide * f.g.high ∧ f.vals.length ≤ 4096 ∧ ∀ k, k < f.vals.length → spanOk m (f.vals.getD k ⟨0, 0⟩) := by
  unfold fieldE at h
  split at h
  · omega
  · rename_i q
    have q := Classical.not_not.1 q
    split at h
    · omega
    · rename_i r
      have r := Classical.not_not.1 r
      have ha := area_bd q
      refine ⟨q, r, by omega, fun k hk => ?_⟩
      have := firstE_eq h k hk
      unfold valE at this
      split at this
      · assumption
      · omega
theorem hE1 (h : ¬ fieldE 1073741824 f = 0) : fieldE 1073741824 f = heldE s f lv := by unfold heldE; rw [if_pos h]
theorem hE2 (h : fieldE 1073741824 f = 0) (h2 : ¬ s.length = f.vals.length) : 11 = heldE s f lv := by unfold heldE; rw [if_neg (fun q => q h), if_pos h2]
theorem hE3 (h : fieldE 1073741824 f = 0) (h2 : s.length = f.vals.length) (h3 : ¬ (1 ≤ lv ∧ lv ≤ 1073741824)) : 3 = heldE s f lv := by unfold heldE; rw [if_neg (fun q => q h), if_neg (fun q => q h2), if_pos h3]
theorem hE4 (h : fieldE 1073741824 f = 0) (h2 : s.length = f.vals.length) (h3 : 1 ≤ lv ∧ lv ≤ 1073741824) (hz : ∀ k, k < j → stE s k = 0) (hj : j < s.length) (h4 : ¬ (0 ≤ s.getD j 0 ∧ s.getD j 0 ≤ 2)) : 3 = heldE s f lv := by
  have e : stE s j = 3 := if_neg h4
  unfold heldE; rw [if_neg (fun q => q h), if_neg (fun q => q h2), if_neg (fun q => q h3), firstE_at hz (by omega) hj, e]
theorem hE5 (h : fieldE 1073741824 f = 0) (h2 : s.length = f.vals.length) (h3 : 1 ≤ lv ∧ lv ≤ 1073741824) (hz : ∀ k, k < j → stE s k = 0) (hj : s.length ≤ j) : heldE s f lv = 0 := by
  unfold heldE; rw [if_neg (fun q => q h), if_neg (fun q => q h2), if_neg (fun q => q h3), firstE_zero (fun k hk => hz k (by omega))]
theorem held_y (hl : l = heldTo s f lv j) (h : heldAt s f lv j) : l ++ [(j : Int)] = heldTo s f lv (j + 1) := by rw [heldTo, if_pos h, hl]
theorem held_n (hl : l = heldTo s f lv j) (h : ¬ heldAt s f lv j) : l = heldTo s f lv (j + 1) := by rw [heldTo, if_neg h, hl]
theorem held_err {w w' : World} {L : List Res} {e : Int} (he : e = heldE s f lv) (h0 : ¬ e = 0) (hw : St (bs w) L w') :
    ∃ x : Option Addr × Nat, True ∧ Ending.returned (.tuple #[.slice none 0 0, .int .i64 e]) = .returned (.tuple #[.slice x.1 (heldL s f lv).length x.2, .int .i64 (heldE s f lv)]) ∧ St (bs w) [own 3 1 x.1 x.2 ((heldL s f lv).map fun n => [.int .i64 n])] w' := by
  have hn : heldL s f lv = [] := if_pos (by rw [← he]; exact h0)
  refine ⟨(none, 0), trivial, ?_, ?_⟩
  · rw [hn, ← he]; rfl
  · rw [hn]; exact hw.nil.ownNil 3 1
theorem held_ok {w w' : World} {cr : Nat} {pr : Option Addr} (he : heldE s f lv = 0) (hl : l = heldTo s f lv j) (hj : j = s.length) (hw : St (bs w) [own 3 1 pr cr (l.map fun n => [.int .i64 n])] w') :
    ∃ x : Option Addr × Nat, True ∧ Ending.returned (.tuple #[.slice pr l.length cr, .int .i64 0]) = .returned (.tuple #[.slice x.1 (heldL s f lv).length x.2, .int .i64 (heldE s f lv)]) ∧ St (bs w) [own 3 1 x.1 x.2 ((heldL s f lv).map fun n => [.int .i64 n])] w' := by
  have hn : heldL s f lv = l := by rw [hl, hj]; exact if_neg (by rw [he]; decide)
  refine ⟨(pr, cr), trivial, ?_, ?_⟩
  · rw [hn, he]
  · rw [hn]; exact hw
theorem heldTo_le {f : Field} {s : List Int} {lv : Int} : ∀ j, (heldTo s f lv j).length ≤ j
  | 0 => Nat.le_refl _
  | j + 1 => by
    have := heldTo_le (f := f) (s := s) (lv := lv) j
    unfold heldTo; split <;> simp <;> omega
theorem heldL_lt : (heldL s f lv).length < 1000000000000 := by
  unfold heldL
  split
  · simp
  · rename_i q
    have q := Classical.not_not.1 q
    unfold heldE at q
    split at q
    · contradiction
    · rename_i r
      have := (fieldE_ok (Classical.not_not.1 r)).2.2.1
      split at q
      · omega
      · have := heldTo_le (f := f) (s := s) (lv := lv) s.length; omega
end

set_option maxRecDepth 20000 in
theorem bcheck_c (f : Field) (pv : Option Addr) (cv : Nat) (m : Int) (w : World) (hv : Spans w pv f.vals) :
  Calls Try.prog 86 #[.agg #[.int .i64 f.g.x, .int .i64 f.g.y, .int .i64 f.g.size, .int .i64 f.g.wide, .int .i64 f.g.high, .slice pv f.vals.length cv], .int .i64 m] w fun e w' => e = .returned (.int .i64 (fieldE m f)) ∧ St (bs w) [] w' := by
  refine enter (vs := [_, _]) (env := [(0, _), (1, _)]) Try.func86 rfl rfl rfl rfl ?_
  refine VC.seq ?_
  refine VC.reg (VO.h rfl <| HO.box (C := #[_, _, _, _, _, _]) rfl rfl fun b1 => VO.l (LO.as (.r rfl)) rfl <| VO.nil ?_)
  refine VE.seqN ?_
  refine VC.seq ?_
  refine VC.seq ?_
  refine VC.reg (VO.l (LO.fa (r := 0) F70_0 (.r rfl) rfl) rfl <| VO.l (LO.lda (vs := [_, _, _, _, _]) A23 (.r rfl) (fun _ hw => cells_at hw 0 rfl ⟨_, rfl⟩) rfl) rfl <| VO.l (LO.call (xs := [_]) (vs := [_]) C50 ⟨(.r rfl), trivial⟩ (fun w _ => checkGrid_c f.g w)) rfl <| VO.l (LO.as (.r rfl)) rfl <| VO.nil ?_)
  refine VE.seqN ?_
  refine VC.seq ?_
  refine VC.reg (VO.l (LO.mv (.r rfl)) rfl <| VO.l (LO.ne (.r rfl) (.r rfl)) rfl <| VO.nil ?_)
  refine VE.seqN ?_
  refine VC.cond rfl (fun h1 => ?_) (fun h1 => ?_)
  ·
    refine VC.seq ?_
    refine VC.reg (VO.l (LO.mv (.r rfl)) rfl <| VO.l (LO.as (.r rfl)) rfl <| VO.nil ?_)
    refine VE.seqN ?_
    refine VC.ret (VE.thenR (VE.res (vs := [_]) rfl ⟨rfl, trivial⟩ (fun w hw => ?_)))
    refine ⟨?_, hw.nil⟩
    simp only [resV]
    congr 2
    first | exact fE1 (by simpa using h1) | exact fE2 hgo (by simpa using h2) | exact fE3 hgo (by simpa using h2) hz (by omega) (by unfold spanOk; omega) | exact fE4 hgo (by simpa using h2) hz (by omega)
  ·
    have hgo : gridOk f.g := gridOk_of (by simpa using h1)
    have har := area_bd hgo
    refine VC.skip (VE.seqN ?_)
    refine VC.seq ?_
    refine VC.seq ?_
    refine VC.reg (VO.l (LO.fa (r := 5) F70_1 (.r rfl) rfl) rfl <| VO.l (LO.ld O68 (.r rfl) (fun _ hw => cells_at hw 0 rfl ⟨_, rfl⟩)) rfl <| VO.l (LO.len S68 (.r rfl) rfl) rfl <| VO.l (LO.fa (r := 0) F70_0 (.r rfl) rfl) rfl <| VO.l (LO.fa (r := 3) F23_3 (.r rfl) rfl) rfl <| VO.l (LO.ld O3 (.r rfl) (fun _ hw => cells_at hw 0 rfl ⟨_, rfl⟩)) rfl <| VO.l (LO.fa (r := 0) F70_0 (.r rfl) rfl) rfl <| VO.l (LO.fa (r := 4) F23_4 (.r rfl) rfl) rfl <| VO.l (LO.ld O3 (.r rfl) (fun _ hw => cells_at hw 0 rfl ⟨_, rfl⟩)) rfl <| VO.l (LO.mul (.r rfl) (.r rfl) (wi (by omega) (by omega))) rfl <| VO.l (LO.ne (.r rfl) (.r rfl)) rfl <| VO.nil ?_)
    refine VE.seqN ?_
    refine VC.cond rfl (fun h2 => ?_) (fun h2 => ?_)
    ·
      refine VC.seq ?_
      refine VC.reg (VO.l (LO.as (.r rfl)) rfl <| VO.nil ?_)
      refine VE.seqN ?_
      refine VC.ret (VE.thenR (VE.res (vs := [_]) rfl ⟨rfl, trivial⟩ (fun w hw => ?_)))
      refine ⟨?_, hw.nil⟩
      simp only [resV]
      congr 2
      first | exact fE1 (by simpa using h1) | exact fE2 hgo (by simpa using h2) | exact fE3 hgo (by simpa using h2) hz (by omega) (by unfold spanOk; omega) | exact fE4 hgo (by simpa using h2) hz (by omega)
    ·
      refine VC.skip (VE.seqN ?_)
      refine VC.seq ?_
      refine VC.seq ?_
      refine VC.reg (VO.l (LO.fa (r := 5) F70_1 (.r rfl) rfl) rfl <| VO.l (LO.ld O68 (.r rfl) (fun _ hw => cells_at hw 0 rfl ⟨_, rfl⟩)) rfl <| VO.l (LO.len S68 (.r rfl) rfl) rfl <| VO.l (LO.mv (.r rfl)) rfl <| VO.nil ?_)
      refine VE.seqN ?_
      refine VC.block ?_
      refine VC.loopK (α := Nat) 0 (fun gx => [(28, .int .i64 (gx : Nat))]) [(1, _), (26, _), (27, _)] (fun gx => []) (fun gx => gx ≤ f.vals.length ∧ ∀ k, k < gx → valE m f.vals k = 0) (fun gx => f.vals.length - gx) 0 (by exact ⟨by omega, fun k hk => by omega⟩) (.cons rfl (.cons rfl (.cons rfl (.cons rfl .nil)))) (fun _ h => h) ?_
      rintro j ⟨hj, hz⟩
      refine VC.seq ?_
      refine VC.reg (VO.l (LO.lt (.r rfl) (.r rfl)) rfl <| VO.nil ?_)
      refine VE.seqN ?_
      refine VC.seq ?_
      refine VC.cond rfl (fun h3 => ?_) (fun h3 => ?_)
      ·
        refine VC.skip (VE.seqN ?_)
        refine VC.seq ?_
        refine VC.block ?_
        refine VC.seq ?_
        refine VC.reg (VO.l (LO.ixs S68 N30 hv.some (.r rfl) (.r rfl) rfl (by omega)) rfl <| VO.l (LO.lda (vs := [_, _]) A30 (.r rfl) (fun w hw => cells_part (off := 0) ((hv.at (j := j) (by omega)) w hw) ⟨_, rfl⟩) rfl) rfl <| VO.h rfl <| HO.alloc (C := #[_, _]) Z30 rfl fun b2 => VO.h0 <| HO.st 0 (vs := [_, _]) (C' := [_, _]) (L' := [_, _]) N30 rfl rfl rfl rfl rfl rfl rfl rfl <| VO.nil ?_)
        refine VE.seqN ?_
        refine VC.seq ?_
        refine VC.reg (VO.l (LO.fa (r := 0) F30_0 (.r rfl) rfl) rfl <| VO.l (LO.ld O3 (.r rfl) (fun _ hw => cells_at hw 0 rfl ⟨_, rfl⟩)) rfl <| VO.l (LO.lt (.r rfl) (.r rfl)) rfl <| VO.l (LO.mv (.r rfl)) rfl <| VO.lg rfl rfl (GD.f _) (fun hg => LO.fa (r := 1) F30_1 (.r rfl) rfl) rfl <| VO.lg rfl rfl (GD.f _) (fun hg => LO.ld O3 (.g hg rfl) (fun _ hw => cells_at hw 0 rfl ⟨_, rfl⟩)) rfl <| VO.lg rfl rfl (GD.f _) (fun hg => LO.fa (r := 0) F30_0 (.r rfl) rfl) rfl <| VO.lg rfl rfl (GD.f _) (fun hg => LO.ld O3 (.g hg rfl) (fun _ hw => cells_at hw 0 rfl ⟨_, rfl⟩)) rfl <| VO.lg rfl rfl (GD.f _) (fun hg => LO.lt (.g hg rfl) (.g hg rfl)) rfl <| VO.l (LO.pkO (.r rfl) (.r rfl) rfl rfl) rfl <| VO.l (LO.mv (.r rfl)) rfl <| VO.lg rfl rfl (GD.f _) (fun hg => LO.fa (r := 1) F30_1 (.r rfl) rfl) rfl <| VO.lg rfl rfl (GD.f _) (fun hg => LO.ld O3 (.g hg rfl) (fun _ hw => cells_at hw 0 rfl ⟨_, rfl⟩)) rfl <| VO.lg rfl rfl (GD.f _) (fun hg => LO.mv (.r rfl)) rfl <| VO.lg rfl rfl (GD.f _) (fun hg => LO.gt (.g hg rfl) (.g hg rfl)) rfl <| VO.l (LO.pkO (.r rfl) (.r rfl) rfl rfl) rfl <| VO.nil ?_)
        refine VE.seqN ?_
        refine VC.cond rfl (fun h4 => ?_) (fun h4 => ?_)
        ·
          refine VC.seq ?_
          refine VC.reg (VO.l (LO.as (.r rfl)) rfl <| VO.nil ?_)
          refine VE.seqN ?_
          refine VC.ret (VE.inR (VE.thenR (VE.thenR (VE.inR (VE.thenR (VE.res (vs := [_]) rfl ⟨rfl, trivial⟩ (fun w hw => ?_)))))))
          refine ⟨?_, hw.nil⟩
          simp only [resV]
          congr 2
          first | exact fE1 (by simpa using h1) | exact fE2 hgo (by simpa using h2) | exact fE3 hgo (by simpa using h2) hz (by omega) (by unfold spanOk; omega) | exact fE4 hgo (by simpa using h2) hz (by omega)
        ·
          refine VC.skip (VE.inN (VE.seqN ?_))
          refine VC.reg (VO.l (LO.add (.r rfl) (.r rfl) (wi (by omega) (by omega))) rfl <| VO.l (LO.mv (.r rfl)) rfl <| VO.nil ?_)
          refine VE.thenN fun a w ha hw => ⟨j + 1, ⟨by omega, step_zero hz (valE_zero (by unfold spanOk; omega))⟩, (by omega), ha.sub (.cons rfl (.cons rfl (.cons rfl (.cons rfl .nil)))), hw.sel [1] rfl⟩
      ·
        refine VC.exit (VE.thenX (VE.thenX (VE.inX (VE.seqN ?_))))
        refine VC.seq ?_
        refine VC.reg (VO.l (LO.as (.r rfl)) rfl <| VO.nil ?_)
        refine VE.seqN ?_
        refine VC.ret (VE.res (vs := [_]) rfl ⟨rfl, trivial⟩ (fun w hw => ?_))
        refine ⟨?_, hw.nil⟩
        simp only [resV]
        congr 2
        first | exact fE1 (by simpa using h1) | exact fE2 hgo (by simpa using h2) | exact fE3 hgo (by simpa using h2) hz (by omega) (by unfold spanOk; omega) | exact fE4 hgo (by simpa using h2) hz (by omega)

set_option maxRecDepth 20000 in
theorem fits_c (f : Field) (pv : Option Addr) (cv : Nat) (m : Int) (w : World) (hv : Spans w pv f.vals) :
  Calls Try.prog 87 #[.agg #[.int .i64 f.g.x, .int .i64 f.g.y, .int .i64 f.g.size, .int .i64 f.g.wide, .int .i64 f.g.high, .slice pv f.vals.length cv], .int .i64 m] w fun e w' => e = .returned (.int .i64 (fieldE m f)) ∧ St (bs w) [] w' := by
  refine enter (vs := [_, _]) (env := [(0, _), (1, _)]) Try.func87 rfl rfl rfl rfl ?_
  refine VC.seq ?_
  refine VC.reg (VO.h rfl <| HO.box (C := #[_, _, _, _, _, _]) rfl rfl fun b1 => VO.l (LO.as (.r rfl)) rfl <| VO.nil ?_)
  refine VE.seqN ?_
  refine VC.seq ?_
  refine VC.reg (VO.l (LO.fa (r := 0) F70_0 (.r rfl) rfl) rfl <| VO.l (LO.lda (vs := [_, _, _, _, _]) A23 (.r rfl) (fun _ hw => cells_at hw 0 rfl ⟨_, rfl⟩) rfl) rfl <| VO.l (LO.call (xs := [_]) (vs := [_]) C56 ⟨(.r rfl), trivial⟩ (fun w _ => rCheckGrid_c f.g w)) rfl <| VO.l (LO.as (.r rfl)) rfl <| VO.nil ?_)
  refine VE.seqN ?_
  refine VC.seq ?_
  refine VC.seq ?_
  refine VC.reg (VO.l (LO.mv (.r rfl)) rfl <| VO.l (LO.ne (.r rfl) (.r rfl)) rfl <| VO.nil ?_)
  refine VE.seqN ?_
  refine VC.cond rfl (fun h1 => ?_) (fun h1 => ?_)
  ·
    refine VC.seq ?_
    refine VC.reg (VO.l (LO.mv (.r rfl)) rfl <| VO.l (LO.as (.r rfl)) rfl <| VO.nil ?_)
    refine VE.seqN ?_
    refine VC.ret (VE.thenR (VE.res (vs := [_]) rfl ⟨rfl, trivial⟩ (fun w hw => ?_)))
    refine ⟨?_, hw.nil⟩
    simp only [resV]
    congr 2
    first | exact fE1 (by simpa using h1) | exact fE2 hgo (by simpa using h2) | exact fE3 hgo (by simpa using h2) hz (by omega) (by unfold spanOk; omega) | exact fE4 hgo (by simpa using h2) hz (by omega)
  ·
    have hgo : gridOk f.g := gridOk_of (by simpa using h1)
    have har := area_bd hgo
    refine VC.skip (VE.seqN ?_)
    refine VC.seq ?_
    refine VC.seq ?_
    refine VC.reg (VO.l (LO.fa (r := 5) F70_1 (.r rfl) rfl) rfl <| VO.l (LO.ld O68 (.r rfl) (fun _ hw => cells_at hw 0 rfl ⟨_, rfl⟩)) rfl <| VO.l (LO.len S68 (.r rfl) rfl) rfl <| VO.l (LO.fa (r := 0) F70_0 (.r rfl) rfl) rfl <| VO.l (LO.fa (r := 3) F23_3 (.r rfl) rfl) rfl <| VO.l (LO.ld O3 (.r rfl) (fun _ hw => cells_at hw 0 rfl ⟨_, rfl⟩)) rfl <| VO.l (LO.fa (r := 0) F70_0 (.r rfl) rfl) rfl <| VO.l (LO.fa (r := 4) F23_4 (.r rfl) rfl) rfl <| VO.l (LO.ld O3 (.r rfl) (fun _ hw => cells_at hw 0 rfl ⟨_, rfl⟩)) rfl <| VO.l (LO.mul (.r rfl) (.r rfl) (wi (by omega) (by omega))) rfl <| VO.l (LO.ne (.r rfl) (.r rfl)) rfl <| VO.nil ?_)
    refine VE.seqN ?_
    refine VC.cond rfl (fun h2 => ?_) (fun h2 => ?_)
    ·
      refine VC.seq ?_
      refine VC.reg (VO.l (LO.as (.r rfl)) rfl <| VO.nil ?_)
      refine VE.seqN ?_
      refine VC.ret (VE.thenR (VE.res (vs := [_]) rfl ⟨rfl, trivial⟩ (fun w hw => ?_)))
      refine ⟨?_, hw.nil⟩
      simp only [resV]
      congr 2
      first | exact fE1 (by simpa using h1) | exact fE2 hgo (by simpa using h2) | exact fE3 hgo (by simpa using h2) hz (by omega) (by unfold spanOk; omega) | exact fE4 hgo (by simpa using h2) hz (by omega)
    ·
      refine VC.skip (VE.seqN ?_)
      refine VC.seq ?_
      refine VC.seq ?_
      refine VC.reg (VO.l (LO.as (.r rfl)) rfl <| VO.nil ?_)
      refine VE.seqN ?_
      refine VC.block ?_
      refine VC.loopK (α := Nat) 0 (fun gx => [(6, .int .i64 (gx : Nat))]) [(1, _), (2, _)] (fun gx => []) (fun gx => gx ≤ f.vals.length ∧ ∀ k, k < gx → valE m f.vals k = 0) (fun gx => f.vals.length - gx) 0 (by exact ⟨by omega, fun k hk => by omega⟩) (.cons rfl (.cons rfl (.cons rfl .nil))) (fun _ h => h) ?_
      rintro j ⟨hj, hz⟩
      refine VC.seq ?_
      refine VC.seq ?_
      refine VC.reg (VO.l (LO.mv (.r rfl)) rfl <| VO.l (LO.fa (r := 5) F70_1 (.r rfl) rfl) rfl <| VO.l (LO.ld O68 (.r rfl) (fun _ hw => cells_at hw 0 rfl ⟨_, rfl⟩)) rfl <| VO.l (LO.len S68 (.r rfl) rfl) rfl <| VO.l (LO.lt (.r rfl) (.r rfl)) rfl <| VO.nil ?_)
      refine VE.seqN ?_
      refine VC.cond rfl (fun h3 => ?_) (fun h3 => ?_)
      ·
        refine VC.skip (VE.seqN ?_)
        refine VC.seq ?_
        refine VC.block ?_
        refine VC.seq ?_
        refine VC.reg (VO.l (LO.fa (r := 5) F70_1 (.r rfl) rfl) rfl <| VO.l (LO.ld O68 (.r rfl) (fun _ hw => cells_at hw 0 rfl ⟨_, rfl⟩)) rfl <| VO.l (LO.mv (.r rfl)) rfl <| VO.l (LO.ixs S68 N30 hv.some (.r rfl) (.r rfl) rfl (by omega)) rfl <| VO.l (LO.lda (vs := [_, _]) A30 (.r rfl) (fun w hw => cells_part (off := 0) ((hv.at (j := j) (by omega)) w hw) ⟨_, rfl⟩) rfl) rfl <| VO.l (LO.mv (.r rfl)) rfl <| VO.l (LO.call (xs := [_, _, _]) (vs := [_, _, _]) C67 ⟨(.r rfl), (.r rfl), (.r rfl), trivial⟩ (fun w _ => Valid_c _ _ _ _ w)) rfl <| VO.l (LO.not (.r rfl)) rfl <| VO.nil ?_)
        refine VE.seqN ?_
        refine VC.cond rfl (fun h4 => ?_) (fun h4 => ?_)
        ·
          refine VC.seq ?_
          refine VC.reg (VO.l (LO.as (.r rfl)) rfl <| VO.nil ?_)
          refine VE.seqN ?_
          refine VC.ret (VE.inR (VE.thenR (VE.thenR (VE.inR (VE.thenR (VE.res (vs := [_]) rfl ⟨rfl, trivial⟩ (fun w hw => ?_)))))))
          refine ⟨?_, hw.nil⟩
          simp only [resV]
          congr 2
          first | exact fE1 (by simpa using h1) | exact fE2 hgo (by simpa using h2) | exact fE3 hgo (by simpa using h2) hz (by omega) (by unfold spanOk; omega) | exact fE4 hgo (by simpa using h2) hz (by omega)
        ·
          refine VC.skip (VE.inN (VE.seqN ?_))
          refine VC.reg (VO.l (LO.mv (.r rfl)) rfl <| VO.l (LO.add (.r rfl) (.r rfl) (wi (by omega) (by omega))) rfl <| VO.l (LO.as (.r rfl)) rfl <| VO.nil ?_)
          refine VE.thenN fun a w ha hw => ⟨j + 1, ⟨by omega, step_zero hz (valE_zero (by unfold spanOk; omega))⟩, (by omega), ha.sub (.cons rfl (.cons rfl (.cons rfl .nil))), hw⟩
      ·
        refine VC.exit (VE.thenX (VE.thenX (VE.inX (VE.seqN ?_))))
        refine VC.seq ?_
        refine VC.reg (VO.l (LO.as (.r rfl)) rfl <| VO.nil ?_)
        refine VE.seqN ?_
        refine VC.ret (VE.res (vs := [_]) rfl ⟨rfl, trivial⟩ (fun w hw => ?_))
        refine ⟨?_, hw.nil⟩
        simp only [resV]
        congr 2
        first | exact fE1 (by simpa using h1) | exact fE2 hgo (by simpa using h2) | exact fE3 hgo (by simpa using h2) hz (by omega) (by unfold spanOk; omega) | exact fE4 hgo (by simpa using h2) hz (by omega)

set_option maxRecDepth 20000 in
theorem bCheckField_c (f : Field) (pv : Option Addr) (cv : Nat) (w : World) (hv : Spans w pv f.vals) :
  Calls Try.prog 61 #[.agg #[.int .i64 f.g.x, .int .i64 f.g.y, .int .i64 f.g.size, .int .i64 f.g.wide, .int .i64 f.g.high, .slice pv f.vals.length cv]] w fun e w' => e = .returned (.int .i64 (fieldE 1073741824 f)) ∧ St (bs w) [] w' := by
  refine enter (vs := [_]) (env := [(0, _)]) Try.func61 rfl rfl rfl rfl ?_
  refine VC.seq ?_
  refine VC.reg (VO.h rfl <| HO.box (C := #[_, _, _, _, _, _]) rfl rfl fun b1 => VO.l (LO.as (.r rfl)) rfl <| VO.nil ?_)
  refine VE.seqN ?_
  refine VC.seq ?_
  refine VC.reg (VO.l (LO.lda (vs := [_, _, _, _, _, _]) A70 (.r rfl) (fun _ hw => cells_at hw 0 rfl ⟨_, rfl⟩) rfl) rfl <| VO.l (LO.call (xs := [_, _]) (vs := [_, _]) C86 ⟨(.r rfl), (.r rfl), trivial⟩ (fun w hw => bcheck_c f pv cv _ w (hv.keep w hw))) rfl <| VO.l (LO.as (.r rfl)) rfl <| VO.nil ?_)
  refine VE.seqN ?_
  refine VC.ret (VE.res (vs := [_]) rfl ⟨rfl, trivial⟩ (fun w hw => ?_))
  exact ⟨rfl, hw.nil⟩

set_option maxRecDepth 20000 in
theorem rCheckField_c (f : Field) (pv : Option Addr) (cv : Nat) (w : World) (hv : Spans w pv f.vals) :
  Calls Try.prog 62 #[.agg #[.int .i64 f.g.x, .int .i64 f.g.y, .int .i64 f.g.size, .int .i64 f.g.wide, .int .i64 f.g.high, .slice pv f.vals.length cv]] w fun e w' => e = .returned (.int .i64 (fieldE 1073741824 f)) ∧ St (bs w) [] w' := by
  refine enter (vs := [_]) (env := [(0, _)]) Try.func62 rfl rfl rfl rfl ?_
  refine VC.seq ?_
  refine VC.reg (VO.h rfl <| HO.box (C := #[_, _, _, _, _, _]) rfl rfl fun b1 => VO.l (LO.as (.r rfl)) rfl <| VO.nil ?_)
  refine VE.seqN ?_
  refine VC.seq ?_
  refine VC.reg (VO.l (LO.lda (vs := [_, _, _, _, _, _]) A70 (.r rfl) (fun _ hw => cells_at hw 0 rfl ⟨_, rfl⟩) rfl) rfl <| VO.l (LO.call (xs := [_, _]) (vs := [_, _]) C87 ⟨(.r rfl), (.r rfl), trivial⟩ (fun w hw => fits_c f pv cv _ w (hv.keep w hw))) rfl <| VO.l (LO.as (.r rfl)) rfl <| VO.nil ?_)
  refine VE.seqN ?_
  refine VC.ret (VE.res (vs := [_]) rfl ⟨rfl, trivial⟩ (fun w hw => ?_))
  exact ⟨rfl, hw.nil⟩

set_option maxRecDepth 20000 in
theorem Held_c (s : List Int) (ps : Option Addr) (cs : Nat) (f : Field) (pv : Option Addr) (cv : Nat) (lv : Int) (w : World) (hs : Ints w ps s) (hv : Spans w pv f.vals) :
  Calls Try.prog 25 #[.slice ps s.length cs, .agg #[.int .i64 f.g.x, .int .i64 f.g.y, .int .i64 f.g.size, .int .i64 f.g.wide, .int .i64 f.g.high, .slice pv f.vals.length cv], .int .i64 lv] w fun e w' => ∃ x : Option Addr × Nat, True ∧ e = .returned (.tuple #[.slice x.1 (heldL s f lv).length x.2, .int .i64 (heldE s f lv)]) ∧ St (bs w) [own 3 1 x.1 x.2 ((heldL s f lv).map fun n => [.int .i64 n])] w' := by
  refine enter (vs := [_, _, _]) (env := [(0, _), (1, _), (2, _)]) Try.func25 rfl rfl rfl rfl ?_
  refine VC.seq ?_
  refine VC.reg (VO.h rfl <| HO.box (C := #[_, _, _, _, _, _]) rfl rfl fun b1 => VO.l (LO.as (.r rfl)) rfl <| VO.l (LO.as (.r rfl)) rfl <| VO.nil ?_)
  refine VE.seqN ?_
  refine VC.seq ?_
  refine VC.seq ?_
  refine VC.reg (VO.l (LO.lda (vs := [_, _, _, _, _, _]) A70 (.r rfl) (fun _ hw => cells_at hw 0 rfl ⟨_, rfl⟩) rfl) rfl <| VO.l (LO.call (xs := [_]) (vs := [_]) C61 ⟨(.r rfl), trivial⟩ (fun w hw => bCheckField_c f pv cv w (hv.keep w hw))) rfl <| VO.l (LO.as (.r rfl)) rfl <| VO.nil ?_)
  refine VE.seqN ?_
  refine VC.seq ?_
  refine VC.reg (VO.l (LO.mv (.r rfl)) rfl <| VO.l (LO.ne (.r rfl) (.r rfl)) rfl <| VO.nil ?_)
  refine VE.seqN ?_
  refine VC.cond rfl (fun h1 => ?_) (fun h1 => ?_)
  ·
    refine VC.seq ?_
    refine VC.reg (VO.l (LO.mv (.r rfl)) rfl <| VO.l (LO.as (.r rfl)) rfl <| VO.l (LO.as (.r rfl)) rfl <| VO.nil ?_)
    refine VE.seqN ?_
    refine VC.ret (VE.thenR (VE.res (vs := [_, _]) rfl ⟨rfl, rfl, trivial⟩ (fun w hw => ?_)))
    first | exact held_err (hE1 h1) h1 hw | exact held_err (hE2 h1 (by omega)) (by decide) hw | exact held_err (hE3 h1 (by omega) (by omega)) (by decide) hw | exact held_err (hE4 h1 (by omega) (by omega) hz (by omega) (by omega)) (by decide) hw | exact held_ok (hE5 h1 (by omega) (by omega) hz (by omega)) hl (by omega) (hw.sel [0] rfl)
  ·
    have h1 : fieldE 1073741824 f = 0 := by omega
    have hgo := fieldE_ok h1
    refine VC.skip (VE.seqN ?_)
    refine VC.seq ?_
    refine VC.block ?_
    refine VC.seq ?_
    refine VC.reg (VO.l (LO.mv (.r rfl)) rfl <| VO.l (LO.len S28 (.r rfl) rfl) rfl <| VO.l (LO.fa (r := 5) F70_1 (.r rfl) rfl) rfl <| VO.l (LO.ld O68 (.r rfl) (fun _ hw => cells_at hw 0 rfl ⟨_, rfl⟩)) rfl <| VO.l (LO.len S68 (.r rfl) rfl) rfl <| VO.l (LO.ne (.r rfl) (.r rfl)) rfl <| VO.l (LO.as (.r rfl)) rfl <| VO.nil ?_)
    refine VE.seqN ?_
    refine VC.cond rfl (fun h2 => ?_) (fun h2 => ?_)
    ·
      refine VC.seq ?_
      refine VC.reg (VO.l (LO.as (.r rfl)) rfl <| VO.l (LO.as (.r rfl)) rfl <| VO.nil ?_)
      refine VE.seqN ?_
      refine VC.ret (VE.inR (VE.thenR (VE.res (vs := [_, _]) rfl ⟨rfl, rfl, trivial⟩ (fun w hw => ?_))))
      first | exact held_err (hE1 h1) h1 hw | exact held_err (hE2 h1 (by omega)) (by decide) hw | exact held_err (hE3 h1 (by omega) (by omega)) (by decide) hw | exact held_err (hE4 h1 (by omega) (by omega) hz (by omega) (by omega)) (by decide) hw | exact held_ok (hE5 h1 (by omega) (by omega) hz (by omega)) hl (by omega) (hw.sel [0] rfl)
    ·
      refine VC.seq ?_
      refine VC.reg (VO.l (LO.mv (.r rfl)) rfl <| VO.l (LO.call (xs := [_, _, _]) (vs := [_, _, _]) C52 ⟨(.r rfl), (.r rfl), (.r rfl), trivial⟩ (fun w _ => within_c _ _ _ w)) rfl <| VO.l (LO.not (.r rfl)) rfl <| VO.l (LO.as (.r rfl)) rfl <| VO.nil ?_)
      refine VE.seqN ?_
      refine VC.cond rfl (fun h3 => ?_) (fun h3 => ?_)
      ·
        refine VC.seq ?_
        refine VC.reg (VO.l (LO.as (.r rfl)) rfl <| VO.l (LO.as (.r rfl)) rfl <| VO.nil ?_)
        refine VE.seqN ?_
        refine VC.ret (VE.inR (VE.thenR (VE.res (vs := [_, _]) rfl ⟨rfl, rfl, trivial⟩ (fun w hw => ?_))))
        first | exact held_err (hE1 h1) h1 hw | exact held_err (hE2 h1 (by omega)) (by decide) hw | exact held_err (hE3 h1 (by omega) (by omega)) (by decide) hw | exact held_err (hE4 h1 (by omega) (by omega) hz (by omega) (by omega)) (by decide) hw | exact held_ok (hE5 h1 (by omega) (by omega) hz (by omega)) hl (by omega) (hw.sel [0] rfl)
      ·
        refine VC.skip (VE.inN (VE.seqN ?_))
        refine VC.seq ?_
        refine VC.reg (VO.l (LO.as (.r rfl)) rfl <| VO.nil ?_)
        refine VE.seqN ?_
        refine VC.seq ?_
        refine VC.seq ?_
        refine VC.reg (VO.l (LO.mv (.r rfl)) rfl <| VO.l (LO.len S28 (.r rfl) rfl) rfl <| VO.l (LO.mv (.r rfl)) rfl <| VO.nil ?_)
        refine VE.seqN ?_
        refine VC.block ?_
        refine VC.loopK (α := Nat × (List Int) × (Option Addr) × Nat) 0 (fun gx => [(9, .slice gx.2.2.1 gx.2.1.length gx.2.2.2), (30, .int .i64 (gx.1 : Nat))]) [(2, _), (4, _), (28, _), (29, _)] (fun gx => [own 3 1 gx.2.2.1 gx.2.2.2 (gx.2.1.map fun n => [.int .i64 n])]) (fun gx => (gx.1 ≤ s.length ∧ gx.2.1.length ≤ gx.1) ∧ (∀ k, k < gx.1 → stE s k = 0) ∧ gx.2.1 = heldTo s f lv gx.1) (fun gx => s.length - gx.1) (0, [], none, 0) (by exact ⟨⟨Nat.zero_le _, Nat.le_refl _⟩, fun k hk => absurd hk (Nat.not_lt_zero _), rfl⟩) (.cons rfl (.cons rfl (.cons rfl (.cons rfl (.cons rfl (.cons rfl .nil)))))) (fun _ h => h.ownNil 3 1) ?_
        rintro ⟨j, l, pr, cr⟩ ⟨hj, hz, hl⟩
        show VC _ _ _ _ _ ([(9, .slice pr l.length cr), (30, .int .i64 (j : Nat))] ++ _) ([own 3 1 pr cr (l.map fun n => [.int .i64 n])] ++ _) _ _
        have hj : j ≤ s.length ∧ l.length ≤ j := hj
        have hl : l = heldTo s f lv j := hl
        have hz : ∀ k, k < j → stE s k = 0 := hz
        refine VC.seq ?_
        refine VC.reg (VO.l (LO.lt (.r rfl) (.r rfl)) rfl <| VO.nil ?_)
        refine VE.seqN ?_
        refine VC.seq ?_
        refine VC.cond rfl (fun h4 => ?_) (fun h4 => ?_)
        ·
          refine VC.skip (VE.seqN ?_)
          refine VC.seq ?_
          refine VC.block ?_
          refine VC.seq ?_
          refine VC.reg (VO.l (LO.mv (.r rfl)) rfl <| VO.l (LO.ixs S28 N3 hs.some (.r rfl) (.r rfl) rfl (by omega)) rfl <| VO.l (LO.ld O3 (.r rfl) (fun w hw => cells_part (off := 0) ((hs.at (j := j) (by omega)) w hw) ⟨_, rfl⟩)) rfl <| VO.l (LO.as (.r rfl)) rfl <| VO.l (LO.as (.r rfl)) rfl <| VO.nil ?_)
          refine VE.seqN ?_
          refine VC.seq ?_
          refine VC.reg (VO.l (LO.mv (.r rfl)) rfl <| VO.nil ?_)
          refine VE.seqN ?_
          refine VC.block ?_
          refine VC.seq ?_
          refine VC.reg (VO.l (LO.eq (.r rfl) (.r rfl)) rfl <| VO.l (LO.as (.r rfl)) rfl <| VO.nil ?_)
          refine VE.seqN ?_
          refine VC.cond rfl (fun h5 => ?_) (fun h5 => ?_)
          ·
            refine VC.seq ?_
            refine VC.reg (VO.l (LO.fa (r := 5) F70_1 (.r rfl) rfl) rfl <| VO.l (LO.ld O68 (.r rfl) (fun _ hw => cells_at hw 1 rfl ⟨_, rfl⟩)) rfl <| VO.l (LO.mv (.r rfl)) rfl <| VO.l (LO.ixs S68 N30 hv.some (.r rfl) (.r rfl) rfl (by omega)) rfl <| VO.l (LO.fa F30_1 (.r rfl) rfl) rfl <| VO.l (LO.ld O3 (.r rfl) (fun w hw => cells_part (off := 1) ((hv.at (j := j) (by omega)) w hw) ⟨_, rfl⟩)) rfl <| VO.l (LO.mv (.r rfl)) rfl <| VO.l (LO.lt (.r rfl) (.r rfl)) rfl <| VO.nil ?_)
            refine VE.seqN ?_
            refine VC.cond rfl (fun h6 => ?_) (fun h6 => ?_)
            ·
              refine VC.reg (VO.l (LO.mv (.r rfl)) rfl <| VO.l (LO.mv (.r rfl)) rfl <| VO.h rfl <| HO.bs (ps := [(_, _)]) (vs := [(_, _)]) (Z := [_]) (C := [_]) S28 Z3 N3 ⟨(.r rfl), trivial⟩ rfl rfl rfl rfl ⟨_, [_], [_], rfl, rfl, rfl, rfl, rfl⟩ fun b3 => VO.h rfl <| HO.appT ((j : Int)) 1 0 (fun R => [_, R, _]) S28 S28 I3 (.r rfl) (.r rfl) rfl rfl rfl rfl rfl rfl rfl (fun _ => rfl) rfl (by omega) fun p3 c3 => VO.h rfl <| HO.lo (LO.as (.r rfl)) <| VO.nil ?_)
              refine VE.inN (VE.inN (VE.seqN ?_))
              refine VC.reg (VO.l (LO.add (.r rfl) (.r rfl) (wi (by omega) (by omega))) rfl <| VO.l (LO.mv (.r rfl)) rfl <| VO.nil ?_)
              refine VE.thenN fun a w ha hw => ⟨(j + 1, _, _, _), (by first | exact ⟨by simp; omega, step_zero hz (stE_zero (by omega)), held_y hl (by unfold heldAt; omega)⟩ | exact ⟨by dsimp only; omega, step_zero hz (stE_zero (by omega)), held_n hl (by unfold heldAt; omega)⟩), (by dsimp only; omega), ha.sub (.cons rfl (.cons rfl (.cons rfl (.cons rfl (.cons rfl (.cons rfl .nil)))))), hw.sel [1, 2] rfl⟩
            ·
              refine VC.skip (VE.inN (VE.inN (VE.seqN ?_)))
              refine VC.reg (VO.l (LO.add (.r rfl) (.r rfl) (wi (by omega) (by omega))) rfl <| VO.l (LO.mv (.r rfl)) rfl <| VO.nil ?_)
              refine VE.thenN fun a w ha hw => ⟨(j + 1, _, _, _), (by first | exact ⟨by simp; omega, step_zero hz (stE_zero (by omega)), held_y hl (by unfold heldAt; omega)⟩ | exact ⟨by dsimp only; omega, step_zero hz (stE_zero (by omega)), held_n hl (by unfold heldAt; omega)⟩), (by dsimp only; omega), ha.sub (.cons rfl (.cons rfl (.cons rfl (.cons rfl (.cons rfl (.cons rfl .nil)))))), hw⟩
          ·
            refine VC.seq ?_
            refine VC.reg (VO.l (LO.eq (.r rfl) (.r rfl)) rfl <| VO.l (LO.as (.r rfl)) rfl <| VO.nil ?_)
            refine VE.seqN ?_
            refine VC.cond rfl (fun h7 => ?_) (fun h7 => ?_)
            ·
              refine VC.seq ?_
              refine VC.reg (VO.l (LO.fa (r := 5) F70_1 (.r rfl) rfl) rfl <| VO.l (LO.ld O68 (.r rfl) (fun _ hw => cells_at hw 1 rfl ⟨_, rfl⟩)) rfl <| VO.l (LO.mv (.r rfl)) rfl <| VO.l (LO.ixs S68 N30 hv.some (.r rfl) (.r rfl) rfl (by omega)) rfl <| VO.l (LO.fa F30_0 (.r rfl) rfl) rfl <| VO.l (LO.ld O3 (.r rfl) (fun w hw => cells_part (off := 0) ((hv.at (j := j) (by omega)) w hw) ⟨_, rfl⟩)) rfl <| VO.l (LO.mv (.r rfl)) rfl <| VO.l (LO.ge (.r rfl) (.r rfl)) rfl <| VO.nil ?_)
              refine VE.seqN ?_
              refine VC.cond rfl (fun h8 => ?_) (fun h8 => ?_)
              ·
                refine VC.reg (VO.l (LO.mv (.r rfl)) rfl <| VO.l (LO.mv (.r rfl)) rfl <| VO.h rfl <| HO.bs (ps := [(_, _)]) (vs := [(_, _)]) (Z := [_]) (C := [_]) S28 Z3 N3 ⟨(.r rfl), trivial⟩ rfl rfl rfl rfl ⟨_, [_], [_], rfl, rfl, rfl, rfl, rfl⟩ fun b4 => VO.h rfl <| HO.appT ((j : Int)) 1 0 (fun R => [_, R, _]) S28 S28 I3 (.r rfl) (.r rfl) rfl rfl rfl rfl rfl rfl rfl (fun _ => rfl) rfl (by omega) fun p3 c3 => VO.h rfl <| HO.lo (LO.as (.r rfl)) <| VO.nil ?_)
                refine VE.inN (VE.inN (VE.seqN ?_))
                refine VC.reg (VO.l (LO.add (.r rfl) (.r rfl) (wi (by omega) (by omega))) rfl <| VO.l (LO.mv (.r rfl)) rfl <| VO.nil ?_)
                refine VE.thenN fun a w ha hw => ⟨(j + 1, _, _, _), (by first | exact ⟨by simp; omega, step_zero hz (stE_zero (by omega)), held_y hl (by unfold heldAt; omega)⟩ | exact ⟨by dsimp only; omega, step_zero hz (stE_zero (by omega)), held_n hl (by unfold heldAt; omega)⟩), (by dsimp only; omega), ha.sub (.cons rfl (.cons rfl (.cons rfl (.cons rfl (.cons rfl (.cons rfl .nil)))))), hw.sel [1, 2] rfl⟩
              ·
                refine VC.skip (VE.inN (VE.inN (VE.seqN ?_)))
                refine VC.reg (VO.l (LO.add (.r rfl) (.r rfl) (wi (by omega) (by omega))) rfl <| VO.l (LO.mv (.r rfl)) rfl <| VO.nil ?_)
                refine VE.thenN fun a w ha hw => ⟨(j + 1, _, _, _), (by first | exact ⟨by simp; omega, step_zero hz (stE_zero (by omega)), held_y hl (by unfold heldAt; omega)⟩ | exact ⟨by dsimp only; omega, step_zero hz (stE_zero (by omega)), held_n hl (by unfold heldAt; omega)⟩), (by dsimp only; omega), ha.sub (.cons rfl (.cons rfl (.cons rfl (.cons rfl (.cons rfl (.cons rfl .nil)))))), hw⟩
            ·
              refine VC.seq ?_
              refine VC.reg (VO.l (LO.eq (.r rfl) (.r rfl)) rfl <| VO.l (LO.as (.r rfl)) rfl <| VO.nil ?_)
              refine VE.seqN ?_
              refine VC.cond rfl (fun h9 => ?_) (fun h9 => ?_)
              ·
                refine VC.skip (VE.inN (VE.inN (VE.seqN ?_)))
                refine VC.reg (VO.l (LO.add (.r rfl) (.r rfl) (wi (by omega) (by omega))) rfl <| VO.l (LO.mv (.r rfl)) rfl <| VO.nil ?_)
                refine VE.thenN fun a w ha hw => ⟨(j + 1, _, _, _), (by first | exact ⟨by simp; omega, step_zero hz (stE_zero (by omega)), held_y hl (by unfold heldAt; omega)⟩ | exact ⟨by dsimp only; omega, step_zero hz (stE_zero (by omega)), held_n hl (by unfold heldAt; omega)⟩), (by dsimp only; omega), ha.sub (.cons rfl (.cons rfl (.cons rfl (.cons rfl (.cons rfl (.cons rfl .nil)))))), hw⟩
              ·
                refine VC.seq ?_
                refine VC.reg (VO.l (LO.as (.r rfl)) rfl <| VO.l (LO.as (.r rfl)) rfl <| VO.nil ?_)
                refine VE.seqN ?_
                refine VC.ret (VE.inR (VE.inR (VE.thenR (VE.thenR (VE.inR (VE.thenR (VE.res (vs := [_, _]) rfl ⟨rfl, rfl, trivial⟩ (fun w hw => ?_))))))))
                first | exact held_err (hE1 h1) h1 hw | exact held_err (hE2 h1 (by omega)) (by decide) hw | exact held_err (hE3 h1 (by omega) (by omega)) (by decide) hw | exact held_err (hE4 h1 (by omega) (by omega) hz (by omega) (by omega)) (by decide) hw | exact held_ok (hE5 h1 (by omega) (by omega) hz (by omega)) hl (by omega) (hw.sel [0] rfl)
        ·
          refine VC.exit (VE.thenX (VE.thenX (VE.inX (VE.seqN ?_))))
          refine VC.seq ?_
          refine VC.reg (VO.l (LO.mv (.r rfl)) rfl <| VO.l (LO.as (.r rfl)) rfl <| VO.l (LO.as (.r rfl)) rfl <| VO.nil ?_)
          refine VE.seqN ?_
          refine VC.ret (VE.res (vs := [_, _]) rfl ⟨rfl, rfl, trivial⟩ (fun w hw => ?_))
          first | exact held_err (hE1 h1) h1 hw | exact held_err (hE2 h1 (by omega)) (by decide) hw | exact held_err (hE3 h1 (by omega) (by omega)) (by decide) hw | exact held_err (hE4 h1 (by omega) (by omega) hz (by omega) (by omega)) (by decide) hw | exact held_ok (hE5 h1 (by omega) (by omega) hz (by omega)) hl (by omega) (hw.sel [0] rfl)

set_option maxRecDepth 20000 in
theorem rHeld_c (s : List Int) (ps : Option Addr) (cs : Nat) (f : Field) (pv : Option Addr) (cv : Nat) (lv : Int) (w : World) (hs : Ints w ps s) (hv : Spans w pv f.vals) :
  Calls Try.prog 26 #[.slice ps s.length cs, .agg #[.int .i64 f.g.x, .int .i64 f.g.y, .int .i64 f.g.size, .int .i64 f.g.wide, .int .i64 f.g.high, .slice pv f.vals.length cv], .int .i64 lv] w fun e w' => ∃ x : Option Addr × Nat, True ∧ e = .returned (.tuple #[.slice x.1 (heldL s f lv).length x.2, .int .i64 (heldE s f lv)]) ∧ St (bs w) [own 3 1 x.1 x.2 ((heldL s f lv).map fun n => [.int .i64 n])] w' := by
  refine enter (vs := [_, _, _]) (env := [(0, _), (1, _), (2, _)]) Try.func26 rfl rfl rfl rfl ?_
  refine VC.seq ?_
  refine VC.reg (VO.h rfl <| HO.box (C := #[_, _, _, _, _, _]) rfl rfl fun b1 => VO.l (LO.as (.r rfl)) rfl <| VO.l (LO.as (.r rfl)) rfl <| VO.nil ?_)
  refine VE.seqN ?_
  refine VC.seq ?_
  refine VC.reg (VO.l (LO.lda (vs := [_, _, _, _, _, _]) A70 (.r rfl) (fun _ hw => cells_at hw 0 rfl ⟨_, rfl⟩) rfl) rfl <| VO.l (LO.call (xs := [_]) (vs := [_]) C62 ⟨(.r rfl), trivial⟩ (fun w hw => rCheckField_c f pv cv w (hv.keep w hw))) rfl <| VO.l (LO.as (.r rfl)) rfl <| VO.nil ?_)
  refine VE.seqN ?_
  refine VC.seq ?_
  refine VC.seq ?_
  refine VC.reg (VO.l (LO.mv (.r rfl)) rfl <| VO.l (LO.ne (.r rfl) (.r rfl)) rfl <| VO.nil ?_)
  refine VE.seqN ?_
  refine VC.cond rfl (fun h1 => ?_) (fun h1 => ?_)
  ·
    refine VC.seq ?_
    refine VC.reg (VO.l (LO.mv (.r rfl)) rfl <| VO.l (LO.as (.r rfl)) rfl <| VO.l (LO.as (.r rfl)) rfl <| VO.nil ?_)
    refine VE.seqN ?_
    refine VC.ret (VE.thenR (VE.res (vs := [_, _]) rfl ⟨rfl, rfl, trivial⟩ (fun w hw => ?_)))
    first | exact held_err (hE1 h1) h1 hw | exact held_err (hE2 h1 (by omega)) (by decide) hw | exact held_err (hE3 h1 (by omega) (by omega)) (by decide) hw | exact held_err (hE4 h1 (by omega) (by omega) hz (by omega) (by omega)) (by decide) hw | exact held_ok (hE5 h1 (by omega) (by omega) hz (by omega)) hl (by omega) (hw.sel [0] rfl)
  ·
    have h1 : fieldE 1073741824 f = 0 := by omega
    have hgo := fieldE_ok h1
    refine VC.skip (VE.seqN ?_)
    refine VC.seq ?_
    refine VC.seq ?_
    refine VC.reg (VO.l (LO.mv (.r rfl)) rfl <| VO.l (LO.len S28 (.r rfl) rfl) rfl <| VO.l (LO.fa (r := 5) F70_1 (.r rfl) rfl) rfl <| VO.l (LO.ld O68 (.r rfl) (fun _ hw => cells_at hw 0 rfl ⟨_, rfl⟩)) rfl <| VO.l (LO.len S68 (.r rfl) rfl) rfl <| VO.l (LO.ne (.r rfl) (.r rfl)) rfl <| VO.nil ?_)
    refine VE.seqN ?_
    refine VC.cond rfl (fun h2 => ?_) (fun h2 => ?_)
    ·
      refine VC.seq ?_
      refine VC.reg (VO.l (LO.as (.r rfl)) rfl <| VO.l (LO.as (.r rfl)) rfl <| VO.nil ?_)
      refine VE.seqN ?_
      refine VC.ret (VE.thenR (VE.res (vs := [_, _]) rfl ⟨rfl, rfl, trivial⟩ (fun w hw => ?_)))
      first | exact held_err (hE1 h1) h1 hw | exact held_err (hE2 h1 (by omega)) (by decide) hw | exact held_err (hE3 h1 (by omega) (by omega)) (by decide) hw | exact held_err (hE4 h1 (by omega) (by omega) hz (by omega) (by omega)) (by decide) hw | exact held_ok (hE5 h1 (by omega) (by omega) hz (by omega)) hl (by omega) (hw.sel [0] rfl)
    ·
      refine VC.skip (VE.seqN ?_)
      refine VC.seq ?_
      refine VC.seq ?_
      refine VC.reg (VO.l (LO.mv (.r rfl)) rfl <| VO.l (LO.call (xs := [_, _, _]) (vs := [_, _, _]) C57 ⟨(.r rfl), (.r rfl), (.r rfl), trivial⟩ (fun w _ => In_c _ _ _ w)) rfl <| VO.l (LO.not (.r rfl)) rfl <| VO.nil ?_)
      refine VE.seqN ?_
      refine VC.cond rfl (fun h3 => ?_) (fun h3 => ?_)
      ·
        refine VC.seq ?_
        refine VC.reg (VO.l (LO.as (.r rfl)) rfl <| VO.l (LO.as (.r rfl)) rfl <| VO.nil ?_)
        refine VE.seqN ?_
        refine VC.ret (VE.thenR (VE.res (vs := [_, _]) rfl ⟨rfl, rfl, trivial⟩ (fun w hw => ?_)))
        first | exact held_err (hE1 h1) h1 hw | exact held_err (hE2 h1 (by omega)) (by decide) hw | exact held_err (hE3 h1 (by omega) (by omega)) (by decide) hw | exact held_err (hE4 h1 (by omega) (by omega) hz (by omega) (by omega)) (by decide) hw | exact held_ok (hE5 h1 (by omega) (by omega) hz (by omega)) hl (by omega) (hw.sel [0] rfl)
      ·
        refine VC.skip (VE.seqN ?_)
        refine VC.seq ?_
        refine VC.reg (VO.l (LO.as (.r rfl)) rfl <| VO.nil ?_)
        refine VE.seqN ?_
        refine VC.seq ?_
        refine VC.seq ?_
        refine VC.reg (VO.l (LO.as (.r rfl)) rfl <| VO.nil ?_)
        refine VE.seqN ?_
        refine VC.block ?_
        refine VC.loopK (α := Nat × (List Int) × (Option Addr) × Nat) 0 (fun gx => [(9, .slice gx.2.2.1 gx.2.1.length gx.2.2.2), (10, .int .i64 (gx.1 : Nat))]) [(0, _), (2, _), (4, _)] (fun gx => [own 3 1 gx.2.2.1 gx.2.2.2 (gx.2.1.map fun n => [.int .i64 n])]) (fun gx => (gx.1 ≤ s.length ∧ gx.2.1.length ≤ gx.1) ∧ (∀ k, k < gx.1 → stE s k = 0) ∧ gx.2.1 = heldTo s f lv gx.1) (fun gx => s.length - gx.1) (0, [], none, 0) (by exact ⟨⟨Nat.zero_le _, Nat.le_refl _⟩, fun k hk => absurd hk (Nat.not_lt_zero _), rfl⟩) (.cons rfl (.cons rfl (.cons rfl (.cons rfl (.cons rfl .nil))))) (fun _ h => h.ownNil 3 1) ?_
        rintro ⟨j, l, pr, cr⟩ ⟨hj, hz, hl⟩
        show VC _ _ _ _ _ ([(9, .slice pr l.length cr), (10, .int .i64 (j : Nat))] ++ _) ([own 3 1 pr cr (l.map fun n => [.int .i64 n])] ++ _) _ _
        have hj : j ≤ s.length ∧ l.length ≤ j := hj
        have hl : l = heldTo s f lv j := hl
        have hz : ∀ k, k < j → stE s k = 0 := hz
        refine VC.seq ?_
        refine VC.seq ?_
        refine VC.reg (VO.l (LO.mv (.r rfl)) rfl <| VO.l (LO.mv (.r rfl)) rfl <| VO.l (LO.len S28 (.r rfl) rfl) rfl <| VO.l (LO.lt (.r rfl) (.r rfl)) rfl <| VO.nil ?_)
        refine VE.seqN ?_
        refine VC.cond rfl (fun h4 => ?_) (fun h4 => ?_)
        ·
          refine VC.skip (VE.seqN ?_)
          refine VC.seq ?_
          refine VC.block ?_
          refine VC.seq ?_
          refine VC.seq ?_
          refine VC.reg (VO.l (LO.mv (.r rfl)) rfl <| VO.l (LO.mv (.r rfl)) rfl <| VO.l (LO.ixs S28 N3 hs.some (.r rfl) (.r rfl) rfl (by omega)) rfl <| VO.l (LO.ld O3 (.r rfl) (fun w hw => cells_part (off := 0) ((hs.at (j := j) (by omega)) w hw) ⟨_, rfl⟩)) rfl <| VO.l (LO.call (xs := [_, _, _]) (vs := [_, _, _]) C57 ⟨(.r rfl), (.r rfl), (.r rfl), trivial⟩ (fun w _ => In_c _ _ _ w)) rfl <| VO.l (LO.not (.r rfl)) rfl <| VO.nil ?_)
          refine VE.seqN ?_
          refine VC.cond rfl (fun h5 => ?_) (fun h5 => ?_)
          ·
            refine VC.seq ?_
            refine VC.reg (VO.l (LO.as (.r rfl)) rfl <| VO.l (LO.as (.r rfl)) rfl <| VO.nil ?_)
            refine VE.seqN ?_
            refine VC.ret (VE.thenR (VE.inR (VE.thenR (VE.thenR (VE.inR (VE.thenR (VE.res (vs := [_, _]) rfl ⟨rfl, rfl, trivial⟩ (fun w hw => ?_))))))))
            first | exact held_err (hE1 h1) h1 hw | exact held_err (hE2 h1 (by omega)) (by decide) hw | exact held_err (hE3 h1 (by omega) (by omega)) (by decide) hw | exact held_err (hE4 h1 (by omega) (by omega) hz (by omega) (by omega)) (by decide) hw | exact held_ok (hE5 h1 (by omega) (by omega) hz (by omega)) hl (by omega) (hw.sel [0] rfl)
          ·
            refine VC.skip (VE.seqN ?_)
            refine VC.seq ?_
            refine VC.reg (VO.l (LO.mv (.r rfl)) rfl <| VO.l (LO.mv (.r rfl)) rfl <| VO.l (LO.ixs S28 N3 hs.some (.r rfl) (.r rfl) rfl (by omega)) rfl <| VO.l (LO.ld O3 (.r rfl) (fun w hw => cells_part (off := 0) ((hs.at (j := j) (by omega)) w hw) ⟨_, rfl⟩)) rfl <| VO.l (LO.eq (.r rfl) (.r rfl)) rfl <| VO.l (LO.mv (.r rfl)) rfl <| VO.lg rfl rfl (GD.t _) (fun hg => LO.fa (r := 5) F70_1 (.r rfl) rfl) rfl <| VO.lg rfl rfl (GD.t _) (fun hg => LO.ld O68 (.g hg rfl) (fun _ hw => cells_at hw 1 rfl ⟨_, rfl⟩)) rfl <| VO.lg rfl rfl (GD.t _) (fun hg => LO.mv (.r rfl)) rfl <| VO.lg rfl rfl (GD.t _) (fun hg => LO.ixs S68 N30 hv.some (.g hg rfl) (.g hg rfl) rfl (by omega)) rfl <| VO.lg rfl rfl (GD.t _) (fun hg => LO.fa F30_1 (.g hg rfl) rfl) rfl <| VO.lg rfl rfl (GD.t _) (fun hg => LO.ld O3 (.g hg rfl) (fun w hw => cells_part (off := 1) ((hv.at (j := j) (by omega)) w hw) ⟨_, rfl⟩)) rfl <| VO.lg rfl rfl (GD.t _) (fun hg => LO.mv (.r rfl)) rfl <| VO.lg rfl rfl (GD.t _) (fun hg => LO.lt (.g hg rfl) (.g hg rfl)) rfl <| VO.l (LO.pkA (.r rfl) rfl rfl (.r rfl)) rfl <| VO.l (LO.mv (.r rfl)) rfl <| VO.lg rfl rfl (GD.f _) (fun hg => LO.mv (.r rfl)) rfl <| VO.lg rfl rfl (GD.f _) (fun hg => LO.mv (.r rfl)) rfl <| VO.lg rfl rfl (GD.f _) (fun hg => LO.ixs S28 N3 hs.some (.g hg rfl) (.g hg rfl) rfl (by omega)) rfl <| VO.lg rfl rfl (GD.f _) (fun hg => LO.ld O3 (.g hg rfl) (fun w hw => cells_part (off := 0) ((hs.at (j := j) (by omega)) w hw) ⟨_, rfl⟩)) rfl <| VO.lg rfl rfl (GD.f _) (fun hg => LO.eq (.g hg rfl) (.r rfl)) rfl <| VO.lg rfl rfl (GD.f _) (fun hg => LO.mv (.g hg rfl)) rfl <| VO.lg rfl rfl (GD.nt _ _) (fun hg => LO.fa (r := 5) F70_1 (.r rfl) rfl) rfl <| VO.lg rfl rfl (GD.nt _ _) (fun hg => LO.ld O68 (.g hg rfl) (fun _ hw => cells_at hw 1 rfl ⟨_, rfl⟩)) rfl <| VO.lg rfl rfl (GD.nt _ _) (fun hg => LO.mv (.r rfl)) rfl <| VO.lg rfl rfl (GD.nt _ _) (fun hg => LO.ixs S68 N30 hv.some (.g hg rfl) (.g hg rfl) rfl (by omega)) rfl <| VO.lg rfl rfl (GD.nt _ _) (fun hg => LO.fa F30_0 (.g hg rfl) rfl) rfl <| VO.lg rfl rfl (GD.nt _ _) (fun hg => LO.ld O3 (.g hg rfl) (fun w hw => cells_part (off := 0) ((hv.at (j := j) (by omega)) w hw) ⟨_, rfl⟩)) rfl <| VO.lg rfl rfl (GD.nt _ _) (fun hg => LO.mv (.r rfl)) rfl <| VO.lg rfl rfl (GD.nt _ _) (fun hg => LO.ge (.g hg rfl) (.g hg rfl)) rfl <| VO.lg rfl rfl (GD.f _) (fun hg => LO.pkA (.g hg rfl) rfl (and_e hg) (.r rfl)) rfl <| VO.l (LO.pkO (.r rfl) (.r rfl) rfl rfl) rfl <| VO.nil ?_)
            refine VE.seqN ?_
            refine VC.cond rfl (fun h6 => ?_) (fun h6 => ?_)
            ·
              refine VC.reg (VO.l (LO.mv (.r rfl)) rfl <| VO.l (LO.mv (.r rfl)) rfl <| VO.h rfl <| HO.bs (ps := [(_, _)]) (vs := [(_, _)]) (Z := [_]) (C := [_]) S28 Z3 N3 ⟨(.r rfl), trivial⟩ rfl rfl rfl rfl ⟨_, [_], [_], rfl, rfl, rfl, rfl, rfl⟩ fun b3 => VO.h rfl <| HO.appT ((j : Int)) 1 0 (fun R => [_, R, _]) S28 S28 I3 (.r rfl) (.r rfl) rfl rfl rfl rfl rfl rfl rfl (fun _ => rfl) rfl (by omega) fun p3 c3 => VO.h rfl <| HO.lo (LO.as (.r rfl)) <| VO.nil ?_)
              refine VE.inN (VE.seqN ?_)
              refine VC.reg (VO.l (LO.mv (.r rfl)) rfl <| VO.l (LO.add (.r rfl) (.r rfl) (wi (by omega) (by omega))) rfl <| VO.l (LO.as (.r rfl)) rfl <| VO.nil ?_)
              refine VE.thenN fun a w ha hw => ⟨(j + 1, _, _, _), (by first | exact ⟨by simp; omega, step_zero hz (stE_zero (by omega)), held_y hl (by unfold heldAt; omega)⟩ | exact ⟨by dsimp only; omega, step_zero hz (stE_zero (by omega)), held_n hl (by unfold heldAt; omega)⟩), (by dsimp only; omega), ha.sub (.cons rfl (.cons rfl (.cons rfl (.cons rfl (.cons rfl .nil))))), hw.sel [1, 2] rfl⟩
            ·
              refine VC.skip (VE.inN (VE.seqN ?_))
              refine VC.reg (VO.l (LO.mv (.r rfl)) rfl <| VO.l (LO.add (.r rfl) (.r rfl) (wi (by omega) (by omega))) rfl <| VO.l (LO.as (.r rfl)) rfl <| VO.nil ?_)
              refine VE.thenN fun a w ha hw => ⟨(j + 1, _, _, _), (by first | exact ⟨by simp; omega, step_zero hz (stE_zero (by omega)), held_y hl (by unfold heldAt; omega)⟩ | exact ⟨by dsimp only; omega, step_zero hz (stE_zero (by omega)), held_n hl (by unfold heldAt; omega)⟩), (by dsimp only; omega), ha.sub (.cons rfl (.cons rfl (.cons rfl (.cons rfl (.cons rfl .nil))))), hw⟩
        ·
          refine VC.exit (VE.thenX (VE.thenX (VE.inX (VE.seqN ?_))))
          refine VC.seq ?_
          refine VC.reg (VO.l (LO.mv (.r rfl)) rfl <| VO.l (LO.as (.r rfl)) rfl <| VO.l (LO.as (.r rfl)) rfl <| VO.nil ?_)
          refine VE.seqN ?_
          refine VC.ret (VE.res (vs := [_, _]) rfl ⟨rfl, rfl, trivial⟩ (fun w hw => ?_))
          first | exact held_err (hE1 h1) h1 hw | exact held_err (hE2 h1 (by omega)) (by decide) hw | exact held_err (hE3 h1 (by omega) (by omega)) (by decide) hw | exact held_err (hE4 h1 (by omega) (by omega) hz (by omega) (by omega)) (by decide) hw | exact held_ok (hE5 h1 (by omega) (by omega) hz (by omega)) hl (by omega) (hw.sel [0] rfl)

set_option maxRecDepth 20000 in
theorem CastHeld_c (s : List Int) (ps : Option Addr) (cs : Nat) (f : Field) (pv : Option Addr) (cv : Nat) (lv : Int) (w : World) (hs : Ints w ps s) (hv : Spans w pv f.vals) :
  Calls Try.prog 8 #[.slice ps s.length cs, .agg #[.int .i64 f.g.x, .int .i64 f.g.y, .int .i64 f.g.size, .int .i64 f.g.wide, .int .i64 f.g.high, .slice pv f.vals.length cv], .int .i64 lv] w fun e w' => e = .returned (.bool true) ∧ St (bs w) [] w' := by
  refine enter (vs := [_, _, _]) (env := [(0, _), (1, _), (2, _)]) Try.func8 rfl rfl rfl rfl ?_
  refine VC.seq ?_
  refine VC.reg (VO.h rfl <| HO.box (C := #[_, _, _, _, _, _]) rfl rfl fun b1 => VO.l (LO.as (.r rfl)) rfl <| VO.nil ?_)
  refine VE.seqN ?_
  refine VC.seq ?_
  refine VC.seq ?_
  refine VC.reg (VO.l (LO.mv (.r rfl)) rfl <| VO.l (LO.len S28 (.r rfl) rfl) rfl <| VO.l (LO.gt (.r rfl) (.r rfl)) rfl <| VO.l (LO.mv (.r rfl)) rfl <| VO.lg rfl rfl (GD.f _) (fun hg => LO.fa (r := 5) F70_1 (.r rfl) rfl) rfl <| VO.lg rfl rfl (GD.f _) (fun hg => LO.ld O68 (.g hg rfl) (fun _ hw => cells_at hw 0 rfl ⟨_, rfl⟩)) rfl <| VO.lg rfl rfl (GD.f _) (fun hg => LO.len S68 (.g hg rfl) rfl) rfl <| VO.lg rfl rfl (GD.f _) (fun hg => LO.gt (.g hg rfl) (.r rfl)) rfl <| VO.l (LO.pkO (.r rfl) (.r rfl) rfl rfl) rfl <| VO.nil ?_)
  refine VE.seqN ?_
  refine VC.cond rfl (fun h1 => ?_) (fun h1 => ?_)
  ·
    refine VC.seq ?_
    refine VC.reg (VO.l (LO.call (xs := []) (vs := []) C14 trivial (fun w _ => works_c w)) rfl <| VO.l (LO.as (.r rfl)) rfl <| VO.nil ?_)
    refine VE.seqN ?_
    refine VC.ret (VE.thenR (VE.res (vs := [_]) rfl ⟨rfl, trivial⟩ (fun w hw => ?_)))
    first | exact ⟨rfl, hw.nil⟩ | exact ⟨by simp [resV], hw.nil⟩
  ·
    refine VC.skip (VE.seqN ?_)
    refine VC.seq ?_
    refine VC.reg (VO.l (LO.mv (.r rfl)) rfl <| VO.l (LO.lda (vs := [_, _, _, _, _, _]) A70 (.r rfl) (fun _ hw => cells_at hw 0 rfl ⟨_, rfl⟩) rfl) rfl <| VO.l (LO.mv (.r rfl)) rfl <| VO.h rfl <| HO.callx (xs := [_, _, _]) (vs := [_, _, _]) C25 ⟨(.r rfl), (.r rfl), (.r rfl), trivial⟩ (fun w hw => Held_c s ps cs f pv cv lv w (hs.keep w hw) (hv.keep w hw)) fun x _ => VO.h rfl <| HO.lo (LO.mv (.r rfl)) <| VO.h rfl <| HO.lo (LO.ex (.r rfl) rfl) <| VO.h rfl <| HO.lo (LO.ex (.r rfl) rfl) <| VO.h rfl <| HO.lo (LO.as (.r rfl)) <| VO.h rfl <| HO.lo (LO.as (.r rfl)) <| VO.nil ?_)
    refine VE.seqN ?_
    refine VC.seq ?_
    refine VC.reg (VO.l (LO.mv (.r rfl)) rfl <| VO.l (LO.lda (vs := [_, _, _, _, _, _]) A70 (.r rfl) (fun _ hw => cells_at hw 1 rfl ⟨_, rfl⟩) rfl) rfl <| VO.l (LO.mv (.r rfl)) rfl <| VO.h rfl <| HO.callx (xs := [_, _, _]) (vs := [_, _, _]) C26 ⟨(.r rfl), (.r rfl), (.r rfl), trivial⟩ (fun w hw => rHeld_c s ps cs f pv cv lv w (hs.keep w hw) (hv.keep w hw)) fun y _ => VO.h rfl <| HO.lo (LO.mv (.r rfl)) <| VO.h rfl <| HO.lo (LO.ex (.r rfl) rfl) <| VO.h rfl <| HO.lo (LO.ex (.r rfl) rfl) <| VO.h rfl <| HO.lo (LO.as (.r rfl)) <| VO.h rfl <| HO.lo (LO.as (.r rfl)) <| VO.nil ?_)
    refine VE.seqN ?_
    refine VC.seq ?_
    refine VC.reg (VO.l (LO.mv (.r rfl)) rfl <| VO.l (LO.mv (.r rfl)) rfl <| VO.l (LO.call (xs := [_, _]) (vs := [_, _]) C19 ⟨(.r rfl), (.r rfl), trivial⟩ (fun w hw => ints_c x.1 y.1 _ _ x.2 y.2 w heldL_lt heldL_lt (own_rows hw 1 rfl) (own_rows hw 0 rfl))) rfl <| VO.l (LO.mv (.r rfl)) rfl <| VO.lg rfl rfl (GD.t _) (fun hg => LO.mv (.r rfl)) rfl <| VO.lg rfl rfl (GD.t _) (fun hg => LO.mv (.r rfl)) rfl <| VO.lg rfl rfl (GD.t _) (fun hg => LO.eq (.g hg rfl) (.g hg rfl)) rfl <| VO.l (LO.pkA (.r rfl) rfl rfl (.r rfl)) rfl <| VO.l (LO.mv (.r rfl)) rfl <| VO.lg rfl rfl (GD.t _) (fun hg => LO.call (xs := []) (vs := []) C14 trivial (fun w _ => works_c w)) rfl <| VO.l (LO.pkA (.r rfl) rfl rfl (.r rfl)) rfl <| VO.l (LO.as (.r rfl)) rfl <| VO.nil ?_)
    refine VE.seqN ?_
    refine VC.ret (VE.res (vs := [_]) rfl ⟨rfl, trivial⟩ (fun w hw => ?_))
    first | exact ⟨rfl, hw.nil⟩ | exact ⟨by simp [resV], hw.nil⟩

end Go.Proofs.Ytdcjeoamhjplmaa
