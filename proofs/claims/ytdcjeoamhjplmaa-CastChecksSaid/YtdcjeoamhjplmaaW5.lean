/-
  The walk of a pixel's state.
-/
import Derived.Test.YtdcjeoamhjplmaaW4
namespace Go.Proofs.Ytdcjeoamhjplmaa
open Go.SL Go.Proofs Go.Cast
set_option linter.unusedVariables false

theorem C95 : IsFn Try.prog 95 := ⟨_, Try.func95, by decide, rfl⟩
theorem Z125 : ZeroOf Try.prog 125 (.int .i64 0) := by unfold ZeroOf; kernel_rfl
theorem Z4 : ZeroOf Try.prog 4 (.bool false) := by unfold ZeroOf; kernel_rfl
theorem N4 : (Try.prog.info? 4).map (·.size) = some 1 := by kernel_rfl
theorem N125 : (Try.prog.info? 125).map (·.size) = some 1 := by kernel_rfl
theorem C84 : IsFn Try.prog 84 := ⟨_, Try.func84, by decide, rfl⟩
theorem O4 : IsOne Try.prog 4 := ⟨⟨_, Try.underlying4, rfl⟩, by kernel_rfl⟩
theorem F120_1 : FieldAt Try.prog 120 1 5 := ⟨_, _, Try.underlying120, rfl, rfl, 0, by kernel_rfl⟩
theorem O118 : IsOne Try.prog 118 := ⟨⟨_, Try.underlying118, rfl⟩, by kernel_rfl⟩
theorem F120_2 : FieldAt Try.prog 120 2 6 := ⟨_, _, Try.underlying120, rfl, rfl, 0, by kernel_rfl⟩
theorem O125 : IsOne Try.prog 125 := ⟨⟨_, Try.underlying125, rfl⟩, by kernel_rfl⟩


def stateOf (g : Grid) (c : Cloud) (p t : Int) : Int := if (srcs g c p t).all (memB c.sure) then 2 else if (srcs g c p t).any (memB c.may) then 1 else 0
/-- What 'at' holds behind some sources. -/
def atI (l : List Int) (c : Cloud) (n : Nat) (x : Bool × Int × Int) : Prop := x.1 = (l.take n).all (memB c.sure) ∧ x.2.1 = (if (l.take n).any (memB c.may) then 1 else 0) ∧ x.2.2 = 0
theorem take_at {l : List Int} {n : Nat} {v : Int} (hv : l[n]? = some v) : l.take (n + 1) = l.take n ++ [v] := by
  rw [List.take_add_one, hv]; rfl
theorem atI_step1 {l : List Int} {c : Cloud} {n : Nat} {xa : Bool} {xm xr v : Int} (h : atI l c n (xa, xm, xr)) (hv : l[n]? = some v) (h5 : memB c.may v = true) : atI l c (n + 1) (xa && memB c.sure v, 1, xr) := by
  obtain ⟨h1, h2, h3⟩ := h
  refine ⟨?_, ?_, h3⟩
  · rw [take_at hv, List.all_append, ← h1]; simp
  · rw [take_at hv, List.any_append]; simp [h5]
theorem atI_step0 {l : List Int} {c : Cloud} {n : Nat} {xa : Bool} {xm xr v : Int} (h : atI l c n (xa, xm, xr)) (hv : l[n]? = some v) (h5 : ¬ memB c.may v = true) : atI l c (n + 1) (xa && memB c.sure v, xm, xr) := by
  obtain ⟨h1, h2, h3⟩ := h
  refine ⟨?_, ?_, h3⟩
  · rw [take_at hv, List.all_append, ← h1]; simp
  · rw [take_at hv, List.any_append]
    simp only [Bool.not_eq_true] at h5
    simpa [h5] using h2
theorem st_stop {g : Grid} {c : Cloud} {p t : Int} {n : Nat} {xa : Bool} {xm xr : Int} (h : atI (srcs g c p t) c n (xa, xm, xr)) (k : ¬ xa = true ∧ xm = 1) : stateOf g c p t = 1 := by
  obtain ⟨h1, h2, h3⟩ := h
  have ha : ¬ (srcs g c p t).all (memB c.sure) = true := fun q => k.1 (by
    have h1' : xa = ((srcs g c p t).take n).all (memB c.sure) := h1
    rw [h1', List.all_eq_true]
    intro y hy
    exact List.all_eq_true.1 q y (List.mem_of_mem_take hy))
  have hm : (srcs g c p t).any (memB c.may) = true := by
    have h2' : xm = if ((srcs g c p t).take n).any (memB c.may) = true then 1 else 0 := h2
    by_cases q : ((srcs g c p t).take n).any (memB c.may) = true
    · obtain ⟨y, hy, hb⟩ := List.any_eq_true.1 q
      exact List.any_eq_true.2 ⟨y, List.mem_of_mem_take hy, hb⟩
    · rw [if_neg q] at h2'; omega
  unfold stateOf
  rw [if_neg ha, if_pos hm]
theorem atI_full {g : Grid} {c : Cloud} {p t : Int} {f : Int → List Value} {x : Bool × Int × Int} (h : atI (srcs g c p t) c ((srcs g c p t).map f).length x) : x.1 = (srcs g c p t).all (memB c.sure) ∧ x.2.1 = (if (srcs g c p t).any (memB c.may) then 1 else 0) ∧ x.2.2 = 0 := by
  unfold atI at h
  rw [List.length_map, List.take_length] at h
  exact h
theorem st_t {g : Grid} {c : Cloud} {p t : Int} {x : Bool × Int × Int} (h : x.1 = (srcs g c p t).all (memB c.sure) ∧ x.2.1 = (if (srcs g c p t).any (memB c.may) then 1 else 0) ∧ x.2.2 = 0) (k : x.1 = true) : 2 = stateOf g c p t := by
  unfold stateOf; rw [← h.1, if_pos k]
theorem st_f {g : Grid} {c : Cloud} {p t : Int} {x : Bool × Int × Int} (h : x.1 = (srcs g c p t).all (memB c.sure) ∧ x.2.1 = (if (srcs g c p t).any (memB c.may) then 1 else 0) ∧ x.2.2 = 0) (k : ¬ x.1 = true) : x.2.1 = stateOf g c p t := by
  unfold stateOf; rw [← h.1, if_neg k, h.2.1]
theorem atI_zero {l : List Int} {c : Cloud} : atI l c 0 (true, 0, 0) := by simp [atI]
theorem row_of {l : List Int} {n : Nat} {vs : List Value} (h : (l.map fun n => [Value.int .i64 n])[n]? = some vs) : ∃ v, vs = [.int .i64 v] ∧ l[n]? = some v := by
  rw [List.getElem?_map] at h
  cases q : l[n]? with
  | none => rw [q] at h; cases h
  | some v => rw [q] at h; cases h; exact ⟨v, rfl, rfl⟩
theorem cells_inv {w : World} {b : Nat} {C : Array Value} {E : TypeId} (h : (blk b (.cells C E)).inv w) : Cells w ⟨b, 0, none⟩ C.toList :=
  cells_blk (L := [blk b (.cells C E)]) 0 rfl ⟨[], by simp⟩ w (St.one h (fun k hk => by have : k = b := hk; subst this; exact (Array.getElem?_eq_some_iff.1 h).1))
theorem set_keep {w0 w1 w : World} {L0 L : List Res} {b : Nat} {S : Int → Bool} (h : (setR b S).inv w0) (h1 : St (bs w0) L0 w1) (h2 : St ⟨w1, fpL L0⟩ L w) : (setR b S).inv w := by
  have hk := h1.back h2
  refine (setR b S).loc (fun k hkb => ?_) h
  obtain ⟨es, cl, hb, _⟩ := h
  have : k = b := hkb
  subst this
  exact (hk.fr k (Array.getElem?_eq_some_iff.1 hb).1 (fun f => f)).symm ▸ rfl

set_option maxRecDepth 20000 in
theorem at_c (g : Grid) (cl : Cloud) (a b : Nat) (p t : Int) (w : World) (hg : gridOk g) (hf : flowOk cl.flow) (hr1 : 0 ≤ cl.grow) (hr2 : cl.grow ≤ 10000) (ht1 : 0 ≤ t) (ht2 : t ≤ 7200) (hp1 : 0 ≤ p) (hp2 : p < g.wide * g.high) (hsa : (setR a (memB cl.sure)).inv w) (hsb : (setR b (memB cl.may)).inv w) :
  Calls Try.prog 54 #[shapeV a b g cl, .int .i64 p, .int .i64 t] w fun e w' => e = .returned (.int .i64 (stateOf g cl p t)) ∧ St (bs w) [] w' := by
  refine enter (vs := [_, _, _]) (env := [(0, _), (1, _), (2, _)]) Try.func54 rfl rfl rfl rfl ?_
  refine VC.seq ?_
  refine VC.reg (VO.h rfl <| HO.box (C := #[_, _, _, _, _, _, _, _, _, _, _, _]) rfl rfl fun b1 => VO.h rfl <| HO.alloc (C := #[_]) Z125 rfl fun b2 => VO.nil ?_)
  refine VE.seqN ?_
  refine VC.seq ?_
  refine VC.reg (VO.h rfl <| HO.alloc (C := #[_]) Z4 rfl fun b3 => VO.h rfl <| HO.alloc (C := #[_]) Z125 rfl fun b4 => VO.h0 <| HO.st 1 (vs := [_]) (C' := [_]) (L' := [_, _, _, _]) N4 rfl rfl rfl rfl rfl rfl rfl rfl <| VO.h0 <| HO.st 0 (vs := [_]) (C' := [_]) (L' := [_, _, _, _]) N125 rfl rfl rfl rfl rfl rfl rfl rfl <| VO.nil ?_)
  refine VE.seqN ?_
  refine VC.seq ?_
  refine VC.seq ?_
  refine VC.reg (VO.l (LO.lda (vs := [_, _, _, _, _, _, _, _, _, _, _, _]) A120 (.r rfl) (fun _ hw => cells_at hw 3 rfl ⟨_, rfl⟩) rfl) rfl <| VO.l (LO.mv (.r rfl)) rfl <| VO.l (LO.mv (.r rfl)) rfl <| VO.h rfl <| HO.callx (xs := [_, _, _]) (vs := [_, _, _]) C84 ⟨(.r rfl), (.r rfl), (.r rfl), trivial⟩ (fun w hw => sources_c g cl a b p t w) fun q hq => VO.nil ?_)
  refine VE.seqN ?_
  refine VC.block ?_
  refine VC.rangeFunc (α := Bool × Int × Int) (fun x => [blk q.2.2 (.cells #[.int .i64 t] 3), blk q.2.1 (.cells #[.int .i64 p] 3), blk q.1 (.cells (shapeC a b g cl) 120), blk b4 (.cells #[.int .i64 x.2.1] 125), blk b3 (.cells #[.bool x.1] 4), blk b2 (.cells #[.int .i64 x.2.2] 125), blk b1 (.cells (shapeC a b g cl) 120)]) (fun n x => atI (srcs g cl p t) cl n x) (fun c n x => c = Code.ret ∧ x.2.2 = 1 ∧ stateOf g cl p t = 1) (true, 0, 0) (fun vs => [(9, vs.getD 0 (.bool false)), (3, .pointer (some ⟨b1, 0, none⟩)), (6, .pointer (some ⟨b2, 0, none⟩)), (7, .pointer (some ⟨b3, 0, none⟩)), (8, .pointer (some ⟨b4, 0, none⟩))]) rfl C95 (sources_seq g cl a b q.2.1 q.1 q.2.2 p t hg hf hr1 hr2 ht1 ht2 hp1 hp2) (fun _ h => h) (atI_zero) (fun vs hv => by obtain ⟨n, _, rfl⟩ := List.mem_map.1 hv; rfl) (by decide) (fun n x w _ h => ⟨cells_inv (h 1 _ rfl), cells_inv (h 2 _ rfl), cells_inv (h 0 _ rfl)⟩) ?_ ?_ ?_ ?_
  ·
    intro n x vs l T w1 hI hxs hst
    obtain ⟨v, rfl, hv⟩ := row_of hxs
    obtain ⟨xa, xm, xr⟩ := x
    refine VC.reg (VO.l (LO.as (.r rfl)) rfl <| VO.nil ?_)
    exact fun a w ha hw => ⟨rfl, ha.sub (.cons rfl (.cons rfl (.cons rfl (.cons rfl (.cons rfl .nil))))), hw⟩
  ·
    intro n x vs l T w1 hI hxs hst
    obtain ⟨v, rfl, hv⟩ := row_of hxs
    obtain ⟨xa, xm, xr⟩ := x
    refine VC.block ?_
    refine VC.seq ?_
    refine VC.reg (VO.l (LO.ld O4 (.r rfl) (fun _ hw => cells_at hw 4 rfl ⟨_, rfl⟩)) rfl <| VO.l (LO.mv (.r rfl)) rfl <| VO.lg rfl rfl (GD.t _) (fun hg => LO.fa (r := 5) F120_1 (.r rfl) rfl) rfl <| VO.lg rfl rfl (GD.t _) (fun hg => LO.ld O118 (.g hg rfl) (fun _ hw => cells_at hw 6 rfl ⟨_, rfl⟩)) rfl <| VO.lg rfl rfl (GD.t _) (fun hg => LO.mv (.r rfl)) rfl <| VO.lg rfl rfl (GD.t _) (fun hg => LO.lk M118 (.g hg rfl) (.g hg rfl) (fun _ hw => set_keep hsa hst hw)) rfl <| VO.l (LO.pkA (.r rfl) rfl rfl (.r rfl)) rfl <| VO.h0 <| HO.st 4 (vs := [_]) (C' := [_]) N4 rfl rfl rfl rfl rfl rfl rfl rfl <| VO.nil ?_)
    refine VE.seqN ?_
    refine VC.seq ?_
    refine VC.seq ?_
    refine VC.reg (VO.l (LO.fa (r := 6) F120_2 (.r rfl) rfl) rfl <| VO.l (LO.ld O118 (.r rfl) (fun _ hw => cells_at hw 6 rfl ⟨_, rfl⟩)) rfl <| VO.l (LO.mv (.r rfl)) rfl <| VO.l (LO.lk M118 (.r rfl) (.r rfl) (fun _ hw => set_keep hsb hst hw)) rfl <| VO.nil ?_)
    refine VE.seqN ?_
    refine VC.cond rfl (fun h5 => ?_) (fun h5 => ?_)
    ·
      refine VC.reg (VO.h0 <| HO.st 3 (vs := [_]) (C' := [_]) N125 rfl rfl rfl rfl rfl rfl rfl rfl <| VO.nil ?_)
      refine VE.seqN ?_
      refine VC.seq ?_
      refine VC.reg (VO.l (LO.ld O4 (.r rfl) (fun _ hw => cells_at hw 4 rfl ⟨_, rfl⟩)) rfl <| VO.l (LO.not (.r rfl)) rfl <| VO.l (LO.mv (.r rfl)) rfl <| VO.lg rfl rfl (GD.t _) (fun hg => LO.ld O125 (.r rfl) (fun _ hw => cells_at hw 3 rfl ⟨_, rfl⟩)) rfl <| VO.lg rfl rfl (GD.t _) (fun hg => LO.eq (.g hg rfl) (.r rfl)) rfl <| VO.l (LO.pkA (.r rfl) rfl rfl (.r rfl)) rfl <| VO.nil ?_)
      refine VE.seqN ?_
      refine VC.cond rfl (fun h6 => ?_) (fun h6 => ?_)
      ·
        refine VC.seq ?_
        refine VC.reg (VO.h0 <| HO.st 5 (vs := [_]) (C' := [_]) N125 rfl rfl rfl rfl rfl rfl rfl rfl <| VO.nil ?_)
        refine VE.seqN ?_
        refine VC.ret (VE.inR ?_)
        first
        | exact fun a w ha hw => ⟨(xa && memB cl.sure v, 1, 1), ⟨rfl, rfl, st_stop (atI_step1 hI hv h5) ⟨by simpa using h6.1, h6.2⟩⟩, hw⟩
        | exact fun a w ha hw => ⟨(xa && memB cl.sure v, xm, 1), ⟨rfl, rfl, st_stop (atI_step0 hI hv h5) ⟨by simpa using h6.1, h6.2⟩⟩, hw⟩
      ·
        refine VC.skip (VE.inN ?_)
        first
        | exact fun a w ha hw => ⟨(xa && memB cl.sure v, 1, xr), atI_step1 hI hv h5, hw⟩
        | exact fun a w ha hw => ⟨(xa && memB cl.sure v, xm, xr), atI_step0 hI hv h5, hw⟩
    ·
      refine VC.skip (VE.seqN ?_)
      refine VC.seq ?_
      refine VC.reg (VO.l (LO.ld O4 (.r rfl) (fun _ hw => cells_at hw 4 rfl ⟨_, rfl⟩)) rfl <| VO.l (LO.not (.r rfl)) rfl <| VO.l (LO.mv (.r rfl)) rfl <| VO.lg rfl rfl (GD.t _) (fun hg => LO.ld O125 (.r rfl) (fun _ hw => cells_at hw 3 rfl ⟨_, rfl⟩)) rfl <| VO.lg rfl rfl (GD.t _) (fun hg => LO.eq (.g hg rfl) (.r rfl)) rfl <| VO.l (LO.pkA (.r rfl) rfl rfl (.r rfl)) rfl <| VO.nil ?_)
      refine VE.seqN ?_
      refine VC.cond rfl (fun h6 => ?_) (fun h6 => ?_)
      ·
        refine VC.seq ?_
        refine VC.reg (VO.h0 <| HO.st 5 (vs := [_]) (C' := [_]) N125 rfl rfl rfl rfl rfl rfl rfl rfl <| VO.nil ?_)
        refine VE.seqN ?_
        refine VC.ret (VE.inR ?_)
        first
        | exact fun a w ha hw => ⟨(xa && memB cl.sure v, 1, 1), ⟨rfl, rfl, st_stop (atI_step1 hI hv h5) ⟨by simpa using h6.1, h6.2⟩⟩, hw⟩
        | exact fun a w ha hw => ⟨(xa && memB cl.sure v, xm, 1), ⟨rfl, rfl, st_stop (atI_step0 hI hv h5) ⟨by simpa using h6.1, h6.2⟩⟩, hw⟩
      ·
        refine VC.skip (VE.inN ?_)
        first
        | exact fun a w ha hw => ⟨(xa && memB cl.sure v, 1, xr), atI_step1 hI hv h5, hw⟩
        | exact fun a w ha hw => ⟨(xa && memB cl.sure v, xm, xr), atI_step0 hI hv h5, hw⟩
  ·
    intro D x hI
    obtain ⟨xa, xm, xr⟩ := x
    have hE := atI_full hI
    refine VE.inN (VE.seqN ?_)
    refine VC.seq ?_
    refine VC.seq ?_
    refine VC.reg (VO.l (LO.ld O4 (.r rfl) (fun _ hw => cells_at hw 4 rfl ⟨_, rfl⟩)) rfl <| VO.nil ?_)
    refine VE.seqN ?_
    refine VC.cond rfl (fun h9 => ?_) (fun h9 => ?_)
    ·
      refine VC.seq ?_
      refine VC.reg (VO.h0 <| HO.st 5 (vs := [_]) (C' := [_]) N125 rfl rfl rfl rfl rfl rfl rfl rfl <| VO.nil ?_)
      refine VE.seqN ?_
      refine VC.ret (VE.thenR (VE.resD 7 (vs := [_]) rfl rfl rfl ⟨RV.one O125 rfl (cells_blk 5 rfl ⟨_, rfl⟩), trivial⟩ (fun w hw => ?_)))
      refine ⟨?_, hw.nil⟩
      simp only [resV]
      congr 2
      first | exact hs.symm | exact st_t hE h9 | exact st_f hE h9
    ·
      refine VC.skip (VE.seqN ?_)
      refine VC.seq ?_
      refine VC.reg (VO.l (LO.ld O125 (.r rfl) (fun _ hw => cells_at hw 3 rfl ⟨_, rfl⟩)) rfl <| VO.h0 <| HO.st 5 (vs := [_]) (C' := [_]) N125 rfl rfl rfl rfl rfl rfl rfl rfl <| VO.nil ?_)
      refine VE.seqN ?_
      refine VC.ret (VE.resD 7 (vs := [_]) rfl rfl rfl ⟨RV.one O125 rfl (cells_blk 5 rfl ⟨_, rfl⟩), trivial⟩ (fun w hw => ?_))
      refine ⟨?_, hw.nil⟩
      simp only [resV]
      congr 2
      first | exact hs.symm | exact st_t hE h9 | exact st_f hE h9
  ·
    intro D c n x hn hI
    obtain ⟨xa, xm, xr⟩ := x
    obtain ⟨hc, hr, hs⟩ := hI
    subst hc
    have hr : xr = 1 := hr
    subst hr
    refine VC.ret (VE.inR (VE.thenR (VE.resD 7 (vs := [_]) rfl rfl rfl ⟨RV.one O125 rfl (cells_blk 5 rfl ⟨_, rfl⟩), trivial⟩ (fun w hw => ?_))))
    refine ⟨?_, hw.nil⟩
    simp only [resV]
    congr 2
    first | exact hs.symm | exact st_t hE h9 | exact st_f hE h9

end Go.Proofs.Ytdcjeoamhjplmaa
