/-
  What the laws about offices ask of their arguments.
  What a reading says of the arguments of the laws about offices.
  What is no office is nothing.
  IssueNil is walked.
-/
import Derived.Test.YtdjflomhaljljaaKNI06

namespace Go.Proofs.Ytdjflomhaljljaa
open Go.SL Go.Proofs Go.Cast
set_option linter.unusedVariables false

theorem C14 : IsFn Try.prog 14 := ⟨_, Try.func14, by decide, rfl⟩
theorem Z40 : ZeroOf Try.prog 40 (.agg #[.int .i64 0, .int .i64 0, .int .i64 0, .int .i64 0, .int .i64 0, .slice none 0 0, .int .i64 0, .int .i64 0, .int .i64 0]) := by unfold ZeroOf; kernel_rfl
theorem A26 : IsAgg Try.prog 26 3 := ⟨⟨_, Try.underlying26, rfl⟩, by kernel_rfl⟩
theorem B40 : Builds Try.prog 40 [(0, 5), (5, 1), (6, 3)] [.int .i64 0, .int .i64 0, .int .i64 0, .int .i64 0, .int .i64 0, .slice none 0 0, .int .i64 0, .int .i64 0, .int .i64 0] := Builds.mk fun _ => by kernel_rfl
theorem N40 : (Try.prog.info? 40).map (·.size) = some 9 := by kernel_rfl
theorem B138 : Builds Try.prog 138 [(0, 1), (1, 1)] [.string ByteArray.empty, .slice none 0 0] := Builds.mk fun _ => by kernel_rfl
theorem I138 : EInfo Try.prog 138 2 40 (.agg #[.string ByteArray.empty, .slice none 0 0]) := ⟨by kernel_rfl, by kernel_rfl, by unfold ZeroOf; kernel_rfl, rfl, by decide⟩
theorem N37 : (Try.prog.info? 37).map (·.size) = some 1 := by kernel_rfl
theorem B139 : Builds Try.prog 139 [(0, 2), (2, 2)] [.int .i64 0, .int .i64 0, .int .i64 0, .int .i64 0] := Builds.mk fun _ => by kernel_rfl
theorem B141 : Builds Try.prog 141 [(0, 1), (1, 1), (2, 4), (6, 1)] [.slice none 0 0, .slice none 0 0, .int .i64 0, .int .i64 0, .int .i64 0, .int .i64 0, .int .i64 0] := Builds.mk fun _ => by kernel_rfl
theorem Z141 : ZeroOf Try.prog 141 (.agg #[.slice none 0 0, .slice none 0 0, .int .i64 0, .int .i64 0, .int .i64 0, .int .i64 0, .int .i64 0]) := by unfold ZeroOf; kernel_rfl
theorem I141 : EInfo Try.prog 141 7 88 (.agg #[.slice none 0 0, .slice none 0 0, .int .i64 0, .int .i64 0, .int .i64 0, .int .i64 0, .int .i64 0]) := ⟨by kernel_rfl, by kernel_rfl, by unfold ZeroOf; kernel_rfl, rfl, by decide⟩


structure RegsU (w : World) (p : Option Addr) (l : List RG) : Prop where
  rows : Go.SL.Rows w 2 p (l.map RG.cells)
  ok : ∀ x, x ∈ l → Ints w x.px x.r.pix
theorem RegsU.sm {w : World} {p : Option Addr} {l : List RG} (h : RegsU w p l) : SlSome p l.length := Go.SL.Rows.some h.rows (by simp)
theorem RegsU.at {w0 : World} {p : Option Addr} {l : List RG} (h : RegsU w0 p l) {L : List Res} {j : Nat} {x : RG} (hx : l[j]? = some x) : ∀ w, St (bs w0) L w → Cells w ⟨pb p, po p + j * 2, none⟩ x.cells :=
  fun w hw => (h.rows.keep w hw).cells j _ (by rw [List.getElem?_map, hx]; rfl)
def FewR (l : List RG) : Prop := l.length ≤ 100 ∧ ∀ x, x ∈ l → x.r.pix.length ≤ 70
def FewC (l : List CP) : Prop := l.length ≤ 100 ∧ ∀ x, x ∈ l → x.c.sure.length ≤ 60 ∧ x.c.may.length ≤ 60
theorem RegsU.regs {w : World} {p : Option Addr} {l : List RG} (h : RegsU w p l) (hf : FewR l) : Regs w p l := ⟨h.rows, fun x hx => ⟨h.ok x hx, by have := hf.2 x hx; omega⟩⟩
structure CldU (w : World) (p : Option Addr) (l : List CP) : Prop where
  rows : Go.SL.Rows w 7 p (l.map CP.cells)
  ok : ∀ x, x ∈ l → Ints w x.ps x.c.sure ∧ Ints w x.pm x.c.may
theorem CldU.sl {w : World} {p : Option Addr} {l : List CP} (h : CldU w p l) : SlSome p l.length := Go.SL.Rows.some h.rows (by simp)
theorem CldU.at {w0 : World} {p : Option Addr} {l : List CP} (h : CldU w0 p l) {L : List Res} {j : Nat} {x : CP} (hx : l[j]? = some x) : ∀ w, St (bs w0) L w → Cells w ⟨pb p, po p + j * 7, none⟩ x.cells :=
  fun w hw => (h.rows.keep w hw).cells j _ (by rw [List.getElem?_map, hx]; rfl)
theorem CldU.keep {w0 w : World} {L : List Res} {p : Option Addr} {l : List CP} (h : CldU w0 p l) (hw : St (bs w0) L w) : CldU w p l := ⟨h.rows.keep w hw, fun x hx => ⟨(h.ok x hx).1.keep w hw, (h.ok x hx).2.keep w hw⟩⟩
theorem CldU.clouds {w : World} {p : Option Addr} {l : List CP} (h : CldU w p l) (hf : FewC l) : Clouds w p l := ⟨h.rows, fun x hx => ⟨(h.ok x hx).1, (h.ok x hx).2, by have := hf.2 x hx; omega, by have := hf.2 x hx; omega⟩⟩
theorem mem_step {α : Type} {P : α → Prop} {l : List α} {i : Nat} {x : α} (h : ∀ y, y ∈ l.take i → P y) (hx : l[i]? = some x) (hp : P x) : ∀ y, y ∈ l.take (i + 1) → P y := by
  rw [List.take_add_one, hx]
  intro y hy
  simp only [Option.toList_some, List.mem_append, List.mem_singleton] at hy
  rcases hy with q | rfl
  · exact h y q
  · exact hp

set_option maxRecDepth 20000 in
theorem few_c (g : Grid) (l : List RG) (pl : Option Addr) (cl : Nat) (a b d : Int) (w : World) (hl : RegsU w pl l) :
  Calls Try.prog 12 #[specV g pl l.length cl a b d] w fun e w' => ∃ z : Bool, (z = true → FewR l) ∧ e = .returned (.bool z) ∧ St (bs w) [] w' := by
  refine enter (vs := [_]) (env := [(0, _)]) Try.func12 rfl rfl rfl rfl ?_
  refine VC.seq ?_
  refine VC.reg (VO.h rfl <| HO.box (C := #[_, _, _, _, _, _, _, _, _]) rfl rfl fun b1 => VO.l (LO.as (.r rfl)) rfl <| VO.nil ?_)
  refine VE.seqN ?_
  refine VC.seq ?_
  refine VC.seq ?_
  refine VC.reg (VO.l (LO.fa (r := 0) F28_0 (.r rfl) rfl) rfl <| VO.l (LO.fa (r := 3) F23_3 (.r rfl) rfl) rfl <| VO.l (LO.ld O3 (.r rfl) (fun _ hw => cells_at hw 0 rfl ⟨_, rfl⟩)) rfl <| VO.l (LO.gt (.r rfl) (.r rfl)) rfl <| VO.l (LO.mv (.r rfl)) rfl <| VO.lg rfl rfl (GD.f _) (fun hg => LO.fa (r := 0) F28_0 (.r rfl) rfl) rfl <| VO.lg rfl rfl (GD.f _) (fun hg => LO.fa (r := 4) F23_4 (.g hg rfl) rfl) rfl <| VO.lg rfl rfl (GD.f _) (fun hg => LO.ld O3 (.g hg rfl) (fun _ hw => cells_at hw 0 rfl ⟨_, rfl⟩)) rfl <| VO.lg rfl rfl (GD.f _) (fun hg => LO.gt (.g hg rfl) (.r rfl)) rfl <| VO.l (LO.pkO (.r rfl) (.r rfl) rfl rfl) rfl <| VO.l (LO.mv (.r rfl)) rfl <| VO.lg rfl rfl (GD.f _) (fun hg => LO.fa (r := 5) F28_1 (.r rfl) rfl) rfl <| VO.lg rfl rfl (GD.f _) (fun hg => LO.ld O24 (.g hg rfl) (fun _ hw => cells_at hw 0 rfl ⟨_, rfl⟩)) rfl <| VO.lg rfl rfl (GD.f _) (fun hg => LO.len S24 (.g hg rfl) rfl) rfl <| VO.lg rfl rfl (GD.f _) (fun hg => LO.gt (.g hg rfl) (.r rfl)) rfl <| VO.lg rfl rfl (GD.f _) (fun hg => LO.mv (.g hg rfl)) rfl <| VO.lg rfl rfl (GD.nt _ _) (fun hg => LO.fa (r := 5) F28_1 (.r rfl) rfl) rfl <| VO.lg rfl rfl (GD.nt _ _) (fun hg => LO.ld O24 (.g hg rfl) (fun _ hw => cells_at hw 0 rfl ⟨_, rfl⟩)) rfl <| VO.lg rfl rfl (GD.nt _ _) (fun hg => LO.len S24 (.g hg rfl) rfl) rfl <| VO.lg rfl rfl (GD.nt _ _) (fun hg => LO.le (.g hg rfl) (.r rfl)) rfl <| VO.lg rfl rfl (GD.f _) (fun hg => LO.pkA (.g hg rfl) rfl (and_e hg) (.r rfl)) rfl <| VO.l (LO.pkO (.r rfl) (.r rfl) rfl rfl) rfl <| VO.l (LO.mv (.r rfl)) rfl <| VO.lg rfl rfl (GD.f _) (fun hg => LO.fa (r := 5) F28_1 (.r rfl) rfl) rfl <| VO.lg rfl rfl (GD.f _) (fun hg => LO.ld O24 (.g hg rfl) (fun _ hw => cells_at hw 0 rfl ⟨_, rfl⟩)) rfl <| VO.lg rfl rfl (GD.f _) (fun hg => LO.len S24 (.g hg rfl) rfl) rfl <| VO.lg rfl rfl (GD.f _) (fun hg => LO.gt (.g hg rfl) (.r rfl)) rfl <| VO.l (LO.pkO (.r rfl) (.r rfl) rfl rfl) rfl <| VO.l (LO.mv (.r rfl)) rfl <| VO.lg rfl rfl (GD.f _) (fun hg => LO.fa (r := 6) F28_2 (.r rfl) rfl) rfl <| VO.lg rfl rfl (GD.f _) (fun hg => LO.fa (r := 6) F26_0 (.g hg rfl) rfl) rfl <| VO.lg rfl rfl (GD.f _) (fun hg => LO.ld O3 (.g hg rfl) (fun _ hw => cells_at hw 0 rfl ⟨_, rfl⟩)) rfl <| VO.lg rfl rfl (GD.f _) (fun hg => LO.gt (.g hg rfl) (.r rfl)) rfl <| VO.lg rfl rfl (GD.f _) (fun hg => LO.mv (.g hg rfl)) rfl <| VO.lg rfl rfl (GD.nt _ _) (fun hg => LO.fa (r := 6) F28_2 (.r rfl) rfl) rfl <| VO.lg rfl rfl (GD.nt _ _) (fun hg => LO.fa (r := 6) F26_0 (.g hg rfl) rfl) rfl <| VO.lg rfl rfl (GD.nt _ _) (fun hg => LO.ld O3 (.g hg rfl) (fun _ hw => cells_at hw 0 rfl ⟨_, rfl⟩)) rfl <| VO.lg rfl rfl (GD.nt _ _) (fun hg => LO.le (.g hg rfl) (.r rfl)) rfl <| VO.lg rfl rfl (GD.f _) (fun hg => LO.pkA (.g hg rfl) rfl (and_e hg) (.r rfl)) rfl <| VO.l (LO.pkO (.r rfl) (.r rfl) rfl rfl) rfl <| VO.nil ?_)
  refine VE.seqN ?_
  refine VC.cond rfl (fun h43 => ?_) (fun h43 => ?_)
  ·
    refine VC.seq ?_
    refine VC.reg (VO.l (LO.as (.r rfl)) rfl <| VO.nil ?_)
    refine VE.seqN ?_
    refine VC.ret (VE.thenR (VE.res (vs := [_]) rfl ⟨rfl, trivial⟩ (fun w hw => ?_)))
    first | exact ⟨false, (fun q => absurd q (by decide)), rfl, hw.nil⟩ | exact ⟨true, fun _ => ⟨by omega, by rw [List.take_of_length_le (by omega)] at hz; exact hz⟩, rfl, hw.nil⟩
  ·
    refine VC.skip (VE.seqN ?_)
    refine VC.seq ?_
    refine VC.seq ?_
    refine VC.reg (VO.l (LO.as (.r rfl)) rfl <| VO.nil ?_)
    refine VE.seqN ?_
    refine VC.block ?_
    refine VC.loopK (α := Nat) 0 (fun gx => [(3, .int .i64 (gx : Nat))]) [(1, _)] (fun gx => []) (fun gx => gx ≤ l.length ∧ ∀ x, x ∈ l.take gx → x.r.pix.length ≤ 70) (fun gx => l.length - gx) 0 (by exact ⟨Nat.zero_le _, fun x hx => by simp at hx⟩) (.cons rfl (.cons rfl .nil)) (fun _ h => h) ?_
    rintro i ⟨hi, hz⟩
    refine VC.seq ?_
    refine VC.seq ?_
    refine VC.reg (VO.l (LO.mv (.r rfl)) rfl <| VO.l (LO.fa (r := 5) F28_1 (.r rfl) rfl) rfl <| VO.l (LO.ld O24 (.r rfl) (fun _ hw => cells_at hw 0 rfl ⟨_, rfl⟩)) rfl <| VO.l (LO.len S24 (.r rfl) rfl) rfl <| VO.l (LO.lt (.r rfl) (.r rfl)) rfl <| VO.nil ?_)
    refine VE.seqN ?_
    refine VC.cond rfl (fun h48 => ?_) (fun h48 => ?_)
    ·
      obtain ⟨x, hx⟩ : ∃ x, l[i]? = some x := ⟨_, List.getElem?_eq_getElem (by omega)⟩
      refine VC.skip (VE.seqN ?_)
      refine VC.seq ?_
      refine VC.block ?_
      refine VC.seq ?_
      refine VC.reg (VO.l (LO.fa (r := 5) F28_1 (.r rfl) rfl) rfl <| VO.l (LO.ld O24 (.r rfl) (fun _ hw => cells_at hw 0 rfl ⟨_, rfl⟩)) rfl <| VO.l (LO.mv (.r rfl)) rfl <| VO.l (LO.ixs S24 N74 hl.sm (.r rfl) (.r rfl) rfl (by omega)) rfl <| VO.l (LO.fa F74_0 (.r rfl) rfl) rfl <| VO.l (LO.ld O9 (.r rfl) (fun w hw => cells_part (off := 0) ((hl.at hx) w hw) ⟨_, rfl⟩)) rfl <| VO.l (LO.lenS Try.underlying9 (.r rfl) rfl) rfl <| VO.l (LO.gt (.r rfl) (.r rfl)) rfl <| VO.l (LO.mv (.r rfl)) rfl <| VO.lg rfl rfl (GD.f _) (fun hg => LO.fa (r := 5) F28_1 (.r rfl) rfl) rfl <| VO.lg rfl rfl (GD.f _) (fun hg => LO.ld O24 (.g hg rfl) (fun _ hw => cells_at hw 0 rfl ⟨_, rfl⟩)) rfl <| VO.lg rfl rfl (GD.f _) (fun hg => LO.mv (.r rfl)) rfl <| VO.lg rfl rfl (GD.f _) (fun hg => LO.ixs S24 N74 hl.sm (.g hg rfl) (.g hg rfl) rfl (by omega)) rfl <| VO.lg rfl rfl (GD.f _) (fun hg => LO.fa F74_1 (.g hg rfl) rfl) rfl <| VO.lg rfl rfl (GD.f _) (fun hg => LO.ld O55 (.g hg rfl) (fun w hw => cells_part (off := 1) ((hl.at hx) w hw) ⟨_, rfl⟩)) rfl <| VO.lg rfl rfl (GD.f _) (fun hg => LO.len S55 (.g hg rfl) rfl) rfl <| VO.lg rfl rfl (GD.f _) (fun hg => LO.gt (.g hg rfl) (.r rfl)) rfl <| VO.l (LO.pkO (.r rfl) (.r rfl) rfl rfl) rfl <| VO.nil ?_)
      refine VE.seqN ?_
      refine VC.cond rfl (fun h68 => ?_) (fun h68 => ?_)
      ·
        refine VC.seq ?_
        refine VC.reg (VO.l (LO.as (.r rfl)) rfl <| VO.nil ?_)
        refine VE.seqN ?_
        refine VC.ret (VE.inR (VE.thenR (VE.thenR (VE.inR (VE.thenR (VE.res (vs := [_]) rfl ⟨rfl, trivial⟩ (fun w hw => ?_)))))))
        first | exact ⟨false, (fun q => absurd q (by decide)), rfl, hw.nil⟩ | exact ⟨true, fun _ => ⟨by omega, by rw [List.take_of_length_le (by omega)] at hz; exact hz⟩, rfl, hw.nil⟩
      ·
        refine VC.skip (VE.inN (VE.seqN ?_))
        refine VC.reg (VO.l (LO.mv (.r rfl)) rfl <| VO.l (LO.add (.r rfl) (.r rfl) (wi (by omega) (by omega))) rfl <| VO.l (LO.as (.r rfl)) rfl <| VO.nil ?_)
        refine VE.thenN fun a w ha hw => ⟨i + 1, ⟨by omega, mem_step hz hx (by omega)⟩, (by omega), ha.sub (.cons rfl (.cons rfl .nil)), hw⟩
    ·
      refine VC.exit (VE.thenX (VE.thenX (VE.inX (VE.seqN ?_))))
      refine VC.seq ?_
      refine VC.reg (VO.l (LO.as (.r rfl)) rfl <| VO.nil ?_)
      refine VE.seqN ?_
      refine VC.ret (VE.res (vs := [_]) rfl ⟨rfl, trivial⟩ (fun w hw => ?_))
      first | exact ⟨false, (fun q => absurd q (by decide)), rfl, hw.nil⟩ | exact ⟨true, fun _ => ⟨by omega, by rw [List.take_of_length_le (by omega)] at hz; exact hz⟩, rfl, hw.nil⟩

set_option maxRecDepth 20000 in
theorem fewClouds_c (l : List CP) (p : Option Addr) (c : Nat) (w : World) (hl : CldU w p l) :
  Calls Try.prog 13 #[.slice p l.length c] w fun e w' => ∃ z : Bool, (z = true → FewC l) ∧ e = .returned (.bool z) ∧ St (bs w) [] w' := by
  refine enter (vs := [_]) (env := [(0, _)]) Try.func13 rfl rfl rfl rfl ?_
  refine VC.seq ?_
  refine VC.reg (VO.l (LO.as (.r rfl)) rfl <| VO.nil ?_)
  refine VE.seqN ?_
  refine VC.seq ?_
  refine VC.seq ?_
  refine VC.reg (VO.l (LO.mv (.r rfl)) rfl <| VO.l (LO.len S29 (.r rfl) rfl) rfl <| VO.l (LO.gt (.r rfl) (.r rfl)) rfl <| VO.l (LO.mv (.r rfl)) rfl <| VO.lg rfl rfl (GD.t _) (fun hg => LO.mv (.r rfl)) rfl <| VO.lg rfl rfl (GD.t _) (fun hg => LO.len S29 (.g hg rfl) rfl) rfl <| VO.lg rfl rfl (GD.t _) (fun hg => LO.le (.g hg rfl) (.r rfl)) rfl <| VO.l (LO.pkA (.r rfl) rfl rfl (.r rfl)) rfl <| VO.l (LO.mv (.r rfl)) rfl <| VO.lg rfl rfl (GD.f _) (fun hg => LO.mv (.r rfl)) rfl <| VO.lg rfl rfl (GD.f _) (fun hg => LO.len S29 (.g hg rfl) rfl) rfl <| VO.lg rfl rfl (GD.f _) (fun hg => LO.gt (.g hg rfl) (.r rfl)) rfl <| VO.l (LO.pkO (.r rfl) (.r rfl) rfl rfl) rfl <| VO.nil ?_)
  refine VE.seqN ?_
  refine VC.cond rfl (fun h17 => ?_) (fun h17 => ?_)
  ·
    refine VC.seq ?_
    refine VC.reg (VO.l (LO.as (.r rfl)) rfl <| VO.nil ?_)
    refine VE.seqN ?_
    refine VC.ret (VE.thenR (VE.res (vs := [_]) rfl ⟨rfl, trivial⟩ (fun w hw => ?_)))
    first | exact ⟨false, (fun q => absurd q (by decide)), rfl, hw.nil⟩ | exact ⟨true, fun _ => ⟨by omega, by rw [List.take_of_length_le (by omega)] at hz; exact hz⟩, rfl, hw.nil⟩
  ·
    refine VC.skip (VE.seqN ?_)
    refine VC.seq ?_
    refine VC.seq ?_
    refine VC.reg (VO.l (LO.as (.r rfl)) rfl <| VO.nil ?_)
    refine VE.seqN ?_
    refine VC.block ?_
    refine VC.loopK (α := Nat) 0 (fun gx => [(3, .int .i64 (gx : Nat))]) [(0, _)] (fun gx => []) (fun gx => gx ≤ l.length ∧ ∀ x, x ∈ l.take gx → x.c.sure.length ≤ 60 ∧ x.c.may.length ≤ 60) (fun gx => l.length - gx) 0 (by exact ⟨Nat.zero_le _, fun x hx => by simp at hx⟩) (.cons rfl (.cons rfl .nil)) (fun _ h => h) ?_
    rintro i ⟨hi, hz⟩
    refine VC.seq ?_
    refine VC.seq ?_
    refine VC.reg (VO.l (LO.mv (.r rfl)) rfl <| VO.l (LO.mv (.r rfl)) rfl <| VO.l (LO.len S29 (.r rfl) rfl) rfl <| VO.l (LO.lt (.r rfl) (.r rfl)) rfl <| VO.nil ?_)
    refine VE.seqN ?_
    refine VC.cond rfl (fun h21 => ?_) (fun h21 => ?_)
    ·
      obtain ⟨x, hx⟩ : ∃ x, l[i]? = some x := ⟨_, List.getElem?_eq_getElem (by omega)⟩
      refine VC.skip (VE.seqN ?_)
      refine VC.seq ?_
      refine VC.block ?_
      refine VC.seq ?_
      refine VC.reg (VO.l (LO.mv (.r rfl)) rfl <| VO.l (LO.mv (.r rfl)) rfl <| VO.l (LO.ixs S29 N80 hl.sl (.r rfl) (.r rfl) rfl (by omega)) rfl <| VO.l (LO.lda (vs := [_, _, _, _, _, _, _]) A80 (.r rfl) (hl.at hx) rfl) rfl <| VO.h rfl <| HO.alloc (C := #[_, _, _, _, _, _, _]) Z80 rfl fun b1 => VO.h0 <| HO.st 0 (vs := [_, _, _, _, _, _, _]) (C' := [_, _, _, _, _, _, _]) (L' := [_]) N80 rfl rfl rfl rfl rfl rfl rfl rfl <| VO.nil ?_)
      refine VE.seqN ?_
      refine VC.seq ?_
      refine VC.seq ?_
      refine VC.reg (VO.l (LO.fa (r := 0) F80_0 (.r rfl) rfl) rfl <| VO.l (LO.ld O55 (.r rfl) (fun _ hw => cells_at hw 0 rfl ⟨_, rfl⟩)) rfl <| VO.l (LO.len S55 (.r rfl) rfl) rfl <| VO.l (LO.gt (.r rfl) (.r rfl)) rfl <| VO.l (LO.mv (.r rfl)) rfl <| VO.lg rfl rfl (GD.f _) (fun hg => LO.fa (r := 1) F80_1 (.r rfl) rfl) rfl <| VO.lg rfl rfl (GD.f _) (fun hg => LO.ld O55 (.g hg rfl) (fun _ hw => cells_at hw 0 rfl ⟨_, rfl⟩)) rfl <| VO.lg rfl rfl (GD.f _) (fun hg => LO.len S55 (.g hg rfl) rfl) rfl <| VO.lg rfl rfl (GD.f _) (fun hg => LO.gt (.g hg rfl) (.r rfl)) rfl <| VO.l (LO.pkO (.r rfl) (.r rfl) rfl rfl) rfl <| VO.nil ?_)
      refine VE.seqN ?_
      refine VC.cond rfl (fun h37 => ?_) (fun h37 => ?_)
      ·
        refine VC.seq ?_
        refine VC.reg (VO.l (LO.as (.r rfl)) rfl <| VO.nil ?_)
        refine VE.seqN ?_
        refine VC.ret (VE.thenR (VE.inR (VE.thenR (VE.thenR (VE.inR (VE.thenR (VE.res (vs := [_]) rfl ⟨rfl, trivial⟩ (fun w hw => ?_))))))))
        first | exact ⟨false, (fun q => absurd q (by decide)), rfl, hw.nil⟩ | exact ⟨true, fun _ => ⟨by omega, by rw [List.take_of_length_le (by omega)] at hz; exact hz⟩, rfl, hw.nil⟩
      ·
        refine VC.skip (VE.seqN ?_)
        refine VC.seq ?_
        refine VC.reg (VO.l (LO.fa (r := 2) F80_2 (.r rfl) rfl) rfl <| VO.l (LO.lda (vs := [_, _, _, _]) A78 (.r rfl) (fun _ hw => cells_at hw 0 rfl ⟨_, rfl⟩) rfl) rfl <| VO.l (LO.call (xs := [_]) (vs := [_]) C44 ⟨(.r rfl), trivial⟩ (fun w _ => checkFlow_c x.c.flow w)) rfl <| VO.l (LO.eq (.r rfl) (.r rfl)) rfl <| VO.l (LO.mv (.r rfl)) rfl <| VO.lg rfl rfl (GD.t _) (fun hg => LO.fa (r := 6) F80_3 (.r rfl) rfl) rfl <| VO.lg rfl rfl (GD.t _) (fun hg => LO.ld O3 (.g hg rfl) (fun _ hw => cells_at hw 0 rfl ⟨_, rfl⟩)) rfl <| VO.lg rfl rfl (GD.t _) (fun hg => LO.ge (.g hg rfl) (.r rfl)) rfl <| VO.l (LO.pkA (.r rfl) rfl rfl (.r rfl)) rfl <| VO.l (LO.mv (.r rfl)) rfl <| VO.lg rfl rfl (GD.t _) (fun hg => LO.fa (r := 6) F80_3 (.r rfl) rfl) rfl <| VO.lg rfl rfl (GD.t _) (fun hg => LO.ld O3 (.g hg rfl) (fun _ hw => cells_at hw 0 rfl ⟨_, rfl⟩)) rfl <| VO.lg rfl rfl (GD.t _) (fun hg => LO.le (.g hg rfl) (.r rfl)) rfl <| VO.l (LO.pkA (.r rfl) rfl rfl (.r rfl)) rfl <| VO.l (LO.mv (.r rfl)) rfl <| VO.lg rfl rfl (GD.t _) (fun hg => LO.fa (r := 2) F80_2 (.r rfl) rfl) rfl <| VO.lg rfl rfl (GD.t _) (fun hg => LO.fa (r := 2) F78_0 (.g hg rfl) rfl) rfl <| VO.lg rfl rfl (GD.t _) (fun hg => LO.fa (r := 3) F76_1 (.g hg rfl) rfl) rfl <| VO.lg rfl rfl (GD.t _) (fun hg => LO.ld O3 (.g hg rfl) (fun _ hw => cells_at hw 0 rfl ⟨_, rfl⟩)) rfl <| VO.lg rfl rfl (GD.t _) (fun hg => LO.fa (r := 2) F80_2 (.r rfl) rfl) rfl <| VO.lg rfl rfl (GD.t _) (fun hg => LO.fa (r := 2) F78_0 (.g hg rfl) rfl) rfl <| VO.lg rfl rfl (GD.t _) (fun hg => LO.fa (r := 2) F76_0 (.g hg rfl) rfl) rfl <| VO.lg rfl rfl (GD.t _) (fun hg => LO.ld O3 (.g hg rfl) (fun _ hw => cells_at hw 0 rfl ⟨_, rfl⟩)) rfl <| VO.lg rfl rfl (GD.t _) (fun hg => LO.sub (.g hg rfl) (.g hg rfl) (wi (by have q := IsP.yes inferInstance hg; have f := flowOk_of (fun z => z q.1.1); obtain ⟨⟨_, _, _⟩, _, _, _⟩ := f; omega) (by have q := IsP.yes inferInstance hg; have f := flowOk_of (fun z => z q.1.1); obtain ⟨⟨_, _, _⟩, _, _, _⟩ := f; omega))) rfl <| VO.lg rfl rfl (GD.t _) (fun hg => LO.fa (r := 6) F80_3 (.r rfl) rfl) rfl <| VO.lg rfl rfl (GD.t _) (fun hg => LO.ld O3 (.g hg rfl) (fun _ hw => cells_at hw 0 rfl ⟨_, rfl⟩)) rfl <| VO.lg rfl rfl (GD.t _) (fun hg => LO.mul (.r rfl) (.g hg rfl) (wi (by have q := IsP.yes inferInstance hg; have f := flowOk_of (fun z => z q.1.1); obtain ⟨⟨_, _, _⟩, _, _, _⟩ := f; omega) (by have q := IsP.yes inferInstance hg; have f := flowOk_of (fun z => z q.1.1); obtain ⟨⟨_, _, _⟩, _, _, _⟩ := f; omega))) rfl <| VO.lg rfl rfl (GD.t _) (fun hg => LO.add (.g hg rfl) (.g hg rfl) (wi (by have q := IsP.yes inferInstance hg; have f := flowOk_of (fun z => z q.1.1); obtain ⟨⟨_, _, _⟩, _, _, _⟩ := f; omega) (by have q := IsP.yes inferInstance hg; have f := flowOk_of (fun z => z q.1.1); obtain ⟨⟨_, _, _⟩, _, _, _⟩ := f; omega))) rfl <| VO.lg rfl rfl (GD.t _) (fun hg => LO.gt (.g hg rfl) (.r rfl)) rfl <| VO.lg rfl rfl (GD.t _) (fun hg => LO.mv (.g hg rfl)) rfl <| VO.lg rfl rfl (GD.nf _ _) (fun hg => LO.fa (r := 2) F80_2 (.r rfl) rfl) rfl <| VO.lg rfl rfl (GD.nf _ _) (fun hg => LO.fa (r := 4) F78_1 (.g hg rfl) rfl) rfl <| VO.lg rfl rfl (GD.nf _ _) (fun hg => LO.fa (r := 5) F76_1 (.g hg rfl) rfl) rfl <| VO.lg rfl rfl (GD.nf _ _) (fun hg => LO.ld O3 (.g hg rfl) (fun _ hw => cells_at hw 0 rfl ⟨_, rfl⟩)) rfl <| VO.lg rfl rfl (GD.nf _ _) (fun hg => LO.fa (r := 2) F80_2 (.r rfl) rfl) rfl <| VO.lg rfl rfl (GD.nf _ _) (fun hg => LO.fa (r := 4) F78_1 (.g hg rfl) rfl) rfl <| VO.lg rfl rfl (GD.nf _ _) (fun hg => LO.fa (r := 4) F76_0 (.g hg rfl) rfl) rfl <| VO.lg rfl rfl (GD.nf _ _) (fun hg => LO.ld O3 (.g hg rfl) (fun _ hw => cells_at hw 0 rfl ⟨_, rfl⟩)) rfl <| VO.lg rfl rfl (GD.nf _ _) (fun hg => LO.sub (.g hg rfl) (.g hg rfl) (wi (by have q := IsP.yes inferInstance hg; have f := flowOk_of (fun z => z q.1.1.1); obtain ⟨⟨_, _, _⟩, _, _, _⟩ := f; omega) (by have q := IsP.yes inferInstance hg; have f := flowOk_of (fun z => z q.1.1.1); obtain ⟨⟨_, _, _⟩, _, _, _⟩ := f; omega))) rfl <| VO.lg rfl rfl (GD.nf _ _) (fun hg => LO.fa (r := 6) F80_3 (.r rfl) rfl) rfl <| VO.lg rfl rfl (GD.nf _ _) (fun hg => LO.ld O3 (.g hg rfl) (fun _ hw => cells_at hw 0 rfl ⟨_, rfl⟩)) rfl <| VO.lg rfl rfl (GD.nf _ _) (fun hg => LO.mul (.r rfl) (.g hg rfl) (wi (by have q := IsP.yes inferInstance hg; have f := flowOk_of (fun z => z q.1.1.1); obtain ⟨⟨_, _, _⟩, _, _, _⟩ := f; omega) (by have q := IsP.yes inferInstance hg; have f := flowOk_of (fun z => z q.1.1.1); obtain ⟨⟨_, _, _⟩, _, _, _⟩ := f; omega))) rfl <| VO.lg rfl rfl (GD.nf _ _) (fun hg => LO.add (.g hg rfl) (.g hg rfl) (wi (by have q := IsP.yes inferInstance hg; have f := flowOk_of (fun z => z q.1.1.1); obtain ⟨⟨_, _, _⟩, _, _, _⟩ := f; omega) (by have q := IsP.yes inferInstance hg; have f := flowOk_of (fun z => z q.1.1.1); obtain ⟨⟨_, _, _⟩, _, _, _⟩ := f; omega))) rfl <| VO.lg rfl rfl (GD.nf _ _) (fun hg => LO.gt (.g hg rfl) (.r rfl)) rfl <| VO.lg rfl rfl (GD.t _) (fun hg => LO.pkO (.g hg rfl) (.r rfl) rfl (and_e hg)) rfl <| VO.l (LO.pkA (.r rfl) rfl rfl (.r rfl)) rfl <| VO.nil ?_)
        refine VE.seqN ?_
        refine VC.cond rfl (fun h83 => ?_) (fun h83 => ?_)
        ·
          refine VC.seq ?_
          refine VC.reg (VO.l (LO.as (.r rfl)) rfl <| VO.nil ?_)
          refine VE.seqN ?_
          refine VC.ret (VE.inR (VE.thenR (VE.thenR (VE.inR (VE.thenR (VE.res (vs := [_]) rfl ⟨rfl, trivial⟩ (fun w hw => ?_)))))))
          first | exact ⟨false, (fun q => absurd q (by decide)), rfl, hw.nil⟩ | exact ⟨true, fun _ => ⟨by omega, by rw [List.take_of_length_le (by omega)] at hz; exact hz⟩, rfl, hw.nil⟩
        ·
          refine VC.skip (VE.inN (VE.seqN ?_))
          refine VC.reg (VO.l (LO.mv (.r rfl)) rfl <| VO.l (LO.add (.r rfl) (.r rfl) (wi (by omega) (by omega))) rfl <| VO.l (LO.as (.r rfl)) rfl <| VO.nil ?_)
          refine VE.thenN fun a w ha hw => ⟨i + 1, ⟨by omega, mem_step hz hx (by omega)⟩, (by omega), ha.sub (.cons rfl (.cons rfl .nil)), hw.sel [] rfl⟩
    ·
      refine VC.exit (VE.thenX (VE.thenX (VE.inX (VE.seqN ?_))))
      refine VC.seq ?_
      refine VC.reg (VO.l (LO.as (.r rfl)) rfl <| VO.nil ?_)
      refine VE.seqN ?_
      refine VC.ret (VE.res (vs := [_]) rfl ⟨rfl, trivial⟩ (fun w hw => ?_))
      first | exact ⟨false, (fun q => absurd q (by decide)), rfl, hw.nil⟩ | exact ⟨true, fun _ => ⟨by omega, by rw [List.take_of_length_le (by omega)] at hz; exact hz⟩, rfl, hw.nil⟩

set_option maxRecDepth 20000 in
theorem spec_c (g : Grid) (l : List RG) (pl : Option Addr) (cl : Nat) (a b d : Int) (w : World) (hf : l.length ≤ 100) (hl : RegsU w pl l) :
  Calls Try.prog 17 #[specV g pl l.length cl a b d] w fun e w' => ∃ x : Option Addr × Nat, True ∧ e = .returned (specV g x.1 l.length x.2 a b d) ∧ St (bs w) [own 138 2 x.1 x.2 (l.map RG.cells)] w' := by
  refine enter (vs := [_]) (env := [(0, _)]) Try.func17 rfl rfl rfl rfl ?_
  refine VC.seq ?_
  refine VC.reg (VO.h rfl <| HO.box (C := #[_, _, _, _, _, _, _, _, _]) rfl rfl fun b1 => VO.h rfl <| HO.alloc (C := #[_, _, _, _, _, _, _, _, _]) Z40 rfl fun b2 => VO.nil ?_)
  refine VE.seqN ?_
  refine VC.seq ?_
  refine VC.reg (VO.l (LO.fa (r := 0) F28_0 (.r rfl) rfl) rfl <| VO.l (LO.lda (vs := [_, _, _, _, _]) A23 (.r rfl) (fun _ hw => cells_at hw 1 rfl ⟨_, rfl⟩) rfl) rfl <| VO.l (LO.fa (r := 6) F28_2 (.r rfl) rfl) rfl <| VO.l (LO.lda (vs := [_, _, _]) A26 (.r rfl) (fun _ hw => cells_at hw 1 rfl ⟨_, rfl⟩) rfl) rfl <| VO.l (LO.bd (ps := [(_, _), (_, _)]) (vs := [(_, _), (_, _)]) (C := [_, _, _, _, _, _, _, _, _]) B40  ⟨(.r rfl), (.r rfl), trivial⟩ rfl ⟨_, [_, _, _, _, _], [_, _, _, _, _, _, _, _, _], rfl, rfl, rfl, rfl, ⟨_, [_, _, _], [_, _, _, _, _, _, _, _, _], rfl, rfl, rfl, rfl, rfl⟩⟩) rfl <| VO.h rfl <| HO.alloc (C := #[_, _, _, _, _, _, _, _, _]) Z40 rfl fun b3 => VO.h0 <| HO.st 0 (vs := [_, _, _, _, _, _, _, _, _]) (C' := [_, _, _, _, _, _, _, _, _]) (L' := [_, _, _]) N40 rfl rfl rfl rfl rfl rfl rfl rfl <| VO.nil ?_)
  refine VE.seqN ?_
  refine VC.seq ?_
  refine VC.seq ?_
  refine VC.reg (VO.l (LO.as (.r rfl)) rfl <| VO.nil ?_)
  refine VE.seqN ?_
  refine VC.block ?_
  refine VC.loopK (α := Nat × (List RG) × (Option Addr) × Nat) 1 (fun gx => [(4, .int .i64 (gx.1 : Nat))]) [(1, _), (2, _), (3, _)] (fun gx => [blk b3 (.cells #[.int .i64 g.x, .int .i64 g.y, .int .i64 g.size, .int .i64 g.wide, .int .i64 g.high, .slice gx.2.2.1 gx.2.1.length gx.2.2.2, .int .i64 a, .int .i64 b, .int .i64 d] 40), own 138 2 gx.2.2.1 gx.2.2.2 (gx.2.1.map RG.cells)]) (fun gx => gx.1 ≤ l.length ∧ gx.2.1 = l.take gx.1) (fun gx => l.length - gx.1) (0, [], none, 0) (by exact ⟨Nat.zero_le _, rfl⟩) (.cons rfl (.cons rfl (.cons rfl (.cons rfl .nil)))) (fun _ h => ((h.ownNil 138 2)).sel [1, 0, 2, 3] rfl) ?_
  rintro ⟨i, rgs, pg_, cg_⟩ ⟨hi, hX⟩
  show VC _ _ _ _ _ ([(4, .int .i64 (i : Nat))] ++ _) ([blk b3 (.cells #[.int .i64 g.x, .int .i64 g.y, .int .i64 g.size, .int .i64 g.wide, .int .i64 g.high, .slice pg_ rgs.length cg_, .int .i64 a, .int .i64 b, .int .i64 d] 40), own 138 2 pg_ cg_ (rgs.map RG.cells)] ++ _) _ _
  dsimp only at hi hX
  have hgl : rgs.length = i := by rw [hX]; simp; omega
  refine VC.seq ?_
  refine VC.seq ?_
  refine VC.reg (VO.l (LO.mv (.r rfl)) rfl <| VO.l (LO.fa (r := 5) F28_1 (.r rfl) rfl) rfl <| VO.l (LO.ld O24 (.r rfl) (fun _ hw => cells_at hw 3 rfl ⟨_, rfl⟩)) rfl <| VO.l (LO.len S24 (.r rfl) rfl) rfl <| VO.l (LO.lt (.r rfl) (.r rfl)) rfl <| VO.nil ?_)
  refine VE.seqN ?_
  refine VC.cond rfl (fun h14 => ?_) (fun h14 => ?_)
  ·
    obtain ⟨x, hx⟩ : ∃ x, l[i]? = some x := ⟨_, List.getElem?_eq_getElem (by omega)⟩
    refine VC.skip (VE.seqN ?_)
    refine VC.seq ?_
    refine VC.block ?_
    refine VC.drawH [[0, 1, 2, 3], [0, 1, 2, 3], [0, 2, 3], [2, 3]] [some 1, some 1, some 0, some 0, some 0, some 0, some 0, some 0, some 0, some 0, some 0, some 0, some 0, some 0, some 0, none, none, some 2, none] mixed (by kernel_rfl) rfl (LX.l (fun _ hJ => LO.fa (r := 5) F40_1 (.r rfl) rfl) rfl <| LX.l (fun _ hJ => LO.ld O37 (.r rfl) (fun _ hw => cells_at (hJ _ hw) 0 rfl ⟨_, rfl⟩)) rfl <| LX.l (fun _ hJ => LO.fa (r := 5) F28_1 (.r rfl) rfl) rfl <| LX.l (fun _ hJ => LO.ld O24 (.r rfl) (fun _ hw => cells_at (hJ _ hw) 3 rfl ⟨_, rfl⟩)) rfl <| LX.l (fun _ hJ => LO.mv (.r rfl)) rfl <| LX.l (fun _ hJ => LO.ixs S24 N74 hl.sm (.r rfl) (.r rfl) rfl (by omega)) rfl <| LX.l (fun _ hJ => LO.fa F74_0 (.r rfl) rfl) rfl <| LX.l (fun _ hJ => LO.ld O9 (.r rfl) (fun w hw => cells_part (off := 0) ((hl.at hx) w (hJ _ hw)) ⟨_, rfl⟩)) rfl <| LX.l (fun _ hJ => LO.fa (r := 5) F28_1 (.r rfl) rfl) rfl <| LX.l (fun _ hJ => LO.ld O24 (.r rfl) (fun _ hw => cells_at (hJ _ hw) 3 rfl ⟨_, rfl⟩)) rfl <| LX.l (fun _ hJ => LO.mv (.r rfl)) rfl <| LX.l (fun _ hJ => LO.ixs S24 N74 hl.sm (.r rfl) (.r rfl) rfl (by omega)) rfl <| LX.l (fun _ hJ => LO.fa F74_1 (.r rfl) rfl) rfl <| LX.l (fun _ hJ => LO.ld O55 (.r rfl) (fun w hw => cells_part (off := 1) ((hl.at hx) w (hJ _ hw)) ⟨_, rfl⟩)) rfl <| LX.l (fun _ hJ => LO.bd (ps := [(_, _), (_, _)]) (vs := [(_, _), (_, _)]) (C := [_, _]) B138  ⟨(.r rfl), (.r rfl), trivial⟩ rfl ⟨_, [_], [_, _], rfl, rfl, rfl, rfl, ⟨_, [_], [_, _], rfl, rfl, rfl, rfl, rfl⟩⟩) rfl <| LX.s <| LX.s <| LX.l (fun _ hJ => LO.fa (r := 5) F40_1 (.r rfl) rfl) rfl <| LX.s <| LX.nil) (HX.s <| HX.s <| HX.s <| HX.s <| HX.s <| HX.s <| HX.s <| HX.s <| HX.s <| HX.s <| HX.s <| HX.s <| HX.s <| HX.s <| HX.s <| HX.h rfl <| HO.bs (ps := [(_, _)]) (vs := [(_, _)]) (Z := [_, _]) (C := [_, _]) S37 Z138 N138 ⟨(.r rfl), trivial⟩ rfl rfl rfl rfl ⟨_, [_, _], [_, _], rfl, rfl, rfl, rfl, rfl⟩ fun b9 => ⟨fun _ hw => hw.sel [1, 2, 3, 4] rfl, HX.h rfl <| HO.appT (x) 2 0 (fun R => [_, _, R, _, _]) S37 S37 I138 (.r rfl) (.r rfl) rfl rfl rfl rfl rfl rfl rfl (fun _ => rfl) rfl (by omega) fun p16 c16 => ⟨fun _ hw => hw.sel [1, 3, 4] rfl, HX.s <| HX.h0 <| HO.st 1 (vs := [_]) (C' := [_, _, _, _, _, _, _, _, _]) (L' := [_, _, _, _, _]) N37 rfl rfl rfl rfl rfl rfl rfl rfl <| ⟨fun _ hw => hw.sel [3, 4] rfl, HX.nil ?_⟩⟩⟩)
    refine VE.inN (VE.seqN ?_)
    refine VC.reg (VO.l (LO.mv (.r rfl)) rfl <| VO.l (LO.add (.r rfl) (.r rfl) (wi (by omega) (by omega))) rfl <| VO.l (LO.as (.r rfl)) rfl <| VO.nil ?_)
    refine VE.thenN fun a w ha hw => ⟨(i + 1, rgs ++ [x], p16, c16), ⟨by dsimp only; omega, by dsimp only; rw [hX, List.take_add_one, hx]; rfl⟩, (by dsimp only; omega), ha.sub (.cons rfl (.cons rfl (.cons rfl (.cons rfl .nil)))), hw.sel [1, 2, 3, 4] rfl⟩
  ·
    refine VC.exit (VE.thenX (VE.thenX (VE.inX (VE.seqN ?_))))
    refine VC.seq ?_
    refine VC.reg (VO.l (LO.lda (vs := [_, _, _, _, _, _, _, _, _]) A40 (.r rfl) (fun _ hw => cells_at hw 0 rfl ⟨_, rfl⟩) rfl) rfl <| VO.h0 <| HO.st 2 (vs := [_, _, _, _, _, _, _, _, _]) (C' := [_, _, _, _, _, _, _, _, _]) (L' := [_, _, _, _]) N40 rfl rfl rfl rfl rfl rfl rfl rfl <| VO.nil ?_)
    refine VE.seqN ?_
    refine VC.ret (VE.res (vs := [_]) rfl ⟨RV.agg (vs := [_, _, _, _, _, _, _, _, _]) A40 rfl (cells_blk 2 rfl ⟨_, rfl⟩) rfl, trivial⟩ (fun w hw => ?_))
    have hx2 : rgs = l := by rw [hX, List.take_of_length_le (by omega)]
    rw [← hx2]
    exact ⟨(pg_, cg_), trivial, rfl, hw.sel [1] rfl⟩

set_option maxRecDepth 20000 in
theorem clouds_c (l : List CP) (p : Option Addr) (c : Nat) (w : World) (hf : l.length ≤ 100) (hl : CldU w p l) :
  Calls Try.prog 18 #[.slice p l.length c] w fun e w' => ∃ x : Option Addr × Nat, True ∧ e = .returned (.slice x.1 l.length x.2) ∧ St (bs w) [own 141 7 x.1 x.2 (l.map CP.cells)] w' := by
  refine enter (vs := [_]) (env := [(0, _)]) Try.func18 rfl rfl rfl rfl ?_
  refine VC.seq ?_
  refine VC.reg (VO.l (LO.as (.r rfl)) rfl <| VO.nil ?_)
  refine VE.seqN ?_
  refine VC.seq ?_
  refine VC.reg (VO.l (LO.as (.r rfl)) rfl <| VO.nil ?_)
  refine VE.seqN ?_
  refine VC.seq ?_
  refine VC.seq ?_
  refine VC.reg (VO.l (LO.as (.r rfl)) rfl <| VO.nil ?_)
  refine VE.seqN ?_
  refine VC.block ?_
  refine VC.loopK (α := Nat × (List CP) × (Option Addr) × Nat) 0 (fun gx => [(3, .slice gx.2.2.1 gx.2.1.length gx.2.2.2), (4, .int .i64 (gx.1 : Nat))]) [(0, _)] (fun gx => [own 141 7 gx.2.2.1 gx.2.2.2 (gx.2.1.map CP.cells)]) (fun gx => gx.1 ≤ l.length ∧ gx.2.1 = l.take gx.1) (fun gx => l.length - gx.1) (0, [], none, 0) (by exact ⟨Nat.zero_le _, rfl⟩) (.cons rfl (.cons rfl (.cons rfl .nil))) (fun _ h => (h.ownNil 141 7)) ?_
  rintro ⟨i, xs, px_, cx_⟩ ⟨hi, hX⟩
  show VC _ _ _ _ _ ([(3, .slice px_ xs.length cx_), (4, .int .i64 (i : Nat))] ++ _) ([own 141 7 px_ cx_ (xs.map CP.cells)] ++ _) _ _
  dsimp only at hi hX
  have hxl : xs.length = i := by rw [hX]; simp; omega
  refine VC.seq ?_
  refine VC.seq ?_
  refine VC.reg (VO.l (LO.mv (.r rfl)) rfl <| VO.l (LO.mv (.r rfl)) rfl <| VO.l (LO.len S29 (.r rfl) rfl) rfl <| VO.l (LO.lt (.r rfl) (.r rfl)) rfl <| VO.nil ?_)
  refine VE.seqN ?_
  refine VC.cond rfl (fun h9 => ?_) (fun h9 => ?_)
  ·
    obtain ⟨x, hx⟩ : ∃ x, l[i]? = some x := ⟨_, List.getElem?_eq_getElem (by omega)⟩
    refine VC.skip (VE.seqN ?_)
    refine VC.seq ?_
    refine VC.block ?_
    refine VC.seq ?_
    refine VC.reg (VO.l (LO.mv (.r rfl)) rfl <| VO.l (LO.mv (.r rfl)) rfl <| VO.l (LO.ixs S29 N80 hl.sl (.r rfl) (.r rfl) rfl (by omega)) rfl <| VO.l (LO.lda (vs := [_, _, _, _, _, _, _]) A80 (.r rfl) (hl.at hx) rfl) rfl <| VO.h rfl <| HO.alloc (C := #[_, _, _, _, _, _, _]) Z80 rfl fun b2 => VO.h0 <| HO.st 0 (vs := [_, _, _, _, _, _, _]) (C' := [_, _, _, _, _, _, _]) (L' := [_, _]) N80 rfl rfl rfl rfl rfl rfl rfl rfl <| VO.nil ?_)
    refine VE.seqN ?_
    refine VC.reg (VO.l (LO.mv (.r rfl)) rfl <| VO.l (LO.fa (r := 0) F80_0 (.r rfl) rfl) rfl <| VO.l (LO.ld O55 (.r rfl) (fun _ hw => cells_at hw 0 rfl ⟨_, rfl⟩)) rfl <| VO.l (LO.fa (r := 1) F80_1 (.r rfl) rfl) rfl <| VO.l (LO.ld O55 (.r rfl) (fun _ hw => cells_at hw 0 rfl ⟨_, rfl⟩)) rfl <| VO.l (LO.fa (r := 2) F80_2 (.r rfl) rfl) rfl <| VO.l (LO.fa (r := 2) F78_0 (.r rfl) rfl) rfl <| VO.l (LO.lda (vs := [_, _]) A76 (.r rfl) (fun _ hw => cells_at hw 0 rfl ⟨_, rfl⟩) rfl) rfl <| VO.l (LO.fa (r := 2) F80_2 (.r rfl) rfl) rfl <| VO.l (LO.fa (r := 4) F78_1 (.r rfl) rfl) rfl <| VO.l (LO.lda (vs := [_, _]) A76 (.r rfl) (fun _ hw => cells_at hw 0 rfl ⟨_, rfl⟩) rfl) rfl <| VO.l (LO.bd (ps := [(_, _), (_, _)]) (vs := [(_, _), (_, _)]) (C := [_, _, _, _]) B139  ⟨(.r rfl), (.r rfl), trivial⟩ rfl ⟨_, [_, _], [_, _, _, _], rfl, rfl, rfl, rfl, ⟨_, [_, _], [_, _, _, _], rfl, rfl, rfl, rfl, rfl⟩⟩) rfl <| VO.l (LO.fa (r := 6) F80_3 (.r rfl) rfl) rfl <| VO.l (LO.ld O3 (.r rfl) (fun _ hw => cells_at hw 0 rfl ⟨_, rfl⟩)) rfl <| VO.l (LO.bd (ps := [(_, _), (_, _), (_, _), (_, _)]) (vs := [(_, _), (_, _), (_, _), (_, _)]) (C := [_, _, _, _, _, _, _]) B141  ⟨(.r rfl), (.r rfl), (.r rfl), (.r rfl), trivial⟩ rfl ⟨_, [_], [_, _, _, _, _, _, _], rfl, rfl, rfl, rfl, ⟨_, [_], [_, _, _, _, _, _, _], rfl, rfl, rfl, rfl, ⟨_, [_, _, _, _], [_, _, _, _, _, _, _], rfl, rfl, rfl, rfl, ⟨_, [_], [_, _, _, _, _, _, _], rfl, rfl, rfl, rfl, rfl⟩⟩⟩⟩) rfl <| VO.h rfl <| HO.bs (ps := [(_, _)]) (vs := [(_, _)]) (Z := [_, _, _, _, _, _, _]) (C := [_, _, _, _, _, _, _]) S42 Z141 N141 ⟨(.r rfl), trivial⟩ rfl rfl rfl rfl ⟨_, [_, _, _, _, _, _, _], [_, _, _, _, _, _, _], rfl, rfl, rfl, rfl, rfl⟩ fun b4 => VO.h rfl <| HO.appT (x) 2 0 (fun R => [_, _, R]) S42 S42 I141 (.r rfl) (.r rfl) rfl rfl rfl rfl rfl rfl rfl (fun _ => rfl) rfl (by omega) fun p16 c16 => VO.h rfl <| HO.lo (LO.as (.r rfl)) <| VO.nil ?_)
    refine VE.inN (VE.seqN ?_)
    refine VC.reg (VO.l (LO.mv (.r rfl)) rfl <| VO.l (LO.add (.r rfl) (.r rfl) (wi (by omega) (by omega))) rfl <| VO.l (LO.as (.r rfl)) rfl <| VO.nil ?_)
    refine VE.thenN fun a w ha hw => ⟨(i + 1, xs ++ [x], p16, c16), ⟨by dsimp only; omega, by dsimp only; rw [hX, List.take_add_one, hx]; rfl⟩, (by dsimp only; omega), ha.sub (.cons rfl (.cons rfl (.cons rfl .nil))), hw.sel [2] rfl⟩
  ·
    refine VC.exit (VE.thenX (VE.thenX (VE.inX (VE.seqN ?_))))
    refine VC.seq ?_
    refine VC.reg (VO.l (LO.mv (.r rfl)) rfl <| VO.l (LO.as (.r rfl)) rfl <| VO.nil ?_)
    refine VE.seqN ?_
    refine VC.ret (VE.res (vs := [_]) rfl ⟨rfl, trivial⟩ (fun w hw => ?_))
    have hx2 : xs = l := by rw [hX, List.take_of_length_le (by omega)]
    rw [← hx2]
    exact ⟨(px_, cx_), trivial, rfl, hw.sel [0] rfl⟩

end Go.Proofs.Ytdjflomhaljljaa

namespace Go.Proofs.Ytdjflomhaljljaa
open Go.SL Go.Proofs Go.Cast
set_option linter.unusedVariables false


theorem K3 : Try.prog.cellsOf 3 = 1 := by kernel_rfl
theorem K9 : Try.prog.cellsOf 9 = 1 := by kernel_rfl
theorem K23 : Try.prog.cellsOf 23 = 5 := by kernel_rfl
theorem K26 : Try.prog.cellsOf 26 = 3 := by kernel_rfl
theorem K55 : Try.prog.cellsOf 55 = 1 := by kernel_rfl
theorem K74 : Try.prog.cellsOf 74 = 2 := by kernel_rfl
theorem K76 : Try.prog.cellsOf 76 = 2 := by kernel_rfl
theorem K78 : Try.prog.cellsOf 78 = 4 := by kernel_rfl
theorem K80 : Try.prog.cellsOf 80 = 7 := by kernel_rfl

section
variable {H : Type} {enc : TypeId × Value → H} {W : World}
theorem rd3 : RD enc Try.prog W 3 fun cs => ∃ n, cs = [.int .i64 n] ∧ kb .i64 n := RD.int Try.underlying3
theorem rd4 : RD enc Try.prog W 4 fun cs => ∃ b, cs = [.bool b] := RD.bool Try.underlying4
theorem rd9 : RD enc Try.prog W 9 fun cs => ∃ s : ByteArray, cs = [.string s] ∧ s.size ≤ maxLen := RD.string Try.underlying9
theorem rd55 : RD enc Try.prog W 55 fun cs => ∃ (p : Option Addr) (cap : Nat) (l : List Int), cs = [.slice p l.length cap] ∧ l.length ≤ 9223372036854775807 ∧ Ints W p l ∧ ∀ n, n ∈ l → kb .i64 n := RD.ints Try.underlying55 Try.underlying3 K3
theorem rd76 : RD enc Try.prog W 76 fun cs => ∃ a b, cs = [.int .i64 a, .int .i64 b] ∧ kb .i64 a ∧ kb .i64 b := fun n cs x hx => by
  obtain ⟨css, rfl, hlen, _, hp⟩ := trod_parts Try.underlying76 (zs := [1, 1]) (by kernel_rfl) rfl (by kernel_rfl) hx
  match css, hlen with
  | [c0, c1], _ =>
    obtain ⟨_, _, h0⟩ := hp 0 _ c0 rfl rfl
    obtain ⟨_, _, h1⟩ := hp 1 _ c1 rfl rfl
    obtain ⟨a, rfl, ha⟩ := rd3 _ _ _ h0
    obtain ⟨b, rfl, hb⟩ := rd3 _ _ _ h1
    exact ⟨a, b, rfl, ha, hb⟩
theorem rd78 : RD enc Try.prog W 78 fun cs => ∃ f : Flow, cs = [.int .i64 f.a, .int .i64 f.b, .int .i64 f.c, .int .i64 f.d] ∧ kb .i64 f.a ∧ kb .i64 f.b ∧ kb .i64 f.c ∧ kb .i64 f.d := fun n cs x hx => by
  obtain ⟨css, rfl, hlen, _, hp⟩ := trod_parts Try.underlying78 (zs := [2, 2]) (by kernel_rfl) rfl (by kernel_rfl) hx
  match css, hlen with
  | [c0, c1], _ =>
    obtain ⟨_, _, h0⟩ := hp 0 _ c0 rfl rfl
    obtain ⟨_, _, h1⟩ := hp 1 _ c1 rfl rfl
    obtain ⟨a, b, rfl, ha, hb⟩ := rd76 _ _ _ h0
    obtain ⟨c, d, rfl, hc, hd⟩ := rd76 _ _ _ h1
    exact ⟨⟨a, b, c, d⟩, rfl, ha, hb, hc, hd⟩
theorem rd23 : RD enc Try.prog W 23 fun cs => ∃ g : Grid, cs = [.int .i64 g.x, .int .i64 g.y, .int .i64 g.size, .int .i64 g.wide, .int .i64 g.high] ∧ kb .i64 g.x ∧ kb .i64 g.y ∧ kb .i64 g.size ∧ kb .i64 g.wide ∧ kb .i64 g.high := fun n cs x hx => by
  obtain ⟨css, rfl, hlen, _, hp⟩ := trod_parts Try.underlying23 (zs := [1, 1, 1, 1, 1]) (by kernel_rfl) rfl (by kernel_rfl) hx
  match css, hlen with
  | [c0, c1, c2, c3, c4], _ =>
    obtain ⟨_, _, h0⟩ := hp 0 _ c0 rfl rfl
    obtain ⟨_, _, h1⟩ := hp 1 _ c1 rfl rfl
    obtain ⟨_, _, h2⟩ := hp 2 _ c2 rfl rfl
    obtain ⟨_, _, h3⟩ := hp 3 _ c3 rfl rfl
    obtain ⟨_, _, h4⟩ := hp 4 _ c4 rfl rfl
    obtain ⟨a, rfl, ha⟩ := rd3 _ _ _ h0
    obtain ⟨b, rfl, hb⟩ := rd3 _ _ _ h1
    obtain ⟨c, rfl, hc⟩ := rd3 _ _ _ h2
    obtain ⟨d, rfl, hd⟩ := rd3 _ _ _ h3
    obtain ⟨e, rfl, he⟩ := rd3 _ _ _ h4
    exact ⟨⟨a, b, c, d, e⟩, rfl, ha, hb, hc, hd, he⟩
theorem rd26 : RD enc Try.prog W 26 fun cs => ∃ a b d, cs = [.int .i64 a, .int .i64 b, .int .i64 d] := fun n cs x hx => by
  obtain ⟨css, rfl, hlen, _, hp⟩ := trod_parts Try.underlying26 (zs := [1, 1, 1]) (by kernel_rfl) rfl (by kernel_rfl) hx
  match css, hlen with
  | [c0, c1, c2], _ =>
    obtain ⟨_, _, h0⟩ := hp 0 _ c0 rfl rfl
    obtain ⟨_, _, h1⟩ := hp 1 _ c1 rfl rfl
    obtain ⟨_, _, h2⟩ := hp 2 _ c2 rfl rfl
    obtain ⟨a, rfl, ha⟩ := rd3 _ _ _ h0
    obtain ⟨b, rfl, hb⟩ := rd3 _ _ _ h1
    obtain ⟨c, rfl, hc⟩ := rd3 _ _ _ h2
    exact ⟨a, b, c, rfl⟩
theorem rd74 : RD enc Try.prog W 74 fun cs => ∃ x : RG, cs = x.cells ∧ Ints W x.px x.r.pix := fun n cs x hx => by
  obtain ⟨css, rfl, hlen, _, hp⟩ := trod_parts Try.underlying74 (zs := [1, 1]) (by kernel_rfl) rfl (by kernel_rfl) hx
  match css, hlen with
  | [c0, c1], _ =>
    obtain ⟨_, _, h0⟩ := hp 0 _ c0 rfl rfl
    obtain ⟨_, _, h1⟩ := hp 1 _ c1 rfl rfl
    obtain ⟨s, rfl, _⟩ := rd9 _ _ _ h0
    obtain ⟨p, cp, l, rfl, _, hl, _⟩ := rd55 _ _ _ h1
    exact ⟨⟨⟨s, l⟩, p, cp⟩, rfl, hl⟩
theorem rd24 : RD enc Try.prog W 24 fun cs => ∃ (p : Option Addr) (cap : Nat) (l : List RG), cs = [.slice p l.length cap] ∧ RegsU W p l := fun n cs x hx => by
  obtain ⟨p, cap, rows, rfl, h1, h2, h3⟩ := RD.slice Try.underlying24 K74 (by decide) rd74 _ _ _ hx
  obtain ⟨l, rfl, h5⟩ := rows_map (f := RG.cells) (Q := fun x => Ints W x.px x.r.pix) (fun r hr => by obtain ⟨x, h6, h7⟩ := (h3 r hr).2; exact ⟨x, h6, h7⟩)
  exact ⟨p, cap, l, by simp, h2, h5⟩
theorem rd28 : RD enc Try.prog W 28 fun cs => ∃ (g : Grid) (p : Option Addr) (cap : Nat) (l : List RG) (a b d : Int), cs = [.int .i64 g.x, .int .i64 g.y, .int .i64 g.size, .int .i64 g.wide, .int .i64 g.high, .slice p l.length cap, .int .i64 a, .int .i64 b, .int .i64 d] ∧ RegsU W p l := fun n cs x hx => by
  obtain ⟨css, rfl, hlen, _, hp⟩ := trod_parts Try.underlying28 (zs := [5, 1, 3]) (by kernel_rfl) rfl (by kernel_rfl) hx
  match css, hlen with
  | [c0, c1, c2], _ =>
    obtain ⟨_, _, h0⟩ := hp 0 _ c0 rfl rfl
    obtain ⟨_, _, h1⟩ := hp 1 _ c1 rfl rfl
    obtain ⟨_, _, h2⟩ := hp 2 _ c2 rfl rfl
    obtain ⟨g, rfl, _⟩ := rd23 _ _ _ h0
    obtain ⟨p, cp, l, rfl, hl⟩ := rd24 _ _ _ h1
    obtain ⟨a, b, d, rfl⟩ := rd26 _ _ _ h2
    exact ⟨g, p, cp, l, a, b, d, rfl, hl⟩
theorem rd80 : RD enc Try.prog W 80 fun cs => ∃ x : CP, cs = x.cells ∧ (Ints W x.ps x.c.sure ∧ Ints W x.pm x.c.may) := fun n cs x hx => by
  obtain ⟨css, rfl, hlen, _, hp⟩ := trod_parts Try.underlying80 (zs := [1, 1, 4, 1]) (by kernel_rfl) rfl (by kernel_rfl) hx
  match css, hlen with
  | [c0, c1, c2, c3], _ =>
    obtain ⟨_, _, h0⟩ := hp 0 _ c0 rfl rfl
    obtain ⟨_, _, h1⟩ := hp 1 _ c1 rfl rfl
    obtain ⟨_, _, h2⟩ := hp 2 _ c2 rfl rfl
    obtain ⟨_, _, h3⟩ := hp 3 _ c3 rfl rfl
    obtain ⟨p, cp, l, rfl, _, hl, _⟩ := rd55 _ _ _ h0
    obtain ⟨q, cq, m, rfl, _, hm, _⟩ := rd55 _ _ _ h1
    obtain ⟨f, rfl, hf⟩ := rd78 _ _ _ h2
    obtain ⟨g, rfl, hg⟩ := rd3 _ _ _ h3
    exact ⟨⟨⟨l, m, f, g⟩, p, cp, q, cq⟩, rfl, hl, hm⟩
theorem rd29 : RD enc Try.prog W 29 fun cs => ∃ (p : Option Addr) (cap : Nat) (l : List CP), cs = [.slice p l.length cap] ∧ CldU W p l := fun n cs x hx => by
  obtain ⟨p, cap, rows, rfl, h1, h2, h3⟩ := RD.slice Try.underlying29 K80 (by decide) rd80 _ _ _ hx
  obtain ⟨l, rfl, h5⟩ := rows_map (f := CP.cells) (Q := fun x => Ints W x.ps x.c.sure ∧ Ints W x.pm x.c.may) (fun r hr => by obtain ⟨x, h6, h7⟩ := (h3 r hr).2; exact ⟨x, h6, h7⟩)
  exact ⟨p, cap, l, by simp, h2, h5⟩
end

end Go.Proofs.Ytdjflomhaljljaa

namespace Go.Proofs.Ytdjflomhaljljaa
open Go.SL Go.Proofs Go.Cast
set_option linter.unusedVariables false



/-- No office: a nil pointer, or one to an office that no function made. -/
def NoOff (w : World) (p : Option Addr) : Prop := p = none ∨ ∃ b, p = some ⟨b, 0, none⟩ ∧ Cells w ⟨b, 0, none⟩ [.int .i64 0, .int .i64 0, .int .i64 0, .int .i64 0, .int .i64 0, .slice none 0 0, .int .i64 0, .int .i64 0, .int .i64 0, .slice none 0 0, .slice none 0 0, .slice none 0 0, .slice none 0 0]
theorem NoOff.keep {w0 w : World} {L : List Res} {p : Option Addr} (h : NoOff w0 p) (hw : St (bs w0) L w) : NoOff w p := by
  rcases h with h | ⟨b, h1, h2⟩
  · exact .inl h
  · exact .inr ⟨b, h1, cells_keep h2 w hw⟩

set_option maxRecDepth 20000 in
theorem nothing_n (w : World) :
  Calls Try.prog 53 #[.pointer none] w fun e w' => e = .returned (.bool true) ∧ St (bs w) [] w' := by
  refine enter (vs := [_]) (env := [(0, _)]) Try.func53 rfl rfl rfl rfl ?_
  refine VC.seq ?_
  refine VC.reg (VO.l (LO.as (.r rfl)) rfl <| VO.nil ?_)
  refine VE.seqN ?_
  refine VC.seq ?_
  refine VC.reg (VO.l (LO.mv (.r rfl)) rfl <| VO.l (LO.eqP0 ⟨_, Try.underlying53⟩ (.r rfl) (.r rfl)) rfl <| VO.l (LO.mv (.r rfl)) rfl <| VO.lg rfl rfl (GD.f _) (fun hg => LO.mv (.r rfl)) rfl <| VO.lg rfl rfl (GD.f _) (fun hg => (show LO _ _ _ _ _ (.bool false) from absurd hg (by decide))) rfl <| VO.lg rfl rfl (GD.f _) (fun hg => (show LO _ _ _ _ _ (.bool false) from absurd hg (by decide))) rfl <| VO.lg rfl rfl (GD.f _) (fun hg => (show LO _ _ _ _ _ (.bool false) from absurd hg (by decide))) rfl <| VO.lg rfl rfl (GD.f _) (fun hg => (show LO _ _ _ _ _ (.bool false) from absurd hg (by decide))) rfl <| VO.lg rfl rfl (GD.f _) (fun hg => (show LO _ _ _ _ _ (.bool false) from absurd hg (by decide))) rfl <| VO.l (LO.pkO (.r rfl) (.r rfl) rfl rfl) rfl <| VO.l (LO.as (.r rfl)) rfl <| VO.nil ?_)
  refine VE.seqN ?_
  refine VC.ret (VE.res (vs := [_]) rfl ⟨rfl, trivial⟩ (fun w hw => ?_))
  exact ⟨rfl, hw.nil⟩

set_option maxRecDepth 20000 in
theorem nothing_z (b : Nat) (w : World) (h : Cells w ⟨b, 0, none⟩ [.int .i64 0, .int .i64 0, .int .i64 0, .int .i64 0, .int .i64 0, .slice none 0 0, .int .i64 0, .int .i64 0, .int .i64 0, .slice none 0 0, .slice none 0 0, .slice none 0 0, .slice none 0 0]) :
  Calls Try.prog 53 #[ptrN b] w fun e w' => e = .returned (.bool true) ∧ St (bs w) [] w' := by
  refine enter (vs := [_]) (env := [(0, _)]) Try.func53 rfl rfl rfl rfl ?_
  refine VC.seq ?_
  refine VC.reg (VO.l (LO.as (.r rfl)) rfl <| VO.nil ?_)
  refine VE.seqN ?_
  refine VC.seq ?_
  refine VC.reg (VO.l (LO.mv (.r rfl)) rfl <| VO.l (LO.eqPn ⟨_, Try.underlying53⟩ (.r rfl) (.r rfl)) rfl <| VO.l (LO.mv (.r rfl)) rfl <| VO.lg rfl rfl (GD.f _) (fun hg => LO.mv (.r rfl)) rfl <| VO.lg rfl rfl (GD.f _) (fun hg => LO.nc (.g hg rfl)) rfl <| VO.lg rfl rfl (GD.f _) (fun hg => LO.fa (r := 9) F117_1 (.g hg rfl) rfl) rfl <| VO.lg rfl rfl (GD.f _) (fun hg => LO.ld O113 (.g hg rfl) (cells_keep (sub_cells (off := 9) h ⟨_, rfl⟩))) rfl <| VO.lg rfl rfl (GD.f _) (fun hg => LO.len S113 (.g hg rfl) rfl) rfl <| VO.lg rfl rfl (GD.f _) (fun hg => LO.eq (.g hg rfl) (.r rfl)) rfl <| VO.l (LO.pkO (.r rfl) (.r rfl) rfl rfl) rfl <| VO.l (LO.as (.r rfl)) rfl <| VO.nil ?_)
  refine VE.seqN ?_
  refine VC.ret (VE.res (vs := [_]) rfl ⟨rfl, trivial⟩ (fun w hw => ?_))
  exact ⟨rfl, hw.nil⟩

end Go.Proofs.Ytdjflomhaljljaa

namespace Go.Proofs.Ytdjflomhaljljaa
open Go.SL Go.Proofs Go.Cast
set_option linter.unusedVariables false

theorem C28 : IsFn Try.prog 28 := ⟨_, Try.func28, by decide, rfl⟩
theorem B93 : Builds Try.prog 93 [(0, 5), (5, 1)] [.int .i64 0, .int .i64 0, .int .i64 0, .int .i64 0, .int .i64 0, .slice none 0 0] := Builds.mk fun _ => by kernel_rfl
theorem C31 : IsFn Try.prog 31 := ⟨_, Try.func31, by decide, rfl⟩
theorem C22 : IsFn Try.prog 22 := ⟨_, Try.func22, by decide, rfl⟩
theorem S58 : IsSlice Try.prog 58 64 := Try.underlying58
theorem C41 : IsFn Try.prog 41 := ⟨_, Try.func41, by decide, rfl⟩
theorem S109 : IsSlice Try.prog 109 112 := Try.underlying109
theorem C32 : IsFn Try.prog 32 := ⟨_, Try.func32, by decide, rfl⟩
theorem S95 : IsSlice Try.prog 95 169 := Try.underlying95
theorem C42 : IsFn Try.prog 42 := ⟨_, Try.func42, by decide, rfl⟩


theorem nothing_0 (p : Option Addr) (w : World) (h : NoOff w p) : Calls Try.prog 53 #[.pointer p] w fun e w' => e = .returned (.bool true) ∧ St (bs w) [] w' := by
  rcases h with rfl | ⟨b, rfl, h⟩
  · exact nothing_n w
  · exact nothing_z b w h

set_option maxRecDepth 20000 in
theorem Step_nil (p : Option Addr) (t : Int) (w : World) (hp : NoOff w p) :
  Calls Try.prog 27 #[.pointer p, .int .i64 t, .slice none 0 0] w fun e w' => e = .returned (.tuple #[.slice none 0 0, .int .i64 1]) ∧ St (bs w) [] w' := by
  refine enter (vs := [_, _, _]) (env := [(0, _), (1, _), (2, _)]) Try.func27 rfl rfl rfl rfl ?_
  refine VC.seq ?_
  refine VC.reg (VO.h rfl <| HO.box (C := #[_]) rfl rfl fun b1 => VO.l (LO.as (.r rfl)) rfl <| VO.l (LO.as (.r rfl)) rfl <| VO.nil ?_)
  refine VE.seqN ?_
  refine VC.seq ?_
  refine VC.block ?_
  refine VC.seq ?_
  refine VC.reg (VO.l (LO.ld O53 (.r rfl) (fun _ hw => cells_at hw 0 rfl ⟨_, rfl⟩)) rfl <| VO.l (LO.call (xs := [_]) (vs := [_]) C53 ⟨(.r rfl), trivial⟩ (fun w hw => nothing_0 p w (hp.keep hw))) rfl <| VO.l (LO.as (.r rfl)) rfl <| VO.nil ?_)
  refine VE.seqN ?_
  refine VC.cond rfl (fun hc => ?_) (fun hc => ?_)
  ·
    refine VC.seq ?_
    refine VC.reg (VO.l (LO.as (.r rfl)) rfl <| VO.l (LO.as (.r rfl)) rfl <| VO.nil ?_)
    refine VE.seqN ?_
    refine VC.ret (VE.inR (VE.thenR (VE.res (vs := [_, _]) rfl ⟨rfl, rfl, trivial⟩ (fun w hw => ?_))))
    exact ⟨rfl, hw.nil⟩
  ·
    (exfalso; exact hc rfl)

set_option maxRecDepth 20000 in
theorem At_nil (p : Option Addr) (t : Int) (w : World) (hp : NoOff w p) :
  Calls Try.prog 28 #[.pointer p, .int .i64 t] w fun e w' => e = .returned (.tuple #[.slice none 0 0, .int .i64 1]) ∧ St (bs w) [] w' := by
  refine enter (vs := [_, _]) (env := [(0, _), (1, _)]) Try.func28 rfl rfl rfl rfl ?_
  refine VC.seq ?_
  refine VC.reg (VO.l (LO.as (.r rfl)) rfl <| VO.l (LO.as (.r rfl)) rfl <| VO.nil ?_)
  refine VE.seqN ?_
  refine VC.seq ?_
  refine VC.block ?_
  refine VC.seq ?_
  refine VC.reg (VO.l (LO.mv (.r rfl)) rfl <| VO.l (LO.call (xs := [_]) (vs := [_]) C53 ⟨(.r rfl), trivial⟩ (fun w hw => nothing_0 p w (hp.keep hw))) rfl <| VO.l (LO.as (.r rfl)) rfl <| VO.nil ?_)
  refine VE.seqN ?_
  refine VC.cond rfl (fun hc => ?_) (fun hc => ?_)
  ·
    refine VC.seq ?_
    refine VC.reg (VO.l (LO.as (.r rfl)) rfl <| VO.l (LO.as (.r rfl)) rfl <| VO.nil ?_)
    refine VE.seqN ?_
    refine VC.ret (VE.inR (VE.thenR (VE.res (vs := [_, _]) rfl ⟨rfl, rfl, trivial⟩ (fun w hw => ?_))))
    exact ⟨rfl, hw.nil⟩
  ·
    (exfalso; exact hc rfl)

set_option maxRecDepth 20000 in
theorem Note_nil (p : Option Addr) (t : Int) (w : World) (hp : NoOff w p) :
  Calls Try.prog 31 #[.pointer p, .int .i64 t, .agg #[.int .i64 0, .int .i64 0, .int .i64 0, .int .i64 0, .int .i64 0, .slice none 0 0], .int .i64 0] w fun e w' => e = .returned (.int .i64 1) ∧ St (bs w) [] w' := by
  refine enter (vs := [_, _, _, _]) (env := [(0, _), (1, _), (2, _), (3, _)]) Try.func31 rfl rfl rfl rfl ?_
  refine VC.seq ?_
  refine VC.reg (VO.h rfl <| HO.box (C := #[_, _, _, _, _, _]) rfl rfl fun b1 => VO.l (LO.as (.r rfl)) rfl <| VO.nil ?_)
  refine VE.seqN ?_
  refine VC.seq ?_
  refine VC.block ?_
  refine VC.seq ?_
  refine VC.reg (VO.l (LO.mv (.r rfl)) rfl <| VO.l (LO.call (xs := [_]) (vs := [_]) C53 ⟨(.r rfl), trivial⟩ (fun w hw => nothing_0 p w (hp.keep hw))) rfl <| VO.l (LO.as (.r rfl)) rfl <| VO.nil ?_)
  refine VE.seqN ?_
  refine VC.cond rfl (fun hc => ?_) (fun hc => ?_)
  ·
    refine VC.seq ?_
    refine VC.reg (VO.l (LO.as (.r rfl)) rfl <| VO.nil ?_)
    refine VE.seqN ?_
    refine VC.ret (VE.inR (VE.thenR (VE.res (vs := [_]) rfl ⟨rfl, trivial⟩ (fun w hw => ?_))))
    exact ⟨rfl, hw.nil⟩
  ·
    (exfalso; exact hc rfl)

set_option maxRecDepth 20000 in
theorem Levels_nil (p : Option Addr) (w : World) (hp : NoOff w p) :
  Calls Try.prog 24 #[.pointer p] w fun e w' => e = .returned (.slice none 0 0) ∧ St (bs w) [] w' := by
  refine enter (vs := [_]) (env := [(0, _)]) Try.func24 rfl rfl rfl rfl ?_
  refine VC.seq ?_
  refine VC.reg (VO.l (LO.as (.r rfl)) rfl <| VO.nil ?_)
  refine VE.seqN ?_
  refine VC.seq ?_
  refine VC.seq ?_
  refine VC.reg (VO.l (LO.mv (.r rfl)) rfl <| VO.l (LO.call (xs := [_]) (vs := [_]) C53 ⟨(.r rfl), trivial⟩ (fun w hw => nothing_0 p w (hp.keep hw))) rfl <| VO.nil ?_)
  refine VE.seqN ?_
  refine VC.cond rfl (fun hc => ?_) (fun hc => ?_)
  ·
    refine VC.seq ?_
    refine VC.reg (VO.l (LO.as (.r rfl)) rfl <| VO.nil ?_)
    refine VE.seqN ?_
    refine VC.ret (VE.thenR (VE.res (vs := [_]) rfl ⟨rfl, trivial⟩ (fun w hw => ?_)))
    exact ⟨rfl, hw.nil⟩
  ·
    (exfalso; exact hc rfl)

set_option maxRecDepth 20000 in
theorem Cases_nil (p : Option Addr) (w : World) (hp : NoOff w p) :
  Calls Try.prog 22 #[.pointer p] w fun e w' => e = .returned (.slice none 0 0) ∧ St (bs w) [] w' := by
  refine enter (vs := [_]) (env := [(0, _)]) Try.func22 rfl rfl rfl rfl ?_
  refine VC.seq ?_
  refine VC.reg (VO.l (LO.as (.r rfl)) rfl <| VO.nil ?_)
  refine VE.seqN ?_
  refine VC.seq ?_
  refine VC.seq ?_
  refine VC.reg (VO.l (LO.mv (.r rfl)) rfl <| VO.l (LO.call (xs := [_]) (vs := [_]) C53 ⟨(.r rfl), trivial⟩ (fun w hw => nothing_0 p w (hp.keep hw))) rfl <| VO.nil ?_)
  refine VE.seqN ?_
  refine VC.cond rfl (fun hc => ?_) (fun hc => ?_)
  ·
    refine VC.seq ?_
    refine VC.reg (VO.l (LO.as (.r rfl)) rfl <| VO.nil ?_)
    refine VE.seqN ?_
    refine VC.ret (VE.thenR (VE.res (vs := [_]) rfl ⟨rfl, trivial⟩ (fun w hw => ?_)))
    exact ⟨rfl, hw.nil⟩
  ·
    (exfalso; exact hc rfl)

set_option maxRecDepth 20000 in
theorem Score_nil (p : Option Addr) (w : World) (hp : NoOff w p) :
  Calls Try.prog 41 #[.pointer p] w fun e w' => e = .returned (.slice none 0 0) ∧ St (bs w) [] w' := by
  refine enter (vs := [_]) (env := [(0, _)]) Try.func41 rfl rfl rfl rfl ?_
  refine VC.seq ?_
  refine VC.reg (VO.l (LO.as (.r rfl)) rfl <| VO.nil ?_)
  refine VE.seqN ?_
  refine VC.seq ?_
  refine VC.seq ?_
  refine VC.reg (VO.l (LO.mv (.r rfl)) rfl <| VO.l (LO.call (xs := [_]) (vs := [_]) C53 ⟨(.r rfl), trivial⟩ (fun w hw => nothing_0 p w (hp.keep hw))) rfl <| VO.nil ?_)
  refine VE.seqN ?_
  refine VC.cond rfl (fun hc => ?_) (fun hc => ?_)
  ·
    refine VC.seq ?_
    refine VC.reg (VO.l (LO.as (.r rfl)) rfl <| VO.nil ?_)
    refine VE.seqN ?_
    refine VC.ret (VE.thenR (VE.res (vs := [_]) rfl ⟨rfl, trivial⟩ (fun w hw => ?_)))
    exact ⟨rfl, hw.nil⟩
  ·
    (exfalso; exact hc rfl)

set_option maxRecDepth 20000 in
theorem Log_nil (p : Option Addr) (w : World) (hp : NoOff w p) :
  Calls Try.prog 32 #[.pointer p] w fun e w' => e = .returned (.slice none 0 0) ∧ St (bs w) [] w' := by
  refine enter (vs := [_]) (env := [(0, _)]) Try.func32 rfl rfl rfl rfl ?_
  refine VC.seq ?_
  refine VC.reg (VO.l (LO.as (.r rfl)) rfl <| VO.nil ?_)
  refine VE.seqN ?_
  refine VC.seq ?_
  refine VC.seq ?_
  refine VC.reg (VO.l (LO.mv (.r rfl)) rfl <| VO.l (LO.call (xs := [_]) (vs := [_]) C53 ⟨(.r rfl), trivial⟩ (fun w hw => nothing_0 p w (hp.keep hw))) rfl <| VO.nil ?_)
  refine VE.seqN ?_
  refine VC.cond rfl (fun hc => ?_) (fun hc => ?_)
  ·
    refine VC.seq ?_
    refine VC.reg (VO.l (LO.as (.r rfl)) rfl <| VO.nil ?_)
    refine VE.seqN ?_
    refine VC.ret (VE.thenR (VE.res (vs := [_]) rfl ⟨rfl, trivial⟩ (fun w hw => ?_)))
    exact ⟨rfl, hw.nil⟩
  ·
    (exfalso; exact hc rfl)

set_option maxRecDepth 20000 in
theorem Copy_nil (p : Option Addr) (w : World) (hp : NoOff w p) :
  Calls Try.prog 42 #[.pointer p] w fun e w' => e = .returned (.pointer none) ∧ St (bs w) [] w' := by
  refine enter (vs := [_]) (env := [(0, _)]) Try.func42 rfl rfl rfl rfl ?_
  refine VC.seq ?_
  refine VC.reg (VO.l (LO.as (.r rfl)) rfl <| VO.nil ?_)
  refine VE.seqN ?_
  refine VC.seq ?_
  refine VC.seq ?_
  refine VC.reg (VO.l (LO.mv (.r rfl)) rfl <| VO.l (LO.call (xs := [_]) (vs := [_]) C53 ⟨(.r rfl), trivial⟩ (fun w hw => nothing_0 p w (hp.keep hw))) rfl <| VO.nil ?_)
  refine VE.seqN ?_
  refine VC.cond rfl (fun hc => ?_) (fun hc => ?_)
  ·
    refine VC.seq ?_
    refine VC.reg (VO.l (LO.as (.r rfl)) rfl <| VO.nil ?_)
    refine VE.seqN ?_
    refine VC.ret (VE.thenR (VE.res (vs := [_]) rfl ⟨rfl, trivial⟩ (fun w hw => ?_)))
    exact ⟨rfl, hw.nil⟩
  ·
    (exfalso; exact hc rfl)

set_option maxRecDepth 20000 in
theorem IssueNil_c (z : Bool) (t : Int) (w : World) :
  Calls Try.prog 10 #[.bool z, .int .i64 t] w fun e w' => e = .returned (.bool true) ∧ St (bs w) [] w' := by
  refine enter (vs := [_, _]) (env := [(0, _), (1, _)]) Try.func10 rfl rfl rfl rfl ?_
  refine VC.seq ?_
  refine VC.reg (VO.l (LO.as (.r rfl)) rfl <| VO.nil ?_)
  refine VE.seqN ?_
  refine VC.seq ?_
  refine VC.reg (VO.l (LO.as (.r rfl)) rfl <| VO.nil ?_)
  refine VE.seqN ?_
  refine VC.seq ?_
  refine VC.seq ?_
  refine VC.reg (VO.l (LO.mv (.r rfl)) rfl <| VO.nil ?_)
  refine VE.seqN ?_
  refine VC.cond rfl (fun h1 => ?_) (fun h1 => ?_)
  ·
    refine VC.reg (VO.l (LO.bd (ps := []) (vs := []) (C := [_, _, _, _, _, _, _, _, _, _, _, _, _]) B117  trivial rfl rfl) rfl <| VO.h rfl <| HO.box (C := #[_, _, _, _, _, _, _, _, _, _, _, _, _]) rfl rfl fun b1 => VO.h rfl <| HO.lo (LO.as (.r rfl)) <| VO.nil ?_)
    refine VE.seqN ?_
    refine VC.seq ?_
    refine VC.reg (VO.l (LO.mv (.r rfl)) rfl <| VO.l (LO.mv (.r rfl)) rfl <| VO.l (LO.call (xs := [_, _, _]) (vs := [_, _, _]) C27 ⟨(.r rfl), (.r rfl), (.r rfl), trivial⟩ (fun w hw => Step_nil _ t w (.inr ⟨_, rfl, cells_at hw 0 rfl ⟨[], rfl⟩⟩))) rfl <| VO.l (LO.mv (.r rfl)) rfl <| VO.l (LO.ex (.r rfl) rfl) rfl <| VO.l (LO.ex (.r rfl) rfl) rfl <| VO.l (LO.as (.r rfl)) rfl <| VO.l (LO.as (.r rfl)) rfl <| VO.nil ?_)
    refine VE.seqN ?_
    refine VC.seq ?_
    refine VC.reg (VO.l (LO.mv (.r rfl)) rfl <| VO.l (LO.mv (.r rfl)) rfl <| VO.l (LO.call (xs := [_, _]) (vs := [_, _]) C28 ⟨(.r rfl), (.r rfl), trivial⟩ (fun w hw => At_nil _ t w (.inr ⟨_, rfl, cells_at hw 0 rfl ⟨[], rfl⟩⟩))) rfl <| VO.l (LO.mv (.r rfl)) rfl <| VO.l (LO.ex (.r rfl) rfl) rfl <| VO.l (LO.ex (.r rfl) rfl) rfl <| VO.l (LO.as (.r rfl)) rfl <| VO.l (LO.as (.r rfl)) rfl <| VO.nil ?_)
    refine VE.seqN ?_
    refine VC.seq ?_
    refine VC.reg (VO.l (LO.mv (.r rfl)) rfl <| VO.l (LO.len S60 (.r rfl) rfl) rfl <| VO.l (LO.eq (.r rfl) (.r rfl)) rfl <| VO.l (LO.mv (.r rfl)) rfl <| VO.lg rfl rfl (GD.t _) (fun hg => LO.mv (.r rfl)) rfl <| VO.lg rfl rfl (GD.t _) (fun hg => LO.eq (.g hg rfl) (.r rfl)) rfl <| VO.l (LO.pkA (.r rfl) rfl rfl (.r rfl)) rfl <| VO.l (LO.mv (.r rfl)) rfl <| VO.lg rfl rfl (GD.t _) (fun hg => LO.mv (.r rfl)) rfl <| VO.lg rfl rfl (GD.t _) (fun hg => LO.len S55 (.g hg rfl) rfl) rfl <| VO.lg rfl rfl (GD.t _) (fun hg => LO.eq (.g hg rfl) (.r rfl)) rfl <| VO.l (LO.pkA (.r rfl) rfl rfl (.r rfl)) rfl <| VO.l (LO.mv (.r rfl)) rfl <| VO.lg rfl rfl (GD.t _) (fun hg => LO.mv (.r rfl)) rfl <| VO.lg rfl rfl (GD.t _) (fun hg => LO.eq (.g hg rfl) (.r rfl)) rfl <| VO.l (LO.pkA (.r rfl) rfl rfl (.r rfl)) rfl <| VO.l (LO.mv (.r rfl)) rfl <| VO.lg rfl rfl (GD.t _) (fun hg => LO.mv (.r rfl)) rfl <| VO.lg rfl rfl (GD.t _) (fun hg => LO.mv (.r rfl)) rfl <| VO.lg rfl rfl (GD.t _) (fun hg => LO.bd (ps := []) (vs := []) (C := [_, _, _, _, _, _]) B93  trivial rfl rfl) rfl <| VO.lg rfl rfl (GD.t _) (fun hg => LO.call (xs := [_, _, _, _]) (vs := [_, _, _, _]) C31 ⟨(.g hg rfl), (.g hg rfl), (.g hg rfl), (.r rfl), trivial⟩ (fun w hw => Note_nil _ t w (.inr ⟨_, rfl, cells_at hw 0 rfl ⟨[], rfl⟩⟩))) rfl <| VO.lg rfl rfl (GD.t _) (fun hg => LO.eq (.g hg rfl) (.r rfl)) rfl <| VO.l (LO.pkA (.r rfl) rfl rfl (.r rfl)) rfl <| VO.l (LO.mv (.r rfl)) rfl <| VO.lg rfl rfl (GD.t _) (fun hg => LO.mv (.r rfl)) rfl <| VO.lg rfl rfl (GD.t _) (fun hg => LO.call (xs := [_]) (vs := [_]) C24 ⟨(.g hg rfl), trivial⟩ (fun w hw => Levels_nil _ w (.inr ⟨_, rfl, cells_at hw 0 rfl ⟨[], rfl⟩⟩))) rfl <| VO.lg rfl rfl (GD.t _) (fun hg => LO.len S55 (.g hg rfl) rfl) rfl <| VO.lg rfl rfl (GD.t _) (fun hg => LO.eq (.g hg rfl) (.r rfl)) rfl <| VO.l (LO.pkA (.r rfl) rfl rfl (.r rfl)) rfl <| VO.l (LO.mv (.r rfl)) rfl <| VO.lg rfl rfl (GD.t _) (fun hg => LO.mv (.r rfl)) rfl <| VO.lg rfl rfl (GD.t _) (fun hg => LO.call (xs := [_]) (vs := [_]) C22 ⟨(.g hg rfl), trivial⟩ (fun w hw => Cases_nil _ w (.inr ⟨_, rfl, cells_at hw 0 rfl ⟨[], rfl⟩⟩))) rfl <| VO.lg rfl rfl (GD.t _) (fun hg => LO.len S58 (.g hg rfl) rfl) rfl <| VO.lg rfl rfl (GD.t _) (fun hg => LO.eq (.g hg rfl) (.r rfl)) rfl <| VO.l (LO.pkA (.r rfl) rfl rfl (.r rfl)) rfl <| VO.l (LO.mv (.r rfl)) rfl <| VO.lg rfl rfl (GD.t _) (fun hg => LO.mv (.r rfl)) rfl <| VO.lg rfl rfl (GD.t _) (fun hg => LO.call (xs := [_]) (vs := [_]) C41 ⟨(.g hg rfl), trivial⟩ (fun w hw => Score_nil _ w (.inr ⟨_, rfl, cells_at hw 0 rfl ⟨[], rfl⟩⟩))) rfl <| VO.lg rfl rfl (GD.t _) (fun hg => LO.len S109 (.g hg rfl) rfl) rfl <| VO.lg rfl rfl (GD.t _) (fun hg => LO.eq (.g hg rfl) (.r rfl)) rfl <| VO.l (LO.pkA (.r rfl) rfl rfl (.r rfl)) rfl <| VO.l (LO.mv (.r rfl)) rfl <| VO.lg rfl rfl (GD.t _) (fun hg => LO.mv (.r rfl)) rfl <| VO.lg rfl rfl (GD.t _) (fun hg => LO.call (xs := [_]) (vs := [_]) C32 ⟨(.g hg rfl), trivial⟩ (fun w hw => Log_nil _ w (.inr ⟨_, rfl, cells_at hw 0 rfl ⟨[], rfl⟩⟩))) rfl <| VO.lg rfl rfl (GD.t _) (fun hg => LO.len S95 (.g hg rfl) rfl) rfl <| VO.lg rfl rfl (GD.t _) (fun hg => LO.eq (.g hg rfl) (.r rfl)) rfl <| VO.l (LO.pkA (.r rfl) rfl rfl (.r rfl)) rfl <| VO.l (LO.mv (.r rfl)) rfl <| VO.lg rfl rfl (GD.t _) (fun hg => LO.mv (.r rfl)) rfl <| VO.lg rfl rfl (GD.t _) (fun hg => LO.call (xs := [_]) (vs := [_]) C42 ⟨(.g hg rfl), trivial⟩ (fun w hw => Copy_nil _ w (.inr ⟨_, rfl, cells_at hw 0 rfl ⟨[], rfl⟩⟩))) rfl <| VO.lg rfl rfl (GD.t _) (fun hg => LO.eqP0 ⟨_, Try.underlying53⟩ (.g hg rfl) (.r rfl)) rfl <| VO.l (LO.pkA (.r rfl) rfl rfl (.r rfl)) rfl <| VO.l (LO.mv (.r rfl)) rfl <| VO.lg rfl rfl (GD.t _) (fun hg => LO.call (xs := []) (vs := []) C14 trivial (fun w _ => works_c w)) rfl <| VO.l (LO.pkA (.r rfl) rfl rfl (.r rfl)) rfl <| VO.l (LO.as (.r rfl)) rfl <| VO.nil ?_)
    refine VE.seqN ?_
    refine VC.ret (VE.res (vs := [_]) rfl ⟨rfl, trivial⟩ (fun w hw => ?_))
    refine ⟨?_, hw.nil⟩
    first | rfl | (simp only [resV]; rfl)
  ·
    refine VC.skip (VE.seqN ?_)
    refine VC.seq ?_
    refine VC.reg (VO.l (LO.mv (.r rfl)) rfl <| VO.l (LO.mv (.r rfl)) rfl <| VO.l (LO.call (xs := [_, _, _]) (vs := [_, _, _]) C27 ⟨(.r rfl), (.r rfl), (.r rfl), trivial⟩ (fun w hw => Step_nil _ t w (.inl rfl))) rfl <| VO.l (LO.mv (.r rfl)) rfl <| VO.l (LO.ex (.r rfl) rfl) rfl <| VO.l (LO.ex (.r rfl) rfl) rfl <| VO.l (LO.as (.r rfl)) rfl <| VO.l (LO.as (.r rfl)) rfl <| VO.nil ?_)
    refine VE.seqN ?_
    refine VC.seq ?_
    refine VC.reg (VO.l (LO.mv (.r rfl)) rfl <| VO.l (LO.mv (.r rfl)) rfl <| VO.l (LO.call (xs := [_, _]) (vs := [_, _]) C28 ⟨(.r rfl), (.r rfl), trivial⟩ (fun w hw => At_nil _ t w (.inl rfl))) rfl <| VO.l (LO.mv (.r rfl)) rfl <| VO.l (LO.ex (.r rfl) rfl) rfl <| VO.l (LO.ex (.r rfl) rfl) rfl <| VO.l (LO.as (.r rfl)) rfl <| VO.l (LO.as (.r rfl)) rfl <| VO.nil ?_)
    refine VE.seqN ?_
    refine VC.seq ?_
    refine VC.reg (VO.l (LO.mv (.r rfl)) rfl <| VO.l (LO.len S60 (.r rfl) rfl) rfl <| VO.l (LO.eq (.r rfl) (.r rfl)) rfl <| VO.l (LO.mv (.r rfl)) rfl <| VO.lg rfl rfl (GD.t _) (fun hg => LO.mv (.r rfl)) rfl <| VO.lg rfl rfl (GD.t _) (fun hg => LO.eq (.g hg rfl) (.r rfl)) rfl <| VO.l (LO.pkA (.r rfl) rfl rfl (.r rfl)) rfl <| VO.l (LO.mv (.r rfl)) rfl <| VO.lg rfl rfl (GD.t _) (fun hg => LO.mv (.r rfl)) rfl <| VO.lg rfl rfl (GD.t _) (fun hg => LO.len S55 (.g hg rfl) rfl) rfl <| VO.lg rfl rfl (GD.t _) (fun hg => LO.eq (.g hg rfl) (.r rfl)) rfl <| VO.l (LO.pkA (.r rfl) rfl rfl (.r rfl)) rfl <| VO.l (LO.mv (.r rfl)) rfl <| VO.lg rfl rfl (GD.t _) (fun hg => LO.mv (.r rfl)) rfl <| VO.lg rfl rfl (GD.t _) (fun hg => LO.eq (.g hg rfl) (.r rfl)) rfl <| VO.l (LO.pkA (.r rfl) rfl rfl (.r rfl)) rfl <| VO.l (LO.mv (.r rfl)) rfl <| VO.lg rfl rfl (GD.t _) (fun hg => LO.mv (.r rfl)) rfl <| VO.lg rfl rfl (GD.t _) (fun hg => LO.mv (.r rfl)) rfl <| VO.lg rfl rfl (GD.t _) (fun hg => LO.bd (ps := []) (vs := []) (C := [_, _, _, _, _, _]) B93  trivial rfl rfl) rfl <| VO.lg rfl rfl (GD.t _) (fun hg => LO.call (xs := [_, _, _, _]) (vs := [_, _, _, _]) C31 ⟨(.g hg rfl), (.g hg rfl), (.g hg rfl), (.r rfl), trivial⟩ (fun w hw => Note_nil _ t w (.inl rfl))) rfl <| VO.lg rfl rfl (GD.t _) (fun hg => LO.eq (.g hg rfl) (.r rfl)) rfl <| VO.l (LO.pkA (.r rfl) rfl rfl (.r rfl)) rfl <| VO.l (LO.mv (.r rfl)) rfl <| VO.lg rfl rfl (GD.t _) (fun hg => LO.mv (.r rfl)) rfl <| VO.lg rfl rfl (GD.t _) (fun hg => LO.call (xs := [_]) (vs := [_]) C24 ⟨(.g hg rfl), trivial⟩ (fun w hw => Levels_nil _ w (.inl rfl))) rfl <| VO.lg rfl rfl (GD.t _) (fun hg => LO.len S55 (.g hg rfl) rfl) rfl <| VO.lg rfl rfl (GD.t _) (fun hg => LO.eq (.g hg rfl) (.r rfl)) rfl <| VO.l (LO.pkA (.r rfl) rfl rfl (.r rfl)) rfl <| VO.l (LO.mv (.r rfl)) rfl <| VO.lg rfl rfl (GD.t _) (fun hg => LO.mv (.r rfl)) rfl <| VO.lg rfl rfl (GD.t _) (fun hg => LO.call (xs := [_]) (vs := [_]) C22 ⟨(.g hg rfl), trivial⟩ (fun w hw => Cases_nil _ w (.inl rfl))) rfl <| VO.lg rfl rfl (GD.t _) (fun hg => LO.len S58 (.g hg rfl) rfl) rfl <| VO.lg rfl rfl (GD.t _) (fun hg => LO.eq (.g hg rfl) (.r rfl)) rfl <| VO.l (LO.pkA (.r rfl) rfl rfl (.r rfl)) rfl <| VO.l (LO.mv (.r rfl)) rfl <| VO.lg rfl rfl (GD.t _) (fun hg => LO.mv (.r rfl)) rfl <| VO.lg rfl rfl (GD.t _) (fun hg => LO.call (xs := [_]) (vs := [_]) C41 ⟨(.g hg rfl), trivial⟩ (fun w hw => Score_nil _ w (.inl rfl))) rfl <| VO.lg rfl rfl (GD.t _) (fun hg => LO.len S109 (.g hg rfl) rfl) rfl <| VO.lg rfl rfl (GD.t _) (fun hg => LO.eq (.g hg rfl) (.r rfl)) rfl <| VO.l (LO.pkA (.r rfl) rfl rfl (.r rfl)) rfl <| VO.l (LO.mv (.r rfl)) rfl <| VO.lg rfl rfl (GD.t _) (fun hg => LO.mv (.r rfl)) rfl <| VO.lg rfl rfl (GD.t _) (fun hg => LO.call (xs := [_]) (vs := [_]) C32 ⟨(.g hg rfl), trivial⟩ (fun w hw => Log_nil _ w (.inl rfl))) rfl <| VO.lg rfl rfl (GD.t _) (fun hg => LO.len S95 (.g hg rfl) rfl) rfl <| VO.lg rfl rfl (GD.t _) (fun hg => LO.eq (.g hg rfl) (.r rfl)) rfl <| VO.l (LO.pkA (.r rfl) rfl rfl (.r rfl)) rfl <| VO.l (LO.mv (.r rfl)) rfl <| VO.lg rfl rfl (GD.t _) (fun hg => LO.mv (.r rfl)) rfl <| VO.lg rfl rfl (GD.t _) (fun hg => LO.call (xs := [_]) (vs := [_]) C42 ⟨(.g hg rfl), trivial⟩ (fun w hw => Copy_nil _ w (.inl rfl))) rfl <| VO.lg rfl rfl (GD.t _) (fun hg => LO.eqP0 ⟨_, Try.underlying53⟩ (.g hg rfl) (.r rfl)) rfl <| VO.l (LO.pkA (.r rfl) rfl rfl (.r rfl)) rfl <| VO.l (LO.mv (.r rfl)) rfl <| VO.lg rfl rfl (GD.t _) (fun hg => LO.call (xs := []) (vs := []) C14 trivial (fun w _ => works_c w)) rfl <| VO.l (LO.pkA (.r rfl) rfl rfl (.r rfl)) rfl <| VO.l (LO.as (.r rfl)) rfl <| VO.nil ?_)
    refine VE.seqN ?_
    refine VC.ret (VE.res (vs := [_]) rfl ⟨rfl, trivial⟩ (fun w hw => ?_))
    refine ⟨?_, hw.nil⟩
    first | rfl | (simp only [resV]; rfl)

end Go.Proofs.Ytdjflomhaljljaa
