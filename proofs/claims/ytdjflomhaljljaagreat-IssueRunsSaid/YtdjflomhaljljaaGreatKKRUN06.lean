/-
  What the laws about offices ask of their arguments.
  (and more)
-/
import Derived.Test.YtdjflomhaljljaaGreatKKRUN05

set_option maxRecDepth 20000
set_option maxHeartbeats 8000000
namespace Go.Proofs.YtdjflomhaljljaaGreat
open Go.SL Go.Proofs Go.Cast
set_option linter.unusedVariables false
theorem C5 : IsFn Tryz.prog 5 := ⟨_, Tryz.func5, by decide, rfl⟩
theorem Z42 : ZeroOf Tryz.prog 42 (.agg #[.int .i64 0, .int .i64 0, .int .i64 0, .int .i64 0, .int .i64 0, .slice none 0 0, .int .i64 0, .int .i64 0, .int .i64 0]) := by unfold ZeroOf; kernel_rfl
theorem A26 : IsAgg Tryz.prog 26 3 := ⟨⟨_, Tryz.underlying26, rfl⟩, by kernel_rfl⟩
theorem B42 : Builds Tryz.prog 42 [(0,5), (5,1), (6,3)] [.int .i64 0, .int .i64 0, .int .i64 0, .int .i64 0, .int .i64 0, .slice none 0 0, .int .i64 0, .int .i64 0, .int .i64 0] := Builds.mk fun _ => by kernel_rfl
theorem N42 : (Tryz.prog.info? 42).map (·.size) = some 9 := by kernel_rfl
theorem B100 : Builds Tryz.prog 100 [(0,1), (1,1)] [.string ByteArray.empty, .slice none 0 0] := Builds.mk fun _ => by kernel_rfl
theorem I100 : EInfo Tryz.prog 100 2 40 (.agg #[.string ByteArray.empty, .slice none 0 0]) := ⟨by kernel_rfl, by kernel_rfl, by unfold ZeroOf; kernel_rfl, rfl, by decide⟩
theorem N39 : (Tryz.prog.info? 39).map (·.size) = some 1 := by kernel_rfl
theorem A42 : IsAgg Tryz.prog 42 9 := ⟨⟨_, Tryz.underlying42, rfl⟩, by kernel_rfl⟩
theorem B105 : Builds Tryz.prog 105 [(0,2), (2,2)] [.int .i64 0, .int .i64 0, .int .i64 0, .int .i64 0] := Builds.mk fun _ => by kernel_rfl
theorem B107 : Builds Tryz.prog 107 [(0,1), (1,1), (2,4), (6,1)] [.slice none 0 0, .slice none 0 0, .int .i64 0, .int .i64 0, .int .i64 0, .int .i64 0, .int .i64 0] := Builds.mk fun _ => by kernel_rfl
theorem Z107 : ZeroOf Tryz.prog 107 (.agg #[.slice none 0 0, .slice none 0 0, .int .i64 0, .int .i64 0, .int .i64 0, .int .i64 0, .int .i64 0]) := by unfold ZeroOf; kernel_rfl
theorem I107 : EInfo Tryz.prog 107 7 88 (.agg #[.slice none 0 0, .slice none 0 0, .int .i64 0, .int .i64 0, .int .i64 0, .int .i64 0, .int .i64 0]) := ⟨by kernel_rfl, by kernel_rfl, by unfold ZeroOf; kernel_rfl, rfl, by decide⟩
structure RegsU (w : World) (p : Option Addr) (l : List RG) : Prop where
  rows : Go.SL.Rows w 2 p (l.map RG.cells)
  ok : ∀ x, x ∈ l → Ints w x.px x.r.pix
theorem RegsU.sm {w : World} {p : Option Addr} {l : List RG} (h : RegsU w p l) : SlSome p l.length := Go.SL.Rows.some h.rows (by simp)
theorem RegsU.at {w0 : World} {p : Option Addr} {l : List RG} (h : RegsU w0 p l) {L : List Res} {j : Nat} {x : RG} (hx : l[j]? = some x) : ∀ w, St (bs w0) L w → Cells w ⟨pb p, po p + j * 2, none⟩ x.cells :=
  fun w hw => (h.rows.keep w hw).cells j _ (by rw [List.getElem?_map, hx]; rfl)
def FewR (l : List RG) : Prop := l.length ≤ 100 ∧ ∀ x, x ∈ l → x.r.pix.length ≤ 70
def FewC (l : List CP) : Prop := l.length ≤ 100 ∧ ∀ x, x ∈ l → x.c.sure.length ≤ 60 ∧ x.c.may.length ≤ 60
theorem RegsU.regs {w : World} {p : Option Addr} {l : List RG} (h : RegsU w p l) (hf : FewR l) : Regs w p l := ⟨h.rows, fun x hx => ⟨h.ok x hx, by have := hf.2 x hx; omega⟩⟩
structure CldU (w : World) (p : Option Addr) (l : List CP) : Prop where
  rows : Go.SL.Rows w 7 p (l.map CP.cells)
  ok : ∀ x, x ∈ l → Ints w x.ps x.c.sure ∧ Ints w x.pm x.c.may
theorem CldU.sl {w : World} {p : Option Addr} {l : List CP} (h : CldU w p l) : SlSome p l.length := Go.SL.Rows.some h.rows (by simp)
theorem CldU.at {w0 : World} {p : Option Addr} {l : List CP} (h : CldU w0 p l) {L : List Res} {j : Nat} {x : CP} (hx : l[j]? = some x) : ∀ w, St (bs w0) L w → Cells w ⟨pb p, po p + j * 7, none⟩ x.cells :=
  fun w hw => (h.rows.keep w hw).cells j _ (by rw [List.getElem?_map, hx]; rfl)
theorem CldU.keep {w0 w : World} {L : List Res} {p : Option Addr} {l : List CP} (h : CldU w0 p l) (hw : St (bs w0) L w) : CldU w p l := ⟨h.rows.keep w hw, fun x hx => ⟨(h.ok x hx).1.keep w hw, (h.ok x hx).2.keep w hw⟩⟩
theorem CldU.clouds {w : World} {p : Option Addr} {l : List CP} (h : CldU w p l) (hf : FewC l) : Clouds w p l := ⟨h.rows, fun x hx => ⟨(h.ok x hx).1, (h.ok x hx).2, by have := hf.2 x hx; omega, by have := hf.2 x hx; omega⟩⟩
theorem mem_step {α : Type} {P : α → Prop} {l : List α} {i : Nat} {x : α} (h : ∀ y, y ∈ l.take i → P y) (hx : l[i]? = some x) (hp : P x) : ∀ y, y ∈ l.take (i + 1) → P y := by
  rw [List.take_add_one, hx]
  intro y hy
  simp only [Option.toList_some, List.mem_append, List.mem_singleton] at hy
  rcases hy with q | rfl
  · exact h y q
  · exact hp
theorem few_c (g : Grid) (l : List RG) (pl : Option Addr) (cl : Nat) (a b d : Int) (w : World) (hl : RegsU w pl l) :
 Calls Tryz.prog 4 #[specV g pl l.length cl a b d] w fun e w' => ∃ z : Bool, (z = true → FewR l) ∧ e = .returned (.bool z) ∧ St (bs w) [] w' := by
 refine enter (vs := [_]) (env := [(0,_)]) Tryz.func4 rfl rfl rfl rfl ?_
 refine VC.q (VO.h rfl<|HO.box (C := #[_,_,_,_,_,_,_,_,_]) rfl rfl fun b1 => VO.a rfl rfl<|VO.n<|VC.seq<|VC.q (VO.f (r := 0) F28_0 rfl rfl rfl<|VO.f (r := 3) F23_3 rfl rfl rfl<|VO.c 0 O3 rfl rfl ⟨_, rfl⟩ rfl<|VO.l (LO.gt (.r rfl) (.r rfl)) rfl<|VO.m rfl rfl<|VO.gf rfl rfl (fun hg => LO.fa (r := 0) F28_0 (.r rfl) rfl) rfl<|VO.gf rfl rfl (fun hg => LO.fa (r := 4) F23_4 (.g hg rfl) rfl) rfl<|VO.gf rfl rfl (fun hg => LO.ld O3 (.g hg rfl) (cells_blk 0 rfl ⟨_, rfl⟩)) rfl<|VO.gf rfl rfl (fun hg => LO.gt (.g hg rfl) (.r rfl)) rfl<|VO.l (LO.pkO (.r rfl) (.r rfl) rfl rfl) rfl<|VO.m rfl rfl<|VO.gf rfl rfl (fun hg => LO.fa (r := 5) F28_1 (.r rfl) rfl) rfl<|VO.gf rfl rfl (fun hg => LO.ld O24 (.g hg rfl) (cells_blk 0 rfl ⟨_, rfl⟩)) rfl<|VO.gf rfl rfl (fun hg => LO.len S24 (.g hg rfl) rfl) rfl<|VO.gf rfl rfl (fun hg => LO.gt (.g hg rfl) (.r rfl)) rfl<|VO.gf rfl rfl (fun hg => LO.mv (.g hg rfl)) rfl<|VO.lg rfl rfl (GD.nt _ _) (fun hg => LO.fa (r := 5) F28_1 (.r rfl) rfl) rfl<|VO.lg rfl rfl (GD.nt _ _) (fun hg => LO.ld O24 (.g hg rfl) (cells_blk 0 rfl ⟨_, rfl⟩)) rfl<|VO.lg rfl rfl (GD.nt _ _) (fun hg => LO.len S24 (.g hg rfl) rfl) rfl<|VO.lg rfl rfl (GD.nt _ _) (fun hg => LO.le (.g hg rfl) (.r rfl)) rfl<|VO.gf rfl rfl (fun hg => LO.pkA (.g hg rfl) rfl (and_e hg) (.r rfl)) rfl<|VO.l (LO.pkO (.r rfl) (.r rfl) rfl rfl) rfl<|VO.m rfl rfl<|VO.gf rfl rfl (fun hg => LO.fa (r := 5) F28_1 (.r rfl) rfl) rfl<|VO.gf rfl rfl (fun hg => LO.ld O24 (.g hg rfl) (cells_blk 0 rfl ⟨_, rfl⟩)) rfl<|VO.gf rfl rfl (fun hg => LO.len S24 (.g hg rfl) rfl) rfl<|VO.gf rfl rfl (fun hg => LO.gt (.g hg rfl) (.r rfl)) rfl<|VO.l (LO.pkO (.r rfl) (.r rfl) rfl rfl) rfl<|VO.m rfl rfl<|VO.gf rfl rfl (fun hg => LO.fa (r := 6) F28_2 (.r rfl) rfl) rfl<|VO.gf rfl rfl (fun hg => LO.fa (r := 6) F26_0 (.g hg rfl) rfl) rfl<|VO.gf rfl rfl (fun hg => LO.ld O3 (.g hg rfl) (cells_blk 0 rfl ⟨_, rfl⟩)) rfl<|VO.gf rfl rfl (fun hg => LO.gt (.g hg rfl) (.r rfl)) rfl<|VO.gf rfl rfl (fun hg => LO.mv (.g hg rfl)) rfl<|VO.lg rfl rfl (GD.nt _ _) (fun hg => LO.fa (r := 6) F28_2 (.r rfl) rfl) rfl<|VO.lg rfl rfl (GD.nt _ _) (fun hg => LO.fa (r := 6) F26_0 (.g hg rfl) rfl) rfl<|VO.lg rfl rfl (GD.nt _ _) (fun hg => LO.ld O3 (.g hg rfl) (cells_blk 0 rfl ⟨_, rfl⟩)) rfl<|VO.lg rfl rfl (GD.nt _ _) (fun hg => LO.le (.g hg rfl) (.r rfl)) rfl<|VO.gf rfl rfl (fun hg => LO.pkA (.g hg rfl) rfl (and_e hg) (.r rfl)) rfl<|VO.l (LO.pkO (.r rfl) (.r rfl) rfl rfl) rfl<|VO.n<|VC.cond rfl (fun h43 => ?_) (fun h43 => ?_)))
 ·
  refine VC.q (VO.a rfl rfl<|VO.n<|VC.ret (VE.thenR (VE.s rfl rfl (fun w hw => ?_))))
  first | exact ⟨false, (fun q => absurd q (by decide)), rfl, hw.nil⟩ | exact ⟨true, fun _ => ⟨by omega, by rw [List.take_of_length_le (by omega)] at hz; exact hz⟩, rfl, hw.nil⟩
 ·
  refine VC.skip (VE.seqN<|VC.seq<|VC.q (VO.a rfl rfl<|VO.n<|VC.block<|VC.loopK (α := Nat) 0 (fun gx => [(3, .int .i64 (gx : Nat))]) [(1,_)] (fun gx => []) (fun gx => gx ≤ l.length ∧ ∀ x, x ∈ l.take gx → x.r.pix.length ≤ 70) (fun gx => l.length - gx) 0 (by exact ⟨Nat.zero_le _, fun x hx => by simp at hx⟩) (.cons rfl (.cons rfl .nil)) (fun _ h => h) ?_))
  rintro i ⟨hi, hz⟩
  refine VC.seq<|VC.q (VO.m rfl rfl<|VO.f (r := 5) F28_1 rfl rfl rfl<|VO.c 0 O24 rfl rfl ⟨_, rfl⟩ rfl<|VO.l (LO.len S24 (.r rfl) rfl) rfl<|VO.t rfl rfl rfl<|VO.n<|VC.cond rfl (fun h48 => ?_) (fun h48 => ?_))
  ·
   obtain ⟨x, hx⟩ : ∃ x, l[i]? = some x := ⟨_, List.getElem?_eq_getElem (by omega)⟩
   refine VC.skip (VE.seqN<|VC.seq<|VC.block<|VC.q (VO.f (r := 5) F28_1 rfl rfl rfl<|VO.c 0 O24 rfl rfl ⟨_, rfl⟩ rfl<|VO.m rfl rfl<|VO.l (LO.ixs S24 N74 hl.sm (.r rfl) (.r rfl) rfl (by omega)) rfl<|VO.f F74_0 rfl rfl rfl<|VO.l (LO.ld O9 (.r rfl) (fun w hw => cells_part (off := 0) ((hl.at hx) w hw) ⟨_, rfl⟩)) rfl<|VO.l (LO.lenS Tryz.underlying9 (.r rfl) rfl) rfl<|VO.l (LO.gt (.r rfl) (.r rfl)) rfl<|VO.m rfl rfl<|VO.gf rfl rfl (fun hg => LO.fa (r := 5) F28_1 (.r rfl) rfl) rfl<|VO.gf rfl rfl (fun hg => LO.ld O24 (.g hg rfl) (cells_blk 0 rfl ⟨_, rfl⟩)) rfl<|VO.gf rfl rfl (fun hg => LO.mv (.r rfl)) rfl<|VO.gf rfl rfl (fun hg => LO.ixs S24 N74 hl.sm (.g hg rfl) (.g hg rfl) rfl (by omega)) rfl<|VO.gf rfl rfl (fun hg => LO.fa F74_1 (.g hg rfl) rfl) rfl<|VO.gf rfl rfl (fun hg => LO.ld O72 (.g hg rfl) (fun w hw => cells_part (off := 1) ((hl.at hx) w hw) ⟨_, rfl⟩)) rfl<|VO.gf rfl rfl (fun hg => LO.len S72 (.g hg rfl) rfl) rfl<|VO.gf rfl rfl (fun hg => LO.gt (.g hg rfl) (.r rfl)) rfl<|VO.l (LO.pkO (.r rfl) (.r rfl) rfl rfl) rfl<|VO.n<|VC.cond rfl (fun h68 => ?_) (fun h68 => ?_)))
   ·
    refine VC.q (VO.a rfl rfl<|VO.n<|VC.ret (VE.inR (VE.thenR (VE.thenR (VE.inR (VE.thenR (VE.s rfl rfl (fun w hw => ?_))))))))
    first | exact ⟨false, (fun q => absurd q (by decide)), rfl, hw.nil⟩ | exact ⟨true, fun _ => ⟨by omega, by rw [List.take_of_length_le (by omega)] at hz; exact hz⟩, rfl, hw.nil⟩
   ·
    refine VC.skip (VE.inN (VE.seqN<|VC.reg (VO.m rfl rfl<|VO.p rfl rfl (by omega) (by omega) rfl<|VO.a rfl rfl<|VO.nil<|VE.thenN fun a w ha hw => ⟨i + 1, ⟨by omega, mem_step hz hx (by omega)⟩, (by omega), ha.sub (.cons rfl (.cons rfl .nil)), hw⟩)))
  ·
   refine VC.exit (VE.thenX (VE.thenX (VE.inX (VE.seqN<|VC.q (VO.a rfl rfl<|VO.n<|VC.ret (VE.s rfl rfl (fun w hw => ?_)))))))
   first | exact ⟨false, (fun q => absurd q (by decide)), rfl, hw.nil⟩ | exact ⟨true, fun _ => ⟨by omega, by rw [List.take_of_length_le (by omega)] at hz; exact hz⟩, rfl, hw.nil⟩
theorem fewClouds_c (l : List CP) (p : Option Addr) (c : Nat) (w : World) (hl : CldU w p l) :
 Calls Tryz.prog 9 #[.slice p l.length c] w fun e w' => ∃ z : Bool, (z = true → FewC l) ∧ e = .returned (.bool z) ∧ St (bs w) [] w' := by
 refine enter (vs := [_]) (env := [(0,_)]) Tryz.func9 rfl rfl rfl rfl ?_
 refine VC.q (VO.a rfl rfl<|VO.n<|VC.seq<|VC.q (VO.m rfl rfl<|VO.l (LO.len S45 (.r rfl) rfl) rfl<|VO.l (LO.gt (.r rfl) (.r rfl)) rfl<|VO.m rfl rfl<|VO.gt rfl rfl (fun hg => LO.mv (.r rfl)) rfl<|VO.gt rfl rfl (fun hg => LO.len S45 (.g hg rfl) rfl) rfl<|VO.gt rfl rfl (fun hg => LO.le (.g hg rfl) (.r rfl)) rfl<|VO.l (LO.pkA (.r rfl) rfl rfl (.r rfl)) rfl<|VO.m rfl rfl<|VO.gf rfl rfl (fun hg => LO.mv (.r rfl)) rfl<|VO.gf rfl rfl (fun hg => LO.len S45 (.g hg rfl) rfl) rfl<|VO.gf rfl rfl (fun hg => LO.gt (.g hg rfl) (.r rfl)) rfl<|VO.l (LO.pkO (.r rfl) (.r rfl) rfl rfl) rfl<|VO.n<|VC.cond rfl (fun h17 => ?_) (fun h17 => ?_)))
 ·
  refine VC.q (VO.a rfl rfl<|VO.n<|VC.ret (VE.thenR (VE.s rfl rfl (fun w hw => ?_))))
  first | exact ⟨false, (fun q => absurd q (by decide)), rfl, hw.nil⟩ | exact ⟨true, fun _ => ⟨by omega, by rw [List.take_of_length_le (by omega)] at hz; exact hz⟩, rfl, hw.nil⟩
 ·
  refine VC.skip (VE.seqN<|VC.seq<|VC.q (VO.a rfl rfl<|VO.n<|VC.block<|VC.loopK (α := Nat) 0 (fun gx => [(3, .int .i64 (gx : Nat))]) [(0,_)] (fun gx => []) (fun gx => gx ≤ l.length ∧ ∀ x, x ∈ l.take gx → x.c.sure.length ≤ 60 ∧ x.c.may.length ≤ 60) (fun gx => l.length - gx) 0 (by exact ⟨Nat.zero_le _, fun x hx => by simp at hx⟩) (.cons rfl (.cons rfl .nil)) (fun _ h => h) ?_))
  rintro i ⟨hi, hz⟩
  refine VC.seq<|VC.q (VO.m rfl rfl<|VO.m rfl rfl<|VO.l (LO.len S45 (.r rfl) rfl) rfl<|VO.t rfl rfl rfl<|VO.n<|VC.cond rfl (fun h21 => ?_) (fun h21 => ?_))
  ·
   obtain ⟨x, hx⟩ : ∃ x, l[i]? = some x := ⟨_, List.getElem?_eq_getElem (by omega)⟩
   refine VC.skip (VE.seqN<|VC.seq<|VC.block<|VC.q (VO.m rfl rfl<|VO.m rfl rfl<|VO.l (LO.ixs S45 N81 hl.sl (.r rfl) (.r rfl) rfl (by omega)) rfl<|VO.l (LO.lda (vs := [_,_,_,_,_,_,_]) A81 (.r rfl) (hl.at hx) rfl) rfl<|VO.h rfl<|HO.alloc (C := #[_,_,_,_,_,_,_]) Z81 rfl fun b1 => VO.h0<|HO.st 0 (vs := [_,_,_,_,_,_,_]) (C' := [_,_,_,_,_,_,_]) (L' := [_]) N81 rfl rfl rfl rfl rfl rfl rfl rfl<|VO.n<|VC.seq<|VC.q (VO.f (r := 0) F81_0 rfl rfl rfl<|VO.c 0 O72 rfl rfl ⟨_, rfl⟩ rfl<|VO.l (LO.len S72 (.r rfl) rfl) rfl<|VO.l (LO.gt (.r rfl) (.r rfl)) rfl<|VO.m rfl rfl<|VO.gf rfl rfl (fun hg => LO.fa (r := 1) F81_1 (.r rfl) rfl) rfl<|VO.gf rfl rfl (fun hg => LO.ld O72 (.g hg rfl) (cells_blk 0 rfl ⟨_, rfl⟩)) rfl<|VO.gf rfl rfl (fun hg => LO.len S72 (.g hg rfl) rfl) rfl<|VO.gf rfl rfl (fun hg => LO.gt (.g hg rfl) (.r rfl)) rfl<|VO.l (LO.pkO (.r rfl) (.r rfl) rfl rfl) rfl<|VO.n<|VC.cond rfl (fun h37 => ?_) (fun h37 => ?_))))
   ·
    refine VC.q (VO.a rfl rfl<|VO.n<|VC.ret (VE.thenR (VE.inR (VE.thenR (VE.thenR (VE.inR (VE.thenR (VE.s rfl rfl (fun w hw => ?_)))))))))
    first | exact ⟨false, (fun q => absurd q (by decide)), rfl, hw.nil⟩ | exact ⟨true, fun _ => ⟨by omega, by rw [List.take_of_length_le (by omega)] at hz; exact hz⟩, rfl, hw.nil⟩
   ·
    refine VC.skip (VE.seqN<|VC.q (VO.f (r := 2) F81_2 rfl rfl rfl<|VO.l (LO.lda (vs := [_,_,_,_]) A79 (.r rfl) (cells_blk 0 rfl ⟨_, rfl⟩) rfl) rfl<|VO.l (LO.call (xs := [_]) (vs := [_]) C29 ⟨(.r rfl), trivial⟩ (fun w _ => checkFlow_c x.c.flow w)) rfl<|VO.l (LO.eq (.r rfl) (.r rfl)) rfl<|VO.m rfl rfl<|VO.gt rfl rfl (fun hg => LO.fa (r := 6) F81_3 (.r rfl) rfl) rfl<|VO.gt rfl rfl (fun hg => LO.ld O3 (.g hg rfl) (cells_blk 0 rfl ⟨_, rfl⟩)) rfl<|VO.gt rfl rfl (fun hg => LO.ge (.g hg rfl) (.r rfl)) rfl<|VO.l (LO.pkA (.r rfl) rfl rfl (.r rfl)) rfl<|VO.m rfl rfl<|VO.gt rfl rfl (fun hg => LO.fa (r := 6) F81_3 (.r rfl) rfl) rfl<|VO.gt rfl rfl (fun hg => LO.ld O3 (.g hg rfl) (cells_blk 0 rfl ⟨_, rfl⟩)) rfl<|VO.gt rfl rfl (fun hg => LO.le (.g hg rfl) (.r rfl)) rfl<|VO.l (LO.pkA (.r rfl) rfl rfl (.r rfl)) rfl<|VO.m rfl rfl<|VO.gt rfl rfl (fun hg => LO.fa (r := 2) F81_2 (.r rfl) rfl) rfl<|VO.gt rfl rfl (fun hg => LO.fa (r := 2) F79_0 (.g hg rfl) rfl) rfl<|VO.gt rfl rfl (fun hg => LO.fa (r := 3) F77_1 (.g hg rfl) rfl) rfl<|VO.gt rfl rfl (fun hg => LO.ld O3 (.g hg rfl) (cells_blk 0 rfl ⟨_, rfl⟩)) rfl<|VO.gt rfl rfl (fun hg => LO.fa (r := 2) F81_2 (.r rfl) rfl) rfl<|VO.gt rfl rfl (fun hg => LO.fa (r := 2) F79_0 (.g hg rfl) rfl) rfl<|VO.gt rfl rfl (fun hg => LO.fa (r := 2) F77_0 (.g hg rfl) rfl) rfl<|VO.gt rfl rfl (fun hg => LO.ld O3 (.g hg rfl) (cells_blk 0 rfl ⟨_, rfl⟩)) rfl<|VO.gt rfl rfl (fun hg => LO.sub (.g hg rfl) (.g hg rfl) (wi (by have q := IsP.yes inferInstance hg; have f := flowOk_of (fun z => z q.1.1); obtain ⟨⟨_,_,_⟩,_,_,_⟩ := f; omega) (by have q := IsP.yes inferInstance hg; have f := flowOk_of (fun z => z q.1.1); obtain ⟨⟨_,_,_⟩,_,_,_⟩ := f; omega))) rfl<|VO.gt rfl rfl (fun hg => LO.fa (r := 6) F81_3 (.r rfl) rfl) rfl<|VO.gt rfl rfl (fun hg => LO.ld O3 (.g hg rfl) (cells_blk 0 rfl ⟨_, rfl⟩)) rfl<|VO.gt rfl rfl (fun hg => LO.mul (.r rfl) (.g hg rfl) (wi (by have q := IsP.yes inferInstance hg; have f := flowOk_of (fun z => z q.1.1); obtain ⟨⟨_,_,_⟩,_,_,_⟩ := f; omega) (by have q := IsP.yes inferInstance hg; have f := flowOk_of (fun z => z q.1.1); obtain ⟨⟨_,_,_⟩,_,_,_⟩ := f; omega))) rfl<|VO.gt rfl rfl (fun hg => LO.add (.g hg rfl) (.g hg rfl) (wi (by have q := IsP.yes inferInstance hg; have f := flowOk_of (fun z => z q.1.1); obtain ⟨⟨_,_,_⟩,_,_,_⟩ := f; omega) (by have q := IsP.yes inferInstance hg; have f := flowOk_of (fun z => z q.1.1); obtain ⟨⟨_,_,_⟩,_,_,_⟩ := f; omega))) rfl<|VO.gt rfl rfl (fun hg => LO.gt (.g hg rfl) (.r rfl)) rfl<|VO.gt rfl rfl (fun hg => LO.mv (.g hg rfl)) rfl<|VO.lg rfl rfl (GD.nf _ _) (fun hg => LO.fa (r := 2) F81_2 (.r rfl) rfl) rfl<|VO.lg rfl rfl (GD.nf _ _) (fun hg => LO.fa (r := 4) F79_1 (.g hg rfl) rfl) rfl<|VO.lg rfl rfl (GD.nf _ _) (fun hg => LO.fa (r := 5) F77_1 (.g hg rfl) rfl) rfl<|VO.lg rfl rfl (GD.nf _ _) (fun hg => LO.ld O3 (.g hg rfl) (cells_blk 0 rfl ⟨_, rfl⟩)) rfl<|VO.lg rfl rfl (GD.nf _ _) (fun hg => LO.fa (r := 2) F81_2 (.r rfl) rfl) rfl<|VO.lg rfl rfl (GD.nf _ _) (fun hg => LO.fa (r := 4) F79_1 (.g hg rfl) rfl) rfl<|VO.lg rfl rfl (GD.nf _ _) (fun hg => LO.fa (r := 4) F77_0 (.g hg rfl) rfl) rfl<|VO.lg rfl rfl (GD.nf _ _) (fun hg => LO.ld O3 (.g hg rfl) (cells_blk 0 rfl ⟨_, rfl⟩)) rfl<|VO.lg rfl rfl (GD.nf _ _) (fun hg => LO.sub (.g hg rfl) (.g hg rfl) (wi (by have q := IsP.yes inferInstance hg; have f := flowOk_of (fun z => z q.1.1.1); obtain ⟨⟨_,_,_⟩,_,_,_⟩ := f; omega) (by have q := IsP.yes inferInstance hg; have f := flowOk_of (fun z => z q.1.1.1); obtain ⟨⟨_,_,_⟩,_,_,_⟩ := f; omega))) rfl<|VO.lg rfl rfl (GD.nf _ _) (fun hg => LO.fa (r := 6) F81_3 (.r rfl) rfl) rfl<|VO.lg rfl rfl (GD.nf _ _) (fun hg => LO.ld O3 (.g hg rfl) (cells_blk 0 rfl ⟨_, rfl⟩)) rfl<|VO.lg rfl rfl (GD.nf _ _) (fun hg => LO.mul (.r rfl) (.g hg rfl) (wi (by have q := IsP.yes inferInstance hg; have f := flowOk_of (fun z => z q.1.1.1); obtain ⟨⟨_,_,_⟩,_,_,_⟩ := f; omega) (by have q := IsP.yes inferInstance hg; have f := flowOk_of (fun z => z q.1.1.1); obtain ⟨⟨_,_,_⟩,_,_,_⟩ := f; omega))) rfl<|VO.lg rfl rfl (GD.nf _ _) (fun hg => LO.add (.g hg rfl) (.g hg rfl) (wi (by have q := IsP.yes inferInstance hg; have f := flowOk_of (fun z => z q.1.1.1); obtain ⟨⟨_,_,_⟩,_,_,_⟩ := f; omega) (by have q := IsP.yes inferInstance hg; have f := flowOk_of (fun z => z q.1.1.1); obtain ⟨⟨_,_,_⟩,_,_,_⟩ := f; omega))) rfl<|VO.lg rfl rfl (GD.nf _ _) (fun hg => LO.gt (.g hg rfl) (.r rfl)) rfl<|VO.gt rfl rfl (fun hg => LO.pkO (.g hg rfl) (.r rfl) rfl (and_e hg)) rfl<|VO.l (LO.pkA (.r rfl) rfl rfl (.r rfl)) rfl<|VO.n<|VC.cond rfl (fun h83 => ?_) (fun h83 => ?_)))
    ·
     refine VC.q (VO.a rfl rfl<|VO.n<|VC.ret (VE.inR (VE.thenR (VE.thenR (VE.inR (VE.thenR (VE.s rfl rfl (fun w hw => ?_))))))))
     first | exact ⟨false, (fun q => absurd q (by decide)), rfl, hw.nil⟩ | exact ⟨true, fun _ => ⟨by omega, by rw [List.take_of_length_le (by omega)] at hz; exact hz⟩, rfl, hw.nil⟩
    ·
     refine VC.skip (VE.inN (VE.seqN<|VC.reg (VO.m rfl rfl<|VO.p rfl rfl (by omega) (by omega) rfl<|VO.a rfl rfl<|VO.nil<|VE.thenN fun a w ha hw => ⟨i + 1, ⟨by omega, mem_step hz hx (by omega)⟩, (by omega), ha.sub (.cons rfl (.cons rfl .nil)), hw.sel [] rfl⟩)))
  ·
   refine VC.exit (VE.thenX (VE.thenX (VE.inX (VE.seqN<|VC.q (VO.a rfl rfl<|VO.n<|VC.ret (VE.s rfl rfl (fun w hw => ?_)))))))
   first | exact ⟨false, (fun q => absurd q (by decide)), rfl, hw.nil⟩ | exact ⟨true, fun _ => ⟨by omega, by rw [List.take_of_length_le (by omega)] at hz; exact hz⟩, rfl, hw.nil⟩
theorem spec_c (g : Grid) (l : List RG) (pl : Option Addr) (cl : Nat) (a b d : Int) (w : World) (hf : l.length ≤ 100) (hl : RegsU w pl l) :
 Calls Tryz.prog 8 #[specV g pl l.length cl a b d] w fun e w' => ∃ x : Option Addr × Nat, True ∧ e = .returned (specV g x.1 l.length x.2 a b d) ∧ St (bs w) [own 100 2 x.1 x.2 (l.map RG.cells)] w' := by
 refine enter (vs := [_]) (env := [(0,_)]) Tryz.func8 rfl rfl rfl rfl ?_
 refine VC.q (VO.h rfl<|HO.box (C := #[_,_,_,_,_,_,_,_,_]) rfl rfl fun b1 => VO.h rfl<|HO.alloc (C := #[_,_,_,_,_,_,_,_,_]) Z42 rfl fun b2 => VO.n<|VC.q (VO.f (r := 0) F28_0 rfl rfl rfl<|VO.l (LO.lda (vs := [_,_,_,_,_]) A23 (.r rfl) (cells_blk 1 rfl ⟨_, rfl⟩) rfl) rfl<|VO.f (r := 6) F28_2 rfl rfl rfl<|VO.l (LO.lda (vs := [_,_,_]) A26 (.r rfl) (cells_blk 1 rfl ⟨_, rfl⟩) rfl) rfl<|VO.l (LO.bd (ps := [(_,_), (_,_)]) (vs := [(_,_), (_,_)]) (C := [_,_,_,_,_,_,_,_,_]) B42  ⟨(.r rfl), (.r rfl), trivial⟩ rfl ⟨_, [_,_,_,_,_], [_,_,_,_,_,_,_,_,_], rfl, rfl, rfl, rfl, ⟨_, [_,_,_], [_,_,_,_,_,_,_,_,_], rfl, rfl, rfl, rfl, rfl⟩⟩) rfl<|VO.h rfl<|HO.alloc (C := #[_,_,_,_,_,_,_,_,_]) Z42 rfl fun b3 => VO.h0<|HO.st 0 (vs := [_,_,_,_,_,_,_,_,_]) (C' := [_,_,_,_,_,_,_,_,_]) (L' := [_,_,_]) N42 rfl rfl rfl rfl rfl rfl rfl rfl<|VO.n<|VC.seq<|VC.q (VO.a rfl rfl<|VO.n<|VC.block<|VC.loopK (α := Nat × (List RG) × (Option Addr) × Nat) 1 (fun gx => [(4, .int .i64 (gx.1 : Nat))]) [(1,_), (2,_), (3,_)] (fun gx => [blk b3 (.cells #[.int .i64 g.x, .int .i64 g.y, .int .i64 g.size, .int .i64 g.wide, .int .i64 g.high, .slice gx.2.2.1 gx.2.1.length gx.2.2.2, .int .i64 a, .int .i64 b, .int .i64 d] 42), own 100 2 gx.2.2.1 gx.2.2.2 (gx.2.1.map RG.cells)]) (fun gx => gx.1 ≤ l.length ∧ gx.2.1 = l.take gx.1) (fun gx => l.length - gx.1) (0, [], none, 0) (by exact ⟨Nat.zero_le _, rfl⟩) (.c4 rfl rfl rfl rfl .nil) (fun _ h => ((h.ownNil 100 2)).sel [1,0,2,3] rfl) ?_)))
 rintro ⟨i, rgs, pg_, cg_⟩ ⟨hi, hX⟩
 show VC _ _ _ _ _ ([(4, .int .i64 (i : Nat))] ++ _) ([blk b3 (.cells #[.int .i64 g.x, .int .i64 g.y, .int .i64 g.size, .int .i64 g.wide, .int .i64 g.high, .slice pg_ rgs.length cg_, .int .i64 a, .int .i64 b, .int .i64 d] 42), own 100 2 pg_ cg_ (rgs.map RG.cells)] ++ _) _ _
 dsimp only at hi hX
 have hgl : rgs.length = i := by rw [hX]; simp; omega
 refine VC.seq<|VC.q (VO.m rfl rfl<|VO.f (r := 5) F28_1 rfl rfl rfl<|VO.c 3 O24 rfl rfl ⟨_, rfl⟩ rfl<|VO.l (LO.len S24 (.r rfl) rfl) rfl<|VO.t rfl rfl rfl<|VO.n<|VC.cond rfl (fun h14 => ?_) (fun h14 => ?_))
 ·
  obtain ⟨x, hx⟩ : ∃ x, l[i]? = some x := ⟨_, List.getElem?_eq_getElem (by omega)⟩
  refine VC.skip (VE.seqN<|VC.seq<|VC.block<|VC.drawH [[0,1,2,3], [0,1,2,3], [0,2,3], [2,3]] [some 1, some 1, some 0, some 0, some 0, some 0, some 0, some 0, some 0, some 0, some 0, some 0, some 0, some 0, some 0, none, none, some 2, none] mixed (by kernel_rfl) rfl (LX.l (fun _ hJ => LO.fa (r := 5) F42_1 (.r rfl) rfl) rfl<|LX.l (fun _ hJ => LO.ld O39 (.r rfl) (fun _ hw => cells_at (hJ _ hw) 0 rfl ⟨_, rfl⟩)) rfl<|LX.l (fun _ hJ => LO.fa (r := 5) F28_1 (.r rfl) rfl) rfl<|LX.l (fun _ hJ => LO.ld O24 (.r rfl) (fun _ hw => cells_at (hJ _ hw) 3 rfl ⟨_, rfl⟩)) rfl<|LX.m rfl rfl<|LX.l (fun _ hJ => LO.ixs S24 N74 hl.sm (.r rfl) (.r rfl) rfl (by omega)) rfl<|LX.l (fun _ hJ => LO.fa F74_0 (.r rfl) rfl) rfl<|LX.l (fun _ hJ => LO.ld O9 (.r rfl) (fun w hw => cells_part (off := 0) ((hl.at hx) w (hJ _ hw)) ⟨_, rfl⟩)) rfl<|LX.l (fun _ hJ => LO.fa (r := 5) F28_1 (.r rfl) rfl) rfl<|LX.l (fun _ hJ => LO.ld O24 (.r rfl) (fun _ hw => cells_at (hJ _ hw) 3 rfl ⟨_, rfl⟩)) rfl<|LX.m rfl rfl<|LX.l (fun _ hJ => LO.ixs S24 N74 hl.sm (.r rfl) (.r rfl) rfl (by omega)) rfl<|LX.l (fun _ hJ => LO.fa F74_1 (.r rfl) rfl) rfl<|LX.l (fun _ hJ => LO.ld O72 (.r rfl) (fun w hw => cells_part (off := 1) ((hl.at hx) w (hJ _ hw)) ⟨_, rfl⟩)) rfl<|LX.l (fun _ hJ => LO.bd (ps := [(_,_), (_,_)]) (vs := [(_,_), (_,_)]) (C := [_,_]) B100  ⟨(.r rfl), (.r rfl), trivial⟩ rfl ⟨_, [_], [_,_], rfl, rfl, rfl, rfl, ⟨_, [_], [_,_], rfl, rfl, rfl, rfl, rfl⟩⟩) rfl<|LX.s<|LX.s<|LX.l (fun _ hJ => LO.fa (r := 5) F42_1 (.r rfl) rfl) rfl<|LX.s<|LX.nil) (HX.s<|HX.s<|HX.s<|HX.s<|HX.s<|HX.s<|HX.s<|HX.s<|HX.s<|HX.s<|HX.s<|HX.s<|HX.s<|HX.s<|HX.s<|HX.h rfl<|HO.bs (ps := [(_,_)]) (vs := [(_,_)]) (Z := [_,_]) (C := [_,_]) S39 Z100 N100 ⟨(.r rfl), trivial⟩ rfl rfl rfl rfl ⟨_, [_,_], [_,_], rfl, rfl, rfl, rfl, rfl⟩ fun b9 => ⟨fun _ hw => hw.sel [1,2,3,4] rfl, HX.h rfl<|HO.appT (x) 2 0 (fun R => [_,_, R,_,_]) S39 S39 I100 (.r rfl) (.r rfl) rfl rfl rfl rfl rfl rfl rfl (fun _ => rfl) rfl (by omega) fun p16 c16 => ⟨fun _ hw => hw.sel [1,3,4] rfl, HX.s<|HX.h0<|HO.st 1 (vs := [_]) (C' := [_,_,_,_,_,_,_,_,_]) (L' := [_,_,_,_,_]) N39 rfl rfl rfl rfl rfl rfl rfl rfl<|⟨fun _ hw => hw.sel [3,4] rfl, HX.nil ?_⟩⟩⟩))
  refine VE.inN (VE.seqN<|VC.reg (VO.m rfl rfl<|VO.p rfl rfl (by omega) (by omega) rfl<|VO.a rfl rfl<|VO.nil<|VE.thenN fun a w ha hw => ⟨(i + 1, rgs ++ [x], p16, c16), ⟨by dsimp only; omega, by dsimp only; rw [hX, List.take_add_one, hx]; rfl⟩, (by dsimp only; omega), ha.sub (.c4 rfl rfl rfl rfl .nil), hw.sel [1,2,3,4] rfl⟩))
 ·
  refine VC.exit (VE.thenX (VE.thenX (VE.inX (VE.seqN<|VC.q (VO.l (LO.lda (vs := [_,_,_,_,_,_,_,_,_]) A42 (.r rfl) (cells_blk 0 rfl ⟨_, rfl⟩) rfl) rfl<|VO.h0<|HO.st 2 (vs := [_,_,_,_,_,_,_,_,_]) (C' := [_,_,_,_,_,_,_,_,_]) (L' := [_,_,_,_]) N42 rfl rfl rfl rfl rfl rfl rfl rfl<|VO.n<|VC.ret (VE.res (vs := [_]) rfl ⟨RV.agg (vs := [_,_,_,_,_,_,_,_,_]) A42 rfl (cells_blk 2 rfl ⟨_, rfl⟩) rfl, trivial⟩ (fun w hw => ?_)))))))
  have hx2 : rgs = l := by rw [hX, List.take_of_length_le (by omega)]
  rw [← hx2]
  exact ⟨(pg_, cg_), trivial, rfl, hw.sel [1] rfl⟩
theorem clouds_c (l : List CP) (p : Option Addr) (c : Nat) (w : World) (hf : l.length ≤ 100) (hl : CldU w p l) :
 Calls Tryz.prog 10 #[.slice p l.length c] w fun e w' => ∃ x : Option Addr × Nat, True ∧ e = .returned (.slice x.1 l.length x.2) ∧ St (bs w) [own 107 7 x.1 x.2 (l.map CP.cells)] w' := by
 refine enter (vs := [_]) (env := [(0,_)]) Tryz.func10 rfl rfl rfl rfl ?_
 refine VC.q (VO.a rfl rfl<|VO.n<|VC.q (VO.a rfl rfl<|VO.n<|VC.seq<|VC.q (VO.a rfl rfl<|VO.n<|VC.block<|VC.loopK (α := Nat × (List CP) × (Option Addr) × Nat) 0 (fun gx => [(3, .slice gx.2.2.1 gx.2.1.length gx.2.2.2), (4, .int .i64 (gx.1 : Nat))]) [(0,_)] (fun gx => [own 107 7 gx.2.2.1 gx.2.2.2 (gx.2.1.map CP.cells)]) (fun gx => gx.1 ≤ l.length ∧ gx.2.1 = l.take gx.1) (fun gx => l.length - gx.1) (0, [], none, 0) (by exact ⟨Nat.zero_le _, rfl⟩) (.cons rfl (.cons rfl (.cons rfl .nil))) (fun _ h => (h.ownNil 107 7)) ?_)))
 rintro ⟨i, xs, px_, cx_⟩ ⟨hi, hX⟩
 show VC _ _ _ _ _ ([(3, .slice px_ xs.length cx_), (4, .int .i64 (i : Nat))] ++ _) ([own 107 7 px_ cx_ (xs.map CP.cells)] ++ _) _ _
 dsimp only at hi hX
 have hxl : xs.length = i := by rw [hX]; simp; omega
 refine VC.seq<|VC.q (VO.m rfl rfl<|VO.m rfl rfl<|VO.l (LO.len S45 (.r rfl) rfl) rfl<|VO.t rfl rfl rfl<|VO.n<|VC.cond rfl (fun h9 => ?_) (fun h9 => ?_))
 ·
  obtain ⟨x, hx⟩ : ∃ x, l[i]? = some x := ⟨_, List.getElem?_eq_getElem (by omega)⟩
  refine VC.skip (VE.seqN<|VC.seq<|VC.block<|VC.q (VO.m rfl rfl<|VO.m rfl rfl<|VO.l (LO.ixs S45 N81 hl.sl (.r rfl) (.r rfl) rfl (by omega)) rfl<|VO.l (LO.lda (vs := [_,_,_,_,_,_,_]) A81 (.r rfl) (hl.at hx) rfl) rfl<|VO.h rfl<|HO.alloc (C := #[_,_,_,_,_,_,_]) Z81 rfl fun b2 => VO.h0<|HO.st 0 (vs := [_,_,_,_,_,_,_]) (C' := [_,_,_,_,_,_,_]) (L' := [_,_]) N81 rfl rfl rfl rfl rfl rfl rfl rfl<|VO.n<|VC.reg (VO.m rfl rfl<|VO.f (r := 0) F81_0 rfl rfl rfl<|VO.c 0 O72 rfl rfl ⟨_, rfl⟩ rfl<|VO.f (r := 1) F81_1 rfl rfl rfl<|VO.c 0 O72 rfl rfl ⟨_, rfl⟩ rfl<|VO.f (r := 2) F81_2 rfl rfl rfl<|VO.f (r := 2) F79_0 rfl rfl rfl<|VO.l (LO.lda (vs := [_,_]) A77 (.r rfl) (cells_blk 0 rfl ⟨_, rfl⟩) rfl) rfl<|VO.f (r := 2) F81_2 rfl rfl rfl<|VO.f (r := 4) F79_1 rfl rfl rfl<|VO.l (LO.lda (vs := [_,_]) A77 (.r rfl) (cells_blk 0 rfl ⟨_, rfl⟩) rfl) rfl<|VO.l (LO.bd (ps := [(_,_), (_,_)]) (vs := [(_,_), (_,_)]) (C := [_,_,_,_]) B105  ⟨(.r rfl), (.r rfl), trivial⟩ rfl ⟨_, [_,_], [_,_,_,_], rfl, rfl, rfl, rfl, ⟨_, [_,_], [_,_,_,_], rfl, rfl, rfl, rfl, rfl⟩⟩) rfl<|VO.f (r := 6) F81_3 rfl rfl rfl<|VO.c 0 O3 rfl rfl ⟨_, rfl⟩ rfl<|VO.l (LO.bd (ps := [(_,_), (_,_), (_,_), (_,_)]) (vs := [(_,_), (_,_), (_,_), (_,_)]) (C := [_,_,_,_,_,_,_]) B107  ⟨(.r rfl), (.r rfl), (.r rfl), (.r rfl), trivial⟩ rfl ⟨_, [_], [_,_,_,_,_,_,_], rfl, rfl, rfl, rfl, ⟨_, [_], [_,_,_,_,_,_,_], rfl, rfl, rfl, rfl, ⟨_, [_,_,_,_], [_,_,_,_,_,_,_], rfl, rfl, rfl, rfl, ⟨_, [_], [_,_,_,_,_,_,_], rfl, rfl, rfl, rfl, rfl⟩⟩⟩⟩) rfl<|VO.h rfl<|HO.bs (ps := [(_,_)]) (vs := [(_,_)]) (Z := [_,_,_,_,_,_,_]) (C := [_,_,_,_,_,_,_]) S52 Z107 N107 ⟨(.r rfl), trivial⟩ rfl rfl rfl rfl ⟨_, [_,_,_,_,_,_,_], [_,_,_,_,_,_,_], rfl, rfl, rfl, rfl, rfl⟩ fun b4 => VO.h rfl<|HO.appT (x) 2 0 (fun R => [_,_, R]) S52 S52 I107 (.r rfl) (.r rfl) rfl rfl rfl rfl rfl rfl rfl (fun _ => rfl) rfl (by omega) fun p16 c16 => VO.h rfl<|HO.lo (LO.as (.r rfl))<|VO.nil<|VE.inN (VE.seqN<|VC.reg (VO.m rfl rfl<|VO.p rfl rfl (by omega) (by omega) rfl<|VO.a rfl rfl<|VO.nil<|VE.thenN fun a w ha hw => ⟨(i + 1, xs ++ [x], p16, c16), ⟨by dsimp only; omega, by dsimp only; rw [hX, List.take_add_one, hx]; rfl⟩, (by dsimp only; omega), ha.sub (.cons rfl (.cons rfl (.cons rfl .nil))), hw.sel [2] rfl⟩)))))
 ·
  refine VC.exit (VE.thenX (VE.thenX (VE.inX (VE.seqN<|VC.q (VO.m rfl rfl<|VO.a rfl rfl<|VO.n<|VC.ret (VE.s rfl rfl (fun w hw => ?_)))))))
  have hx2 : xs = l := by rw [hX, List.take_of_length_le (by omega)]
  rw [← hx2]
  exact ⟨(px_, cx_), trivial, rfl, hw.sel [0] rfl⟩
theorem A120 : IsAgg Tryz.prog 120 5 := ⟨⟨_, Tryz.underlying120, rfl⟩, by kernel_rfl⟩
theorem S136 : IsSlice Tryz.prog 136 120 := Tryz.underlying136
theorem Z120 : ZeroOf Tryz.prog 120 (.agg #[.int .i64 0, .int .i64 0, .int .i64 0, .int .i64 0, .int .i64 0]) := by unfold ZeroOf; kernel_rfl
theorem N120 : (Tryz.prog.info? 120).map (·.size) = some 5 := by kernel_rfl
theorem I120 : EInfo Tryz.prog 120 5 40 (.agg #[.int .i64 0, .int .i64 0, .int .i64 0, .int .i64 0, .int .i64 0]) := ⟨by kernel_rfl, by kernel_rfl, by unfold ZeroOf; kernel_rfl, rfl, by decide⟩
theorem C89 : IsFn Tryz.prog 89 := ⟨_, Tryz.func89, by decide, rfl⟩
theorem C72 : IsFn Tryz.prog 72 := ⟨_, Tryz.func72, by decide, rfl⟩
theorem case_read {w : World} {o : OfM} (hh : Has w (offR o)) {c : CsM} (hc : c ∈ o.cs) : Cells w ⟨c.b, 0, none⟩ c.C := cells_inv ((St.inv hh 7 _ rfl).1 c.blk (List.mem_map_of_mem hc))
def kAt (ts : List Int) (T : Int) : Nat := ts.countP (fun t => decide (t < T)) + (if ts.contains T then 1 else 0)
def atLv (ts lv : List Int) (T : Int) : Int := if kAt ts T = 0 then 0 else lv.getD (kAt ts T - 1) 0
def atsL (o : OfM) (T : Int) : List Int := o.rc.map fun r => atLv o.ts r.lv T
theorem kAt_le {ts : List Int} {T : Int} : kAt ts T ≤ ts.length := by
  unfold kAt
  have h := List.countP_le_length (p := fun t => decide (t < T)) (l := ts)
  split
  · rename_i q
    have : ts.countP (fun t => decide (t < T)) < ts.length := by
      rcases Nat.lt_or_ge (ts.countP (fun t => decide (t < T))) ts.length with q2 | q2
      · exact q2
      · have := List.countP_eq_length.1 (Nat.le_antisymm h q2) T (by simpa using q)
        simp at this
    omega
  · omega
theorem BinarySearch_c (l : List Int) (p : Option Addr) (c : Nat) (T : Int) (w : World) (hn : l.length < 1000000000000) (hl : Ints w p l) (hs : l.Pairwise (· ≤ ·)) :
    Calls Tryz.prog 89 #[.slice p l.length c, .int .i64 T] w fun e w' => e = .returned (.tuple #[.int .i64 (l.countP (fun t => decide (t < T)) : Nat), .bool (l.contains T)]) ∧ St (bs w) [] w' := by
  cases hq : l with
  | nil => exact (Tryz.slices_BinarySearch_int_empty p c T w).mono fun e w' h => ⟨h.1, St.of_eq h.2⟩
  | cons a l' =>
    rw [← hq]
    have h0 := Go.SL.Rows.some (n := l.length) hl (by simp)
    have hp := h0 (by rw [hq]; simp)
    rw [hp]
    refine (Tryz.slices_BinarySearch_int (pb p) (po p) l.length c l T w (Nat.le_refl _) (by omega) (fun j hj => ?_) (by rw [List.take_length]; exact hs)).mono fun e w' h => ?_
    · have h1 := hl.cells j [.int .i64 (l.getD j 0)] (by rw [List.getElem?_map, getD_some (d := (0 : Int)) hj]; rfl) 0 _ rfl
      have e : (⟨pb p, po p + j * 1, none⟩ : Addr).add 0 = ⟨pb p, po p + j, none⟩ := by simp [Addr.add]
      rw [e] at h1
      exact h1
    · rw [List.take_length] at h
      obtain ⟨h1, q, h2⟩ := h
      exact ⟨h1, (St.refl w).same (by rw [h2]; rfl) (by rw [h2]; rfl) (by rw [h2]; rfl) (by rw [h2]; rfl)⟩
theorem Cases_c (o : OfM) (w : World) (hn : o.rc.length < 1000000) (hp : 0 < o.rc.length) (hcs : o.cs.length < 1000000000) (hh : Has w (offR o)) :
 Calls Tryz.prog 46 #[ptrN o.b] w fun e w' => ∃ x : Option Addr × Nat, True ∧ e = .returned (.slice x.1 o.cs.length x.2) ∧ St (bs w) [own 120 5 x.1 x.2 (o.cs.map CsM.C)] w' := by
 have hrr : RO 1 csP w o.pk o.cs := RO.of_own hh 6 rfl
 refine enter (vs := [_]) (env := [(0,_)]) Tryz.func46 rfl rfl rfl rfl ?_
 refine VC.q (VO.a rfl rfl<|VO.n<|VC.seq<|VC.q (VO.m rfl rfl<|VO.l (LO.call (xs := [_]) (vs := [_]) C30 ⟨(.r rfl), trivial⟩ (fun w hw => nothing_c o w (by omega) (off_cells (hh.keep hw)))) rfl<|VO.n<|VC.cond rfl (fun h7 => ?_) (fun h7 => ?_)))
 · (exfalso; omega)
 ·
  refine VC.skip (VE.seqN<|VC.q (VO.a rfl rfl<|VO.n<|VC.seq<|VC.q (VO.m rfl rfl<|VO.l (LO.nc (.r rfl)) rfl<|VO.f (r := 11) F92_3 rfl rfl rfl<|VO.l (LO.ld O89 (.r rfl) (cells_keep (sub_cells (off := 11) (off_cells hh) ⟨_, rfl⟩))) rfl<|VO.l (LO.len S89 (.r rfl) rfl) rfl<|VO.m rfl rfl<|VO.n<|VC.block<|VC.loopK (α := Nat × (List CsM) × (Option Addr) × Nat) 0 (fun gx => [(3, .slice gx.2.2.1 gx.2.1.length gx.2.2.2), (13, .int .i64 (gx.1 : Nat))]) [(11,_), (12,_)] (fun gx => [own 120 5 gx.2.2.1 gx.2.2.2 (gx.2.1.map CsM.C)]) (fun gx => gx.1 ≤ o.cs.length ∧ gx.2.1 = o.cs.take gx.1) (fun gx => o.cs.length - gx.1) (0, [], none, 0) (by exact ⟨Nat.zero_le _, rfl⟩) (.c4 rfl rfl rfl rfl .nil) (fun _ h => (h.ownNil 120 5)) ?_)))
  rintro ⟨j, xs, px_, cx_⟩ ⟨hj, hX⟩
  show VC _ _ _ _ _ ([(3, .slice px_ xs.length cx_), (13, .int .i64 (j : Nat))] ++ _) ([own 120 5 px_ cx_ (xs.map CsM.C)] ++ _) _ _
  dsimp only at hj hX
  have hxl : xs.length = j := by rw [hX]; simp; omega
  refine VC.q (VO.t rfl rfl rfl<|VO.n<|VC.seq<|VC.cond rfl (fun h14 => ?_) (fun h14 => ?_))
  ·
   obtain ⟨c, hr⟩ : ∃ c, o.cs[j]? = some c := ⟨_, List.getElem?_eq_getElem (by omega)⟩
   have hrm : c ∈ o.cs := List.mem_of_getElem? hr
   refine VC.skip (VE.seqN<|VC.seq<|VC.block<|VC.q (VO.l (LO.ixs S89 N96 hrr.sm (.r rfl) (.r rfl) rfl (by omega)) rfl<|VO.l (LO.ld O96 (.r rfl) (fun w hw => cells_part (off := 0) ((fun w2 hw2 => (hrr.keep w2 hw2).cells _ _ (by rw [List.getElem?_map, hr]; rfl)) w hw) ⟨_, rfl⟩)) rfl<|VO.a rfl rfl<|VO.n<|VC.reg (VO.m rfl rfl<|VO.m rfl rfl<|VO.l (LO.nc (.r rfl)) rfl<|VO.l (LO.lda (vs := [_,_,_,_,_]) A120 (.r rfl) (fun w2 hw2 => case_read (hh.keep hw2) hrm) rfl) rfl<|VO.h rfl<|HO.bs (ps := [(_,_)]) (vs := [(_,_)]) (Z := [_,_,_,_,_]) (C := [_,_,_,_,_]) S136 Z120 N120 ⟨(.r rfl), trivial⟩ rfl rfl rfl rfl ⟨_, [_,_,_,_,_], [_,_,_,_,_], rfl, rfl, rfl, rfl, rfl⟩ fun b2 => VO.h rfl<|HO.appT (c) 1 0 (fun R => [_, R]) S136 S136 I120 (.r rfl) (.r rfl) rfl rfl rfl rfl rfl rfl rfl (fun _ => rfl) rfl (by omega) fun p5 c5 => VO.h rfl<|HO.lo (LO.as (.r rfl))<|VO.nil<|VE.inN (VE.seqN<|VC.reg (VO.p rfl rfl (by omega) (by omega) rfl<|VO.m rfl rfl<|VO.nil<|VE.thenN fun a w ha hw => ⟨(j + 1, xs ++ [c], p5, c5), ⟨by dsimp only; omega, by dsimp only; rw [List.take_add_one, hr, hX]; rfl⟩, (by dsimp only; omega), ha.sub (.c4 rfl rfl rfl rfl .nil), hw.sel [1] rfl⟩)))))
  ·
   refine VC.exit (VE.thenX (VE.thenX (VE.inX (VE.seqN<|VC.q (VO.m rfl rfl<|VO.a rfl rfl<|VO.n<|VC.ret (VE.s rfl rfl (fun w hw => ?_)))))))
   have hx2 : xs = o.cs := by rw [hX, List.take_of_length_le (by omega)]
   rw [← hx2]
   exact ⟨(px_, cx_), trivial, rfl, hw.sel [0] rfl⟩
theorem at_o (o : OfM) (r : RcM) (T : Int) (w : World) (hr : r ∈ o.rc) (hlv : r.lv.length = o.ts.length) (hn : o.ts.length < 1000000) (hs : o.ts.Pairwise (· ≤ ·)) (hh : Has w (offR o)) :
 Calls Tryz.prog 72 #[ptrN o.b, ptrN r.b, .int .i64 T] w fun e w' => e = .returned (.int .i64 (atLv o.ts r.lv T)) ∧ St (bs w) [] w' := by
 have hrv := (rec_read hh hr).2.2
 have hk := kAt_le (ts := o.ts) (T := T)
 unfold kAt at hk
 refine enter (vs := [_,_,_]) (env := [(0,_), (1,_), (2,_)]) Tryz.func72 rfl rfl rfl rfl ?_
 refine VC.q (VO.a rfl rfl<|VO.n<|VC.q (VO.m rfl rfl<|VO.l (LO.nc (.r rfl)) rfl<|VO.f (r := 10) F92_2 rfl rfl rfl<|VO.l (LO.ld O72 (.r rfl) (cells_keep (sub_cells (off := 10) (off_cells hh) ⟨_, rfl⟩))) rfl<|VO.m rfl rfl<|VO.l (LO.call (xs := [_,_]) (vs := [_,_]) C89 ⟨(.r rfl), (.r rfl), trivial⟩ (fun w hw => BinarySearch_c o.ts o.pt o.ct T w (by omega) (RO.of_own (hh.keep hw) 5 rfl) hs)) rfl<|VO.m rfl rfl<|VO.l (LO.ex (.r rfl) rfl) rfl<|VO.l (LO.ex (.r rfl) rfl) rfl<|VO.a rfl rfl<|VO.a rfl rfl<|VO.n<|VC.seq<|VC.q (VO.m rfl rfl<|VO.n<|VC.cond rfl (fun h18 => ?_) (fun h18 => ?_))))
 ·
  have hkA : (kAt o.ts T : Int) = (o.ts.countP (fun t => decide (t < T)) : Nat) + 1 := by unfold kAt; rw [if_pos h18]; rfl
  refine VC.reg (VO.m rfl rfl<|VO.p rfl rfl (by omega) (by omega) rfl<|VO.a rfl rfl<|VO.n<|VC.seq<|VC.q (VO.m rfl rfl<|VO.l (LO.eq (.r rfl) (.r rfl)) rfl<|VO.n<|VC.cond rfl (fun h22 => ?_) (fun h22 => ?_)))
  ·
   refine VC.q (VO.a rfl rfl<|VO.n<|VC.ret (VE.thenR (VE.s rfl rfl (fun w hw => ?_))))
   refine ⟨?_, hw.nil⟩
   simp only [resV]
   congr 2
   unfold atLv
   first | rw [if_pos (by omega)] | rw [if_neg (by omega)]
  ·
   have hk2 := kAt_le (ts := o.ts) (T := T)
   refine VC.skip (VE.seqN<|VC.q (VO.m rfl rfl<|VO.l (LO.nc (.r rfl)) rfl<|VO.f (r := 4) F98_3 rfl rfl rfl<|VO.l (LO.ld O72 (.r rfl) (cells_keep (sub_cells (off := 4) (rec_read hh hr).1 ⟨_, rfl⟩))) rfl<|VO.m rfl rfl<|VO.l (LO.sub (.r rfl) (.r rfl) (wi (by omega) (by omega))) rfl<|VO.l (LO.ixs S72 N3 hrv.sm (.r rfl) (.r rfl) (by omega) (by omega)) rfl<|VO.l (LO.ld O3 (.r rfl) (fun w hw => cells_part (off := 0) ((hrv.at 0 (j := (kAt o.ts T - 1)) (by omega)) w hw) ⟨_, rfl⟩)) rfl<|VO.a rfl rfl<|VO.n<|VC.ret (VE.s rfl rfl (fun w hw => ?_))))
   refine ⟨?_, hw.nil⟩
   simp only [resV]
   congr 2
   unfold atLv
   first | rw [if_pos (by omega)] | rw [if_neg (by omega)]
 ·
  have hkA : (kAt o.ts T : Int) = (o.ts.countP (fun t => decide (t < T)) : Nat) := by unfold kAt; rw [if_neg h18]; rfl
  refine VC.skip (VE.seqN<|VC.seq<|VC.q (VO.m rfl rfl<|VO.l (LO.eq (.r rfl) (.r rfl)) rfl<|VO.n<|VC.cond rfl (fun h22 => ?_) (fun h22 => ?_)))
  ·
   refine VC.q (VO.a rfl rfl<|VO.n<|VC.ret (VE.thenR (VE.s rfl rfl (fun w hw => ?_))))
   refine ⟨?_, hw.nil⟩
   simp only [resV]
   congr 2
   unfold atLv
   first | rw [if_pos (by omega)] | rw [if_neg (by omega)]
  ·
   have hk2 := kAt_le (ts := o.ts) (T := T)
   refine VC.skip (VE.seqN<|VC.q (VO.m rfl rfl<|VO.l (LO.nc (.r rfl)) rfl<|VO.f (r := 4) F98_3 rfl rfl rfl<|VO.l (LO.ld O72 (.r rfl) (cells_keep (sub_cells (off := 4) (rec_read hh hr).1 ⟨_, rfl⟩))) rfl<|VO.m rfl rfl<|VO.l (LO.sub (.r rfl) (.r rfl) (wi (by omega) (by omega))) rfl<|VO.l (LO.ixs S72 N3 hrv.sm (.r rfl) (.r rfl) (by omega) (by omega)) rfl<|VO.l (LO.ld O3 (.r rfl) (fun w hw => cells_part (off := 0) ((hrv.at 0 (j := (kAt o.ts T - 1)) (by omega)) w hw) ⟨_, rfl⟩)) rfl<|VO.a rfl rfl<|VO.n<|VC.ret (VE.s rfl rfl (fun w hw => ?_))))
   refine ⟨?_, hw.nil⟩
   simp only [resV]
   congr 2
   unfold atLv
   first | rw [if_pos (by omega)] | rw [if_neg (by omega)]
theorem At_o (o : OfM) (T : Int) (w : World) (hn : o.rc.length < 1000000) (hp : 0 < o.rc.length) (hlv : ∀ r, r ∈ o.rc → r.lv.length = o.ts.length) (ht : o.ts.length < 1000000) (hs : o.ts.Pairwise (· ≤ ·)) (hT1 : 0 ≤ T) (hT2 : T ≤ 4294967296) (hh : Has w (offR o)) :
 Calls Tryz.prog 51 #[ptrN o.b, .int .i64 T] w fun e w' => ∃ x : Option Addr × Nat, True ∧ e = .returned (.tuple #[.slice x.1 (atsL o T).length x.2, .int .i64 0]) ∧ St (bs w) [own 3 1 x.1 x.2 ((atsL o T).map iC)] w' := by
 have hrr : RO 1 rcP w o.pc o.rc := RO.of_own hh 3 rfl
 refine enter (vs := [_,_]) (env := [(0,_), (1,_)]) Tryz.func51 rfl rfl rfl rfl ?_
 refine VC.q (VO.a rfl rfl<|VO.a rfl rfl<|VO.n<|VC.seq<|VC.block<|VC.q (VO.m rfl rfl<|VO.l (LO.call (xs := [_]) (vs := [_]) C30 ⟨(.r rfl), trivial⟩ (fun w hw => nothing_c o w (by omega) (off_cells (hh.keep hw)))) rfl<|VO.a rfl rfl<|VO.n<|VC.cond rfl (fun h9 => ?_) (fun h9 => ?_)))
 · (exfalso; omega)
 ·
  refine VC.q (VO.m rfl rfl<|VO.l (LO.call (xs := [_,_,_]) (vs := [_,_,_]) C31 ⟨(.r rfl), (.r rfl), (.r rfl), trivial⟩ (fun w _ => iwithin_c _ _ _ w)) rfl<|VO.l (LO.not (.r rfl)) rfl<|VO.a rfl rfl<|VO.n<|VC.cond rfl (fun h12 => ?_) (fun h12 => ?_))
  · (exfalso; omega)
  ·
   refine VC.skip (VE.inN (VE.seqN<|VC.q (VO.a rfl rfl<|VO.n<|VC.seq<|VC.q (VO.m rfl rfl<|VO.l (LO.nc (.r rfl)) rfl<|VO.f (r := 9) F92_1 rfl rfl rfl<|VO.l (LO.ld O88 (.r rfl) (cells_keep (sub_cells (off := 9) (off_cells hh) ⟨_, rfl⟩))) rfl<|VO.l (LO.len S88 (.r rfl) rfl) rfl<|VO.m rfl rfl<|VO.n<|VC.block<|VC.loopK (α := Nat × (List Int) × (Option Addr) × Nat) 0 (fun gx => [(6, .slice gx.2.2.1 gx.2.1.length gx.2.2.2), (21, .int .i64 (gx.1 : Nat))]) [(0,_), (1,_), (19,_), (20,_)] (fun gx => [own 3 1 gx.2.2.1 gx.2.2.2 (gx.2.1.map iC)]) (fun gx => gx.1 ≤ o.rc.length ∧ gx.2.1 = (atsL o T).take gx.1) (fun gx => o.rc.length - gx.1) (0, [], none, 0) (by exact ⟨Nat.zero_le _, rfl⟩) (.c4 rfl rfl rfl rfl (.cons rfl (.cons rfl .nil))) (fun _ h => (h.ownNil 3 1)) ?_))))
   rintro ⟨j, xs, px_, cx_⟩ ⟨hj, hX⟩
   show VC _ _ _ _ _ ([(6, .slice px_ xs.length cx_), (21, .int .i64 (j : Nat))] ++ _) ([own 3 1 px_ cx_ (xs.map iC)] ++ _) _ _
   dsimp only at hj hX
   have hxl : xs.length = j := by rw [hX]; simp [atsL]; omega
   refine VC.q (VO.t rfl rfl rfl<|VO.n<|VC.seq<|VC.cond rfl (fun h22 => ?_) (fun h22 => ?_))
   ·
    obtain ⟨r, hr⟩ : ∃ r, o.rc[j]? = some r := ⟨_, List.getElem?_eq_getElem (by omega)⟩
    have hrm : r ∈ o.rc := List.mem_of_getElem? hr
    refine VC.skip (VE.seqN<|VC.seq<|VC.block<|VC.q (VO.l (LO.ixs S88 N94 hrr.sm (.r rfl) (.r rfl) rfl (by omega)) rfl<|VO.l (LO.ld O94 (.r rfl) (fun w hw => cells_part (off := 0) ((fun w2 hw2 => (hrr.keep w2 hw2).cells _ _ (by rw [List.getElem?_map, hr]; rfl)) w hw) ⟨_, rfl⟩)) rfl<|VO.a rfl rfl<|VO.n<|VC.reg (VO.m rfl rfl<|VO.m rfl rfl<|VO.m rfl rfl<|VO.m rfl rfl<|VO.l (LO.call (xs := [_,_,_]) (vs := [_,_,_]) C72 ⟨(.r rfl), (.r rfl), (.r rfl), trivial⟩ (fun w hw => at_o o r T w hrm (hlv r hrm) ht hs (hh.keep hw))) rfl<|VO.h rfl<|HO.bs (ps := [(_,_)]) (vs := [(_,_)]) (Z := [_]) (C := [_]) S72 Z3 N3 ⟨(.r rfl), trivial⟩ rfl rfl rfl rfl ⟨_, [_], [_], rfl, rfl, rfl, rfl, rfl⟩ fun b2 => VO.h rfl<|HO.appT ((atLv o.ts r.lv T)) 1 0 (fun R => [_, R]) S72 S72 I3 (.r rfl) (.r rfl) rfl rfl rfl rfl rfl rfl rfl (fun _ => rfl) rfl (by omega) fun p6 c6 => VO.h rfl<|HO.lo (LO.as (.r rfl))<|VO.nil<|VE.inN (VE.seqN<|VC.reg (VO.p rfl rfl (by omega) (by omega) rfl<|VO.m rfl rfl<|VO.nil<|VE.thenN fun a w ha hw => ⟨(j + 1, xs ++ [atLv o.ts r.lv T], p6, c6), ⟨by dsimp only; omega, by dsimp only; unfold atsL; rw [List.take_add_one, List.getElem?_map, hr, hX]; rfl⟩, (by dsimp only; omega), ha.sub (.c4 rfl rfl rfl rfl (.cons rfl (.cons rfl .nil))), hw.sel [1] rfl⟩)))))
   ·
    refine VC.exit (VE.thenX (VE.thenX (VE.inX (VE.seqN<|VC.q (VO.m rfl rfl<|VO.a rfl rfl<|VO.a rfl rfl<|VO.n<|VC.ret (VE.res (vs := [_,_]) rfl ⟨rfl, rfl, trivial⟩ (fun w hw => ?_)))))))
    have hx2 : xs = atsL o T := by rw [hX, List.take_of_length_le (by simp [atsL]; omega)]
    rw [← hx2]
    exact ⟨(px_, cx_), trivial, rfl, hw.sel [0] rfl⟩
structure Stp where
  t : Int
  th : List Thr
def zS : Stp := ⟨0, []⟩
def lastT (st : List Stp) : Int := (st.getD (st.length - 1) zS).t
def histR (k : Nat) (st : List Stp) : List Rch := st.map fun s => ⟨s.t, (s.th.getD k zT).lv⟩
def lvS (H : Int) (k : Nat) (st : List Stp) : Int := maxLv (keepR (lastT st) H (histR k st))
def lvL (H : Int) (k : Nat) (st : List Stp) : List Int := (List.range st.length).map fun i => lvS H k (st.take (i + 1))
structure Cs where
  nm : Int
  rg : Int
  bg : Int
  en : Int
  pk : Int
def zC : Cs := ⟨0,0,0,0,0⟩
def never : Int := 1099511627776
def opn (k : Nat) (c : Cs) : Bool := decide (c.rg = (k : Int)) && decide (c.en = never)
def stepC (k : Nat) (b n T : Int) (cs : List Cs) : List Cs :=
  if b = n then cs else if b = 0 then cs ++ [⟨cs.length + 1, k, T, never, n⟩] else cs.map fun c => if opn k c = true then { c with en := if n = 0 then T else c.en, pk := max c.pk n } else c
def openNm (k : Nat) (cs : List Cs) : Int := (cs.getD (cs.findIdx (opn k)) zC).nm
def evS (k : Nat) (b n T : Int) (t : Thr) (cs : List Cs) : Ev := { meetEv k T b n t with nm := if b = 0 then cs.length + 1 else openNm k cs }
def stepE (k : Nat) (b n T : Int) (t : Thr) (cs : List Cs) (es : List Ev) : List Ev := if b = n then es else es ++ [evS k b n T t cs]
def runC (H : Int) (st : List Stp) (s : Stp) (cs : List Cs) : Nat → List Cs
  | 0 => cs
  | k + 1 => stepC k (lvS H k st) (lvS H k (st ++ [s])) s.t (runC H st s cs k)
def runE (H : Int) (st : List Stp) (s : Stp) (cs : List Cs) : Nat → List Ev
  | 0 => []
  | k + 1 => stepE k (lvS H k st) (lvS H k (st ++ [s])) s.t (s.th.getD k zT) (runC H st s cs k) (runE H st s cs k)
def csA (H : Int) (n : Nat) (st : List Stp) : Nat → List Cs
  | 0 => []
  | m + 1 => runC H (st.take m) (st.getD m zS) (csA H n st m) n
def csF (H : Int) (n : Nat) (st : List Stp) : List Cs := csA H n st st.length
def evF (H : Int) (n : Nat) (st : List Stp) (s : Stp) : List Ev := runE H st s (csF H n st) n
theorem getD_app_l {α : Type} {l m : List α} {d : α} {j : Nat} (h : j < l.length) : (l ++ m).getD j d = l.getD j d := by
  rw [List.getD_eq_getElem?_getD, List.getD_eq_getElem?_getD, List.getElem?_append_left h]
theorem getD_snoc {α : Type} {l : List α} {a d : α} : (l ++ [a]).getD l.length d = a := by
  rw [List.getD_eq_getElem?_getD, List.getElem?_append_right (Nat.le_refl _)]; simp
theorem csA_snoc {H : Int} {n : Nat} {st : List Stp} {s : Stp} : ∀ m, m ≤ st.length → csA H n (st ++ [s]) m = csA H n st m
  | 0,_ => rfl
  | m + 1, h => by
    unfold csA
    rw [csA_snoc m (by omega), List.take_append_of_le_length (by omega), getD_app_l (by omega)]
theorem csF_snoc {H : Int} {n : Nat} {st : List Stp} {s : Stp} : csF H n (st ++ [s]) = runC H st s (csF H n st) n := by
  unfold csF
  rw [List.length_append, List.length_singleton]
  conv => lhs; unfold csA
  rw [csA_snoc _ (Nat.le_refl _), List.take_left, getD_snoc]
theorem lastT_snoc {st : List Stp} {s : Stp} : lastT (st ++ [s]) = s.t := by
  unfold lastT
  rw [List.length_append, List.length_singleton, Nat.add_sub_cancel, getD_snoc]
theorem histR_snoc {k : Nat} {st : List Stp} {s : Stp} : histR k (st ++ [s]) = histR k st ++ [⟨s.t, (s.th.getD k zT).lv⟩] := by unfold histR; rw [List.map_append]; rfl
theorem keep_keep {T T' H : Int} {l : List Rch} (h : T' ≤ T) : keepR T H (keepR T' H l) = keepR T H l := by
  unfold keepR
  rw [List.filter_filter]
  refine List.filter_congr fun x _ => ?_
  unfold oldR
  by_cases q : x.t < T - H
  · simp [q]
  · simp [q]; omega
theorem keep_now {T H : Int} {l : List Rch} {lv : Int} (hH : 0 ≤ H) : nowRc T H l lv = keepR T H (l ++ [⟨T, lv⟩]) := by
  unfold nowRc keepR
  rw [List.filter_append]
  congr 1
  have : oldR T H ⟨T, lv⟩ = false := by unfold oldR; simp; omega
  simp [this]
theorem rc_snoc {H : Int} {k : Nat} {st : List Stp} {s : Stp} (hH : 0 ≤ H) (hT : lastT st ≤ s.t ∨ st = []) : nowRc s.t H (keepR (lastT st) H (histR k st)) (s.th.getD k zT).lv = keepR (lastT (st ++ [s])) H (histR k (st ++ [s])) := by
  have e : nowRc s.t H (keepR (lastT st) H (histR k st)) (s.th.getD k zT).lv = nowRc s.t H (histR k st) (s.th.getD k zT).lv := by
    show keepR s.t H (keepR (lastT st) H (histR k st)) ++ _ = keepR s.t H (histR k st) ++ _
    rcases hT with h | h
    · rw [keep_keep h]
    · subst h; rfl
  rw [e, keep_now hH, lastT_snoc, histR_snoc]
theorem lvL_snoc {H : Int} {k : Nat} {st : List Stp} {s : Stp} : lvL H k (st ++ [s]) = lvL H k st ++ [lvS H k (st ++ [s])] := by
  unfold lvL
  rw [List.length_append, List.length_singleton, List.range_succ, List.map_append]
  congr 1
  · refine List.map_congr_left fun i hi => ?_
    rw [List.mem_range] at hi
    rw [List.take_append_of_le_length (by omega)]
  · simp only [List.map_cons, List.map_nil]
    rw [← List.length_singleton (a := s), ← List.length_append, List.take_length]
theorem lvL_len {H : Int} {k : Nat} {st : List Stp} : (lvL H k st).length = st.length := by simp [lvL]
theorem lvS_nn {H : Int} {k : Nat} {st : List Stp} : 0 ≤ lvS H k st := maxLv_nn _
theorem lvL_last {H : Int} {k : Nat} {st : List Stp} : lastI (lvL H k st) = lvS H k st := by
  rcases List.eq_nil_or_concat st with h | ⟨l, s, h⟩
  · subst h; rfl
  · rw [h, List.concat_eq_append, lvL_snoc, lastI_snoc]
structure CsOk (n : Nat) (lv : Nat → Int) (cs : List Cs) : Prop where
  nm : ∀ (j : Nat) (c : Cs), cs[j]? = some c → c.nm = j + 1
  rg : ∀ (j : Nat) (c : Cs), cs[j]? = some c → 0 ≤ c.rg ∧ c.rg < n
  op : ∀ (j : Nat) (c : Cs), cs[j]? = some c → c.en = never → lv c.rg.toNat ≠ 0
  one : ∀ (i j : Nat) (c d : Cs), cs[i]? = some c → cs[j]? = some d → c.rg = d.rg → c.en = never → d.en = never → i = j
  has : ∀ k, k < n → lv k ≠ 0 → ∃ (j : Nat) (c : Cs), cs[j]? = some c ∧ c.rg = (k : Int) ∧ c.en = never
  pk : ∀ (j : Nat) (c : Cs), cs[j]? = some c → c.en = never → lv c.rg.toNat ≤ c.pk
def setL (lv : Nat → Int) (k : Nat) (n : Int) : Nat → Int := fun i => if i = k then n else lv i
theorem csOk_nil {n : Nat} {lv : Nat → Int} (h : ∀ k, k < n → lv k = 0) : CsOk n lv [] := by
  refine ⟨?_, ?_, ?_, ?_, fun k hk hl => absurd (h k hk) hl, ?_⟩ <;> intros <;> simp_all
theorem opn_iff {k : Nat} {c : Cs} : opn k c = true ↔ c.rg = (k : Int) ∧ c.en = never := by unfold opn; simp
theorem csOk_step {n k : Nat} {lv : Nat → Int} {cs : List Cs} {b m T : Int} (h : CsOk n lv cs) (hk : k < n) (hb : lv k = b) (hb0 : 0 ≤ b) (hm0 : 0 ≤ m) (hT : T ≠ never) : CsOk n (setL lv k m) (stepC k b m T cs) := by
  have eqk : ∀ c : Cs, c.rg = (k : Int) → setL lv k m c.rg.toNat = m := fun c hc => by unfold setL; rw [hc]; simp
  have nek : ∀ c : Cs, 0 ≤ c.rg → c.rg ≠ (k : Int) → setL lv k m c.rg.toNat = lv c.rg.toNat := fun c hc hc2 => by unfold setL; rw [if_neg (by omega)]
  unfold stepC
  by_cases e1 : b = m
  · rw [if_pos e1]
    have : setL lv k m = lv := by funext i; unfold setL; split <;> simp_all
    rw [this]; exact h
  · rw [if_neg e1]
    by_cases e2 : b = 0
    · rw [if_pos e2]
      have noop : ∀ (j : Nat) (c : Cs), cs[j]? = some c → c.rg = (k : Int) → c.en ≠ never := fun j c hj hr he => by
        have := h.op j c hj he; rw [hr] at this; simp [hb, e2] at this
      have get : ∀ (j : Nat) (c : Cs), (cs ++ [(⟨cs.length + 1, k, T, never, m⟩ : Cs)])[j]? = some c → (j < cs.length ∧ cs[j]? = some c) ∨ (j = cs.length ∧ c = ⟨cs.length + 1, k, T, never, m⟩) := fun j c hj => by
        rcases Nat.lt_or_ge j cs.length with q | q
        · rw [List.getElem?_append_left q] at hj; exact .inl ⟨q, hj⟩
        · rw [List.getElem?_append_right q] at hj
          have : j - cs.length = 0 := by
            rcases Nat.lt_or_ge (j - cs.length) 1 with z | z
            · omega
            · rw [List.getElem?_eq_none (by simpa using z)] at hj; cases hj
          rw [this] at hj; simp at hj
          exact .inr ⟨by omega, hj.symm⟩
      refine ⟨?_, ?_, ?_, ?_, ?_, ?_⟩
      · intro j c hj
        rcases get j c hj with ⟨_, q⟩ | ⟨q, rfl⟩
        · exact h.nm j c q
        · simp [q]
      · intro j c hj
        rcases get j c hj with ⟨_, q⟩ | ⟨q, rfl⟩
        · exact h.rg j c q
        · simp only; omega
      · intro j c hj he
        rcases get j c hj with ⟨_, q⟩ | ⟨q, rfl⟩
        · have hne : c.rg ≠ (k : Int) := fun e => noop j c q e he
          rw [nek c (h.rg j c q).1 hne]; exact h.op j c q he
        · rw [eqk _ rfl]; omega
      · intro i j c d hi hj hr hc hd
        rcases get i c hi with ⟨_, q⟩ | ⟨q, rfl⟩ <;> rcases get j d hj with ⟨_, q2⟩ | ⟨q2, rfl⟩
        · exact h.one i j c d q q2 hr hc hd
        · exact absurd hc (noop i c q hr)
        · exact absurd hd (noop j d q2 hr.symm)
        · omega
      · intro i hi hl
        by_cases e : i = k
        · exact ⟨cs.length, ⟨cs.length + 1, k, T, never, m⟩, by rw [List.getElem?_append_right (Nat.le_refl _)]; simp, by rw [e], rfl⟩
        · unfold setL at hl; rw [if_neg e] at hl
          obtain ⟨j, c, h1, h2, h3⟩ := h.has i hi hl
          exact ⟨j, c, by rw [List.getElem?_append_left (List.getElem?_eq_some_iff.1 h1).1]; exact h1, h2, h3⟩
      · intro j c hj he
        rcases get j c hj with ⟨_, q⟩ | ⟨q, rfl⟩
        · have hne : c.rg ≠ (k : Int) := fun e => noop j c q e he
          rw [nek c (h.rg j c q).1 hne]; exact h.pk j c q he
        · rw [eqk _ rfl]; exact Int.le_refl _
    · rw [if_neg e2]
      have get : ∀ (j : Nat) (c : Cs), (cs.map fun c => if opn k c = true then { c with en := if m = 0 then T else c.en, pk := max c.pk m } else c)[j]? = some c → ∃ d, cs[j]? = some d ∧ c.nm = d.nm ∧ c.rg = d.rg ∧ ((opn k d = true ∧ c.en = (if m = 0 then T else d.en) ∧ c.pk = max d.pk m) ∨ (opn k d = false ∧ c = d)) := fun j c hj => by
        rw [List.getElem?_map] at hj
        cases q : cs[j]? with
        | none => rw [q] at hj; cases hj
        | some d =>
          rw [q] at hj
          simp only [Option.map_some, Option.some.injEq] at hj
          by_cases q2 : opn k d = true
          · rw [if_pos q2] at hj; subst hj; exact ⟨d, rfl, rfl, rfl, .inl ⟨q2, rfl, rfl⟩⟩
          · rw [if_neg q2] at hj; subst hj; exact ⟨d, rfl, rfl, rfl, .inr ⟨by simpa using q2, rfl⟩⟩
      refine ⟨?_, ?_, ?_, ?_, ?_, ?_⟩
      · intro j c hj
        obtain ⟨d, h1, h2,_⟩ := get j c hj
        rw [h2]; exact h.nm j d h1
      · intro j c hj
        obtain ⟨d, h1,_, h2,_⟩ := get j c hj
        rw [h2]; exact h.rg j d h1
      · intro j c hj he
        obtain ⟨d, h1,_, h2, ⟨h3, h4,_⟩ | ⟨h3, rfl⟩⟩ := get j c hj
        · have hd := opn_iff.1 h3
          rw [eqk c (by rw [h2]; exact hd.1)]
          intro e
          rw [if_pos e] at h4
          exact hT (h4.symm.trans he)
        · have hne : c.rg ≠ (k : Int) := fun e => by rw [opn_iff.2 ⟨e, he⟩] at h3; cases h3
          rw [nek c (h.rg j c h1).1 hne]; exact h.op j c h1 he
      · intro i j c d hi hj hr hc hd
        obtain ⟨c', h1,_, h2, h3⟩ := get i c hi
        obtain ⟨d', k1,_, k2, k3⟩ := get j d hj
        have en : ∀ {x y : Cs}, x.en = never → ((opn k y = true ∧ x.en = (if m = 0 then T else y.en) ∧ x.pk = max y.pk m) ∨ (opn k y = false ∧ x = y)) → y.en = never := fun {x y} hx q => by
          rcases q with ⟨q1,_,_⟩ | ⟨_, rfl⟩
          · exact (opn_iff.1 q1).2
          · exact hx
        exact h.one i j c' d' h1 k1 (by rw [← h2, ← k2]; exact hr) (en hc h3) (en hd k3)
      · intro i hi hl
        by_cases e : i = k
        · subst e
          obtain ⟨j, c, h1, h2, h3⟩ := h.has i hi (by rw [hb]; exact e2)
          have hm : m ≠ 0 := by unfold setL at hl; simpa using hl
          refine ⟨j, { c with en := if m = 0 then T else c.en, pk := max c.pk m }, ?_, h2, ?_⟩
          · rw [List.getElem?_map, h1]; simp only [Option.map_some]; rw [if_pos (opn_iff.2 ⟨h2, h3⟩)]
          · simp only; rw [if_neg hm]; exact h3
        · unfold setL at hl; rw [if_neg e] at hl
          obtain ⟨j, c, h1, h2, h3⟩ := h.has i hi hl
          refine ⟨j, c, ?_, h2, h3⟩
          rw [List.getElem?_map, h1]; simp only [Option.map_some]
          rw [if_neg (fun q => e (by have := (opn_iff.1 q).1; rw [h2] at this; omega))]
      · intro j c hj he
        obtain ⟨d, h1,_, h2, ⟨h3, h4, h5⟩ | ⟨h3, rfl⟩⟩ := get j c hj
        · rw [eqk c (by rw [h2]; exact (opn_iff.1 h3).1), h5]; exact Int.le_max_right ..
        · have hne : c.rg ≠ (k : Int) := fun e => by rw [opn_iff.2 ⟨e, he⟩] at h3; cases h3
          rw [nek c (h.rg j c h1).1 hne]; exact h.pk j c h1 he
def lvM (H : Int) (st : List Stp) (s : Stp) (k : Nat) : Nat → Int := fun i => if i < k then lvS H i (st ++ [s]) else lvS H i st
theorem csOk_run {H : Int} {n : Nat} {st : List Stp} {s : Stp} {cs : List Cs} (h : CsOk n (fun i => lvS H i st) cs) (hT : s.t ≠ never) : ∀ k, k ≤ n → CsOk n (lvM H st s k) (runC H st s cs k)
  | 0,_ => by
    have : lvM H st s 0 = fun i => lvS H i st := by funext i; unfold lvM; simp
    rw [this]; exact h
  | k + 1, hk => by
    have ih := csOk_step (csOk_run h hT k (by omega)) (k := k) (by omega) (b := lvS H k st) (m := lvS H k (st ++ [s])) (T := s.t) (by unfold lvM; simp) lvS_nn lvS_nn hT
    have : setL (lvM H st s k) k (lvS H k (st ++ [s])) = lvM H st s (k + 1) := by
      funext i; unfold setL lvM
      by_cases q : i = k
      · subst q; simp
      · rw [if_neg q]; by_cases q2 : i < k
        · rw [if_pos q2, if_pos (by omega)]
        · rw [if_neg q2, if_neg (by omega)]
    rw [this] at ih; exact ih
theorem lvM_end {H : Int} {n : Nat} {st : List Stp} {s : Stp} {cs : List Cs} (h : CsOk n (lvM H st s n) cs) : CsOk n (fun i => lvS H i (st ++ [s])) cs := by
  have e : ∀ i, i < n → lvM H st s n i = lvS H i (st ++ [s]) := fun i hi => by unfold lvM; rw [if_pos hi]
  have r : ∀ (j : Nat) (c : Cs), cs[j]? = some c → lvM H st s n c.rg.toNat = lvS H c.rg.toNat (st ++ [s]) := fun j c hj => e _ (by have := h.rg j c hj; omega)
  exact ⟨h.nm, h.rg, fun j c hj he => by rw [← r j c hj]; exact h.op j c hj he, h.one, fun k hk hl => h.has k hk (by rw [e k hk]; exact hl), fun j c hj he => by rw [← r j c hj]; exact h.pk j c hj he⟩
theorem csOk_all {H : Int} {n : Nat} : ∀ (st : List Stp), (∀ s, s ∈ st → s.t ≠ never) → CsOk n (fun i => lvS H i st) (csF H n st) := by
  intro st
  induction h : st.length generalizing st with
  | zero =>
    intro _
    have : st = [] := List.eq_nil_of_length_eq_zero h
    subst this
    exact csOk_nil fun _ _ => rfl
  | succ m ih =>
    intro ht
    rcases List.eq_nil_or_concat st with q | ⟨l, s, q⟩
    · rw [q] at h; simp at h
    · rw [q, List.concat_eq_append] at h ht ⊢
      rw [csF_snoc]
      exact lvM_end (csOk_run (ih l (by simpa using h) (fun s hs => ht s (by simp [hs]))) (ht s (by simp)) n (Nat.le_refl _))
structure NtM where
  t : Int
  g : Grid
  p : Option Addr
  c : Nat
  vs : List Span
  lv : Int
abbrev NtM.cells (n : NtM) : List Value := [.int .i64 n.t, .int .i64 n.g.x, .int .i64 n.g.y, .int .i64 n.g.size, .int .i64 n.g.wide, .int .i64 n.g.high, .slice n.p n.vs.length n.c, .int .i64 n.lv]
structure Nt where
  t : Int
  vs : List Span
  lv : Int
def NtM.n (x : NtM) : Nt := ⟨x.t, x.vs, x.lv⟩
def hitB (pix : List Int) (vs : List Span) (lv : Int) : Bool := pix.any fun p => decide (lv ≤ (vs.getD p.toNat ⟨0,0⟩).lo)
def canB (pix : List Int) (vs : List Span) (lv : Int) : Bool := pix.any fun p => decide (lv ≤ (vs.getD p.toNat ⟨0,0⟩).hi)
theorem any_take {pix : List Int} {f : Int → Bool} {j : Nat} {p : Int} (h : pix[j]? = some p) : (pix.take (j + 1)).any f = ((pix.take j).any f || f p) := by
  rw [List.take_add_one, h, List.any_append]; simp
structure Tal where
  h : Int
  m : Int
  a : Int
  q : Int
  o : Int
  lo : Int
  hi : Int
abbrev Tal.cells (x : Tal) : List Value := [.int .i64 x.h, .int .i64 x.m, .int .i64 x.a, .int .i64 x.q, .int .i64 x.o, .int .i64 x.lo, .int .i64 x.hi]
def kN (i c on : Bool) : Nat := if i && on then 0 else if i then 1 else if c then 2 else if on then 3 else 4
def kNt (pix : List Int) (on : Int → Bool) (n : Nt) : Nat := kN (hitB pix n.vs n.lv) (canB pix n.vs n.lv) (on n.t)
def cntK (pix : List Int) (on : Int → Bool) (k : Nat) (ns : List Nt) : Int := ns.countP fun n => decide (kNt pix on n = k)
theorem cntK_le {pix : List Int} {on : Int → Bool} {k : Nat} {ns : List Nt} : 0 ≤ cntK pix on k ns ∧ cntK pix on k ns ≤ ns.length := by
  unfold cntK
  have := List.countP_le_length (p := fun n => decide (kNt pix on n = k)) (l := ns)
  omega
theorem cntK_y {pix : List Int} {on : Int → Bool} {k : Nat} {ns : List Nt} {n : Nt} (h : kNt pix on n = k) : cntK pix on k (ns ++ [n]) = cntK pix on k ns + 1 := by
  unfold cntK; rw [List.countP_append]; simp [h]
theorem cntK_n {pix : List Int} {on : Int → Bool} {k : Nat} {ns : List Nt} {n : Nt} (h : kNt pix on n ≠ k) : cntK pix on k (ns ++ [n]) = cntK pix on k ns := by
  unfold cntK; rw [List.countP_append]; simp [h]
def CntT (pix : List Int) (on : Int → Bool) (ns : List Nt) (x : Tal) : Prop := x.h = cntK pix on 0 ns ∧ x.m = cntK pix on 1 ns ∧ x.o = cntK pix on 2 ns ∧ x.a = cntK pix on 3 ns ∧ x.q = cntK pix on 4 ns
def bump (k : Nat) (x : Tal) : Tal := match k with
  | 0 => { x with h := x.h + 1 }
  | 1 => { x with m := x.m + 1 }
  | 2 => { x with o := x.o + 1 }
  | 3 => { x with a := x.a + 1 }
  | _ => { x with q := x.q + 1 }
theorem kN_lt {i c on : Bool} : kN i c on < 5 := by cases i <;> cases c <;> cases on <;> decide
theorem cnt_bump {pix : List Int} {on : Int → Bool} {ns : List Nt} {n : Nt} {x : Tal} {k : Nat} (h : CntT pix on ns x) (hk : kNt pix on n = k) : CntT pix on (ns ++ [n]) (bump k x) := by
  obtain ⟨h0, h1, h2, h3, h4⟩ := h
  have hlt : k < 5 := by rw [← hk]; exact kN_lt
  have y : ∀ j, k = j → cntK pix on j (ns ++ [n]) = cntK pix on j ns + 1 := fun j e => cntK_y (by rw [hk, e])
  have z : ∀ j, k ≠ j → cntK pix on j (ns ++ [n]) = cntK pix on j ns := fun j e => cntK_n (by rw [hk]; exact e)
  match k, hlt with
  | 0,_ => exact ⟨by rw [y 0 rfl, ← h0]; rfl, by rw [z 1 (by decide)]; exact h1, by rw [z 2 (by decide)]; exact h2, by rw [z 3 (by decide)]; exact h3, by rw [z 4 (by decide)]; exact h4⟩
  | 1,_ => exact ⟨by rw [z 0 (by decide)]; exact h0, by rw [y 1 rfl, ← h1]; rfl, by rw [z 2 (by decide)]; exact h2, by rw [z 3 (by decide)]; exact h3, by rw [z 4 (by decide)]; exact h4⟩
  | 2,_ => exact ⟨by rw [z 0 (by decide)]; exact h0, by rw [z 1 (by decide)]; exact h1, by rw [y 2 rfl, ← h2]; rfl, by rw [z 3 (by decide)]; exact h3, by rw [z 4 (by decide)]; exact h4⟩
  | 3,_ => exact ⟨by rw [z 0 (by decide)]; exact h0, by rw [z 1 (by decide)]; exact h1, by rw [z 2 (by decide)]; exact h2, by rw [y 3 rfl, ← h3]; rfl, by rw [z 4 (by decide)]; exact h4⟩
  | 4,_ => exact ⟨by rw [z 0 (by decide)]; exact h0, by rw [z 1 (by decide)]; exact h1, by rw [z 2 (by decide)]; exact h2, by rw [z 3 (by decide)]; exact h3, by rw [y 4 rfl, ← h4]; rfl⟩
/-! how long a warning was ahead of what was observed -/
def inC (pix : List Int) (c : Cs) (n : Nt) : Bool := (hitB pix n.vs n.lv && decide (c.bg ≤ n.t)) && decide (n.t < c.en)
def lessO (m : Option Int) (v : Int) : Option Int := match m with
  | none => some v
  | some u => some (min u v)
def firstN (pix : List Int) (c : Cs) (ns : List Nt) : Option Int := ns.foldl (fun m n => if inC pix c n = true then lessO m (n.t - c.bg) else m) none
theorem firstN_snoc {pix : List Int} {c : Cs} {ns : List Nt} {n : Nt} : firstN pix c (ns ++ [n]) = if inC pix c n = true then lessO (firstN pix c ns) (n.t - c.bg) else firstN pix c ns := by unfold firstN; rw [List.foldl_append]; rfl
def mapF (k : Int) (pix : List Int) (cs : List Cs) (ns : List Nt) (i j : Nat) : Int → Option Int := fun n =>
  if 1 ≤ n ∧ n ≤ (cs.length : Int) then (if (cs.getD (n.toNat - 1) zC).rg = k then firstN pix (cs.getD (n.toNat - 1) zC) (if n.toNat - 1 < j then ns.take (i + 1) else ns.take i) else none) else none
section
variable {k : Int} {pix : List Int} {cs : List Cs} {ns : List Nt} {i j : Nat}
theorem mapF_0 : mapF k pix cs ns 0 0 = fun _ => none := by
  funext n
  unfold mapF
  split
  · split
    · rw [if_neg (by omega)]; rfl
    · rfl
  · rfl
theorem mapF_next : mapF k pix cs ns i cs.length = mapF k pix cs ns (i + 1) 0 := by
  funext n
  unfold mapF
  split
  · split
    · rw [if_pos (by omega), if_neg (by omega)]
    · rfl
  · rfl
theorem mapF_at {c : Cs} (hc : cs[j]? = some c) (hr : c.rg = k) : mapF k pix cs ns i j ((j : Int) + 1) = firstN pix c (ns.take i) := by
  have hj := (List.getElem?_eq_some_iff.1 hc).1
  unfold mapF
  rw [if_pos (by omega), show ((j : Int) + 1).toNat - 1 = j by omega, List.getD_eq_getElem?_getD, hc]
  simp only [Option.getD_some]
  rw [if_pos hr, if_neg (by omega)]
theorem mapF_skip {c : Cs} {n : Nt} (hc : cs[j]? = some c) (hn : ns[i]? = some n) (h : ¬ (c.rg = k ∧ inC pix c n = true)) : mapF k pix cs ns i (j + 1) = mapF k pix cs ns i j := by
  funext m
  unfold mapF
  split
  · rename_i q
    by_cases e : m.toNat - 1 = j
    · rw [e, List.getD_eq_getElem?_getD, hc]
      simp only [Option.getD_some]
      split
      · rename_i q2
        rw [if_pos (by omega), if_neg (by omega), List.take_add_one, hn]
        simp only [Option.toList_some]
        rw [firstN_snoc, if_neg (fun z => h ⟨q2, z⟩)]
      · rfl
    · by_cases q2 : m.toNat - 1 < j
      · rw [if_pos (show m.toNat - 1 < j + 1 by omega), if_pos q2]
      · rw [if_neg (show ¬ m.toNat - 1 < j + 1 by omega), if_neg q2]
  · rfl
theorem mapF_same {c : Cs} {n : Nt} {u : Int} (hc : cs[j]? = some c) (hn : ns[i]? = some n) (hr : c.rg = k) (h : inC pix c n = true) (hu : firstN pix c (ns.take i) = some u) (hle : u ≤ n.t - c.bg) : mapF k pix cs ns i (j + 1) = mapF k pix cs ns i j := by
  funext m
  unfold mapF
  split
  · rename_i q
    by_cases e : m.toNat - 1 = j
    · rw [e, List.getD_eq_getElem?_getD, hc]
      simp only [Option.getD_some]
      rw [if_pos hr, if_pos hr, if_pos (by omega), if_neg (by omega), List.take_add_one, hn]
      simp only [Option.toList_some]
      rw [firstN_snoc, if_pos h, hu]
      show some (min u (n.t - c.bg)) = some u
      rw [Int.min_eq_left hle]
    · by_cases q2 : m.toNat - 1 < j
      · rw [if_pos (show m.toNat - 1 < j + 1 by omega), if_pos q2]
      · rw [if_neg (show ¬ m.toNat - 1 < j + 1 by omega), if_neg q2]
  · rfl
theorem mapF_upd {c : Cs} {n : Nt} (hc : cs[j]? = some c) (hn : ns[i]? = some n) (hr : c.rg = k) (h : inC pix c n = true) (hu : firstN pix c (ns.take i) = none ∨ ∃ u, firstN pix c (ns.take i) = some u ∧ n.t - c.bg < u) : mapF k pix cs ns i (j + 1) = updI (mapF k pix cs ns i j) ((j : Int) + 1) (n.t - c.bg) := by
  have hj := (List.getElem?_eq_some_iff.1 hc).1
  funext m
  unfold updI
  by_cases e : m = (j : Int) + 1
  · rw [if_pos e]
    unfold mapF
    rw [if_pos (by omega), show m.toNat - 1 = j by omega, List.getD_eq_getElem?_getD, hc]
    simp only [Option.getD_some]
    rw [if_pos hr, if_pos (by omega), List.take_add_one, hn]
    simp only [Option.toList_some]
    rw [firstN_snoc, if_pos h]
    rcases hu with z | ⟨u, z, z2⟩
    · rw [z]; rfl
    · rw [z]
      show some (min u (n.t - c.bg)) = _
      rw [Int.min_eq_right (by omega)]
  · rw [if_neg e]
    unfold mapF
    split
    · have e2 : m.toNat - 1 ≠ j := by omega
      by_cases q2 : m.toNat - 1 < j
      · rw [if_pos (show m.toNat - 1 < j + 1 by omega), if_pos q2]
      · rw [if_neg (show ¬ m.toNat - 1 < j + 1 by omega), if_neg q2]
    · rfl
end
def aheadL (k : Int) (pix : List Int) (cs : List Cs) (ns : List Nt) : List Int := cs.filterMap fun c => if c.rg = k then firstN pix c ns else none
def spanL : List Int → Int × Int
  | [] => (0,0)
  | x :: l => (l.foldl min x, l.foldl max x)
theorem minF (l : List Int) : ∀ (x : Int), l.foldl min x ≤ x ∧ (∀ y, y ∈ l → l.foldl min x ≤ y) ∧ (l.foldl min x = x ∨ l.foldl min x ∈ l) := by
  induction l with
  | nil => intro x; exact ⟨Int.le_refl _, fun y h => (by cases h), .inl rfl⟩
  | cons a l ih =>
    intro x
    obtain ⟨h1, h2, h3⟩ := ih (min x a)
    simp only [List.foldl_cons]
    refine ⟨by omega, fun y hy => ?_, ?_⟩
    · rcases List.mem_cons.1 hy with rfl | q
      · omega
      · exact h2 y q
    · rcases h3 with q | q
      · rcases Int.le_total x a with z | z
        · left; rw [q, Int.min_eq_left z]
        · right; rw [q, Int.min_eq_right z]; exact List.mem_cons_self
      · right; exact List.mem_cons_of_mem _ q
theorem maxF (l : List Int) : ∀ (x : Int), x ≤ l.foldl max x ∧ (∀ y, y ∈ l → y ≤ l.foldl max x) ∧ (l.foldl max x = x ∨ l.foldl max x ∈ l) := by
  induction l with
  | nil => intro x; exact ⟨Int.le_refl _, fun y h => (by cases h), .inl rfl⟩
  | cons a l ih =>
    intro x
    obtain ⟨h1, h2, h3⟩ := ih (max x a)
    simp only [List.foldl_cons]
    refine ⟨by omega, fun y hy => ?_, ?_⟩
    · rcases List.mem_cons.1 hy with rfl | q
      · omega
      · exact h2 y q
    · rcases h3 with q | q
      · rcases Int.le_total x a with z | z
        · right; rw [q, Int.max_eq_right z]; exact List.mem_cons_self
        · left; rw [q, Int.max_eq_left z]
      · right; exact List.mem_cons_of_mem _ q
def SpanOf (S : Int → Prop) (lo hi : Int) : Prop := (S lo ∧ S hi ∧ ∀ v, S v → lo ≤ v ∧ v ≤ hi) ∨ ((∀ v, ¬ S v) ∧ lo = 0 ∧ hi = 0)
theorem spanL_of (l : List Int) : SpanOf (fun v => v ∈ l) (spanL l).1 (spanL l).2 := by
  cases l with
  | nil => exact .inr ⟨fun v h => (by cases h), rfl, rfl⟩
  | cons x l =>
    obtain ⟨a1, a2, a3⟩ := minF l x
    obtain ⟨b1, b2, b3⟩ := maxF l x
    refine .inl ⟨?_, ?_, fun v hv => ?_⟩
    · show l.foldl min x ∈ x :: l
      rcases a3 with q | q
      · rw [q]; exact List.mem_cons_self
      · exact List.mem_cons_of_mem _ q
    · show l.foldl max x ∈ x :: l
      rcases b3 with q | q
      · rw [q]; exact List.mem_cons_self
      · exact List.mem_cons_of_mem _ q
    · show l.foldl min x ≤ v ∧ v ≤ l.foldl max x
      rcases List.mem_cons.1 hv with rfl | q
      · exact ⟨a1, b1⟩
      · exact ⟨a2 v q, b2 v q⟩
theorem span_eq {S T : Int → Prop} {a b c d : Int} (h : SpanOf S a b) (k : SpanOf T c d) (e : ∀ v, S v ↔ T v) : a = c ∧ b = d := by
  rcases h with ⟨h1, h2, h3⟩ | ⟨h1, h2, h3⟩
  · rcases k with ⟨k1, k2, k3⟩ | ⟨k1, k2, k3⟩
    · have q1 := h3 c ((e c).2 k1)
      have q2 := h3 d ((e d).2 k2)
      have q3 := k3 a ((e a).1 h1)
      have q4 := k3 b ((e b).1 h2)
      omega
    · exact absurd ((e a).1 h1) (k1 a)
  · rcases k with ⟨k1, k2, k3⟩ | ⟨k1, k2, k3⟩
    · exact absurd ((e c).2 k1) (h1 c)
    · omega
theorem ahead_mem {k : Int} {pix : List Int} {cs : List Cs} {ns : List Nt} {v : Int} : v ∈ aheadL k pix cs ns ↔ ∃ n, mapF k pix cs ns ns.length 0 n = some v := by
  unfold aheadL
  rw [List.mem_filterMap]
  constructor
  · rintro ⟨c, hc, e⟩
    obtain ⟨j, hj⟩ := List.mem_iff_getElem?.1 hc
    have hjl := (List.getElem?_eq_some_iff.1 hj).1
    refine ⟨(j : Int) + 1, ?_⟩
    split at e
    · rename_i q
      unfold mapF
      rw [if_pos (by omega), show ((j : Int) + 1).toNat - 1 = j by omega, List.getD_eq_getElem?_getD, hj]
      simp only [Option.getD_some]
      rw [if_pos q, if_neg (by omega), List.take_length]; exact e
    · cases e
  · rintro ⟨n, e⟩
    unfold mapF at e
    split at e
    · split at e
      · rename_i q1 q2
        rw [if_neg (by omega), List.take_length] at e
        refine ⟨cs.getD (n.toNat - 1) zC, getD_mem (by omega), ?_⟩
        rw [if_pos q2]; exact e
      · cases e
    · cases e
def talF (k : Int) (pix : List Int) (on : Int → Bool) (cs : List Cs) (ns : List Nt) : Tal := ⟨cntK pix on 0 ns, cntK pix on 1 ns, cntK pix on 3 ns, cntK pix on 4 ns, cntK pix on 2 ns, (spanL (aheadL k pix cs ns)).1, (spanL (aheadL k pix cs ns)).2⟩
def AhI (es : List MapEntry) (seen : Array Nat) (sm : Bool) (lo hi : Int) : Prop := (∀ e, e ∈ es → e.born ∈ seen → sm = true ∧ ∃ v, e.val = intV v ∧ lo ≤ v ∧ v ≤ hi) ∧ (sm = true → (∃ e, e ∈ es ∧ e.val = intV lo) ∧ ∃ e, e ∈ es ∧ e.val = intV hi) ∧ (sm = false → lo = 0 ∧ hi = 0)
theorem ah_0 {es : List MapEntry} : AhI es #[] false 0 0 := ⟨fun e _ h => (by simp at h), fun h => (by cases h), fun _ => ⟨rfl, rfl⟩⟩
theorem born_eq {es : List MapEntry} (h : (es.map (·.born)).Nodup) {a b : MapEntry} (ha : a ∈ es) (hb : b ∈ es) (e : a.born = b.born) : a = b := by
  obtain ⟨i, hi, rfl⟩ := List.getElem_of_mem ha
  obtain ⟨j, hj, rfl⟩ := List.getElem_of_mem hb
  have pw := List.pairwise_iff_getElem.1 h
  have : i = j := by
    rcases Nat.lt_trichotomy i j with q | q | q
    · exact absurd (by rw [List.getElem_map, List.getElem_map]; exact e) (pw i j (by simpa using hi) (by simpa using hj) q)
    · exact q
    · exact absurd (by rw [List.getElem_map, List.getElem_map]; exact e.symm) (pw j i (by simpa using hj) (by simpa using hi) q)
  subst this; rfl
theorem ah_first {es : List MapEntry} {seen : Array Nat} {lo hi v : Int} {e : MapEntry} (h : AhI es seen false lo hi) (hn : (es.map (·.born)).Nodup) (he : e ∈ es) (hv : e.val = intV v) : AhI es (seen.push e.born) true (min v v) (max v v) := by
  refine ⟨fun x hx hb => ?_, fun _ => ⟨⟨e, he, by rw [hv, Int.min_self]⟩, ⟨e, he, by rw [hv, Int.max_self]⟩⟩, fun q => (by cases q)⟩
  rcases Array.mem_push.1 hb with q | q
  · have := (h.1 x hx q).1; cases this
  · have := born_eq hn hx he q; subst this
    exact ⟨rfl, v, hv, by omega, by omega⟩
theorem ah_more {es : List MapEntry} {seen : Array Nat} {lo hi v : Int} {e : MapEntry} (h : AhI es seen true lo hi) (hn : (es.map (·.born)).Nodup) (he : e ∈ es) (hv : e.val = intV v) : AhI es (seen.push e.born) true (min lo v) (max hi v) := by
  obtain ⟨h1, h2,_⟩ := h
  obtain ⟨⟨a, ha, ha2⟩, ⟨b, hb, hb2⟩⟩ := h2 rfl
  refine ⟨fun x hx hbn => ?_, fun _ => ⟨?_, ?_⟩, fun q => (by cases q)⟩
  · rcases Array.mem_push.1 hbn with q | q
    · obtain ⟨_, u, g1, g2, g3⟩ := h1 x hx q
      exact ⟨rfl, u, g1, by omega, by omega⟩
    · have := born_eq hn hx he q; subst this
      exact ⟨rfl, v, hv, by omega, by omega⟩
  · rcases Int.le_total lo v with q | q
    · exact ⟨a, ha, by rw [Int.min_eq_left q]; exact ha2⟩
    · exact ⟨e, he, by rw [Int.min_eq_right q]; exact hv⟩
  · rcases Int.le_total hi v with q | q
    · exact ⟨e, he, by rw [Int.max_eq_right q]; exact hv⟩
    · exact ⟨b, hb, by rw [Int.max_eq_left q]; exact hb2⟩
theorem ah_end {es : Array MapEntry} {seen : Array Nat} {sm : Bool} {lo hi : Int} {k : Int} {pix : List Int} {cs : List Cs} {ns : List Nt} (h : AhI es.toList seen sm lo hi) (hE : MapE es.toList (mapF k pix cs ns ns.length 0)) (h0 : (leftOf es seen).size = 0) : lo = (spanL (aheadL k pix cs ns)).1 ∧ hi = (spanL (aheadL k pix cs ns)).2 := by
  obtain ⟨h1, h2, h3⟩ := h
  have val : ∀ e, e ∈ es.toList → ∀ v, e.val = intV v → v ∈ aheadL k pix cs ns := fun e he v hv => by
    obtain ⟨n, u, g1, g2, g3⟩ := hE.ent e he
    have : u = v := intV_inj (g2.symm.trans hv)
    subst this
    exact ahead_mem.2 ⟨n, g3⟩
  have all : ∀ v, v ∈ aheadL k pix cs ns → sm = true ∧ lo ≤ v ∧ v ≤ hi := fun v hv => by
    obtain ⟨n, hn⟩ := ahead_mem.1 hv
    obtain ⟨e, g1, g2, g3⟩ := hE.mem n v hn
    obtain ⟨q1, u, q2, q3, q4⟩ := h1 e g1 (left_end h0 g1)
    have : u = v := intV_inj (q2.symm.trans g3)
    subst this
    exact ⟨q1, q3, q4⟩
  have s : SpanOf (fun v => v ∈ aheadL k pix cs ns) lo hi := by
    cases sm with
    | true =>
      obtain ⟨⟨a, ha, ha2⟩, ⟨b, hb, hb2⟩⟩ := h2 rfl
      exact .inl ⟨val a ha lo ha2, val b hb hi hb2, fun v hv => (all v hv).2⟩
    | false =>
      obtain ⟨e1, e2⟩ := h3 rfl
      exact .inr ⟨fun v hv => Bool.noConfusion (all v hv).1, e1, e2⟩
  exact span_eq s (spanL_of _) fun v => Iff.rfl
def CsM.p (c : CsM) : Cs := ⟨c.nm, c.rg, c.bg, c.en, c.pk⟩
theorem meetK_b {b n : Int} (hb : 0 ≤ b) (hn : 0 ≤ n) (h : b ≠ n) : meetK b n = 1 ↔ b = 0 := by
  unfold meetK
  constructor
  · intro q
    split at q
    · split at q
      · assumption
      · omega
    · split at q <;> omega
  · intro q; rw [if_pos (by omega), if_pos q]
theorem meetK_e {b n : Int} (hb : 0 ≤ b) (hn : 0 ≤ n) (h : b ≠ n) (h0 : b ≠ 0) : meetK b n = 2 ↔ n = 0 := by
  unfold meetK
  constructor
  · intro q
    split at q
    · omega
    · split at q
      · assumption
      · omega
  · intro q; rw [if_neg (by omega), if_pos q]
theorem nodup_at {cs : List CsM} (h : (cs.map CsM.b).Nodup) {i j : Nat} {c d : CsM} (hi : cs[i]? = some c) (hj : cs[j]? = some d) (e : c.b = d.b) : i = j := by
  have hi2 : (cs.map CsM.b)[i]? = some c.b := by rw [List.getElem?_map, hi]; rfl
  have hj2 : (cs.map CsM.b)[j]? = some d.b := by rw [List.getElem?_map, hj]; rfl
  have hp := List.pairwise_iff_getElem.1 h
  obtain ⟨h1, h2⟩ := List.getElem?_eq_some_iff.1 hi2
  obtain ⟨k1, k2⟩ := List.getElem?_eq_some_iff.1 hj2
  rcases Nat.lt_trichotomy i j with q | q | q
  · exact absurd (h2.trans (e.trans k2.symm)) (hp i j h1 k1 q)
  · exact q
  · exact absurd (k2.trans (e.symm.trans h2.symm)) (hp j i k1 h1 q)
theorem map_set_at {cs : List Cs} {f : Cs → Bool} {g : Cs → Cs} {j : Nat} {c : Cs} (hj : cs[j]? = some c) (hc : f c = true) (hu : ∀ i d, cs[i]? = some d → f d = true → i = j) : cs.set j (g c) = cs.map fun c => if f c = true then g c else c := by
  refine List.ext_getElem? fun i => ?_
  rw [List.getElem?_map, List.getElem?_set]
  have hlt := (List.getElem?_eq_some_iff.1 hj).1
  by_cases q : j = i
  · subst q
    rw [if_pos rfl, if_pos hlt, hj]; simp [hc]
  · rw [if_neg q]
    cases h : cs[i]? with
    | none => rfl
    | some d =>
      simp only [Option.map_some]
      rw [if_neg (fun e => q (hu i d h e).symm)]
theorem open_nm {cs : List Cs} {k j : Nat} {c : Cs} (hj : cs[j]? = some c) (hc : opn k c = true) (hu : ∀ i d, cs[i]? = some d → opn k d = true → i = j) : openNm k cs = c.nm := by
  obtain ⟨hlt, e⟩ := List.getElem?_eq_some_iff.1 hj
  have h : cs.findIdx (opn k) = j := (List.findIdx_eq hlt).2 ⟨by rw [e]; exact hc, fun i hi => by
    cases q : opn k cs[i] with
    | false => rfl
    | true => exact absurd (hu i _ (List.getElem?_eq_getElem (by omega)) q) (by omega)⟩
  unfold openNm
  rw [h, List.getD_eq_getElem?_getD, hj]; rfl
def OpnAt (cs : List CsM) (op : Option Nat) (k : Nat) : Prop := ∃ (j : Nat) (c : CsM), cs[j]? = some c ∧ op = some c.b ∧ c.rg = (k : Int) ∧ c.en = never
theorem meet_sim {H T : Int} {st : List Stp} {s : Stp} {n k : Nat} {cs : List CsM} {es : List Ev} {r : RcM} {t : Thr} {y : MeetY} (hH : 0 ≤ H) (hT : lastT st ≤ s.t ∨ st = []) (hcs : CsOk n (lvM H st s k) (cs.map CsM.p)) (hnd : (cs.map CsM.b).Nodup) (hi : r.i = k) (hsT : s.t = T) (ht : s.th.getD k zT = t)
    (hrc : r.rc = keepR (lastT st) H (histR k st)) (hlv : r.lv = lvL H k st) (hop : lvS H k st ≠ 0 → OpnAt cs r.op k) (hm : MeetP r T H t cs es y) :
    y.cs.map CsM.p = stepC k (lvS H k st) (lvS H k (st ++ [s])) T (cs.map CsM.p) ∧ y.es = stepE k (lvS H k st) (lvS H k (st ++ [s])) T t (cs.map CsM.p) es ∧ y.r.rc = keepR (lastT (st ++ [s])) H (histR k (st ++ [s])) ∧ y.r.lv = lvL H k (st ++ [s]) ∧
      (lvS H k (st ++ [s]) ≠ 0 → OpnAt y.cs y.r.op k) ∧ (∀ (j : Nat) (c : CsM), cs[j]? = some c → c.rg ≠ (k : Int) → y.cs[j]? = some c) := by
  have hnow : nowRc T H r.rc t.lv = keepR (lastT (st ++ [s])) H (histR k (st ++ [s])) := by rw [hrc, ← ht, ← hsT]; exact rc_snoc hH hT
  have hN : maxLv (nowRc T H r.rc t.lv) = lvS H k (st ++ [s]) := by rw [hnow]; rfl
  have hB : lastI r.lv = lvS H k st := by rw [hlv, lvL_last]
  have hb0 : 0 ≤ lvS H k st := lvS_nn
  have hn0 : 0 ≤ lvS H k (st ++ [s]) := lvS_nn
  obtain ⟨_,_,_, e4, e5, q⟩ := hm
  rw [hN, hB] at q
  rw [hN] at e5
  rw [hnow] at e4
  have e5' : y.r.lv = lvL H k (st ++ [s]) := by rw [e5, hlv, lvL_snoc]
  generalize lvS H k (st ++ [s]) = N at *
  generalize hBB : lvS H k st = B at *
  rcases q with ⟨q1, q2, q3, q4⟩ | ⟨q1, x', hh, q4⟩
  · refine ⟨?_, ?_, e4, e5', ?_, ?_⟩
    · unfold stepC; rw [if_pos q1.symm, q3]
    · unfold stepE; rw [if_pos q1.symm, q4]
    · intro h; rw [q2, q3]; exact hop (by rw [← q1]; exact h)
    · intro j c hj _; rw [q3]; exact hj
  · have hkd : (meetEv r.i T B N t).kd = meetK B N := rfl
    have hrg : (meetEv r.i T B N t).rg = (k : Int) := by show (r.i : Int) = k; rw [hi]
    rcases hh with ⟨h1, b, g1, g2, g3⟩ | ⟨h1, j, c, hc, g0, g1, g2, g3⟩
    · have hz : B = 0 := (meetK_b hb0 hn0 (Ne.symm q1)).1 (hkd ▸ h1)
      refine ⟨?_, ?_, e4, e5', ?_, ?_⟩
      · unfold stepC; rw [if_neg (Ne.symm q1), if_pos hz, g2, List.map_append]
        congr 1
        simp only [List.map_cons, List.map_nil, CsM.p, hrg, List.length_map]
        congr 2
        show max 0 N = N
        omega
      · unfold stepE; rw [if_neg (Ne.symm q1), q4, g3]
        unfold evS
        rw [if_pos hz, List.length_map]
        have : meetEv k T B N t = meetEv r.i T B N t := by rw [hi]
        rw [this]
      · intro h
        exact ⟨cs.length,_, by rw [g2, List.getElem?_append_right (Nat.le_refl _)]; simp; rfl, g1, hrg, rfl⟩
      · intro j c hj _
        rw [g2, List.getElem?_append_left (List.getElem?_eq_some_iff.1 hj).1]; exact hj
    · have hz : B ≠ 0 := fun e => h1 (hkd ▸ (meetK_b hb0 hn0 (Ne.symm q1)).2 e)
      obtain ⟨j', c', hc', ho', hr', he'⟩ := hop hz
      have hbb : c.b = c'.b := by rw [g0] at ho'; simpa using ho'
      have hjj := nodup_at hnd hc hc' hbb
      subst hjj
      rw [hc] at hc'
      cases hc'
      have hcp : (cs.map CsM.p)[j]? = some c.p := by rw [List.getElem?_map, hc]; rfl
      have hcf : opn k c.p = true := opn_iff.2 ⟨hr', he'⟩
      have hun : ∀ i d, (cs.map CsM.p)[i]? = some d → opn k d = true → i = j := fun i d hd ho => by
        have := opn_iff.1 ho
        exact hcs.one i j d c.p hd hcp (by rw [this.1]; exact hr'.symm) this.2 he'
      have hkd2 : ((meetEv r.i T B N t).kd = 2) ↔ N = 0 := by rw [hkd]; exact meetK_e hb0 hn0 (Ne.symm q1) hz
      refine ⟨?_, ?_, e4, e5', ?_, ?_⟩
      · unfold stepC; rw [if_neg (Ne.symm q1), if_neg hz, g2, List.map_set, ← map_set_at (g := fun c => { c with en := if N = 0 then T else c.en, pk := max c.pk N }) hcp hcf hun]
        congr 1
        simp only [CsM.p]
        congr 1
        by_cases hN0 : N = 0
        · rw [if_pos (hkd2.2 hN0), if_pos hN0]; rfl
        · rw [if_neg (fun q => hN0 (hkd2.1 q)), if_neg hN0]
      · unfold stepE; rw [if_neg (Ne.symm q1), q4, g3]
        unfold evS
        rw [if_neg hz, open_nm hcp hcf hun]
        have : meetEv k T B N t = meetEv r.i T B N t := by rw [hi]
        rw [this]; rfl
      · intro h
        refine ⟨j, { c with en := if (meetEv r.i T B N t).kd = 2 then (meetEv r.i T B N t).t else c.en, pk := max c.pk (meetEv r.i T B N t).lv }, by rw [g2]; exact List.getElem?_set_self (List.getElem?_eq_some_iff.1 hc).1, by rw [g1, g0], hr', ?_⟩
        show (if (meetEv r.i T B N t).kd = 2 then _ else c.en) = never
        rw [if_neg (fun q => h (hkd2.1 q))]; exact he'
      · intro i d hd hne
        rw [g2, List.getElem?_set]
        rw [if_neg]
        · exact hd
        · intro e; subst e; rw [hc] at hd; cases hd; exact hne hr'
theorem keep_pre {cs cs' : List CsM} (h : CsKeep cs cs') (hn : (cs'.map CsM.b).Nodup) : (cs.map CsM.b).Nodup := by
  refine List.pairwise_iff_getElem.2 fun i j hi hj hij e => ?_
  simp only [List.length_map] at hi hj
  simp only [List.getElem_map] at e
  obtain ⟨c, h1, h2⟩ := h i _ (List.getElem?_eq_getElem hi)
  obtain ⟨d, k1, k2⟩ := h j _ (List.getElem?_eq_getElem hj)
  have := nodup_at hn h1 k1 (by rw [h2, k2]; exact e)
  omega
theorem run_sim {H T b : Int} {sts : List (List Int)} {st : List Stp} {s : Stp} {n : Nat} {cs0 : List CsM} (hH : 0 ≤ H) (hT : lastT st ≤ s.t ∨ st = []) (hcs : CsOk n (fun i => lvS H i st) (cs0.map CsM.p)) (hnv : s.t ≠ never) (hsT : s.t = T) {rs ds : List RcM} {cs : List CsM} {es : List Ev} (h : RunP sts b H T cs0 rs ds cs es) :
    ∀ (all : List RcM), rs <+: all → all.length = n → (∀ (k : Nat) (r : RcM), all[k]? = some r → r.i = k ∧ s.th.getD k zT = thr sts r.x.r.pix b ∧ r.rc = keepR (lastT st) H (histR k st) ∧ r.lv = lvL H k st ∧ (lvS H k st ≠ 0 → OpnAt cs0 r.op k)) → (cs.map CsM.b).Nodup →
    cs.map CsM.p = runC H st s (cs0.map CsM.p) rs.length ∧ es = runE H st s (cs0.map CsM.p) rs.length ∧
    (∀ (k : Nat) (d : RcM), ds[k]? = some d → d.rc = keepR (lastT (st ++ [s])) H (histR k (st ++ [s])) ∧ d.lv = lvL H k (st ++ [s]) ∧ (lvS H k (st ++ [s]) ≠ 0 → OpnAt cs d.op k)) ∧
    (∀ (k : Nat) (r : RcM), rs.length ≤ k → all[k]? = some r → lvS H k st ≠ 0 → OpnAt cs r.op k) := by
  induction h with
  | nil =>
    intro all _ _ hall _
    exact ⟨rfl, rfl, fun k d hd => by simp at hd, fun k r _ hr => (hall k r hr).2.2.2.2⟩
  | @snoc rs ds cs es r y h1 h2 ih =>
    intro all hpre hlen hall hnd
    have hkp := meet_keep h2
    have hnd1 := keep_pre hkp.1 hnd
    have hpre2 : rs <+: all := (List.prefix_append rs [r]).trans hpre
    obtain ⟨i1, i2, i3, i4⟩ := ih all hpre2 hlen hall hnd1
    have hrl : all[rs.length]? = some r := by
      obtain ⟨z, hz⟩ := hpre
      rw [← hz, List.append_assoc, List.getElem?_append_right (Nat.le_refl _)]; simp
    obtain ⟨a1, a2, a3, a4, a5⟩ := hall _ r hrl
    have hk : rs.length < n := by rw [← hlen]; exact (List.getElem?_eq_some_iff.1 hrl).1
    have hdl := (run_keep h1).2.2.2.2
    have hok : CsOk n (lvM H st s rs.length) (cs.map CsM.p) := by rw [i1]; exact csOk_run hcs hnv _ (by omega)
    obtain ⟨m1, m2, m3, m4, m5, m6⟩ := meet_sim hH hT hok hnd1 a1 hsT a2 a3 a4 (i4 _ r (Nat.le_refl _) hrl) h2
    have keepO : ∀ (k : Nat) (op : Option Nat), k ≠ rs.length → OpnAt cs op k → OpnAt y.cs op k := fun k op hne ⟨j, c, g1, g2, g3, g4⟩ => ⟨j, c, m6 j c g1 (by rw [g3]; omega), g2, g3, g4⟩
    refine ⟨?_, ?_, ?_, ?_⟩
    · rw [m1, i1, List.length_append, List.length_singleton, ← hsT]; rfl
    · rw [m2, i1, i2, List.length_append, List.length_singleton, ← hsT, ← a2]; rfl
    · intro k d hd
      rcases Nat.lt_or_ge k ds.length with q | q
      · rw [List.getElem?_append_left q] at hd
        obtain ⟨g1, g2, g3⟩ := i3 k d hd
        exact ⟨g1, g2, fun hl => keepO k _ (by omega) (g3 hl)⟩
      · rw [List.getElem?_append_right q] at hd
        have e : k = ds.length := by
          rcases Nat.lt_or_ge (k - ds.length) 1 with z | z
          · omega
          · rw [List.getElem?_eq_none (by simpa using z)] at hd; cases hd
        subst e
        simp at hd; subst hd
        rw [hdl]
        exact ⟨m3, m4, m5⟩
    · intro k r' hk' hr' hl
      rw [List.length_append, List.length_singleton] at hk'
      exact keepO k _ (by omega) (i4 k r' (by omega) hr' hl)
structure SimO (o : OfM) (st : List Stp) : Prop where
  wf : WfO o
  ts : o.ts = st.map Stp.t
  inc : o.ts.Pairwise (· < ·)
  tb : ∀ t, t ∈ o.ts → 0 ≤ t ∧ t ≤ 4294967296
  rcs : ∀ (k : Nat) (r : RcM), o.rc[k]? = some r → r.rc = keepR (lastT st) o.hold (histR k st) ∧ r.lv = lvL o.hold k st ∧ (lvS o.hold k st ≠ 0 → OpnAt o.cs r.op k)
  cs : o.cs.map CsM.p = csF o.hold o.rc.length st
theorem SimO.hold {o : OfM} {st : List Stp} (h : SimO o st) : 0 ≤ o.hold ∧ o.hold ≤ 86400 := by
  have := specOk h.wf.spec
  exact this.2.2.2.2.2.2
theorem sim_new {g : Grid} {l : List RG} {a b d : Int} {o : OfM} (h : NewP g l a b d o) (hs : specE ⟨g, l.map RG.r, a, b, d⟩ = 0) (hp : ∀ x, x ∈ l → x.r.pix.length < 1000000000000) : SimO o [] := by
  have hw := new_wf h hs hp
  obtain ⟨h1, h2, h3, h4, h5, h6, h7,_, h8, h9⟩ := h
  refine ⟨hw, by rw [h5]; rfl, by rw [h5]; exact List.Pairwise.nil, by rw [h5]; simp, fun k r hr => ?_, by rw [h6]; rfl⟩
  have := h9.2 k r hr
  exact ⟨this.2.2.1, this.2.2.2.1, fun q => absurd rfl q⟩
theorem lastT_last {o : OfM} {st : List Stp} (h : o.ts = st.map Stp.t) (hn : o.ts ≠ []) : lastI o.ts = lastT st := by
  rcases List.eq_nil_or_concat st with q | ⟨l, s, q⟩
  · rw [q] at h; exact absurd h hn
  · rw [h, q, List.concat_eq_append, lastT_snoc, List.map_append]
    exact lastI_snoc _ _
def thsO (o : OfM) (l : List Cloud) : List Thr := o.rc.map fun r => thr (lookL o.g l o.lead o.step) r.x.r.pix o.step
theorem sim_step {o : OfM} {st : List Stp} {T : Int} {l : List Cloud} {y : StepY} (h : SimO o st) (hp : StepP o T l y) (hT1 : 0 ≤ T) (hT2 : T ≤ 4294967296) (hlate : o.ts = [] ∨ lastI o.ts < T) (hnd : (y.cs.map CsM.b).Nodup) :
    SimO (y.o o T) (st ++ [⟨T, thsO o l⟩]) ∧ y.es = evF o.hold o.rc.length st ⟨T, thsO o l⟩ := by
  have hwf := step_wf h.wf hp
  obtain ⟨hr,_⟩ := hp
  have hlT : lastT st ≤ T ∨ st = [] := by
    rcases hlate with q | q
    · rw [h.ts] at q; exact .inr (List.map_eq_nil_iff.1 q)
    · by_cases e : o.ts = []
      · rw [h.ts] at e; exact .inr (List.map_eq_nil_iff.1 e)
      · rw [lastT_last h.ts e] at q; exact .inl (Int.le_of_lt q)
  have htn : ∀ s, s ∈ st → s.t ≠ never := fun s hs => by
    have := h.tb s.t (by rw [h.ts]; exact List.mem_map_of_mem hs)
    unfold never; omega
  have hok : CsOk o.rc.length (fun i => lvS o.hold i st) (o.cs.map CsM.p) := by rw [h.cs]; exact csOk_all st htn
  have hgd : ∀ (k : Nat) (r : RcM), o.rc[k]? = some r → (thsO o l).getD k zT = thr (lookL o.g l o.lead o.step) r.x.r.pix o.step := fun k r hr => by
    unfold thsO; rw [List.getD_eq_getElem?_getD, List.getElem?_map, hr]; rfl
  obtain ⟨s1, s2, s3,_⟩ := run_sim (s := ⟨T, thsO o l⟩) h.hold.1 hlT hok (by unfold never; show T ≠ _; omega) rfl hr o.rc (List.prefix_refl _) rfl (fun k r hr => ⟨(h.wf.idx k r hr).2, hgd k r hr, h.rcs k r hr⟩) hnd
  have hdl := (run_keep hr).2.2.2.2
  refine ⟨⟨hwf, by show o.ts ++ [T] = _; rw [h.ts, List.map_append]; rfl, ?_, ?_, s3, ?_⟩, by rw [s2, h.cs]; rfl⟩
  · show (o.ts ++ [T]).Pairwise (· < ·)
    rw [List.pairwise_append]
    refine ⟨h.inc, by simp, fun a ha b hb => ?_⟩
    simp at hb; subst hb
    rcases hlate with q | q
    · rw [q] at ha; simp at ha
    · refine Int.lt_of_le_of_lt ?_ q
      obtain ⟨i, hi, e⟩ := List.getElem_of_mem ha
      unfold lastI
      rw [List.getD_eq_getElem?_getD, List.getElem?_eq_getElem (by omega : o.ts.length - 1 < o.ts.length)]
      simp only [Option.getD_some]
      rw [← e]
      rcases Nat.lt_or_ge i (o.ts.length - 1) with z | z
      · exact Int.le_of_lt (List.pairwise_iff_getElem.1 h.inc i _ hi (by omega) z)
      · have : i = o.ts.length - 1 := by omega
        subst this; exact Int.le_refl _
  · intro t ht
    rcases List.mem_append.1 ht with q | q
    · exact h.tb t q
    · simp at q; subst q; exact ⟨hT1, hT2⟩
  · show y.cs.map CsM.p = csF o.hold y.ds.length (st ++ [_])
    rw [s1, csF_snoc, h.cs, hdl]
def thsP (s : Sp) (l : List Cloud) : List Thr := s.regs.map fun r => thr (lookL s.g l s.lead s.step) r.pix s.step
theorem ths_eq {o : OfM} (h : WfO o) (l : List Cloud) : thsO o l = thsP o.sp l := by
  unfold thsO thsP OfM.sp
  refine List.ext_getElem? fun k => ?_
  simp only [List.getElem?_map]
  cases q : o.rc[k]? with
  | none =>
    have : o.rc.length ≤ k := by
      rcases Nat.lt_or_ge k o.rc.length with z | z
      · rw [List.getElem?_eq_getElem z] at q; cases q
      · exact z
    rw [List.getElem?_eq_none (by rw [← h.len]; exact this)]; rfl
  | some r => rw [(h.idx k r q).1]; rfl
theorem n_eq {o : OfM} (h : WfO o) : o.rc.length = o.sp.regs.length := by unfold OfM.sp; rw [List.length_map]; exact h.len
theorem cs_nodup {o : OfM} {w : World} (h : (bagD (o.cs.map CsM.blk)).inv w) : (o.cs.map CsM.b).Nodup := by
  have := h.2
  rw [List.pairwise_map] at this
  unfold List.Nodup
  rw [List.pairwise_map]
  refine this.imp fun {a b} hab e => ?_
  exact hab a.b rfl (by show a.b = b.b; exact e)
theorem Step_s (o : OfM) (st : List Stp) (T : Int) (m : List CP) (pm : Option Addr) (cm : Nat) (w : World) (hh : Has w (offR o)) (hcl : ∀ {L : List Res} {v : World}, St ⟨w, fpL (offR o)⟩ L v → Clouds v pm m) (hcn : m.length < 1000000000) (h : SimO o st) (hT1 : 0 ≤ T) (hT3 : T ≤ 4294967296) (hlate : o.ts = [] ∨ lastI o.ts < T) (hful : o.lg.length < 256) (hlk : lookE o.g (m.map CP.c) = 0) :
    Calls Tryz.prog 13 #[ptrN o.b, .int .i64 T, .slice pm m.length cm] w fun e w' => ∃ y : StepY, (StepP o T (m.map CP.c) y ∧ SimO (y.o o T) (st ++ [⟨T, thsP o.sp (m.map CP.c)⟩]) ∧ y.es = evF o.hold o.rc.length st ⟨T, thsP o.sp (m.map CP.c)⟩) ∧ e = .returned (.tuple #[.slice y.pe y.es.length y.ce, .int .i64 0]) ∧ St ⟨w, fpL (offR o)⟩ (own 84 7 y.pe y.ce (y.es.map evC) :: offR (y.o o T)) w' := by
  refine (Step_w o T m pm cm w hh hcl hcn h.wf hT1 hT3 hlate hful hlk).mono ?_
  rintro e w' ⟨y, hp, he, hs⟩
  have hnd : (y.cs.map CsM.b).Nodup := cs_nodup (o := y.o o T) (hs.inv 8 _ rfl)
  have := sim_step h hp hT1 hT3 hlate hnd
  rw [ths_eq h.wf] at this
  exact ⟨y, ⟨hp, this⟩, he, hs⟩
theorem cp_read {w : World} {l : List CP} (h : (bagD (l.flatMap cpR)).inv w) {x : CP} (hx : x ∈ l) : Ints w x.ps x.c.sure ∧ Ints w x.pm x.c.may :=
  ⟨own_inv_rows (h.1 (own 3 1 x.ps x.cs (x.c.sure.map iC)) (List.mem_flatMap.2 ⟨x, hx, .head _⟩)), own_inv_rows (h.1 (own 3 1 x.pm x.cm (x.c.may.map iC)) (List.mem_flatMap.2 ⟨x, hx, .tail _ (.head _)⟩))⟩
def zEv : Ev := ⟨0,0,0,0,0,0,0⟩
theorem getD_of {α : Type} {l : List α} {k : Nat} {x d : α} (h : l[k]? = some x) : l.getD k d = x := by rw [List.getD_eq_getElem?_getD, h]; rfl
theorem levels_sim {o : OfM} {st : List Stp} (h : SimO o st) : levelsL o = (List.range o.rc.length).map fun j => lvS o.hold j st := by
  unfold levelsL
  refine List.ext_getElem? fun j => ?_
  rw [List.getElem?_map, List.getElem?_map]
  rcases Nat.lt_or_ge j o.rc.length with q | q
  · rw [List.getElem?_range q, List.getElem?_eq_getElem q]
    have := (h.rcs j _ (List.getElem?_eq_getElem q)).2.1
    simp only [Option.map_some, this, lvL_last]
  · rw [List.getElem?_eq_none q, List.getElem?_eq_none (by simpa using q)]; rfl
theorem I77 : EInfo Tryz.prog 77 2 16 (.agg #[.int .i64 0, .int .i64 0]) := ⟨by kernel_rfl, by kernel_rfl, by unfold ZeroOf; kernel_rfl, rfl, by decide⟩
theorem C32 : IsFn Tryz.prog 32 := ⟨_, Tryz.func32, by decide, rfl⟩
theorem EA23 : FlatA Tryz.prog 23 5 := ⟨⟨_, Tryz.underlying23, rfl⟩, by kernel_rfl, by kernel_rfl⟩
theorem C33 : IsFn Tryz.prog 33 := ⟨_, Tryz.func33, by decide, rfl⟩
theorem N46 : (Tryz.prog.info? 46).map (·.size) = some 1 := by kernel_rfl
theorem B112 : Builds Tryz.prog 112 [(0,1), (1,6), (7,1)] [.int .i64 0, .int .i64 0, .int .i64 0, .int .i64 0, .int .i64 0, .int .i64 0, .slice none 0 0, .int .i64 0] := Builds.mk fun _ => by kernel_rfl
def noteE (o : OfM) (T : Int) (f : Field) (lv : Int) : Int := if ¬ (0 ≤ T ∧ T ≤ 4294967296) then 3 else if 256 ≤ o.lg.length then 13 else if fieldE 1073741824 f ≠ 0 then fieldE 1073741824 f else if ¬ ([f.g.x, f.g.y, f.g.size, f.g.wide, f.g.high] = [o.g.x, o.g.y, o.g.size, o.g.wide, o.g.high]) then 11 else if ¬ (1 ≤ lv ∧ lv ≤ 1073741824) then 3 else 0
def stpE (o : OfM) (T : Int) (l : List Cloud) : Int := if ¬ (0 ≤ T ∧ T ≤ 4294967296) then 3 else if 0 < o.ts.length ∧ T ≤ lastI o.ts then 17 else if 256 ≤ o.lg.length then 13 else lookE o.g l
theorem nE1 {o : OfM} {T lv : Int} {f : Field} (h : ¬ (0 ≤ T ∧ T ≤ 4294967296)) : 3 = noteE o T f lv := (if_pos h).symm
theorem nE2 {o : OfM} {T lv : Int} {f : Field} (h : 0 ≤ T ∧ T ≤ 4294967296) (k : (256 : Int) ≤ o.lg.length) : 13 = noteE o T f lv := by unfold noteE; rw [if_neg (fun q => q h), if_pos (by omega)]
theorem nE3 {o : OfM} {T lv : Int} {f : Field} (h : 0 ≤ T ∧ T ≤ 4294967296) (k : ¬ (256 : Int) ≤ o.lg.length) (q : ¬ fieldE 1073741824 f = 0) : fieldE 1073741824 f = noteE o T f lv := by unfold noteE; rw [if_neg (fun q => q h), if_neg (by omega), if_pos q]
theorem nE4 {o : OfM} {T lv : Int} {f : Field} (h : 0 ≤ T ∧ T ≤ 4294967296) (k : ¬ (256 : Int) ≤ o.lg.length) (q : fieldE 1073741824 f = 0) (z : ¬ [f.g.x, f.g.y, f.g.size, f.g.wide, f.g.high] = [o.g.x, o.g.y, o.g.size, o.g.wide, o.g.high]) : 11 = noteE o T f lv := by unfold noteE; rw [if_neg (fun q => q h), if_neg (by omega), if_neg (fun z => z q), if_pos z]
theorem nE5 {o : OfM} {T lv : Int} {f : Field} (h : 0 ≤ T ∧ T ≤ 4294967296) (k : ¬ (256 : Int) ≤ o.lg.length) (q : fieldE 1073741824 f = 0) (z : [f.g.x, f.g.y, f.g.size, f.g.wide, f.g.high] = [o.g.x, o.g.y, o.g.size, o.g.wide, o.g.high]) (y : ¬ (1 ≤ lv ∧ lv ≤ 1073741824)) : 3 = noteE o T f lv := by unfold noteE; rw [if_neg (fun q => q h), if_neg (by omega), if_neg (fun z => z q), if_neg (fun y => y z), if_pos y]
theorem nE6 {o : OfM} {T lv : Int} {f : Field} (h : 0 ≤ T ∧ T ≤ 4294967296) (k : ¬ (256 : Int) ≤ o.lg.length) (q : fieldE 1073741824 f = 0) (z : [f.g.x, f.g.y, f.g.size, f.g.wide, f.g.high] = [o.g.x, o.g.y, o.g.size, o.g.wide, o.g.high]) (y : 1 ≤ lv ∧ lv ≤ 1073741824) : noteE o T f lv = 0 := by unfold noteE; rw [if_neg (fun q => q h), if_neg (by omega), if_neg (fun z => z q), if_neg (fun y => y z), if_neg (fun q => q y)]
theorem noteOk {o : OfM} {T lv : Int} {f : Field} (h : noteE o T f lv = 0) : (0 ≤ T ∧ T ≤ 4294967296) ∧ o.lg.length < 256 ∧ fieldE 1073741824 f = 0 ∧ [f.g.x, f.g.y, f.g.size, f.g.wide, f.g.high] = [o.g.x, o.g.y, o.g.size, o.g.wide, o.g.high] ∧ (1 ≤ lv ∧ lv ≤ 1073741824) := by
  unfold noteE at h
  split at h
  · omega
  · rename_i q1
    split at h
    · omega
    · split at h
      · rename_i q q2; exact absurd h q2
      · rename_i q2 q3
        split at h
        · omega
        · rename_i q4
          split at h
          · omega
          · rename_i q5
            exact ⟨Classical.not_not.1 q1, by omega, Classical.not_not.1 q3, Classical.not_not.1 q4, Classical.not_not.1 q5⟩
theorem stepOk {o : OfM} {T : Int} {l : List Cloud} (h : stpE o T l = 0) : (0 ≤ T ∧ T ≤ 4294967296) ∧ (o.ts = [] ∨ lastI o.ts < T) ∧ o.lg.length < 256 ∧ lookE o.g l = 0 := by
  unfold stpE at h
  split at h
  · omega
  · rename_i q1
    split at h
    · omega
    · rename_i q2
      split at h
      · omega
      · rename_i q3
        refine ⟨Classical.not_not.1 q1, ?_, by omega, h⟩
        rcases Nat.eq_zero_or_pos o.ts.length with z | z
        · exact .inl (List.eq_nil_of_length_eq_zero z)
        · exact .inr (by omega)
theorem late_iff {o : OfM} {T : Int} : ((0 : Int) < (o.ts.length : Int) ∧ T ≤ o.ts.getD (o.ts.length - 1) 0) ↔ (0 < o.ts.length ∧ T ≤ lastI o.ts) := by unfold lastI; omega
theorem sE_1 {o : OfM} {T : Int} {l : List Cloud} (h : ¬ (0 ≤ T ∧ T ≤ 4294967296)) : 3 = stpE o T l := (if_pos h).symm
theorem sE_2 {o : OfM} {T : Int} {l : List Cloud} (h : 0 ≤ T ∧ T ≤ 4294967296) (k : (0 : Int) < (o.ts.length : Int) ∧ T ≤ o.ts.getD (o.ts.length - 1) 0) : 17 = stpE o T l := by unfold stpE; rw [if_neg (fun q => q h), if_pos (late_iff.1 k)]
theorem sE_3 {o : OfM} {T : Int} {l : List Cloud} (h : 0 ≤ T ∧ T ≤ 4294967296) (k : ¬ ((0 : Int) < (o.ts.length : Int) ∧ T ≤ o.ts.getD (o.ts.length - 1) 0)) (z : (256 : Int) ≤ o.lg.length) : 13 = stpE o T l := by unfold stpE; rw [if_neg (fun q => q h), if_neg (fun q => k (late_iff.2 q)), if_pos (by omega)]
theorem sE_4 {o : OfM} {T : Int} {l : List Cloud} (h : 0 ≤ T ∧ T ≤ 4294967296) (k : ¬ ((0 : Int) < (o.ts.length : Int) ∧ T ≤ o.ts.getD (o.ts.length - 1) 0)) (z : ¬ (256 : Int) ≤ o.lg.length) : lookE o.g l = stpE o T l := by unfold stpE; rw [if_neg (fun q => q h), if_neg (fun q => k (late_iff.2 q)), if_neg (by omega)]
theorem sE_0 {o : OfM} {T : Int} {l : List Cloud} (h : 0 ≤ T ∧ T ≤ 4294967296) (k : ¬ ((0 : Int) < (o.ts.length : Int) ∧ T ≤ o.ts.getD (o.ts.length - 1) 0)) (z : ¬ (256 : Int) ≤ o.lg.length) (y : lookE o.g l = 0) : stpE o T l = 0 := (sE_4 h k z).symm.trans y
theorem CloneS_c (l : List Span) (p : Option Addr) (c : Nat) (w : World) (hn : l.length < 1000000000000) (hl : RO 2 Span.cells w p l) :
 Calls Tryz.prog 33 #[.slice p l.length c] w fun e w' => ∃ x : Option Addr × Nat, True ∧ e = .returned (.slice x.1 l.length x.2) ∧ St (bs w) [own 77 2 x.1 x.2 (l.map Span.cells)] w' := by
 refine enter (vs := [_]) (env := [(0,_)]) Tryz.func33 rfl rfl rfl rfl ?_
 refine VC.q (VO.a rfl rfl<|VO.n<|VC.seq<|VC.q (VO.m rfl rfl<|VO.l (LO.eqSn ⟨_, Tryz.underlying46⟩ (.r rfl) (.r rfl)) rfl<|VO.n<|VC.cond rfl (fun h4 => ?_) (fun h4 => ?_)))
 ·
  have h0 := RO_none hl h4
  refine VC.q (VO.a rfl rfl<|VO.n<|VC.ret (VE.thenR (VE.s rfl rfl (fun w hw => ?_))))
  first | exact ⟨(none, 0), trivial, by rw [h0]; rfl, by rw [h0]; exact hw.nil.ownNil 77 2⟩ | exact ⟨(p2, c2), trivial, rfl, hw.sel [0] rfl⟩
 ·
  refine VC.skip (VE.seqN<|VC.q (VO.h rfl<|HO.bs0 S46 N77 fun b1 => VO.m rfl rfl<|VO.h rfl<|HO.appN0 (f := Span.cells) (m := l) 0 (fun R => [R]) S46 S46 I77 (.r rfl) (.r rfl) rfl (fun w hw => hl.keep w hw) (fun _ => rfl) (fun _ => rfl) rfl rfl (fun _ => rfl) rfl (by omega) fun p2 c2 _ => VO.h rfl<|HO.lo (LO.as (.r rfl))<|VO.n<|VC.ret (VE.s rfl rfl (fun w hw => ?_))))
  first | exact ⟨(none, 0), trivial, by rw [h0]; rfl, by rw [h0]; exact hw.nil.ownNil 77 2⟩ | exact ⟨(p2, c2), trivial, rfl, hw.sel [0] rfl⟩
theorem Note_e (o : OfM) (T : Int) (f : Field) (pv : Option Addr) (cv : Nat) (lv : Int) (w : World) (hn : 0 < o.rc.length ∧ o.rc.length < 1000000) (hh : Has w (offR o)) (hv : Spans w pv f.vals) (hne : noteE o T f lv ≠ 0) :
 Calls Tryz.prog 11 #[ptrN o.b, .int .i64 T, .agg #[.int .i64 f.g.x, .int .i64 f.g.y, .int .i64 f.g.size, .int .i64 f.g.wide, .int .i64 f.g.high, .slice pv f.vals.length cv], .int .i64 lv] w fun e w' => e = .returned (.int .i64 (noteE o T f lv)) ∧ St (bs w) [] w' := by
 refine enter (vs := [_,_,_,_]) (env := [(0,_), (1,_), (2,_), (3,_)]) Tryz.func11 rfl rfl rfl rfl ?_
 refine VC.q (VO.h rfl<|HO.box (C := #[_,_,_,_,_,_]) rfl rfl fun b1 => VO.a rfl rfl<|VO.n<|VC.seq<|VC.block<|VC.q (VO.m rfl rfl<|VO.l (LO.call (xs := [_]) (vs := [_]) C30 ⟨(.r rfl), trivial⟩ (fun w hw => nothing_c o w (by omega) (off_cells (hh.keep hw)))) rfl<|VO.a rfl rfl<|VO.n<|VC.cond rfl (fun h10 => ?_) (fun h10 => ?_)))
 · (exfalso; omega)
 ·
  refine VC.q (VO.m rfl rfl<|VO.l (LO.call (xs := [_,_,_]) (vs := [_,_,_]) C31 ⟨(.r rfl), (.r rfl), (.r rfl), trivial⟩ (fun w _ => iwithin_c _ _ _ w)) rfl<|VO.l (LO.not (.r rfl)) rfl<|VO.a rfl rfl<|VO.n<|VC.cond rfl (fun h13 => ?_) (fun h13 => ?_))
  ·
   refine VC.q (VO.a rfl rfl<|VO.n<|VC.ret (VE.inR (VE.thenR (VE.s rfl rfl (fun w hw => ?_)))))
   refine ⟨?_, hw.nil⟩
   simp only [resV]
   congr 2
   first | exact nE1 h13 | exact nE2 h13 h17 | exact nE3 h13 h17 h27 | exact nE4 h13 h17 h27 h29 | exact nE5 h13 h17 h27 h29 h38
  ·
   have h13 := Classical.not_not.1 h13
   refine VC.q (VO.m rfl rfl<|VO.l (LO.nc (.r rfl)) rfl<|VO.f (r := 12) F92_4 rfl rfl rfl<|VO.l (LO.ld O90 (.r rfl) (cells_keep (sub_cells (off := 12) (off_cells hh) ⟨_, rfl⟩))) rfl<|VO.l (LO.len S90 (.r rfl) rfl) rfl<|VO.l (LO.ge (.r rfl) (.r rfl)) rfl<|VO.a rfl rfl<|VO.n<|VC.cond rfl (fun h17 => ?_) (fun h17 => ?_))
   ·
    refine VC.q (VO.a rfl rfl<|VO.n<|VC.ret (VE.inR (VE.thenR (VE.s rfl rfl (fun w hw => ?_)))))
    refine ⟨?_, hw.nil⟩
    simp only [resV]
    congr 2
    first | exact nE1 h13 | exact nE2 h13 h17 | exact nE3 h13 h17 h27 | exact nE4 h13 h17 h27 h29 | exact nE5 h13 h17 h27 h29 h38
   ·
    refine VC.skip (VE.inN (VE.seqN<|VC.seq<|VC.q (VO.l (LO.lda (vs := [_,_,_,_,_,_]) A48 (.r rfl) (cells_blk 0 rfl ⟨_, rfl⟩) rfl) rfl<|VO.l (LO.call (xs := [_]) (vs := [_]) C32 ⟨(.r rfl), trivial⟩ (fun w hw => bCheckField_c f pv cv w (hv.keep w hw))) rfl<|VO.a rfl rfl<|VO.n<|VC.q (VO.m rfl rfl<|VO.u rfl rfl rfl<|VO.n<|VC.cond rfl (fun h27 => ?_) (fun h27 => ?_)))))
    ·
     refine VC.q (VO.m rfl rfl<|VO.a rfl rfl<|VO.n<|VC.ret (VE.thenR (VE.s rfl rfl (fun w hw => ?_))))
     refine ⟨?_, hw.nil⟩
     simp only [resV]
     congr 2
     first | exact nE1 h13 | exact nE2 h13 h17 | exact nE3 h13 h17 h27 | exact nE4 h13 h17 h27 h29 | exact nE5 h13 h17 h27 h29 h38
    ·
     have h27 := Classical.not_not.1 h27
     refine VC.skip (VE.seqN<|VC.seq<|VC.block<|VC.seq<|VC.draw mixed (LL.l (LO.fa (r := 0) F48_0 (.r rfl) rfl) rfl<|LL.l (LO.lda (vs := [_,_,_,_,_]) A23 (.r rfl) (cells_blk 0 rfl ⟨_, rfl⟩) rfl) rfl<|LL.m rfl rfl<|LL.l (LO.nc (.r rfl)) rfl<|LL.l (LO.fa (r := 0) F92_0 (.r rfl) rfl) rfl<|LL.l (LO.fa (r := 0) F28_0 (.r rfl) rfl) rfl<|LL.l (LO.lda (vs := [_,_,_,_,_]) A23 (.r rfl) (cells_keep (sub_cells (off := 0) (off_cells hh) ⟨_, rfl⟩)) rfl) rfl<|LL.l (LO.neA («as» := [_,_,_,_,_]) (bs := [_,_,_,_,_]) EA23 (.r rfl) (.r rfl) rfl rfl) rfl<|LL.l (LO.as (.r rfl)) rfl<|LL.nil) (by kernel_rfl)<|VE.seqN<|VC.cond rfl (fun h29 => ?_) (fun h29 => ?_))
     ·
      refine VC.q (VO.a rfl rfl<|VO.n<|VC.ret (VE.inR (VE.thenR (VE.s rfl rfl (fun w hw => ?_)))))
      refine ⟨?_, hw.nil⟩
      simp only [resV]
      congr 2
      first | exact nE1 h13 | exact nE2 h13 h17 | exact nE3 h13 h17 h27 | exact nE4 h13 h17 h27 h29 | exact nE5 h13 h17 h27 h29 h38
     ·
      have h29 := Classical.not_not.1 h29
      refine VC.q (VO.m rfl rfl<|VO.l (LO.call (xs := [_,_,_]) (vs := [_,_,_]) C31 ⟨(.r rfl), (.r rfl), (.r rfl), trivial⟩ (fun w _ => iwithin_c _ _ _ w)) rfl<|VO.l (LO.not (.r rfl)) rfl<|VO.a rfl rfl<|VO.n<|VC.cond rfl (fun h38 => ?_) (fun h38 => ?_))
      ·
       refine VC.q (VO.a rfl rfl<|VO.n<|VC.ret (VE.inR (VE.thenR (VE.s rfl rfl (fun w hw => ?_)))))
       refine ⟨?_, hw.nil⟩
       simp only [resV]
       congr 2
       first | exact nE1 h13 | exact nE2 h13 h17 | exact nE3 h13 h17 h27 | exact nE4 h13 h17 h27 h29 | exact nE5 h13 h17 h27 h29 h38
      · (exfalso; exact hne (nE6 h13 h17 h27 h29 (Classical.not_not.1 h38)))
theorem Note_c (o : OfM) (T : Int) (f : Field) (pv : Option Addr) (cv : Nat) (lv : Int) (w : World) (hn : 0 < o.rc.length ∧ o.rc.length < 1000000) (hh : Has w (offR o)) (hv : ∀ {L : List Res} {v : World}, St ⟨w, fpL (offR o)⟩ L v → Spans v pv f.vals) (hok : noteE o T f lv = 0) :
 Calls Tryz.prog 11 #[ptrN o.b, .int .i64 T, .agg #[.int .i64 f.g.x, .int .i64 f.g.y, .int .i64 f.g.size, .int .i64 f.g.wide, .int .i64 f.g.high, .slice pv f.vals.length cv], .int .i64 lv] w fun e w' => ∃ y : (Option Addr × Nat) × (Option Addr × Nat), True ∧ e = .returned (.int .i64 0) ∧ St ⟨w, fpL (offR o)⟩ (offR { o with lg := o.lg ++ [LgM.nt T f.g y.1.1 y.1.2 f.vals lv], pl := y.2.1, cl := y.2.2 }) w' := by
 obtain ⟨hk1, hk2, hk3, hk4, hk5⟩ := noteOk hok
 have har : f.vals.length ≤ 4096 := by unfold fieldE at hk3; split at hk3; (· omega); (· rename_i q; have z := area_bd (Classical.not_not.1 q); split at hk3; (· omega); (· omega))
 refine enterO (vs := [_,_,_,_]) (env := [(0,_), (1,_), (2,_), (3,_)]) hh.enter Tryz.func11 rfl rfl rfl rfl ?_
 refine VC.q (VO.h rfl<|HO.box (C := #[_,_,_,_,_,_]) rfl rfl fun b11 => VO.a rfl rfl<|VO.n<|VC.seq<|VC.block<|VC.q (VO.m rfl rfl<|VO.l (LO.call (xs := [_]) (vs := [_]) C30 ⟨(.r rfl), trivial⟩ (fun w hw => nothing_c o w (by omega) (cells_at hw 1 rfl ⟨_, rfl⟩))) rfl<|VO.a rfl rfl<|VO.n<|VC.cond rfl (fun h10 => ?_) (fun h10 => ?_)))
 · (exfalso; omega)
 ·
  refine VC.q (VO.m rfl rfl<|VO.l (LO.call (xs := [_,_,_]) (vs := [_,_,_]) C31 ⟨(.r rfl), (.r rfl), (.r rfl), trivial⟩ (fun w _ => iwithin_c _ _ _ w)) rfl<|VO.l (LO.not (.r rfl)) rfl<|VO.a rfl rfl<|VO.n<|VC.cond rfl (fun h13 => ?_) (fun h13 => ?_))
  · (exfalso; exact h13 hk1)
  ·
   refine VC.q (VO.m rfl rfl<|VO.l (LO.nc (.r rfl)) rfl<|VO.f (r := 12) F92_4 rfl rfl rfl<|VO.c 1 O90 rfl rfl ⟨_, rfl⟩ rfl<|VO.l (LO.len S90 (.r rfl) rfl) rfl<|VO.l (LO.ge (.r rfl) (.r rfl)) rfl<|VO.a rfl rfl<|VO.n<|VC.cond rfl (fun h17 => ?_) (fun h17 => ?_))
   · (exfalso; omega)
   ·
    refine VC.skip (VE.inN (VE.seqN<|VC.seq<|VC.q (VO.l (LO.lda (vs := [_,_,_,_,_,_]) A48 (.r rfl) (cells_blk 0 rfl ⟨_, rfl⟩) rfl) rfl<|VO.l (LO.call (xs := [_]) (vs := [_]) C32 ⟨(.r rfl), trivial⟩ (fun w hw => bCheckField_c f pv cv w (hv hw))) rfl<|VO.a rfl rfl<|VO.n<|VC.q (VO.m rfl rfl<|VO.u rfl rfl rfl<|VO.n<|VC.cond rfl (fun h27 => ?_) (fun h27 => ?_)))))
    · (exfalso; exact h27 hk3)
    ·
     refine VC.skip (VE.seqN<|VC.seq<|VC.block<|VC.seq<|VC.draw mixed (LL.l (LO.fa (r := 0) F48_0 (.r rfl) rfl) rfl<|LL.l (LO.lda (vs := [_,_,_,_,_]) A23 (.r rfl) (cells_blk 0 rfl ⟨_, rfl⟩) rfl) rfl<|LL.m rfl rfl<|LL.l (LO.nc (.r rfl)) rfl<|LL.l (LO.fa (r := 0) F92_0 (.r rfl) rfl) rfl<|LL.l (LO.fa (r := 0) F28_0 (.r rfl) rfl) rfl<|LL.l (LO.lda (vs := [_,_,_,_,_]) A23 (.r rfl) (cells_blk 1 rfl ⟨_, rfl⟩) rfl) rfl<|LL.l (LO.neA («as» := [_,_,_,_,_]) (bs := [_,_,_,_,_]) EA23 (.r rfl) (.r rfl) rfl rfl) rfl<|LL.l (LO.as (.r rfl)) rfl<|LL.nil) (by kernel_rfl)<|VE.seqN<|VC.cond rfl (fun h29 => ?_) (fun h29 => ?_))
     · (exfalso; exact h29 hk4)
     ·
      refine VC.q (VO.m rfl rfl<|VO.l (LO.call (xs := [_,_,_]) (vs := [_,_,_]) C31 ⟨(.r rfl), (.r rfl), (.r rfl), trivial⟩ (fun w _ => iwithin_c _ _ _ w)) rfl<|VO.l (LO.not (.r rfl)) rfl<|VO.a rfl rfl<|VO.n<|VC.cond rfl (fun h38 => ?_) (fun h38 => ?_))
      · (exfalso; exact h38 hk5)
      ·
       refine VC.skip (VE.inN (VE.seqN<|VC.q (VO.f (r := 5) F48_1 rfl rfl rfl<|VO.c 0 O46 rfl rfl ⟨_, rfl⟩ rfl<|VO.h rfl<|HO.callx (xs := [_]) (vs := [_]) C33 ⟨(.r rfl), trivial⟩ (fun w hw => CloneS_c f.vals pv cv w (by omega) (hv hw)) fun qv _ => VO.f (r := 5) F48_1 rfl rfl rfl<|VO.h0<|HO.st 1 (vs := [_]) (C' := [_,_,_,_,_,_]) (L' := [_,_,_,_,_,_,_,_,_,_,_,_]) N46 rfl rfl rfl rfl rfl rfl rfl rfl<|VO.n<|VC.seq<|VC.drawH [[0,1,2,3,4,5,6,7,8,9,10,11], [0,1,2,3,4,5,6,7,8,9,10,11], [0,1,2,3,4,5,6,7,8,9,11], [0,1,3,4,5,6,7,8,9,11]] [some 2, some 1, some 1, some 1, some 1, some 0, some 0, some 0, some 0, some 0, none, none, some 2, some 2, none] mixed (by kernel_rfl) rfl (LX.m rfl rfl<|LX.m rfl rfl<|LX.l (fun _ hJ => LO.nc (.r rfl)) rfl<|LX.l (fun _ hJ => LO.fa (r := 12) F92_4 (.r rfl) rfl) rfl<|LX.l (fun _ hJ => LO.ld O90 (.r rfl) (fun _ hw => cells_at (hJ _ hw) 2 rfl ⟨_, rfl⟩)) rfl<|LX.m rfl rfl<|LX.l (fun _ hJ => LO.lda (vs := [_,_,_,_,_,_]) A48 (.r rfl) (fun _ hw => cells_at (hJ _ hw) 1 rfl ⟨_, rfl⟩) rfl) rfl<|LX.m rfl rfl<|LX.l (fun _ hJ => LO.bd (ps := [(_,_), (_,_), (_,_)]) (vs := [(_,_), (_,_), (_,_)]) (C := [_,_,_,_,_,_,_,_]) B112  ⟨(.r rfl), (.r rfl), (.r rfl), trivial⟩ rfl ⟨_, [_], [_,_,_,_,_,_,_,_], rfl, rfl, rfl, rfl, ⟨_, [_,_,_,_,_,_], [_,_,_,_,_,_,_,_], rfl, rfl, rfl, rfl, ⟨_, [_], [_,_,_,_,_,_,_,_], rfl, rfl, rfl, rfl, rfl⟩⟩⟩) rfl<|LX.l (fun _ hJ => LO.mi ⟨_, Tryz.underlying112, rfl⟩ (.r rfl)) rfl<|LX.s<|LX.s<|LX.l (fun _ hJ => LO.nc (.r rfl)) rfl<|LX.l (fun _ hJ => LO.fa (r := 12) F92_4 (.r rfl) rfl) rfl<|LX.s<|LX.nil) (HX.s<|HX.s<|HX.s<|HX.s<|HX.s<|HX.s<|HX.s<|HX.s<|HX.s<|HX.s<|HX.h rfl<|HO.bs (ps := [(_,_)]) (vs := [(_,_)]) (Z := [_]) (C := [_]) S90 Z149 N149 ⟨(.r rfl), trivial⟩ rfl rfl rfl rfl ⟨_, [_], [_], rfl, rfl, rfl, rfl, rfl⟩ fun b16 => ⟨selJ (L1 := [_,_,_,_,_,_,_,_,_,_,_,_]) [1,2,3,4,5,6,7,8,9,10,11,12] rfl rfl rfl, HX.h rfl<|HO.appT ((LgM.nt T f.g qv.1 qv.2 f.vals lv)) 11 0 (fun R => [_,_,_,_,_,_,_,_,_,_,_, R,_]) S90 S90 I149 (.r rfl) (.r rfl) rfl rfl rfl rfl rfl rfl rfl (fun _ => rfl) rfl (by omega) fun p11 c11 => ⟨selJ (L1 := [_,_,_,_,_,_,_,_,_,_,_]) [1,2,3,4,5,6,7,8,9,10,12] rfl rfl rfl, HX.s<|HX.s<|HX.h0<|HO.st 3 (vs := [_]) (C' := [_,_,_,_,_,_,_,_,_,_,_,_,_]) (L' := [_,_,_,_,_,_,_,_,_,_,_,_,_]) N90 rfl rfl rfl rfl rfl rfl rfl rfl<|⟨selJ (L1 := [_,_,_,_,_,_,_,_,_,_]) [1,2,4,5,6,7,8,9,10,12] rfl rfl rfl, HX.nil ?_⟩⟩⟩))))
       refine VE.seqN<|VC.q (VO.a rfl rfl<|VO.n<|VC.ret (VE.s rfl rfl (fun w hw => ?_)))
       have e1 : o.lg.flatMap LgM.res ++ [own 77 2 qv.1 qv.2 (f.vals.map Span.cells)] = (o.lg ++ [LgM.nt T f.g qv.1 qv.2 f.vals lv]).flatMap LgM.res := by rw [List.flatMap_append]; rfl
       refine ⟨(qv, (p11, c11)), trivial, rfl, ?_⟩
       show St _ [_,_,_,_,_,_,_,_,_, bagD ((o.lg ++ [LgM.nt T f.g qv.1 qv.2 f.vals lv]).flatMap LgM.res)] _
       rw [← e1]
       exact (St.bagAdd (selK (L1 := [_,_,_,_,_,_,_,_,_,_,_]) [1,12,3,4,5,6,7,8,9,10,11] rfl rfl _ hw)).sel [1,2,3,4,5,6,7,8,9,0] rfl
theorem Step_e (o : OfM) (T : Int) (m : List CP) (pm : Option Addr) (cm : Nat) (w : World) (hn : 0 < o.rc.length ∧ o.rc.length < 1000000) (htb : o.ts.length < 1000000) (hok : specE o.sp = 0) (hh : Has w (offR o)) (hcn : m.length < 1000000000) (hcl : Clouds w pm m) (hne : stpE o T (m.map CP.c) ≠ 0) :
 Calls Tryz.prog 13 #[ptrN o.b, .int .i64 T, .slice pm m.length cm] w fun e w' => e = .returned (.tuple #[.slice none 0 0, .int .i64 (stpE o T (m.map CP.c))]) ∧ St (bs w) [] w' := by
 have hok2 := specOk hok
 obtain ⟨hgo, hN1, hN2, hpx, ⟨hr1, hr2⟩, ⟨hr3, hr4⟩, hr5, hr6⟩ := hok2
 simp only [OfM.sp] at hgo hN1 hN2 hpx hr1 hr2 hr3 hr4 hr5 hr6
 rw [List.length_map] at hN1 hN2
 have hpx2 : ∀ x, x ∈ o.rg → pixE o.g x.r.pix = 0 := fun x hx => by obtain ⟨k, hk⟩ := List.mem_iff_getElem?.1 hx; have := hpx k (by rw [List.length_map]; exact (List.getElem?_eq_some_iff.1 hk).1); rwa [getD_r hk] at this
 have htr : RO 1 iC w o.pt o.ts := RO.of_own hh 5 rfl
 refine enter (vs := [_,_,_]) (env := [(0,_), (1,_), (2,_)]) Tryz.func13 rfl rfl rfl rfl ?_
 refine VC.q (VO.h rfl<|HO.box (C := #[_]) rfl rfl fun b1 => VO.a rfl rfl<|VO.a rfl rfl<|VO.n<|VC.seq<|VC.block<|VC.q (VO.c 0 O32 rfl rfl ⟨_, rfl⟩ rfl<|VO.l (LO.call (xs := [_]) (vs := [_]) C30 ⟨(.r rfl), trivial⟩ (fun w hw => nothing_c o w (by omega) (off_cells (hh.keep hw)))) rfl<|VO.a rfl rfl<|VO.n<|VC.cond rfl (fun h15 => ?_) (fun h15 => ?_)))
 · (exfalso; omega)
 ·
  refine VC.q (VO.m rfl rfl<|VO.l (LO.call (xs := [_,_,_]) (vs := [_,_,_]) C31 ⟨(.r rfl), (.r rfl), (.r rfl), trivial⟩ (fun w _ => iwithin_c _ _ _ w)) rfl<|VO.l (LO.not (.r rfl)) rfl<|VO.a rfl rfl<|VO.n<|VC.cond rfl (fun h18 => ?_) (fun h18 => ?_))
  ·
   refine VC.q (VO.a rfl rfl<|VO.a rfl rfl<|VO.n<|VC.ret (VE.inR (VE.thenR (VE.res (vs := [_,_]) rfl ⟨rfl, rfl, trivial⟩ (fun w hw => ?_)))))
   refine ⟨?_, hw.nil⟩
   refine congrArg (fun z => Ending.returned (.tuple #[.slice none 0 0, .int .i64 z])) ?_
   first | exact sE_1 h18 | exact sE_2 h18 h22 | exact sE_3 h18 h22 h45 | exact sE_4 h18 h22 h45
  ·
   have h18 := Classical.not_not.1 h18
   refine VC.seq<|VC.draw mixed (LL.l (LO.ld O32 (.r rfl) (cells_blk 0 rfl ⟨_, rfl⟩)) rfl<|LL.l (LO.nc (.r rfl)) rfl<|LL.l (LO.fa (r := 10) F92_2 (.r rfl) rfl) rfl<|LL.l (LO.ld O72 (.r rfl) (cells_keep (sub_cells (off := 10) (off_cells hh) ⟨_, rfl⟩))) rfl<|LL.l (LO.len S72 (.r rfl) rfl) rfl<|LL.l (LO.gt (.r rfl) (.r rfl)) rfl<|LL.m rfl rfl<|LL.gt rfl rfl (fun hg => LO.mv (.r rfl)) rfl<|LL.gt rfl rfl (fun hg => LO.ld O32 (.r rfl) (cells_blk 0 rfl ⟨_, rfl⟩)) rfl<|LL.gt rfl rfl (fun hg => LO.nc (.g hg rfl)) rfl<|LL.gt rfl rfl (fun hg => LO.fa (r := 10) F92_2 (.g hg rfl) rfl) rfl<|LL.gt rfl rfl (fun hg => LO.ld O72 (.g hg rfl) (cells_keep (sub_cells (off := 10) (off_cells hh) ⟨_, rfl⟩))) rfl<|LL.gt rfl rfl (fun hg => LO.ld O32 (.r rfl) (cells_blk 0 rfl ⟨_, rfl⟩)) rfl<|LL.gt rfl rfl (fun hg => LO.nc (.g hg rfl)) rfl<|LL.gt rfl rfl (fun hg => LO.fa (r := 10) F92_2 (.g hg rfl) rfl) rfl<|LL.gt rfl rfl (fun hg => LO.ld O72 (.g hg rfl) (cells_keep (sub_cells (off := 10) (off_cells hh) ⟨_, rfl⟩))) rfl<|LL.gt rfl rfl (fun hg => LO.len S72 (.g hg rfl) rfl) rfl<|LL.gt rfl rfl (fun hg => LO.sub (.g hg rfl) (.r rfl) (wi (by omega) (by omega))) rfl<|LL.gt rfl rfl (fun hg => LO.ixs S72 N3 htr.sm (.g hg rfl) (.g hg rfl) (by have := of_decide_eq_true hg; omega) (by have := of_decide_eq_true hg; omega)) rfl<|LL.gt rfl rfl (fun hg => LO.ld O3 (.g hg rfl) (fun w hw => cells_part (off := 0) ((htr.at 0 (j := o.ts.length - 1) (by have := of_decide_eq_true hg; omega)) w hw) ⟨_, rfl⟩)) rfl<|LL.gt rfl rfl (fun hg => LO.le (.g hg rfl) (.g hg rfl)) rfl<|LL.l (LO.pkA (.r rfl) rfl rfl (.r rfl)) rfl<|LL.l (LO.as (.r rfl)) rfl<|LL.nil) (by kernel_rfl)<|VE.seqN<|VC.cond rfl (fun h22 => ?_) (fun h22 => ?_)
   ·
    refine VC.q (VO.a rfl rfl<|VO.a rfl rfl<|VO.n<|VC.ret (VE.inR (VE.thenR (VE.res (vs := [_,_]) rfl ⟨rfl, rfl, trivial⟩ (fun w hw => ?_)))))
    refine ⟨?_, hw.nil⟩
    refine congrArg (fun z => Ending.returned (.tuple #[.slice none 0 0, .int .i64 z])) ?_
    first | exact sE_1 h18 | exact sE_2 h18 h22 | exact sE_3 h18 h22 h45 | exact sE_4 h18 h22 h45
   ·
    refine VC.q (VO.c 0 O32 rfl rfl ⟨_, rfl⟩ rfl<|VO.l (LO.nc (.r rfl)) rfl<|VO.f (r := 12) F92_4 rfl rfl rfl<|VO.l (LO.ld O90 (.r rfl) (cells_keep (sub_cells (off := 12) (off_cells hh) ⟨_, rfl⟩))) rfl<|VO.l (LO.len S90 (.r rfl) rfl) rfl<|VO.l (LO.ge (.r rfl) (.r rfl)) rfl<|VO.a rfl rfl<|VO.n<|VC.cond rfl (fun h45 => ?_) (fun h45 => ?_))
    ·
     refine VC.q (VO.a rfl rfl<|VO.a rfl rfl<|VO.n<|VC.ret (VE.inR (VE.thenR (VE.res (vs := [_,_]) rfl ⟨rfl, rfl, trivial⟩ (fun w hw => ?_)))))
     refine ⟨?_, hw.nil⟩
     refine congrArg (fun z => Ending.returned (.tuple #[.slice none 0 0, .int .i64 z])) ?_
     first | exact sE_1 h18 | exact sE_2 h18 h22 | exact sE_3 h18 h22 h45 | exact sE_4 h18 h22 h45
    ·
     refine VC.skip (VE.inN (VE.seqN<|VC.q (VO.c 0 O32 rfl rfl ⟨_, rfl⟩ rfl<|VO.l (LO.nc (.r rfl)) rfl<|VO.f (r := 0) F92_0 rfl rfl rfl<|VO.l (LO.lda (vs := [_,_,_,_,_,_,_,_,_]) A28 (.r rfl) (cells_keep (sub_cells (off := 0) (off_cells hh) ⟨_, rfl⟩)) rfl) rfl<|VO.m rfl rfl<|VO.h rfl<|HO.callx (xs := [_,_]) (vs := [_,_]) C36 ⟨(.r rfl), (.r rfl), trivial⟩ (fun w hw => look_c o.g o.pg o.rg.length o.cg o.lead o.step o.hold m pm cm w hr1 hr2 hr3 hr4 (by omega) ⟨hcl.rows.keep w hw, fun x hx => ⟨(hcl.ok x hx).1.keep w hw, (hcl.ok x hx).2.1.keep w hw, (hcl.ok x hx).2.2⟩⟩) fun q hq => VO.h rfl<|HO.lo (LO.mv (.r rfl))<|VO.h rfl<|HO.lo (LO.ex (.r rfl) rfl)<|VO.h rfl<|HO.lo (LO.ex (.r rfl) rfl)<|VO.h rfl<|HO.lo (LO.as (.r rfl))<|VO.h rfl<|HO.lo (LO.as (.r rfl))<|VO.n<|VC.seq<|VC.q (VO.m rfl rfl<|VO.u rfl rfl rfl<|VO.n<|VC.cond rfl (fun h62 => ?_) (fun h62 => ?_)))))
     ·
      refine VC.q (VO.m rfl rfl<|VO.a rfl rfl<|VO.a rfl rfl<|VO.n<|VC.ret (VE.thenR (VE.res (vs := [_,_]) rfl ⟨rfl, rfl, trivial⟩ (fun w hw => ?_))))
      refine ⟨?_, hw.nil⟩
      refine congrArg (fun z => Ending.returned (.tuple #[.slice none 0 0, .int .i64 z])) ?_
      first | exact sE_1 h18 | exact sE_2 h18 h22 | exact sE_3 h18 h22 h45 | exact sE_4 h18 h22 h45
     · (exfalso; exact hne (sE_0 h18 h22 h45 (Classical.not_not.1 h62)))
theorem Z50 : ZeroOf Tryz.prog 50 (.agg #[.int .i64 0, .slice none 0 0, .int .i64 0, .int .i64 0, .int .i64 0, .int .i64 0, .int .i64 0, .slice none 0 0, .int .i64 0]) := by unfold ZeroOf; kernel_rfl
theorem F118_0 : FieldAt Tryz.prog 118 0 0 := ⟨_,_, Tryz.underlying118, rfl, rfl, 0, by kernel_rfl⟩
theorem F118_1 : FieldAt Tryz.prog 118 1 1 := ⟨_,_, Tryz.underlying118, rfl, rfl, 0, by kernel_rfl⟩
theorem O45 : IsOne Tryz.prog 45 := ⟨⟨_, Tryz.underlying45, rfl⟩, by kernel_rfl⟩
theorem B50 : Builds Tryz.prog 50 [(0,1), (1,1), (2,6), (8,1)] [.int .i64 0, .slice none 0 0, .int .i64 0, .int .i64 0, .int .i64 0, .int .i64 0, .int .i64 0, .slice none 0 0, .int .i64 0] := Builds.mk fun _ => by kernel_rfl
theorem N50 : (Tryz.prog.info? 50).map (·.size) = some 9 := by kernel_rfl
theorem A50 : IsAgg Tryz.prog 50 9 := ⟨⟨_, Tryz.underlying50, rfl⟩, by kernel_rfl⟩
theorem F112_0 : FieldAt Tryz.prog 112 0 0 := ⟨_,_, Tryz.underlying112, rfl, rfl, 0, by kernel_rfl⟩
theorem F112_1 : FieldAt Tryz.prog 112 1 1 := ⟨_,_, Tryz.underlying112, rfl, rfl, 5, by kernel_rfl⟩
theorem B48 : Builds Tryz.prog 48 [(0,5), (5,1)] [.int .i64 0, .int .i64 0, .int .i64 0, .int .i64 0, .int .i64 0, .slice none 0 0] := Builds.mk fun _ => by kernel_rfl
theorem F112_2 : FieldAt Tryz.prog 112 2 7 := ⟨_,_, Tryz.underlying112, rfl, rfl, 0, by kernel_rfl⟩
theorem O149 : IsOne Tryz.prog 149 := ⟨⟨_, Tryz.underlying149, rfl⟩, by kernel_rfl⟩
theorem C125 : IsFn Tryz.prog 125 := ⟨_, Tryz.func125, by decide, rfl⟩
theorem S29 : IsSlice Tryz.prog 29 50 := Tryz.underlying29
theorem I50 : EInfo Tryz.prog 50 9 104 (.agg #[.int .i64 0, .slice none 0 0, .int .i64 0, .int .i64 0, .int .i64 0, .int .i64 0, .int .i64 0, .slice none 0 0, .int .i64 0]) := ⟨by kernel_rfl, by kernel_rfl, by unfold ZeroOf; kernel_rfl, rfl, by decide⟩
theorem C123 : IsFn Tryz.prog 123 := ⟨_, Tryz.func123, by decide, rfl⟩
structure EnP where
  t : Int
  l : List Cloud
  g : Grid
  vs : List Span
  lv : Int
structure EnM where
  t : Int
  l : List CP
  pc : Option Addr
  cc : Nat
  g : Grid
  vs : List Span
  pv : Option Addr
  cv : Nat
  lv : Int
def EnM.p (x : EnM) : EnP := ⟨x.t, x.l.map CP.c, x.g, x.vs, x.lv⟩
def EnM.cells (x : EnM) : List Value := [.int .i64 x.t, .slice x.pc x.l.length x.cc, .int .i64 x.g.x, .int .i64 x.g.y, .int .i64 x.g.size, .int .i64 x.g.wide, .int .i64 x.g.high, .slice x.pv x.vs.length x.cv, .int .i64 x.lv]
def EnM.res (x : EnM) : List Res := [own 81 7 x.pc x.cc (x.l.map CP.cells), bagD (x.l.flatMap cpR), own 77 2 x.pv x.cv (x.vs.map Span.cells)]
def gZ : Grid := ⟨0,0,0,0,0⟩
def LgM.enp : LgM → EnP
  | .st t _ _ l => ⟨t, l.map CP.c, gZ, [], 0⟩
  | .nt t g _ _ vs lv => ⟨t, [], g, vs, lv⟩
def EnP.bd (x : EnP) : Prop := x.l.length < 1000000000 ∧ (∀ c, c ∈ x.l → c.sure.length < 1000000000000 ∧ c.may.length < 1000000000000) ∧ x.vs.length ≤ 4096
def LgOk (o : OfM) : Prop := ∀ x, x ∈ o.lg → (LgM.enp x).bd
theorem lg_st {w : World} {o : OfM} (hh : Has w (offR o)) {t : Int} {p : Option Addr} {c : Nat} {l : List CP} (hx : LgM.st t p c l ∈ o.lg) (hb : (LgM.enp (.st t p c l)).bd) : Clouds w p l ∧ l.length < 1000000000 := by
  have h1 := (St.inv hh 9 _ rfl).1
  have m1 : own 81 7 p c (l.map CP.cells) ∈ o.lg.flatMap LgM.res := List.mem_flatMap.2 ⟨_, hx, .head _⟩
  have m2 : bagD (l.flatMap cpR) ∈ o.lg.flatMap LgM.res := List.mem_flatMap.2 ⟨_, hx, .tail _ (.head _)⟩
  have hb1 : l.length < 1000000000 := by have := hb.1; simpa [LgM.enp] using this
  refine ⟨⟨own_inv_rows (h1 _ m1), fun x hx => ?_⟩, hb1⟩
  have := cp_read (h1 _ m2) hx
  have hb2 := hb.2.1 x.c (List.mem_map_of_mem hx)
  exact ⟨this.1, this.2, hb2.1, hb2.2⟩
theorem lg_nt {w : World} {o : OfM} (hh : Has w (offR o)) {t lv : Int} {g : Grid} {p : Option Addr} {c : Nat} {vs : List Span} (hx : LgM.nt t g p c vs lv ∈ o.lg) (hb : (LgM.enp (.nt t g p c vs lv)).bd) : RO 2 Span.cells w p vs ∧ vs.length ≤ 4096 :=
  ⟨own_inv_rows ((St.inv hh 9 _ rfl).1 _ (List.mem_flatMap.2 ⟨_, hx, .head _⟩)), hb.2.2⟩
theorem St.bagEn {β : Bs} {L : List Res} {xs : List EnM} {x : EnM} {w : World} (h : St β (own 81 7 x.pc x.cc (x.l.map CP.cells) :: bagD (x.l.flatMap cpR) :: own 77 2 x.pv x.cv (x.vs.map Span.cells) :: bagD (xs.flatMap EnM.res) :: L) w) : St β (bagD ((xs ++ [x]).flatMap EnM.res) :: L) w := by
  rw [List.flatMap_append]
  have e : [x].flatMap EnM.res = [own 81 7 x.pc x.cc (x.l.map CP.cells)] ++ [bagD (x.l.flatMap cpR), own 77 2 x.pv x.cv (x.vs.map Span.cells)] := rfl
  rw [e, ← List.append_assoc]
  refine St.bagAdd2 (r := bagD (x.l.flatMap cpR)) (s := own 77 2 x.pv x.cv (x.vs.map Span.cells)) ?_
  have h1 := h.perm (L' := own 81 7 x.pc x.cc (x.l.map CP.cells) :: bagD (xs.flatMap EnM.res) :: (bagD (x.l.flatMap cpR) :: own 77 2 x.pv x.cv (x.vs.map Span.cells) :: L)) (List.Perm.cons _ (by
    exact (List.perm_middle (l₁ := [bagD (x.l.flatMap cpR), own 77 2 x.pv x.cv (x.vs.map Span.cells)]))))
  have h2 := St.bagAdd h1
  exact h2.perm ((List.perm_middle (l₁ := [bagD (x.l.flatMap cpR), own 77 2 x.pv x.cv (x.vs.map Span.cells)])).symm)
theorem entry_st (T : Int) (l : List CP) (p : Option Addr) (c : Nat) (w : World) (hn : l.length < 1000000000) (hl : Clouds w p l) :
 Calls Tryz.prog 125 #[.agg #[.int .i64 T, .slice p l.length c]] w fun e w' => ∃ y : EnM, y.p = ⟨T, l.map CP.c, gZ, [], 0⟩ ∧ e = .returned (.agg y.cells.toArray) ∧ St (bs w) y.res w' := by
 refine enter (vs := [_]) (env := [(0,_)]) Tryz.func125 rfl rfl rfl rfl ?_
 refine VC.q (VO.h rfl<|HO.box (C := #[_,_]) rfl rfl fun b1 => VO.h rfl<|HO.alloc (C := #[_,_,_,_,_,_,_,_,_]) Z50 rfl fun b2 => VO.n<|VC.seq<|VC.drawH [[0,1], [0,1], [0,1], [1]] [some 1, some 1, some 0, some 0, none, none, none] mixed (by kernel_rfl) rfl (LX.l (fun _ hJ => LO.fa (r := 0) F118_0 (.r rfl) rfl) rfl<|LX.l (fun _ hJ => LO.ld O3 (.r rfl) (fun _ hw => cells_at (hJ _ hw) 1 rfl ⟨_, rfl⟩)) rfl<|LX.l (fun _ hJ => LO.fa (r := 1) F118_1 (.r rfl) rfl) rfl<|LX.l (fun _ hJ => LO.ld O45 (.r rfl) (fun _ hw => cells_at (hJ _ hw) 1 rfl ⟨_, rfl⟩)) rfl<|LX.s<|LX.s<|LX.s<|LX.nil) (HX.s<|HX.s<|HX.s<|HX.s<|HX.h rfl<|HO.callx (xs := [_]) (vs := [_]) C37 ⟨(.r rfl), trivial⟩ (fun w hw => own_c l p c w hn (hl.keep w hw)) fun q hq => ⟨fun _ hw => hw.sel [2,3] rfl, HX.h rfl<|HO.lo (LO.bd (ps := [(_,_), (_,_)]) (vs := [(_,_), (_,_)]) (C := [_,_,_,_,_,_,_,_,_]) B50  ⟨(.r rfl), (.r rfl), trivial⟩ rfl ⟨_, [_], [_,_,_,_,_,_,_,_,_], rfl, rfl, rfl, rfl, ⟨_, [_], [_,_,_,_,_,_,_,_,_], rfl, rfl, rfl, rfl, rfl⟩⟩)<|⟨fun _ hw => hw.sel [2,3] rfl, HX.h0<|HO.st 2 (vs := [_,_,_,_,_,_,_,_,_]) (C' := [_,_,_,_,_,_,_,_,_]) (L' := [_,_,_,_]) N50 rfl rfl rfl rfl rfl rfl rfl rfl<|⟨fun _ hw => hw.sel [3] rfl, HX.nil ?_⟩⟩⟩))
 refine VE.seqN<|VC.ret (VE.res (vs := [_]) rfl ⟨RV.agg (vs := [_,_,_,_,_,_,_,_,_]) A50 rfl (cells_blk 2 rfl ⟨_, rfl⟩) rfl, trivial⟩ (fun w hw => ?_))
 exact ⟨⟨T, q.2, q.1.1, q.1.2, gZ, [], none, 0,0⟩, by unfold EnM.p; rw [hq], rfl, (St.ownNil (selK (L1 := [_,_]) [0,1] rfl rfl _ hw) 77 2).sel [1,2,0] rfl⟩
theorem entry_nt (T : Int) (gg : Grid) (p : Option Addr) (c : Nat) (vs : List Span) (lv : Int) (w : World) (hn : vs.length ≤ 4096) (hl : RO 2 Span.cells w p vs) :
 Calls Tryz.prog 123 #[.agg #[.int .i64 T, .int .i64 gg.x, .int .i64 gg.y, .int .i64 gg.size, .int .i64 gg.wide, .int .i64 gg.high, .slice p vs.length c, .int .i64 lv]] w fun e w' => ∃ y : EnM, y.p = ⟨T, [], gg, vs, lv⟩ ∧ e = .returned (.agg y.cells.toArray) ∧ St (bs w) y.res w' := by
 refine enter (vs := [_]) (env := [(0,_)]) Tryz.func123 rfl rfl rfl rfl ?_
 refine VC.q (VO.h rfl<|HO.box (C := #[_,_,_,_,_,_,_,_]) rfl rfl fun b1 => VO.h rfl<|HO.alloc (C := #[_,_,_,_,_,_,_,_,_]) Z50 rfl fun b2 => VO.n<|VC.seq<|VC.drawH [[0,1], [0,1], [0,1], [0,1], [1]] [some 2, some 2, some 1, some 1, some 1, some 0, some 0, some 0, none, none, some 2, some 2, none, none] mixed (by kernel_rfl) rfl (LX.l (fun _ hJ => LO.fa (r := 0) F112_0 (.r rfl) rfl) rfl<|LX.l (fun _ hJ => LO.ld O3 (.r rfl) (fun _ hw => cells_at (hJ _ hw) 1 rfl ⟨_, rfl⟩)) rfl<|LX.l (fun _ hJ => LO.fa (r := 1) F112_1 (.r rfl) rfl) rfl<|LX.l (fun _ hJ => LO.fa (r := 1) F48_0 (.r rfl) rfl) rfl<|LX.l (fun _ hJ => LO.lda (vs := [_,_,_,_,_]) A23 (.r rfl) (fun _ hw => cells_at (hJ _ hw) 1 rfl ⟨_, rfl⟩) rfl) rfl<|LX.l (fun _ hJ => LO.fa (r := 1) F112_1 (.r rfl) rfl) rfl<|LX.l (fun _ hJ => LO.fa (r := 6) F48_1 (.r rfl) rfl) rfl<|LX.l (fun _ hJ => LO.ld O46 (.r rfl) (fun _ hw => cells_at (hJ _ hw) 1 rfl ⟨_, rfl⟩)) rfl<|LX.s<|LX.s<|LX.l (fun _ hJ => LO.fa (r := 7) F112_2 (.r rfl) rfl) rfl<|LX.l (fun _ hJ => LO.ld O3 (.r rfl) (fun _ hw => cells_at (hJ _ hw) 1 rfl ⟨_, rfl⟩)) rfl<|LX.s<|LX.s<|LX.nil) (HX.s<|HX.s<|HX.s<|HX.s<|HX.s<|HX.s<|HX.s<|HX.s<|HX.h rfl<|HO.callx (xs := [_]) (vs := [_]) C33 ⟨(.r rfl), trivial⟩ (fun w hw => CloneS_c vs p c w (by omega) (hl.keep w hw)) fun q _ => ⟨fun _ hw => hw.sel [1,2] rfl, HX.h rfl<|HO.lo (LO.bd (ps := [(_,_), (_,_)]) (vs := [(_,_), (_,_)]) (C := [_,_,_,_,_,_]) B48  ⟨(.r rfl), (.r rfl), trivial⟩ rfl ⟨_, [_,_,_,_,_], [_,_,_,_,_,_], rfl, rfl, rfl, rfl, ⟨_, [_], [_,_,_,_,_,_], rfl, rfl, rfl, rfl, rfl⟩⟩)<|⟨fun _ hw => hw.sel [1,2] rfl, HX.s<|HX.s<|HX.h rfl<|HO.lo (LO.bd (ps := [(_,_), (_,_), (_,_)]) (vs := [(_,_), (_,_), (_,_)]) (C := [_,_,_,_,_,_,_,_,_]) B50  ⟨(.r rfl), (.r rfl), (.r rfl), trivial⟩ rfl ⟨_, [_], [_,_,_,_,_,_,_,_,_], rfl, rfl, rfl, rfl, ⟨_, [_,_,_,_,_,_], [_,_,_,_,_,_,_,_,_], rfl, rfl, rfl, rfl, ⟨_, [_], [_,_,_,_,_,_,_,_,_], rfl, rfl, rfl, rfl, rfl⟩⟩⟩)<|⟨fun _ hw => hw.sel [1,2] rfl, HX.h0<|HO.st 1 (vs := [_,_,_,_,_,_,_,_,_]) (C' := [_,_,_,_,_,_,_,_,_]) (L' := [_,_,_]) N50 rfl rfl rfl rfl rfl rfl rfl rfl<|⟨fun _ hw => hw.sel [2] rfl, HX.nil ?_⟩⟩⟩⟩))
 refine VE.seqN<|VC.ret (VE.res (vs := [_]) rfl ⟨RV.agg (vs := [_,_,_,_,_,_,_,_,_]) A50 rfl (cells_blk 1 rfl ⟨_, rfl⟩) rfl, trivial⟩ (fun w hw => ?_))
 exact ⟨⟨T, [], none, 0, gg, vs, q.1, q.2, lv⟩, rfl, rfl, (St.ownNil (St.bagD (Rs := []) (selK (L1 := [_]) [0] rfl rfl _ hw)) 81 7).sel [0,1,2] rfl⟩
theorem Log_c (o : OfM) (w : World) (hn : o.rc.length < 1000000) (hp : 0 < o.rc.length) (hlg : o.lg.length ≤ 256) (hok : LgOk o) (hh : Has w (offR o)) :
 Calls Tryz.prog 17 #[ptrN o.b] w fun e w' => ∃ x : (Option Addr × Nat) × List EnM, x.2.map EnM.p = o.lg.map LgM.enp ∧ e = .returned (.slice x.1.1 x.2.length x.1.2) ∧ St (bs w) [own 50 9 x.1.1 x.1.2 (x.2.map EnM.cells), bagD (x.2.flatMap EnM.res)] w' := by
 have hlr : RO 1 LgM.val w o.pl o.lg := RO.of_own hh 8 rfl
 refine enter (vs := [_]) (env := [(0,_)]) Tryz.func17 rfl rfl rfl rfl ?_
 refine VC.q (VO.a rfl rfl<|VO.n<|VC.seq<|VC.q (VO.m rfl rfl<|VO.l (LO.call (xs := [_]) (vs := [_]) C30 ⟨(.r rfl), trivial⟩ (fun w hw => nothing_c o w (by omega) (off_cells (hh.keep hw)))) rfl<|VO.n<|VC.cond rfl (fun h7 => ?_) (fun h7 => ?_)))
 · (exfalso; omega)
 ·
  refine VC.skip (VE.seqN<|VC.q (VO.a rfl rfl<|VO.n<|VC.seq<|VC.q (VO.m rfl rfl<|VO.l (LO.nc (.r rfl)) rfl<|VO.f (r := 12) F92_4 rfl rfl rfl<|VO.l (LO.ld O90 (.r rfl) (cells_keep (sub_cells (off := 12) (off_cells hh) ⟨_, rfl⟩))) rfl<|VO.l (LO.len S90 (.r rfl) rfl) rfl<|VO.m rfl rfl<|VO.n<|VC.block<|VC.loopK (α := Nat × (List EnM) × (Option Addr) × Nat) 0 (fun gx => [(3, .slice gx.2.2.1 gx.2.1.length gx.2.2.2), (13, .int .i64 (gx.1 : Nat))]) [(11,_), (12,_)] (fun gx => [own 50 9 gx.2.2.1 gx.2.2.2 (gx.2.1.map EnM.cells), bagD (gx.2.1.flatMap EnM.res)]) (fun gx => gx.1 ≤ o.lg.length ∧ gx.2.1.map EnM.p = (o.lg.take gx.1).map LgM.enp) (fun gx => o.lg.length - gx.1) (0, [], none, 0) (by exact ⟨Nat.zero_le _, rfl⟩) (.c4 rfl rfl rfl rfl .nil) (fun _ h => ((St.bagD (Rs := []) h).ownNil 50 9)) ?_)))
  rintro ⟨j, xs, px_, cx_⟩ ⟨hj, hX⟩
  show VC _ _ _ _ _ ([(3, .slice px_ xs.length cx_), (13, .int .i64 (j : Nat))] ++ _) ([own 50 9 px_ cx_ (xs.map EnM.cells), bagD (xs.flatMap EnM.res)] ++ _) _ _
  dsimp only at hj hX
  have hxl : xs.length = j := by rw [← List.length_map (f := EnM.p), hX]; simp; omega
  refine VC.q (VO.t rfl rfl rfl<|VO.n<|VC.seq<|VC.cond rfl (fun h14 => ?_) (fun h14 => ?_))
  ·
   obtain ⟨x, hr⟩ : ∃ x, o.lg[j]? = some x := ⟨_, List.getElem?_eq_getElem (by omega)⟩
   have hrm : x ∈ o.lg := List.mem_of_getElem? hr
   have htk : o.lg.take (j + 1) = o.lg.take j ++ [x] := by rw [List.take_add_one, hr]; rfl
   refine VC.skip (VE.seqN<|VC.seq<|VC.block<|VC.seq ?_)
   rcases x with ⟨T, pc, cc, l⟩ | ⟨T, gg, pv, cv, vs, lv⟩
   ·
    have hb := hok _ hrm
    have hrd := fun {L : List Res} {v : World} (hv : St (bs w) L v) => lg_st (hh.keep hv) hrm hb
    refine VC.reg (VO.l (LO.ixs S90 N149 hlr.sm (.r rfl) (.r rfl) rfl (by omega)) rfl<|VO.l (LO.ld (v := .iface 118 (.agg #[.int .i64 T, .slice pc l.length cc])) O149 (.r rfl) (fun w hw => cells_part (off := 0) ((fun w2 hw2 => (hlr.keep w2 hw2).cells _ _ (by rw [List.getElem?_map, hr]; rfl)) w hw) ⟨_, rfl⟩)) rfl<|VO.a rfl rfl<|VO.n<|VC.reg (VO.m rfl rfl<|VO.m rfl rfl<|VO.h rfl<|HO.invx (xs := []) (vs := []) (.r rfl) (fun _ => by kernel_rfl) C125 trivial (fun w hw => entry_st T l pc cc w (hrd hw).2 (hrd hw).1) fun y hy => VO.h rfl<|HO.bs (ps := [(_,_)]) (vs := [(_,_)]) (Z := [_,_,_,_,_,_,_,_,_]) (C := [_,_,_,_,_,_,_,_,_]) S29 Z50 N50 ⟨(.r rfl), trivial⟩ rfl rfl rfl rfl ⟨_, [_,_,_,_,_,_,_,_,_], [_,_,_,_,_,_,_,_,_], rfl, rfl, rfl, rfl, rfl⟩ fun b6 => VO.h rfl<|HO.appT (y) 4 0 (fun R => [_,_,_,_, R,_]) S29 S29 I50 (.r rfl) (.r rfl) rfl rfl rfl rfl rfl rfl rfl (fun _ => rfl) rfl (by omega) fun p4 c4 => VO.h rfl<|HO.lo (LO.as (.r rfl))<|VO.nil<|VE.inN (VE.seqN<|VC.reg (VO.p rfl rfl (by omega) (by omega) rfl<|VO.m rfl rfl<|VO.nil<|VE.thenN fun a w ha hw => ⟨(j + 1, xs ++ [y], p4, c4), ⟨by dsimp only; omega, by dsimp only; rw [htk, List.map_append, List.map_append, hX]; show _ ++ [y.p] = _; rw [hy]; rfl⟩, (by dsimp only; omega), ha.sub (.c4 rfl rfl rfl rfl .nil), (by exact (St.bagEn (x := y) (selK (L1 := [_,_,_,_,_]) [1,2,3,5,4] rfl rfl _ hw)).sel [1,0] rfl)⟩))))
   ·
    have hb := hok _ hrm
    have hrd := fun {L : List Res} {v : World} (hv : St (bs w) L v) => lg_nt (hh.keep hv) hrm hb
    refine VC.reg (VO.l (LO.ixs S90 N149 hlr.sm (.r rfl) (.r rfl) rfl (by omega)) rfl<|VO.l (LO.ld (v := .iface 112 (.agg #[.int .i64 T, .int .i64 gg.x, .int .i64 gg.y, .int .i64 gg.size, .int .i64 gg.wide, .int .i64 gg.high, .slice pv vs.length cv, .int .i64 lv])) O149 (.r rfl) (fun w hw => cells_part (off := 0) ((fun w2 hw2 => (hlr.keep w2 hw2).cells _ _ (by rw [List.getElem?_map, hr]; rfl)) w hw) ⟨_, rfl⟩)) rfl<|VO.a rfl rfl<|VO.n<|VC.reg (VO.m rfl rfl<|VO.m rfl rfl<|VO.h rfl<|HO.invx (xs := []) (vs := []) (.r rfl) (fun _ => by kernel_rfl) C123 trivial (fun w hw => entry_nt T gg pv cv vs lv w (hrd hw).2 (hrd hw).1) fun y hy => VO.h rfl<|HO.bs (ps := [(_,_)]) (vs := [(_,_)]) (Z := [_,_,_,_,_,_,_,_,_]) (C := [_,_,_,_,_,_,_,_,_]) S29 Z50 N50 ⟨(.r rfl), trivial⟩ rfl rfl rfl rfl ⟨_, [_,_,_,_,_,_,_,_,_], [_,_,_,_,_,_,_,_,_], rfl, rfl, rfl, rfl, rfl⟩ fun b10 => VO.h rfl<|HO.appT (y) 4 0 (fun R => [_,_,_,_, R,_]) S29 S29 I50 (.r rfl) (.r rfl) rfl rfl rfl rfl rfl rfl rfl (fun _ => rfl) rfl (by omega) fun p4 c4 => VO.h rfl<|HO.lo (LO.as (.r rfl))<|VO.nil<|VE.inN (VE.seqN<|VC.reg (VO.p rfl rfl (by omega) (by omega) rfl<|VO.m rfl rfl<|VO.nil<|VE.thenN fun a w ha hw => ⟨(j + 1, xs ++ [y], p4, c4), ⟨by dsimp only; omega, by dsimp only; rw [htk, List.map_append, List.map_append, hX]; show _ ++ [y.p] = _; rw [hy]; rfl⟩, (by dsimp only; omega), ha.sub (.c4 rfl rfl rfl rfl .nil), (by exact (St.bagEn (x := y) (selK (L1 := [_,_,_,_,_]) [1,2,3,5,4] rfl rfl _ hw)).sel [1,0] rfl)⟩))))
  ·
   refine VC.exit (VE.thenX (VE.thenX (VE.inX (VE.seqN<|VC.q (VO.m rfl rfl<|VO.a rfl rfl<|VO.n<|VC.ret (VE.s rfl rfl (fun w hw => ?_)))))))
   have hj2 : j = o.lg.length := by omega
   exact ⟨((px_, cx_), xs), by rw [hX, hj2, List.take_length], rfl, hw.sel [0,1] rfl⟩
theorem C11 : IsFn Tryz.prog 11 := ⟨_, Tryz.func11, by decide, rfl⟩
def zEn : EnP := ⟨0, [], gZ, [], 0⟩
def isSt (x : EnP) : Bool := decide (x.lv = 0)
def stP (s : Sp) (l : List EnP) : List Stp := (l.filter isSt).map fun x => ⟨x.t, thsP s x.l⟩
def tsP (l : List EnP) : List Int := (l.filter isSt).map EnP.t
def enE (s : Sp) (pre : List EnP) (x : EnP) : Int :=
  if x.lv = 0 then (if ¬ (0 ≤ x.t ∧ x.t ≤ 4294967296) then 3 else if 0 < (tsP pre).length ∧ x.t ≤ lastI (tsP pre) then 17 else if 256 ≤ pre.length then 13 else lookE s.g x.l)
  else (if ¬ (0 ≤ x.t ∧ x.t ≤ 4294967296) then 3 else if 256 ≤ pre.length then 13 else if fieldE 1073741824 ⟨x.g, x.vs⟩ ≠ 0 then fieldE 1073741824 ⟨x.g, x.vs⟩ else if ¬ ([x.g.x, x.g.y, x.g.size, x.g.wide, x.g.high] = [s.g.x, s.g.y, s.g.size, s.g.wide, s.g.high]) then 11 else if ¬ (1 ≤ x.lv ∧ x.lv ≤ 1073741824) then 3 else 0)
def enEv (s : Sp) (pre : List EnP) (x : EnP) : List Ev := if x.lv = 0 then evF s.hold s.regs.length (stP s pre) ⟨x.t, thsP s x.l⟩ else []
def evP (s : Sp) (l : List EnP) : Nat → List Ev
  | 0 => []
  | k + 1 => evP s l k ++ enEv s (l.take k) (l.getD k zEn)
def EnP.canon (x : EnP) : EnP := if x.lv = 0 then ⟨x.t, x.l, gZ, [], 0⟩ else ⟨x.t, [], x.g, x.vs, x.lv⟩
structure PlA (s : Sp) (l : List EnP) (o : OfM) (n : Nat) : Prop where
  sim : SimO o (stP s (l.take n))
  sp : o.sp = s
  lg : o.lg.map LgM.enp = (l.take n).map EnP.canon
  ok : LgOk o
theorem stP_y {s : Sp} {l : List EnP} {x : EnP} (h : x.lv = 0) : stP s (l ++ [x]) = stP s l ++ [⟨x.t, thsP s x.l⟩] := by
  unfold stP; rw [List.filter_append, List.map_append]; simp [isSt, h]
theorem stP_n {s : Sp} {l : List EnP} {x : EnP} (h : ¬ x.lv = 0) : stP s (l ++ [x]) = stP s l := by
  unfold stP; rw [List.filter_append]; simp [isSt, h]
theorem PlA.ts {s : Sp} {l : List EnP} {o : OfM} {n : Nat} (h : PlA s l o n) : o.ts = tsP (l.take n) := by
  rw [h.sim.ts]; unfold stP tsP; rw [List.map_map]; rfl
theorem PlA.len {s : Sp} {l : List EnP} {o : OfM} {n : Nat} (h : PlA s l o n) : o.lg.length = (l.take n).length := by
  have := congrArg List.length h.lg
  simpa using this
theorem PlA.g {s : Sp} {l : List EnP} {o : OfM} {n : Nat} (h : PlA s l o n) : o.g = s.g := congrArg Sp.g h.sp
theorem PlA.st {s : Sp} {l : List EnP} {o : OfM} {n : Nat} {x : EnP} (h : PlA s l o n) (hx : x.lv = 0) : stpE o x.t x.l = enE s (l.take n) x := by
  unfold stpE enE
  rw [if_pos hx, h.ts, h.len, h.g]
theorem PlA.nt {s : Sp} {l : List EnP} {o : OfM} {n : Nat} {x : EnP} (h : PlA s l o n) (hx : ¬ x.lv = 0) : noteE o x.t ⟨x.g, x.vs⟩ x.lv = enE s (l.take n) x := by
  unfold noteE enE
  rw [if_neg hx, h.len, h.g]
theorem take_en {l : List EnP} {n : Nat} {x : EnP} (hx : l[n]? = some x) : l.take (n + 1) = l.take n ++ [x] := by rw [List.take_add_one, hx]; rfl
theorem note_sim {o : OfM} {st : List Stp} {x : LgM} {p : Option Addr} {c : Nat} (h : SimO o st) : SimO { o with lg := o.lg ++ [x], pl := p, cl := c } st := by
  refine ⟨⟨h.wf.spec, h.wf.len, h.wf.idx, h.wf.pix, h.wf.rcb, h.wf.lvb, h.wf.op, h.wf.cs, ?_⟩, h.ts, h.inc, h.tb, h.rcs, h.cs⟩
  have := h.wf.ts
  show o.ts.length ≤ (o.lg ++ [x]).length
  rw [List.length_append]; simp; omega
theorem PlA.note {s : Sp} {l : List EnP} {o : OfM} {n : Nat} {x : EnP} {p q : Option Addr} {c d : Nat} (h : PlA s l o n) (hx : l[n]? = some x) (hlv : ¬ x.lv = 0) (hb : x.vs.length ≤ 4096) : PlA s l { o with lg := o.lg ++ [LgM.nt x.t x.g p c x.vs x.lv], pl := q, cl := d } (n + 1) := by
  refine ⟨by rw [take_en hx, stP_n hlv]; exact note_sim h.sim, h.sp, ?_, ?_⟩
  · show (o.lg ++ [_]).map LgM.enp = _
    rw [List.map_append, h.lg, take_en hx, List.map_append]
    congr 1
    show [_] = [x.canon]
    unfold EnP.canon
    rw [if_neg hlv]; rfl
  · intro y hy
    rcases List.mem_append.1 hy with z | z
    · exact h.ok y z
    · simp at z; subst z
      exact ⟨by simp [LgM.enp], fun c hc => by simp [LgM.enp] at hc, hb⟩
theorem PlA.step {s : Sp} {l : List EnP} {o : OfM} {n : Nat} {x : EnP} {y : StepY} (h : PlA s l o n) (hx : l[n]? = some x) (hlv : x.lv = 0) (hb : x.l.length < 1000000000 ∧ ∀ c, c ∈ x.l → c.sure.length < 1000000000000 ∧ c.may.length < 1000000000000) (hp : StepP o x.t x.l y) (hs : SimO (y.o o x.t) (stP s (l.take n) ++ [⟨x.t, thsP o.sp x.l⟩])) : PlA s l (y.o o x.t) (n + 1) := by
  obtain ⟨_, p, c, m, e1, e2⟩ := hp
  refine ⟨by rw [take_en hx, stP_y hlv, ← h.sp]; have := hs; rw [h.sp] at this ⊢; exact this, h.sp, ?_, ?_⟩
  · show (o.lg ++ [y.lg]).map LgM.enp = _
    rw [List.map_append, h.lg, take_en hx, List.map_append, e1]
    congr 1
    show [EnP.mk x.t (m.map CP.c) gZ [] 0] = [x.canon]
    unfold EnP.canon
    rw [if_pos hlv, e2]
  · intro z hz
    rcases List.mem_append.1 hz with q | q
    · exact h.ok z q
    · simp at q; subst q
      rw [e1]
      refine ⟨?_, ?_, Nat.zero_le _⟩
      · show (m.map CP.c).length < _; rw [e2]; exact hb.1
      · intro c hc
        exact hb.2 c (by rw [← e2]; exact hc)
structure LogM (w : World) (p : Option Addr) (l : List EnM) : Prop where
  rows : RO 9 EnM.cells w p l
  ok : ∀ x, x ∈ l → Clouds w x.pc x.l ∧ Spans w x.pv x.vs ∧ x.l.length < 1000000000
theorem LogM.keep {w0 w : World} {L : List Res} {p : Option Addr} {l : List EnM} (h : LogM w0 p l) (hw : St (bs w0) L w) : LogM w p l := ⟨h.rows.keep w hw, fun x hx => ⟨(h.ok x hx).1.keep w hw, (h.ok x hx).2.1.keep w hw, (h.ok x hx).2.2⟩⟩
theorem old_in {R L rest : List Res} {w0 w v : World} (h : St (bs w0) (R ++ rest) w) (hs : St ⟨w, fpL R⟩ L v) : St (bs w0) (L ++ rest) v := h.callG (fun k hk => hk) hs
theorem field_len {g : Grid} {vs : List Span} (h : fieldE 1073741824 ⟨g, vs⟩ = 0) : vs.length ≤ 4096 := by
  unfold fieldE at h
  split at h
  · omega
  · rename_i q
    have z := area_bd (Classical.not_not.1 q)
    split at h
    · omega
    · rename_i q2
      have q3 := Classical.not_not.1 q2
      dsimp only at q3 z
      omega
structure PlY where
  o : OfM
  es : List Ev
  pe : Option Addr
  ce : Nat
theorem add_cl {o : OfM} {y : StepY} {T : Int} {l : List Cloud} (h : StepP o T l y) : y.es.length ≤ o.rc.length := (run_keep h.1).2.2.1
theorem play_st (o : OfM) (st : List Stp) (T : Int) (m : List CP) (pm : Option Addr) (cm : Nat) (w : World) (hh : Has w (offR o)) (hcl : ∀ {L : List Res} {v : World}, St ⟨w, fpL (offR o)⟩ L v → Clouds v pm m) (hcn : m.length < 1000000000) (h : SimO o st) (hok : stpE o T (m.map CP.c) = 0) :
 Calls Tryz.prog 126 #[.agg #[.int .i64 T, .slice pm m.length cm], ptrN o.b] w fun e w' => ∃ y : StepY, (StepP o T (m.map CP.c) y ∧ SimO (y.o o T) (st ++ [⟨T, thsP o.sp (m.map CP.c)⟩]) ∧ y.es = evF o.hold o.rc.length st ⟨T, thsP o.sp (m.map CP.c)⟩) ∧ e = .returned (.tuple #[.slice y.pe y.es.length y.ce, .int .i64 0]) ∧ St ⟨w, fpL (offR o)⟩ (own 84 7 y.pe y.ce (y.es.map evC) :: offR (y.o o T)) w' := by
 obtain ⟨hk1, hk2, hk3, hk4⟩ := stepOk hok
 refine enterO (vs := [_,_]) (env := [(0,_), (1,_)]) hh.enter Tryz.func126 rfl rfl rfl rfl ?_
 refine VC.q (VO.h rfl<|HO.box (C := #[_,_]) rfl rfl fun b11 => VO.a rfl rfl<|VO.a rfl rfl<|VO.n<|VC.q (VO.m rfl rfl<|VO.f (r := 0) F118_0 rfl rfl rfl<|VO.c 0 O3 rfl rfl ⟨_, rfl⟩ rfl<|VO.f (r := 1) F118_1 rfl rfl rfl<|VO.c 0 O45 rfl rfl ⟨_, rfl⟩ rfl<|VO.h rfl<|HO.callP (first := []) (cap := []) (xs := [_,_,_]) (vs := [_,_,_]) [_,_,_,_,_,_,_,_,_,_] [_] (selK (L1 := [_,_,_,_,_,_,_,_,_,_] ++ [_]) [1,2,3,4,5,6,7,8,9,10,0] rfl rfl) (.r rfl) C13 ⟨(.r rfl), (.r rfl), (.r rfl), trivial⟩ (fun w2 hw hh2 => Step_s o st T m pm cm w2 hh2 (fun hs => hcl (St.callG (L2 := [_]) (selK (L1 := offR o ++ [_]) [1,2,3,4,5,6,7,8,9,10,0] rfl rfl _ hw) (fun k hk => hk) hs)) hcn h hk1.1 hk1.2 hk2 hk3 hk4) fun y hy => VO.h rfl<|HO.lo (LO.ex (.r rfl) rfl)<|VO.h rfl<|HO.lo (LO.ex (.r rfl) rfl)<|VO.h rfl<|HO.lo (LO.as (.r rfl))<|VO.h rfl<|HO.lo (LO.as (.r rfl))<|VO.n<|VC.ret (VE.res (vs := [_,_]) rfl ⟨rfl, rfl, trivial⟩ (fun w hw => ?_))))
 exact ⟨y, hy, rfl, selK (L1 := _ :: offR (y.o o T)) [0,1,2,3,4,5,6,7,8,9,10] rfl rfl _ hw⟩
theorem play_nt (o : OfM) (T : Int) (f : Field) (pv : Option Addr) (cv : Nat) (lv : Int) (w : World) (hn : 0 < o.rc.length ∧ o.rc.length < 1000000) (hh : Has w (offR o)) (hv : ∀ {L : List Res} {v : World}, St ⟨w, fpL (offR o)⟩ L v → Spans v pv f.vals) (hok : noteE o T f lv = 0) :
 Calls Tryz.prog 124 #[.agg #[.int .i64 T, .int .i64 f.g.x, .int .i64 f.g.y, .int .i64 f.g.size, .int .i64 f.g.wide, .int .i64 f.g.high, .slice pv f.vals.length cv, .int .i64 lv], ptrN o.b] w fun e w' => ∃ y : (Option Addr × Nat) × (Option Addr × Nat), True ∧ e = .returned (.tuple #[.slice none 0 0, .int .i64 0]) ∧ St ⟨w, fpL (offR o)⟩ (offR { o with lg := o.lg ++ [LgM.nt T f.g y.1.1 y.1.2 f.vals lv], pl := y.2.1, cl := y.2.2 }) w' := by
 refine enterO (vs := [_,_]) (env := [(0,_), (1,_)]) hh.enter Tryz.func124 rfl rfl rfl rfl ?_
 refine VC.q (VO.h rfl<|HO.box (C := #[_,_,_,_,_,_,_,_]) rfl rfl fun b11 => VO.a rfl rfl<|VO.a rfl rfl<|VO.n<|VC.q (VO.m rfl rfl<|VO.f (r := 0) F112_0 rfl rfl rfl<|VO.c 0 O3 rfl rfl ⟨_, rfl⟩ rfl<|VO.f (r := 1) F112_1 rfl rfl rfl<|VO.l (LO.lda (vs := [_,_,_,_,_,_]) A48 (.r rfl) (cells_blk 0 rfl ⟨_, rfl⟩) rfl) rfl<|VO.f (r := 7) F112_2 rfl rfl rfl<|VO.c 0 O3 rfl rfl ⟨_, rfl⟩ rfl<|VO.h rfl<|HO.callP (first := []) (cap := []) (xs := [_,_,_,_]) (vs := [_,_,_,_]) [_,_,_,_,_,_,_,_,_,_] [_] (selK (L1 := [_,_,_,_,_,_,_,_,_,_] ++ [_]) [1,2,3,4,5,6,7,8,9,10,0] rfl rfl) (.r rfl) C11 ⟨(.r rfl), (.r rfl), (.r rfl), (.r rfl), trivial⟩ (fun w2 hw hh2 => Note_c o T f pv cv lv w2 hn hh2 (fun hs => hv (St.callG (L2 := [_]) (selK (L1 := offR o ++ [_]) [1,2,3,4,5,6,7,8,9,10,0] rfl rfl _ hw) (fun k hk => hk) hs)) hok) fun y _ => VO.a rfl rfl<|VO.h rfl<|HO.lo (LO.as (.r rfl))<|VO.n<|VC.ret (VE.res (vs := [_,_]) rfl ⟨rfl, rfl, trivial⟩ (fun w hw => ?_))))
 exact ⟨y, trivial, rfl, selK (L1 := [_,_,_,_,_,_,_,_,_,_]) [0,1,2,3,4,5,6,7,8,9] rfl rfl _ hw⟩
theorem F50_0 : FieldAt Tryz.prog 50 0 0 := ⟨_,_, Tryz.underlying50, rfl, rfl, 0, by kernel_rfl⟩
theorem F50_2 : FieldAt Tryz.prog 50 2 2 := ⟨_,_, Tryz.underlying50, rfl, rfl, 5, by kernel_rfl⟩
theorem F50_3 : FieldAt Tryz.prog 50 3 8 := ⟨_,_, Tryz.underlying50, rfl, rfl, 0, by kernel_rfl⟩
theorem F50_1 : FieldAt Tryz.prog 50 1 1 := ⟨_,_, Tryz.underlying50, rfl, rfl, 0, by kernel_rfl⟩
theorem C126 : IsFn Tryz.prog 126 := ⟨_, Tryz.func126, by decide, rfl⟩
theorem C124 : IsFn Tryz.prog 124 := ⟨_, Tryz.func124, by decide, rfl⟩
theorem spec_new {g : Grid} {rgs : List RG} {a b d : Int} {s : Sp} {o : OfM} {l : List EnP} (hn : NewP g rgs a b d o) (hse : s = ⟨g, rgs.map RG.r, a, b, d⟩) (hs : specE s = 0) (hp : ∀ x, x ∈ rgs → x.r.pix.length < 1000000000000) : PlA s l o 0 := by
  have h1 := sim_new hn (by rw [← hse]; exact hs) hp
  obtain ⟨e1, e2, e3, e4, e5, e6, e7,_, e8,_⟩ := hn
  exact ⟨h1, by rw [hse]; unfold OfM.sp; rw [e1, e2, e3, e4, e8], by rw [e7]; rfl, fun x hx => by rw [e7] at hx; cases hx⟩
theorem RO.nilE {α : Type} {z : Nat} {f : α → List Value} {w : World} : Go.SL.Rows w z none (([] : List α).map f) := ⟨fun j r h => by simp at h, fun _ => rfl, fun _ a ha => by cases ha⟩
theorem en_bd {w : World} {x : EnM} {s : Sp} {pre : List EnP} (h : Clouds w x.pc x.l ∧ Spans w x.pv x.vs ∧ x.l.length < 1000000000) (he : enE s pre x.p = 0) : x.lv = 0 ∨ x.vs.length ≤ 4096 := by
  by_cases q : x.lv = 0
  · exact .inl q
  · right
    unfold enE EnM.p at he
    dsimp only at he
    rw [if_neg q] at he
    split at he
    · omega
    · split at he
      · omega
      · split at he
        · rename_i z; exact absurd he z
        · rename_i z; exact field_len (Classical.not_not.1 z)
theorem cl_bd {w : World} {x : EnM} (h : Clouds w x.pc x.l ∧ Spans w x.pv x.vs ∧ x.l.length < 1000000000) : x.p.l.length < 1000000000 ∧ ∀ c, c ∈ x.p.l → c.sure.length < 1000000000000 ∧ c.may.length < 1000000000000 := by
  refine ⟨by show (x.l.map CP.c).length < _; rw [List.length_map]; exact h.2.2, fun c hc => ?_⟩
  obtain ⟨y, hy, e⟩ := List.mem_map.1 (show c ∈ x.l.map CP.c from hc)
  have := (h.1.ok y hy).2.2
  rw [← e]; exact this
theorem evP_st {s : Sp} {l : List EnP} {o : OfM} {n : Nat} {x : EnP} (h : PlA s l o n) (hx : l[n]? = some x) (hlv : x.lv = 0) : evP s l (n + 1) = evP s l n ++ evF o.hold o.rc.length (stP s (l.take n)) ⟨x.t, thsP o.sp x.l⟩ := by
  show evP s l n ++ enEv s (l.take n) (l.getD n zEn) = _
  rw [getD_of hx]
  unfold enEv
  rw [if_pos hlv, n_eq h.sim.wf, h.sp]
  congr 3
  rw [← h.sp]; rfl
theorem evP_nt {s : Sp} {l : List EnP} {n : Nat} {x : EnP} (hx : l[n]? = some x) (hlv : ¬ x.lv = 0) : evP s l (n + 1) = evP s l n ++ [] := by
  show evP s l n ++ enEv s (l.take n) (l.getD n zEn) = _
  rw [getD_of hx]
  unfold enEv
  rw [if_neg hlv]
theorem C28 : IsFn Tryz.prog 28 := ⟨_, Tryz.func28, by decide, rfl⟩
theorem A40 : IsAgg Tryz.prog 40 3 := ⟨⟨_, Tryz.underlying40, rfl⟩, by kernel_rfl⟩
theorem B103 : Builds Tryz.prog 103 [(0,9), (9,1), (10,1), (11,1)] [.int .i64 0, .int .i64 0, .int .i64 0, .int .i64 0, .int .i64 0, .slice none 0 0, .int .i64 0, .int .i64 0, .int .i64 0, .slice none 0 0, .slice none 0 0, .slice none 0 0] := Builds.mk fun _ => by kernel_rfl
abbrev rfC (g : Grid) (p : Option Addr) (n c : Nat) (a b d : Int) : List Value := [.int .i64 g.x, .int .i64 g.y, .int .i64 g.size, .int .i64 g.wide, .int .i64 g.high, .slice p n c, .int .i64 a, .int .i64 b, .int .i64 d, .slice none 0 0, .slice none 0 0, .slice none 0 0]
theorem rNew_e (g : Grid) (l : List RG) (pl : Option Addr) (cl : Nat) (a b d : Int) (w : World) (hll : l.length < 1000000000000) (hl : Regs w pl l) (hs : ¬ specE ⟨g, l.map RG.r, a, b, d⟩ = 0) :
 Calls Tryz.prog 7 #[specV g pl l.length cl a b d] w fun e w' => e = .returned (.tuple #[.pointer none, .int .i64 (specE ⟨g, l.map RG.r, a, b, d⟩)]) ∧ St (bs w) [] w' := by
 refine enter (vs := [_]) (env := [(0,_)]) Tryz.func7 rfl rfl rfl rfl ?_
 refine VC.q (VO.h rfl<|HO.box (C := #[_,_,_,_,_,_,_,_,_]) rfl rfl fun b1 => VO.a rfl rfl<|VO.a rfl rfl<|VO.n<|VC.q (VO.l (LO.lda (vs := [_,_,_,_,_,_,_,_,_]) A42 (.r rfl) (cells_blk 0 rfl ⟨_, rfl⟩) rfl) rfl<|VO.l (LO.call (xs := [_]) (vs := [_]) C28 ⟨(.r rfl), trivial⟩ (fun w hw => rCheck_c g l pl cl a b d w hll (hl.keep hw))) rfl<|VO.a rfl rfl<|VO.n<|VC.seq<|VC.q (VO.m rfl rfl<|VO.u rfl rfl rfl<|VO.n<|VC.cond rfl (fun h10 => ?_) (fun h10 => ?_))))
 ·
  refine VC.q (VO.m rfl rfl<|VO.a rfl rfl<|VO.a rfl rfl<|VO.n<|VC.ret (VE.thenR (VE.res (vs := [_,_]) rfl ⟨rfl, rfl, trivial⟩ (fun w hw => ?_))))
  exact ⟨rfl, hw.nil⟩
 · (exfalso; exact h10 hs)
theorem rNew_c (g : Grid) (l : List RG) (pl : Option Addr) (cl : Nat) (a b d : Int) (w : World) (hll : l.length < 1000000000000) (hl : Regs w pl l) (hs : specE ⟨g, l.map RG.r, a, b, d⟩ = 0) :
 Calls Tryz.prog 7 #[specV g pl l.length cl a b d] w fun e w' => ∃ y : Nat × List RG × Option Addr × Nat, y.2.1.map RG.r = l.map RG.r ∧ e = .returned (.tuple #[ptrN y.1, .int .i64 0]) ∧ St (bs w) [blk y.1 (.cells (rfC g y.2.2.1 y.2.1.length y.2.2.2 a b d).toArray 103), own 100 2 y.2.2.1 y.2.2.2 (y.2.1.map RG.cells), bagD (y.2.1.map pixR)] w' := by
 have hok := specOk hs
 obtain ⟨hgo, hN1, hN2, hpx, hru⟩ := hok
 dsimp only at hN1
 rw [List.length_map] at hN1
 refine enter (vs := [_]) (env := [(0,_)]) Tryz.func7 rfl rfl rfl rfl ?_
 refine VC.q (VO.h rfl<|HO.box (C := #[_,_,_,_,_,_,_,_,_]) rfl rfl fun b1 => VO.a rfl rfl<|VO.a rfl rfl<|VO.n<|VC.q (VO.l (LO.lda (vs := [_,_,_,_,_,_,_,_,_]) A42 (.r rfl) (cells_blk 0 rfl ⟨_, rfl⟩) rfl) rfl<|VO.l (LO.call (xs := [_]) (vs := [_]) C28 ⟨(.r rfl), trivial⟩ (fun w hw => rCheck_c g l pl cl a b d w hll (hl.keep hw))) rfl<|VO.a rfl rfl<|VO.n<|VC.seq<|VC.q (VO.m rfl rfl<|VO.u rfl rfl rfl<|VO.n<|VC.cond rfl (fun h10 => ?_) (fun h10 => ?_))))
 · (exfalso; exact h10 hs)
 ·
  refine VC.skip (VE.seqN<|VC.q (VO.f (r := 0) F42_0 rfl rfl rfl<|VO.l (LO.lda (vs := [_,_,_,_,_]) A23 (.r rfl) (cells_blk 0 rfl ⟨_, rfl⟩) rfl) rfl<|VO.f (r := 6) F42_2 rfl rfl rfl<|VO.l (LO.lda (vs := [_,_,_]) A40 (.r rfl) (cells_blk 0 rfl ⟨_, rfl⟩) rfl) rfl<|VO.l (LO.bd (ps := [(_,_), (_,_)]) (vs := [(_,_), (_,_)]) (C := [_,_,_,_,_,_,_,_,_]) B42  ⟨(.r rfl), (.r rfl), trivial⟩ rfl ⟨_, [_,_,_,_,_], [_,_,_,_,_,_,_,_,_], rfl, rfl, rfl, rfl, ⟨_, [_,_,_], [_,_,_,_,_,_,_,_,_], rfl, rfl, rfl, rfl, rfl⟩⟩) rfl<|VO.h rfl<|HO.alloc (C := #[_,_,_,_,_,_,_,_,_]) Z42 rfl fun b2 => VO.h0<|HO.st 0 (vs := [_,_,_,_,_,_,_,_,_]) (C' := [_,_,_,_,_,_,_,_,_]) (L' := [_,_]) N42 rfl rfl rfl rfl rfl rfl rfl rfl<|VO.n<|VC.seq<|VC.q (VO.a rfl rfl<|VO.n<|VC.block<|VC.loopK (α := Nat × (List RG) × (Option Addr) × Nat) 1 (fun gx => [(6, .int .i64 (gx.1 : Nat))]) [(1,_), (5,_)] (fun gx => [blk b2 (.cells #[.int .i64 g.x, .int .i64 g.y, .int .i64 g.size, .int .i64 g.wide, .int .i64 g.high, .slice gx.2.2.1 gx.2.1.length gx.2.2.2, .int .i64 a, .int .i64 b, .int .i64 d] 42), own 100 2 gx.2.2.1 gx.2.2.2 (gx.2.1.map RG.cells), bagD (gx.2.1.map pixR)]) (fun gx => gx.1 ≤ l.length ∧ gx.2.1.map RG.r = (l.map RG.r).take gx.1) (fun gx => l.length - gx.1) (0, [], none, 0) (by exact ⟨Nat.zero_le _, rfl⟩) (.cons rfl (.cons rfl (.cons rfl .nil))) (fun _ h => (((St.bagD (Rs := []) h).ownNil 100 2)).sel [2,0,1,3] rfl) ?_)))
  rintro ⟨i, rgs, pg_, cg_⟩ ⟨hi, hX⟩
  show VC _ _ _ _ _ ([(6, .int .i64 (i : Nat))] ++ _) ([blk b2 (.cells #[.int .i64 g.x, .int .i64 g.y, .int .i64 g.size, .int .i64 g.wide, .int .i64 g.high, .slice pg_ rgs.length cg_, .int .i64 a, .int .i64 b, .int .i64 d] 42), own 100 2 pg_ cg_ (rgs.map RG.cells), bagD (rgs.map pixR)] ++ _) _ _
  dsimp only at hi hX
  have hgl : rgs.length = i := by rw [← List.length_map (f := RG.r), hX]; simp; omega
  refine VC.seq<|VC.q (VO.m rfl rfl<|VO.f (r := 5) F42_1 rfl rfl rfl<|VO.c 3 O39 rfl rfl ⟨_, rfl⟩ rfl<|VO.l (LO.len S39 (.r rfl) rfl) rfl<|VO.t rfl rfl rfl<|VO.n<|VC.cond rfl (fun h21 => ?_) (fun h21 => ?_))
  ·
   obtain ⟨x, hx⟩ : ∃ x, l[i]? = some x := ⟨_, List.getElem?_eq_getElem (by omega)⟩
   have hxo := hl.ok x (List.mem_of_getElem? hx)
   refine VC.skip (VE.seqN<|VC.seq<|VC.block<|VC.drawH [[0,1,2,3], [0,1,2,3], [0,1,2,3], [0,1,2,3], [0,1,2,3], [0,2,3], [2,3]] [some 4, some 4, some 2, some 2, some 2, some 2, some 2, some 2, none, some 1, some 1, some 1, some 1, some 1, some 1, none, none, none, none, some 5, none] mixed (by kernel_rfl) rfl (LX.l (fun _ hJ => LO.fa (r := 5) F42_1 (.r rfl) rfl) rfl<|LX.l (fun _ hJ => LO.ld O39 (.r rfl) (fun _ hw => cells_at (hJ _ hw) 0 rfl ⟨_, rfl⟩)) rfl<|LX.l (fun _ hJ => LO.fa (r := 5) F42_1 (.r rfl) rfl) rfl<|LX.l (fun _ hJ => LO.ld O39 (.r rfl) (fun _ hw => cells_at (hJ _ hw) 3 rfl ⟨_, rfl⟩)) rfl<|LX.m rfl rfl<|LX.l (fun _ hJ => LO.ixs S39 N100 hl.sm (.r rfl) (.r rfl) rfl (by omega)) rfl<|LX.l (fun _ hJ => LO.fa F100_0 (.r rfl) rfl) rfl<|LX.l (fun _ hJ => LO.ld O9 (.r rfl) (fun w hw => cells_part (off := 0) ((hl.at hx) w (hJ _ hw)) ⟨_, rfl⟩)) rfl<|LX.s<|LX.l (fun _ hJ => LO.fa (r := 5) F42_1 (.r rfl) rfl) rfl<|LX.l (fun _ hJ => LO.ld O39 (.r rfl) (fun _ hw => cells_at (hJ _ hw) 3 rfl ⟨_, rfl⟩)) rfl<|LX.m rfl rfl<|LX.l (fun _ hJ => LO.ixs S39 N100 hl.sm (.r rfl) (.r rfl) rfl (by omega)) rfl<|LX.l (fun _ hJ => LO.fa F100_1 (.r rfl) rfl) rfl<|LX.l (fun _ hJ => LO.ld O72 (.r rfl) (fun w hw => cells_part (off := 1) ((hl.at hx) w (hJ _ hw)) ⟨_, rfl⟩)) rfl<|LX.s<|LX.s<|LX.s<|LX.s<|LX.l (fun _ hJ => LO.fa (r := 5) F42_1 (.r rfl) rfl) rfl<|LX.s<|LX.nil) (HX.s<|HX.s<|HX.s<|HX.s<|HX.s<|HX.s<|HX.s<|HX.s<|HX.h rfl<|HO.bs0 S72 N3 fun b10 => ⟨fun _ hw => hw.sel [1,2,3,4] rfl, HX.s<|HX.s<|HX.s<|HX.s<|HX.s<|HX.s<|HX.h rfl<|HO.appN0 (f := iC) (m := x.r.pix) 0 (fun R => [R,_,_,_,_]) S72 S72 I3 (.r rfl) (.r rfl) rfl (fun w hw => hxo.1.keep w hw) (fun _ => rfl) (fun _ => rfl) rfl rfl (fun _ => rfl) rfl (by omega) fun p15 c15 _ => ⟨fun _ hw => hw.sel [1,2,3,4] rfl, HX.h rfl<|HO.lo (LO.bd (ps := [(_,_), (_,_)]) (vs := [(_,_), (_,_)]) (C := [_,_]) B100  ⟨(.r rfl), (.r rfl), trivial⟩ rfl ⟨_, [_], [_,_], rfl, rfl, rfl, rfl, ⟨_, [_], [_,_], rfl, rfl, rfl, rfl, rfl⟩⟩)<|⟨fun _ hw => hw.sel [1,2,3,4] rfl, HX.h rfl<|HO.bs (ps := [(_,_)]) (vs := [(_,_)]) (Z := [_,_]) (C := [_,_]) S39 Z100 N100 ⟨(.r rfl), trivial⟩ rfl rfl rfl rfl ⟨_, [_,_], [_,_], rfl, rfl, rfl, rfl, rfl⟩ fun b11 => ⟨fun _ hw => hw.sel [2,3,4,5] rfl, HX.h rfl<|HO.appT ((RG.mk x.r p15 c15)) 3 0 (fun R => [_,_,_, R,_,_]) S39 S39 I100 (.r rfl) (.r rfl) rfl rfl rfl rfl rfl rfl rfl (fun _ => rfl) rfl (by omega) fun p18 c18 => ⟨fun _ hw => hw.sel [2,4,5] rfl, HX.s<|HX.h0<|HO.st 2 (vs := [_]) (C' := [_,_,_,_,_,_,_,_,_]) (L' := [_,_,_,_,_,_]) N39 rfl rfl rfl rfl rfl rfl rfl rfl<|⟨fun _ hw => hw.sel [4,5] rfl, HX.nil ?_⟩⟩⟩⟩⟩⟩))
   refine VE.inN (VE.seqN<|VC.reg (VO.m rfl rfl<|VO.p rfl rfl (by omega) (by omega) rfl<|VO.a rfl rfl<|VO.nil<|VE.thenN fun a w ha hw => ⟨(i + 1, rgs ++ [RG.mk x.r p15 c15], p18, c18), ⟨by dsimp only; omega, by dsimp only; rw [List.map_append, hX, List.take_add_one, List.getElem?_map, hx]; rfl⟩, (by dsimp only; omega), ha.sub (.cons rfl (.cons rfl (.cons rfl .nil))), (by exact (St.bagPx (x := RG.mk x.r p15 c15) (selK (L1 := [_,_,_,_,_]) [1,4,2,3,5] rfl rfl _ hw)).sel [1,2,0,3] rfl)⟩))
  ·
   refine VC.exit (VE.thenX (VE.thenX (VE.inX (VE.seqN<|VC.q (VO.l (LO.lda (vs := [_,_,_,_,_,_,_,_,_]) A42 (.r rfl) (cells_blk 0 rfl ⟨_, rfl⟩) rfl) rfl<|VO.l (LO.bd (ps := [(_,_)]) (vs := [(_,_)]) (C := [_,_,_,_,_,_,_,_,_,_,_,_]) B103  ⟨(.r rfl), trivial⟩ rfl ⟨_, [_,_,_,_,_,_,_,_,_], [_,_,_,_,_,_,_,_,_,_,_,_], rfl, rfl, rfl, rfl, rfl⟩) rfl<|VO.h rfl<|HO.box (C := #[_,_,_,_,_,_,_,_,_,_,_,_]) rfl rfl fun b13 => VO.h rfl<|HO.lo (LO.as (.r rfl))<|VO.a rfl rfl<|VO.n<|VC.ret (VE.res (vs := [_,_]) rfl ⟨rfl, rfl, trivial⟩ (fun w hw => ?_)))))))
   have hg2 : rgs.length = l.length := by omega
   exact ⟨(b13, rgs, pg_, cg_), by rw [hX, show i = l.length by omega, List.take_of_length_le (by simp)], rfl, selK (L1 := [_,_,_]) [0,2,3] rfl rfl _ hw⟩
theorem EA145 : FlatA Tryz.prog 145 7 := ⟨⟨_, Tryz.underlying145, rfl⟩, by kernel_rfl, by kernel_rfl⟩
theorem A112 : IsAgg Tryz.prog 112 8 := ⟨⟨_, Tryz.underlying112, rfl⟩, by kernel_rfl⟩
theorem IM208 : IsMapI Tryz.prog 192 := ⟨3,3, .i64, Tryz.underlying192, Tryz.underlying3, by unfold ZeroOf; kernel_rfl⟩
theorem hit_c (n : NtM) (x : RG) (w : World) (hv : Spans w n.p n.vs) (hx : Ints w x.px x.r.pix) (hl : x.r.pix.length < 1000000000000) (hp : ∀ p, p ∈ x.r.pix → 0 ≤ p ∧ p < (n.vs.length : Int)) :
 Calls Tryz.prog 88 #[.agg n.cells.toArray, .agg #[.string x.r.name, .slice x.px x.r.pix.length x.cx]] w fun e w' => e = .returned (.tuple #[.bool (hitB x.r.pix n.vs n.lv), .bool (canB x.r.pix n.vs n.lv)]) ∧ St (bs w) [] w' := by
 refine enter (vs := [_,_]) (env := [(0,_), (1,_)]) Tryz.func88 rfl rfl rfl rfl ?_
 refine VC.q (VO.h rfl<|HO.box (C := #[_,_,_,_,_,_,_,_]) rfl rfl fun b1 => VO.h rfl<|HO.box (C := #[_,_]) rfl rfl fun b2 => VO.a rfl rfl<|VO.a rfl rfl<|VO.n<|VC.seq<|VC.q (VO.f (r := 1) F74_1 rfl rfl rfl<|VO.c 0 O72 rfl rfl ⟨_, rfl⟩ rfl<|VO.l (LO.len S72 (.r rfl) rfl) rfl<|VO.m rfl rfl<|VO.n<|VC.block<|VC.loopK (α := Nat) 0 (fun gx => [(4, .bool (hitB (x.r.pix.take gx) n.vs n.lv)), (5, .bool (canB (x.r.pix.take gx) n.vs n.lv)), (11, .int .i64 (gx : Nat))]) [(2,_), (9,_), (10,_)] (fun gx => []) (fun gx => gx ≤ x.r.pix.length) (fun gx => x.r.pix.length - gx) 0 (by exact Nat.zero_le _) (.c4 rfl rfl rfl rfl (.cons rfl (.cons rfl .nil))) (fun _ h => h) ?_))
 rintro j hj
 refine VC.q (VO.t rfl rfl rfl<|VO.n<|VC.seq<|VC.cond rfl (fun h12 => ?_) (fun h12 => ?_))
 ·
  obtain ⟨q, hq⟩ : ∃ q, x.r.pix[j]? = some q := ⟨_, List.getElem?_eq_getElem (by omega)⟩
  have hqb := hp q (List.mem_of_getElem? hq)
  refine VC.skip (VE.seqN<|VC.seq<|VC.block<|VC.q (VO.l (LO.ixs S72 N3 (Go.SL.Rows.some (n := x.r.pix.length) hx (by simp)) (.r rfl) (.r rfl) rfl (by omega)) rfl<|VO.l (LO.ld O3 (.r rfl) (fun w hw => cells_part (off := 0) ((fun w2 hw2 => (Go.SL.Rows.keep hx w2 hw2).cells _ _ (by rw [List.getElem?_map, hq]; rfl)) w hw) ⟨_, rfl⟩)) rfl<|VO.a rfl rfl<|VO.n<|VC.seq<|VC.draw mixed (LL.m rfl rfl<|LL.m rfl rfl<|LL.gf rfl rfl (fun hg => LO.fa (r := 1) F112_1 (.r rfl) rfl) rfl<|LL.gf rfl rfl (fun hg => LO.fa (r := 6) F48_1 (.g hg rfl) rfl) rfl<|LL.gf rfl rfl (fun hg => LO.ld O46 (.g hg rfl) (cells_blk 1 rfl ⟨_, rfl⟩)) rfl<|LL.gf rfl rfl (fun hg => LO.mv (.r rfl)) rfl<|LL.gf rfl rfl (fun hg => LO.ixs S46 N77 hv.some (.g hg rfl) (.g hg rfl) (j := q.toNat) (by omega) (by omega)) rfl<|LL.gf rfl rfl (fun hg => LO.fa F77_0 (.g hg rfl) rfl) rfl<|LL.gf rfl rfl (fun hg => LO.ld O3 (.g hg rfl) (fun w hw => cells_part (off := 0) (hv.at (j := q.toNat) (by omega) w hw) ⟨_, rfl⟩)) rfl<|LL.gf rfl rfl (fun hg => LO.fa (r := 7) F112_2 (.r rfl) rfl) rfl<|LL.gf rfl rfl (fun hg => LO.ld O3 (.g hg rfl) (cells_blk 1 rfl ⟨_, rfl⟩)) rfl<|LL.gf rfl rfl (fun hg => LO.ge (.g hg rfl) (.g hg rfl)) rfl<|LL.l (LO.pkO (.r rfl) (.r rfl) rfl rfl) rfl<|LL.l (LO.as (.r rfl)) rfl<|LL.nil) (by kernel_rfl)<|VE.seqN<|VC.draw mixed (LL.m rfl rfl<|LL.m rfl rfl<|LL.gf rfl rfl (fun hg => LO.fa (r := 1) F112_1 (.r rfl) rfl) rfl<|LL.gf rfl rfl (fun hg => LO.fa (r := 6) F48_1 (.g hg rfl) rfl) rfl<|LL.gf rfl rfl (fun hg => LO.ld O46 (.g hg rfl) (cells_blk 1 rfl ⟨_, rfl⟩)) rfl<|LL.gf rfl rfl (fun hg => LO.mv (.r rfl)) rfl<|LL.gf rfl rfl (fun hg => LO.ixs S46 N77 hv.some (.g hg rfl) (.g hg rfl) (j := q.toNat) (by omega) (by omega)) rfl<|LL.gf rfl rfl (fun hg => LO.fa F77_1 (.g hg rfl) rfl) rfl<|LL.gf rfl rfl (fun hg => LO.ld O3 (.g hg rfl) (fun w hw => cells_part (off := 1) (hv.at (j := q.toNat) (by omega) w hw) ⟨_, rfl⟩)) rfl<|LL.gf rfl rfl (fun hg => LO.fa (r := 7) F112_2 (.r rfl) rfl) rfl<|LL.gf rfl rfl (fun hg => LO.ld O3 (.g hg rfl) (cells_blk 1 rfl ⟨_, rfl⟩)) rfl<|LL.gf rfl rfl (fun hg => LO.ge (.g hg rfl) (.g hg rfl)) rfl<|LL.l (LO.pkO (.r rfl) (.r rfl) rfl rfl) rfl<|LL.l (LO.as (.r rfl)) rfl<|LL.nil) (by kernel_rfl)<|VE.inN (VE.seqN<|VC.reg (VO.p rfl rfl (by omega) (by omega) rfl<|VO.m rfl rfl<|VO.nil<|VE.thenN fun a w ha hw => ⟨j + 1, (by omega), (by omega), ha.sub (.cons (congrArg (fun z => some (Value.bool z)) (any_take hq).symm) (.cons (congrArg (fun z => some (Value.bool z)) (any_take hq).symm) (.c4 rfl rfl rfl rfl .nil))), hw⟩))))
 ·
  refine VC.exit (VE.thenX (VE.thenX (VE.inX (VE.seqN<|VC.q (VO.m rfl rfl<|VO.m rfl rfl<|VO.a rfl rfl<|VO.a rfl rfl<|VO.n<|VC.ret (VE.res (vs := [_,_]) rfl ⟨rfl, rfl, trivial⟩ (fun w hw => ?_)))))))
  rw [List.take_of_length_le (by omega)]
  exact ⟨rfl, hw.nil⟩
end Go.Proofs.YtdjflomhaljljaaGreat
