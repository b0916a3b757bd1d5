/-
  Clouds of their own.
  A new office.
  A step is made.
  Levels, and what the examples rest on.
  What holds of each office.
  What the examples of offices come to.
  The examples of offices.
  What the laws about offices ask of their arguments.
  What is no office is nothing.
  IssueNil is walked.
  Warnings, and levels at a time.
  The levels, events and warnings of offices, in plain words.
  Tallies, in plain words.
  An office answers as the plain words say.
  Drafts are made.
-/
import Derived.Test.YtdjflomhaljljaaKCNT05

namespace Go.Proofs.Ytdjflomhaljljaa
open Go.SL Go.Proofs Go.Cast
set_option linter.unusedVariables false

theorem C55 : IsFn Try.prog 55 := ⟨_, Try.func55, by decide, rfl⟩
theorem I80 : EInfo Try.prog 80 7 88 (.agg #[.slice none 0 0, .slice none 0 0, .int .i64 0, .int .i64 0, .int .i64 0, .int .i64 0, .int .i64 0]) := ⟨by kernel_rfl, by kernel_rfl, by unfold ZeroOf; kernel_rfl, rfl, by decide⟩


theorem LO.eqSn {P : Program} {β : Bs} {env : Env} {L : List Res} {d : Option Nat} {ty : TypeId} {pos : String} {aft : Array Edge} {g : Option (Nat × Bool)} {T T2 : TypeId} {x y : Operand} {p : Option Addr} {n c : Nat} (hT : ∃ E, P.underlying T = some (.slice E)) (hx : OV env x (.slice p n c)) (hy : OV env y (.slice none 0 0)) :
    LO P β env L ⟨d, .binOp .eql T x y T2, ty, pos, aft, g⟩ (.bool p.isNone) :=
  .of_run fun a w h hw => ⟨w, by
    obtain ⟨E, hE⟩ := hT
    have key : (Op.equalIn Op.maxDepth T (.slice p n c) (.slice none 0 0)).run P w = .ok p.isNone w := by
      show (Op.equalIn (9999 + 1) T (.slice p n c) (.slice none 0 0)).run P w = _
      unfold Op.equalIn
      rw [Sem.run_bind, run_underlying hE]
      cases p <;> rfl
    simp only [execOp, h x (by simp [Op.operands]) _ hx, h y (by simp [Op.operands]) _ hy, eqGuard, binOp, Op.equal, Sem.run_bind, Sem.run_pure, Result.andThen_ok, key, Bool.not_true, Bool.false_eq_true, if_false], hw⟩
theorem RO_none {α : Type} {z : Nat} {f : α → List Value} {w : World} {p : Option Addr} {l : List α} (h : RO z f w p l) (hp : p.isNone = true) : l = [] := by
  have := Go.SL.Rows.nil h (by cases p; rfl; cases hp)
  simpa using this
theorem St.bagAdd2 {β : Bs} {L Rs : List Res} {r s : Res} {w : World} (h : St β (r :: s :: bagD Rs :: L) w) : St β (bagD (Rs ++ [r, s]) :: L) w := by
  have h1 := St.bagAdd (h.perm (L' := s :: bagD Rs :: r :: L) (by
    exact (List.Perm.swap s r _).trans (List.Perm.cons s (List.Perm.swap (bagD Rs) r L))))
  have h2 := h.perm (L' := r :: bagD Rs :: s :: L) (List.Perm.cons r (List.Perm.swap (bagD Rs) s L))
  have h3 := St.bagAdd h2
  have h4 := St.bagAdd (h3.perm (List.Perm.swap _ _ _))
  rw [List.append_assoc] at h4
  exact h4
theorem St.bagCp {β : Bs} {L : List Res} {xs : List CP} {x : CP} {w : World} (h : St β (own 3 1 x.ps x.cs (x.c.sure.map iC) :: own 3 1 x.pm x.cm (x.c.may.map iC) :: bagD (xs.flatMap cpR) :: L) w) : St β (bagD ((xs ++ [x]).flatMap cpR) :: L) w := by
  rw [List.flatMap_append]
  have e : [x].flatMap cpR = [own 3 1 x.ps x.cs (x.c.sure.map iC), own 3 1 x.pm x.cm (x.c.may.map iC)] := rfl
  rw [e]
  exact St.bagAdd2 h

set_option maxRecDepth 20000 in
theorem Clone_c (l : List Int) (p : Option Addr) (c : Nat) (w : World) (hn : l.length < 1000000000000) (hl : RO 1 iC w p l) :
  Calls Try.prog 55 #[.slice p l.length c] w fun e w' => ∃ x : Option Addr × Nat, True ∧ e = .returned (.slice x.1 l.length x.2) ∧ St (bs w) [own 3 1 x.1 x.2 (l.map iC)] w' := by
  refine enter (vs := [_]) (env := [(0,_)]) Try.func55 rfl rfl rfl rfl ?_
  refine VC.seq ?_
  refine VC.reg (VO.l (LO.as (.r rfl)) rfl<|VO.nil ?_)
  refine VE.seqN ?_
  refine VC.seq ?_
  refine VC.seq ?_
  refine VC.reg (VO.l (LO.mv (.r rfl)) rfl<|VO.l (LO.eqSn ⟨_, Try.underlying55⟩ (.r rfl) (.r rfl)) rfl<|VO.nil ?_)
  refine VE.seqN ?_
  refine VC.cond rfl (fun h4 => ?_) (fun h4 => ?_)
  ·
    have h0 := RO_none hl h4
    refine VC.seq ?_
    refine VC.reg (VO.l (LO.as (.r rfl)) rfl<|VO.nil ?_)
    refine VE.seqN ?_
    refine VC.ret (VE.thenR (VE.res (vs := [_]) rfl ⟨rfl, trivial⟩ (fun w hw => ?_)))
    first | exact ⟨(none, 0), trivial, by rw [h0]; rfl, by rw [h0]; exact hw.nil.ownNil 3 1⟩ | exact ⟨(p2, c2), trivial, rfl, hw.sel [0] rfl⟩
  ·
    refine VC.skip (VE.seqN ?_)
    refine VC.seq ?_
    refine VC.reg (VO.h rfl<|HO.bs0 S55 N3 fun b1 => VO.l (LO.mv (.r rfl)) rfl<|VO.h rfl<|HO.appN0 (f := iC) (m := l) 0 (fun R => [R]) S55 S55 I3 (.r rfl) (.r rfl) rfl (fun w hw => hl.keep w hw) (fun _ => rfl) (fun _ => rfl) rfl rfl (fun _ => rfl) rfl (by omega) fun p2 c2 _ => VO.h rfl<|HO.lo (LO.as (.r rfl))<|VO.nil ?_)
    refine VE.seqN ?_
    refine VC.ret (VE.res (vs := [_]) rfl ⟨rfl, trivial⟩ (fun w hw => ?_))
    first | exact ⟨(none, 0), trivial, by rw [h0]; rfl, by rw [h0]; exact hw.nil.ownNil 3 1⟩ | exact ⟨(p2, c2), trivial, rfl, hw.sel [0] rfl⟩

set_option maxRecDepth 20000 in
theorem own_c (l : List CP) (p : Option Addr) (c : Nat) (w : World) (hn : l.length < 1000000000) (hl : Clouds w p l) :
  Calls Try.prog 56 #[.slice p l.length c] w fun e w' => ∃ x : (Option Addr × Nat) × List CP, x.2.map CP.c = l.map CP.c ∧ e = .returned (.slice x.1.1 x.2.length x.1.2) ∧ St (bs w) [own 80 7 x.1.1 x.1.2 (x.2.map CP.cells), bagD (x.2.flatMap cpR)] w' := by
  refine enter (vs := [_]) (env := [(0,_)]) Try.func56 rfl rfl rfl rfl ?_
  refine VC.seq ?_
  refine VC.reg (VO.l (LO.as (.r rfl)) rfl<|VO.nil ?_)
  refine VE.seqN ?_
  refine VC.seq ?_
  refine VC.reg (VO.l (LO.as (.r rfl)) rfl<|VO.nil ?_)
  refine VE.seqN ?_
  refine VC.seq ?_
  refine VC.seq ?_
  refine VC.reg (VO.l (LO.mv (.r rfl)) rfl<|VO.l (LO.len S29 (.r rfl) rfl) rfl<|VO.l (LO.mv (.r rfl)) rfl<|VO.nil ?_)
  refine VE.seqN ?_
  refine VC.block ?_
  refine VC.loopK (α := Nat × (List CP) × (Option Addr) × Nat) 0 (fun gx => [(3, .slice gx.2.2.1 gx.2.1.length gx.2.2.2), (8, .int .i64 (gx.1 : Nat))]) [(6,_), (7,_)] (fun gx => [own 80 7 gx.2.2.1 gx.2.2.2 (gx.2.1.map CP.cells), bagD (gx.2.1.flatMap cpR)]) (fun gx => gx.1 ≤ l.length ∧ gx.2.1.map CP.c = (l.map CP.c).take gx.1) (fun gx => l.length - gx.1) (0, [], none, 0) (by exact ⟨Nat.zero_le _, rfl⟩) (.cons rfl (.cons rfl (.cons rfl (.cons rfl .nil)))) (fun _ h => ((St.bagD (Rs := []) h).ownNil 80 7)) ?_
  rintro ⟨j, xs, po_, co_⟩ ⟨hj, hX⟩
  show VC _ _ _ _ _ ([(3, .slice po_ xs.length co_), (8, .int .i64 (j : Nat))] ++ _) ([own 80 7 po_ co_ (xs.map CP.cells), bagD (xs.flatMap cpR)] ++ _) _ _
  dsimp only at hj hX
  have hxl : xs.length = j := by rw [← List.length_map (f := CP.c), hX]; simp; omega
  refine VC.seq ?_
  refine VC.reg (VO.l (LO.lt (.r rfl) (.r rfl)) rfl<|VO.nil ?_)
  refine VE.seqN ?_
  refine VC.seq ?_
  refine VC.cond rfl (fun h9 => ?_) (fun h9 => ?_)
  ·
    obtain ⟨x, hx⟩ : ∃ x, l[j]? = some x := ⟨_, List.getElem?_eq_getElem (by omega)⟩
    have hxo := hl.ok x (List.mem_of_getElem? hx)
    refine VC.skip (VE.seqN ?_)
    refine VC.seq ?_
    refine VC.block ?_
    refine VC.seq ?_
    refine VC.reg (VO.l (LO.ixs S29 N80 hl.sl (.r rfl) (.r rfl) rfl (by omega)) rfl<|VO.l (LO.lda (vs := [_,_,_,_,_,_,_]) A80 (.r rfl) (hl.at hx) rfl) rfl<|VO.h rfl<|HO.alloc (C := #[_,_,_,_,_,_,_]) Z80 rfl fun b3 => VO.h0<|HO.st 0 (vs := [_,_,_,_,_,_,_]) (C' := [_,_,_,_,_,_,_]) (L' := [_,_,_]) N80 rfl rfl rfl rfl rfl rfl rfl rfl<|VO.nil ?_)
    refine VE.seqN ?_
    refine VC.seq ?_
    refine VC.drawH [[0,1,2], [0,1,2], [0,1,2], [1,2], [1,2]] [some 0, some 0, none, some 1, some 1, none, some 2, none, some 3, none] mixed (by kernel_rfl) rfl (LX.l (fun _ hJ => LO.fa (r := 0) F80_0 (.r rfl) rfl) rfl<|LX.l (fun _ hJ => LO.ld O55 (.r rfl) (fun _ hw => cells_at (hJ _ hw) 0 rfl ⟨_, rfl⟩)) rfl<|LX.s<|LX.l (fun _ hJ => LO.fa (r := 1) F80_1 (.r rfl) rfl) rfl<|LX.l (fun _ hJ => LO.ld O55 (.r rfl) (fun _ hw => cells_at (hJ _ hw) 0 rfl ⟨_, rfl⟩)) rfl<|LX.s<|LX.l (fun _ hJ => LO.fa (r := 0) F80_0 (.r rfl) rfl) rfl<|LX.s<|LX.l (fun _ hJ => LO.fa (r := 1) F80_1 (.r rfl) rfl) rfl<|LX.s<|LX.nil) (HX.s<|HX.s<|HX.h rfl<|HO.callx (xs := [_]) (vs := [_]) C55 ⟨(.r rfl), trivial⟩ (fun w hw => Clone_c x.c.sure x.ps x.cs w hxo.2.2.1 (hxo.1.keep w hw)) fun q1 _ => ⟨fun _ hw => hw.sel [1,2,3] rfl, HX.s<|HX.s<|HX.h rfl<|HO.callx (xs := [_]) (vs := [_]) C55 ⟨(.r rfl), trivial⟩ (fun w hw => Clone_c x.c.may x.pm x.cm w hxo.2.2.2 (hxo.2.1.keep w hw)) fun q2 _ => ⟨fun _ hw => hw.sel [2,3,4] rfl, HX.s<|HX.h0<|HO.st 2 (vs := [_]) (C' := [_,_,_,_,_,_,_]) (L' := [_,_,_,_,_]) N55 rfl rfl rfl rfl rfl rfl rfl rfl<|⟨fun _ hw => hw.sel [3,4] rfl, HX.s<|HX.h0<|HO.st 2 (vs := [_]) (C' := [_,_,_,_,_,_,_]) (L' := [_,_,_,_,_]) N55 rfl rfl rfl rfl rfl rfl rfl rfl<|⟨fun _ hw => hw.sel [3,4] rfl, HX.nil ?_⟩⟩⟩⟩)
    refine VE.seqN ?_
    refine VC.reg (VO.l (LO.mv (.r rfl)) rfl<|VO.l (LO.lda (vs := [_,_,_,_,_,_,_]) A80 (.r rfl) (fun _ hw => cells_at hw 2 rfl ⟨_, rfl⟩) rfl) rfl<|VO.h rfl<|HO.bs (ps := [(_,_)]) (vs := [(_,_)]) (Z := [_,_,_,_,_,_,_]) (C := [_,_,_,_,_,_,_]) S29 Z80 N80 ⟨(.r rfl), trivial⟩ rfl rfl rfl rfl ⟨_, [_,_,_,_,_,_,_], [_,_,_,_,_,_,_], rfl, rfl, rfl, rfl, rfl⟩ fun b13 => VO.h rfl<|HO.appT ((CP.mk x.c q1.1 q1.2 q2.1 q2.2)) 4 0 (fun R => [_,_,_,_, R,_]) S29 S29 I80 (.r rfl) (.r rfl) rfl rfl rfl rfl rfl rfl rfl (fun _ => rfl) rfl (by omega) fun p3 c3 => VO.h rfl<|HO.lo (LO.as (.r rfl))<|VO.nil ?_)
    refine VE.inN (VE.seqN ?_)
    refine VC.reg (VO.l (LO.add (.r rfl) (.r rfl) (wi (by omega) (by omega))) rfl<|VO.l (LO.mv (.r rfl)) rfl<|VO.nil ?_)
    refine VE.thenN fun a w ha hw => ⟨(j + 1, xs ++ [CP.mk x.c q1.1 q1.2 q2.1 q2.2], p3, c3), ⟨by dsimp only; omega, by dsimp only; rw [List.map_append, hX, take_c hx]; rfl⟩, (by dsimp only; omega), ha.sub (.cons rfl (.cons rfl (.cons rfl (.cons rfl .nil)))), (by exact (St.bagCp (x := CP.mk x.c q1.1 q1.2 q2.1 q2.2) (selK (L1 := [_,_,_,_]) [2,1,5,4] rfl rfl _ hw)).sel [1,0] rfl)⟩
  ·
    refine VC.exit (VE.thenX (VE.thenX (VE.inX (VE.seqN ?_))))
    refine VC.seq ?_
    refine VC.reg (VO.l (LO.mv (.r rfl)) rfl<|VO.l (LO.as (.r rfl)) rfl<|VO.nil ?_)
    refine VE.seqN ?_
    refine VC.ret (VE.res (vs := [_]) rfl ⟨rfl, trivial⟩ (fun w hw => ?_))
    exact ⟨((po_, co_), xs), by rw [hX, List.take_of_length_le (by rw [List.length_map]; omega)], rfl, hw.sel [0,1] rfl⟩

end Go.Proofs.Ytdjflomhaljljaa

namespace Go.Proofs.Ytdjflomhaljljaa
open Go.SL Go.Proofs Go.Cast
set_option linter.unusedVariables false

theorem B117 : Builds Try.prog 117 [(0,9), (9,1), (10,1), (11,1), (12,1)] [.int .i64 0, .int .i64 0, .int .i64 0, .int .i64 0, .int .i64 0, .slice none 0 0, .int .i64 0, .int .i64 0, .int .i64 0, .slice none 0 0, .slice none 0 0, .slice none 0 0, .slice none 0 0] := Builds.mk fun _ => by kernel_rfl
theorem F117_0 : FieldAt Try.prog 117 0 0 := ⟨_,_, Try.underlying117, rfl, rfl, 8, by kernel_rfl⟩
theorem N24 : (Try.prog.info? 24).map (·.size) = some 1 := by kernel_rfl
theorem I74 : EInfo Try.prog 74 2 40 (.agg #[.string ByteArray.empty, .slice none 0 0]) := ⟨by kernel_rfl, by kernel_rfl, by unfold ZeroOf; kernel_rfl, rfl, by decide⟩
theorem B156 : Builds Try.prog 156 [(0,2), (2,1), (3,1), (4,1), (5,1)] [.string ByteArray.empty, .slice none 0 0, .int .i64 0, .slice none 0 0, .slice none 0 0, .pointer none] := Builds.mk fun _ => by kernel_rfl
theorem Z151 : ZeroOf Try.prog 151 (.pointer none) := by unfold ZeroOf; kernel_rfl
theorem N151 : (Try.prog.info? 151).map (·.size) = some 1 := by kernel_rfl
theorem I151 : EInfo Try.prog 151 1 8 (.pointer none) := ⟨by kernel_rfl, by kernel_rfl, by unfold ZeroOf; kernel_rfl, rfl, by decide⟩
theorem N113 : (Try.prog.info? 113).map (·.size) = some 1 := by kernel_rfl


def pixR (x : RG) : Res := own 3 1 x.px x.cx (x.r.pix.map iC)
def RcM.res (r : RcM) : Res := bagD [r.blk, r.rcR, r.lvR]
abbrev OfM.rgR (o : OfM) : Res := own 74 2 o.pg o.cg (o.rg.map RG.cells)
abbrev OfM.pxB (o : OfM) : Res := bagD (o.rg.map pixR)
abbrev OfM.rcR (o : OfM) : Res := own 151 1 o.pc o.cc (o.rc.map rcP)
abbrev OfM.rcB (o : OfM) : Res := bagD (o.rc.map RcM.res)
abbrev OfM.tsR (o : OfM) : Res := own 3 1 o.pt o.ct (o.ts.map iC)
abbrev OfM.lgR (o : OfM) : Res := own 167 1 o.pl o.cl (o.lg.map LgM.val)
abbrev OfM.lgB (o : OfM) : Res := bagD (o.lg.flatMap LgM.res)
/-- All that an office owns. -/
abbrev offR (o : OfM) : List Res := [o.blk, o.rgR, o.pxB, o.rcR, o.rcB, o.tsR, o.csR, o.csB, o.lgR, o.lgB]
def OfM.sp (o : OfM) : Sp := ⟨o.g, o.rg.map RG.r, o.lead, o.step, o.hold⟩
/-- The records of an office that has made no step. -/
def FreshR (rs : List RG) (ds : List RcM) : Prop := ds.length = rs.length ∧ ∀ (k : Nat) (r : RcM), ds[k]? = some r → rs[k]? = some r.x ∧ r.i = k ∧ r.rc = [] ∧ r.lv = [] ∧ r.op = none
theorem fresh_add {rs : List RG} {ds : List RcM} (h : FreshR rs ds) {x : RG} {r : RcM} (h1 : r.x = x) (h2 : r.i = rs.length) (h3 : r.rc = []) (h4 : r.lv = []) (h5 : r.op = none) : FreshR (rs ++ [x]) (ds ++ [r]) := by
  refine ⟨by simp [h.1], fun k q hq => ?_⟩
  rcases Nat.lt_or_ge k ds.length with hk | hk
  · rw [List.getElem?_append_left hk] at hq
    have := h.2 k q hq
    rw [List.getElem?_append_left (by rw [← h.1]; exact hk)]
    exact this
  · rw [List.getElem?_append_right hk] at hq
    have hk2 : k = ds.length := by
      rcases Nat.lt_or_ge (k - ds.length) 1 with q | q
      · omega
      · rw [List.getElem?_eq_none (by simpa using q)] at hq; cases hq
    subst hk2
    simp at hq
    subst hq
    rw [h.1, List.getElem?_append_right (Nat.le_refl _)]
    simp [h1, h2, h3, h4, h5]
theorem St.bagPx {β : Bs} {L : List Res} {xs : List RG} {x : RG} {w : World} (h : St β (own 3 1 x.px x.cx (x.r.pix.map iC) :: bagD (xs.map pixR) :: L) w) : St β (bagD ((xs ++ [x]).map pixR) :: L) w := by
  rw [List.map_append]; exact St.bagAdd h
theorem St.bagRc {β : Bs} {L : List Res} {xs : List RcM} {r : RcM} {w : World} (hr : r.rc = []) (hp : r.pr = none) (hc : r.cr = 0) (hl : r.lv = []) (hv : r.pv = none) (hc2 : r.cv = 0) (h : St β (r.blk :: bagD (xs.map RcM.res) :: L) w) : St β (bagD ((xs ++ [r]).map RcM.res) :: L) w := by
  rw [List.map_append]
  have h1 : St β (r.rcR :: r.lvR :: r.blk :: bagD (xs.map RcM.res) :: L) w := by
    unfold RcM.rcR RcM.lvR
    rw [hr, hp, hc, hl, hv, hc2]
    exact (h.ownNil 3 1).ownNil 195 2
  have h2 : St β (bagD [r.blk, r.rcR, r.lvR] :: bagD (xs.map RcM.res) :: L) w := St.bagD (Rs := [r.blk, r.rcR, r.lvR]) (h1.perm (List.perm_middle (l₁ := [r.rcR, r.lvR])))
  exact St.bagAdd h2

/-- An office that has made no step. -/
def NewP (g : Grid) (l : List RG) (a b d : Int) (o : OfM) : Prop := o.g = g ∧ o.lead = a ∧ o.step = b ∧ o.hold = d ∧ o.ts = [] ∧ o.cs = [] ∧ o.lg = [] ∧ True = True ∧ o.rg.map RG.r = l.map RG.r ∧ FreshR o.rg o.rc

set_option maxRecDepth 20000 in
theorem New_c (g : Grid) (l : List RG) (pl : Option Addr) (cl : Nat) (a b d : Int) (w : World) (hll : l.length < 1000000000000) (hl : Regs w pl l) (hs : specE ⟨g, l.map RG.r, a, b, d⟩ = 0) :
  Calls Try.prog 26 #[specV g pl l.length cl a b d] w fun e w' => ∃ o : OfM, NewP g l a b d o ∧ e = .returned (.tuple #[ptrN o.b, .int .i64 0]) ∧ St (bs w) (offR o) w' := by
  have hok := specOk hs
  obtain ⟨hgo, hN1, hN2, hpx, hru⟩ := hok
  dsimp only at hN1
  rw [List.length_map] at hN1
  refine enter (vs := [_]) (env := [(0,_)]) Try.func26 rfl rfl rfl rfl ?_
  refine VC.seq ?_
  refine VC.reg (VO.h rfl<|HO.box (C := #[_,_,_,_,_,_,_,_,_]) rfl rfl fun b1 => VO.l (LO.as (.r rfl)) rfl<|VO.l (LO.as (.r rfl)) rfl<|VO.nil ?_)
  refine VE.seqN ?_
  refine VC.seq ?_
  refine VC.seq ?_
  refine VC.reg (VO.l (LO.lda (vs := [_,_,_,_,_,_,_,_,_]) A28 (.r rfl) (fun _ hw => cells_at hw 0 rfl ⟨_, rfl⟩) rfl) rfl<|VO.l (LO.call (xs := [_]) (vs := [_]) C34 ⟨(.r rfl), trivial⟩ (fun w hw => Check_c g l pl cl a b d w hll (hl.keep hw))) rfl<|VO.l (LO.as (.r rfl)) rfl<|VO.nil ?_)
  refine VE.seqN ?_
  refine VC.seq ?_
  refine VC.reg (VO.l (LO.mv (.r rfl)) rfl<|VO.l (LO.ne (.r rfl) (.r rfl)) rfl<|VO.nil ?_)
  refine VE.seqN ?_
  refine VC.cond rfl (fun h11 => ?_) (fun h11 => ?_)
  ·
    (exfalso; exact h11 hs)
  ·
    refine VC.skip (VE.seqN ?_)
    refine VC.seq ?_
    refine VC.reg (VO.l (LO.lda (vs := [_,_,_,_,_,_,_,_,_]) A28 (.r rfl) (fun _ hw => cells_at hw 0 rfl ⟨_, rfl⟩) rfl) rfl<|VO.l (LO.bd (ps := [(_,_)]) (vs := [(_,_)]) (C := [_,_,_,_,_,_,_,_,_,_,_,_,_]) B117  ⟨(.r rfl), trivial⟩ rfl ⟨_, [_,_,_,_,_,_,_,_,_], [_,_,_,_,_,_,_,_,_,_,_,_,_], rfl, rfl, rfl, rfl, rfl⟩) rfl<|VO.h rfl<|HO.box (C := #[_,_,_,_,_,_,_,_,_,_,_,_,_]) rfl rfl fun b2 => VO.h rfl<|HO.lo (LO.as (.r rfl))<|VO.nil ?_)
    refine VE.seqN ?_
    refine VC.seq ?_
    refine VC.reg (VO.l (LO.mv (.r rfl)) rfl<|VO.l (LO.nc (.r rfl)) rfl<|VO.l (LO.fa (r := 0) F117_0 (.r rfl) rfl) rfl<|VO.l (LO.fa (r := 5) F28_1 (.r rfl) rfl) rfl<|VO.h0<|HO.st 0 (vs := [_]) (C' := [_,_,_,_,_,_,_,_,_,_,_,_,_]) (L' := [_,_]) N24 rfl rfl rfl rfl rfl rfl rfl rfl<|VO.nil ?_)
    refine VE.seqN ?_
    refine VC.seq ?_
    refine VC.seq ?_
    refine VC.reg (VO.l (LO.fa (r := 5) F28_1 (.r rfl) rfl) rfl<|VO.l (LO.ld O24 (.r rfl) (fun _ hw => cells_at hw 1 rfl ⟨_, rfl⟩)) rfl<|VO.l (LO.len S24 (.r rfl) rfl) rfl<|VO.l (LO.mv (.r rfl)) rfl<|VO.nil ?_)
    refine VE.seqN ?_
    refine VC.block ?_
    refine VC.loopK (α := Nat × (List RG) × (Option Addr) × Nat × (List RcM) × (Option Addr) × Nat) 1 (fun gx => [(23, .int .i64 (gx.1 : Nat))]) [(5,_), (21,_), (22,_)] (fun gx => [blk b2 (.cells #[.int .i64 g.x, .int .i64 g.y, .int .i64 g.size, .int .i64 g.wide, .int .i64 g.high, .slice gx.2.2.1 gx.2.1.length gx.2.2.2.1, .int .i64 a, .int .i64 b, .int .i64 d, .slice gx.2.2.2.2.2.1 gx.2.2.2.2.1.length gx.2.2.2.2.2.2, .slice none 0 0, .slice none 0 0, .slice none 0 0] 117), own 74 2 gx.2.2.1 gx.2.2.2.1 (gx.2.1.map RG.cells), bagD (gx.2.1.map pixR), own 151 1 gx.2.2.2.2.2.1 gx.2.2.2.2.2.2 (gx.2.2.2.2.1.map rcP), bagD (gx.2.2.2.2.1.map RcM.res)]) (fun gx => gx.1 ≤ l.length ∧ gx.2.1.map RG.r = (l.map RG.r).take gx.1 ∧ FreshR gx.2.1 gx.2.2.2.2.1) (fun gx => l.length - gx.1) (0, [], none, 0, [], none, 0) (by exact ⟨Nat.zero_le _, rfl, rfl, fun k r hr => by simp at hr⟩) (.cons rfl (.cons rfl (.cons rfl (.cons rfl .nil)))) (fun _ h => (((St.bagD (Rs := []) ((St.bagD (Rs := []) h).ownNil 151 1)).ownNil 74 2)).sel [4,0,1,2,3,5] rfl) ?_
    rintro ⟨i, rgs, pg_, cg_, rcs, pc_, cc_⟩ ⟨hi, hX, hF⟩
    show VC _ _ _ _ _ ([(23, .int .i64 (i : Nat))] ++ _) ([blk b2 (.cells #[.int .i64 g.x, .int .i64 g.y, .int .i64 g.size, .int .i64 g.wide, .int .i64 g.high, .slice pg_ rgs.length cg_, .int .i64 a, .int .i64 b, .int .i64 d, .slice pc_ rcs.length cc_, .slice none 0 0, .slice none 0 0, .slice none 0 0] 117), own 74 2 pg_ cg_ (rgs.map RG.cells), bagD (rgs.map pixR), own 151 1 pc_ cc_ (rcs.map rcP), bagD (rcs.map RcM.res)] ++ _) _ _
    dsimp only at hi hX hF
    have hgl : rgs.length = i := by rw [← List.length_map (f := RG.r), hX]; simp; omega
    have hrl : rcs.length = i := by rw [hF.1, hgl]
    refine VC.seq ?_
    refine VC.reg (VO.l (LO.lt (.r rfl) (.r rfl)) rfl<|VO.nil ?_)
    refine VE.seqN ?_
    refine VC.seq ?_
    refine VC.cond rfl (fun h24 => ?_) (fun h24 => ?_)
    ·
      obtain ⟨x, hx⟩ : ∃ x, l[i]? = some x := ⟨_, List.getElem?_eq_getElem (by omega)⟩
      have hxo := hl.ok x (List.mem_of_getElem? hx)
      refine VC.skip (VE.seqN ?_)
      refine VC.seq ?_
      refine VC.block ?_
      refine VC.seq ?_
      refine VC.reg (VO.l (LO.mv (.r rfl)) rfl<|VO.l (LO.ixs S24 N74 hl.sm (.r rfl) (.r rfl) rfl (by omega)) rfl<|VO.l (LO.lda (vs := [_,_]) A74 (.r rfl) (hl.at hx) rfl) rfl<|VO.h rfl<|HO.alloc (C := #[_,_]) Z74 rfl fun b9 => VO.l (LO.as (.r rfl)) rfl<|VO.h0<|HO.st 0 (vs := [_,_]) (C' := [_,_]) (L' := [_,_,_,_,_,_,_]) N74 rfl rfl rfl rfl rfl rfl rfl rfl<|VO.nil ?_)
      refine VE.seqN ?_
      refine VC.seq ?_
      refine VC.reg (VO.l (LO.fa (r := 1) F74_1 (.r rfl) rfl) rfl<|VO.l (LO.ld O55 (.r rfl) (fun _ hw => cells_at hw 0 rfl ⟨_, rfl⟩)) rfl<|VO.h rfl<|HO.callx (xs := [_]) (vs := [_]) C55 ⟨(.r rfl), trivial⟩ (fun w hw => Clone_c x.r.pix x.px x.cx w hxo.2 (hxo.1.keep w hw)) fun q _ => VO.l (LO.fa (r := 1) F74_1 (.r rfl) rfl) rfl<|VO.h0<|HO.st 1 (vs := [_]) (C' := [_,_]) (L' := [_,_,_,_,_,_,_,_]) N55 rfl rfl rfl rfl rfl rfl rfl rfl<|VO.nil ?_)
      refine VE.seqN ?_
      refine VC.seq ?_
      refine VC.drawH [[0,1,2,3,4,5,6,7], [0,1,2,3,4,5,6,7], [0,1,2,4,5,6,7], [0,1,4,5,6,7]] [some 2, some 1, some 1, some 1, some 1, some 1, some 0, none, none, some 2, some 2, some 2, none] mixed (by kernel_rfl) rfl (LX.l (fun _ hJ => LO.mv (.r rfl)) rfl<|LX.l (fun _ hJ => LO.mv (.r rfl)) rfl<|LX.l (fun _ hJ => LO.nc (.r rfl)) rfl<|LX.l (fun _ hJ => LO.fa (r := 0) F117_0 (.r rfl) rfl) rfl<|LX.l (fun _ hJ => LO.fa (r := 5) F28_1 (.r rfl) rfl) rfl<|LX.l (fun _ hJ => LO.ld O24 (.r rfl) (fun _ hw => cells_at (hJ _ hw) 2 rfl ⟨_, rfl⟩)) rfl<|LX.l (fun _ hJ => LO.lda (vs := [_,_]) A74 (.r rfl) (fun _ hw => cells_at (hJ _ hw) 1 rfl ⟨_, rfl⟩) rfl) rfl<|LX.s<|LX.s<|LX.l (fun _ hJ => LO.nc (.r rfl)) rfl<|LX.l (fun _ hJ => LO.fa (r := 0) F117_0 (.r rfl) rfl) rfl<|LX.l (fun _ hJ => LO.fa (r := 5) F28_1 (.r rfl) rfl) rfl<|LX.s<|LX.nil) (HX.s<|HX.s<|HX.s<|HX.s<|HX.s<|HX.s<|HX.s<|HX.h rfl<|HO.bs (ps := [(_,_)]) (vs := [(_,_)]) (Z := [_,_]) (C := [_,_]) S24 Z74 N74 ⟨(.r rfl), trivial⟩ rfl rfl rfl rfl ⟨_, [_,_], [_,_], rfl, rfl, rfl, rfl, rfl⟩ fun b15 => ⟨selJ (L1 := [_,_,_,_,_,_,_,_]) [1,2,3,4,5,6,7,8] rfl rfl rfl, HX.h rfl<|HO.appT ((RG.mk x.r q.1 q.2)) 4 0 (fun R => [_,_,_,_, R,_,_,_,_]) S24 S24 I74 (.r rfl) (.r rfl) rfl rfl rfl rfl rfl rfl rfl (fun _ => rfl) rfl (by omega) fun p8 c8 => ⟨selJ (L1 := [_,_,_,_,_,_,_]) [1,2,3,5,6,7,8] rfl rfl rfl, HX.s<|HX.s<|HX.s<|HX.h0<|HO.st 3 (vs := [_]) (C' := [_,_,_,_,_,_,_,_,_,_,_,_,_]) (L' := [_,_,_,_,_,_,_,_,_]) N24 rfl rfl rfl rfl rfl rfl rfl rfl<|⟨selJ (L1 := [_,_,_,_,_,_]) [1,2,5,6,7,8] rfl rfl rfl, HX.nil ?_⟩⟩⟩)
      refine VE.seqN ?_
      refine VC.drawH [[0,1,2,3,4,5,6,7,8], [0,1,2,3,4,5,6,7,8], [0,1,2,3,4,5,6,7,8], [0,1,2,3,4,5,7,8], [0,1,2,4,5,7,8]] [some 3, some 2, some 2, some 2, some 2, some 0, some 0, some 0, none, none, none, some 3, some 3, none] mixed (by kernel_rfl) rfl (LX.l (fun _ hJ => LO.mv (.r rfl)) rfl<|LX.l (fun _ hJ => LO.mv (.r rfl)) rfl<|LX.l (fun _ hJ => LO.nc (.r rfl)) rfl<|LX.l (fun _ hJ => LO.fa (r := 9) F117_1 (.r rfl) rfl) rfl<|LX.l (fun _ hJ => LO.ld O113 (.r rfl) (fun _ hw => cells_at (hJ _ hw) 3 rfl ⟨_, rfl⟩)) rfl<|LX.l (fun _ hJ => LO.lda (vs := [_,_]) A74 (.r rfl) (fun _ hw => cells_at (hJ _ hw) 2 rfl ⟨_, rfl⟩) rfl) rfl<|LX.l (fun _ hJ => LO.mv (.r rfl)) rfl<|LX.l (fun _ hJ => LO.bd (ps := [(_,_), (_,_)]) (vs := [(_,_), (_,_)]) (C := [_,_,_,_,_,_]) B156  ⟨(.r rfl), (.r rfl), trivial⟩ rfl ⟨_, [_,_], [_,_,_,_,_,_], rfl, rfl, rfl, rfl, ⟨_, [_], [_,_,_,_,_,_], rfl, rfl, rfl, rfl, rfl⟩⟩) rfl<|LX.s<|LX.s<|LX.s<|LX.l (fun _ hJ => LO.nc (.r rfl)) rfl<|LX.l (fun _ hJ => LO.fa (r := 9) F117_1 (.r rfl) rfl) rfl<|LX.s<|LX.nil) (HX.s<|HX.s<|HX.s<|HX.s<|HX.s<|HX.s<|HX.s<|HX.s<|HX.h rfl<|HO.box (C := #[_,_,_,_,_,_]) rfl rfl fun b20 => ⟨selJ (L1 := [_,_,_,_,_,_,_,_,_]) [1,2,3,4,5,6,7,8,9] rfl rfl rfl, HX.h rfl<|HO.bs (ps := [(_,_)]) (vs := [(_,_)]) (Z := [_]) (C := [_]) S113 Z151 N151 ⟨(.r rfl), trivial⟩ rfl rfl rfl rfl ⟨_, [_], [_], rfl, rfl, rfl, rfl, rfl⟩ fun b21 => ⟨selJ (L1 := [_,_,_,_,_,_,_,_,_]) [2,3,4,5,6,7,8,9,10] rfl rfl rfl, HX.h rfl<|HO.appT ((RcM.mk (RG.mk x.r q.1 q.2) b20 i [] none 0 [] none 0 none)) 8 0 (fun R => [_,_,_,_,_,_,_,_, R,_,_]) S113 S113 I151 (.r rfl) (.r rfl) rfl rfl rfl rfl rfl rfl rfl (fun _ => rfl) rfl (by omega) fun p10 c10 => ⟨selJ (L1 := [_,_,_,_,_,_,_,_]) [2,3,4,5,6,7,9,10] rfl rfl rfl, HX.s<|HX.s<|HX.h0<|HO.st 5 (vs := [_]) (C' := [_,_,_,_,_,_,_,_,_,_,_,_,_]) (L' := [_,_,_,_,_,_,_,_,_,_,_]) N113 rfl rfl rfl rfl rfl rfl rfl rfl<|⟨selJ (L1 := [_,_,_,_,_,_,_]) [2,3,4,6,7,9,10] rfl rfl rfl, HX.nil ?_⟩⟩⟩⟩)
      refine VE.inN (VE.seqN ?_)
      refine VC.reg (VO.l (LO.add (.r rfl) (.r rfl) (wi (by omega) (by omega))) rfl<|VO.l (LO.mv (.r rfl)) rfl<|VO.nil ?_)
      refine VE.thenN fun a w ha hw => ⟨(i + 1, rgs ++ [RG.mk x.r q.1 q.2], p8, c8, rcs ++ [(RcM.mk (RG.mk x.r q.1 q.2) b20 i [] none 0 [] none 0 none)], p10, c10), ⟨by dsimp only; omega, by dsimp only; rw [List.map_append, hX, List.take_add_one, List.getElem?_map, hx]; rfl, fresh_add hF rfl (by dsimp only; omega) rfl rfl rfl⟩, (by dsimp only; omega), ha.sub (.cons rfl (.cons rfl (.cons rfl (.cons rfl .nil)))), (by exact (St.bagPx (x := RG.mk x.r q.1 q.2) ((St.bagRc (r := (RcM.mk (RG.mk x.r q.1 q.2) b20 i [] none 0 [] none 0 none)) rfl rfl rfl rfl rfl rfl (selK (L1 := [_,_,_,_,_,_,_,_]) [1,9,3,7,5,6,8,10] rfl rfl _ hw)).sel [1,2,0,3,4,5,6] rfl)).sel [2,3,0,4,1,5] rfl)⟩
    ·
      refine VC.exit (VE.thenX (VE.thenX (VE.inX (VE.seqN ?_))))
      refine VC.seq ?_
      refine VC.reg (VO.l (LO.mv (.r rfl)) rfl<|VO.l (LO.as (.r rfl)) rfl<|VO.l (LO.as (.r rfl)) rfl<|VO.nil ?_)
      refine VE.seqN ?_
      refine VC.ret (VE.res (vs := [_,_]) rfl ⟨rfl, rfl, trivial⟩ (fun w hw => ?_))
      exact ⟨(OfM.mk b2 g rgs pg_ cg_ a b d rcs pc_ cc_ [] none 0 [] none 0 [] none 0), ⟨rfl, rfl, rfl, rfl, rfl, rfl, rfl, rfl, by dsimp only; rw [hX, show i = l.length by omega, List.take_of_length_le (by simp)], hF⟩, rfl, (St.bagD (Rs := []) ((((selK (L1 := [_,_,_,_,_]) [0,1,2,3,4] rfl rfl _ hw).ownNil 3 1).ownNil 150 1 |> St.bagD (Rs := [])).ownNil 167 1)).sel [5,6,7,8,9,4,3,2,1,0] rfl⟩

end Go.Proofs.Ytdjflomhaljljaa

namespace Go.Proofs.Ytdjflomhaljljaa
open Go.SL Go.Proofs Go.Cast
set_option linter.unusedVariables false

theorem C53 : IsFn Try.prog 53 := ⟨_, Try.func53, by decide, rfl⟩
theorem F117_2 : FieldAt Try.prog 117 2 10 := ⟨_,_, Try.underlying117, rfl, rfl, 0, by kernel_rfl⟩
theorem F117_4 : FieldAt Try.prog 117 4 12 := ⟨_,_, Try.underlying117, rfl, rfl, 0, by kernel_rfl⟩
theorem O115 : IsOne Try.prog 115 := ⟨⟨_, Try.underlying115, rfl⟩, by kernel_rfl⟩
theorem S115 : IsSlice Try.prog 115 167 := Try.underlying115
theorem C56 : IsFn Try.prog 56 := ⟨_, Try.func56, by decide, rfl⟩
theorem B158 : Builds Try.prog 158 [(0,1), (1,1)] [.int .i64 0, .slice none 0 0] := Builds.mk fun _ => by kernel_rfl
theorem Z167 : ZeroOf Try.prog 167 (.nilIface) := by unfold ZeroOf; kernel_rfl
theorem N167 : (Try.prog.info? 167).map (·.size) = some 1 := by kernel_rfl
theorem I167 : EInfo Try.prog 167 1 16 (.nilIface) := ⟨by kernel_rfl, by kernel_rfl, by unfold ZeroOf; kernel_rfl, rfl, by decide⟩
theorem N115 : (Try.prog.info? 115).map (·.size) = some 1 := by kernel_rfl
theorem Z60 : ZeroOf Try.prog 60 (.slice none 0 0) := by unfold ZeroOf; kernel_rfl
theorem O151 : IsOne Try.prog 151 := ⟨⟨_, Try.underlying151, rfl⟩, by kernel_rfl⟩
theorem F156_0 : FieldAt Try.prog 156 0 0 := ⟨_,_, Try.underlying156, rfl, rfl, 1, by kernel_rfl⟩
theorem C58 : IsFn Try.prog 58 := ⟨_, Try.func58, by decide, rfl⟩


/-- The records of an office meet their threats, one behind the other. -/
inductive RunP (sts : List (List Int)) (b H T : Int) (cs0 : List CsM) : List RcM → List RcM → List CsM → List Ev → Prop
  | nil : RunP sts b H T cs0 [] [] cs0 []
  | snoc {rs ds : List RcM} {cs : List CsM} {es : List Ev} {r : RcM} {y : MeetY} : RunP sts b H T cs0 rs ds cs es → MeetP r T H (thr sts r.x.r.pix b) cs es y → RunP sts b H T cs0 (rs ++ [r]) (ds ++ [y.r]) y.cs y.es
/-- Each warning stays where it is. -/
def CsKeep (cs cs' : List CsM) : Prop := ∀ (k : Nat) (c : CsM), cs[k]? = some c → ∃ c', cs'[k]? = some c' ∧ c'.b = c.b
theorem csKeep_refl (cs : List CsM) : CsKeep cs cs := fun k c h => ⟨c, h, rfl⟩
theorem csKeep_trans {a b c : List CsM} (h : CsKeep a b) (k : CsKeep b c) : CsKeep a c := fun i x hx => by
  obtain ⟨y, hy, e⟩ := h i x hx
  obtain ⟨z, hz, e2⟩ := k i y hy
  exact ⟨z, hz, e2.trans e⟩
theorem hand_keep {cs cs' : List CsM} {op op' : Option Nat} {x x' : Ev} (h : HandP cs op x cs' op' x') : CsKeep cs cs' ∧ cs'.length ≤ cs.length + 1 := by
  rcases h with ⟨_, b,_, rfl,_⟩ | ⟨_, k, c, hc,_,_, rfl,_⟩
  · refine ⟨fun i y hy => ⟨y, ?_, rfl⟩, by simp⟩
    rw [List.getElem?_append_left (List.getElem?_eq_some_iff.1 hy).1]; exact hy
  · refine ⟨fun i y hy => ?_, by simp⟩
    rw [List.getElem?_set]
    split
    · rename_i q
      subst q
      rw [hc] at hy; cases hy
      exact ⟨_, if_pos (List.getElem?_eq_some_iff.1 hc).1, rfl⟩
    · exact ⟨y, hy, rfl⟩
theorem meet_keep {r : RcM} {T H : Int} {t : Thr} {cs : List CsM} {es : List Ev} {y : MeetY} (h : MeetP r T H t cs es y) : CsKeep cs y.cs ∧ y.cs.length ≤ cs.length + 1 ∧ y.es.length ≤ es.length + 1 ∧ y.r.b = r.b := by
  obtain ⟨_, hb,_,_,_, q | q⟩ := h
  · obtain ⟨_,_, hc, he⟩ := q
    rw [hc, he]
    exact ⟨csKeep_refl _, by omega, by omega, hb⟩
  · obtain ⟨_, x', hh, he⟩ := q
    have := hand_keep hh
    exact ⟨this.1, this.2, by rw [he]; simp, hb⟩
theorem run_keep {sts : List (List Int)} {b H T : Int} {cs0 : List CsM} {rs ds : List RcM} {cs : List CsM} {es : List Ev} (h : RunP sts b H T cs0 rs ds cs es) : CsKeep cs0 cs ∧ cs.length ≤ cs0.length + rs.length ∧ es.length ≤ rs.length ∧ ds.map rcP = rs.map rcP ∧ ds.length = rs.length := by
  induction h with
  | nil => exact ⟨csKeep_refl _, by simp, by simp, rfl, rfl⟩
  | snoc h1 h2 ih =>
    have := meet_keep h2
    refine ⟨csKeep_trans ih.1 this.1, by simp; omega, by simp; omega, ?_, by simp [ih.2.2.2.2]⟩
    rw [List.map_append, List.map_append, ih.2.2.2.1]
    simp [rcP, this.2.2.2]
theorem St.recOut {β : Bs} {L : List Res} {ds rs : List RcM} {j : Nat} {r : RcM} {w : World} (hr : rs[j]? = some r) (h : St β (bagD (ds.map RcM.res ++ (rs.drop j).map RcM.res) :: L) w) : St β (r.blk :: r.rcR :: r.lvR :: bagD (ds.map RcM.res ++ (rs.drop (j + 1)).map RcM.res) :: L) w := by
  obtain ⟨hj, rfl⟩ := List.getElem?_eq_some_iff.1 hr
  rw [List.drop_eq_getElem_cons hj, List.map_cons] at h
  have h1 := h.focus
  exact St.unbagD (Rs := [(rs[j]).blk, (rs[j]).rcR, (rs[j]).lvR]) h1
theorem St.recIn {β : Bs} {L : List Res} {ds rs : List RcM} {j : Nat} (d : RcM) {w : World} (h : St β (d.blk :: d.rcR :: d.lvR :: bagD (ds.map RcM.res ++ (rs.drop (j + 1)).map RcM.res) :: L) w) : St β (bagD ((ds ++ [d]).map RcM.res ++ (rs.drop (j + 1)).map RcM.res) :: L) w := by
  have h1 : St β (d.res :: bagD (ds.map RcM.res ++ (rs.drop (j + 1)).map RcM.res) :: L) w := St.bagD (Rs := [d.blk, d.rcR, d.lvR]) h
  rw [List.map_append, List.append_assoc]
  exact h1.unfocus
theorem pix_read {w : World} {rs : List RG} {x : RG} (h : (bagD (rs.map pixR)).inv w) (hx : x ∈ rs) : Ints w x.px x.r.pix := own_inv_rows (h.1 _ (List.mem_map_of_mem hx))
structure StepY where
  ds : List RcM
  cs : List CsM
  pk : Option Addr
  ck : Nat
  es : List Ev
  pe : Option Addr
  ce : Nat
  pt : Option Addr
  ct : Nat
  lg : LgM
  pl : Option Addr
  cl : Nat
abbrev StepY.o (y : StepY) (o : OfM) (T : Int) : OfM := { o with rc := y.ds, ts := o.ts ++ [T], pt := y.pt, ct := y.ct, cs := y.cs, pk := y.pk, ck := y.ck, lg := o.lg ++ [y.lg], pl := y.pl, cl := y.cl }
/-- A step that is made. -/
def StepP (o : OfM) (T : Int) (l : List Cloud) (y : StepY) : Prop := RunP (lookL o.g l o.lead o.step) o.step o.hold T o.cs o.rc y.ds y.cs y.es ∧ ∃ p c m, y.lg = .st T p c m ∧ m.map CP.c = l

set_option maxRecDepth 20000 in
theorem Step_c (o : OfM) (T : Int) (m : List CP) (pm : Option Addr) (cm : Nat) (w : World) (hh : Has w (offR o)) (hcl : ∀ {L : List Res} {v : World}, St ⟨w, fpL (offR o)⟩ L v → Clouds v pm m) (hcn : m.length < 1000000000) (hok : specE o.sp = 0) (hlen : o.rc.length = o.rg.length) (hreg : ∀ r, r ∈ o.rc → r.x ∈ o.rg) (hpxb : ∀ x, x ∈ o.rg → x.r.pix.length < 1000000000000) (hrcb : ∀ r, r ∈ o.rc → r.rc.length < 1000000) (hlvb : ∀ r, r ∈ o.rc → r.lv.length < 1000000) (hop : ∀ r, r ∈ o.rc → lastI r.lv ≠ 0 → ∃ (k : Nat) (c : CsM), o.cs[k]? = some c ∧ r.op = some c.b) (hcsb : o.cs.length < 900000) (htsb : o.ts.length < 1000000) (hT1 : 0 ≤ T) (hT3 : T ≤ 4294967296) (hlate : o.ts = [] ∨ lastI o.ts < T) (hful : o.lg.length < 256) (hlk : lookE o.g (m.map CP.c) = 0) :
  Calls Try.prog 27 #[ptrN o.b, .int .i64 T, .slice pm m.length cm] w fun e w' => ∃ y : StepY, StepP o T (m.map CP.c) y ∧ e = .returned (.tuple #[.slice y.pe y.es.length y.ce, .int .i64 0]) ∧ St ⟨w, fpL (offR o)⟩ (own 62 7 y.pe y.ce (y.es.map evC) :: offR (y.o o T)) w' := by
  have hok2 := specOk hok
  obtain ⟨hgo, hN1, hN2, hpx, ⟨hr1, hr2⟩, ⟨hr3, hr4⟩, hr5, hr6⟩ := hok2
  simp only [OfM.sp] at hgo hN1 hN2 hpx hr1 hr2 hr3 hr4 hr5 hr6
  rw [List.length_map] at hN1 hN2
  have hpx2 : ∀ x, x ∈ o.rg → pixE o.g x.r.pix = 0 := fun x hx => by obtain ⟨k, hk⟩ := List.mem_iff_getElem?.1 hx; have := hpx k (by rw [List.length_map]; exact (List.getElem?_eq_some_iff.1 hk).1); rwa [getD_r hk] at this
  have hT2 : T ≤ 1000000000000 := by omega
  have hltl : ¬ (0 < o.ts.length ∧ T ≤ o.ts.getD (o.ts.length - 1) 0) := by rintro ⟨h1, h2⟩; rcases hlate with e | e; (· rw [e] at h1; simp at h1); (· unfold lastI at e; omega)
  refine enterO (vs := [_,_,_]) (env := [(0,_), (1,_), (2,_)]) hh.enter Try.func27 rfl rfl rfl rfl ?_
  refine VC.seq ?_
  refine VC.reg (VO.h rfl<|HO.box (C := #[_]) rfl rfl fun b11 => VO.l (LO.as (.r rfl)) rfl<|VO.l (LO.as (.r rfl)) rfl<|VO.nil ?_)
  refine VE.seqN ?_
  refine VC.seq ?_
  refine VC.block ?_
  refine VC.seq ?_
  refine VC.reg (VO.l (LO.ld O53 (.r rfl) (fun _ hw => cells_at hw 0 rfl ⟨_, rfl⟩)) rfl<|VO.l (LO.call (xs := [_]) (vs := [_]) C53 ⟨(.r rfl), trivial⟩ (fun w hw => nothing_c o w (by omega) (cells_at hw 1 rfl ⟨_, rfl⟩))) rfl<|VO.l (LO.as (.r rfl)) rfl<|VO.nil ?_)
  refine VE.seqN ?_
  refine VC.cond rfl (fun h15 => ?_) (fun h15 => ?_)
  ·
    (exfalso; omega)
  ·
    refine VC.seq ?_
    refine VC.reg (VO.l (LO.mv (.r rfl)) rfl<|VO.l (LO.call (xs := [_,_,_]) (vs := [_,_,_]) C45 ⟨(.r rfl), (.r rfl), (.r rfl), trivial⟩ (fun w _ => iwithin_c _ _ _ w)) rfl<|VO.l (LO.not (.r rfl)) rfl<|VO.l (LO.as (.r rfl)) rfl<|VO.nil ?_)
    refine VE.seqN ?_
    refine VC.cond rfl (fun h18 => ?_) (fun h18 => ?_)
    ·
      (exfalso; omega)
    ·
      refine VC.seq ?_
      refine VC.draw mixed (LL.l (LO.ld O53 (.r rfl) (fun _ hw => cells_at hw 0 rfl ⟨_, rfl⟩)) rfl<|LL.l (LO.nc (.r rfl)) rfl<|LL.l (LO.fa (r := 10) F117_2 (.r rfl) rfl) rfl<|LL.l (LO.ld O55 (.r rfl) (fun _ hw => cells_at hw 1 rfl ⟨_, rfl⟩)) rfl<|LL.l (LO.len S55 (.r rfl) rfl) rfl<|LL.l (LO.gt (.r rfl) (.r rfl)) rfl<|LL.l (LO.mv (.r rfl)) rfl<|LL.lg rfl rfl (GD.t _) (fun hg => LO.mv (.r rfl)) rfl<|LL.lg rfl rfl (GD.t _) (fun hg => LO.ld O53 (.r rfl) (fun _ hw => cells_at hw 0 rfl ⟨_, rfl⟩)) rfl<|LL.lg rfl rfl (GD.t _) (fun hg => LO.nc (.g hg rfl)) rfl<|LL.lg rfl rfl (GD.t _) (fun hg => LO.fa (r := 10) F117_2 (.g hg rfl) rfl) rfl<|LL.lg rfl rfl (GD.t _) (fun hg => LO.ld O55 (.g hg rfl) (fun _ hw => cells_at hw 1 rfl ⟨_, rfl⟩)) rfl<|LL.lg rfl rfl (GD.t _) (fun hg => LO.ld O53 (.r rfl) (fun _ hw => cells_at hw 0 rfl ⟨_, rfl⟩)) rfl<|LL.lg rfl rfl (GD.t _) (fun hg => LO.nc (.g hg rfl)) rfl<|LL.lg rfl rfl (GD.t _) (fun hg => LO.fa (r := 10) F117_2 (.g hg rfl) rfl) rfl<|LL.lg rfl rfl (GD.t _) (fun hg => LO.ld O55 (.g hg rfl) (fun _ hw => cells_at hw 1 rfl ⟨_, rfl⟩)) rfl<|LL.lg rfl rfl (GD.t _) (fun hg => LO.len S55 (.g hg rfl) rfl) rfl<|LL.lg rfl rfl (GD.t _) (fun hg => LO.sub (.g hg rfl) (.r rfl) (wi (by omega) (by omega))) rfl<|LL.lg rfl rfl (GD.t _) (fun hg => LO.ixo S55 N3 (fun _ hw => (own_rows hw 6 rfl).some (by rw [List.length_map])) (.g hg rfl) (.g hg rfl) (by have := of_decide_eq_true hg; omega) (by have := of_decide_eq_true hg; omega)) rfl<|LL.lg rfl rfl (GD.t _) (fun hg => LO.ld O3 (.g hg rfl) (fun w hw => cells_part (off := 0) (own_cell hw 6 rfl (getD_some (d := (0 : Int)) (j := o.ts.length - 1) (by have := of_decide_eq_true hg; omega))) ⟨_, rfl⟩)) rfl<|LL.lg rfl rfl (GD.t _) (fun hg => LO.le (.g hg rfl) (.g hg rfl)) rfl<|LL.l (LO.pkA (.r rfl) rfl rfl (.r rfl)) rfl<|LL.l (LO.as (.r rfl)) rfl<|LL.nil) (by kernel_rfl) ?_
      refine VE.seqN ?_
      refine VC.cond rfl (fun h22 => ?_) (fun h22 => ?_)
      ·
        (exfalso; exact hltl (by omega))
      ·
        refine VC.seq ?_
        refine VC.reg (VO.l (LO.ld O53 (.r rfl) (fun _ hw => cells_at hw 0 rfl ⟨_, rfl⟩)) rfl<|VO.l (LO.nc (.r rfl)) rfl<|VO.l (LO.fa (r := 12) F117_4 (.r rfl) rfl) rfl<|VO.l (LO.ld O115 (.r rfl) (fun _ hw => cells_at hw 1 rfl ⟨_, rfl⟩)) rfl<|VO.l (LO.len S115 (.r rfl) rfl) rfl<|VO.l (LO.ge (.r rfl) (.r rfl)) rfl<|VO.l (LO.as (.r rfl)) rfl<|VO.nil ?_)
        refine VE.seqN ?_
        refine VC.cond rfl (fun h45 => ?_) (fun h45 => ?_)
        ·
          (exfalso; omega)
        ·
          refine VC.skip (VE.inN (VE.seqN ?_))
          refine VC.seq ?_
          refine VC.reg (VO.l (LO.ld O53 (.r rfl) (fun _ hw => cells_at hw 0 rfl ⟨_, rfl⟩)) rfl<|VO.l (LO.nc (.r rfl)) rfl<|VO.l (LO.fa (r := 0) F117_0 (.r rfl) rfl) rfl<|VO.l (LO.lda (vs := [_,_,_,_,_,_,_,_,_]) A28 (.r rfl) (fun _ hw => cells_at hw 1 rfl ⟨_, rfl⟩) rfl) rfl<|VO.l (LO.mv (.r rfl)) rfl<|VO.h rfl<|HO.callx (xs := [_,_]) (vs := [_,_]) C46 ⟨(.r rfl), (.r rfl), trivial⟩ (fun w hw => look_c o.g o.pg o.rg.length o.cg o.lead o.step o.hold m pm cm w hr1 hr2 hr3 hr4 (by omega) (hcl hw)) fun q hq => VO.h rfl<|HO.lo (LO.mv (.r rfl))<|VO.h rfl<|HO.lo (LO.ex (.r rfl) rfl)<|VO.h rfl<|HO.lo (LO.ex (.r rfl) rfl)<|VO.h rfl<|HO.lo (LO.as (.r rfl))<|VO.h rfl<|HO.lo (LO.as (.r rfl))<|VO.nil ?_)
          refine VE.seqN ?_
          refine VC.seq ?_
          refine VC.seq ?_
          refine VC.reg (VO.l (LO.mv (.r rfl)) rfl<|VO.l (LO.ne (.r rfl) (.r rfl)) rfl<|VO.nil ?_)
          refine VE.seqN ?_
          refine VC.cond rfl (fun h62 => ?_) (fun h62 => ?_)
          ·
            (exfalso; exact h62 hlk)
          ·
            refine VC.skip (VE.seqN ?_)
            refine VC.seq ?_
            have hql0 : q.2.length ≤ 241 := by rw [← lsI_len, hq]; unfold lookL; rw [if_neg (by omega), lookI_len]; exact (look_bd hr1 hr2 hr3 hr4 (Nat.le_refl _)).2.2
            refine VC.drawH [[0,1,2,3,4,5,6,7,8,9,10,11,12], [0,1,2,3,4,5,6,7,8,9,10,11,12], [0,1,2,3,4,5,6,7,9,10,11,12], [0,1,2,4,5,6,7,9,10,11,12]] [some 2, some 1, some 1, some 1, some 1, some 0, none, none, some 2, some 2, none] mixed (by kernel_rfl) rfl (LX.l (fun _ hJ => LO.ld O53 (.r rfl) (fun _ hw => cells_at (hJ _ hw) 2 rfl ⟨_, rfl⟩)) rfl<|LX.l (fun _ hJ => LO.ld O53 (.r rfl) (fun _ hw => cells_at (hJ _ hw) 2 rfl ⟨_, rfl⟩)) rfl<|LX.l (fun _ hJ => LO.nc (.r rfl)) rfl<|LX.l (fun _ hJ => LO.fa (r := 10) F117_2 (.r rfl) rfl) rfl<|LX.l (fun _ hJ => LO.ld O55 (.r rfl) (fun _ hw => cells_at (hJ _ hw) 3 rfl ⟨_, rfl⟩)) rfl<|LX.l (fun _ hJ => LO.mv (.r rfl)) rfl<|LX.s<|LX.s<|LX.l (fun _ hJ => LO.nc (.r rfl)) rfl<|LX.l (fun _ hJ => LO.fa (r := 10) F117_2 (.r rfl) rfl) rfl<|LX.s<|LX.nil) (HX.s<|HX.s<|HX.s<|HX.s<|HX.s<|HX.s<|HX.h rfl<|HO.bs (ps := [(_,_)]) (vs := [(_,_)]) (Z := [_]) (C := [_]) S55 Z3 N3 ⟨(.r rfl), trivial⟩ rfl rfl rfl rfl ⟨_, [_], [_], rfl, rfl, rfl, rfl, rfl⟩ fun b16 => ⟨selJ (L1 := [_,_,_,_,_,_,_,_,_,_,_,_,_]) [1,2,3,4,5,6,7,8,9,10,11,12,13] rfl rfl rfl, HX.h rfl<|HO.appT (T) 9 0 (fun R => [_,_,_,_,_,_,_,_,_, R,_,_,_,_]) S55 S55 I3 (.r rfl) (.r rfl) rfl rfl rfl rfl rfl rfl rfl (fun _ => rfl) rfl (by omega) fun p7 c7 => ⟨selJ (L1 := [_,_,_,_,_,_,_,_,_,_,_,_]) [1,2,3,4,5,6,7,8,10,11,12,13] rfl rfl rfl, HX.s<|HX.s<|HX.h0<|HO.st 4 (vs := [_]) (C' := [_,_,_,_,_,_,_,_,_,_,_,_,_]) (L' := [_,_,_,_,_,_,_,_,_,_,_,_,_,_]) N55 rfl rfl rfl rfl rfl rfl rfl rfl<|⟨selJ (L1 := [_,_,_,_,_,_,_,_,_,_,_]) [1,2,3,5,6,7,8,10,11,12,13] rfl rfl rfl, HX.nil ?_⟩⟩⟩)
            refine VE.seqN ?_
            refine VC.seq ?_
            refine VC.drawH [[0,1,2,3,4,5,6,7,8,9,10,11,12,13], [0,1,2,3,4,5,6,7,8,9,10,11,12,13], [0,1,2,3,4,5,6,7,8,9,10,11,12,13], [0,1,2,3,4,5,6,7,8,9,10,11,12,13], [0,1,2,3,4,5,6,7,8,9,10,11,12,13], [0,1,2,3,4,5,6,7,8,9,10,11,13], [0,1,2,3,5,6,7,8,9,10,11,13]] [some 5, some 4, some 4, some 4, some 4, some 1, some 0, none, none, none, none, none, some 5, some 5, none] mixed (by kernel_rfl) rfl (LX.l (fun _ hJ => LO.ld O53 (.r rfl) (fun _ hw => cells_at (hJ _ hw) 3 rfl ⟨_, rfl⟩)) rfl<|LX.l (fun _ hJ => LO.ld O53 (.r rfl) (fun _ hw => cells_at (hJ _ hw) 3 rfl ⟨_, rfl⟩)) rfl<|LX.l (fun _ hJ => LO.nc (.r rfl)) rfl<|LX.l (fun _ hJ => LO.fa (r := 12) F117_4 (.r rfl) rfl) rfl<|LX.l (fun _ hJ => LO.ld O115 (.r rfl) (fun _ hw => cells_at (hJ _ hw) 4 rfl ⟨_, rfl⟩)) rfl<|LX.l (fun _ hJ => LO.mv (.r rfl)) rfl<|LX.l (fun _ hJ => LO.mv (.r rfl)) rfl<|LX.s<|LX.s<|LX.s<|LX.s<|LX.s<|LX.l (fun _ hJ => LO.nc (.r rfl)) rfl<|LX.l (fun _ hJ => LO.fa (r := 12) F117_4 (.r rfl) rfl) rfl<|LX.s<|LX.nil) (HX.s<|HX.s<|HX.s<|HX.s<|HX.s<|HX.s<|HX.s<|HX.h rfl<|HO.callx (xs := [_]) (vs := [_]) C56 ⟨(.r rfl), trivial⟩ (fun w hw => own_c m pm cm w hcn (hcl hw)) fun ql hql => ⟨selJ (L1 := [_,_,_,_,_,_,_,_,_,_,_,_,_,_]) [2,3,4,5,6,7,8,9,10,11,12,13,14,15] rfl rfl rfl, HX.h rfl<|HO.lo (LO.bd (ps := [(_,_), (_,_)]) (vs := [(_,_), (_,_)]) (C := [_,_]) B158  ⟨(.r rfl), (.r rfl), trivial⟩ rfl ⟨_, [_], [_,_], rfl, rfl, rfl, rfl, ⟨_, [_], [_,_], rfl, rfl, rfl, rfl, rfl⟩⟩)<|⟨selJ (L1 := [_,_,_,_,_,_,_,_,_,_,_,_,_,_]) [2,3,4,5,6,7,8,9,10,11,12,13,14,15] rfl rfl rfl, HX.h rfl<|HO.lo (LO.mi ⟨_, Try.underlying158, rfl⟩ (.r rfl))<|⟨selJ (L1 := [_,_,_,_,_,_,_,_,_,_,_,_,_,_]) [2,3,4,5,6,7,8,9,10,11,12,13,14,15] rfl rfl rfl, HX.h rfl<|HO.bs (ps := [(_,_)]) (vs := [(_,_)]) (Z := [_]) (C := [_]) S115 Z167 N167 ⟨(.r rfl), trivial⟩ rfl rfl rfl rfl ⟨_, [_], [_], rfl, rfl, rfl, rfl, rfl⟩ fun b24 => ⟨selJ (L1 := [_,_,_,_,_,_,_,_,_,_,_,_,_,_]) [3,4,5,6,7,8,9,10,11,12,13,14,15,16] rfl rfl rfl, HX.h rfl<|HO.appT ((LgM.st T ql.1.1 ql.1.2 ql.2)) 15 0 (fun R => [_,_,_,_,_,_,_,_,_,_,_,_,_,_,_, R,_]) S115 S115 I167 (.r rfl) (.r rfl) rfl rfl rfl rfl rfl rfl rfl (fun _ => rfl) rfl (by omega) fun p11 c11 => ⟨selJ (L1 := [_,_,_,_,_,_,_,_,_,_,_,_,_]) [3,4,5,6,7,8,9,10,11,12,13,14,16] rfl rfl rfl, HX.s<|HX.s<|HX.h0<|HO.st 7 (vs := [_]) (C' := [_,_,_,_,_,_,_,_,_,_,_,_,_]) (L' := [_,_,_,_,_,_,_,_,_,_,_,_,_,_,_,_,_]) N115 rfl rfl rfl rfl rfl rfl rfl rfl<|⟨selJ (L1 := [_,_,_,_,_,_,_,_,_,_,_,_]) [3,4,5,6,8,9,10,11,12,13,14,16] rfl rfl rfl, HX.nil ?_⟩⟩⟩⟩⟩⟩)
            refine VE.seqN ?_
            refine VC.seq ?_
            refine VC.reg (VO.h rfl<|HO.alloc (C := #[_]) Z60 rfl fun b26 => VO.nil ?_)
            refine VE.seqN ?_
            refine VC.seq ?_
            refine VC.reg (VO.h rfl<|HO.lo (LO.mf (cap := [_,_]) ⟨(.r rfl), (.r rfl), trivial⟩)<|VO.h rfl<|HO.lo (LO.as (.r rfl))<|VO.nil ?_)
            refine VE.seqN ?_
            refine VC.seq ?_
            refine VC.seq ?_
            refine VC.reg (VO.l (LO.ld O53 (.r rfl) (fun _ hw => cells_at hw 7 rfl ⟨_, rfl⟩)) rfl<|VO.l (LO.nc (.r rfl)) rfl<|VO.l (LO.fa (r := 9) F117_1 (.r rfl) rfl) rfl<|VO.l (LO.ld O113 (.r rfl) (fun _ hw => cells_at hw 8 rfl ⟨_, rfl⟩)) rfl<|VO.l (LO.len S113 (.r rfl) rfl) rfl<|VO.l (LO.mv (.r rfl)) rfl<|VO.nil ?_)
            refine VE.seqN ?_
            refine VC.block ?_
            refine VC.perm [0,8,14,15,12,1,2,3,4,5,6,7,9,10,11,13,16,17] rfl ?_
            refine VC.loopK (α := Nat × (List RcM) × (List CsM) × (Option Addr) × Nat × (List Ev) × (Option Addr) × Nat) 5 (fun gx => [(94, .int .i64 (gx.1 : Nat))]) [(1,_), (3,_), (8,_), (10,_), (11,_), (92,_), (93,_)] (fun gx => [blk b26 (.cells #[.slice gx.2.2.2.2.2.2.1 gx.2.2.2.2.2.1.length gx.2.2.2.2.2.2.2] 60), own 62 7 gx.2.2.2.2.2.2.1 gx.2.2.2.2.2.2.2 (gx.2.2.2.2.2.1.map evC), OfM.blk { o with ts := o.ts ++ [T], pt := p7, ct := c7, lg := o.lg ++ [LgM.st T ql.1.1 ql.1.2 ql.2], pl := p11, cl := c11, cs := gx.2.2.1, pk := gx.2.2.2.1, ck := gx.2.2.2.2.1 }, own 150 1 gx.2.2.2.1 gx.2.2.2.2.1 (gx.2.2.1.map csP), bagD (gx.2.2.1.map CsM.blk), bagD (gx.2.1.map RcM.res ++ (o.rc.drop gx.1).map RcM.res)]) (fun gx => gx.1 ≤ o.rc.length ∧ RunP (lsI q.2) o.step o.hold T o.cs (o.rc.take gx.1) gx.2.1 gx.2.2.1 gx.2.2.2.2.2.1) (fun gx => o.rc.length - gx.1) (0, [], o.cs, o.pk, o.ck, [], none, 0) (by exact ⟨Nat.zero_le _, .nil⟩) (.cons rfl (.cons rfl (.cons rfl (.cons rfl (.cons rfl (.cons rfl (.cons rfl (.cons rfl .nil)))))))) (fun _ h => ((h.ownNil 62 7)).sel [1,0,2,3,4,5,6,7,8,9,10,11,12,13,14,15,16,17,18] rfl) ?_
            rintro ⟨j, ds, cs_, pk_, ck_, es_, pe_, ce_⟩ ⟨hj, hR⟩
            show VC _ _ _ _ _ ([(94, .int .i64 (j : Nat))] ++ _) ([blk b26 (.cells #[.slice pe_ es_.length ce_] 60), own 62 7 pe_ ce_ (es_.map evC), OfM.blk { o with ts := o.ts ++ [T], pt := p7, ct := c7, lg := o.lg ++ [LgM.st T ql.1.1 ql.1.2 ql.2], pl := p11, cl := c11, cs := cs_, pk := pk_, ck := ck_ }, own 150 1 pk_ ck_ (cs_.map csP), bagD (cs_.map CsM.blk), bagD (ds.map RcM.res ++ (o.rc.drop j).map RcM.res)] ++ _) _ _
            dsimp only at hj hR
            have hkp := run_keep hR
            have hkl : (o.rc.take j).length = j := by rw [List.length_take]; omega
            rw [hkl] at hkp
            refine VC.seq ?_
            refine VC.reg (VO.l (LO.lt (.r rfl) (.r rfl)) rfl<|VO.nil ?_)
            refine VE.seqN ?_
            refine VC.seq ?_
            refine VC.cond rfl (fun h95 => ?_) (fun h95 => ?_)
            ·
              obtain ⟨r, hr⟩ : ∃ r, o.rc[j]? = some r := ⟨_, List.getElem?_eq_getElem (by omega)⟩
              have hrm : r ∈ o.rc := List.mem_of_getElem? hr
              have hrx := hreg r hrm
              refine VC.skip (VE.seqN ?_)
              refine VC.seq ?_
              refine VC.block ?_
              refine VC.seq ?_
              refine VC.reg (VO.l (LO.ixo S113 N151 (fun _ hw => (own_rows hw 15 rfl).some (by rw [List.length_map])) (.r rfl) (.r rfl) rfl (by omega)) rfl<|VO.l (LO.ld O151 (.r rfl) (fun w hw => cells_part (off := 0) (own_cell hw 15 rfl hr) ⟨_, rfl⟩)) rfl<|VO.l (LO.as (.r rfl)) rfl<|VO.nil ?_)
              refine VE.resL (fun w hw => St.recOut hr (selK (L1 := [_,_,_,_,_,_,_,_,_,_,_,_,_,_,_,_,_,_,_]) [5,0,1,2,3,4,6,7,8,9,10,11,12,13,14,15,16,17,18] rfl rfl _ hw)) ?_
              refine VE.seqN ?_
              refine VC.seq ?_
              refine VC.reg (VO.l (LO.mv (.r rfl)) rfl<|VO.l (LO.mf2 (first := [_]) (cap := []) ⟨(.r rfl), trivial⟩ trivial) rfl<|VO.h rfl<|HO.lo (LO.as (.r rfl))<|VO.nil ?_)
              refine VE.seqN ?_
              refine VC.drawH [[0,1,2,3,4,5,6,7,8,9,10,11,12,13,14,15,16,17,18,19,20,21], [3,9,10,11,12,13,14,16,17,18,19,20,21]] [some 0, some 0, some 0, some 0, some 0, some 0, some 0, some 0, some 0, some 0, some 0, some 0, some 0, some 0, some 0, some 0, some 0, some 0, some 0, some 0, some 0, none] mixed (by kernel_rfl) rfl (LX.l (fun _ hJ => LO.mv (.r rfl)) rfl<|LX.l (fun _ hJ => LO.mv (.r rfl)) rfl<|LX.l (fun _ hJ => LO.nc (.r rfl)) rfl<|LX.l (fun _ hJ => LO.fa (r := 0) F156_0 (.r rfl) rfl) rfl<|LX.l (fun _ hJ => LO.lda (vs := [_,_]) A74 (.r rfl) (fun _ hw => cells_at (hJ _ hw) 0 rfl ⟨_, rfl⟩) rfl) rfl<|LX.l (fun _ hJ => LO.mv (.r rfl)) rfl<|LX.l (fun _ hJ => LO.ld O53 (.r rfl) (fun _ hw => cells_at (hJ _ hw) 15 rfl ⟨_, rfl⟩)) rfl<|LX.l (fun _ hJ => LO.nc (.r rfl)) rfl<|LX.l (fun _ hJ => LO.fa (r := 0) F117_0 (.r rfl) rfl) rfl<|LX.l (fun _ hJ => LO.fa (r := 6) F28_2 (.r rfl) rfl) rfl<|LX.l (fun _ hJ => LO.fa (r := 7) F26_1 (.r rfl) rfl) rfl<|LX.l (fun _ hJ => LO.ld O3 (.r rfl) (fun _ hw => cells_at (hJ _ hw) 6 rfl ⟨_, rfl⟩)) rfl<|LX.l (fun _ hJ => LO.call (xs := [_,_,_]) (vs := [_,_,_]) C47 ⟨(.r rfl), (.r rfl), (.r rfl), trivial⟩ (fun w hw => threat_c r.x q.2 _ _ o.step w (pix_read (St.inv (hJ _ hw) 17 _ rfl) hrx) (hpxb r.x hrx) (RR.of_own (hJ _ hw) 13 14 rfl rfl) (by omega) (by omega) hr4 (look_pix hr1 hr2 hr3 hr4 hq hlk (hpx2 r.x hrx) hgo))) rfl<|LX.l (fun _ hJ => LO.mv (.r rfl)) rfl<|LX.l (fun _ hJ => LO.ld O53 (.r rfl) (fun _ hw => cells_at (hJ _ hw) 15 rfl ⟨_, rfl⟩)) rfl<|LX.l (fun _ hJ => LO.nc (.r rfl)) rfl<|LX.l (fun _ hJ => LO.fa (r := 0) F117_0 (.r rfl) rfl) rfl<|LX.l (fun _ hJ => LO.fa (r := 6) F28_2 (.r rfl) rfl) rfl<|LX.l (fun _ hJ => LO.fa (r := 8) F26_2 (.r rfl) rfl) rfl<|LX.l (fun _ hJ => LO.ld O3 (.r rfl) (fun _ hw => cells_at (hJ _ hw) 6 rfl ⟨_, rfl⟩)) rfl<|LX.l (fun _ hJ => LO.mv (.r rfl)) rfl<|LX.s<|LX.nil) (HX.s<|HX.s<|HX.s<|HX.s<|HX.s<|HX.s<|HX.s<|HX.s<|HX.s<|HX.s<|HX.s<|HX.s<|HX.s<|HX.s<|HX.s<|HX.s<|HX.s<|HX.s<|HX.s<|HX.s<|HX.s<|HX.h rfl<|HO.callP (first := [_]) (cap := []) (xs := [_,_,_,_]) (vs := [_,_,_,_]) [_,_,_,_,_,_,_,_,_] [_,_,_,_,_,_,_,_,_,_,_,_,_] (selK (L1 := [_,_,_,_,_,_,_,_,_] ++ [_,_,_,_,_,_,_,_,_,_,_,_,_]) [15,4,5,6,7,8,0,1,2,3,9,10,11,12,13,14,16,17,18,19,20,21] rfl rfl) (.r rfl) C58 ⟨(.r rfl), (.r rfl), (.r rfl), (.r rfl), trivial⟩ (fun w _ hh => meet_c { o with ts := o.ts ++ [T], pt := p7, ct := c7, lg := o.lg ++ [LgM.st T ql.1.1 ql.1.2 ql.2], pl := p11, cl := c11, cs := cs_, pk := pk_, ck := ck_ } r (thr (lsI q.2) r.x.r.pix o.step) T o.hold es_ pe_ ce_ b11 b26 w (by show cs_.length < 1000000; omega) (by omega) (hrcb r hrm) (hlvb r hrm) hT1 hT2 hr5 (by omega) (fun hq => by obtain ⟨k, c, hc, he⟩ := hop r hrm hq; obtain ⟨c', h1, h2⟩ := hkp.1 k c hc; exact ⟨k, c', h1, by rw [he, h2]⟩) hh) fun y hy => ⟨selJ (L1 := [_,_,_,_,_,_,_,_,_,_,_,_,_]) [9,10,11,12,13,14,15,16,17,18,19,20,21] rfl rfl rfl, HX.nil ?_⟩)
              refine VE.inN (VE.seqN ?_)
              refine VC.reg (VO.l (LO.add (.r rfl) (.r rfl) (wi (by omega) (by omega))) rfl<|VO.l (LO.mv (.r rfl)) rfl<|VO.nil ?_)
              refine VE.thenN fun a w ha hw => ⟨(j + 1, ds ++ [y.r], y.cs, y.pk, y.ck, y.es, y.pe, y.ce), ⟨by dsimp only; omega, by dsimp only; rw [List.take_add_one, hr]; exact .snoc hR hy⟩, (by dsimp only; omega), ha.sub (.cons rfl (.cons rfl (.cons rfl (.cons rfl (.cons rfl (.cons rfl (.cons rfl (.cons rfl .nil)))))))), (by exact selK (L1 := [_,_,_,_,_,_,_,_,_,_,_,_,_,_,_,_,_,_,_]) [1,2,3,4,5,0,6,7,8,9,10,11,12,13,14,15,16,17,18] rfl rfl _ (St.recIn y.r (selK (L1 := [_,_,_,_,_,_,_,_,_,_,_,_,_,_,_,_,_,_,_,_,_,_]) [6,7,8,9,1,2,3,4,5,10,11,12,13,14,15,0,16,17,18,19,20,21] rfl rfl _ hw)))⟩
            ·
              refine VC.exit (VE.thenX (VE.thenX (VE.inX (VE.seqN ?_))))
              refine VC.seq ?_
              refine VC.reg (VO.l (LO.ld O60 (.r rfl) (fun _ hw => cells_at hw 0 rfl ⟨_, rfl⟩)) rfl<|VO.l (LO.as (.r rfl)) rfl<|VO.l (LO.as (.r rfl)) rfl<|VO.nil ?_)
              refine VE.seqN ?_
              refine VC.ret (VE.res (vs := [_,_]) rfl ⟨rfl, rfl, trivial⟩ (fun w hw => ?_))
              have hje : j = o.rc.length := by omega
              have hds : o.rc.take j = o.rc := by rw [hje, List.take_length]
              rw [hds] at hR
              have hk2 := run_keep hR
              refine ⟨⟨ds, cs_, pk_, ck_, es_, pe_, ce_, p7, c7, LgM.st T ql.1.1 ql.1.2 ql.2, p11, c11⟩, ⟨by rw [← hq]; exact hR,_,_,_, rfl, hql⟩, rfl, ?_⟩
              have e1 : o.lg.flatMap LgM.res ++ [own 80 7 ql.1.1 ql.1.2 (ql.2.map CP.cells), bagD (ql.2.flatMap cpR)] = (o.lg ++ [LgM.st T ql.1.1 ql.1.2 ql.2]).flatMap LgM.res := by rw [List.flatMap_append]; rfl
              have e2 : ds.map RcM.res ++ (o.rc.drop j).map RcM.res = ds.map RcM.res := by rw [hje, List.drop_length]; simp
              have e3 : ds.length = o.rc.length := hk2.2.2.2.2
              show St _ [own 62 7 pe_ ce_ (es_.map evC), Go.SL.blk o.b (.cells #[_,_,_,_,_,_,_,_,_, .slice o.pc ds.length o.cc,_,_,_] 117), o.rgR, o.pxB, own 151 1 o.pc o.cc (ds.map rcP), bagD (ds.map RcM.res), own 3 1 p7 c7 ((o.ts ++ [T]).map iC), own 150 1 pk_ ck_ (cs_.map csP), bagD (cs_.map CsM.blk), own 167 1 p11 c11 ((o.lg ++ [LgM.st T ql.1.1 ql.1.2 ql.2]).map LgM.val), bagD ((o.lg ++ [LgM.st T ql.1.1 ql.1.2 ql.2]).flatMap LgM.res)] _
              rw [← e1, ← e2, hk2.2.2.2.1, e3]
              exact (St.bagAdd2 (selK (L1 := [_,_,_,_,_,_,_,_,_,_,_,_,_]) [7,8,18,1,2,13,14,15,5,16,3,4,17] rfl rfl _ hw)).sel [1,2,3,4,5,6,7,8,9,10,0] rfl

end Go.Proofs.Ytdjflomhaljljaa

namespace Go.Proofs.Ytdjflomhaljljaa
open Go.SL Go.Proofs Go.Cast
set_option linter.unusedVariables false

theorem B76 : Builds Try.prog 76 [(0,1), (1,1)] [.int .i64 0, .int .i64 0] := Builds.mk fun _ => by kernel_rfl
theorem C40 : IsFn Try.prog 40 := ⟨_, Try.func40, by decide, rfl⟩
theorem B78 : Builds Try.prog 78 [(0,2), (2,2)] [.int .i64 0, .int .i64 0, .int .i64 0, .int .i64 0] := Builds.mk fun _ => by kernel_rfl
theorem B80 : Builds Try.prog 80 [(0,1), (1,1), (2,4), (6,1)] [.slice none 0 0, .slice none 0 0, .int .i64 0, .int .i64 0, .int .i64 0, .int .i64 0, .int .i64 0] := Builds.mk fun _ => by kernel_rfl
theorem C38 : IsFn Try.prog 38 := ⟨_, Try.func38, by decide, rfl⟩
theorem Z28 : ZeroOf Try.prog 28 (.agg #[.int .i64 0, .int .i64 0, .int .i64 0, .int .i64 0, .int .i64 0, .slice none 0 0, .int .i64 0, .int .i64 0, .int .i64 0]) := by unfold ZeroOf; kernel_rfl
theorem B23 : Builds Try.prog 23 [(0,1), (1,1), (2,1), (3,1), (4,1)] [.int .i64 0, .int .i64 0, .int .i64 0, .int .i64 0, .int .i64 0] := Builds.mk fun _ => by kernel_rfl
theorem B74 : Builds Try.prog 74 [(0,1), (1,1)] [.string ByteArray.empty, .slice none 0 0] := Builds.mk fun _ => by kernel_rfl
theorem B26 : Builds Try.prog 26 [(0,1), (1,1), (2,1)] [.int .i64 0, .int .i64 0, .int .i64 0] := Builds.mk fun _ => by kernel_rfl
theorem B28 : Builds Try.prog 28 [(0,5), (5,1), (6,3)] [.int .i64 0, .int .i64 0, .int .i64 0, .int .i64 0, .int .i64 0, .slice none 0 0, .int .i64 0, .int .i64 0, .int .i64 0] := Builds.mk fun _ => by kernel_rfl
theorem N28 : (Try.prog.info? 28).map (·.size) = some 9 := by kernel_rfl


theorem rec_read {w : World} {o : OfM} (hh : Has w (offR o)) {r : RcM} (hr : r ∈ o.rc) : Cells w ⟨r.b, 0, none⟩ r.C ∧ RO 2 rchC w r.pr r.rc ∧ RO 1 iC w r.pv r.lv := by
  have h1 := (St.inv hh 4 _ rfl).1 _ (List.mem_map_of_mem (f := RcM.res) hr)
  exact ⟨cells_inv (h1.1 r.blk (by simp)), own_inv_rows (h1.1 r.rcR (by simp)), own_inv_rows (h1.1 r.lvR (by simp))⟩
theorem off_cells {w : World} {o : OfM} (hh : Has w (offR o)) : Cells w ⟨o.b, 0, none⟩ o.C := cells_inv (St.inv hh 0 _ rfl)
def levelsL (o : OfM) : List Int := o.rc.map fun r => lastI r.lv
theorem restInv {β : Bs} {R rest L : List Res} {w v : World} (h : St β (R ++ rest) w) (hs : St ⟨w, fpL R⟩ L v) {r : Res} (hr : r ∈ rest) : r.inv v := (h.callG (fun k hk => hk) hs).mem (List.mem_append_right _ hr)

def cD : Cloud := ⟨[7,8], [6,7,8], ⟨3000,3000,0,0⟩, 0⟩
def sEast : ByteArray := ⟨#[101,97,115,116]⟩
def sWest : ByteArray := ⟨#[119,101,115,116]⟩

set_option maxRecDepth 20000 in
theorem Levels_c (o : OfM) (w : World) (hn : o.rc.length < 1000000) (hp : 0 < o.rc.length) (hlv : ∀ r, r ∈ o.rc → r.lv.length < 1000000000000) (hh : Has w (offR o)) :
  Calls Try.prog 24 #[ptrN o.b] w fun e w' => ∃ x : Option Addr × Nat, True ∧ e = .returned (.slice x.1 (levelsL o).length x.2) ∧ St (bs w) [own 3 1 x.1 x.2 ((levelsL o).map iC)] w' := by
  have hrr : RO 1 rcP w o.pc o.rc := RO.of_own hh 3 rfl
  refine enter (vs := [_]) (env := [(0,_)]) Try.func24 rfl rfl rfl rfl ?_
  refine VC.seq ?_
  refine VC.reg (VO.l (LO.as (.r rfl)) rfl<|VO.nil ?_)
  refine VE.seqN ?_
  refine VC.seq ?_
  refine VC.seq ?_
  refine VC.reg (VO.l (LO.mv (.r rfl)) rfl<|VO.l (LO.call (xs := [_]) (vs := [_]) C53 ⟨(.r rfl), trivial⟩ (fun w hw => nothing_c o w (by omega) (off_cells (hh.keep hw)))) rfl<|VO.nil ?_)
  refine VE.seqN ?_
  refine VC.cond rfl (fun h7 => ?_) (fun h7 => ?_)
  ·
    (exfalso; omega)
  ·
    refine VC.skip (VE.seqN ?_)
    refine VC.seq ?_
    refine VC.reg (VO.l (LO.as (.r rfl)) rfl<|VO.nil ?_)
    refine VE.seqN ?_
    refine VC.seq ?_
    refine VC.seq ?_
    refine VC.reg (VO.l (LO.mv (.r rfl)) rfl<|VO.l (LO.nc (.r rfl)) rfl<|VO.l (LO.fa (r := 9) F117_1 (.r rfl) rfl) rfl<|VO.l (LO.ld O113 (.r rfl) (cells_keep (sub_cells (off := 9) (off_cells hh) ⟨_, rfl⟩))) rfl<|VO.l (LO.len S113 (.r rfl) rfl) rfl<|VO.l (LO.mv (.r rfl)) rfl<|VO.nil ?_)
    refine VE.seqN ?_
    refine VC.block ?_
    refine VC.loopK (α := Nat × (List Int) × (Option Addr) × Nat) 0 (fun gx => [(3, .slice gx.2.2.1 gx.2.1.length gx.2.2.2), (13, .int .i64 (gx.1 : Nat))]) [(11,_), (12,_)] (fun gx => [own 3 1 gx.2.2.1 gx.2.2.2 (gx.2.1.map iC)]) (fun gx => gx.1 ≤ o.rc.length ∧ gx.2.1 = (levelsL o).take gx.1) (fun gx => o.rc.length - gx.1) (0, [], none, 0) (by exact ⟨Nat.zero_le _, rfl⟩) (.cons rfl (.cons rfl (.cons rfl (.cons rfl .nil)))) (fun _ h => (h.ownNil 3 1)) ?_
    rintro ⟨j, xs, px_, cx_⟩ ⟨hj, hX⟩
    show VC _ _ _ _ _ ([(3, .slice px_ xs.length cx_), (13, .int .i64 (j : Nat))] ++ _) ([own 3 1 px_ cx_ (xs.map iC)] ++ _) _ _
    dsimp only at hj hX
    have hxl : xs.length = j := by rw [hX]; simp [levelsL]; omega
    refine VC.seq ?_
    refine VC.reg (VO.l (LO.lt (.r rfl) (.r rfl)) rfl<|VO.nil ?_)
    refine VE.seqN ?_
    refine VC.seq ?_
    refine VC.cond rfl (fun h14 => ?_) (fun h14 => ?_)
    ·
      obtain ⟨r, hr⟩ : ∃ r, o.rc[j]? = some r := ⟨_, List.getElem?_eq_getElem (by omega)⟩
      have hrm : r ∈ o.rc := List.mem_of_getElem? hr
      refine VC.skip (VE.seqN ?_)
      refine VC.seq ?_
      refine VC.block ?_
      refine VC.seq ?_
      refine VC.reg (VO.l (LO.ixs S113 N151 hrr.sm (.r rfl) (.r rfl) rfl (by omega)) rfl<|VO.l (LO.ld O151 (.r rfl) (fun w hw => cells_part (off := 0) ((fun w2 hw2 => (hrr.keep w2 hw2).cells _ _ (by rw [List.getElem?_map, hr]; rfl)) w hw) ⟨_, rfl⟩)) rfl<|VO.l (LO.as (.r rfl)) rfl<|VO.nil ?_)
      refine VE.seqN ?_
      refine VC.reg (VO.l (LO.mv (.r rfl)) rfl<|VO.l (LO.mv (.r rfl)) rfl<|VO.l (LO.call (xs := [_]) (vs := [_]) C54 ⟨(.r rfl), trivial⟩ (fun w hw => level_c r w (hlv r hrm) (rec_read (hh.keep hw) hrm).1 (rec_read (hh.keep hw) hrm).2.2)) rfl<|VO.h rfl<|HO.bs (ps := [(_,_)]) (vs := [(_,_)]) (Z := [_]) (C := [_]) S55 Z3 N3 ⟨(.r rfl), trivial⟩ rfl rfl rfl rfl ⟨_, [_], [_], rfl, rfl, rfl, rfl, rfl⟩ fun b2 => VO.h rfl<|HO.appT ((lastI r.lv)) 1 0 (fun R => [_, R]) S55 S55 I3 (.r rfl) (.r rfl) rfl rfl rfl rfl rfl rfl rfl (fun _ => rfl) rfl (by omega) fun p4 c4 => VO.h rfl<|HO.lo (LO.as (.r rfl))<|VO.nil ?_)
      refine VE.inN (VE.seqN ?_)
      refine VC.reg (VO.l (LO.add (.r rfl) (.r rfl) (wi (by omega) (by omega))) rfl<|VO.l (LO.mv (.r rfl)) rfl<|VO.nil ?_)
      refine VE.thenN fun a w ha hw => ⟨(j + 1, xs ++ [lastI r.lv], p4, c4), ⟨by dsimp only; omega, by dsimp only; unfold levelsL; rw [List.take_add_one, List.getElem?_map, hr, hX]; rfl⟩, (by dsimp only; omega), ha.sub (.cons rfl (.cons rfl (.cons rfl (.cons rfl .nil)))), hw.sel [1] rfl⟩
    ·
      refine VC.exit (VE.thenX (VE.thenX (VE.inX (VE.seqN ?_))))
      refine VC.seq ?_
      refine VC.reg (VO.l (LO.mv (.r rfl)) rfl<|VO.l (LO.as (.r rfl)) rfl<|VO.nil ?_)
      refine VE.seqN ?_
      refine VC.ret (VE.res (vs := [_]) rfl ⟨rfl, trivial⟩ (fun w hw => ?_))
      have hx2 : xs = levelsL o := by rw [hX, List.take_of_length_le (by simp [levelsL]; omega)]
      rw [← hx2]
      exact ⟨(px_, cx_), trivial, rfl, hw.sel [0] rfl⟩

set_option maxRecDepth 20000 in
theorem point_c (n : Int) (w : World) :
  Calls Try.prog 40 #[.int .i64 n] w fun e w' => e = .returned (.agg #[.int .i64 n, .int .i64 n]) ∧ St (bs w) [] w' := by
  refine enter (vs := [_]) (env := [(0,_)]) Try.func40 rfl rfl rfl rfl ?_
  refine VC.seq ?_
  refine VC.reg (VO.h rfl<|HO.alloc (C := #[_,_]) Z76 rfl fun b1 => VO.nil ?_)
  refine VE.seqN ?_
  refine VC.seq ?_
  refine VC.reg (VO.l (LO.mv (.r rfl)) rfl<|VO.l (LO.mv (.r rfl)) rfl<|VO.l (LO.bd (ps := [(_,_), (_,_)]) (vs := [(_,_), (_,_)]) (C := [_,_]) B76  ⟨(.r rfl), (.r rfl), trivial⟩ rfl ⟨_, [_], [_,_], rfl, rfl, rfl, rfl, ⟨_, [_], [_,_], rfl, rfl, rfl, rfl, rfl⟩⟩) rfl<|VO.h0<|HO.st 0 (vs := [_,_]) (C' := [_,_]) (L' := [_]) N76 rfl rfl rfl rfl rfl rfl rfl rfl<|VO.nil ?_)
  refine VE.seqN ?_
  refine VC.ret (VE.res (vs := [_]) rfl ⟨RV.agg (vs := [_,_]) A76 rfl (cells_blk 0 rfl ⟨_, rfl⟩) rfl, trivial⟩ (fun w hw => ?_))
  exact ⟨rfl, hw.nil⟩

set_option maxRecDepth 20000 in
theorem C_c (w : World) :
  Calls Try.prog 38 #[] w fun e w' => ∃ q : Nat × Nat, True ∧ e = .returned (cloudV (some ⟨q.1,0, none⟩) 2 (some ⟨q.2,0, none⟩) 3 cC) ∧ St (bs w) [blk q.2 (.cells #[.int .i64 6, .int .i64 7, .int .i64 8] 3), blk q.1 (.cells #[.int .i64 7, .int .i64 8] 3)] w' := by
  refine enter (vs := []) (env := []) Try.func38 rfl rfl rfl rfl ?_
  refine VC.seq ?_
  refine VC.reg (VO.h rfl<|HO.alloc (C := #[_,_,_,_,_,_,_]) Z80 rfl fun b1 => VO.nil ?_)
  refine VE.seqN ?_
  refine VC.seq ?_
  refine VC.reg (VO.h rfl<|HO.bs (ps := [(_,_), (_,_)]) (vs := [(_,_), (_,_)]) (Z := [_,_]) (C := [_,_]) S55 Z3 N3 ⟨(.r rfl), (.r rfl), trivial⟩ rfl rfl rfl rfl ⟨_, [_], [_,_], rfl, rfl, rfl, rfl, ⟨_, [_], [_,_], rfl, rfl, rfl, rfl, rfl⟩⟩ fun b2 => VO.h rfl<|HO.bs (ps := [(_,_), (_,_), (_,_)]) (vs := [(_,_), (_,_), (_,_)]) (Z := [_,_,_]) (C := [_,_,_]) S55 Z3 N3 ⟨(.r rfl), (.r rfl), (.r rfl), trivial⟩ rfl rfl rfl rfl ⟨_, [_], [_,_,_], rfl, rfl, rfl, rfl, ⟨_, [_], [_,_,_], rfl, rfl, rfl, rfl, ⟨_, [_], [_,_,_], rfl, rfl, rfl, rfl, rfl⟩⟩⟩ fun b3 => VO.l (LO.call (xs := [_]) (vs := [_]) C40 ⟨(.r rfl), trivial⟩ (fun w _ => point_c _ w)) rfl<|VO.l (LO.bd (ps := [(_,_)]) (vs := [(_,_)]) (C := [_,_,_,_]) B78  ⟨(.r rfl), trivial⟩ rfl ⟨_, [_,_], [_,_,_,_], rfl, rfl, rfl, rfl, rfl⟩) rfl<|VO.h rfl<|HO.lo (LO.bd (ps := [(_,_), (_,_), (_,_)]) (vs := [(_,_), (_,_), (_,_)]) (C := [_,_,_,_,_,_,_]) B80  ⟨(.r rfl), (.r rfl), (.r rfl), trivial⟩ rfl ⟨_, [_], [_,_,_,_,_,_,_], rfl, rfl, rfl, rfl, ⟨_, [_], [_,_,_,_,_,_,_], rfl, rfl, rfl, rfl, ⟨_, [_,_,_,_], [_,_,_,_,_,_,_], rfl, rfl, rfl, rfl, rfl⟩⟩⟩)<|VO.h0<|HO.st 2 (vs := [_,_,_,_,_,_,_]) (C' := [_,_,_,_,_,_,_]) (L' := [_,_,_]) N80 rfl rfl rfl rfl rfl rfl rfl rfl<|VO.nil ?_)
  refine VE.seqN ?_
  refine VC.ret (VE.res (vs := [_]) rfl ⟨RV.agg (vs := [_,_,_,_,_,_,_]) A80 rfl (cells_blk 2 rfl ⟨_, rfl⟩) rfl, trivial⟩ (fun w hw => ?_))
  exact ⟨(b2, b3), trivial, rfl, hw.sel [0,1] rfl⟩

set_option maxRecDepth 20000 in
theorem D_c (w : World) :
  Calls Try.prog 39 #[] w fun e w' => ∃ q : Nat × Nat, True ∧ e = .returned (cloudV (some ⟨q.1,0, none⟩) 2 (some ⟨q.2,0, none⟩) 3 cD) ∧ St (bs w) [blk q.2 (.cells #[.int .i64 6, .int .i64 7, .int .i64 8] 3), blk q.1 (.cells #[.int .i64 7, .int .i64 8] 3)] w' := by
  refine enter (vs := []) (env := []) Try.func39 rfl rfl rfl rfl ?_
  refine VC.seq ?_
  refine VC.reg (VO.h rfl<|HO.alloc (C := #[_,_,_,_,_,_,_]) Z80 rfl fun b1 => VO.nil ?_)
  refine VE.seqN ?_
  refine VC.seq ?_
  refine VC.reg (VO.h rfl<|HO.callx (xs := []) (vs := []) C38 trivial (fun w _ => C_c w) fun q _ => VO.h rfl<|HO.alloc (C := #[_,_,_,_,_,_,_]) Z80 rfl fun b4 => VO.h0<|HO.st 0 (vs := [_,_,_,_,_,_,_]) (C' := [_,_,_,_,_,_,_]) (L' := [_,_,_,_]) N80 rfl rfl rfl rfl rfl rfl rfl rfl<|VO.nil ?_)
  refine VE.seqN ?_
  refine VC.seq ?_
  refine VC.reg (VO.l (LO.call (xs := [_]) (vs := [_]) C40 ⟨(.r rfl), trivial⟩ (fun w _ => point_c _ w)) rfl<|VO.l (LO.fa (r := 2) F80_2 (.r rfl) rfl) rfl<|VO.l (LO.fa (r := 2) F78_0 (.r rfl) rfl) rfl<|VO.h0<|HO.st 0 (vs := [_,_]) (C' := [_,_,_,_,_,_,_]) (L' := [_,_,_,_]) N76 rfl rfl rfl rfl rfl rfl rfl rfl<|VO.nil ?_)
  refine VE.seqN ?_
  refine VC.seq ?_
  refine VC.reg (VO.l (LO.lda (vs := [_,_,_,_,_,_,_]) A80 (.r rfl) (fun _ hw => cells_at hw 0 rfl ⟨_, rfl⟩) rfl) rfl<|VO.h0<|HO.st 3 (vs := [_,_,_,_,_,_,_]) (C' := [_,_,_,_,_,_,_]) (L' := [_,_,_,_]) N80 rfl rfl rfl rfl rfl rfl rfl rfl<|VO.nil ?_)
  refine VE.seqN ?_
  refine VC.ret (VE.res (vs := [_]) rfl ⟨RV.agg (vs := [_,_,_,_,_,_,_]) A80 rfl (cells_blk 3 rfl ⟨_, rfl⟩) rfl, trivial⟩ (fun w hw => ?_))
  exact ⟨q, trivial, rfl, hw.sel [1,2] rfl⟩

set_option maxRecDepth 20000 in
theorem S_c (w : World) :
  Calls Try.prog 30 #[] w fun e w' => ∃ q : Nat × Nat × Nat, True ∧ e = .returned (specV gG (some ⟨q.1,0, none⟩) 2 2 1000 500 600) ∧ St (bs w) [blk q.1 (.cells #[.string sEast, .slice (some ⟨q.2.1,0, none⟩) 4 4, .string sWest, .slice (some ⟨q.2.2,0, none⟩) 3 3] 74), blk q.2.1 (.cells #[.int .i64 4, .int .i64 5, .int .i64 10, .int .i64 11] 3), blk q.2.2 (.cells #[.int .i64 0, .int .i64 6, .int .i64 12] 3)] w' := by
  refine enter (vs := []) (env := []) Try.func30 rfl rfl rfl rfl ?_
  refine VC.seq ?_
  refine VC.reg (VO.h rfl<|HO.alloc (C := #[_,_,_,_,_,_,_,_,_]) Z28 rfl fun b1 => VO.nil ?_)
  refine VE.seqN ?_
  refine VC.seq ?_
  refine VC.reg (VO.l (LO.bd (ps := [(_,_), (_,_), (_,_)]) (vs := [(_,_), (_,_), (_,_)]) (C := [_,_,_,_,_]) B23  ⟨(.r rfl), (.r rfl), (.r rfl), trivial⟩ rfl ⟨_, [_], [_,_,_,_,_], rfl, rfl, rfl, rfl, ⟨_, [_], [_,_,_,_,_], rfl, rfl, rfl, rfl, ⟨_, [_], [_,_,_,_,_], rfl, rfl, rfl, rfl, rfl⟩⟩⟩) rfl<|VO.h rfl<|HO.bs (ps := [(_,_), (_,_), (_,_), (_,_)]) (vs := [(_,_), (_,_), (_,_), (_,_)]) (Z := [_,_,_,_]) (C := [_,_,_,_]) S55 Z3 N3 ⟨(.r rfl), (.r rfl), (.r rfl), (.r rfl), trivial⟩ rfl rfl rfl rfl ⟨_, [_], [_,_,_,_], rfl, rfl, rfl, rfl, ⟨_, [_], [_,_,_,_], rfl, rfl, rfl, rfl, ⟨_, [_], [_,_,_,_], rfl, rfl, rfl, rfl, ⟨_, [_], [_,_,_,_], rfl, rfl, rfl, rfl, rfl⟩⟩⟩⟩ fun b2 => VO.h rfl<|HO.lo (LO.bd (ps := [(_,_), (_,_)]) (vs := [(_,_), (_,_)]) (C := [_,_]) B74  ⟨(.r rfl), (.r rfl), trivial⟩ rfl ⟨_, [_], [_,_], rfl, rfl, rfl, rfl, ⟨_, [_], [_,_], rfl, rfl, rfl, rfl, rfl⟩⟩)<|VO.h rfl<|HO.bs (ps := [(_,_), (_,_), (_,_)]) (vs := [(_,_), (_,_), (_,_)]) (Z := [_,_,_]) (C := [_,_,_]) S55 Z3 N3 ⟨(.r rfl), (.r rfl), (.r rfl), trivial⟩ rfl rfl rfl rfl ⟨_, [_], [_,_,_], rfl, rfl, rfl, rfl, ⟨_, [_], [_,_,_], rfl, rfl, rfl, rfl, ⟨_, [_], [_,_,_], rfl, rfl, rfl, rfl, rfl⟩⟩⟩ fun b3 => VO.h rfl<|HO.lo (LO.bd (ps := [(_,_), (_,_)]) (vs := [(_,_), (_,_)]) (C := [_,_]) B74  ⟨(.r rfl), (.r rfl), trivial⟩ rfl ⟨_, [_], [_,_], rfl, rfl, rfl, rfl, ⟨_, [_], [_,_], rfl, rfl, rfl, rfl, rfl⟩⟩)<|VO.h rfl<|HO.bs (ps := [(_,_), (_,_)]) (vs := [(_,_), (_,_)]) (Z := [_,_,_,_]) (C := [_,_,_,_]) S24 Z74 N74 ⟨(.r rfl), (.r rfl), trivial⟩ rfl rfl rfl rfl ⟨_, [_,_], [_,_,_,_], rfl, rfl, rfl, rfl, ⟨_, [_,_], [_,_,_,_], rfl, rfl, rfl, rfl, rfl⟩⟩ fun b4 => VO.l (LO.bd (ps := [(_,_), (_,_), (_,_)]) (vs := [(_,_), (_,_), (_,_)]) (C := [_,_,_]) B26  ⟨(.r rfl), (.r rfl), (.r rfl), trivial⟩ rfl ⟨_, [_], [_,_,_], rfl, rfl, rfl, rfl, ⟨_, [_], [_,_,_], rfl, rfl, rfl, rfl, ⟨_, [_], [_,_,_], rfl, rfl, rfl, rfl, rfl⟩⟩⟩) rfl<|VO.h rfl<|HO.lo (LO.bd (ps := [(_,_), (_,_), (_,_)]) (vs := [(_,_), (_,_), (_,_)]) (C := [_,_,_,_,_,_,_,_,_]) B28  ⟨(.r rfl), (.r rfl), (.r rfl), trivial⟩ rfl ⟨_, [_,_,_,_,_], [_,_,_,_,_,_,_,_,_], rfl, rfl, rfl, rfl, ⟨_, [_], [_,_,_,_,_,_,_,_,_], rfl, rfl, rfl, rfl, ⟨_, [_,_,_], [_,_,_,_,_,_,_,_,_], rfl, rfl, rfl, rfl, rfl⟩⟩⟩)<|VO.h0<|HO.st 3 (vs := [_,_,_,_,_,_,_,_,_]) (C' := [_,_,_,_,_,_,_,_,_]) (L' := [_,_,_,_]) N28 rfl rfl rfl rfl rfl rfl rfl rfl<|VO.nil ?_)
  refine VE.seqN ?_
  refine VC.ret (VE.res (vs := [_]) rfl ⟨RV.agg (vs := [_,_,_,_,_,_,_,_,_]) A28 rfl (cells_blk 3 rfl ⟨_, rfl⟩) rfl, trivial⟩ (fun w hw => ?_))
  exact ⟨(b4, b2, b3), trivial, rfl, hw.sel [0,2,1] rfl⟩

set_option maxRecDepth 20000 in
theorem ints_c (p q : Option Addr) (l m : List Int) (c d : Nat) (w : World) (hnl : l.length < 1000000000000) (hnm : m.length < 1000000000000) (hl : Ints w p l) (hm : Ints w q m) :
  Calls Try.prog 25 #[.slice p l.length c, .slice q m.length d] w fun e w' => e = .returned (.bool (decide (l = m))) ∧ St (bs w) [] w' := by
  refine enter (vs := [_,_]) (env := [(0,_), (1,_)]) Try.func25 rfl rfl rfl rfl ?_
  refine VC.seq ?_
  refine VC.reg (VO.l (LO.as (.r rfl)) rfl<|VO.nil ?_)
  refine VE.seqN ?_
  refine VC.seq ?_
  refine VC.seq ?_
  refine VC.reg (VO.l (LO.mv (.r rfl)) rfl<|VO.l (LO.len S55 (.r rfl) rfl) rfl<|VO.l (LO.mv (.r rfl)) rfl<|VO.l (LO.len S55 (.r rfl) rfl) rfl<|VO.l (LO.ne (.r rfl) (.r rfl)) rfl<|VO.nil ?_)
  refine VE.seqN ?_
  refine VC.cond rfl (fun h1 => ?_) (fun h1 => ?_)
  ·
    refine VC.seq ?_
    refine VC.reg (VO.l (LO.as (.r rfl)) rfl<|VO.nil ?_)
    refine VE.seqN ?_
    refine VC.ret (VE.thenR (VE.res (vs := [_]) rfl ⟨rfl, trivial⟩ (fun w hw => ?_)))
    refine ⟨?_, hw.nil⟩
    simp only [resV]
    congr 2
    first | exact ints_ne1 h1 | exact ints_ne2 h3 | exact ints_eq hz (by omega) (by omega)
  ·
    refine VC.skip (VE.seqN ?_)
    refine VC.seq ?_
    refine VC.seq ?_
    refine VC.reg (VO.l (LO.as (.r rfl)) rfl<|VO.nil ?_)
    refine VE.seqN ?_
    refine VC.block ?_
    refine VC.loopK (α := Nat) 0 (fun gx => [(5, .int .i64 (gx : Nat))]) [(0,_), (1,_)] (fun gx => []) (fun gx => gx ≤ l.length ∧ ∀ k, k < gx → l.getD k 0 = m.getD k 0) (fun gx => l.length - gx) 0 (by exact ⟨by omega, fun k hk => by omega⟩) (.cons rfl (.cons rfl (.cons rfl .nil))) (fun _ h => h) ?_
    rintro j ⟨hj, hz⟩
    refine VC.seq ?_
    refine VC.seq ?_
    refine VC.reg (VO.l (LO.mv (.r rfl)) rfl<|VO.l (LO.mv (.r rfl)) rfl<|VO.l (LO.len S55 (.r rfl) rfl) rfl<|VO.l (LO.lt (.r rfl) (.r rfl)) rfl<|VO.nil ?_)
    refine VE.seqN ?_
    refine VC.cond rfl (fun h2 => ?_) (fun h2 => ?_)
    ·
      refine VC.skip (VE.seqN ?_)
      refine VC.seq ?_
      refine VC.block ?_
      refine VC.seq ?_
      refine VC.draw mixed (LL.l (LO.mv (.r rfl)) rfl<|LL.l (LO.mv (.r rfl)) rfl<|LL.l (LO.ixs S55 N3 hl.some (.r rfl) (.r rfl) rfl (by omega)) rfl<|LL.l (LO.ld O3 (.r rfl) (hl.at (j := j) (by omega))) rfl<|LL.l (LO.mv (.r rfl)) rfl<|LL.l (LO.mv (.r rfl)) rfl<|LL.l (LO.ixs S55 N3 hm.some (.r rfl) (.r rfl) rfl (by omega)) rfl<|LL.l (LO.ld O3 (.r rfl) (hm.at (j := j) (by omega))) rfl<|LL.l (LO.ne (.r rfl) (.r rfl)) rfl<|LL.nil) (by kernel_rfl) ?_
      refine VE.seqN ?_
      refine VC.cond rfl (fun h3 => ?_) (fun h3 => ?_)
      ·
        refine VC.seq ?_
        refine VC.reg (VO.l (LO.as (.r rfl)) rfl<|VO.nil ?_)
        refine VE.seqN ?_
        refine VC.ret (VE.inR (VE.thenR (VE.thenR (VE.inR (VE.thenR (VE.res (vs := [_]) rfl ⟨rfl, trivial⟩ (fun w hw => ?_)))))))
        refine ⟨?_, hw.nil⟩
        simp only [resV]
        congr 2
        first | exact ints_ne1 h1 | exact ints_ne2 h3 | exact ints_eq hz (by omega) (by omega)
      ·
        refine VC.skip (VE.inN (VE.seqN ?_))
        refine VC.reg (VO.l (LO.mv (.r rfl)) rfl<|VO.l (LO.add (.r rfl) (.r rfl) (wi (by omega) (by omega))) rfl<|VO.l (LO.as (.r rfl)) rfl<|VO.nil ?_)
        refine VE.thenN fun a w ha hw => ⟨j + 1, ⟨by omega, step_eq hz (by simpa using h3)⟩, (by omega), ha.sub (.cons rfl (.cons rfl (.cons rfl .nil))), hw⟩
    ·
      refine VC.exit (VE.thenX (VE.thenX (VE.inX (VE.seqN ?_))))
      refine VC.seq ?_
      refine VC.reg (VO.l (LO.as (.r rfl)) rfl<|VO.nil ?_)
      refine VE.seqN ?_
      refine VC.ret (VE.res (vs := [_]) rfl ⟨rfl, trivial⟩ (fun w hw => ?_))
      refine ⟨?_, hw.nil⟩
      simp only [resV]
      congr 2
      first | exact ints_ne1 h1 | exact ints_ne2 h3 | exact ints_eq hz (by omega) (by omega)

end Go.Proofs.Ytdjflomhaljljaa

namespace Go.Proofs.Ytdjflomhaljljaa
open Go.SL Go.Proofs Go.Cast
set_option linter.unusedVariables false



theorem lastI_snoc (l : List Int) (a : Int) : lastI (l ++ [a]) = a := by
  unfold lastI
  rw [List.getD_eq_getElem?_getD]
  simp
/-- What holds of each office that was made. -/
structure WfO (o : OfM) : Prop where
  spec : specE o.sp = 0
  len : o.rc.length = o.rg.length
  idx : ∀ (k : Nat) (r : RcM), o.rc[k]? = some r → o.rg[k]? = some r.x ∧ r.i = k
  pix : ∀ x, x ∈ o.rg → x.r.pix.length < 1000000000000
  rcb : ∀ r, r ∈ o.rc → r.rc.length ≤ o.ts.length
  lvb : ∀ r, r ∈ o.rc → r.lv.length = o.ts.length
  op : ∀ r, r ∈ o.rc → lastI r.lv ≠ 0 → ∃ (k : Nat) (c : CsM), o.cs[k]? = some c ∧ r.op = some c.b
  cs : o.cs.length ≤ 32 * o.ts.length
  ts : o.ts.length ≤ o.lg.length
theorem WfO.reg {o : OfM} (h : WfO o) : ∀ r, r ∈ o.rc → r.x ∈ o.rg := fun r hr => by
  obtain ⟨k, hk⟩ := List.mem_iff_getElem?.1 hr
  exact List.mem_of_getElem? (h.idx k r hk).1
theorem WfO.n {o : OfM} (h : WfO o) : 0 < o.rc.length ∧ o.rc.length ≤ 32 := by
  have := specOk h.spec
  have e : o.sp.regs.length = o.rg.length := by unfold OfM.sp; simp
  rw [h.len, ← e]; exact ⟨this.2.2.1, this.2.1⟩
theorem new_wf {g : Grid} {l : List RG} {a b d : Int} {o : OfM} (h : NewP g l a b d o) (hs : specE ⟨g, l.map RG.r, a, b, d⟩ = 0) (hp : ∀ x, x ∈ l → x.r.pix.length < 1000000000000) : WfO o := by
  obtain ⟨h1, h2, h3, h4, h5, h6, h7,_, h8, h9⟩ := h
  have nil : ∀ r, r ∈ o.rc → r.rc = [] ∧ r.lv = [] := fun r hr => by
    obtain ⟨k, hk⟩ := List.mem_iff_getElem?.1 hr
    exact ⟨(h9.2 k r hk).2.2.1, (h9.2 k r hk).2.2.2.1⟩
  refine ⟨by unfold OfM.sp; rw [h1, h2, h3, h4, h8]; exact hs, h9.1, fun k r hr => ⟨(h9.2 k r hr).1, (h9.2 k r hr).2.1⟩, ?_, fun r hr => by rw [(nil r hr).1]; simp, fun r hr => by rw [(nil r hr).2, h5], fun r hr hq => absurd (by rw [(nil r hr).2]; rfl) hq, by rw [h6]; simp, by rw [h5]; simp⟩
  intro x hx
  have : x.r ∈ o.rg.map RG.r := List.mem_map_of_mem hx
  rw [h8] at this
  obtain ⟨y, hy, e⟩ := List.mem_map.1 this
  rw [← e]; exact hp y hy
def HasOp (cs : List CsM) (r : RcM) : Prop := lastI r.lv ≠ 0 → ∃ (k : Nat) (c : CsM), cs[k]? = some c ∧ r.op = some c.b
theorem hasOp_keep {cs cs' : List CsM} {r : RcM} (h : HasOp cs r) (k : CsKeep cs cs') : HasOp cs' r := fun q => by
  obtain ⟨i, c, hc, e⟩ := h q
  obtain ⟨c', h1, h2⟩ := k i c hc
  exact ⟨i, c', h1, by rw [e, h2]⟩
theorem meet_op {r : RcM} {T H : Int} {t : Thr} {cs : List CsM} {es : List Ev} {y : MeetY} (h : MeetP r T H t cs es y) (ho : HasOp cs r) : HasOp y.cs y.r := by
  obtain ⟨_,_,_,_, hl, q | q⟩ := h
  · obtain ⟨hn, e1, e2,_⟩ := q
    intro hq
    rw [hl, lastI_snoc, hn] at hq
    rw [e1, e2]; exact ho hq
  · obtain ⟨hn, x', hh,_⟩ := q
    intro hq
    rcases hh with ⟨_, b, e1, e2,_⟩ | ⟨_, k, c, hc, e0, e1, e2,_⟩
    · rw [e1, e2]
      exact ⟨cs.length,_, by rw [List.getElem?_append_right (Nat.le_refl _)]; simp; rfl, rfl⟩
    · rw [e1, e2, e0]
      exact ⟨k,_, List.getElem?_set_self (List.getElem?_eq_some_iff.1 hc).1, rfl⟩
theorem run_wf {sts : List (List Int)} {b H T : Int} {cs0 : List CsM} {rs ds : List RcM} {cs : List CsM} {es : List Ev} (h : RunP sts b H T cs0 rs ds cs es) (h0 : ∀ r, r ∈ rs → HasOp cs0 r) :
    ∀ (k : Nat) (d : RcM), ds[k]? = some d → ∃ r, rs[k]? = some r ∧ d.x = r.x ∧ d.i = r.i ∧ d.b = r.b ∧ d.rc.length ≤ r.rc.length + 1 ∧ d.lv.length = r.lv.length + 1 ∧ HasOp cs d := by
  induction h with
  | nil => intro k d hd; simp at hd
  | @snoc rs ds cs es r y h1 h2 ih =>
    have hk := run_keep h1
    have hm := meet_keep h2
    intro k d hd
    rcases Nat.lt_or_ge k ds.length with q | q
    · rw [List.getElem?_append_left q] at hd
      obtain ⟨r', g1, g2, g3, g4, g5, g6, g7⟩ := ih (fun r hr => h0 r (List.mem_append_left _ hr)) k d hd
      exact ⟨r', by rw [List.getElem?_append_left (by rw [← hk.2.2.2.2]; exact q)]; exact g1, g2, g3, g4, g5, g6, hasOp_keep g7 hm.1⟩
    · rw [List.getElem?_append_right q] at hd
      have e : k = ds.length := by
        rcases Nat.lt_or_ge (k - ds.length) 1 with z | z
        · omega
        · rw [List.getElem?_eq_none (by simpa using z)] at hd; cases hd
      subst e
      simp at hd
      subst hd
      have hop := meet_op h2 (hasOp_keep (h0 r (by simp)) hk.1)
      obtain ⟨e1, e2, e3, e4, e5,_⟩ := h2
      refine ⟨r, by rw [hk.2.2.2.2, List.getElem?_append_right (Nat.le_refl _)]; simp, e1, e3, e2, ?_, by rw [e5]; simp, hop⟩
      rw [e4]
      have := List.length_filter_le (fun x => !oldR T H x) r.rc
      show (keepR T H r.rc ++ [Rch.mk T (thr sts r.x.r.pix b).lv]).length ≤ _
      unfold keepR
      rw [List.length_append]; simp; omega
theorem step_wf {o : OfM} {T : Int} {l : List Cloud} {y : StepY} (h : WfO o) (hp : StepP o T l y) : WfO (y.o o T) := by
  obtain ⟨hr, p, c, m, hl,_⟩ := hp
  have hk := run_keep hr
  have hw := run_wf hr (fun r hr => h.op r hr)
  have hn := h.n
  have mem : ∀ d, d ∈ y.ds → ∃ r, r ∈ o.rc ∧ d.rc.length ≤ r.rc.length + 1 ∧ d.lv.length = r.lv.length + 1 ∧ HasOp y.cs d := fun d hd => by
    obtain ⟨k, hk⟩ := List.mem_iff_getElem?.1 hd
    obtain ⟨r, g1, g2, g3, g4, g5, g6, g7⟩ := hw k d hk
    exact ⟨r, List.mem_of_getElem? g1, g5, g6, g7⟩
  refine ⟨h.spec, by show y.ds.length = _; rw [hk.2.2.2.2]; exact h.len, ?_, h.pix, ?_, ?_, ?_, ?_, ?_⟩
  · intro k d hd
    obtain ⟨r, g1, g2, g3, g4,_⟩ := hw k d hd
    have := h.idx k r g1
    exact ⟨by rw [g2]; exact this.1, by rw [g3]; exact this.2⟩
  · intro d hd
    obtain ⟨r, hr, g1,_⟩ := mem d hd
    have := h.rcb r hr
    show _ ≤ (o.ts ++ [T]).length
    simp; omega
  · intro d hd
    obtain ⟨r, hr,_, g1,_⟩ := mem d hd
    have := h.lvb r hr
    show _ = (o.ts ++ [T]).length
    simp; omega
  · intro d hd
    obtain ⟨r, hr,_,_, g1⟩ := mem d hd
    exact g1
  · have := h.cs
    show y.cs.length ≤ 32 * (o.ts ++ [T]).length
    simp; omega
  · have := h.ts
    show (o.ts ++ [T]).length ≤ (o.lg ++ [y.lg]).length
    simp; omega
/-- A step that is made, in an office that was made. -/
theorem Step_w (o : OfM) (T : Int) (m : List CP) (pm : Option Addr) (cm : Nat) (w : World) (hh : Has w (offR o)) (hcl : ∀ {L : List Res} {v : World}, St ⟨w, fpL (offR o)⟩ L v → Clouds v pm m) (hcn : m.length < 1000000000) (h : WfO o) (hT1 : 0 ≤ T) (hT3 : T ≤ 4294967296) (hlate : o.ts = [] ∨ lastI o.ts < T) (hful : o.lg.length < 256) (hlk : lookE o.g (m.map CP.c) = 0) :
    Calls Try.prog 27 #[ptrN o.b, .int .i64 T, .slice pm m.length cm] w fun e w' => ∃ y : StepY, StepP o T (m.map CP.c) y ∧ e = .returned (.tuple #[.slice y.pe y.es.length y.ce, .int .i64 0]) ∧ St ⟨w, fpL (offR o)⟩ (own 62 7 y.pe y.ce (y.es.map evC) :: offR (y.o o T)) w' :=
  have h1 := h.ts
  have h2 := h.cs
  Step_c o T m pm cm w hh hcl hcn h.spec h.len h.reg h.pix (fun r hr => by have := h.rcb r hr; omega) (fun r hr => by have := h.lvb r hr; omega) h.op (by omega) (by omega) hT1 hT3 hlate hful hlk
theorem run_two {sts : List (List Int)} {b H T : Int} {cs0 : List CsM} {r0 r1 : RcM} {ds : List RcM} {cs : List CsM} {es : List Ev} (h : RunP sts b H T cs0 [r0, r1] ds cs es) :
    ∃ y0 y1 : MeetY, MeetP r0 T H (thr sts r0.x.r.pix b) cs0 [] y0 ∧ MeetP r1 T H (thr sts r1.x.r.pix b) y0.cs y0.es y1 ∧ ds = [y0.r, y1.r] ∧ cs = y1.cs ∧ es = y1.es := by
  generalize hrs : [r0, r1] = rs at h
  cases h with
  | nil => cases hrs
  | @snoc rs' ds' cs' es' r y h1 h2 =>
    have e := List.append_inj' (s₁ := [r0]) (t₁ := [r1]) hrs rfl
    obtain ⟨e1, e2⟩ := e
    simp only [List.cons.injEq, and_true] at e2
    subst e1 e2
    generalize hrs2 : [r0] = rs2 at h1
    cases h1 with
    | nil => cases hrs2
    | @snoc rs3 ds3 cs3 es3 r3 y3 h3 h4 =>
      have e := List.append_inj' (s₁ := []) (t₁ := [r0]) hrs2 rfl
      obtain ⟨e1, e2⟩ := e
      simp only [List.cons.injEq, and_true] at e2
      subst e1 e2
      generalize hrs4 : ([] : List RcM) = rs4 at h3
      cases h3 with
      | nil => exact ⟨y3, y, h4, h2, rfl, rfl, rfl⟩
      | snoc => simp at hrs4

end Go.Proofs.Ytdjflomhaljljaa

namespace Go.Proofs.Ytdjflomhaljljaa
open Go.SL Go.Proofs Go.Cast
set_option linter.unusedVariables false



theorem thr_of {t : Thr} {a b c : Int} (h : t.lv = a ∧ t.ld = b ∧ t.px = c) : t = ⟨a, b, c⟩ := by
  obtain ⟨h1, h2, h3⟩ := h
  cases t; simp_all
theorem thrCE : thr (lookL gG [cC] 1000 500) [4,5,10,11] 500 = ⟨0, -1, -1⟩ := thr_of (by decide +kernel)
theorem thrCW : thr (lookL gG [cC] 1000 500) [0,6,12] 500 = ⟨1,0,6⟩ := thr_of (by decide +kernel)
theorem thrDE : thr (lookL gG [cD] 1000 500) [4,5,10,11] 500 = ⟨2,1000,10⟩ := thr_of (by decide +kernel)
theorem thrDW : thr (lookL gG [cD] 1000 500) [0,6,12] 500 = ⟨1,0,6⟩ := thr_of (by decide +kernel)
def rgS : List Reg := [⟨sEast, [4,5,10,11]⟩, ⟨sWest, [0,6,12]⟩]
theorem specS : specE ⟨gG, rgS, 1000,500,600⟩ = 0 := by decide +kernel
theorem lookC : lookE gG [cC] = 0 := by decide +kernel
theorem lookD : lookE gG [cD] = 0 := by decide +kernel
theorem two_of {α : Type} : ∀ {l : List α}, l.length = 2 → ∃ a b, l = [a, b]
  | [a, b],_ => ⟨a, b, rfl⟩
theorem fresh_two {l : List RG} (hl : l.map RG.r = rgS) {o : OfM} (hn : NewP gG l 1000 500 600 o) : ∃ r0 r1, o.rc = [r0, r1] ∧ (r0.x.r.pix = [4,5,10,11] ∧ r0.i = 0 ∧ r0.rc = [] ∧ r0.lv = [] ∧ r0.op = none) ∧ (r1.x.r.pix = [0,6,12] ∧ r1.i = 1 ∧ r1.rc = [] ∧ r1.lv = [] ∧ r1.op = none) := by
  obtain ⟨h1, h2, h3, h4, h5, h6, h7,_, h8, h9⟩ := hn
  have e : o.rg.map RG.r = rgS := h8.trans hl
  have e2 : o.rg.length = 2 := by rw [← List.length_map (f := RG.r), e]; rfl
  have e3 : o.rc.length = 2 := by rw [h9.1, e2]
  obtain ⟨r0, r1, hrc⟩ := two_of e3
  obtain ⟨g0, g1, hrg⟩ := two_of e2
  have q0 := h9.2 0 r0 (by rw [hrc]; rfl)
  have q1 := h9.2 1 r1 (by rw [hrc]; rfl)
  rw [hrg] at q0 q1 e
  simp only [List.getElem?_cons_zero, Option.some.injEq, List.getElem?_cons_succ] at q0 q1
  unfold rgS at e
  simp only [List.map_cons, List.map_nil, List.cons.injEq, and_true] at e
  refine ⟨r0, r1, hrc, ⟨by rw [← q0.1, e.1], q0.2⟩, ⟨by rw [← q1.1, e.2], q1.2⟩⟩
theorem works_plain {l : List RG} (hl : l.map RG.r = rgS) {o : OfM} (hn : NewP gG l 1000 500 600 o) {y1 y2 : StepY} (h1 : StepP o 0 [cC] y1) (h2 : StepP (y1.o o 0) 300 [cD] y2) :
    y1.es = [⟨0,1,1,1,1,0,6⟩] ∧ y2.es = [⟨300,0,1,2,2,1000,10⟩] ∧ levelsL (y2.o (y1.o o 0) 300) = [2,1] := by
  obtain ⟨r0, r1, hrc, ⟨p0, i0, c0, l0, o0⟩, ⟨p1, i1, c1, l1, o1⟩⟩ := fresh_two hl hn
  obtain ⟨n1, n2, n3, n4, n5, n6, n7,_, n8, n9⟩ := hn
  have h1' := h1.1
  rw [n1, n2, n3, n4, n6, hrc] at h1'
  obtain ⟨ya, yb, ha, hb, ed, ec, ee⟩ := run_two h1'
  rw [p0, thrCE] at ha
  rw [p1, thrCW] at hb
  obtain ⟨xa, ba, ia, ca, la, q | q⟩ := ha
  case inr => exact absurd (by rw [c0, l0]; rfl) q.1
  obtain ⟨-, oa, csa, esa⟩ := q
  have ca2 : ya.r.rc = [⟨0,0⟩] := by rw [ca, c0]; rfl
  have la2 : ya.r.lv = [0] := by rw [la, c0, l0]; rfl
  obtain ⟨xb, bb, ib, cb, lb, q | q⟩ := hb
  case inl => exact absurd q.1 (by rw [c1, l1]; decide)
  obtain ⟨-, x', hx, esb⟩ := q
  have cb2 : yb.r.rc = [⟨0,1⟩] := by rw [cb, c1]; rfl
  have lb2 : yb.r.lv = [1] := by rw [lb, c1, l1]; rfl
  rw [c1, l1, i1, o1, csa] at hx
  have ev : meetEv ((1 : Nat) : Int) 0 (lastI []) (maxLv (nowRc 0 600 [] 1)) ⟨1,0,6⟩ = ⟨0,1,1,1,0,0,6⟩ := rfl
  dsimp only at hx
  rw [ev] at hx
  rcases hx with ⟨-, b, ob, csb, hx'⟩ | ⟨hk,_⟩
  case inr => exact absurd rfl hk
  have es1 : y1.es = [⟨0,1,1,1,1,0,6⟩] := by rw [ee, esb, esa, hx']; rfl
  have h2' := h2.1
  have f1 : (y1.o o 0).rc = [ya.r, yb.r] := ed
  have f2 : (y1.o o 0).cs = [⟨b, 1,1,0,1099511627776,1⟩] := by show y1.cs = _; rw [ec, csb]; rfl
  have f3 : (y1.o o 0).g = gG := n1
  have f4 : (y1.o o 0).lead = 1000 := n2
  have f5 : (y1.o o 0).step = 500 := n3
  have f6 : (y1.o o 0).hold = 600 := n4
  rw [f1, f2, f3, f4, f5, f6] at h2'
  obtain ⟨yc, yd, hc, hd, ed2, ec2, ee2⟩ := run_two h2'
  rw [xa, p0, thrDE] at hc
  rw [xb, p1, thrDW] at hd
  obtain ⟨xc, bc, ic, cc, lc, q | q⟩ := hc
  case inl => exact absurd q.1 (by rw [ca2, la2]; decide)
  obtain ⟨-, x2, hx2, esc⟩ := q
  have lc2 : yc.r.lv = [0,2] := by rw [lc, ca2, la2]; rfl
  rw [ca2, la2, ia, i0] at hx2
  have ev2 : meetEv ((0 : Nat) : Int) 300 (lastI [0]) (maxLv (nowRc 300 600 [⟨0,0⟩] 2)) ⟨2,1000,10⟩ = ⟨300,0,1,2,0,1000,10⟩ := rfl
  dsimp only at hx2
  rw [ev2] at hx2
  rcases hx2 with ⟨-, b2, ob2, csc, hx2'⟩ | ⟨hk,_⟩
  case inr => exact absurd rfl hk
  obtain ⟨xd, bd, id_, cd, ld, q | q⟩ := hd
  case inr => exact absurd (by rw [cb2, lb2]; rfl) q.1
  obtain ⟨-, od, csd, esd⟩ := q
  have ld2 : yd.r.lv = [1,1] := by rw [ld, cb2, lb2]; rfl
  refine ⟨es1, by rw [ee2, esd, esc, hx2']; rfl, ?_⟩
  unfold levelsL
  show List.map (fun r => lastI r.lv) y2.ds = [2,1]
  rw [ed2]
  simp only [List.map_cons, List.map_nil, lc2, ld2]
  rfl

end Go.Proofs.Ytdjflomhaljljaa

namespace Go.Proofs.Ytdjflomhaljljaa
open Go.SL Go.Proofs Go.Cast
set_option linter.unusedVariables false

theorem E62 : Flat Try.prog 62 7 := ⟨⟨_, Try.underlying62⟩, by kernel_rfl, by kernel_rfl⟩
theorem C30 : IsFn Try.prog 30 := ⟨_, Try.func30, by decide, rfl⟩
theorem C26 : IsFn Try.prog 26 := ⟨_, Try.func26, by decide, rfl⟩
theorem C27 : IsFn Try.prog 27 := ⟨_, Try.func27, by decide, rfl⟩
theorem C39 : IsFn Try.prog 39 := ⟨_, Try.func39, by decide, rfl⟩
theorem C24 : IsFn Try.prog 24 := ⟨_, Try.func24, by decide, rfl⟩
theorem C25 : IsFn Try.prog 25 := ⟨_, Try.func25, by decide, rfl⟩


def lS (q : Nat × Nat × Nat) : List RG := [⟨⟨sEast, [4,5,10,11]⟩, some ⟨q.2.1,0, none⟩, 4⟩, ⟨⟨sWest, [0,6,12]⟩, some ⟨q.2.2,0, none⟩, 3⟩]
theorem ints_blk {w : World} {b : Nat} {l : List Int} (h : (blk b (.cells (l.map intV).toArray 3)).inv w) : Ints w (some ⟨b, 0, none⟩) l := RO.ofC (f := iC) (fun _ => rfl) (by
  have e : (l.map iC).flatten = ((l.map intV).toArray).toList := by
    clear h
    induction l with
    | nil => rfl
    | cons a l ih => simp [List.map_cons, List.flatten_cons, intV] at ih ⊢; exact ih
  rw [e]; exact cells_inv h)
theorem regsS {w : World} {q : Nat × Nat × Nat} (h1 : (blk q.1 (.cells #[.string sEast, .slice (some ⟨q.2.1,0, none⟩) 4 4, .string sWest, .slice (some ⟨q.2.2,0, none⟩) 3 3] 74)).inv w) (h2 : (blk q.2.1 (.cells #[.int .i64 4, .int .i64 5, .int .i64 10, .int .i64 11] 3)).inv w) (h3 : (blk q.2.2 (.cells #[.int .i64 0, .int .i64 6, .int .i64 12] 3)).inv w) : Regs w (some ⟨q.1,0, none⟩) (lS q) := by
  refine ⟨RO.ofC (f := RG.cells) (fun _ => rfl) (cells_inv h1), fun x hx => ?_⟩
  simp only [lS, List.mem_cons, List.not_mem_nil, or_false] at hx
  rcases hx with rfl | rfl
  · exact ⟨ints_blk (l := [4,5,10,11]) h2, show (4 : Nat) < 1000000000000 by decide⟩
  · exact ⟨ints_blk (l := [0,6,12]) h3, show (3 : Nat) < 1000000000000 by decide⟩
def mC (f : Flow) (gr : Int) (q : Nat × Nat) : List CP := [⟨⟨[7,8], [6,7,8], f, gr⟩, some ⟨q.1,0, none⟩, 2, some ⟨q.2,0, none⟩, 3⟩]
theorem cloudsM {w : World} {b : Nat} {q : Nat × Nat} {f : Flow} {gr : Int} (h1 : (blk b (.cells #[.slice (some ⟨q.1,0, none⟩) 2 2, .slice (some ⟨q.2,0, none⟩) 3 3, .int .i64 f.a, .int .i64 f.b, .int .i64 f.c, .int .i64 f.d, .int .i64 gr] 80)).inv w)
    (h2 : (blk q.1 (.cells #[.int .i64 7, .int .i64 8] 3)).inv w) (h3 : (blk q.2 (.cells #[.int .i64 6, .int .i64 7, .int .i64 8] 3)).inv w) : Clouds w (some ⟨b, 0, none⟩) (mC f gr q) := by
  refine ⟨RO.ofC (f := CP.cells) (fun _ => rfl) (cells_inv h1), fun x hx => ?_⟩
  simp only [mC, List.mem_cons, List.not_mem_nil, or_false] at hx
  subst hx
  exact ⟨ints_blk (l := [7,8]) h2, ints_blk (l := [6,7,8]) h3, show (2 : Nat) < 1000000000000 by decide, show (3 : Nat) < 1000000000000 by decide⟩

set_option maxRecDepth 20000 in
theorem works_c (w : World) :
  Calls Try.prog 14 #[] w fun e w' => e = .returned (.bool true) ∧ St (bs w) [] w' := by
  refine enter (vs := []) (env := []) Try.func14 rfl rfl rfl rfl ?_
  refine VC.seq ?_
  refine VC.reg (VO.l (LO.as (.r rfl)) rfl<|VO.nil ?_)
  refine VE.seqN ?_
  refine VC.seq ?_
  refine VC.reg (VO.h rfl<|HO.callx (xs := []) (vs := []) C30 trivial (fun w _ => S_c w) fun q _ => VO.h rfl<|HO.callx (xs := [_]) (vs := [_]) C26 ⟨(.r rfl), trivial⟩ (fun w hw => New_c gG (lS q) _ 2 1000 500 600 w (show (2 : Nat) < 1000000000000 by decide) (regsS (St.inv hw 0 _ rfl) (St.inv hw 1 _ rfl) (St.inv hw 2 _ rfl)) specS) fun o hn => VO.h rfl<|HO.lo (LO.mv (.r rfl))<|VO.h rfl<|HO.lo (LO.ex (.r rfl) rfl)<|VO.h rfl<|HO.lo (LO.ex (.r rfl) rfl)<|VO.h rfl<|HO.lo (LO.as (.r rfl))<|VO.h rfl<|HO.lo (LO.as (.r rfl))<|VO.nil ?_)
  refine VE.seqN ?_
  refine VC.seq ?_
  refine VC.seq ?_
  refine VC.reg (VO.l (LO.mv (.r rfl)) rfl<|VO.l (LO.ne (.r rfl) (.r rfl)) rfl<|VO.nil ?_)
  refine VE.seqN ?_
  refine VC.cond rfl (fun h12 => ?_) (fun h12 => ?_)
  ·
    (exfalso; exact h12 rfl)
  ·
    refine VC.skip (VE.seqN ?_)
    refine VC.seq ?_
    have hwf : WfO o := new_wf hn specS (fun x hx => by simp only [lS, List.mem_cons, List.not_mem_nil, or_false] at hx; rcases hx with rfl | rfl; (· exact show (4 : Nat) < 1000000000000 by decide); (· exact show (3 : Nat) < 1000000000000 by decide))
    refine VC.reg (VO.l (LO.mv (.r rfl)) rfl<|VO.h rfl<|HO.callx (xs := []) (vs := []) C38 trivial (fun w _ => C_c w) fun qc _ => VO.h rfl<|HO.bs (ps := [(_,_)]) (vs := [(_,_)]) (Z := [_,_,_,_,_,_,_]) (C := [_,_,_,_,_,_,_]) S29 Z80 N80 ⟨(.r rfl), trivial⟩ rfl rfl rfl rfl ⟨_, [_,_,_,_,_,_,_], [_,_,_,_,_,_,_], rfl, rfl, rfl, rfl, rfl⟩ fun b16 => VO.h rfl<|HO.callP (first := []) (cap := []) (xs := [_,_,_]) (vs := [_,_,_]) [_,_,_,_,_,_,_,_,_,_] [_,_,_,_,_,_] (selK (L1 := [_,_,_,_,_,_,_,_,_,_] ++ [_,_,_,_,_,_]) [3,4,5,6,7,8,9,10,11,12,0,1,2,13,14,15] rfl rfl) (.r rfl) C27 ⟨(.r rfl), (.r rfl), (.r rfl), trivial⟩ (fun w hw hh => Step_w o 0 (mC ⟨1000,1000,0,0⟩ 0 qc) _ 1 w hh (fun hs => cloudsM (restInv (selK (L1 := offR o ++ [_,_,_]) [3,4,5,6,7,8,9,10,11,12,0,2,1] rfl rfl w hw) hs (.head _)) (restInv (selK (L1 := offR o ++ [_,_,_]) [3,4,5,6,7,8,9,10,11,12,0,2,1] rfl rfl w hw) hs (.tail _ (.head _))) (restInv (selK (L1 := offR o ++ [_,_,_]) [3,4,5,6,7,8,9,10,11,12,0,2,1] rfl rfl w hw) hs (.tail _ (.tail _ (.head _))))) (show (1 : Nat) < 1000000000 by decide) hwf (by decide) (by decide) (.inl hn.2.2.2.2.1) (by rw [hn.2.2.2.2.2.2.1]; decide) (by rw [hn.1]; exact lookC)) fun y1 hy1 => VO.h rfl<|HO.lo (LO.mv (.r rfl))<|VO.h rfl<|HO.lo (LO.ex (.r rfl) rfl)<|VO.h rfl<|HO.lo (LO.ex (.r rfl) rfl)<|VO.h rfl<|HO.lo (LO.as (.r rfl))<|VO.h rfl<|HO.lo (LO.as (.r rfl))<|VO.nil ?_)
    refine VE.seqN ?_
    refine VC.seq ?_
    refine VC.reg (VO.l (LO.mv (.r rfl)) rfl<|VO.h rfl<|HO.callx (xs := []) (vs := []) C39 trivial (fun w _ => D_c w) fun qd _ => VO.h rfl<|HO.bs (ps := [(_,_)]) (vs := [(_,_)]) (Z := [_,_,_,_,_,_,_]) (C := [_,_,_,_,_,_,_]) S29 Z80 N80 ⟨(.r rfl), trivial⟩ rfl rfl rfl rfl ⟨_, [_,_,_,_,_,_,_], [_,_,_,_,_,_,_], rfl, rfl, rfl, rfl, rfl⟩ fun b30 => VO.h rfl<|HO.callP (first := []) (cap := []) (xs := [_,_,_]) (vs := [_,_,_]) [_,_,_,_,_,_,_,_,_,_] [_,_,_,_,_,_,_,_,_,_] (selK (L1 := [_,_,_,_,_,_,_,_,_,_] ++ [_,_,_,_,_,_,_,_,_,_]) [4,5,6,7,8,9,10,11,12,13,0,1,2,3,14,15,16,17,18,19] rfl rfl) (.r rfl) C27 ⟨(.r rfl), (.r rfl), (.r rfl), trivial⟩ (fun w hw hh => Step_w (y1.o o 0) 300 (mC ⟨3000,3000,0,0⟩ 0 qd) _ 1 w hh (fun hs => cloudsM (restInv (selK (L1 := offR (y1.o o 0) ++ [_,_,_]) [4,5,6,7,8,9,10,11,12,13,0,2,1] rfl rfl w hw) hs (.head _)) (restInv (selK (L1 := offR (y1.o o 0) ++ [_,_,_]) [4,5,6,7,8,9,10,11,12,13,0,2,1] rfl rfl w hw) hs (.tail _ (.head _))) (restInv (selK (L1 := offR (y1.o o 0) ++ [_,_,_]) [4,5,6,7,8,9,10,11,12,13,0,2,1] rfl rfl w hw) hs (.tail _ (.tail _ (.head _))))) (show (1 : Nat) < 1000000000 by decide) (step_wf hwf hy1) (by decide) (by decide) (.inr (by show lastI (o.ts ++ [0]) < 300; rw [lastI_snoc]; decide)) (by show (o.lg ++ [y1.lg]).length < 256; rw [hn.2.2.2.2.2.2.1]; exact show (1 : Nat) < 256 by decide) (by show lookE o.g _ = 0; rw [hn.1]; exact lookD)) fun y2 hy2 => VO.h rfl<|HO.lo (LO.mv (.r rfl))<|VO.h rfl<|HO.lo (LO.ex (.r rfl) rfl)<|VO.h rfl<|HO.lo (LO.ex (.r rfl) rfl)<|VO.h rfl<|HO.lo (LO.as (.r rfl))<|VO.h rfl<|HO.lo (LO.as (.r rfl))<|VO.nil ?_)
    refine VE.seqN ?_
    refine VC.seq ?_
    have hw3 : WfO (y2.o (y1.o o 0) 300) := step_wf (step_wf hwf hy1) hy2
    obtain ⟨hE1, hE2, hLv⟩ := works_plain (l := lS q) rfl hn hy1 hy2
    rw [hE1, hE2]
    refine VC.reg (VO.l (LO.mv (.r rfl)) rfl<|VO.l (LO.len S60 (.r rfl) rfl) rfl<|VO.l (LO.eq (.r rfl) (.r rfl)) rfl<|VO.l (LO.mv (.r rfl)) rfl<|VO.lg rfl rfl (GD.t _) (fun hg => LO.mv (.r rfl)) rfl<|VO.lg rfl rfl (GD.t _) (fun hg => LO.eq (.g hg rfl) (.r rfl)) rfl<|VO.l (LO.pkA (.r rfl) rfl rfl (.r rfl)) rfl<|VO.l (LO.mv (.r rfl)) rfl<|VO.lg rfl rfl (GD.t _) (fun hg => LO.mv (.r rfl)) rfl<|VO.lg rfl rfl (GD.t _) (fun hg => LO.ixo S60 N62 (fun _ hw => (own_rows hw 14 rfl).some rfl) (.g hg rfl) (.r rfl) (j := 0) rfl (by decide)) rfl<|VO.lg rfl rfl (GD.t _) (fun hg => LO.lda (vs := [_,_,_,_,_,_,_]) A62 (.g hg rfl) (fun w hw => cells_part (off := 0) (own_cell hw 14 rfl (j := 0) rfl) ⟨_, rfl⟩) rfl) rfl<|VO.lg rfl rfl (GD.t _) (fun hg => LO.bd (ps := [(_,_), (_,_), (_,_), (_,_), (_,_), (_,_)]) (vs := [(_,_), (_,_), (_,_), (_,_), (_,_), (_,_)]) (C := [_,_,_,_,_,_,_]) B62  ⟨(.r rfl), (.r rfl), (.r rfl), (.r rfl), (.r rfl), (.r rfl), trivial⟩ rfl ⟨_, [_], [_,_,_,_,_,_,_], rfl, rfl, rfl, rfl, ⟨_, [_], [_,_,_,_,_,_,_], rfl, rfl, rfl, rfl, ⟨_, [_], [_,_,_,_,_,_,_], rfl, rfl, rfl, rfl, ⟨_, [_], [_,_,_,_,_,_,_], rfl, rfl, rfl, rfl, ⟨_, [_], [_,_,_,_,_,_,_], rfl, rfl, rfl, rfl, ⟨_, [_], [_,_,_,_,_,_,_], rfl, rfl, rfl, rfl, rfl⟩⟩⟩⟩⟩⟩) rfl<|VO.lg rfl rfl (GD.t _) (fun hg => LO.eqs («as» := [0,1,1,1,1,0,6]) (bs := [0,1,1,1,1,0,6]) E62 (.g hg rfl) (.g hg rfl) rfl rfl) rfl<|VO.l (LO.pkA (.r rfl) rfl rfl (.r rfl)) rfl<|VO.l (LO.mv (.r rfl)) rfl<|VO.lg rfl rfl (GD.t _) (fun hg => LO.mv (.r rfl)) rfl<|VO.lg rfl rfl (GD.t _) (fun hg => LO.len S60 (.g hg rfl) rfl) rfl<|VO.lg rfl rfl (GD.t _) (fun hg => LO.eq (.g hg rfl) (.r rfl)) rfl<|VO.l (LO.pkA (.r rfl) rfl rfl (.r rfl)) rfl<|VO.l (LO.mv (.r rfl)) rfl<|VO.lg rfl rfl (GD.t _) (fun hg => LO.mv (.r rfl)) rfl<|VO.lg rfl rfl (GD.t _) (fun hg => LO.eq (.g hg rfl) (.r rfl)) rfl<|VO.l (LO.pkA (.r rfl) rfl rfl (.r rfl)) rfl<|VO.l (LO.mv (.r rfl)) rfl<|VO.lg rfl rfl (GD.t _) (fun hg => LO.mv (.r rfl)) rfl<|VO.lg rfl rfl (GD.t _) (fun hg => LO.ixo S60 N62 (fun _ hw => (own_rows hw 0 rfl).some rfl) (.g hg rfl) (.r rfl) (j := 0) rfl (by decide)) rfl<|VO.lg rfl rfl (GD.t _) (fun hg => LO.lda (vs := [_,_,_,_,_,_,_]) A62 (.g hg rfl) (fun w hw => cells_part (off := 0) (own_cell hw 0 rfl (j := 0) rfl) ⟨_, rfl⟩) rfl) rfl<|VO.lg rfl rfl (GD.t _) (fun hg => LO.bd (ps := [(_,_), (_,_), (_,_), (_,_), (_,_), (_,_), (_,_)]) (vs := [(_,_), (_,_), (_,_), (_,_), (_,_), (_,_), (_,_)]) (C := [_,_,_,_,_,_,_]) B62  ⟨(.r rfl), (.r rfl), (.r rfl), (.r rfl), (.r rfl), (.r rfl), (.r rfl), trivial⟩ rfl ⟨_, [_], [_,_,_,_,_,_,_], rfl, rfl, rfl, rfl, ⟨_, [_], [_,_,_,_,_,_,_], rfl, rfl, rfl, rfl, ⟨_, [_], [_,_,_,_,_,_,_], rfl, rfl, rfl, rfl, ⟨_, [_], [_,_,_,_,_,_,_], rfl, rfl, rfl, rfl, ⟨_, [_], [_,_,_,_,_,_,_], rfl, rfl, rfl, rfl, ⟨_, [_], [_,_,_,_,_,_,_], rfl, rfl, rfl, rfl, ⟨_, [_], [_,_,_,_,_,_,_], rfl, rfl, rfl, rfl, rfl⟩⟩⟩⟩⟩⟩⟩) rfl<|VO.lg rfl rfl (GD.t _) (fun hg => LO.eqs («as» := [300,0,1,2,2,1000,10]) (bs := [300,0,1,2,2,1000,10]) E62 (.g hg rfl) (.g hg rfl) rfl rfl) rfl<|VO.l (LO.pkA (.r rfl) rfl rfl (.r rfl)) rfl<|VO.l (LO.mv (.r rfl)) rfl<|VO.lg rfl rfl (GD.t _) (fun hg => LO.mv (.r rfl)) rfl<|VO.bc (x := 57) rfl (fun hg6_30 => VO.gT rfl rfl (congrArg Value.bool hg6_30) rfl<|HO.callx (xs := [_]) (vs := [_]) C24 ⟨(.g hg6_30 rfl), trivial⟩ (fun w hw => Levels_c (y2.o (y1.o o 0) 300) w (by have := hw3.n; omega) hw3.n.1 (fun r hr => by have h1 := hw3.lvb r hr; have h2 : (y2.o (y1.o o 0) 300).ts.length = 2 := (by show ((o.ts ++ [0]) ++ [300]).length = 2; rw [hn.2.2.2.2.1]; rfl); omega) ((selK (L1 := offR (y2.o (y1.o o 0) 300)) [1,2,3,4,5,6,7,8,9,10] rfl rfl w hw).has (List.Sublist.refl _))) fun xl _ => VO.gT rfl rfl (congrArg Value.bool hg6_30) rfl<|HO.bs (ps := [(_,_), (_,_)]) (vs := [(_,_), (_,_)]) (Z := [_,_]) (C := [_,_]) S55 Z3 N3 ⟨(.r rfl), (.r rfl), trivial⟩ rfl rfl rfl rfl ⟨_, [_], [_,_], rfl, rfl, rfl, rfl, ⟨_, [_], [_,_], rfl, rfl, rfl, rfl, rfl⟩⟩ fun b43 => VO.gT rfl rfl (congrArg Value.bool hg6_30) rfl<|HO.lo (LO.call (xs := [_,_]) (vs := [_,_]) C25 ⟨(.r rfl), (.r rfl), trivial⟩ (fun w hw => ints_c xl.1 _ (levelsL (y2.o (y1.o o 0) 300)) [2,1] xl.2 2 w (by rw [hLv]; decide) (by decide) (own_rows hw 1 rfl) (ints_blk (l := [2,1]) (St.inv hw 0 _ rfl))))<|VO.h rfl<|HO.lo (LO.pkT (.r rfl) hg6_30 (.r rfl))<|VO.h rfl<|HO.lo (LO.as (.r rfl))<|VO.nil ?_) (fun hg6_30 => (by exfalso; exact absurd hg6_30 (by decide))))
    refine VE.seqN ?_
    refine VC.ret (VE.res (vs := [_]) rfl ⟨rfl, trivial⟩ (fun w hw => ?_))
    refine ⟨?_, hw.nil⟩
    simp only [resV]
    rw [decide_eq_true hLv]

end Go.Proofs.Ytdjflomhaljljaa

namespace Go.Proofs.Ytdjflomhaljljaa
open Go.SL Go.Proofs Go.Cast
set_option linter.unusedVariables false

theorem C14 : IsFn Try.prog 14 := ⟨_, Try.func14, by decide, rfl⟩
structure RegsU (w : World) (p : Option Addr) (l : List RG) : Prop where
  rows : Go.SL.Rows w 2 p (l.map RG.cells)
  ok : ∀ x, x ∈ l → Ints w x.px x.r.pix
theorem RegsU.sm {w : World} {p : Option Addr} {l : List RG} (h : RegsU w p l) : SlSome p l.length := Go.SL.Rows.some h.rows (by simp)
theorem RegsU.at {w0 : World} {p : Option Addr} {l : List RG} (h : RegsU w0 p l) {L : List Res} {j : Nat} {x : RG} (hx : l[j]? = some x) : ∀ w, St (bs w0) L w → Cells w ⟨pb p, po p + j * 2, none⟩ x.cells :=
  fun w hw => (h.rows.keep w hw).cells j _ (by rw [List.getElem?_map, hx]; rfl)
def FewR (l : List RG) : Prop := l.length ≤ 100 ∧ ∀ x, x ∈ l → x.r.pix.length ≤ 70
def FewC (l : List CP) : Prop := l.length ≤ 100 ∧ ∀ x, x ∈ l → x.c.sure.length ≤ 60 ∧ x.c.may.length ≤ 60
theorem RegsU.regs {w : World} {p : Option Addr} {l : List RG} (h : RegsU w p l) (hf : FewR l) : Regs w p l := ⟨h.rows, fun x hx => ⟨h.ok x hx, by have := hf.2 x hx; omega⟩⟩
structure CldU (w : World) (p : Option Addr) (l : List CP) : Prop where
  rows : Go.SL.Rows w 7 p (l.map CP.cells)
  ok : ∀ x, x ∈ l → Ints w x.ps x.c.sure ∧ Ints w x.pm x.c.may
theorem CldU.sl {w : World} {p : Option Addr} {l : List CP} (h : CldU w p l) : SlSome p l.length := Go.SL.Rows.some h.rows (by simp)
theorem CldU.at {w0 : World} {p : Option Addr} {l : List CP} (h : CldU w0 p l) {L : List Res} {j : Nat} {x : CP} (hx : l[j]? = some x) : ∀ w, St (bs w0) L w → Cells w ⟨pb p, po p + j * 7, none⟩ x.cells :=
  fun w hw => (h.rows.keep w hw).cells j _ (by rw [List.getElem?_map, hx]; rfl)
theorem CldU.keep {w0 w : World} {L : List Res} {p : Option Addr} {l : List CP} (h : CldU w0 p l) (hw : St (bs w0) L w) : CldU w p l := ⟨h.rows.keep w hw, fun x hx => ⟨(h.ok x hx).1.keep w hw, (h.ok x hx).2.keep w hw⟩⟩
theorem CldU.clouds {w : World} {p : Option Addr} {l : List CP} (h : CldU w p l) (hf : FewC l) : Clouds w p l := ⟨h.rows, fun x hx => ⟨(h.ok x hx).1, (h.ok x hx).2, by have := hf.2 x hx; omega, by have := hf.2 x hx; omega⟩⟩
end Go.Proofs.Ytdjflomhaljljaa

namespace Go.Proofs.Ytdjflomhaljljaa
open Go.SL Go.Proofs Go.Cast
set_option linter.unusedVariables false



/-- No office: a nil pointer, or one to an office that no function made. -/
def NoOff (w : World) (p : Option Addr) : Prop := p = none ∨ ∃ b, p = some ⟨b, 0, none⟩ ∧ Cells w ⟨b, 0, none⟩ [.int .i64 0, .int .i64 0, .int .i64 0, .int .i64 0, .int .i64 0, .slice none 0 0, .int .i64 0, .int .i64 0, .int .i64 0, .slice none 0 0, .slice none 0 0, .slice none 0 0, .slice none 0 0]
theorem NoOff.keep {w0 w : World} {L : List Res} {p : Option Addr} (h : NoOff w0 p) (hw : St (bs w0) L w) : NoOff w p := by
  rcases h with h | ⟨b, h1, h2⟩
  · exact .inl h
  · exact .inr ⟨b, h1, cells_keep h2 w hw⟩

end Go.Proofs.Ytdjflomhaljljaa

namespace Go.Proofs.Ytdjflomhaljljaa
open Go.SL Go.Proofs Go.Cast
set_option linter.unusedVariables false

theorem B93 : Builds Try.prog 93 [(0,5), (5,1)] [.int .i64 0, .int .i64 0, .int .i64 0, .int .i64 0, .int .i64 0, .slice none 0 0] := Builds.mk fun _ => by kernel_rfl
theorem C31 : IsFn Try.prog 31 := ⟨_, Try.func31, by decide, rfl⟩
theorem C22 : IsFn Try.prog 22 := ⟨_, Try.func22, by decide, rfl⟩
theorem S58 : IsSlice Try.prog 58 64 := Try.underlying58
theorem C41 : IsFn Try.prog 41 := ⟨_, Try.func41, by decide, rfl⟩
theorem S109 : IsSlice Try.prog 109 112 := Try.underlying109
theorem C32 : IsFn Try.prog 32 := ⟨_, Try.func32, by decide, rfl⟩
theorem S95 : IsSlice Try.prog 95 169 := Try.underlying95
theorem C42 : IsFn Try.prog 42 := ⟨_, Try.func42, by decide, rfl⟩


end Go.Proofs.Ytdjflomhaljljaa

namespace Go.Proofs.Ytdjflomhaljljaa
open Go.SL Go.Proofs Go.Cast
set_option linter.unusedVariables false

theorem A64 : IsAgg Try.prog 64 5 := ⟨⟨_, Try.underlying64, rfl⟩, by kernel_rfl⟩
theorem Z64 : ZeroOf Try.prog 64 (.agg #[.int .i64 0, .int .i64 0, .int .i64 0, .int .i64 0, .int .i64 0]) := by unfold ZeroOf; kernel_rfl
theorem N64 : (Try.prog.info? 64).map (·.size) = some 5 := by kernel_rfl
theorem I64 : EInfo Try.prog 64 5 40 (.agg #[.int .i64 0, .int .i64 0, .int .i64 0, .int .i64 0, .int .i64 0]) := ⟨by kernel_rfl, by kernel_rfl, by unfold ZeroOf; kernel_rfl, rfl, by decide⟩
theorem C79 : IsFn Try.prog 79 := ⟨_, Try.func79, by decide, rfl⟩
theorem C59 : IsFn Try.prog 59 := ⟨_, Try.func59, by decide, rfl⟩


theorem case_read {w : World} {o : OfM} (hh : Has w (offR o)) {c : CsM} (hc : c ∈ o.cs) : Cells w ⟨c.b, 0, none⟩ c.C := cells_inv ((St.inv hh 7 _ rfl).1 c.blk (List.mem_map_of_mem hc))
/-- How many of the times are up to a time. -/
def kAt (ts : List Int) (T : Int) : Nat := ts.countP (fun t => decide (t < T)) + (if ts.contains T then 1 else 0)
def atLv (ts lv : List Int) (T : Int) : Int := if kAt ts T = 0 then 0 else lv.getD (kAt ts T - 1) 0
theorem kAt_le {ts : List Int} {T : Int} : kAt ts T ≤ ts.length := by
  unfold kAt
  have h := List.countP_le_length (p := fun t => decide (t < T)) (l := ts)
  split
  · rename_i q
    have : ts.countP (fun t => decide (t < T)) < ts.length := by
      rcases Nat.lt_or_ge (ts.countP (fun t => decide (t < T))) ts.length with q2 | q2
      · exact q2
      · have := List.countP_eq_length.1 (Nat.le_antisymm h q2) T (by simpa using q)
        simp at this
    omega
  · omega
theorem BinarySearch_c (l : List Int) (p : Option Addr) (c : Nat) (T : Int) (w : World) (hn : l.length < 1000000000000) (hl : Ints w p l) (hs : l.Pairwise (· ≤ ·)) :
    Calls Try.prog 79 #[.slice p l.length c, .int .i64 T] w fun e w' => e = .returned (.tuple #[.int .i64 (l.countP (fun t => decide (t < T)) : Nat), .bool (l.contains T)]) ∧ St (bs w) [] w' := by
  cases hq : l with
  | nil => exact (Try.slices_BinarySearch_int_empty p c T w).mono fun e w' h => ⟨h.1, St.of_eq h.2⟩
  | cons a l' =>
    rw [← hq]
    have h0 := Go.SL.Rows.some (n := l.length) hl (by simp)
    have hp := h0 (by rw [hq]; simp)
    rw [hp]
    refine (Try.slices_BinarySearch_int (pb p) (po p) l.length c l T w (Nat.le_refl _) (by omega) (fun j hj => ?_) (by rw [List.take_length]; exact hs)).mono fun e w' h => ?_
    · have h1 := hl.cells j [.int .i64 (l.getD j 0)] (by rw [List.getElem?_map, getD_some (d := (0 : Int)) hj]; rfl) 0 _ rfl
      have e : (⟨pb p, po p + j * 1, none⟩ : Addr).add 0 = ⟨pb p, po p + j, none⟩ := by simp [Addr.add]
      rw [e] at h1
      exact h1
    · rw [List.take_length] at h
      obtain ⟨h1, q, h2⟩ := h
      exact ⟨h1, (St.refl w).same (by rw [h2]; rfl) (by rw [h2]; rfl) (by rw [h2]; rfl) (by rw [h2]; rfl)⟩

set_option maxRecDepth 20000 in
theorem Cases_c (o : OfM) (w : World) (hn : o.rc.length < 1000000) (hp : 0 < o.rc.length) (hcs : o.cs.length < 1000000000) (hh : Has w (offR o)) :
  Calls Try.prog 22 #[ptrN o.b] w fun e w' => ∃ x : Option Addr × Nat, True ∧ e = .returned (.slice x.1 o.cs.length x.2) ∧ St (bs w) [own 64 5 x.1 x.2 (o.cs.map CsM.C)] w' := by
  have hrr : RO 1 csP w o.pk o.cs := RO.of_own hh 6 rfl
  refine enter (vs := [_]) (env := [(0,_)]) Try.func22 rfl rfl rfl rfl ?_
  refine VC.seq ?_
  refine VC.reg (VO.l (LO.as (.r rfl)) rfl<|VO.nil ?_)
  refine VE.seqN ?_
  refine VC.seq ?_
  refine VC.seq ?_
  refine VC.reg (VO.l (LO.mv (.r rfl)) rfl<|VO.l (LO.call (xs := [_]) (vs := [_]) C53 ⟨(.r rfl), trivial⟩ (fun w hw => nothing_c o w (by omega) (off_cells (hh.keep hw)))) rfl<|VO.nil ?_)
  refine VE.seqN ?_
  refine VC.cond rfl (fun h7 => ?_) (fun h7 => ?_)
  ·
    (exfalso; omega)
  ·
    refine VC.skip (VE.seqN ?_)
    refine VC.seq ?_
    refine VC.reg (VO.l (LO.as (.r rfl)) rfl<|VO.nil ?_)
    refine VE.seqN ?_
    refine VC.seq ?_
    refine VC.seq ?_
    refine VC.reg (VO.l (LO.mv (.r rfl)) rfl<|VO.l (LO.nc (.r rfl)) rfl<|VO.l (LO.fa (r := 11) F117_3 (.r rfl) rfl) rfl<|VO.l (LO.ld O114 (.r rfl) (cells_keep (sub_cells (off := 11) (off_cells hh) ⟨_, rfl⟩))) rfl<|VO.l (LO.len S114 (.r rfl) rfl) rfl<|VO.l (LO.mv (.r rfl)) rfl<|VO.nil ?_)
    refine VE.seqN ?_
    refine VC.block ?_
    refine VC.loopK (α := Nat × (List CsM) × (Option Addr) × Nat) 0 (fun gx => [(3, .slice gx.2.2.1 gx.2.1.length gx.2.2.2), (13, .int .i64 (gx.1 : Nat))]) [(11,_), (12,_)] (fun gx => [own 64 5 gx.2.2.1 gx.2.2.2 (gx.2.1.map CsM.C)]) (fun gx => gx.1 ≤ o.cs.length ∧ gx.2.1 = o.cs.take gx.1) (fun gx => o.cs.length - gx.1) (0, [], none, 0) (by exact ⟨Nat.zero_le _, rfl⟩) (.cons rfl (.cons rfl (.cons rfl (.cons rfl .nil)))) (fun _ h => (h.ownNil 64 5)) ?_
    rintro ⟨j, xs, px_, cx_⟩ ⟨hj, hX⟩
    show VC _ _ _ _ _ ([(3, .slice px_ xs.length cx_), (13, .int .i64 (j : Nat))] ++ _) ([own 64 5 px_ cx_ (xs.map CsM.C)] ++ _) _ _
    dsimp only at hj hX
    have hxl : xs.length = j := by rw [hX]; simp; omega
    refine VC.seq ?_
    refine VC.reg (VO.l (LO.lt (.r rfl) (.r rfl)) rfl<|VO.nil ?_)
    refine VE.seqN ?_
    refine VC.seq ?_
    refine VC.cond rfl (fun h14 => ?_) (fun h14 => ?_)
    ·
      obtain ⟨c, hr⟩ : ∃ c, o.cs[j]? = some c := ⟨_, List.getElem?_eq_getElem (by omega)⟩
      have hrm : c ∈ o.cs := List.mem_of_getElem? hr
      refine VC.skip (VE.seqN ?_)
      refine VC.seq ?_
      refine VC.block ?_
      refine VC.seq ?_
      refine VC.reg (VO.l (LO.ixs S114 N150 hrr.sm (.r rfl) (.r rfl) rfl (by omega)) rfl<|VO.l (LO.ld O150 (.r rfl) (fun w hw => cells_part (off := 0) ((fun w2 hw2 => (hrr.keep w2 hw2).cells _ _ (by rw [List.getElem?_map, hr]; rfl)) w hw) ⟨_, rfl⟩)) rfl<|VO.l (LO.as (.r rfl)) rfl<|VO.nil ?_)
      refine VE.seqN ?_
      refine VC.reg (VO.l (LO.mv (.r rfl)) rfl<|VO.l (LO.mv (.r rfl)) rfl<|VO.l (LO.nc (.r rfl)) rfl<|VO.l (LO.lda (vs := [_,_,_,_,_]) A64 (.r rfl) (fun w2 hw2 => case_read (hh.keep hw2) hrm) rfl) rfl<|VO.h rfl<|HO.bs (ps := [(_,_)]) (vs := [(_,_)]) (Z := [_,_,_,_,_]) (C := [_,_,_,_,_]) S58 Z64 N64 ⟨(.r rfl), trivial⟩ rfl rfl rfl rfl ⟨_, [_,_,_,_,_], [_,_,_,_,_], rfl, rfl, rfl, rfl, rfl⟩ fun b2 => VO.h rfl<|HO.appT (c) 1 0 (fun R => [_, R]) S58 S58 I64 (.r rfl) (.r rfl) rfl rfl rfl rfl rfl rfl rfl (fun _ => rfl) rfl (by omega) fun p5 c5 => VO.h rfl<|HO.lo (LO.as (.r rfl))<|VO.nil ?_)
      refine VE.inN (VE.seqN ?_)
      refine VC.reg (VO.l (LO.add (.r rfl) (.r rfl) (wi (by omega) (by omega))) rfl<|VO.l (LO.mv (.r rfl)) rfl<|VO.nil ?_)
      refine VE.thenN fun a w ha hw => ⟨(j + 1, xs ++ [c], p5, c5), ⟨by dsimp only; omega, by dsimp only; rw [List.take_add_one, hr, hX]; rfl⟩, (by dsimp only; omega), ha.sub (.cons rfl (.cons rfl (.cons rfl (.cons rfl .nil)))), hw.sel [1] rfl⟩
    ·
      refine VC.exit (VE.thenX (VE.thenX (VE.inX (VE.seqN ?_))))
      refine VC.seq ?_
      refine VC.reg (VO.l (LO.mv (.r rfl)) rfl<|VO.l (LO.as (.r rfl)) rfl<|VO.nil ?_)
      refine VE.seqN ?_
      refine VC.ret (VE.res (vs := [_]) rfl ⟨rfl, trivial⟩ (fun w hw => ?_))
      have hx2 : xs = o.cs := by rw [hX, List.take_of_length_le (by omega)]
      rw [← hx2]
      exact ⟨(px_, cx_), trivial, rfl, hw.sel [0] rfl⟩

set_option maxRecDepth 20000 in
theorem at_o (o : OfM) (r : RcM) (T : Int) (w : World) (hr : r ∈ o.rc) (hlv : r.lv.length = o.ts.length) (hn : o.ts.length < 1000000) (hs : o.ts.Pairwise (· ≤ ·)) (hh : Has w (offR o)) :
  Calls Try.prog 59 #[ptrN o.b, ptrN r.b, .int .i64 T] w fun e w' => e = .returned (.int .i64 (atLv o.ts r.lv T)) ∧ St (bs w) [] w' := by
  have hrv := (rec_read hh hr).2.2
  have hk := kAt_le (ts := o.ts) (T := T)
  unfold kAt at hk
  refine enter (vs := [_,_,_]) (env := [(0,_), (1,_), (2,_)]) Try.func59 rfl rfl rfl rfl ?_
  refine VC.seq ?_
  refine VC.reg (VO.l (LO.as (.r rfl)) rfl<|VO.nil ?_)
  refine VE.seqN ?_
  refine VC.seq ?_
  refine VC.reg (VO.l (LO.mv (.r rfl)) rfl<|VO.l (LO.nc (.r rfl)) rfl<|VO.l (LO.fa (r := 10) F117_2 (.r rfl) rfl) rfl<|VO.l (LO.ld O55 (.r rfl) (cells_keep (sub_cells (off := 10) (off_cells hh) ⟨_, rfl⟩))) rfl<|VO.l (LO.mv (.r rfl)) rfl<|VO.l (LO.call (xs := [_,_]) (vs := [_,_]) C79 ⟨(.r rfl), (.r rfl), trivial⟩ (fun w hw => BinarySearch_c o.ts o.pt o.ct T w (by omega) (RO.of_own (hh.keep hw) 5 rfl) hs)) rfl<|VO.l (LO.mv (.r rfl)) rfl<|VO.l (LO.ex (.r rfl) rfl) rfl<|VO.l (LO.ex (.r rfl) rfl) rfl<|VO.l (LO.as (.r rfl)) rfl<|VO.l (LO.as (.r rfl)) rfl<|VO.nil ?_)
  refine VE.seqN ?_
  refine VC.seq ?_
  refine VC.seq ?_
  refine VC.reg (VO.l (LO.mv (.r rfl)) rfl<|VO.nil ?_)
  refine VE.seqN ?_
  refine VC.cond rfl (fun h18 => ?_) (fun h18 => ?_)
  ·
    have hkA : (kAt o.ts T : Int) = (o.ts.countP (fun t => decide (t < T)) : Nat) + 1 := by unfold kAt; rw [if_pos h18]; rfl
    refine VC.reg (VO.l (LO.mv (.r rfl)) rfl<|VO.l (LO.add (.r rfl) (.r rfl) (wi (by omega) (by omega))) rfl<|VO.l (LO.as (.r rfl)) rfl<|VO.nil ?_)
    refine VE.seqN ?_
    refine VC.seq ?_
    refine VC.seq ?_
    refine VC.reg (VO.l (LO.mv (.r rfl)) rfl<|VO.l (LO.eq (.r rfl) (.r rfl)) rfl<|VO.nil ?_)
    refine VE.seqN ?_
    refine VC.cond rfl (fun h22 => ?_) (fun h22 => ?_)
    ·
      refine VC.seq ?_
      refine VC.reg (VO.l (LO.as (.r rfl)) rfl<|VO.nil ?_)
      refine VE.seqN ?_
      refine VC.ret (VE.thenR (VE.res (vs := [_]) rfl ⟨rfl, trivial⟩ (fun w hw => ?_)))
      refine ⟨?_, hw.nil⟩
      simp only [resV]
      congr 2
      unfold atLv
      first | rw [if_pos (by omega)] | rw [if_neg (by omega)]
    ·
      have hk2 := kAt_le (ts := o.ts) (T := T)
      refine VC.skip (VE.seqN ?_)
      refine VC.seq ?_
      refine VC.reg (VO.l (LO.mv (.r rfl)) rfl<|VO.l (LO.nc (.r rfl)) rfl<|VO.l (LO.fa (r := 4) F156_3 (.r rfl) rfl) rfl<|VO.l (LO.ld O55 (.r rfl) (cells_keep (sub_cells (off := 4) (rec_read hh hr).1 ⟨_, rfl⟩))) rfl<|VO.l (LO.mv (.r rfl)) rfl<|VO.l (LO.sub (.r rfl) (.r rfl) (wi (by omega) (by omega))) rfl<|VO.l (LO.ixs S55 N3 hrv.sm (.r rfl) (.r rfl) (by omega) (by omega)) rfl<|VO.l (LO.ld O3 (.r rfl) (fun w hw => cells_part (off := 0) ((hrv.at 0 (j := (kAt o.ts T - 1)) (by omega)) w hw) ⟨_, rfl⟩)) rfl<|VO.l (LO.as (.r rfl)) rfl<|VO.nil ?_)
      refine VE.seqN ?_
      refine VC.ret (VE.res (vs := [_]) rfl ⟨rfl, trivial⟩ (fun w hw => ?_))
      refine ⟨?_, hw.nil⟩
      simp only [resV]
      congr 2
      unfold atLv
      first | rw [if_pos (by omega)] | rw [if_neg (by omega)]
  ·
    have hkA : (kAt o.ts T : Int) = (o.ts.countP (fun t => decide (t < T)) : Nat) := by unfold kAt; rw [if_neg h18]; rfl
    refine VC.skip (VE.seqN ?_)
    refine VC.seq ?_
    refine VC.seq ?_
    refine VC.reg (VO.l (LO.mv (.r rfl)) rfl<|VO.l (LO.eq (.r rfl) (.r rfl)) rfl<|VO.nil ?_)
    refine VE.seqN ?_
    refine VC.cond rfl (fun h22 => ?_) (fun h22 => ?_)
    ·
      refine VC.seq ?_
      refine VC.reg (VO.l (LO.as (.r rfl)) rfl<|VO.nil ?_)
      refine VE.seqN ?_
      refine VC.ret (VE.thenR (VE.res (vs := [_]) rfl ⟨rfl, trivial⟩ (fun w hw => ?_)))
      refine ⟨?_, hw.nil⟩
      simp only [resV]
      congr 2
      unfold atLv
      first | rw [if_pos (by omega)] | rw [if_neg (by omega)]
    ·
      have hk2 := kAt_le (ts := o.ts) (T := T)
      refine VC.skip (VE.seqN ?_)
      refine VC.seq ?_
      refine VC.reg (VO.l (LO.mv (.r rfl)) rfl<|VO.l (LO.nc (.r rfl)) rfl<|VO.l (LO.fa (r := 4) F156_3 (.r rfl) rfl) rfl<|VO.l (LO.ld O55 (.r rfl) (cells_keep (sub_cells (off := 4) (rec_read hh hr).1 ⟨_, rfl⟩))) rfl<|VO.l (LO.mv (.r rfl)) rfl<|VO.l (LO.sub (.r rfl) (.r rfl) (wi (by omega) (by omega))) rfl<|VO.l (LO.ixs S55 N3 hrv.sm (.r rfl) (.r rfl) (by omega) (by omega)) rfl<|VO.l (LO.ld O3 (.r rfl) (fun w hw => cells_part (off := 0) ((hrv.at 0 (j := (kAt o.ts T - 1)) (by omega)) w hw) ⟨_, rfl⟩)) rfl<|VO.l (LO.as (.r rfl)) rfl<|VO.nil ?_)
      refine VE.seqN ?_
      refine VC.ret (VE.res (vs := [_]) rfl ⟨rfl, trivial⟩ (fun w hw => ?_))
      refine ⟨?_, hw.nil⟩
      simp only [resV]
      congr 2
      unfold atLv
      first | rw [if_pos (by omega)] | rw [if_neg (by omega)]

end Go.Proofs.Ytdjflomhaljljaa

namespace Go.Proofs.Ytdjflomhaljljaa
open Go.SL Go.Proofs Go.Cast
set_option linter.unusedVariables false

/-- A step: its time, and the threats of all regions. -/
structure Stp where
  t : Int
  th : List Thr
def zS : Stp := ⟨0, []⟩
def lastT (st : List Stp) : Int := (st.getD (st.length - 1) zS).t
def histR (k : Nat) (st : List Stp) : List Rch := st.map fun s => ⟨s.t, (s.th.getD k zT).lv⟩
/-- The level of a region behind some steps. -/
def lvS (H : Int) (k : Nat) (st : List Stp) : Int := maxLv (keepR (lastT st) H (histR k st))
def lvL (H : Int) (k : Nat) (st : List Stp) : List Int := (List.range st.length).map fun i => lvS H k (st.take (i + 1))
/-- A warning. -/
structure Cs where
  nm : Int
  rg : Int
  bg : Int
  en : Int
  pk : Int
def zC : Cs := ⟨0,0,0,0,0⟩
def never : Int := 1099511627776
def opn (k : Nat) (c : Cs) : Bool := decide (c.rg = (k : Int)) && decide (c.en = never)
def stepC (k : Nat) (b n T : Int) (cs : List Cs) : List Cs :=
  if b = n then cs else if b = 0 then cs ++ [⟨cs.length + 1, k, T, never, n⟩] else cs.map fun c => if opn k c = true then { c with en := if n = 0 then T else c.en, pk := max c.pk n } else c
def openNm (k : Nat) (cs : List Cs) : Int := (cs.getD (cs.findIdx (opn k)) zC).nm
def evS (k : Nat) (b n T : Int) (t : Thr) (cs : List Cs) : Ev := { meetEv k T b n t with nm := if b = 0 then cs.length + 1 else openNm k cs }
def stepE (k : Nat) (b n T : Int) (t : Thr) (cs : List Cs) (es : List Ev) : List Ev := if b = n then es else es ++ [evS k b n T t cs]
/-- What a step does to the warnings of the first regions. -/
def runC (H : Int) (st : List Stp) (s : Stp) (cs : List Cs) : Nat → List Cs
  | 0 => cs
  | k + 1 => stepC k (lvS H k st) (lvS H k (st ++ [s])) s.t (runC H st s cs k)
/-- The events of the first regions in a step. -/
def runE (H : Int) (st : List Stp) (s : Stp) (cs : List Cs) : Nat → List Ev
  | 0 => []
  | k + 1 => stepE k (lvS H k st) (lvS H k (st ++ [s])) s.t (s.th.getD k zT) (runC H st s cs k) (runE H st s cs k)
/-- The warnings behind some steps. -/
def csA (H : Int) (n : Nat) (st : List Stp) : Nat → List Cs
  | 0 => []
  | m + 1 => runC H (st.take m) (st.getD m zS) (csA H n st m) n
def csF (H : Int) (n : Nat) (st : List Stp) : List Cs := csA H n st st.length
def evF (H : Int) (n : Nat) (st : List Stp) (s : Stp) : List Ev := runE H st s (csF H n st) n

theorem getD_app_l {α : Type} {l m : List α} {d : α} {j : Nat} (h : j < l.length) : (l ++ m).getD j d = l.getD j d := by
  rw [List.getD_eq_getElem?_getD, List.getD_eq_getElem?_getD, List.getElem?_append_left h]
theorem getD_snoc {α : Type} {l : List α} {a d : α} : (l ++ [a]).getD l.length d = a := by
  rw [List.getD_eq_getElem?_getD, List.getElem?_append_right (Nat.le_refl _)]; simp
theorem csA_snoc {H : Int} {n : Nat} {st : List Stp} {s : Stp} : ∀ m, m ≤ st.length → csA H n (st ++ [s]) m = csA H n st m
  | 0,_ => rfl
  | m + 1, h => by
    unfold csA
    rw [csA_snoc m (by omega), List.take_append_of_le_length (by omega), getD_app_l (by omega)]
theorem csF_snoc {H : Int} {n : Nat} {st : List Stp} {s : Stp} : csF H n (st ++ [s]) = runC H st s (csF H n st) n := by
  unfold csF
  rw [List.length_append, List.length_singleton]
  conv => lhs; unfold csA
  rw [csA_snoc _ (Nat.le_refl _), List.take_left, getD_snoc]
theorem lastT_snoc {st : List Stp} {s : Stp} : lastT (st ++ [s]) = s.t := by
  unfold lastT
  rw [List.length_append, List.length_singleton, Nat.add_sub_cancel, getD_snoc]
theorem histR_snoc {k : Nat} {st : List Stp} {s : Stp} : histR k (st ++ [s]) = histR k st ++ [⟨s.t, (s.th.getD k zT).lv⟩] := by unfold histR; rw [List.map_append]; rfl
theorem keep_keep {T T' H : Int} {l : List Rch} (h : T' ≤ T) : keepR T H (keepR T' H l) = keepR T H l := by
  unfold keepR
  rw [List.filter_filter]
  refine List.filter_congr fun x _ => ?_
  unfold oldR
  by_cases q : x.t < T - H
  · simp [q]
  · simp [q]; omega
theorem keep_now {T H : Int} {l : List Rch} {lv : Int} (hH : 0 ≤ H) : nowRc T H l lv = keepR T H (l ++ [⟨T, lv⟩]) := by
  unfold nowRc keepR
  rw [List.filter_append]
  congr 1
  have : oldR T H ⟨T, lv⟩ = false := by unfold oldR; simp; omega
  simp [this]
theorem rc_snoc {H : Int} {k : Nat} {st : List Stp} {s : Stp} (hH : 0 ≤ H) (hT : lastT st ≤ s.t ∨ st = []) : nowRc s.t H (keepR (lastT st) H (histR k st)) (s.th.getD k zT).lv = keepR (lastT (st ++ [s])) H (histR k (st ++ [s])) := by
  have e : nowRc s.t H (keepR (lastT st) H (histR k st)) (s.th.getD k zT).lv = nowRc s.t H (histR k st) (s.th.getD k zT).lv := by
    show keepR s.t H (keepR (lastT st) H (histR k st)) ++ _ = keepR s.t H (histR k st) ++ _
    rcases hT with h | h
    · rw [keep_keep h]
    · subst h; rfl
  rw [e, keep_now hH, lastT_snoc, histR_snoc]
theorem lvL_snoc {H : Int} {k : Nat} {st : List Stp} {s : Stp} : lvL H k (st ++ [s]) = lvL H k st ++ [lvS H k (st ++ [s])] := by
  unfold lvL
  rw [List.length_append, List.length_singleton, List.range_succ, List.map_append]
  congr 1
  · refine List.map_congr_left fun i hi => ?_
    rw [List.mem_range] at hi
    rw [List.take_append_of_le_length (by omega)]
  · simp only [List.map_cons, List.map_nil]
    rw [← List.length_singleton (a := s), ← List.length_append, List.take_length]
theorem lvL_len {H : Int} {k : Nat} {st : List Stp} : (lvL H k st).length = st.length := by simp [lvL]
theorem lvS_nn {H : Int} {k : Nat} {st : List Stp} : 0 ≤ lvS H k st := maxLv_nn _
theorem lvL_last {H : Int} {k : Nat} {st : List Stp} : lastI (lvL H k st) = lvS H k st := by
  rcases List.eq_nil_or_concat st with h | ⟨l, s, h⟩
  · subst h; rfl
  · rw [h, List.concat_eq_append, lvL_snoc, lastI_snoc]

/-- What holds of the warnings, by the levels of the regions. -/
structure CsOk (n : Nat) (lv : Nat → Int) (cs : List Cs) : Prop where
  nm : ∀ (j : Nat) (c : Cs), cs[j]? = some c → c.nm = j + 1
  rg : ∀ (j : Nat) (c : Cs), cs[j]? = some c → 0 ≤ c.rg ∧ c.rg < n
  op : ∀ (j : Nat) (c : Cs), cs[j]? = some c → c.en = never → lv c.rg.toNat ≠ 0
  one : ∀ (i j : Nat) (c d : Cs), cs[i]? = some c → cs[j]? = some d → c.rg = d.rg → c.en = never → d.en = never → i = j
  has : ∀ k, k < n → lv k ≠ 0 → ∃ (j : Nat) (c : Cs), cs[j]? = some c ∧ c.rg = (k : Int) ∧ c.en = never
  pk : ∀ (j : Nat) (c : Cs), cs[j]? = some c → c.en = never → lv c.rg.toNat ≤ c.pk
def setL (lv : Nat → Int) (k : Nat) (n : Int) : Nat → Int := fun i => if i = k then n else lv i
theorem csOk_nil {n : Nat} {lv : Nat → Int} (h : ∀ k, k < n → lv k = 0) : CsOk n lv [] := by
  refine ⟨?_, ?_, ?_, ?_, fun k hk hl => absurd (h k hk) hl, ?_⟩ <;> intros <;> simp_all
theorem opn_iff {k : Nat} {c : Cs} : opn k c = true ↔ c.rg = (k : Int) ∧ c.en = never := by unfold opn; simp
theorem csOk_step {n k : Nat} {lv : Nat → Int} {cs : List Cs} {b m T : Int} (h : CsOk n lv cs) (hk : k < n) (hb : lv k = b) (hb0 : 0 ≤ b) (hm0 : 0 ≤ m) (hT : T ≠ never) : CsOk n (setL lv k m) (stepC k b m T cs) := by
  have eqk : ∀ c : Cs, c.rg = (k : Int) → setL lv k m c.rg.toNat = m := fun c hc => by unfold setL; rw [hc]; simp
  have nek : ∀ c : Cs, 0 ≤ c.rg → c.rg ≠ (k : Int) → setL lv k m c.rg.toNat = lv c.rg.toNat := fun c hc hc2 => by unfold setL; rw [if_neg (by omega)]
  unfold stepC
  by_cases e1 : b = m
  · rw [if_pos e1]
    have : setL lv k m = lv := by funext i; unfold setL; split <;> simp_all
    rw [this]; exact h
  · rw [if_neg e1]
    by_cases e2 : b = 0
    · rw [if_pos e2]
      have noop : ∀ (j : Nat) (c : Cs), cs[j]? = some c → c.rg = (k : Int) → c.en ≠ never := fun j c hj hr he => by
        have := h.op j c hj he; rw [hr] at this; simp [hb, e2] at this
      have get : ∀ (j : Nat) (c : Cs), (cs ++ [(⟨cs.length + 1, k, T, never, m⟩ : Cs)])[j]? = some c → (j < cs.length ∧ cs[j]? = some c) ∨ (j = cs.length ∧ c = ⟨cs.length + 1, k, T, never, m⟩) := fun j c hj => by
        rcases Nat.lt_or_ge j cs.length with q | q
        · rw [List.getElem?_append_left q] at hj; exact .inl ⟨q, hj⟩
        · rw [List.getElem?_append_right q] at hj
          have : j - cs.length = 0 := by
            rcases Nat.lt_or_ge (j - cs.length) 1 with z | z
            · omega
            · rw [List.getElem?_eq_none (by simpa using z)] at hj; cases hj
          rw [this] at hj; simp at hj
          exact .inr ⟨by omega, hj.symm⟩
      refine ⟨?_, ?_, ?_, ?_, ?_, ?_⟩
      · intro j c hj
        rcases get j c hj with ⟨_, q⟩ | ⟨q, rfl⟩
        · exact h.nm j c q
        · simp [q]
      · intro j c hj
        rcases get j c hj with ⟨_, q⟩ | ⟨q, rfl⟩
        · exact h.rg j c q
        · simp only; omega
      · intro j c hj he
        rcases get j c hj with ⟨_, q⟩ | ⟨q, rfl⟩
        · have hne : c.rg ≠ (k : Int) := fun e => noop j c q e he
          rw [nek c (h.rg j c q).1 hne]; exact h.op j c q he
        · rw [eqk _ rfl]; omega
      · intro i j c d hi hj hr hc hd
        rcases get i c hi with ⟨_, q⟩ | ⟨q, rfl⟩ <;> rcases get j d hj with ⟨_, q2⟩ | ⟨q2, rfl⟩
        · exact h.one i j c d q q2 hr hc hd
        · exact absurd hc (noop i c q hr)
        · exact absurd hd (noop j d q2 hr.symm)
        · omega
      · intro i hi hl
        by_cases e : i = k
        · exact ⟨cs.length, ⟨cs.length + 1, k, T, never, m⟩, by rw [List.getElem?_append_right (Nat.le_refl _)]; simp, by rw [e], rfl⟩
        · unfold setL at hl; rw [if_neg e] at hl
          obtain ⟨j, c, h1, h2, h3⟩ := h.has i hi hl
          exact ⟨j, c, by rw [List.getElem?_append_left (List.getElem?_eq_some_iff.1 h1).1]; exact h1, h2, h3⟩
      · intro j c hj he
        rcases get j c hj with ⟨_, q⟩ | ⟨q, rfl⟩
        · have hne : c.rg ≠ (k : Int) := fun e => noop j c q e he
          rw [nek c (h.rg j c q).1 hne]; exact h.pk j c q he
        · rw [eqk _ rfl]; exact Int.le_refl _
    · rw [if_neg e2]
      have get : ∀ (j : Nat) (c : Cs), (cs.map fun c => if opn k c = true then { c with en := if m = 0 then T else c.en, pk := max c.pk m } else c)[j]? = some c → ∃ d, cs[j]? = some d ∧ c.nm = d.nm ∧ c.rg = d.rg ∧ ((opn k d = true ∧ c.en = (if m = 0 then T else d.en) ∧ c.pk = max d.pk m) ∨ (opn k d = false ∧ c = d)) := fun j c hj => by
        rw [List.getElem?_map] at hj
        cases q : cs[j]? with
        | none => rw [q] at hj; cases hj
        | some d =>
          rw [q] at hj
          simp only [Option.map_some, Option.some.injEq] at hj
          by_cases q2 : opn k d = true
          · rw [if_pos q2] at hj; subst hj; exact ⟨d, rfl, rfl, rfl, .inl ⟨q2, rfl, rfl⟩⟩
          · rw [if_neg q2] at hj; subst hj; exact ⟨d, rfl, rfl, rfl, .inr ⟨by simpa using q2, rfl⟩⟩
      refine ⟨?_, ?_, ?_, ?_, ?_, ?_⟩
      · intro j c hj
        obtain ⟨d, h1, h2,_⟩ := get j c hj
        rw [h2]; exact h.nm j d h1
      · intro j c hj
        obtain ⟨d, h1,_, h2,_⟩ := get j c hj
        rw [h2]; exact h.rg j d h1
      · intro j c hj he
        obtain ⟨d, h1,_, h2, ⟨h3, h4,_⟩ | ⟨h3, rfl⟩⟩ := get j c hj
        · have hd := opn_iff.1 h3
          rw [eqk c (by rw [h2]; exact hd.1)]
          intro e
          rw [if_pos e] at h4
          exact hT (h4.symm.trans he)
        · have hne : c.rg ≠ (k : Int) := fun e => by rw [opn_iff.2 ⟨e, he⟩] at h3; cases h3
          rw [nek c (h.rg j c h1).1 hne]; exact h.op j c h1 he
      · intro i j c d hi hj hr hc hd
        obtain ⟨c', h1,_, h2, h3⟩ := get i c hi
        obtain ⟨d', k1,_, k2, k3⟩ := get j d hj
        have en : ∀ {x y : Cs}, x.en = never → ((opn k y = true ∧ x.en = (if m = 0 then T else y.en) ∧ x.pk = max y.pk m) ∨ (opn k y = false ∧ x = y)) → y.en = never := fun {x y} hx q => by
          rcases q with ⟨q1,_,_⟩ | ⟨_, rfl⟩
          · exact (opn_iff.1 q1).2
          · exact hx
        exact h.one i j c' d' h1 k1 (by rw [← h2, ← k2]; exact hr) (en hc h3) (en hd k3)
      · intro i hi hl
        by_cases e : i = k
        · subst e
          obtain ⟨j, c, h1, h2, h3⟩ := h.has i hi (by rw [hb]; exact e2)
          have hm : m ≠ 0 := by unfold setL at hl; simpa using hl
          refine ⟨j, { c with en := if m = 0 then T else c.en, pk := max c.pk m }, ?_, h2, ?_⟩
          · rw [List.getElem?_map, h1]; simp only [Option.map_some]; rw [if_pos (opn_iff.2 ⟨h2, h3⟩)]
          · simp only; rw [if_neg hm]; exact h3
        · unfold setL at hl; rw [if_neg e] at hl
          obtain ⟨j, c, h1, h2, h3⟩ := h.has i hi hl
          refine ⟨j, c, ?_, h2, h3⟩
          rw [List.getElem?_map, h1]; simp only [Option.map_some]
          rw [if_neg (fun q => e (by have := (opn_iff.1 q).1; rw [h2] at this; omega))]
      · intro j c hj he
        obtain ⟨d, h1,_, h2, ⟨h3, h4, h5⟩ | ⟨h3, rfl⟩⟩ := get j c hj
        · rw [eqk c (by rw [h2]; exact (opn_iff.1 h3).1), h5]; exact Int.le_max_right ..
        · have hne : c.rg ≠ (k : Int) := fun e => by rw [opn_iff.2 ⟨e, he⟩] at h3; cases h3
          rw [nek c (h.rg j c h1).1 hne]; exact h.pk j c h1 he
/-- The levels in the midst of a step: those of the first regions are new. -/
def lvM (H : Int) (st : List Stp) (s : Stp) (k : Nat) : Nat → Int := fun i => if i < k then lvS H i (st ++ [s]) else lvS H i st
theorem csOk_run {H : Int} {n : Nat} {st : List Stp} {s : Stp} {cs : List Cs} (h : CsOk n (fun i => lvS H i st) cs) (hT : s.t ≠ never) : ∀ k, k ≤ n → CsOk n (lvM H st s k) (runC H st s cs k)
  | 0,_ => by
    have : lvM H st s 0 = fun i => lvS H i st := by funext i; unfold lvM; simp
    rw [this]; exact h
  | k + 1, hk => by
    have ih := csOk_step (csOk_run h hT k (by omega)) (k := k) (by omega) (b := lvS H k st) (m := lvS H k (st ++ [s])) (T := s.t) (by unfold lvM; simp) lvS_nn lvS_nn hT
    have : setL (lvM H st s k) k (lvS H k (st ++ [s])) = lvM H st s (k + 1) := by
      funext i; unfold setL lvM
      by_cases q : i = k
      · subst q; simp
      · rw [if_neg q]; by_cases q2 : i < k
        · rw [if_pos q2, if_pos (by omega)]
        · rw [if_neg q2, if_neg (by omega)]
    rw [this] at ih; exact ih
theorem lvM_end {H : Int} {n : Nat} {st : List Stp} {s : Stp} {cs : List Cs} (h : CsOk n (lvM H st s n) cs) : CsOk n (fun i => lvS H i (st ++ [s])) cs := by
  have e : ∀ i, i < n → lvM H st s n i = lvS H i (st ++ [s]) := fun i hi => by unfold lvM; rw [if_pos hi]
  have r : ∀ (j : Nat) (c : Cs), cs[j]? = some c → lvM H st s n c.rg.toNat = lvS H c.rg.toNat (st ++ [s]) := fun j c hj => e _ (by have := h.rg j c hj; omega)
  exact ⟨h.nm, h.rg, fun j c hj he => by rw [← r j c hj]; exact h.op j c hj he, h.one, fun k hk hl => h.has k hk (by rw [e k hk]; exact hl), fun j c hj he => by rw [← r j c hj]; exact h.pk j c hj he⟩
theorem csOk_all {H : Int} {n : Nat} : ∀ (st : List Stp), (∀ s, s ∈ st → s.t ≠ never) → CsOk n (fun i => lvS H i st) (csF H n st) := by
  intro st
  induction h : st.length generalizing st with
  | zero =>
    intro _
    have : st = [] := List.eq_nil_of_length_eq_zero h
    subst this
    exact csOk_nil fun _ _ => rfl
  | succ m ih =>
    intro ht
    rcases List.eq_nil_or_concat st with q | ⟨l, s, q⟩
    · rw [q] at h; simp at h
    · rw [q, List.concat_eq_append] at h ht ⊢
      rw [csF_snoc]
      exact lvM_end (csOk_run (ih l (by simpa using h) (fun s hs => ht s (by simp [hs]))) (ht s (by simp)) n (Nat.le_refl _))

end Go.Proofs.Ytdjflomhaljljaa

namespace Go.Proofs.Ytdjflomhaljljaa
open Go.SL Go.Proofs Go.Cast
set_option linter.unusedVariables false

/-- A note in memory. -/
structure NtM where
  t : Int
  g : Grid
  p : Option Addr
  c : Nat
  vs : List Span
  lv : Int
abbrev NtM.cells (n : NtM) : List Value := [.int .i64 n.t, .int .i64 n.g.x, .int .i64 n.g.y, .int .i64 n.g.size, .int .i64 n.g.wide, .int .i64 n.g.high, .slice n.p n.vs.length n.c, .int .i64 n.lv]
/-- A note, in plain words. -/
structure Nt where
  t : Int
  vs : List Span
  lv : Int
def NtM.n (x : NtM) : Nt := ⟨x.t, x.vs, x.lv⟩
def hitB (pix : List Int) (vs : List Span) (lv : Int) : Bool := pix.any fun p => decide (lv ≤ (vs.getD p.toNat ⟨0,0⟩).lo)
def canB (pix : List Int) (vs : List Span) (lv : Int) : Bool := pix.any fun p => decide (lv ≤ (vs.getD p.toNat ⟨0,0⟩).hi)
theorem any_take {pix : List Int} {f : Int → Bool} {j : Nat} {p : Int} (h : pix[j]? = some p) : (pix.take (j + 1)).any f = ((pix.take j).any f || f p) := by
  rw [List.take_add_one, h, List.any_append]; simp
/-- A tally. -/
structure Tal where
  h : Int
  m : Int
  a : Int
  q : Int
  o : Int
  lo : Int
  hi : Int
abbrev Tal.cells (x : Tal) : List Value := [.int .i64 x.h, .int .i64 x.m, .int .i64 x.a, .int .i64 x.q, .int .i64 x.o, .int .i64 x.lo, .int .i64 x.hi]
/-- What a note counts as. -/
def kN (i c on : Bool) : Nat := if i && on then 0 else if i then 1 else if c then 2 else if on then 3 else 4
def kNt (pix : List Int) (on : Int → Bool) (n : Nt) : Nat := kN (hitB pix n.vs n.lv) (canB pix n.vs n.lv) (on n.t)
def cntK (pix : List Int) (on : Int → Bool) (k : Nat) (ns : List Nt) : Int := ns.countP fun n => decide (kNt pix on n = k)
theorem cntK_le {pix : List Int} {on : Int → Bool} {k : Nat} {ns : List Nt} : 0 ≤ cntK pix on k ns ∧ cntK pix on k ns ≤ ns.length := by
  unfold cntK
  have := List.countP_le_length (p := fun n => decide (kNt pix on n = k)) (l := ns)
  omega
theorem cntK_y {pix : List Int} {on : Int → Bool} {k : Nat} {ns : List Nt} {n : Nt} (h : kNt pix on n = k) : cntK pix on k (ns ++ [n]) = cntK pix on k ns + 1 := by
  unfold cntK; rw [List.countP_append]; simp [h]
theorem cntK_n {pix : List Int} {on : Int → Bool} {k : Nat} {ns : List Nt} {n : Nt} (h : kNt pix on n ≠ k) : cntK pix on k (ns ++ [n]) = cntK pix on k ns := by
  unfold cntK; rw [List.countP_append]; simp [h]
/-- The counts of a tally. -/
def CntT (pix : List Int) (on : Int → Bool) (ns : List Nt) (x : Tal) : Prop := x.h = cntK pix on 0 ns ∧ x.m = cntK pix on 1 ns ∧ x.o = cntK pix on 2 ns ∧ x.a = cntK pix on 3 ns ∧ x.q = cntK pix on 4 ns
def bump (k : Nat) (x : Tal) : Tal := match k with
  | 0 => { x with h := x.h + 1 }
  | 1 => { x with m := x.m + 1 }
  | 2 => { x with o := x.o + 1 }
  | 3 => { x with a := x.a + 1 }
  | _ => { x with q := x.q + 1 }
theorem kN_lt {i c on : Bool} : kN i c on < 5 := by cases i <;> cases c <;> cases on <;> decide
theorem cnt_bump {pix : List Int} {on : Int → Bool} {ns : List Nt} {n : Nt} {x : Tal} {k : Nat} (h : CntT pix on ns x) (hk : kNt pix on n = k) : CntT pix on (ns ++ [n]) (bump k x) := by
  obtain ⟨h0, h1, h2, h3, h4⟩ := h
  have hlt : k < 5 := by rw [← hk]; exact kN_lt
  have y : ∀ j, k = j → cntK pix on j (ns ++ [n]) = cntK pix on j ns + 1 := fun j e => cntK_y (by rw [hk, e])
  have z : ∀ j, k ≠ j → cntK pix on j (ns ++ [n]) = cntK pix on j ns := fun j e => cntK_n (by rw [hk]; exact e)
  match k, hlt with
  | 0,_ => exact ⟨by rw [y 0 rfl, ← h0]; rfl, by rw [z 1 (by decide)]; exact h1, by rw [z 2 (by decide)]; exact h2, by rw [z 3 (by decide)]; exact h3, by rw [z 4 (by decide)]; exact h4⟩
  | 1,_ => exact ⟨by rw [z 0 (by decide)]; exact h0, by rw [y 1 rfl, ← h1]; rfl, by rw [z 2 (by decide)]; exact h2, by rw [z 3 (by decide)]; exact h3, by rw [z 4 (by decide)]; exact h4⟩
  | 2,_ => exact ⟨by rw [z 0 (by decide)]; exact h0, by rw [z 1 (by decide)]; exact h1, by rw [y 2 rfl, ← h2]; rfl, by rw [z 3 (by decide)]; exact h3, by rw [z 4 (by decide)]; exact h4⟩
  | 3,_ => exact ⟨by rw [z 0 (by decide)]; exact h0, by rw [z 1 (by decide)]; exact h1, by rw [z 2 (by decide)]; exact h2, by rw [y 3 rfl, ← h3]; rfl, by rw [z 4 (by decide)]; exact h4⟩
  | 4,_ => exact ⟨by rw [z 0 (by decide)]; exact h0, by rw [z 1 (by decide)]; exact h1, by rw [z 2 (by decide)]; exact h2, by rw [z 3 (by decide)]; exact h3, by rw [y 4 rfl, ← h4]; rfl⟩
/-! how long a warning was ahead of what was observed -/
def inC (pix : List Int) (c : Cs) (n : Nt) : Bool := (hitB pix n.vs n.lv && decide (c.bg ≤ n.t)) && decide (n.t < c.en)
def lessO (m : Option Int) (v : Int) : Option Int := match m with
  | none => some v
  | some u => some (min u v)
def firstN (pix : List Int) (c : Cs) (ns : List Nt) : Option Int := ns.foldl (fun m n => if inC pix c n = true then lessO m (n.t - c.bg) else m) none
theorem firstN_snoc {pix : List Int} {c : Cs} {ns : List Nt} {n : Nt} : firstN pix c (ns ++ [n]) = if inC pix c n = true then lessO (firstN pix c ns) (n.t - c.bg) else firstN pix c ns := by unfold firstN; rw [List.foldl_append]; rfl
/-- What the map holds: behind 'i' notes, and 'j' warnings at the next one. -/
def mapF (k : Int) (pix : List Int) (cs : List Cs) (ns : List Nt) (i j : Nat) : Int → Option Int := fun n =>
  if 1 ≤ n ∧ n ≤ (cs.length : Int) then (if (cs.getD (n.toNat - 1) zC).rg = k then firstN pix (cs.getD (n.toNat - 1) zC) (if n.toNat - 1 < j then ns.take (i + 1) else ns.take i) else none) else none
section
variable {k : Int} {pix : List Int} {cs : List Cs} {ns : List Nt} {i j : Nat}
theorem mapF_0 : mapF k pix cs ns 0 0 = fun _ => none := by
  funext n
  unfold mapF
  split
  · split
    · rw [if_neg (by omega)]; rfl
    · rfl
  · rfl
theorem mapF_next : mapF k pix cs ns i cs.length = mapF k pix cs ns (i + 1) 0 := by
  funext n
  unfold mapF
  split
  · split
    · rw [if_pos (by omega), if_neg (by omega)]
    · rfl
  · rfl
theorem mapF_at {c : Cs} (hc : cs[j]? = some c) (hr : c.rg = k) : mapF k pix cs ns i j ((j : Int) + 1) = firstN pix c (ns.take i) := by
  have hj := (List.getElem?_eq_some_iff.1 hc).1
  unfold mapF
  rw [if_pos (by omega), show ((j : Int) + 1).toNat - 1 = j by omega, List.getD_eq_getElem?_getD, hc]
  simp only [Option.getD_some]
  rw [if_pos hr, if_neg (by omega)]
theorem mapF_skip {c : Cs} {n : Nt} (hc : cs[j]? = some c) (hn : ns[i]? = some n) (h : ¬ (c.rg = k ∧ inC pix c n = true)) : mapF k pix cs ns i (j + 1) = mapF k pix cs ns i j := by
  funext m
  unfold mapF
  split
  · rename_i q
    by_cases e : m.toNat - 1 = j
    · rw [e, List.getD_eq_getElem?_getD, hc]
      simp only [Option.getD_some]
      split
      · rename_i q2
        rw [if_pos (by omega), if_neg (by omega), List.take_add_one, hn]
        simp only [Option.toList_some]
        rw [firstN_snoc, if_neg (fun z => h ⟨q2, z⟩)]
      · rfl
    · by_cases q2 : m.toNat - 1 < j
      · rw [if_pos (show m.toNat - 1 < j + 1 by omega), if_pos q2]
      · rw [if_neg (show ¬ m.toNat - 1 < j + 1 by omega), if_neg q2]
  · rfl
theorem mapF_same {c : Cs} {n : Nt} {u : Int} (hc : cs[j]? = some c) (hn : ns[i]? = some n) (hr : c.rg = k) (h : inC pix c n = true) (hu : firstN pix c (ns.take i) = some u) (hle : u ≤ n.t - c.bg) : mapF k pix cs ns i (j + 1) = mapF k pix cs ns i j := by
  funext m
  unfold mapF
  split
  · rename_i q
    by_cases e : m.toNat - 1 = j
    · rw [e, List.getD_eq_getElem?_getD, hc]
      simp only [Option.getD_some]
      rw [if_pos hr, if_pos hr, if_pos (by omega), if_neg (by omega), List.take_add_one, hn]
      simp only [Option.toList_some]
      rw [firstN_snoc, if_pos h, hu]
      show some (min u (n.t - c.bg)) = some u
      rw [Int.min_eq_left hle]
    · by_cases q2 : m.toNat - 1 < j
      · rw [if_pos (show m.toNat - 1 < j + 1 by omega), if_pos q2]
      · rw [if_neg (show ¬ m.toNat - 1 < j + 1 by omega), if_neg q2]
  · rfl
theorem mapF_upd {c : Cs} {n : Nt} (hc : cs[j]? = some c) (hn : ns[i]? = some n) (hr : c.rg = k) (h : inC pix c n = true) (hu : firstN pix c (ns.take i) = none ∨ ∃ u, firstN pix c (ns.take i) = some u ∧ n.t - c.bg < u) : mapF k pix cs ns i (j + 1) = updI (mapF k pix cs ns i j) ((j : Int) + 1) (n.t - c.bg) := by
  have hj := (List.getElem?_eq_some_iff.1 hc).1
  funext m
  unfold updI
  by_cases e : m = (j : Int) + 1
  · rw [if_pos e]
    unfold mapF
    rw [if_pos (by omega), show m.toNat - 1 = j by omega, List.getD_eq_getElem?_getD, hc]
    simp only [Option.getD_some]
    rw [if_pos hr, if_pos (by omega), List.take_add_one, hn]
    simp only [Option.toList_some]
    rw [firstN_snoc, if_pos h]
    rcases hu with z | ⟨u, z, z2⟩
    · rw [z]; rfl
    · rw [z]
      show some (min u (n.t - c.bg)) = _
      rw [Int.min_eq_right (by omega)]
  · rw [if_neg e]
    unfold mapF
    split
    · have e2 : m.toNat - 1 ≠ j := by omega
      by_cases q2 : m.toNat - 1 < j
      · rw [if_pos (show m.toNat - 1 < j + 1 by omega), if_pos q2]
      · rw [if_neg (show ¬ m.toNat - 1 < j + 1 by omega), if_neg q2]
    · rfl
end
/-- The leads of all warnings of a region. -/
def aheadL (k : Int) (pix : List Int) (cs : List Cs) (ns : List Nt) : List Int := cs.filterMap fun c => if c.rg = k then firstN pix c ns else none
def spanL : List Int → Int × Int
  | [] => (0,0)
  | x :: l => (l.foldl min x, l.foldl max x)
theorem minF (l : List Int) : ∀ (x : Int), l.foldl min x ≤ x ∧ (∀ y, y ∈ l → l.foldl min x ≤ y) ∧ (l.foldl min x = x ∨ l.foldl min x ∈ l) := by
  induction l with
  | nil => intro x; exact ⟨Int.le_refl _, fun y h => (by cases h), .inl rfl⟩
  | cons a l ih =>
    intro x
    obtain ⟨h1, h2, h3⟩ := ih (min x a)
    simp only [List.foldl_cons]
    refine ⟨by omega, fun y hy => ?_, ?_⟩
    · rcases List.mem_cons.1 hy with rfl | q
      · omega
      · exact h2 y q
    · rcases h3 with q | q
      · rcases Int.le_total x a with z | z
        · left; rw [q, Int.min_eq_left z]
        · right; rw [q, Int.min_eq_right z]; exact List.mem_cons_self
      · right; exact List.mem_cons_of_mem _ q
theorem maxF (l : List Int) : ∀ (x : Int), x ≤ l.foldl max x ∧ (∀ y, y ∈ l → y ≤ l.foldl max x) ∧ (l.foldl max x = x ∨ l.foldl max x ∈ l) := by
  induction l with
  | nil => intro x; exact ⟨Int.le_refl _, fun y h => (by cases h), .inl rfl⟩
  | cons a l ih =>
    intro x
    obtain ⟨h1, h2, h3⟩ := ih (max x a)
    simp only [List.foldl_cons]
    refine ⟨by omega, fun y hy => ?_, ?_⟩
    · rcases List.mem_cons.1 hy with rfl | q
      · omega
      · exact h2 y q
    · rcases h3 with q | q
      · rcases Int.le_total x a with z | z
        · right; rw [q, Int.max_eq_right z]; exact List.mem_cons_self
        · left; rw [q, Int.max_eq_left z]
      · right; exact List.mem_cons_of_mem _ q
/-- A span by its numbers, whatever their order. -/
def SpanOf (S : Int → Prop) (lo hi : Int) : Prop := (S lo ∧ S hi ∧ ∀ v, S v → lo ≤ v ∧ v ≤ hi) ∨ ((∀ v, ¬ S v) ∧ lo = 0 ∧ hi = 0)
theorem spanL_of (l : List Int) : SpanOf (fun v => v ∈ l) (spanL l).1 (spanL l).2 := by
  cases l with
  | nil => exact .inr ⟨fun v h => (by cases h), rfl, rfl⟩
  | cons x l =>
    obtain ⟨a1, a2, a3⟩ := minF l x
    obtain ⟨b1, b2, b3⟩ := maxF l x
    refine .inl ⟨?_, ?_, fun v hv => ?_⟩
    · show l.foldl min x ∈ x :: l
      rcases a3 with q | q
      · rw [q]; exact List.mem_cons_self
      · exact List.mem_cons_of_mem _ q
    · show l.foldl max x ∈ x :: l
      rcases b3 with q | q
      · rw [q]; exact List.mem_cons_self
      · exact List.mem_cons_of_mem _ q
    · show l.foldl min x ≤ v ∧ v ≤ l.foldl max x
      rcases List.mem_cons.1 hv with rfl | q
      · exact ⟨a1, b1⟩
      · exact ⟨a2 v q, b2 v q⟩
theorem span_eq {S T : Int → Prop} {a b c d : Int} (h : SpanOf S a b) (k : SpanOf T c d) (e : ∀ v, S v ↔ T v) : a = c ∧ b = d := by
  rcases h with ⟨h1, h2, h3⟩ | ⟨h1, h2, h3⟩
  · rcases k with ⟨k1, k2, k3⟩ | ⟨k1, k2, k3⟩
    · have q1 := h3 c ((e c).2 k1)
      have q2 := h3 d ((e d).2 k2)
      have q3 := k3 a ((e a).1 h1)
      have q4 := k3 b ((e b).1 h2)
      omega
    · exact absurd ((e a).1 h1) (k1 a)
  · rcases k with ⟨k1, k2, k3⟩ | ⟨k1, k2, k3⟩
    · exact absurd ((e c).2 k1) (h1 c)
    · omega
theorem ahead_mem {k : Int} {pix : List Int} {cs : List Cs} {ns : List Nt} {v : Int} : v ∈ aheadL k pix cs ns ↔ ∃ n, mapF k pix cs ns ns.length 0 n = some v := by
  unfold aheadL
  rw [List.mem_filterMap]
  constructor
  · rintro ⟨c, hc, e⟩
    obtain ⟨j, hj⟩ := List.mem_iff_getElem?.1 hc
    have hjl := (List.getElem?_eq_some_iff.1 hj).1
    refine ⟨(j : Int) + 1, ?_⟩
    split at e
    · rename_i q
      unfold mapF
      rw [if_pos (by omega), show ((j : Int) + 1).toNat - 1 = j by omega, List.getD_eq_getElem?_getD, hj]
      simp only [Option.getD_some]
      rw [if_pos q, if_neg (by omega), List.take_length]; exact e
    · cases e
  · rintro ⟨n, e⟩
    unfold mapF at e
    split at e
    · split at e
      · rename_i q1 q2
        rw [if_neg (by omega), List.take_length] at e
        refine ⟨cs.getD (n.toNat - 1) zC, getD_mem (by omega), ?_⟩
        rw [if_pos q2]; exact e
      · cases e
    · cases e
/-- The tally of a region. -/
def talF (k : Int) (pix : List Int) (on : Int → Bool) (cs : List Cs) (ns : List Nt) : Tal := ⟨cntK pix on 0 ns, cntK pix on 1 ns, cntK pix on 3 ns, cntK pix on 4 ns, cntK pix on 2 ns, (spanL (aheadL k pix cs ns)).1, (spanL (aheadL k pix cs ns)).2⟩
/-- The span so far, by the entries that have come. -/
def AhI (es : List MapEntry) (seen : Array Nat) (sm : Bool) (lo hi : Int) : Prop := (∀ e, e ∈ es → e.born ∈ seen → sm = true ∧ ∃ v, e.val = intV v ∧ lo ≤ v ∧ v ≤ hi) ∧ (sm = true → (∃ e, e ∈ es ∧ e.val = intV lo) ∧ ∃ e, e ∈ es ∧ e.val = intV hi) ∧ (sm = false → lo = 0 ∧ hi = 0)
theorem ah_0 {es : List MapEntry} : AhI es #[] false 0 0 := ⟨fun e _ h => (by simp at h), fun h => (by cases h), fun _ => ⟨rfl, rfl⟩⟩
theorem born_eq {es : List MapEntry} (h : (es.map (·.born)).Nodup) {a b : MapEntry} (ha : a ∈ es) (hb : b ∈ es) (e : a.born = b.born) : a = b := by
  obtain ⟨i, hi, rfl⟩ := List.getElem_of_mem ha
  obtain ⟨j, hj, rfl⟩ := List.getElem_of_mem hb
  have pw := List.pairwise_iff_getElem.1 h
  have : i = j := by
    rcases Nat.lt_trichotomy i j with q | q | q
    · exact absurd (by rw [List.getElem_map, List.getElem_map]; exact e) (pw i j (by simpa using hi) (by simpa using hj) q)
    · exact q
    · exact absurd (by rw [List.getElem_map, List.getElem_map]; exact e.symm) (pw j i (by simpa using hj) (by simpa using hi) q)
  subst this; rfl
theorem ah_first {es : List MapEntry} {seen : Array Nat} {lo hi v : Int} {e : MapEntry} (h : AhI es seen false lo hi) (hn : (es.map (·.born)).Nodup) (he : e ∈ es) (hv : e.val = intV v) : AhI es (seen.push e.born) true (min v v) (max v v) := by
  refine ⟨fun x hx hb => ?_, fun _ => ⟨⟨e, he, by rw [hv, Int.min_self]⟩, ⟨e, he, by rw [hv, Int.max_self]⟩⟩, fun q => (by cases q)⟩
  rcases Array.mem_push.1 hb with q | q
  · have := (h.1 x hx q).1; cases this
  · have := born_eq hn hx he q; subst this
    exact ⟨rfl, v, hv, by omega, by omega⟩
theorem ah_more {es : List MapEntry} {seen : Array Nat} {lo hi v : Int} {e : MapEntry} (h : AhI es seen true lo hi) (hn : (es.map (·.born)).Nodup) (he : e ∈ es) (hv : e.val = intV v) : AhI es (seen.push e.born) true (min lo v) (max hi v) := by
  obtain ⟨h1, h2,_⟩ := h
  obtain ⟨⟨a, ha, ha2⟩, ⟨b, hb, hb2⟩⟩ := h2 rfl
  refine ⟨fun x hx hbn => ?_, fun _ => ⟨?_, ?_⟩, fun q => (by cases q)⟩
  · rcases Array.mem_push.1 hbn with q | q
    · obtain ⟨_, u, g1, g2, g3⟩ := h1 x hx q
      exact ⟨rfl, u, g1, by omega, by omega⟩
    · have := born_eq hn hx he q; subst this
      exact ⟨rfl, v, hv, by omega, by omega⟩
  · rcases Int.le_total lo v with q | q
    · exact ⟨a, ha, by rw [Int.min_eq_left q]; exact ha2⟩
    · exact ⟨e, he, by rw [Int.min_eq_right q]; exact hv⟩
  · rcases Int.le_total hi v with q | q
    · exact ⟨e, he, by rw [Int.max_eq_right q]; exact hv⟩
    · exact ⟨b, hb, by rw [Int.max_eq_left q]; exact hb2⟩
theorem ah_end {es : Array MapEntry} {seen : Array Nat} {sm : Bool} {lo hi : Int} {k : Int} {pix : List Int} {cs : List Cs} {ns : List Nt} (h : AhI es.toList seen sm lo hi) (hE : MapE es.toList (mapF k pix cs ns ns.length 0)) (h0 : (leftOf es seen).size = 0) : lo = (spanL (aheadL k pix cs ns)).1 ∧ hi = (spanL (aheadL k pix cs ns)).2 := by
  obtain ⟨h1, h2, h3⟩ := h
  have val : ∀ e, e ∈ es.toList → ∀ v, e.val = intV v → v ∈ aheadL k pix cs ns := fun e he v hv => by
    obtain ⟨n, u, g1, g2, g3⟩ := hE.ent e he
    have : u = v := intV_inj (g2.symm.trans hv)
    subst this
    exact ahead_mem.2 ⟨n, g3⟩
  have all : ∀ v, v ∈ aheadL k pix cs ns → sm = true ∧ lo ≤ v ∧ v ≤ hi := fun v hv => by
    obtain ⟨n, hn⟩ := ahead_mem.1 hv
    obtain ⟨e, g1, g2, g3⟩ := hE.mem n v hn
    obtain ⟨q1, u, q2, q3, q4⟩ := h1 e g1 (left_end h0 g1)
    have : u = v := intV_inj (q2.symm.trans g3)
    subst this
    exact ⟨q1, q3, q4⟩
  have s : SpanOf (fun v => v ∈ aheadL k pix cs ns) lo hi := by
    cases sm with
    | true =>
      obtain ⟨⟨a, ha, ha2⟩, ⟨b, hb, hb2⟩⟩ := h2 rfl
      exact .inl ⟨val a ha lo ha2, val b hb hi hb2, fun v hv => (all v hv).2⟩
    | false =>
      obtain ⟨e1, e2⟩ := h3 rfl
      exact .inr ⟨fun v hv => Bool.noConfusion (all v hv).1, e1, e2⟩
  exact span_eq s (spanL_of _) fun v => Iff.rfl
end Go.Proofs.Ytdjflomhaljljaa

namespace Go.Proofs.Ytdjflomhaljljaa
open Go.SL Go.Proofs Go.Cast
set_option linter.unusedVariables false

def CsM.p (c : CsM) : Cs := ⟨c.nm, c.rg, c.bg, c.en, c.pk⟩
theorem meetK_b {b n : Int} (hb : 0 ≤ b) (hn : 0 ≤ n) (h : b ≠ n) : meetK b n = 1 ↔ b = 0 := by
  unfold meetK
  constructor
  · intro q
    split at q
    · split at q
      · assumption
      · omega
    · split at q <;> omega
  · intro q; rw [if_pos (by omega), if_pos q]
theorem meetK_e {b n : Int} (hb : 0 ≤ b) (hn : 0 ≤ n) (h : b ≠ n) (h0 : b ≠ 0) : meetK b n = 2 ↔ n = 0 := by
  unfold meetK
  constructor
  · intro q
    split at q
    · omega
    · split at q
      · assumption
      · omega
  · intro q; rw [if_neg (by omega), if_pos q]
theorem nodup_at {cs : List CsM} (h : (cs.map CsM.b).Nodup) {i j : Nat} {c d : CsM} (hi : cs[i]? = some c) (hj : cs[j]? = some d) (e : c.b = d.b) : i = j := by
  have hi2 : (cs.map CsM.b)[i]? = some c.b := by rw [List.getElem?_map, hi]; rfl
  have hj2 : (cs.map CsM.b)[j]? = some d.b := by rw [List.getElem?_map, hj]; rfl
  have hp := List.pairwise_iff_getElem.1 h
  obtain ⟨h1, h2⟩ := List.getElem?_eq_some_iff.1 hi2
  obtain ⟨k1, k2⟩ := List.getElem?_eq_some_iff.1 hj2
  rcases Nat.lt_trichotomy i j with q | q | q
  · exact absurd (h2.trans (e.trans k2.symm)) (hp i j h1 k1 q)
  · exact q
  · exact absurd (k2.trans (e.symm.trans h2.symm)) (hp j i k1 h1 q)
theorem map_set_at {cs : List Cs} {f : Cs → Bool} {g : Cs → Cs} {j : Nat} {c : Cs} (hj : cs[j]? = some c) (hc : f c = true) (hu : ∀ i d, cs[i]? = some d → f d = true → i = j) : cs.set j (g c) = cs.map fun c => if f c = true then g c else c := by
  refine List.ext_getElem? fun i => ?_
  rw [List.getElem?_map, List.getElem?_set]
  have hlt := (List.getElem?_eq_some_iff.1 hj).1
  by_cases q : j = i
  · subst q
    rw [if_pos rfl, if_pos hlt, hj]; simp [hc]
  · rw [if_neg q]
    cases h : cs[i]? with
    | none => rfl
    | some d =>
      simp only [Option.map_some]
      rw [if_neg (fun e => q (hu i d h e).symm)]
theorem open_nm {cs : List Cs} {k j : Nat} {c : Cs} (hj : cs[j]? = some c) (hc : opn k c = true) (hu : ∀ i d, cs[i]? = some d → opn k d = true → i = j) : openNm k cs = c.nm := by
  obtain ⟨hlt, e⟩ := List.getElem?_eq_some_iff.1 hj
  have h : cs.findIdx (opn k) = j := (List.findIdx_eq hlt).2 ⟨by rw [e]; exact hc, fun i hi => by
    cases q : opn k cs[i] with
    | false => rfl
    | true => exact absurd (hu i _ (List.getElem?_eq_getElem (by omega)) q) (by omega)⟩
  unfold openNm
  rw [h, List.getD_eq_getElem?_getD, hj]; rfl
/-- The open warning of a region. -/
def OpnAt (cs : List CsM) (op : Option Nat) (k : Nat) : Prop := ∃ (j : Nat) (c : CsM), cs[j]? = some c ∧ op = some c.b ∧ c.rg = (k : Int) ∧ c.en = never
theorem meet_sim {H T : Int} {st : List Stp} {s : Stp} {n k : Nat} {cs : List CsM} {es : List Ev} {r : RcM} {t : Thr} {y : MeetY} (hH : 0 ≤ H) (hT : lastT st ≤ s.t ∨ st = []) (hcs : CsOk n (lvM H st s k) (cs.map CsM.p)) (hnd : (cs.map CsM.b).Nodup) (hi : r.i = k) (hsT : s.t = T) (ht : s.th.getD k zT = t)
    (hrc : r.rc = keepR (lastT st) H (histR k st)) (hlv : r.lv = lvL H k st) (hop : lvS H k st ≠ 0 → OpnAt cs r.op k) (hm : MeetP r T H t cs es y) :
    y.cs.map CsM.p = stepC k (lvS H k st) (lvS H k (st ++ [s])) T (cs.map CsM.p) ∧ y.es = stepE k (lvS H k st) (lvS H k (st ++ [s])) T t (cs.map CsM.p) es ∧ y.r.rc = keepR (lastT (st ++ [s])) H (histR k (st ++ [s])) ∧ y.r.lv = lvL H k (st ++ [s]) ∧
      (lvS H k (st ++ [s]) ≠ 0 → OpnAt y.cs y.r.op k) ∧ (∀ (j : Nat) (c : CsM), cs[j]? = some c → c.rg ≠ (k : Int) → y.cs[j]? = some c) := by
  have hnow : nowRc T H r.rc t.lv = keepR (lastT (st ++ [s])) H (histR k (st ++ [s])) := by rw [hrc, ← ht, ← hsT]; exact rc_snoc hH hT
  have hN : maxLv (nowRc T H r.rc t.lv) = lvS H k (st ++ [s]) := by rw [hnow]; rfl
  have hB : lastI r.lv = lvS H k st := by rw [hlv, lvL_last]
  have hb0 : 0 ≤ lvS H k st := lvS_nn
  have hn0 : 0 ≤ lvS H k (st ++ [s]) := lvS_nn
  obtain ⟨_,_,_, e4, e5, q⟩ := hm
  rw [hN, hB] at q
  rw [hN] at e5
  rw [hnow] at e4
  have e5' : y.r.lv = lvL H k (st ++ [s]) := by rw [e5, hlv, lvL_snoc]
  generalize lvS H k (st ++ [s]) = N at *
  generalize hBB : lvS H k st = B at *
  rcases q with ⟨q1, q2, q3, q4⟩ | ⟨q1, x', hh, q4⟩
  · refine ⟨?_, ?_, e4, e5', ?_, ?_⟩
    · unfold stepC; rw [if_pos q1.symm, q3]
    · unfold stepE; rw [if_pos q1.symm, q4]
    · intro h; rw [q2, q3]; exact hop (by rw [← q1]; exact h)
    · intro j c hj _; rw [q3]; exact hj
  · have hkd : (meetEv r.i T B N t).kd = meetK B N := rfl
    have hrg : (meetEv r.i T B N t).rg = (k : Int) := by show (r.i : Int) = k; rw [hi]
    rcases hh with ⟨h1, b, g1, g2, g3⟩ | ⟨h1, j, c, hc, g0, g1, g2, g3⟩
    · have hz : B = 0 := (meetK_b hb0 hn0 (Ne.symm q1)).1 (hkd ▸ h1)
      refine ⟨?_, ?_, e4, e5', ?_, ?_⟩
      · unfold stepC; rw [if_neg (Ne.symm q1), if_pos hz, g2, List.map_append]
        congr 1
        simp only [List.map_cons, List.map_nil, CsM.p, hrg, List.length_map]
        congr 2
        show max 0 N = N
        omega
      · unfold stepE; rw [if_neg (Ne.symm q1), q4, g3]
        unfold evS
        rw [if_pos hz, List.length_map]
        have : meetEv k T B N t = meetEv r.i T B N t := by rw [hi]
        rw [this]
      · intro h
        exact ⟨cs.length,_, by rw [g2, List.getElem?_append_right (Nat.le_refl _)]; simp; rfl, g1, hrg, rfl⟩
      · intro j c hj _
        rw [g2, List.getElem?_append_left (List.getElem?_eq_some_iff.1 hj).1]; exact hj
    · have hz : B ≠ 0 := fun e => h1 (hkd ▸ (meetK_b hb0 hn0 (Ne.symm q1)).2 e)
      obtain ⟨j', c', hc', ho', hr', he'⟩ := hop hz
      have hbb : c.b = c'.b := by rw [g0] at ho'; simpa using ho'
      have hjj := nodup_at hnd hc hc' hbb
      subst hjj
      rw [hc] at hc'
      cases hc'
      have hcp : (cs.map CsM.p)[j]? = some c.p := by rw [List.getElem?_map, hc]; rfl
      have hcf : opn k c.p = true := opn_iff.2 ⟨hr', he'⟩
      have hun : ∀ i d, (cs.map CsM.p)[i]? = some d → opn k d = true → i = j := fun i d hd ho => by
        have := opn_iff.1 ho
        exact hcs.one i j d c.p hd hcp (by rw [this.1]; exact hr'.symm) this.2 he'
      have hkd2 : ((meetEv r.i T B N t).kd = 2) ↔ N = 0 := by rw [hkd]; exact meetK_e hb0 hn0 (Ne.symm q1) hz
      refine ⟨?_, ?_, e4, e5', ?_, ?_⟩
      · unfold stepC; rw [if_neg (Ne.symm q1), if_neg hz, g2, List.map_set, ← map_set_at (g := fun c => { c with en := if N = 0 then T else c.en, pk := max c.pk N }) hcp hcf hun]
        congr 1
        simp only [CsM.p]
        congr 1
        by_cases hN0 : N = 0
        · rw [if_pos (hkd2.2 hN0), if_pos hN0]; rfl
        · rw [if_neg (fun q => hN0 (hkd2.1 q)), if_neg hN0]
      · unfold stepE; rw [if_neg (Ne.symm q1), q4, g3]
        unfold evS
        rw [if_neg hz, open_nm hcp hcf hun]
        have : meetEv k T B N t = meetEv r.i T B N t := by rw [hi]
        rw [this]; rfl
      · intro h
        refine ⟨j, { c with en := if (meetEv r.i T B N t).kd = 2 then (meetEv r.i T B N t).t else c.en, pk := max c.pk (meetEv r.i T B N t).lv }, by rw [g2]; exact List.getElem?_set_self (List.getElem?_eq_some_iff.1 hc).1, by rw [g1, g0], hr', ?_⟩
        show (if (meetEv r.i T B N t).kd = 2 then _ else c.en) = never
        rw [if_neg (fun q => h (hkd2.1 q))]; exact he'
      · intro i d hd hne
        rw [g2, List.getElem?_set]
        rw [if_neg]
        · exact hd
        · intro e; subst e; rw [hc] at hd; cases hd; exact hne hr'
theorem keep_pre {cs cs' : List CsM} (h : CsKeep cs cs') (hn : (cs'.map CsM.b).Nodup) : (cs.map CsM.b).Nodup := by
  refine List.pairwise_iff_getElem.2 fun i j hi hj hij e => ?_
  simp only [List.length_map] at hi hj
  simp only [List.getElem_map] at e
  obtain ⟨c, h1, h2⟩ := h i _ (List.getElem?_eq_getElem hi)
  obtain ⟨d, k1, k2⟩ := h j _ (List.getElem?_eq_getElem hj)
  have := nodup_at hn h1 k1 (by rw [h2, k2]; exact e)
  omega
theorem run_sim {H T b : Int} {sts : List (List Int)} {st : List Stp} {s : Stp} {n : Nat} {cs0 : List CsM} (hH : 0 ≤ H) (hT : lastT st ≤ s.t ∨ st = []) (hcs : CsOk n (fun i => lvS H i st) (cs0.map CsM.p)) (hnv : s.t ≠ never) (hsT : s.t = T) {rs ds : List RcM} {cs : List CsM} {es : List Ev} (h : RunP sts b H T cs0 rs ds cs es) :
    ∀ (all : List RcM), rs <+: all → all.length = n → (∀ (k : Nat) (r : RcM), all[k]? = some r → r.i = k ∧ s.th.getD k zT = thr sts r.x.r.pix b ∧ r.rc = keepR (lastT st) H (histR k st) ∧ r.lv = lvL H k st ∧ (lvS H k st ≠ 0 → OpnAt cs0 r.op k)) → (cs.map CsM.b).Nodup →
    cs.map CsM.p = runC H st s (cs0.map CsM.p) rs.length ∧ es = runE H st s (cs0.map CsM.p) rs.length ∧
    (∀ (k : Nat) (d : RcM), ds[k]? = some d → d.rc = keepR (lastT (st ++ [s])) H (histR k (st ++ [s])) ∧ d.lv = lvL H k (st ++ [s]) ∧ (lvS H k (st ++ [s]) ≠ 0 → OpnAt cs d.op k)) ∧
    (∀ (k : Nat) (r : RcM), rs.length ≤ k → all[k]? = some r → lvS H k st ≠ 0 → OpnAt cs r.op k) := by
  induction h with
  | nil =>
    intro all _ _ hall _
    exact ⟨rfl, rfl, fun k d hd => by simp at hd, fun k r _ hr => (hall k r hr).2.2.2.2⟩
  | @snoc rs ds cs es r y h1 h2 ih =>
    intro all hpre hlen hall hnd
    have hkp := meet_keep h2
    have hnd1 := keep_pre hkp.1 hnd
    have hpre2 : rs <+: all := (List.prefix_append rs [r]).trans hpre
    obtain ⟨i1, i2, i3, i4⟩ := ih all hpre2 hlen hall hnd1
    have hrl : all[rs.length]? = some r := by
      obtain ⟨z, hz⟩ := hpre
      rw [← hz, List.append_assoc, List.getElem?_append_right (Nat.le_refl _)]; simp
    obtain ⟨a1, a2, a3, a4, a5⟩ := hall _ r hrl
    have hk : rs.length < n := by rw [← hlen]; exact (List.getElem?_eq_some_iff.1 hrl).1
    have hdl := (run_keep h1).2.2.2.2
    have hok : CsOk n (lvM H st s rs.length) (cs.map CsM.p) := by rw [i1]; exact csOk_run hcs hnv _ (by omega)
    obtain ⟨m1, m2, m3, m4, m5, m6⟩ := meet_sim hH hT hok hnd1 a1 hsT a2 a3 a4 (i4 _ r (Nat.le_refl _) hrl) h2
    have keepO : ∀ (k : Nat) (op : Option Nat), k ≠ rs.length → OpnAt cs op k → OpnAt y.cs op k := fun k op hne ⟨j, c, g1, g2, g3, g4⟩ => ⟨j, c, m6 j c g1 (by rw [g3]; omega), g2, g3, g4⟩
    refine ⟨?_, ?_, ?_, ?_⟩
    · rw [m1, i1, List.length_append, List.length_singleton, ← hsT]; rfl
    · rw [m2, i1, i2, List.length_append, List.length_singleton, ← hsT, ← a2]; rfl
    · intro k d hd
      rcases Nat.lt_or_ge k ds.length with q | q
      · rw [List.getElem?_append_left q] at hd
        obtain ⟨g1, g2, g3⟩ := i3 k d hd
        exact ⟨g1, g2, fun hl => keepO k _ (by omega) (g3 hl)⟩
      · rw [List.getElem?_append_right q] at hd
        have e : k = ds.length := by
          rcases Nat.lt_or_ge (k - ds.length) 1 with z | z
          · omega
          · rw [List.getElem?_eq_none (by simpa using z)] at hd; cases hd
        subst e
        simp at hd; subst hd
        rw [hdl]
        exact ⟨m3, m4, m5⟩
    · intro k r' hk' hr' hl
      rw [List.length_append, List.length_singleton] at hk'
      exact keepO k _ (by omega) (i4 k r' (by omega) hr' hl)
/-- An office and the steps that were made in it. -/
structure SimO (o : OfM) (st : List Stp) : Prop where
  wf : WfO o
  ts : o.ts = st.map Stp.t
  inc : o.ts.Pairwise (· < ·)
  tb : ∀ t, t ∈ o.ts → 0 ≤ t ∧ t ≤ 4294967296
  rcs : ∀ (k : Nat) (r : RcM), o.rc[k]? = some r → r.rc = keepR (lastT st) o.hold (histR k st) ∧ r.lv = lvL o.hold k st ∧ (lvS o.hold k st ≠ 0 → OpnAt o.cs r.op k)
  cs : o.cs.map CsM.p = csF o.hold o.rc.length st
theorem SimO.hold {o : OfM} {st : List Stp} (h : SimO o st) : 0 ≤ o.hold ∧ o.hold ≤ 86400 := by
  have := specOk h.wf.spec
  exact this.2.2.2.2.2.2
theorem sim_new {g : Grid} {l : List RG} {a b d : Int} {o : OfM} (h : NewP g l a b d o) (hs : specE ⟨g, l.map RG.r, a, b, d⟩ = 0) (hp : ∀ x, x ∈ l → x.r.pix.length < 1000000000000) : SimO o [] := by
  have hw := new_wf h hs hp
  obtain ⟨h1, h2, h3, h4, h5, h6, h7,_, h8, h9⟩ := h
  refine ⟨hw, by rw [h5]; rfl, by rw [h5]; exact List.Pairwise.nil, by rw [h5]; simp, fun k r hr => ?_, by rw [h6]; rfl⟩
  have := h9.2 k r hr
  exact ⟨this.2.2.1, this.2.2.2.1, fun q => absurd rfl q⟩
theorem lastT_last {o : OfM} {st : List Stp} (h : o.ts = st.map Stp.t) (hn : o.ts ≠ []) : lastI o.ts = lastT st := by
  rcases List.eq_nil_or_concat st with q | ⟨l, s, q⟩
  · rw [q] at h; exact absurd h hn
  · rw [h, q, List.concat_eq_append, lastT_snoc, List.map_append]
    exact lastI_snoc _ _
/-- The threats at a step. -/
def thsO (o : OfM) (l : List Cloud) : List Thr := o.rc.map fun r => thr (lookL o.g l o.lead o.step) r.x.r.pix o.step
theorem sim_step {o : OfM} {st : List Stp} {T : Int} {l : List Cloud} {y : StepY} (h : SimO o st) (hp : StepP o T l y) (hT1 : 0 ≤ T) (hT2 : T ≤ 4294967296) (hlate : o.ts = [] ∨ lastI o.ts < T) (hnd : (y.cs.map CsM.b).Nodup) :
    SimO (y.o o T) (st ++ [⟨T, thsO o l⟩]) ∧ y.es = evF o.hold o.rc.length st ⟨T, thsO o l⟩ := by
  have hwf := step_wf h.wf hp
  obtain ⟨hr,_⟩ := hp
  have hlT : lastT st ≤ T ∨ st = [] := by
    rcases hlate with q | q
    · rw [h.ts] at q; exact .inr (List.map_eq_nil_iff.1 q)
    · by_cases e : o.ts = []
      · rw [h.ts] at e; exact .inr (List.map_eq_nil_iff.1 e)
      · rw [lastT_last h.ts e] at q; exact .inl (Int.le_of_lt q)
  have htn : ∀ s, s ∈ st → s.t ≠ never := fun s hs => by
    have := h.tb s.t (by rw [h.ts]; exact List.mem_map_of_mem hs)
    unfold never; omega
  have hok : CsOk o.rc.length (fun i => lvS o.hold i st) (o.cs.map CsM.p) := by rw [h.cs]; exact csOk_all st htn
  have hgd : ∀ (k : Nat) (r : RcM), o.rc[k]? = some r → (thsO o l).getD k zT = thr (lookL o.g l o.lead o.step) r.x.r.pix o.step := fun k r hr => by
    unfold thsO; rw [List.getD_eq_getElem?_getD, List.getElem?_map, hr]; rfl
  obtain ⟨s1, s2, s3,_⟩ := run_sim (s := ⟨T, thsO o l⟩) h.hold.1 hlT hok (by unfold never; show T ≠ _; omega) rfl hr o.rc (List.prefix_refl _) rfl (fun k r hr => ⟨(h.wf.idx k r hr).2, hgd k r hr, h.rcs k r hr⟩) hnd
  have hdl := (run_keep hr).2.2.2.2
  refine ⟨⟨hwf, by show o.ts ++ [T] = _; rw [h.ts, List.map_append]; rfl, ?_, ?_, s3, ?_⟩, by rw [s2, h.cs]; rfl⟩
  · show (o.ts ++ [T]).Pairwise (· < ·)
    rw [List.pairwise_append]
    refine ⟨h.inc, by simp, fun a ha b hb => ?_⟩
    simp at hb; subst hb
    rcases hlate with q | q
    · rw [q] at ha; simp at ha
    · refine Int.lt_of_le_of_lt ?_ q
      obtain ⟨i, hi, e⟩ := List.getElem_of_mem ha
      unfold lastI
      rw [List.getD_eq_getElem?_getD, List.getElem?_eq_getElem (by omega : o.ts.length - 1 < o.ts.length)]
      simp only [Option.getD_some]
      rw [← e]
      rcases Nat.lt_or_ge i (o.ts.length - 1) with z | z
      · exact Int.le_of_lt (List.pairwise_iff_getElem.1 h.inc i _ hi (by omega) z)
      · have : i = o.ts.length - 1 := by omega
        subst this; exact Int.le_refl _
  · intro t ht
    rcases List.mem_append.1 ht with q | q
    · exact h.tb t q
    · simp at q; subst q; exact ⟨hT1, hT2⟩
  · show y.cs.map CsM.p = csF o.hold y.ds.length (st ++ [_])
    rw [s1, csF_snoc, h.cs, hdl]

end Go.Proofs.Ytdjflomhaljljaa

namespace Go.Proofs.Ytdjflomhaljljaa
open Go.SL Go.Proofs Go.Cast
set_option linter.unusedVariables false

theorem Z23 : ZeroOf Try.prog 23 (.agg #[.int .i64 0, .int .i64 0, .int .i64 0, .int .i64 0, .int .i64 0]) := by unfold ZeroOf; kernel_rfl
theorem N23 : (Try.prog.info? 23).map (·.size) = some 5 := by kernel_rfl
theorem C51 : IsFn Try.prog 51 := ⟨_, Try.func51, by decide, rfl⟩
theorem F48_1 : FieldAt Try.prog 48 1 20 := ⟨_,_, Try.underlying48, rfl, rfl, 0, by kernel_rfl⟩
theorem O46 : IsOne Try.prog 46 := ⟨⟨_, Try.underlying46, rfl⟩, by kernel_rfl⟩
theorem F48_2 : FieldAt Try.prog 48 2 21 := ⟨_,_, Try.underlying48, rfl, rfl, 0, by kernel_rfl⟩
theorem F48_3 : FieldAt Try.prog 48 3 22 := ⟨_,_, Try.underlying48, rfl, rfl, 0, by kernel_rfl⟩
theorem S143 : IsSlice Try.prog 143 9 := Try.underlying143
theorem Z9 : ZeroOf Try.prog 9 (.string ByteArray.empty) := by unfold ZeroOf; kernel_rfl
theorem N9 : (Try.prog.info? 9).map (·.size) = some 1 := by kernel_rfl
theorem F48_0 : FieldAt Try.prog 48 0 0 := ⟨_,_, Try.underlying48, rfl, rfl, 19, by kernel_rfl⟩
theorem N5 : (Try.prog.info? 5).map (·.size) = some 1 := by kernel_rfl
theorem O5 : IsOne Try.prog 5 := ⟨⟨_, Try.underlying5, rfl⟩, by kernel_rfl⟩


abbrev u8V (n : Int) : Value := .int .u8 n
def U8 (n : Int) : Prop := 0 ≤ n ∧ n ≤ 255
def U16 (n : Int) : Prop := 0 ≤ n ∧ n ≤ 65535
def I16 (n : Int) : Prop := -32768 ≤ n ∧ n ≤ 32767
/-- A draft. -/
structure DrM where
  px : List Int
  a : Int
  b : Int
  c : Int
abbrev DrM.cells (d : DrM) : List Value := d.px.map u8V ++ [.int .u16 d.a, .int .u16 d.b, .int .u16 d.c]
def DrM.ok (d : DrM) : Prop := d.px.length = 20 ∧ (∀ n, n ∈ d.px → U8 n) ∧ U16 d.a ∧ U16 d.b ∧ U16 d.c
theorem DrM.at (d : DrM) (h : d.px.length = 20) (k : Nat) (v : Value) (hk : [.int .u16 d.a, .int .u16 d.b, .int .u16 d.c][k]? = some v) : ∃ r, d.cells.toArray.toList.drop (20 + k) = [v] ++ r := by
  show ∃ r, (d.px.map u8V ++ _).drop (20 + k) = _
  have h2 : (d.px.map u8V).length = 20 := by simpa using h
  rw [← h2, List.drop_length_add_append]
  match k with
  | 0 => cases hk; exact ⟨_, rfl⟩
  | 1 => cases hk; exact ⟨_, rfl⟩
  | 2 => cases hk; exact ⟨_, rfl⟩
  | k + 3 => simp at hk
theorem px_at {px : List Int} {rest : List Value} {p : Nat} (h : p < px.length) : ∃ r, (px.map u8V ++ rest).toArray.toList.drop p = [u8V (px.getD p 0)] ++ r := by
  show ∃ r, (px.map u8V ++ rest).drop p = _
  rw [List.drop_append_of_le_length (by simp; omega), ← List.map_drop, List.drop_eq_getElem_cons h]
  refine ⟨(px.drop (p + 1)).map u8V ++ rest, ?_⟩
  have e : px.getD p 0 = px[p] := by rw [List.getD_eq_getElem?_getD, List.getElem?_eq_getElem h]; rfl
  rw [e]; rfl
theorem u8_at {px : List Int} (h : ∀ n, n ∈ px → U8 n) {p : Nat} (hp : p < px.length) : 0 ≤ px.getD p 0 ∧ px.getD p 0 ≤ 255 := h _ (getD_mem hp)
def gD : Grid := ⟨0,0,1000,5,4⟩
def nmB (n : UInt8) : ByteArray := ⟨#[n]⟩
def nmS (i : Nat) : ByteArray := [nmB 97, nmB 98, nmB 99].getD i ByteArray.empty
theorem nm_at {i : Nat} (h : i < 3) : ∃ r, [Value.string (nmB 97), .string (nmB 98), .string (nmB 99)].drop (0 + i * 1) = [.string (nmS i)] ++ r := by
  match i, h with
  | 0,_ => exact ⟨_, rfl⟩
  | 1,_ => exact ⟨_, rfl⟩
  | 2,_ => exact ⟨_, rfl⟩
/-- A pixel is in a region. -/
def drIn (d : DrM) (i p : Nat) : Prop := (d.px.getD p 0).fdiv (2 ^ (Min.min (i : Int).toNat 64)) % 2 = 1 ∨ (i : Int) = 0 ∧ (d.px.getD p 0).tmod 8 = 0
instance (d : DrM) (i p : Nat) : Decidable (drIn d i p) := by unfold drIn; infer_instance
def drPx (d : DrM) (i n : Nat) : List Int := ((List.range n).filter fun p => decide (drIn d i p)).map Int.ofNat
theorem drPx_y {d : DrM} {i n : Nat} (h : drIn d i n) : drPx d i (n + 1) = drPx d i n ++ [(n : Int)] := by
  unfold drPx; rw [List.range_succ, List.filter_append, List.map_append]; simp [h]
theorem drPx_n {d : DrM} {i n : Nat} (h : ¬ drIn d i n) : drPx d i (n + 1) = drPx d i n := by
  unfold drPx; rw [List.range_succ, List.filter_append]; simp [h]
theorem drPx_len {d : DrM} {i n : Nat} : (drPx d i n).length ≤ n := by
  unfold drPx
  rw [List.length_map]
  have := List.length_filter_le (fun p => decide (drIn d i p)) (List.range n)
  simpa using this
/-- The first regions of a draft. -/
def drRegs (d : DrM) : Nat → List Reg
  | 0 => []
  | i + 1 => if drPx d i 20 = [] then drRegs d i else drRegs d i ++ [⟨nmS i, drPx d i 20⟩]
theorem drRegs_len {d : DrM} : ∀ i, (drRegs d i).length ≤ i
  | 0 => Nat.le_refl _
  | i + 1 => by
    have := drRegs_len (d := d) i
    unfold drRegs; split
    · omega
    · simp; omega
theorem drRegs_y {d : DrM} {i : Nat} (h : drPx d i 20 ≠ []) : drRegs d (i + 1) = drRegs d i ++ [⟨nmS i, drPx d i 20⟩] := by
  conv => lhs; unfold drRegs
  rw [if_neg h]
theorem drRegs_n {d : DrM} {i : Nat} (h : drPx d i 20 = []) : drRegs d (i + 1) = drRegs d i := by
  conv => lhs; unfold drRegs
  rw [if_pos h]
def drA (d : DrM) : Int := d.a.tmod 301
def drB (d : DrM) : Int := 30 + d.b.tmod 120
def drC (d : DrM) : Int := d.c.tmod 400
def drSp (d : DrM) : Sp := ⟨gD, drRegs d 3, drA d, drB d, drC d⟩
theorem tm {n m : Int} (h : 0 ≤ n) (hm : 0 < m) : 0 ≤ n.tmod m ∧ n.tmod m < m := ⟨Int.tmod_nonneg _ h, Int.tmod_lt_of_pos _ hm⟩
theorem dr_bd {d : DrM} (h : d.ok) : (0 ≤ drA d ∧ drA d ≤ 300) ∧ (30 ≤ drB d ∧ drB d ≤ 149) ∧ (0 ≤ drC d ∧ drC d ≤ 399) := by
  obtain ⟨_,_, h1, h2, h3⟩ := h
  have q1 := tm h1.1 (show (0 : Int) < 301 by decide)
  have q2 := tm h2.1 (show (0 : Int) < 120 by decide)
  have q3 := tm h3.1 (show (0 : Int) < 400 by decide)
  unfold drA drB drC
  omega

set_option maxRecDepth 20000 in
theorem grid_c (w : World) :
  Calls Try.prog 51 #[] w fun e w' => e = .returned (.agg #[.int .i64 0, .int .i64 0, .int .i64 1000, .int .i64 5, .int .i64 4]) ∧ St (bs w) [] w' := by
  refine enter (vs := []) (env := []) Try.func51 rfl rfl rfl rfl ?_
  refine VC.seq ?_
  refine VC.reg (VO.h rfl<|HO.alloc (C := #[_,_,_,_,_]) Z23 rfl fun b1 => VO.nil ?_)
  refine VE.seqN ?_
  refine VC.seq ?_
  refine VC.reg (VO.l (LO.bd (ps := [(_,_), (_,_), (_,_)]) (vs := [(_,_), (_,_), (_,_)]) (C := [_,_,_,_,_]) B23  ⟨(.r rfl), (.r rfl), (.r rfl), trivial⟩ rfl ⟨_, [_], [_,_,_,_,_], rfl, rfl, rfl, rfl, ⟨_, [_], [_,_,_,_,_], rfl, rfl, rfl, rfl, ⟨_, [_], [_,_,_,_,_], rfl, rfl, rfl, rfl, rfl⟩⟩⟩) rfl<|VO.h0<|HO.st 0 (vs := [_,_,_,_,_]) (C' := [_,_,_,_,_]) (L' := [_]) N23 rfl rfl rfl rfl rfl rfl rfl rfl<|VO.nil ?_)
  refine VE.seqN ?_
  refine VC.ret (VE.res (vs := [_]) rfl ⟨RV.agg (vs := [_,_,_,_,_]) A23 rfl (cells_blk 0 rfl ⟨_, rfl⟩) rfl, trivial⟩ (fun w hw => ?_))
  exact ⟨rfl, hw.nil⟩

set_option maxRecDepth 20000 in
theorem dmade_c (d : DrM) (w : World) (hd : d.ok) :
  Calls Try.prog 19 #[.agg d.cells.toArray] w fun e w' => ∃ y : List RG × Option Addr × Nat, y.1.map RG.r = drRegs d 3 ∧ e = .returned (specV gD y.2.1 y.1.length y.2.2 (drA d) (drB d) (drC d)) ∧ St (bs w) [own 74 2 y.2.1 y.2.2 (y.1.map RG.cells), bagD (y.1.map pixR)] w' := by
  obtain ⟨hl20, hu8, hua, hub, huc⟩ := id hd
  have hbd := dr_bd hd
  unfold U16 at hua hub huc
  refine enter (vs := [_]) (env := [(0,_)]) Try.func19 rfl rfl rfl rfl ?_
  refine VC.seq ?_
  refine VC.reg (VO.h rfl<|HO.box (C := d.cells.toArray) rfl rfl fun b1 => VO.h rfl<|HO.alloc (C := #[_,_,_,_,_,_,_,_,_]) Z28 rfl fun b2 => VO.nil ?_)
  refine VE.seqN ?_
  refine VC.seq ?_
  refine VC.drawH [[0,1], [0,1], [0,1]] [some 1, some 1, some 1, some 1, some 1, some 1, some 1, some 1, some 1, some 1, some 1, some 1, some 1, some 1, some 1, some 1, none, none] mixed (by kernel_rfl) rfl (LX.l (fun _ hJ => LO.call (xs := []) (vs := []) C51 trivial (fun w _ => grid_c w)) rfl<|LX.l (fun _ hJ => LO.fa (r := 20) F48_1 (.r rfl) rfl) rfl<|LX.l (fun _ hJ => LO.ld O46 (.r rfl) (fun _ hw => cells_at (hJ _ hw) 1 rfl (d.at hl20 0 _ rfl))) rfl<|LX.l (fun _ hJ => LO.cv ⟨_, Try.underlying46⟩ Try.underlying3 (.r rfl) (wi (by omega) (by omega))) rfl<|LX.l (fun _ hJ => LO.rem (.r rfl) (.r rfl) (by omega)) rfl<|LX.l (fun _ hJ => LO.fa (r := 21) F48_2 (.r rfl) rfl) rfl<|LX.l (fun _ hJ => LO.ld O46 (.r rfl) (fun _ hw => cells_at (hJ _ hw) 1 rfl (d.at hl20 1 _ rfl))) rfl<|LX.l (fun _ hJ => LO.cv ⟨_, Try.underlying46⟩ Try.underlying3 (.r rfl) (wi (by omega) (by omega))) rfl<|LX.l (fun _ hJ => LO.rem (.r rfl) (.r rfl) (by omega)) rfl<|LX.l (fun _ hJ => LO.add (.r rfl) (.r rfl) (wi (by show _ ≤ 30 + d.b.tmod 120; unfold drB at hbd; omega) (by show 30 + d.b.tmod 120 ≤ _; unfold drB at hbd; omega))) rfl<|LX.l (fun _ hJ => LO.fa (r := 22) F48_3 (.r rfl) rfl) rfl<|LX.l (fun _ hJ => LO.ld O46 (.r rfl) (fun _ hw => cells_at (hJ _ hw) 1 rfl (d.at hl20 2 _ rfl))) rfl<|LX.l (fun _ hJ => LO.cv ⟨_, Try.underlying46⟩ Try.underlying3 (.r rfl) (wi (by omega) (by omega))) rfl<|LX.l (fun _ hJ => LO.rem (.r rfl) (.r rfl) (by omega)) rfl<|LX.l (fun _ hJ => LO.bd (ps := [(_,_), (_,_), (_,_)]) (vs := [(_,_), (_,_), (_,_)]) (C := [_,_,_]) B26  ⟨(.r rfl), (.r rfl), (.r rfl), trivial⟩ rfl ⟨_, [_], [_,_,_], rfl, rfl, rfl, rfl, ⟨_, [_], [_,_,_], rfl, rfl, rfl, rfl, ⟨_, [_], [_,_,_], rfl, rfl, rfl, rfl, rfl⟩⟩⟩) rfl<|LX.l (fun _ hJ => LO.bd (ps := [(_,_), (_,_)]) (vs := [(_,_), (_,_)]) (C := [_,_,_,_,_,_,_,_,_]) B28  ⟨(.r rfl), (.r rfl), trivial⟩ rfl ⟨_, [_,_,_,_,_], [_,_,_,_,_,_,_,_,_], rfl, rfl, rfl, rfl, ⟨_, [_,_,_], [_,_,_,_,_,_,_,_,_], rfl, rfl, rfl, rfl, rfl⟩⟩) rfl<|LX.s<|LX.s<|LX.nil) (HX.s<|HX.s<|HX.s<|HX.s<|HX.s<|HX.s<|HX.s<|HX.s<|HX.s<|HX.s<|HX.s<|HX.s<|HX.s<|HX.s<|HX.s<|HX.s<|HX.h rfl<|HO.alloc (C := #[_,_,_,_,_,_,_,_,_]) Z28 rfl fun b5 => ⟨fun _ hw => hw.sel [1,2] rfl, HX.h0<|HO.st 0 (vs := [_,_,_,_,_,_,_,_,_]) (C' := [_,_,_,_,_,_,_,_,_]) (L' := [_,_,_]) N28 rfl rfl rfl rfl rfl rfl rfl rfl<|⟨fun _ hw => hw.sel [1,2] rfl, HX.nil ?_⟩⟩)
  refine VE.seqN ?_
  refine VC.seq ?_
  refine VC.reg (VO.h rfl<|HO.bs (ps := [(_,_), (_,_), (_,_)]) (vs := [(_,_), (_,_), (_,_)]) (Z := [_,_,_]) (C := [_,_,_]) S143 Z9 N9 ⟨(.r rfl), (.r rfl), (.r rfl), trivial⟩ rfl rfl rfl rfl ⟨_, [_], [_,_,_], rfl, rfl, rfl, rfl, ⟨_, [_], [_,_,_], rfl, rfl, rfl, rfl, ⟨_, [_], [_,_,_], rfl, rfl, rfl, rfl, rfl⟩⟩⟩ fun b7 => VO.h rfl<|HO.lo (LO.as (.r rfl))<|VO.nil ?_)
  refine VE.seqN ?_
  refine VC.seq ?_
  refine VC.seq ?_
  refine VC.reg (VO.l (LO.as (.r rfl)) rfl<|VO.nil ?_)
  refine VE.seqN ?_
  refine VC.block ?_
  refine VC.perm [1,0,2,3] rfl ?_
  refine VC.loopK (α := Nat × (List RG) × (Option Addr) × Nat) 1 (fun gx => [(5, .int .i64 (gx.1 : Nat))]) [(1,_), (2,_), (3,_), (4,_)] (fun gx => [blk b5 (.cells #[.int .i64 0, .int .i64 0, .int .i64 1000, .int .i64 5, .int .i64 4, .slice gx.2.2.1 gx.2.1.length gx.2.2.2, .int .i64 (drA d), .int .i64 (drB d), .int .i64 (drC d)] 28), own 74 2 gx.2.2.1 gx.2.2.2 (gx.2.1.map RG.cells), bagD (gx.2.1.map pixR)]) (fun gx => gx.1 ≤ 3 ∧ gx.2.1.map RG.r = drRegs d gx.1) (fun gx => 3 - gx.1) (0, [], none, 0) (by exact ⟨Nat.zero_le _, rfl⟩) (.cons rfl (.cons rfl (.cons rfl (.cons rfl (.cons rfl .nil))))) (fun _ h => (((St.bagD (Rs := []) h).ownNil 74 2)).sel [2,0,1,3,4,5] rfl) ?_
  rintro ⟨i, rgs, pg_, cg_⟩ ⟨hi, hX⟩
  show VC _ _ _ _ _ ([(5, .int .i64 (i : Nat))] ++ _) ([blk b5 (.cells #[.int .i64 0, .int .i64 0, .int .i64 1000, .int .i64 5, .int .i64 4, .slice pg_ rgs.length cg_, .int .i64 (drA d), .int .i64 (drB d), .int .i64 (drC d)] 28), own 74 2 pg_ cg_ (rgs.map RG.cells), bagD (rgs.map pixR)] ++ _) _ _
  dsimp only at hi hX
  have hgl : rgs.length ≤ i := by rw [← List.length_map (f := RG.r), hX]; exact drRegs_len i
  refine VC.seq ?_
  refine VC.seq ?_
  refine VC.reg (VO.l (LO.mv (.r rfl)) rfl<|VO.l (LO.lt (.r rfl) (.r rfl)) rfl<|VO.nil ?_)
  refine VE.seqN ?_
  refine VC.cond rfl (fun h26 => ?_) (fun h26 => ?_)
  ·
    refine VC.skip (VE.seqN ?_)
    refine VC.seq ?_
    refine VC.block ?_
    refine VC.seq ?_
    refine VC.reg (VO.l (LO.mv (.r rfl)) rfl<|VO.l (LO.mv (.r rfl)) rfl<|VO.l (LO.ix (j := i) S143 N9 (.r rfl) (.r rfl) (by omega)) rfl<|VO.l (LO.ld O9 (.r rfl) (fun _ hw => cells_at hw 3 rfl (nm_at (by omega)))) rfl<|VO.l (LO.bd (ps := [(_,_)]) (vs := [(_,_)]) (C := [_,_]) B74  ⟨(.r rfl), trivial⟩ rfl ⟨_, [_], [_,_], rfl, rfl, rfl, rfl, rfl⟩) rfl<|VO.h rfl<|HO.alloc (C := #[_,_]) Z74 rfl fun b11 => VO.h0<|HO.st 0 (vs := [_,_]) (C' := [_,_]) (L' := [_,_,_,_,_,_,_]) N74 rfl rfl rfl rfl rfl rfl rfl rfl<|VO.nil ?_)
    refine VE.seqN ?_
    refine VC.seq ?_
    refine VC.seq ?_
    refine VC.reg (VO.l (LO.as (.r rfl)) rfl<|VO.nil ?_)
    refine VE.seqN ?_
    refine VC.block ?_
    refine VC.loopK (α := Nat × (List Int) × (Option Addr) × Nat) 1 (fun gx => [(7, .int .i64 (gx.1 : Nat))]) [(1,_), (2,_), (3,_), (4,_), (5,_), (6,_)] (fun gx => [blk b11 (.cells #[.string (nmS i), .slice gx.2.2.1 gx.2.1.length gx.2.2.2] 74), own 3 1 gx.2.2.1 gx.2.2.2 (gx.2.1.map iC)]) (fun gx => gx.1 ≤ 20 ∧ gx.2.1 = drPx d i gx.1) (fun gx => 20 - gx.1) (0, [], none, 0) (by exact ⟨Nat.zero_le _, rfl⟩) (.cons rfl (.cons rfl (.cons rfl (.cons rfl (.cons rfl (.cons rfl (.cons rfl .nil))))))) (fun _ h => ((h.ownNil 3 1)).sel [1,0,2,3,4,5,6,7] rfl) ?_
    rintro ⟨p, xs, px_, cx_⟩ ⟨hp, hx⟩
    show VC _ _ _ _ _ ([(7, .int .i64 (p : Nat))] ++ _) ([blk b11 (.cells #[.string (nmS i), .slice px_ xs.length cx_] 74), own 3 1 px_ cx_ (xs.map iC)] ++ _) _ _
    dsimp only at hp hx
    have hxl : xs.length ≤ p := by rw [hx]; exact drPx_len
    refine VC.seq ?_
    refine VC.seq ?_
    refine VC.reg (VO.l (LO.mv (.r rfl)) rfl<|VO.l (LO.lt (.r rfl) (.r rfl)) rfl<|VO.nil ?_)
    refine VE.seqN ?_
    refine VC.cond rfl (fun h35 => ?_) (fun h35 => ?_)
    ·
      have hpx := u8_at hu8 (p := p) (by omega)
      refine VC.skip (VE.seqN ?_)
      refine VC.seq ?_
      refine VC.block ?_
      refine VC.seq ?_
      refine VC.reg (VO.l (LO.mv (.r rfl)) rfl<|VO.l (LO.fa (r := 0) F48_0 (.r rfl) rfl) rfl<|VO.l (LO.ixa (j := p) (r := p) Try.underlying45 N5 (.r rfl) (.r rfl) rfl (by omega) (by omega)) rfl<|VO.l (LO.ld O5 (.r rfl) (fun _ hw => cells_at hw 7 rfl (px_at (by omega)))) rfl<|VO.l (LO.cv ⟨_, Try.underlying5⟩ Try.underlying3 (.r rfl) (wi (by omega) (by omega))) rfl<|VO.l (LO.mv (.r rfl)) rfl<|VO.l (LO.shr (.r rfl) (.r rfl) (by omega)) rfl<|VO.l (LO.and1 (.r rfl) (.r rfl)) rfl<|VO.l (LO.eq (.r rfl) (.r rfl)) rfl<|VO.l (LO.mv (.r rfl)) rfl<|VO.lg rfl rfl (GD.f _) (fun hg => LO.mv (.r rfl)) rfl<|VO.lg rfl rfl (GD.f _) (fun hg => LO.eq (.g hg rfl) (.r rfl)) rfl<|VO.lg rfl rfl (GD.f _) (fun hg => LO.mv (.g hg rfl)) rfl<|VO.lg rfl rfl (GD.nt _ _) (fun hg => LO.mv (.r rfl)) rfl<|VO.lg rfl rfl (GD.nt _ _) (fun hg => LO.fa (r := 0) F48_0 (.r rfl) rfl) rfl<|VO.lg rfl rfl (GD.nt _ _) (fun hg => LO.ixa (j := p) (r := p) Try.underlying45 N5 (.g hg rfl) (.g hg rfl) rfl (by omega) (by omega)) rfl<|VO.lg rfl rfl (GD.nt _ _) (fun hg => LO.ld O5 (.g hg rfl) (fun _ hw => cells_at hw 7 rfl (px_at (by omega)))) rfl<|VO.lg rfl rfl (GD.nt _ _) (fun hg => LO.rem (.g hg rfl) (.r rfl) (by decide)) rfl<|VO.lg rfl rfl (GD.nt _ _) (fun hg => LO.eq (.g hg rfl) (.r rfl)) rfl<|VO.lg rfl rfl (GD.f _) (fun hg => LO.pkA (.g hg rfl) rfl (and_e hg) (.r rfl)) rfl<|VO.l (LO.pkO (.r rfl) (.r rfl) rfl rfl) rfl<|VO.nil ?_)
      refine VE.seqN ?_
      refine VC.cond rfl (fun h58 => ?_) (fun h58 => ?_)
      ·
        refine VC.reg (VO.l (LO.fa (r := 1) F74_1 (.r rfl) rfl) rfl<|VO.l (LO.ld O55 (.r rfl) (fun _ hw => cells_at hw 0 rfl ⟨_, rfl⟩)) rfl<|VO.l (LO.mv (.r rfl)) rfl<|VO.h rfl<|HO.bs (ps := [(_,_)]) (vs := [(_,_)]) (Z := [_]) (C := [_]) S55 Z3 N3 ⟨(.r rfl), trivial⟩ rfl rfl rfl rfl ⟨_, [_], [_], rfl, rfl, rfl, rfl, rfl⟩ fun b15 => VO.h rfl<|HO.appT (((p : Nat) : Int)) 2 0 (fun R => [_,_, R,_,_,_,_,_,_]) S55 S55 I3 (.r rfl) (.r rfl) rfl rfl rfl rfl rfl rfl rfl (fun _ => rfl) rfl (by omega) fun p4 c4 => VO.l (LO.fa (r := 1) F74_1 (.r rfl) rfl) rfl<|VO.h0<|HO.st 1 (vs := [_]) (C' := [_,_]) (L' := [_,_,_,_,_,_,_,_,_]) N55 rfl rfl rfl rfl rfl rfl rfl rfl<|VO.nil ?_)
        refine VE.inN (VE.seqN ?_)
        refine VC.reg (VO.l (LO.mv (.r rfl)) rfl<|VO.l (LO.add (.r rfl) (.r rfl) (wi (by omega) (by omega))) rfl<|VO.l (LO.as (.r rfl)) rfl<|VO.nil ?_)
        refine VE.thenN fun a w ha hw => ⟨(p + 1, xs ++ [((p : Nat) : Int)], p4, c4), ⟨by dsimp only; omega, by dsimp only; rw [hx]; exact (drPx_y h58).symm⟩, (by dsimp only; omega), ha.sub (.cons rfl (.cons rfl (.cons rfl (.cons rfl (.cons rfl (.cons rfl (.cons rfl .nil))))))), hw.sel [1,2,3,4,5,6,7,8] rfl⟩
      ·
        refine VC.skip (VE.inN (VE.seqN ?_))
        refine VC.reg (VO.l (LO.mv (.r rfl)) rfl<|VO.l (LO.add (.r rfl) (.r rfl) (wi (by omega) (by omega))) rfl<|VO.l (LO.as (.r rfl)) rfl<|VO.nil ?_)
        refine VE.thenN fun a w ha hw => ⟨(p + 1, xs, px_, cx_), ⟨by dsimp only; omega, by dsimp only; rw [hx]; exact (drPx_n h58).symm⟩, (by dsimp only; omega), ha.sub (.cons rfl (.cons rfl (.cons rfl (.cons rfl (.cons rfl (.cons rfl (.cons rfl .nil))))))), hw⟩
    ·
      refine VC.exit (VE.thenX (VE.thenX (VE.inX (VE.seqN ?_))))
      refine VC.seq ?_
      refine VC.reg (VO.l (LO.fa (r := 1) F74_1 (.r rfl) rfl) rfl<|VO.l (LO.ld O55 (.r rfl) (fun _ hw => cells_at hw 0 rfl ⟨_, rfl⟩)) rfl<|VO.l (LO.len S55 (.r rfl) rfl) rfl<|VO.l (LO.gt (.r rfl) (.r rfl)) rfl<|VO.nil ?_)
      refine VE.seqN ?_
      refine VC.cond rfl (fun h68 => ?_) (fun h68 => ?_)
      ·
        have hne : drPx d i 20 ≠ [] := fun q => by rw [show p = 20 by omega] at hx; rw [hx, q] at h68; exact absurd h68 (by decide)
        refine VC.reg (VO.l (LO.fa (r := 5) F28_1 (.r rfl) rfl) rfl<|VO.l (LO.ld O24 (.r rfl) (fun _ hw => cells_at hw 2 rfl ⟨_, rfl⟩)) rfl<|VO.l (LO.lda (vs := [_,_]) A74 (.r rfl) (fun _ hw => cells_at hw 0 rfl ⟨_, rfl⟩) rfl) rfl<|VO.h rfl<|HO.bs (ps := [(_,_)]) (vs := [(_,_)]) (Z := [_,_]) (C := [_,_]) S24 Z74 N74 ⟨(.r rfl), trivial⟩ rfl rfl rfl rfl ⟨_, [_,_], [_,_], rfl, rfl, rfl, rfl, rfl⟩ fun b17 => VO.h rfl<|HO.appT ((RG.mk ⟨nmS i, xs⟩ px_ cx_)) 4 0 (fun R => [_,_,_,_, R,_,_,_,_]) S24 S24 I74 (.r rfl) (.r rfl) rfl rfl rfl rfl rfl rfl rfl (fun _ => rfl) rfl (by omega) fun p4 c4 => VO.l (LO.fa (r := 5) F28_1 (.r rfl) rfl) rfl<|VO.h0<|HO.st 3 (vs := [_]) (C' := [_,_,_,_,_,_,_,_,_]) (L' := [_,_,_,_,_,_,_,_,_]) N24 rfl rfl rfl rfl rfl rfl rfl rfl<|VO.nil ?_)
        refine VE.inN (VE.seqN ?_)
        refine VC.reg (VO.l (LO.mv (.r rfl)) rfl<|VO.l (LO.add (.r rfl) (.r rfl) (wi (by omega) (by omega))) rfl<|VO.l (LO.as (.r rfl)) rfl<|VO.nil ?_)
        refine VE.thenN fun a w ha hw => ⟨(i + 1, rgs ++ [RG.mk ⟨nmS i, xs⟩ px_ cx_], p4, c4), ⟨by dsimp only; omega, by dsimp only; rw [List.map_append, hX, drRegs_y hne, hx, show p = 20 by omega]; rfl⟩, (by dsimp only; omega), ha.sub (.cons rfl (.cons rfl (.cons rfl (.cons rfl (.cons rfl .nil))))), (by exact (St.bagPx (x := RG.mk ⟨nmS i, xs⟩ px_ cx_) (selK (L1 := [_,_,_,_,_,_,_]) [2,5,3,4,6,7,8] rfl rfl _ hw)).sel [1,2,0,3,4,5] rfl)⟩
      ·
        have hne : drPx d i 20 = [] := List.eq_nil_of_length_eq_zero (by rw [show p = 20 by omega] at hx; rw [hx] at h68; omega)
        refine VC.skip (VE.inN (VE.seqN ?_))
        refine VC.reg (VO.l (LO.mv (.r rfl)) rfl<|VO.l (LO.add (.r rfl) (.r rfl) (wi (by omega) (by omega))) rfl<|VO.l (LO.as (.r rfl)) rfl<|VO.nil ?_)
        refine VE.thenN fun a w ha hw => ⟨(i + 1, rgs, pg_, cg_), ⟨by dsimp only; omega, by dsimp only; rw [hX, drRegs_n hne]⟩, (by dsimp only; omega), ha.sub (.cons rfl (.cons rfl (.cons rfl (.cons rfl (.cons rfl .nil))))), (by exact selK (L1 := [_,_,_,_,_,_]) [2,3,4,5,6,7] rfl rfl _ hw)⟩
  ·
    refine VC.exit (VE.thenX (VE.thenX (VE.inX (VE.seqN ?_))))
    refine VC.seq ?_
    refine VC.reg (VO.l (LO.lda (vs := [_,_,_,_,_,_,_,_,_]) A28 (.r rfl) (fun _ hw => cells_at hw 0 rfl ⟨_, rfl⟩) rfl) rfl<|VO.h0<|HO.st 4 (vs := [_,_,_,_,_,_,_,_,_]) (C' := [_,_,_,_,_,_,_,_,_]) (L' := [_,_,_,_,_,_]) N28 rfl rfl rfl rfl rfl rfl rfl rfl<|VO.nil ?_)
    refine VE.seqN ?_
    refine VC.ret (VE.res (vs := [_]) rfl ⟨RV.agg (vs := [_,_,_,_,_,_,_,_,_]) A28 rfl (cells_blk 4 rfl ⟨_, rfl⟩) rfl, trivial⟩ (fun w hw => ?_))
    have hi3 : i = 3 := by omega
    subst hi3
    exact ⟨(rgs, pg_, cg_), hX, rfl, selK (L1 := [_,_]) [1,2] rfl rfl _ hw⟩

end Go.Proofs.Ytdjflomhaljljaa
