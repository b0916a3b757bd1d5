/-
  The memory of an office, and the hand of a step.
  (and more)
-/
import Derived.Test.YtdjflomhaljljaaGreatKKRUN04

set_option maxRecDepth 20000
set_option maxHeartbeats 8000000
namespace Go.Proofs.YtdjflomhaljljaaGreat
open Go.SL Go.Proofs Go.Cast
set_option linter.unusedVariables false
theorem F98_3 : FieldAt Tryz.prog 98 3 4 := ⟨_,_, Tryz.underlying98, rfl, rfl, 0, by kernel_rfl⟩
theorem F92_1 : FieldAt Tryz.prog 92 1 9 := ⟨_,_, Tryz.underlying92, rfl, rfl, 0, by kernel_rfl⟩
theorem O88 : IsOne Tryz.prog 88 := ⟨⟨_, Tryz.underlying88, rfl⟩, by kernel_rfl⟩
theorem S88 : IsSlice Tryz.prog 88 94 := Tryz.underlying88
theorem F84_2 : FieldAt Tryz.prog 84 2 2 := ⟨_,_, Tryz.underlying84, rfl, rfl, 0, by kernel_rfl⟩
theorem O32 : IsOne Tryz.prog 32 := ⟨⟨_, Tryz.underlying32, rfl⟩, by kernel_rfl⟩
theorem F92_3 : FieldAt Tryz.prog 92 3 11 := ⟨_,_, Tryz.underlying92, rfl, rfl, 0, by kernel_rfl⟩
theorem O89 : IsOne Tryz.prog 89 := ⟨⟨_, Tryz.underlying89, rfl⟩, by kernel_rfl⟩
theorem S89 : IsSlice Tryz.prog 89 96 := Tryz.underlying89
theorem F84_1 : FieldAt Tryz.prog 84 1 1 := ⟨_,_, Tryz.underlying84, rfl, rfl, 0, by kernel_rfl⟩
theorem F84_0 : FieldAt Tryz.prog 84 0 0 := ⟨_,_, Tryz.underlying84, rfl, rfl, 0, by kernel_rfl⟩
theorem B120 : Builds Tryz.prog 120 [(0,1), (1,1), (2,1), (3,1), (4,1)] [.int .i64 0, .int .i64 0, .int .i64 0, .int .i64 0, .int .i64 0] := Builds.mk fun _ => by kernel_rfl
theorem F98_4 : FieldAt Tryz.prog 98 4 5 := ⟨_,_, Tryz.underlying98, rfl, rfl, 0, by kernel_rfl⟩
theorem N96 : (Tryz.prog.info? 96).map (·.size) = some 1 := by kernel_rfl
theorem O96 : IsOne Tryz.prog 96 := ⟨⟨_, Tryz.underlying96, rfl⟩, by kernel_rfl⟩
theorem Z96 : ZeroOf Tryz.prog 96 (.pointer none) := by unfold ZeroOf; kernel_rfl
theorem I96 : EInfo Tryz.prog 96 1 8 (.pointer none) := ⟨by kernel_rfl, by kernel_rfl, by unfold ZeroOf; kernel_rfl, rfl, by decide⟩
theorem N89 : (Tryz.prog.info? 89).map (·.size) = some 1 := by kernel_rfl
theorem F120_4 : FieldAt Tryz.prog 120 4 4 := ⟨_,_, Tryz.underlying120, rfl, rfl, 0, by kernel_rfl⟩
theorem F84_3 : FieldAt Tryz.prog 84 3 3 := ⟨_,_, Tryz.underlying84, rfl, rfl, 0, by kernel_rfl⟩
theorem F120_0 : FieldAt Tryz.prog 120 0 0 := ⟨_,_, Tryz.underlying120, rfl, rfl, 0, by kernel_rfl⟩
theorem F84_4 : FieldAt Tryz.prog 84 4 4 := ⟨_,_, Tryz.underlying84, rfl, rfl, 0, by kernel_rfl⟩
theorem O57 : IsOne Tryz.prog 57 := ⟨⟨_, Tryz.underlying57, rfl⟩, by kernel_rfl⟩
theorem A84 : IsAgg Tryz.prog 84 7 := ⟨⟨_, Tryz.underlying84, rfl⟩, by kernel_rfl⟩
theorem S57 : IsSlice Tryz.prog 57 84 := Tryz.underlying57
theorem Z84 : ZeroOf Tryz.prog 84 (.agg #[.int .i64 0, .int .i64 0, .int .i64 0, .int .i64 0, .int .i64 0, .int .i64 0, .int .i64 0]) := by unfold ZeroOf; kernel_rfl
theorem N84 : (Tryz.prog.info? 84).map (·.size) = some 7 := by kernel_rfl
theorem I84 : EInfo Tryz.prog 84 7 56 (.agg #[.int .i64 0, .int .i64 0, .int .i64 0, .int .i64 0, .int .i64 0, .int .i64 0, .int .i64 0]) := ⟨by kernel_rfl, by kernel_rfl, by unfold ZeroOf; kernel_rfl, rfl, by decide⟩
theorem N57 : (Tryz.prog.info? 57).map (·.size) = some 1 := by kernel_rfl
theorem F120_3 : FieldAt Tryz.prog 120 3 3 := ⟨_,_, Tryz.underlying120, rfl, rfl, 0, by kernel_rfl⟩
abbrev ptrN (b : Nat) : Value := .pointer (some ⟨b, 0, none⟩)
def ptrO (o : Option Nat) : Value := .pointer (o.map fun b => ⟨b, 0, none⟩)
def lastI (l : List Int) : Int := l.getD (l.length - 1) 0
structure RcM where
  x : RG
  b : Nat
  i : Nat
  rc : List Rch
  pr : Option Addr
  cr : Nat
  lv : List Int
  pv : Option Addr
  cv : Nat
  op : Option Nat
abbrev RcM.C (r : RcM) : List Value := [.string r.x.r.name, .slice r.x.px r.x.r.pix.length r.x.cx, .int .i64 r.i, .slice r.pr r.rc.length r.cr, .slice r.pv r.lv.length r.cv, ptrO r.op]
abbrev RcM.blk (r : RcM) : Res := Go.SL.blk r.b (.cells r.C.toArray 98)
abbrev RcM.rcR (r : RcM) : Res := own 162 2 r.pr r.cr (r.rc.map rchC)
abbrev RcM.lvR (r : RcM) : Res := own 3 1 r.pv r.cv (r.lv.map iC)
structure CsM where
  b : Nat
  nm : Int
  rg : Int
  bg : Int
  en : Int
  pk : Int
abbrev CsM.C (c : CsM) : List Value := [.int .i64 c.nm, .int .i64 c.rg, .int .i64 c.bg, .int .i64 c.en, .int .i64 c.pk]
abbrev CsM.blk (c : CsM) : Res := Go.SL.blk c.b (.cells c.C.toArray 120)
def csP (c : CsM) : List Value := [ptrN c.b]
def rcP (r : RcM) : List Value := [ptrN r.b]
structure Ev where
  t : Int
  rg : Int
  kd : Int
  lv : Int
  nm : Int
  ld : Int
  px : Int
def evC (x : Ev) : List Value := [.int .i64 x.t, .int .i64 x.rg, .int .i64 x.kd, .int .i64 x.lv, .int .i64 x.nm, .int .i64 x.ld, .int .i64 x.px]
inductive LgM where
  | st (t : Int) (p : Option Addr) (c : Nat) (l : List CP)
  | nt (t : Int) (g : Grid) (p : Option Addr) (c : Nat) (vs : List Span) (lv : Int)
def LgM.val : LgM → List Value
  | .st t p c l => [.iface 118 (.agg #[.int .i64 t, .slice p l.length c])]
  | .nt t g p c vs lv => [.iface 112 (.agg #[.int .i64 t, .int .i64 g.x, .int .i64 g.y, .int .i64 g.size, .int .i64 g.wide, .int .i64 g.high, .slice p vs.length c, .int .i64 lv])]
def cpR (x : CP) : List Res := [own 3 1 x.ps x.cs (x.c.sure.map iC), own 3 1 x.pm x.cm (x.c.may.map iC)]
def LgM.res : LgM → List Res
  | .st _ p c l => [own 81 7 p c (l.map CP.cells), bagD (l.flatMap cpR)]
  | .nt _ _ p c vs _ => [own 77 2 p c (vs.map Span.cells)]
structure OfM where
  b : Nat
  g : Grid
  rg : List RG
  pg : Option Addr
  cg : Nat
  lead : Int
  step : Int
  hold : Int
  rc : List RcM
  pc : Option Addr
  cc : Nat
  ts : List Int
  pt : Option Addr
  ct : Nat
  cs : List CsM
  pk : Option Addr
  ck : Nat
  lg : List LgM
  pl : Option Addr
  cl : Nat
abbrev OfM.C (o : OfM) : List Value := [.int .i64 o.g.x, .int .i64 o.g.y, .int .i64 o.g.size, .int .i64 o.g.wide, .int .i64 o.g.high, .slice o.pg o.rg.length o.cg, .int .i64 o.lead, .int .i64 o.step, .int .i64 o.hold, .slice o.pc o.rc.length o.cc, .slice o.pt o.ts.length o.ct, .slice o.pk o.cs.length o.ck, .slice o.pl o.lg.length o.cl]
abbrev OfM.blk (o : OfM) : Res := Go.SL.blk o.b (.cells o.C.toArray 92)
abbrev OfM.csR (o : OfM) : Res := own 96 1 o.pk o.ck (o.cs.map csP)
abbrev OfM.csB (o : OfM) : Res := bagD (o.cs.map CsM.blk)
def HandP (cs : List CsM) (op : Option Nat) (x : Ev) (cs' : List CsM) (op' : Option Nat) (x' : Ev) : Prop :=
  (x.kd = 1 ∧ ∃ b, op' = some b ∧ cs' = cs ++ [⟨b, cs.length + 1, x.rg, x.t, 1099511627776, max 0 x.lv⟩] ∧ x' = { x with nm := cs.length + 1 }) ∨
  (x.kd ≠ 1 ∧ ∃ (k : Nat) (c : CsM), cs[k]? = some c ∧ op = some c.b ∧ op' = op ∧ cs' = cs.set k { c with en := if x.kd = 2 then x.t else c.en, pk := max c.pk x.lv } ∧ x' = { x with nm := c.nm })
theorem St.bagAdd {β : Bs} {L Rs : List Res} {r : Res} {w : World} (h : St β (r :: bagD Rs :: L) w) : St β (bagD (Rs ++ [r]) :: L) w := St.unfocus (A := Rs) (B := []) (by rw [List.append_nil]; exact h)
theorem St.bagCs {β : Bs} {L : List Res} {cs : List CsM} {c : CsM} {w : World} (h : St β (CsM.blk c :: bagD (cs.map CsM.blk) :: L) w) : St β (bagD ((cs ++ [c]).map CsM.blk) :: L) w := by rw [List.map_append]; exact St.bagAdd h
theorem LO.eqPn {P : Program} {β : Bs} {env : Env} {L : List Res} {d : Option Nat} {ty : TypeId} {pos : String} {aft : Array Edge} {g : Option (Nat × Bool)} {T T2 : TypeId} {x y : Operand} {p : Addr} (hT : ∃ E, P.underlying T = some (.pointer E)) (hx : OV env x (.pointer (some p))) (hy : OV env y (.pointer none)) :
    LO P β env L ⟨d, .binOp .eql T x y T2, ty, pos, aft, g⟩ (.bool false) :=
  .of_run fun a w h hw => ⟨w, by
    obtain ⟨E, hE⟩ := hT
    have key : (Op.equalIn Op.maxDepth T (.pointer (some p)) (.pointer none)).run P w = .ok false w := by
      show (Op.equalIn (9999 + 1) T (.pointer (some p)) (.pointer none)).run P w = _
      unfold Op.equalIn
      rw [Sem.run_bind, run_underlying hE]
      rfl
    simp only [execOp, h x (by simp [Op.operands]) _ hx, h y (by simp [Op.operands]) _ hy, eqGuard, binOp, Op.equal, Sem.run_bind, Sem.run_pure, Result.andThen_ok, key, Bool.not_true, Bool.false_eq_true, if_false], hw⟩
theorem LO.eqP0 {P : Program} {β : Bs} {env : Env} {L : List Res} {d : Option Nat} {ty : TypeId} {pos : String} {aft : Array Edge} {g : Option (Nat × Bool)} {T T2 : TypeId} {x y : Operand} (hT : ∃ E, P.underlying T = some (.pointer E)) (hx : OV env x (.pointer none)) (hy : OV env y (.pointer none)) :
    LO P β env L ⟨d, .binOp .eql T x y T2, ty, pos, aft, g⟩ (.bool true) :=
  .of_run fun a w h hw => ⟨w, by
    obtain ⟨E, hE⟩ := hT
    have key : (Op.equalIn Op.maxDepth T (.pointer none) (.pointer none)).run P w = .ok true w := by
      show (Op.equalIn (9999 + 1) T (.pointer none) (.pointer none)).run P w = _
      unfold Op.equalIn
      rw [Sem.run_bind, run_underlying hE]
      rfl
    simp only [execOp, h x (by simp [Op.operands]) _ hx, h y (by simp [Op.operands]) _ hy, eqGuard, binOp, Op.equal, Sem.run_bind, Sem.run_pure, Result.andThen_ok, key, Bool.not_true, Bool.false_eq_true, if_false], hw⟩
theorem level_c (r : RcM) (w : World) (hn : r.lv.length < 1000000000000) (h : Cells w ⟨r.b, 0, none⟩ r.C) (hl : RO 1 iC w r.pv r.lv) :
 Calls Tryz.prog 54 #[ptrN r.b] w fun e w' => e = .returned (.int .i64 (lastI r.lv)) ∧ St (bs w) [] w' := by
 refine enter (vs := [_]) (env := [(0,_)]) Tryz.func54 rfl rfl rfl rfl ?_
 refine VC.q (VO.a rfl rfl<|VO.n<|VC.seq<|VC.q (VO.m rfl rfl<|VO.l (LO.nc (.r rfl)) rfl<|VO.f (r := 4) F98_3 rfl rfl rfl<|VO.l (LO.ld O72 (.r rfl) (cells_keep (sub_cells (off := 4) h ⟨_, rfl⟩))) rfl<|VO.l (LO.len S72 (.r rfl) rfl) rfl<|VO.l (LO.eq (.r rfl) (.r rfl)) rfl<|VO.n<|VC.cond rfl (fun h8 => ?_) (fun h8 => ?_)))
 ·
  refine VC.q (VO.a rfl rfl<|VO.n<|VC.ret (VE.thenR (VE.s rfl rfl (fun w hw => ?_))))
  refine ⟨?_, hw.nil⟩
  simp only [resV]
  first | rfl | (unfold lastI; rw [List.getD_eq_getElem?_getD, List.getElem?_eq_none (by omega)]; rfl)
 ·
  refine VC.skip (VE.seqN<|VC.seq<|VC.draw mixed (LL.m rfl rfl<|LL.l (LO.nc (.r rfl)) rfl<|LL.l (LO.fa (r := 4) F98_3 (.r rfl) rfl) rfl<|LL.l (LO.ld O72 (.r rfl) (cells_keep (sub_cells (off := 4) h ⟨_, rfl⟩))) rfl<|LL.m rfl rfl<|LL.l (LO.nc (.r rfl)) rfl<|LL.l (LO.fa (r := 4) F98_3 (.r rfl) rfl) rfl<|LL.l (LO.ld O72 (.r rfl) (cells_keep (sub_cells (off := 4) h ⟨_, rfl⟩))) rfl<|LL.l (LO.len S72 (.r rfl) rfl) rfl<|LL.l (LO.sub (.r rfl) (.r rfl) (wi (by omega) (by omega))) rfl<|LL.l (LO.ixs S72 N3 hl.sm (.r rfl) (.r rfl) (by omega) (by omega)) rfl<|LL.l (LO.ld O3 (.r rfl) (fun w hw => cells_part (off := 0) ((hl.at 0 (j := (r.lv.length - 1)) (by omega)) w hw) ⟨_, rfl⟩)) rfl<|LL.l (LO.as (.r rfl)) rfl<|LL.nil) (by kernel_rfl)<|VE.seqN<|VC.ret (VE.s rfl rfl (fun w hw => ?_)))
  refine ⟨?_, hw.nil⟩
  simp only [resV]
  first | rfl | (unfold lastI; rw [List.getD_eq_getElem?_getD, List.getElem?_eq_none (by omega)]; rfl)
theorem nothing_c (o : OfM) (w : World) (hn : o.rc.length < 1000000000000) (h : Cells w ⟨o.b, 0, none⟩ o.C) :
 Calls Tryz.prog 30 #[ptrN o.b] w fun e w' => e = .returned (.bool (decide ((o.rc.length : Int) = 0))) ∧ St (bs w) [] w' := by
 refine enter (vs := [_]) (env := [(0,_)]) Tryz.func30 rfl rfl rfl rfl ?_
 refine VC.q (VO.a rfl rfl<|VO.n<|VC.q (VO.m rfl rfl<|VO.l (LO.eqPn ⟨_, Tryz.underlying32⟩ (.r rfl) (.r rfl)) rfl<|VO.m rfl rfl<|VO.gf rfl rfl (fun hg => LO.mv (.r rfl)) rfl<|VO.gf rfl rfl (fun hg => LO.nc (.g hg rfl)) rfl<|VO.gf rfl rfl (fun hg => LO.fa (r := 9) F92_1 (.g hg rfl) rfl) rfl<|VO.gf rfl rfl (fun hg => LO.ld O88 (.g hg rfl) (cells_keep (sub_cells (off := 9) h ⟨_, rfl⟩))) rfl<|VO.gf rfl rfl (fun hg => LO.len S88 (.g hg rfl) rfl) rfl<|VO.gf rfl rfl (fun hg => LO.eq (.g hg rfl) (.r rfl)) rfl<|VO.l (LO.pkO (.r rfl) (.r rfl) rfl rfl) rfl<|VO.a rfl rfl<|VO.n<|VC.ret (VE.s rfl rfl (fun w hw => ?_))))
 exact ⟨rfl, hw.nil⟩
theorem hand_b (o : OfM) (r : RcM) (x : Ev) (es : List Ev) (pe : Option Addr) (ce bo bu : Nat) (w : World) (hcs : o.cs.length < 1000000) (hes : es.length < 1000000) (hk : x.kd = 1) (hh : Has w [blk bo (.cells #[ptrN o.b] 32), blk bu (.cells #[.slice pe es.length ce] 57), own 84 7 pe ce (es.map evC), o.blk, o.csR, o.csB, r.blk]) :
 Calls Tryz.prog 38 #[.agg (evC x).toArray, ptrN r.b, ptrN bo, ptrN bu] w fun e w' => ∃ y : Nat × (Option Addr × Nat) × (Option Addr × Nat), True ∧ e = .returned (.tuple #[]) ∧ St ⟨w, fpL [blk bo (.cells #[ptrN o.b] 32), blk bu (.cells #[.slice pe es.length ce] 57), own 84 7 pe ce (es.map evC), o.blk, o.csR, o.csB, r.blk]⟩ [blk bo (.cells #[ptrN o.b] 32), blk bu (.cells #[.slice y.2.2.1 (es ++ [{ x with nm := o.cs.length + 1 }]).length y.2.2.2] 57), own 84 7 y.2.2.1 y.2.2.2 ((es ++ [{ x with nm := o.cs.length + 1 }]).map evC), OfM.blk { o with cs := o.cs ++ [CsM.mk y.1 (o.cs.length + 1) x.rg x.t 1099511627776 (max 0 x.lv)], pk := y.2.1.1, ck := y.2.1.2 }, own 96 1 y.2.1.1 y.2.1.2 ((o.cs ++ [CsM.mk y.1 (o.cs.length + 1) x.rg x.t 1099511627776 (max 0 x.lv)]).map csP), bagD ((o.cs ++ [CsM.mk y.1 (o.cs.length + 1) x.rg x.t 1099511627776 (max 0 x.lv)]).map CsM.blk), RcM.blk { r with op := some y.1 }] w' := by
 refine enterO (vs := [_,_,_,_]) (env := [(0,_), (1,_), (2,_), (3,_)]) hh.enter Tryz.func38 rfl rfl rfl rfl ?_
 refine VC.q (VO.h rfl<|HO.box (C := #[_,_,_,_,_,_,_]) rfl rfl fun b8 => VO.n<|VC.seq<|VC.q (VO.f (r := 2) F84_2 rfl rfl rfl<|VO.c 0 O3 rfl rfl ⟨_, rfl⟩ rfl<|VO.l (LO.eq (.r rfl) (.r rfl)) rfl<|VO.n<|VC.cond rfl (fun h8 => ?_) (fun h8 => ?_)))
 ·
  refine VC.seq<|VC.drawH [[0,1,2,3,4,5,6,7], [0,1,2,3,4,5,6,7], [0,1,2,3,4,5,6]] [some 1, some 0, some 0, some 0, some 0, some 0, some 0, some 0, some 0, some 0, some 0, some 0, none, some 1, some 1, none] mixed (by kernel_rfl) rfl (LX.m rfl rfl<|LX.l (fun _ hJ => LO.ld O32 (.r rfl) (fun _ hw => cells_at (hJ _ hw) 1 rfl ⟨_, rfl⟩)) rfl<|LX.l (fun _ hJ => LO.nc (.r rfl)) rfl<|LX.l (fun _ hJ => LO.fa (r := 11) F92_3 (.r rfl) rfl) rfl<|LX.l (fun _ hJ => LO.ld O89 (.r rfl) (fun _ hw => cells_at (hJ _ hw) 4 rfl ⟨_, rfl⟩)) rfl<|LX.l (fun _ hJ => LO.len S89 (.r rfl) rfl) rfl<|LX.l (fun _ hJ => LO.add (.r rfl) (.r rfl) (wi (by omega) (by omega))) rfl<|LX.l (fun _ hJ => LO.fa (r := 1) F84_1 (.r rfl) rfl) rfl<|LX.l (fun _ hJ => LO.ld O3 (.r rfl) (fun _ hw => cells_at (hJ _ hw) 0 rfl ⟨_, rfl⟩)) rfl<|LX.l (fun _ hJ => LO.fa (r := 0) F84_0 (.r rfl) rfl) rfl<|LX.l (fun _ hJ => LO.ld O3 (.r rfl) (fun _ hw => cells_at (hJ _ hw) 0 rfl ⟨_, rfl⟩)) rfl<|LX.l (fun _ hJ => LO.bd (ps := [(_,_), (_,_), (_,_), (_,_)]) (vs := [(_,_), (_,_), (_,_), (_,_)]) (C := [_,_,_,_,_]) B120  ⟨(.r rfl), (.r rfl), (.r rfl), (.r rfl), trivial⟩ rfl ⟨_, [_], [_,_,_,_,_], rfl, rfl, rfl, rfl, ⟨_, [_], [_,_,_,_,_], rfl, rfl, rfl, rfl, ⟨_, [_], [_,_,_,_,_], rfl, rfl, rfl, rfl, ⟨_, [_], [_,_,_,_,_], rfl, rfl, rfl, rfl, rfl⟩⟩⟩⟩) rfl<|LX.s<|LX.l (fun _ hJ => LO.nc (.r rfl)) rfl<|LX.l (fun _ hJ => LO.fa (r := 5) F98_4 (.r rfl) rfl) rfl<|LX.s<|LX.nil) (HX.s<|HX.s<|HX.s<|HX.s<|HX.s<|HX.s<|HX.s<|HX.s<|HX.s<|HX.s<|HX.s<|HX.s<|HX.h rfl<|HO.box (C := #[_,_,_,_,_]) rfl rfl fun b11 => ⟨selJ (L1 := [_,_,_,_,_,_,_,_]) [1,2,3,4,5,6,7,8] rfl rfl rfl, HX.s<|HX.s<|HX.h0<|HO.st 8 (vs := [_]) (C' := [_,_,_,_,_,_]) (L' := [_,_,_,_,_,_,_,_,_]) N96 rfl rfl rfl rfl rfl rfl rfl rfl<|⟨selJ (L1 := [_,_,_,_,_,_,_]) [1,2,3,4,5,6,7] rfl rfl rfl, HX.nil ?_⟩⟩)
  refine VE.seqN<|VC.drawH [[0,1,2,3,4,5,6,7,8], [0,1,2,3,4,5,6,7,8], [0,1,2,3,4,5,7,8], [0,1,2,3,4,7,8]] [some 2, some 1, some 1, some 1, some 1, some 0, some 0, some 0, some 0, none, none, some 2, some 2, none] mixed (by kernel_rfl) rfl (LX.l (fun _ hJ => LO.ld O32 (.r rfl) (fun _ hw => cells_at (hJ _ hw) 2 rfl ⟨_, rfl⟩)) rfl<|LX.l (fun _ hJ => LO.ld O32 (.r rfl) (fun _ hw => cells_at (hJ _ hw) 2 rfl ⟨_, rfl⟩)) rfl<|LX.l (fun _ hJ => LO.nc (.r rfl)) rfl<|LX.l (fun _ hJ => LO.fa (r := 11) F92_3 (.r rfl) rfl) rfl<|LX.l (fun _ hJ => LO.ld O89 (.r rfl) (fun _ hw => cells_at (hJ _ hw) 5 rfl ⟨_, rfl⟩)) rfl<|LX.m rfl rfl<|LX.l (fun _ hJ => LO.nc (.r rfl)) rfl<|LX.l (fun _ hJ => LO.fa (r := 5) F98_4 (.r rfl) rfl) rfl<|LX.l (fun _ hJ => LO.ld O96 (.r rfl) (fun _ hw => cells_at (hJ _ hw) 8 rfl ⟨_, rfl⟩)) rfl<|LX.s<|LX.s<|LX.l (fun _ hJ => LO.nc (.r rfl)) rfl<|LX.l (fun _ hJ => LO.fa (r := 11) F92_3 (.r rfl) rfl) rfl<|LX.s<|LX.nil) (HX.s<|HX.s<|HX.s<|HX.s<|HX.s<|HX.s<|HX.s<|HX.s<|HX.s<|HX.h rfl<|HO.bs (ps := [(_,_)]) (vs := [(_,_)]) (Z := [_]) (C := [_]) S89 Z96 N96 ⟨(.r rfl), trivial⟩ rfl rfl rfl rfl ⟨_, [_], [_], rfl, rfl, rfl, rfl, rfl⟩ fun b15 => ⟨selJ (L1 := [_,_,_,_,_,_,_,_,_]) [1,2,3,4,5,6,7,8,9] rfl rfl rfl, HX.h rfl<|HO.appT ((CsM.mk b11 ((o.cs.length : Int) + 1) x.rg x.t 1099511627776 (max 0 x.lv))) 7 0 (fun R => [_,_,_,_,_,_,_, R,_,_]) S89 S89 I96 (.r rfl) (.r rfl) rfl rfl rfl rfl rfl rfl rfl (fun _ => rfl) rfl (by omega) fun p10 c10 => ⟨selJ (L1 := [_,_,_,_,_,_,_,_]) [1,2,3,4,5,6,8,9] rfl rfl rfl, HX.s<|HX.s<|HX.h0<|HO.st 6 (vs := [_]) (C' := [_,_,_,_,_,_,_,_,_,_,_,_,_]) (L' := [_,_,_,_,_,_,_,_,_,_]) N89 rfl rfl rfl rfl rfl rfl rfl rfl<|⟨selJ (L1 := [_,_,_,_,_,_,_]) [1,2,3,4,5,8,9] rfl rfl rfl, HX.nil ?_⟩⟩⟩)
  refine VE.seqN<|VC.seq<|VC.q (VO.f (r := 2) F84_2 rfl rfl rfl<|VO.c 2 O3 rfl rfl ⟨_, rfl⟩ rfl<|VO.l (LO.eq (.r rfl) (.r rfl)) rfl<|VO.n<|VC.cond rfl (fun h39 => ?_) (fun h39 => ?_))
  · (exfalso; omega)
  ·
   refine VC.skip (VE.seqN<|VC.seq<|VC.drawH [[0,1,2,3,4,5,6,7,8,9], [0,2,3,4,5,6,7,8,9]] [some 0, some 0, some 0, some 0, some 0, some 0, some 0, some 0, some 0, some 0, some 0, some 0, some 0, some 0, some 0, some 0, none] mixed (by kernel_rfl) rfl (LX.m rfl rfl<|LX.l (fun _ hJ => LO.nc (.r rfl)) rfl<|LX.l (fun _ hJ => LO.fa (r := 5) F98_4 (.r rfl) rfl) rfl<|LX.l (fun _ hJ => LO.ld O96 (.r rfl) (fun _ hw => cells_at (hJ _ hw) 9 rfl ⟨_, rfl⟩)) rfl<|LX.m rfl rfl<|LX.l (fun _ hJ => LO.nc (.r rfl)) rfl<|LX.l (fun _ hJ => LO.fa (r := 5) F98_4 (.r rfl) rfl) rfl<|LX.l (fun _ hJ => LO.ld O96 (.r rfl) (fun _ hw => cells_at (hJ _ hw) 9 rfl ⟨_, rfl⟩)) rfl<|LX.l (fun _ hJ => LO.nc (.r rfl)) rfl<|LX.l (fun _ hJ => LO.fa (r := 4) F120_4 (.r rfl) rfl) rfl<|LX.l (fun _ hJ => LO.ld O3 (.r rfl) (fun _ hw => cells_at (hJ _ hw) 1 rfl ⟨_, rfl⟩)) rfl<|LX.l (fun _ hJ => LO.fa (r := 3) F84_3 (.r rfl) rfl) rfl<|LX.l (fun _ hJ => LO.ld O3 (.r rfl) (fun _ hw => cells_at (hJ _ hw) 2 rfl ⟨_, rfl⟩)) rfl<|LX.l (fun _ hJ => LO.max (.r rfl) (.r rfl)) rfl<|LX.l (fun _ hJ => LO.nc (.r rfl)) rfl<|LX.l (fun _ hJ => LO.fa (r := 4) F120_4 (.r rfl) rfl) rfl<|LX.s<|LX.nil) (HX.s<|HX.s<|HX.s<|HX.s<|HX.s<|HX.s<|HX.s<|HX.s<|HX.s<|HX.s<|HX.s<|HX.s<|HX.s<|HX.s<|HX.s<|HX.s<|HX.h0<|HO.st 1 (vs := [_]) (C' := [_,_,_,_,_]) (L' := [_,_,_,_,_,_,_,_,_,_]) N3 rfl rfl rfl rfl rfl rfl rfl rfl<|⟨selJ (L1 := [_,_,_,_,_,_,_,_,_]) [0,2,3,4,5,6,7,8,9] rfl rfl rfl, HX.nil ?_⟩))
   refine VE.seqN<|VC.q (VO.m rfl rfl<|VO.l (LO.nc (.r rfl)) rfl<|VO.f (r := 5) F98_4 rfl rfl rfl<|VO.c 9 O96 rfl rfl ⟨_, rfl⟩ rfl<|VO.l (LO.nc (.r rfl)) rfl<|VO.f (r := 0) F120_0 rfl rfl rfl<|VO.c 1 O3 rfl rfl ⟨_, rfl⟩ rfl<|VO.f (r := 4) F84_4 rfl rfl rfl<|VO.h0<|HO.st 2 (vs := [_]) (C' := [_,_,_,_,_,_,_]) (L' := [_,_,_,_,_,_,_,_,_,_]) N3 rfl rfl rfl rfl rfl rfl rfl rfl<|VO.n<|VC.reg (VO.c 4 O57 rfl rfl ⟨_, rfl⟩ rfl<|VO.l (LO.lda (vs := [_,_,_,_,_,_,_]) A84 (.r rfl) (cells_blk 2 rfl ⟨_, rfl⟩) rfl) rfl<|VO.h rfl<|HO.bs (ps := [(_,_)]) (vs := [(_,_)]) (Z := [_,_,_,_,_,_,_]) (C := [_,_,_,_,_,_,_]) S57 Z84 N84 ⟨(.r rfl), trivial⟩ rfl rfl rfl rfl ⟨_, [_,_,_,_,_,_,_], [_,_,_,_,_,_,_], rfl, rfl, rfl, rfl, rfl⟩ fun b20 => VO.h rfl<|HO.appT ((Ev.mk x.t x.rg x.kd x.lv ((o.cs.length : Int) + 1) x.ld x.px)) 6 0 (fun R => [_,_,_,_,_,_, R,_,_,_,_]) S57 S57 I84 (.r rfl) (.r rfl) rfl rfl rfl rfl rfl rfl rfl (fun _ => rfl) rfl (by omega) fun p3 c3 => VO.h0<|HO.st 5 (vs := [_]) (C' := [_]) (L' := [_,_,_,_,_,_,_,_,_,_,_]) N57 rfl rfl rfl rfl rfl rfl rfl rfl<|VO.nil<|VE.resN (vs := []) rfl trivial (fun w hw => ?_)))
   exact ⟨(b11, (p10, c10), (p3, c3)), trivial, rfl, (St.bagCs (c := CsM.mk b11 ((o.cs.length : Int) + 1) x.rg x.t 1099511627776 (max 0 x.lv)) (selK (L1 := [_,_] ++ [_,_,_,_,_,_]) [2,9,4,5,6,7,8,10] rfl rfl _ hw)).sel [1,2,3,4,5,0,6] rfl⟩
 · (exfalso; exact h8 hk)
theorem hand_o (o : OfM) (r : RcM) (x : Ev) (es : List Ev) (pe : Option Addr) (ce bo bu : Nat) (w : World) (hcs : o.cs.length < 1000000) (hes : es.length < 1000000) (c : CsM) (Rs : List Res) (hk : ¬ x.kd = 1) (hh : Has w [blk bo (.cells #[ptrN o.b] 32), blk bu (.cells #[.slice pe es.length ce] 57), own 84 7 pe ce (es.map evC), o.blk, o.csR, c.blk, bagD Rs, RcM.blk { r with op := some c.b }]) :
 Calls Tryz.prog 38 #[.agg (evC x).toArray, ptrN r.b, ptrN bo, ptrN bu] w fun e w' => ∃ y : Option Addr × Nat, True ∧ e = .returned (.tuple #[]) ∧ St ⟨w, fpL [blk bo (.cells #[ptrN o.b] 32), blk bu (.cells #[.slice pe es.length ce] 57), own 84 7 pe ce (es.map evC), o.blk, o.csR, c.blk, bagD Rs, RcM.blk { r with op := some c.b }]⟩ [blk bo (.cells #[ptrN o.b] 32), blk bu (.cells #[.slice y.1 (es ++ [{ x with nm := c.nm }]).length y.2] 57), own 84 7 y.1 y.2 ((es ++ [{ x with nm := c.nm }]).map evC), o.blk, o.csR, CsM.blk { c with en := if x.kd = 2 then x.t else c.en, pk := max c.pk x.lv }, bagD Rs, RcM.blk { r with op := some c.b }] w' := by
 refine enterO (vs := [_,_,_,_]) (env := [(0,_), (1,_), (2,_), (3,_)]) hh.enter Tryz.func38 rfl rfl rfl rfl ?_
 refine VC.q (VO.h rfl<|HO.box (C := #[_,_,_,_,_,_,_]) rfl rfl fun b9 => VO.n<|VC.seq<|VC.q (VO.f (r := 2) F84_2 rfl rfl rfl<|VO.c 0 O3 rfl rfl ⟨_, rfl⟩ rfl<|VO.l (LO.eq (.r rfl) (.r rfl)) rfl<|VO.n<|VC.cond rfl (fun h8 => ?_) (fun h8 => ?_)))
 · (exfalso; exact hk h8)
 ·
  refine VC.skip (VE.seqN<|VC.seq<|VC.q (VO.f (r := 2) F84_2 rfl rfl rfl<|VO.c 0 O3 rfl rfl ⟨_, rfl⟩ rfl<|VO.l (LO.eq (.r rfl) (.r rfl)) rfl<|VO.n<|VC.cond rfl (fun h39 => ?_) (fun h39 => ?_)))
  ·
   refine VC.drawH [[0,1,2,3,4,5,6,7,8], [0,1,2,3,4,5,7,8]] [some 0, some 0, some 0, some 0, some 0, some 0, some 0, some 0, none] mixed (by kernel_rfl) rfl (LX.m rfl rfl<|LX.l (fun _ hJ => LO.nc (.r rfl)) rfl<|LX.l (fun _ hJ => LO.fa (r := 5) F98_4 (.r rfl) rfl) rfl<|LX.l (fun _ hJ => LO.ld O96 (.r rfl) (fun _ hw => cells_at (hJ _ hw) 8 rfl ⟨_, rfl⟩)) rfl<|LX.l (fun _ hJ => LO.fa (r := 0) F84_0 (.r rfl) rfl) rfl<|LX.l (fun _ hJ => LO.ld O3 (.r rfl) (fun _ hw => cells_at (hJ _ hw) 0 rfl ⟨_, rfl⟩)) rfl<|LX.l (fun _ hJ => LO.nc (.r rfl)) rfl<|LX.l (fun _ hJ => LO.fa (r := 3) F120_3 (.r rfl) rfl) rfl<|LX.s<|LX.nil) (HX.s<|HX.s<|HX.s<|HX.s<|HX.s<|HX.s<|HX.s<|HX.s<|HX.h0<|HO.st 6 (vs := [_]) (C' := [_,_,_,_,_]) (L' := [_,_,_,_,_,_,_,_,_]) N3 rfl rfl rfl rfl rfl rfl rfl rfl<|⟨selJ (L1 := [_,_,_,_,_,_,_,_]) [0,1,2,3,4,5,7,8] rfl rfl rfl, HX.nil ?_⟩)
   refine VE.seqN<|VC.seq<|VC.drawH [[0,1,2,3,4,5,6,7,8], [0,1,2,3,4,5,7,8]] [some 0, some 0, some 0, some 0, some 0, some 0, some 0, some 0, some 0, some 0, some 0, some 0, some 0, some 0, some 0, some 0, none] mixed (by kernel_rfl) rfl (LX.m rfl rfl<|LX.l (fun _ hJ => LO.nc (.r rfl)) rfl<|LX.l (fun _ hJ => LO.fa (r := 5) F98_4 (.r rfl) rfl) rfl<|LX.l (fun _ hJ => LO.ld O96 (.r rfl) (fun _ hw => cells_at (hJ _ hw) 8 rfl ⟨_, rfl⟩)) rfl<|LX.m rfl rfl<|LX.l (fun _ hJ => LO.nc (.r rfl)) rfl<|LX.l (fun _ hJ => LO.fa (r := 5) F98_4 (.r rfl) rfl) rfl<|LX.l (fun _ hJ => LO.ld O96 (.r rfl) (fun _ hw => cells_at (hJ _ hw) 8 rfl ⟨_, rfl⟩)) rfl<|LX.l (fun _ hJ => LO.nc (.r rfl)) rfl<|LX.l (fun _ hJ => LO.fa (r := 4) F120_4 (.r rfl) rfl) rfl<|LX.l (fun _ hJ => LO.ld O3 (.r rfl) (fun _ hw => cells_at (hJ _ hw) 6 rfl ⟨_, rfl⟩)) rfl<|LX.l (fun _ hJ => LO.fa (r := 3) F84_3 (.r rfl) rfl) rfl<|LX.l (fun _ hJ => LO.ld O3 (.r rfl) (fun _ hw => cells_at (hJ _ hw) 0 rfl ⟨_, rfl⟩)) rfl<|LX.l (fun _ hJ => LO.max (.r rfl) (.r rfl)) rfl<|LX.l (fun _ hJ => LO.nc (.r rfl)) rfl<|LX.l (fun _ hJ => LO.fa (r := 4) F120_4 (.r rfl) rfl) rfl<|LX.s<|LX.nil) (HX.s<|HX.s<|HX.s<|HX.s<|HX.s<|HX.s<|HX.s<|HX.s<|HX.s<|HX.s<|HX.s<|HX.s<|HX.s<|HX.s<|HX.s<|HX.s<|HX.h0<|HO.st 6 (vs := [_]) (C' := [_,_,_,_,_]) (L' := [_,_,_,_,_,_,_,_,_]) N3 rfl rfl rfl rfl rfl rfl rfl rfl<|⟨selJ (L1 := [_,_,_,_,_,_,_,_]) [0,1,2,3,4,5,7,8] rfl rfl rfl, HX.nil ?_⟩)
   refine VE.seqN<|VC.q (VO.m rfl rfl<|VO.l (LO.nc (.r rfl)) rfl<|VO.f (r := 5) F98_4 rfl rfl rfl<|VO.c 8 O96 rfl rfl ⟨_, rfl⟩ rfl<|VO.l (LO.nc (.r rfl)) rfl<|VO.f (r := 0) F120_0 rfl rfl rfl<|VO.c 6 O3 rfl rfl ⟨_, rfl⟩ rfl<|VO.f (r := 4) F84_4 rfl rfl rfl<|VO.h0<|HO.st 0 (vs := [_]) (C' := [_,_,_,_,_,_,_]) (L' := [_,_,_,_,_,_,_,_,_]) N3 rfl rfl rfl rfl rfl rfl rfl rfl<|VO.n<|VC.reg (VO.c 2 O57 rfl rfl ⟨_, rfl⟩ rfl<|VO.l (LO.lda (vs := [_,_,_,_,_,_,_]) A84 (.r rfl) (cells_blk 0 rfl ⟨_, rfl⟩) rfl) rfl<|VO.h rfl<|HO.bs (ps := [(_,_)]) (vs := [(_,_)]) (Z := [_,_,_,_,_,_,_]) (C := [_,_,_,_,_,_,_]) S57 Z84 N84 ⟨(.r rfl), trivial⟩ rfl rfl rfl rfl ⟨_, [_,_,_,_,_,_,_], [_,_,_,_,_,_,_], rfl, rfl, rfl, rfl, rfl⟩ fun b15 => VO.h rfl<|HO.appT ((Ev.mk x.t x.rg x.kd x.lv c.nm x.ld x.px)) 4 0 (fun R => [_,_,_,_, R,_,_,_,_,_]) S57 S57 I84 (.r rfl) (.r rfl) rfl rfl rfl rfl rfl rfl rfl (fun _ => rfl) rfl (by omega) fun p3 c3 => VO.h0<|HO.st 3 (vs := [_]) (C' := [_]) (L' := [_,_,_,_,_,_,_,_,_,_]) N57 rfl rfl rfl rfl rfl rfl rfl rfl<|VO.nil<|VE.resN (vs := []) rfl trivial (fun w hw => ?_)))
   exact ⟨(p3, c3), trivial, rfl, by first | (rw [if_pos h39]; exact selK (L1 := [_,_,_,_,_,_,_,_]) [2,3,4,5,6,7,8,9] rfl rfl _ hw) | (rw [if_neg h39]; exact selK (L1 := [_,_,_,_,_,_,_,_]) [2,3,4,5,6,7,8,9] rfl rfl _ hw)⟩
  ·
   refine VC.skip (VE.seqN<|VC.seq<|VC.drawH [[0,1,2,3,4,5,6,7,8], [0,1,2,3,4,5,7,8]] [some 0, some 0, some 0, some 0, some 0, some 0, some 0, some 0, some 0, some 0, some 0, some 0, some 0, some 0, some 0, some 0, none] mixed (by kernel_rfl) rfl (LX.m rfl rfl<|LX.l (fun _ hJ => LO.nc (.r rfl)) rfl<|LX.l (fun _ hJ => LO.fa (r := 5) F98_4 (.r rfl) rfl) rfl<|LX.l (fun _ hJ => LO.ld O96 (.r rfl) (fun _ hw => cells_at (hJ _ hw) 8 rfl ⟨_, rfl⟩)) rfl<|LX.m rfl rfl<|LX.l (fun _ hJ => LO.nc (.r rfl)) rfl<|LX.l (fun _ hJ => LO.fa (r := 5) F98_4 (.r rfl) rfl) rfl<|LX.l (fun _ hJ => LO.ld O96 (.r rfl) (fun _ hw => cells_at (hJ _ hw) 8 rfl ⟨_, rfl⟩)) rfl<|LX.l (fun _ hJ => LO.nc (.r rfl)) rfl<|LX.l (fun _ hJ => LO.fa (r := 4) F120_4 (.r rfl) rfl) rfl<|LX.l (fun _ hJ => LO.ld O3 (.r rfl) (fun _ hw => cells_at (hJ _ hw) 6 rfl ⟨_, rfl⟩)) rfl<|LX.l (fun _ hJ => LO.fa (r := 3) F84_3 (.r rfl) rfl) rfl<|LX.l (fun _ hJ => LO.ld O3 (.r rfl) (fun _ hw => cells_at (hJ _ hw) 0 rfl ⟨_, rfl⟩)) rfl<|LX.l (fun _ hJ => LO.max (.r rfl) (.r rfl)) rfl<|LX.l (fun _ hJ => LO.nc (.r rfl)) rfl<|LX.l (fun _ hJ => LO.fa (r := 4) F120_4 (.r rfl) rfl) rfl<|LX.s<|LX.nil) (HX.s<|HX.s<|HX.s<|HX.s<|HX.s<|HX.s<|HX.s<|HX.s<|HX.s<|HX.s<|HX.s<|HX.s<|HX.s<|HX.s<|HX.s<|HX.s<|HX.h0<|HO.st 6 (vs := [_]) (C' := [_,_,_,_,_]) (L' := [_,_,_,_,_,_,_,_,_]) N3 rfl rfl rfl rfl rfl rfl rfl rfl<|⟨selJ (L1 := [_,_,_,_,_,_,_,_]) [0,1,2,3,4,5,7,8] rfl rfl rfl, HX.nil ?_⟩))
   refine VE.seqN<|VC.q (VO.m rfl rfl<|VO.l (LO.nc (.r rfl)) rfl<|VO.f (r := 5) F98_4 rfl rfl rfl<|VO.c 8 O96 rfl rfl ⟨_, rfl⟩ rfl<|VO.l (LO.nc (.r rfl)) rfl<|VO.f (r := 0) F120_0 rfl rfl rfl<|VO.c 6 O3 rfl rfl ⟨_, rfl⟩ rfl<|VO.f (r := 4) F84_4 rfl rfl rfl<|VO.h0<|HO.st 0 (vs := [_]) (C' := [_,_,_,_,_,_,_]) (L' := [_,_,_,_,_,_,_,_,_]) N3 rfl rfl rfl rfl rfl rfl rfl rfl<|VO.n<|VC.reg (VO.c 2 O57 rfl rfl ⟨_, rfl⟩ rfl<|VO.l (LO.lda (vs := [_,_,_,_,_,_,_]) A84 (.r rfl) (cells_blk 0 rfl ⟨_, rfl⟩) rfl) rfl<|VO.h rfl<|HO.bs (ps := [(_,_)]) (vs := [(_,_)]) (Z := [_,_,_,_,_,_,_]) (C := [_,_,_,_,_,_,_]) S57 Z84 N84 ⟨(.r rfl), trivial⟩ rfl rfl rfl rfl ⟨_, [_,_,_,_,_,_,_], [_,_,_,_,_,_,_], rfl, rfl, rfl, rfl, rfl⟩ fun b20 => VO.h rfl<|HO.appT ((Ev.mk x.t x.rg x.kd x.lv c.nm x.ld x.px)) 4 0 (fun R => [_,_,_,_, R,_,_,_,_,_]) S57 S57 I84 (.r rfl) (.r rfl) rfl rfl rfl rfl rfl rfl rfl (fun _ => rfl) rfl (by omega) fun p3 c3 => VO.h0<|HO.st 3 (vs := [_]) (C' := [_]) (L' := [_,_,_,_,_,_,_,_,_,_]) N57 rfl rfl rfl rfl rfl rfl rfl rfl<|VO.nil<|VE.resN (vs := []) rfl trivial (fun w hw => ?_)))
   exact ⟨(p3, c3), trivial, rfl, by first | (rw [if_pos h39]; exact selK (L1 := [_,_,_,_,_,_,_,_]) [2,3,4,5,6,7,8,9] rfl rfl _ hw) | (rw [if_neg h39]; exact selK (L1 := [_,_,_,_,_,_,_,_]) [2,3,4,5,6,7,8,9] rfl rfl _ hw)⟩
theorem C54 : IsFn Tryz.prog 54 := ⟨_, Tryz.func54, by decide, rfl⟩
theorem F98_2 : FieldAt Tryz.prog 98 2 3 := ⟨_,_, Tryz.underlying98, rfl, rfl, 0, by kernel_rfl⟩
theorem O95 : IsOne Tryz.prog 95 := ⟨⟨_, Tryz.underlying95, rfl⟩, by kernel_rfl⟩
theorem C64 : IsFn Tryz.prog 64 := ⟨_, Tryz.func64, by decide, rfl⟩
theorem B162 : Builds Tryz.prog 162 [(0,1), (1,1)] [.int .i64 0, .int .i64 0] := Builds.mk fun _ => by kernel_rfl
theorem I162 : EInfo Tryz.prog 162 2 16 (.agg #[.int .i64 0, .int .i64 0]) := ⟨by kernel_rfl, by kernel_rfl, by unfold ZeroOf; kernel_rfl, rfl, by decide⟩
theorem N95 : (Tryz.prog.info? 95).map (·.size) = some 1 := by kernel_rfl
theorem F162_1 : FieldAt Tryz.prog 162 1 1 := ⟨_,_, Tryz.underlying162, rfl, rfl, 0, by kernel_rfl⟩
theorem F98_1 : FieldAt Tryz.prog 98 1 2 := ⟨_,_, Tryz.underlying98, rfl, rfl, 0, by kernel_rfl⟩
theorem B84 : Builds Tryz.prog 84 [(0,1), (1,1), (2,1), (3,1), (4,1), (5,1), (6,1)] [.int .i64 0, .int .i64 0, .int .i64 0, .int .i64 0, .int .i64 0, .int .i64 0, .int .i64 0] := Builds.mk fun _ => by kernel_rfl
theorem F124_1 : FieldAt Tryz.prog 124 1 1 := ⟨_,_, Tryz.underlying124, rfl, rfl, 0, by kernel_rfl⟩
theorem F124_2 : FieldAt Tryz.prog 124 2 2 := ⟨_,_, Tryz.underlying124, rfl, rfl, 0, by kernel_rfl⟩
theorem F84_5 : FieldAt Tryz.prog 84 5 5 := ⟨_,_, Tryz.underlying84, rfl, rfl, 0, by kernel_rfl⟩
theorem F84_6 : FieldAt Tryz.prog 84 6 6 := ⟨_,_, Tryz.underlying84, rfl, rfl, 0, by kernel_rfl⟩
theorem C38 : IsFn Tryz.prog 38 := ⟨_, Tryz.func38, by decide, rfl⟩
theorem St.moreO {w w' : World} {O O' : Nat → Prop} {L : List Res} (h : St ⟨w, O⟩ L w') (hs : ∀ k, O k → O' k) : St ⟨w, O'⟩ L w' :=
  ⟨h.os, h.tape, h.output, h.size, fun k hk hO => h.fr k hk (fun q => hO (hs k q)), h.inv, fun i r hr k hk => ⟨(h.rng i r hr k hk).1.imp (hs k) id, (h.rng i r hr k hk).2⟩, h.dis⟩
theorem split_at {α : Type} {l : List α} {k : Nat} {x : α} (h : l[k]? = some x) : l = l.take k ++ x :: l.drop (k + 1) := by
  obtain ⟨hk, rfl⟩ := List.getElem?_eq_some_iff.1 h
  rw [← List.drop_eq_getElem_cons hk, List.take_append_drop]
theorem set_split {α : Type} {l : List α} {k : Nat} {x y : α} (h : l[k]? = some x) : l.set k y = l.take k ++ y :: l.drop (k + 1) := by
  obtain ⟨hk, rfl⟩ := List.getElem?_eq_some_iff.1 h
  rw [List.set_eq_take_append_cons_drop, if_pos hk]
theorem Has.ofSt {w0 w : World} {O : Nat → Prop} {L : List Res} (h : St ⟨w0, O⟩ L w) : Has w L := h.has (List.Sublist.refl _)
theorem hand_c (o : OfM) (r : RcM) (x : Ev) (es : List Ev) (pe : Option Addr) (ce bo bu : Nat) (w : World) (hcs : o.cs.length < 1000000) (hes : es.length < 1000000) (hop : x.kd ≠ 1 → ∃ (k : Nat) (c : CsM), o.cs[k]? = some c ∧ r.op = some c.b)
    (hh : Has w [blk bo (.cells #[ptrN o.b] 32), blk bu (.cells #[.slice pe es.length ce] 57), own 84 7 pe ce (es.map evC), OfM.blk o, OfM.csR o, OfM.csB o, RcM.blk r]) : Calls Tryz.prog 38 #[.agg (evC x).toArray, ptrN r.b, ptrN bo, ptrN bu] w fun e w' => ∃ y : (List CsM × Option Nat × Ev) × (Option Addr × Nat) × (Option Addr × Nat), HandP o.cs r.op x y.1.1 y.1.2.1 y.1.2.2 ∧ e = .returned (.tuple #[]) ∧
      St ⟨w, fpL [blk bo (.cells #[ptrN o.b] 32), blk bu (.cells #[.slice pe es.length ce] 57), own 84 7 pe ce (es.map evC), OfM.blk o, OfM.csR o, OfM.csB o, RcM.blk r]⟩ [blk bo (.cells #[ptrN o.b] 32), blk bu (.cells #[.slice y.2.2.1 (es ++ [y.1.2.2]).length y.2.2.2] 57), own 84 7 y.2.2.1 y.2.2.2 ((es ++ [y.1.2.2]).map evC), OfM.blk { o with cs := y.1.1, pk := y.2.1.1, ck := y.2.1.2 }, own 96 1 y.2.1.1 y.2.1.2 (y.1.1.map csP), bagD (y.1.1.map CsM.blk), RcM.blk { r with op := y.1.2.1 }] w' := by
  by_cases hk : x.kd = 1
  · refine (hand_b o r x es pe ce bo bu w hcs hes hk hh).mono ?_
    rintro e w' ⟨y,_, he, hs⟩
    exact ⟨((o.cs ++ [CsM.mk y.1 (o.cs.length + 1) x.rg x.t 1099511627776 (max 0 x.lv)], some y.1, { x with nm := o.cs.length + 1 }), y.2.1, y.2.2), .inl ⟨hk, y.1, rfl, rfl, rfl⟩, he, hs⟩
  · obtain ⟨k, c, hc, hr⟩ := hop hk
    have hr2 : r = { r with op := some c.b } := by cases r; simp only [RcM.mk.injEq, true_and] at hr ⊢; exact hr
    have hcm : o.cs.map CsM.blk = (o.cs.take k).map CsM.blk ++ c.blk :: (o.cs.drop (k + 1)).map CsM.blk := by
      conv => lhs; rw [split_at hc]
      rw [List.map_append, List.map_cons]
    have h1 : St ⟨w, fpL [blk bo (.cells #[ptrN o.b] 32), blk bu (.cells #[.slice pe es.length ce] 57), own 84 7 pe ce (es.map evC), OfM.blk o, OfM.csR o, OfM.csB o, RcM.blk r]⟩ [bagD ((o.cs.take k).map CsM.blk ++ c.blk :: (o.cs.drop (k + 1)).map CsM.blk), blk bo (.cells #[ptrN o.b] 32), blk bu (.cells #[.slice pe es.length ce] 57), own 84 7 pe ce (es.map evC), o.blk, o.csR, r.blk] w := by
      rw [← hcm]; exact hh.enter.sel [5,0,1,2,3,4,6] rfl
    have h2 := h1.focus.sel [2,3,4,5,6,0,1,7] rfl
    rw [hr2] at h2
    refine (hand_o o r x es pe ce bo bu w hcs hes c _ hk (Has.ofSt h2)).mono ?_
    rintro e w' ⟨y,_, he, hs⟩
    refine ⟨((o.cs.set k { c with en := if x.kd = 2 then x.t else c.en, pk := max c.pk x.lv }, r.op, { x with nm := c.nm }), (o.pk, o.ck), y), .inr ⟨hk, k, c, hc, hr, rfl, rfl, rfl⟩, he, ?_⟩
    have hsub : ∀ b, fpL [blk bo (.cells #[ptrN o.b] 32), blk bu (.cells #[.slice pe es.length ce] 57), own 84 7 pe ce (es.map evC), o.blk, o.csR, c.blk, bagD ((o.cs.take k).map CsM.blk ++ (o.cs.drop (k + 1)).map CsM.blk), RcM.blk { r with op := some c.b }] b → fpL [blk bo (.cells #[ptrN o.b] 32), blk bu (.cells #[.slice pe es.length ce] 57), own 84 7 pe ce (es.map evC), OfM.blk o, OfM.csR o, OfM.csB o, RcM.blk r] b := by
      intro b hb
      rw [fpL_mem] at hb ⊢
      obtain ⟨q, hq, hqb⟩ := hb
      simp only [List.mem_cons, List.not_mem_nil, or_false] at hq
      have hbag : ∀ s, s ∈ o.cs.map CsM.blk → s.fp b → ∃ t, t ∈ [blk bo (.cells #[ptrN o.b] 32), blk bu (.cells #[.slice pe es.length ce] 57), own 84 7 pe ce (es.map evC), OfM.blk o, OfM.csR o, OfM.csB o, RcM.blk r] ∧ t.fp b := fun s hs hsb => ⟨o.csB, by simp, s, hs, hsb⟩
      rcases hq with rfl | rfl | rfl | rfl | rfl | rfl | rfl | rfl
      · exact ⟨_, by simp, hqb⟩
      · exact ⟨_, by simp, hqb⟩
      · exact ⟨_, by simp, hqb⟩
      · exact ⟨o.blk, by simp, hqb⟩
      · exact ⟨o.csR, by simp, hqb⟩
      · exact hbag c.blk (by rw [hcm]; simp) hqb
      · obtain ⟨s, hs, hsb⟩ := hqb
        exact hbag s (by rw [hcm]; simp only [List.mem_append, List.mem_cons] at hs ⊢; rcases hs with q | q; exact .inl q; exact .inr (.inr q)) hsb
      · exact ⟨r.blk, by simp, hqb⟩
    have h3 := (St.moreO hs hsub).sel [5,6,0,1,2,3,4,7] rfl
    have h4 := h3.unfocus.sel [1,2,3,4,5,0,6] rfl
    have e1 : (o.cs.set k { c with en := if x.kd = 2 then x.t else c.en, pk := max c.pk x.lv }).map CsM.blk = (o.cs.take k).map CsM.blk ++ (CsM.blk { c with en := if x.kd = 2 then x.t else c.en, pk := max c.pk x.lv }) :: (o.cs.drop (k + 1)).map CsM.blk := by
      rw [set_split hc, List.map_append, List.map_cons]
    have e2 : (o.cs.set k { c with en := if x.kd = 2 then x.t else c.en, pk := max c.pk x.lv }).map csP = o.cs.map csP := by
      rw [List.map_set]
      refine set_self ?_
      rw [List.getElem?_map, hc]; rfl
    have e3 : OfM.blk { o with cs := o.cs.set k { c with en := if x.kd = 2 then x.t else c.en, pk := max c.pk x.lv }, pk := o.pk, ck := o.ck } = o.blk := by simp only [OfM.blk, OfM.C, List.length_set]
    have e4 : RcM.blk { r with op := r.op } = r.blk := rfl
    dsimp only
    rw [e1, e2, e3]
    rw [← hr2] at h4
    exact h4
theorem DeleteFunc_d {β : Bs} {L : List Res} {w : World} (hw : St β L w) (i j k : Nat) {l : List Rch} {p : Option Addr} {c : Nat} {T H : Int} {b7 b8 : Nat} (hi : L[i]? = some (own 162 2 p c (l.map rchC))) (hj : L[j]? = some (blk b7 (.cells #[.int .i64 T] 3))) (hk : L[k]? = some (blk b8 (.cells #[.int .i64 H] 3)))
    (hij : i ≠ j) (hik : i ≠ k) (hjk : j ≠ k) (hn : l.length < 1000000000000) (hT1 : 0 ≤ T) (hT2 : T ≤ 1000000000000) (hH1 : 0 ≤ H) (hH2 : H ≤ 1000000) :
    Calls Tryz.prog 64 #[.slice p l.length c, .func (.func 65) #[] #[.pointer (some ⟨b7,0, none⟩), .pointer (some ⟨b8,0, none⟩)]] w fun e w' => ∃ x : Unit, True ∧ e = .returned (.slice p (keepR T H l).length c) ∧ St ⟨w, (own 162 2 p c (l.map rchC)).fp⟩ [own 162 2 p c ((keepR T H l).map rchC)] w' := by
  have hh : Has w [own 162 2 p c (l.map rchC), blk b7 (.cells #[.int .i64 T] 3), blk b8 (.cells #[.int .i64 H] 3)] := by
    refine has_mk ?_ ?_ ?_
    · intro r hr
      simp only [List.mem_cons, List.not_mem_nil, or_false] at hr
      rcases hr with rfl | rfl | rfl
      · exact hw.inv i _ hi
      · exact hw.inv j _ hj
      · exact hw.inv k _ hk
    · intro r hr
      simp only [List.mem_cons, List.not_mem_nil, or_false] at hr
      rcases hr with rfl | rfl | rfl
      · exact fun q hq => (hw.rng i _ hi q hq).2
      · exact fun q hq => (hw.rng j _ hj q hq).2
      · exact fun q hq => (hw.rng k _ hk q hq).2
    · refine List.pairwise_cons.2 ⟨?_, List.pairwise_cons.2 ⟨?_, List.pairwise_cons.2 ⟨by simp, List.Pairwise.nil⟩⟩⟩
      · intro r hr
        simp only [List.mem_cons, List.not_mem_nil, or_false] at hr
        rcases hr with rfl | rfl
        · exact hw.dis i j _ _ hij hi hj
        · exact hw.dis i k _ _ hik hi hk
      · intro r hr
        simp only [List.mem_cons, List.not_mem_nil, or_false] at hr
        rcases hr with rfl
        exact hw.dis j k _ _ hjk hj hk
  refine (DeleteFunc_c l p c T H b7 b8 w hn hh hT1 hT2 hH1 hH2).mono ?_
  rintro e w' ⟨x,_, he, hs⟩
  refine ⟨x, trivial, he, ?_⟩
  have h7 := hs.inv 1 _ rfl
  have h8 := hs.inv 2 _ rfl
  have g7 := hw.inv j _ hj
  have g8 := hw.inv k _ hk
  refine ⟨hs.os, hs.tape, hs.output, hs.size, fun q hq hO => ?_, ?_, ?_, ?_⟩
  · by_cases e7 : q = b7
    · subst e7; exact h7.trans g7.symm
    · by_cases e8 : q = b8
      · subst e8; exact h8.trans g8.symm
      · refine hs.fr q hq (fun hf => ?_)
        obtain ⟨r, hr, hrq⟩ := fpL_mem.1 hf
        simp only [List.mem_cons, List.not_mem_nil, or_false] at hr
        rcases hr with rfl | rfl | rfl
        · exact hO hrq
        · exact e7 hrq
        · exact e8 hrq
  · intro q r hr
    exact hs.inv q r (by cases q with | zero => simpa using hr | succ q => simp at hr)
  · intro q r hr b hb
    cases q with
    | succ q => simp at hr
    | zero =>
      simp at hr; subst hr
      exact ⟨.inl hb, (hs.rng 0 _ rfl b hb).2⟩
  · intro q1 q2 r s hne h1 h2
    cases q1 with
    | succ q => simp at h1
    | zero => cases q2 with
      | succ q => simp at h2
      | zero => exact absurd rfl hne
def maxLv (l : List Rch) : Int := l.foldl (fun m x => max m x.lv) 0
theorem foldl_max_ge : ∀ (l : List Rch) (m : Int), m ≤ l.foldl (fun m x => max m x.lv) m
  | [], m => Int.le_refl _
  | x :: l, m => Int.le_trans (Int.le_max_left ..) (foldl_max_ge l _)
theorem maxLv_nn (l : List Rch) : 0 ≤ maxLv l := foldl_max_ge l 0
theorem maxLv_take {l : List Rch} {j : Nat} (hj : j < l.length) : max (maxLv (l.take j)) (l.getD j zRch).lv = maxLv (l.take (j + 1)) := by
  unfold maxLv
  rw [List.take_add_one, getD_some (l := l) (d := zRch) hj, List.foldl_append]; rfl
abbrev nowRc (T H : Int) (rc : List Rch) (lv : Int) : List Rch := keepR T H rc ++ [Rch.mk T lv]
def meetK (b n : Int) : Int := if b < n then (if b = 0 then 1 else 3) else if n = 0 then 2 else 4
def meetEv (i T b n : Int) (t : Thr) : Ev := ⟨T, i, meetK b n, n, 0, if b < n then t.ld else -1, if b < n then t.px else -1⟩
structure MeetY where
  r : RcM
  cs : List CsM
  pk : Option Addr
  ck : Nat
  es : List Ev
  pe : Option Addr
  ce : Nat
def MeetP (r : RcM) (T H : Int) (t : Thr) (cs : List CsM) (es : List Ev) (y : MeetY) : Prop :=
  y.r.x = r.x ∧ y.r.b = r.b ∧ y.r.i = r.i ∧ y.r.rc = nowRc T H r.rc t.lv ∧ y.r.lv = r.lv ++ [maxLv (nowRc T H r.rc t.lv)] ∧
  ((maxLv (nowRc T H r.rc t.lv) = lastI r.lv ∧ y.r.op = r.op ∧ y.cs = cs ∧ y.es = es) ∨
   (maxLv (nowRc T H r.rc t.lv) ≠ lastI r.lv ∧ ∃ x', HandP cs r.op (meetEv r.i T (lastI r.lv) (maxLv (nowRc T H r.rc t.lv)) t) y.cs y.r.op x' ∧ y.es = es ++ [x']))
theorem meet_c (o : OfM) (r : RcM) (t : Thr) (T H : Int) (es : List Ev) (pe : Option Addr) (ce bo bu : Nat) (w : World) (hcs : o.cs.length < 1000000) (hes : es.length < 1000000) (hrc : r.rc.length < 1000000) (hlv : r.lv.length < 1000000) (hT1 : 0 ≤ T) (hT2 : T ≤ 1000000000000) (hH1 : 0 ≤ H) (hH2 : H ≤ 1000000) (hop : lastI r.lv ≠ 0 → ∃ (k : Nat) (c : CsM), o.cs[k]? = some c ∧ r.op = some c.b) (hh : Has w [blk bo (.cells #[ptrN o.b] 32), blk bu (.cells #[.slice pe es.length ce] 57), own 84 7 pe ce (es.map evC), OfM.blk o, OfM.csR o, OfM.csB o, RcM.blk r, r.rcR, r.lvR]) :
 Calls Tryz.prog 39 #[ptrN r.b, thrV t, .int .i64 T, .int .i64 H, .func (.func 38) #[] #[ptrN bo, ptrN bu]] w fun e w' => ∃ y : MeetY, MeetP r T H t o.cs es y ∧ e = .returned (.tuple #[]) ∧ St ⟨w, fpL [blk bo (.cells #[ptrN o.b] 32), blk bu (.cells #[.slice pe es.length ce] 57), own 84 7 pe ce (es.map evC), OfM.blk o, OfM.csR o, OfM.csB o, RcM.blk r, r.rcR, r.lvR]⟩ [blk bo (.cells #[ptrN o.b] 32), blk bu (.cells #[.slice y.pe y.es.length y.ce] 57), own 84 7 y.pe y.ce (y.es.map evC), OfM.blk { o with cs := y.cs, pk := y.pk, ck := y.ck }, own 96 1 y.pk y.ck (y.cs.map csP), bagD (y.cs.map CsM.blk), y.r.blk, y.r.rcR, y.r.lvR] w' := by
 have hkl : (keepR T H r.rc).length ≤ r.rc.length := List.length_filter_le ..
 have hnl : (nowRc T H r.rc t.lv).length = (keepR T H r.rc).length + 1 := by simp
 have hnl2 : (keepR T H r.rc ++ [Rch.mk T t.lv]).length = (keepR T H r.rc).length + 1 := by simp
 refine enterO (vs := [_,_,_,_,_]) (env := [(0,_), (1,_), (2,_), (3,_), (4,_)]) hh.enter Tryz.func39 rfl rfl rfl rfl ?_
 refine VC.q (VO.h rfl<|HO.box (C := #[_,_,_]) rfl rfl fun b10 => VO.h rfl<|HO.box (C := #[_]) rfl rfl fun b11 => VO.h rfl<|HO.box (C := #[_]) rfl rfl fun b12 => VO.n<|VC.q (VO.m rfl rfl<|VO.l (LO.call (xs := [_]) (vs := [_]) C54 ⟨(.r rfl), trivial⟩ (fun w hw => level_c r w (by omega) (cells_at hw 9 rfl ⟨_, rfl⟩) (RO.of_own hw 11 rfl))) rfl<|VO.a rfl rfl<|VO.n<|VC.seq<|VC.drawB [⟨11,28, fun b => .slice (some ⟨b, 0, none⟩) 1 1,162, #[_,_]⟩] [[0,1,2,3,4,5,6,7,8,9,10,11], [0,1,2,3,4,5,6,7,8,9,10,11], [0,1,2,3,4,5,6,7,8,9,11], [0,1,2,3,4,5,6,7,8,9,11], [0,1,2,3,4,5,6,7,8,9,11], [0,1,2,3,4,5,6,7,8,11]] [some 4, some 3, some 3, some 3, some 3, none, none, some 2, some 2, some 2, some 2, none, none, some 4, some 4, none] mixed (by kernel_rfl) rfl (LX.m rfl rfl<|LX.m rfl rfl<|LX.l (fun _ hJ => LO.nc (.r rfl)) rfl<|LX.l (fun _ hJ => LO.fa (r := 3) F98_2 (.r rfl) rfl) rfl<|LX.l (fun _ hJ => LO.ld O95 (.r rfl) (fun _ hw => cells_at (hJ _ hw) 9 rfl ⟨_, rfl⟩)) rfl<|LX.s<|LX.s<|LX.l (fun _ hJ => LO.ld O3 (.r rfl) (fun _ hw => cells_at (hJ _ hw) 1 rfl ⟨_, rfl⟩)) rfl<|LX.l (fun _ hJ => LO.fa (r := 0) F124_0 (.r rfl) rfl) rfl<|LX.l (fun _ hJ => LO.ld O3 (.r rfl) (fun _ hw => cells_at (hJ _ hw) 2 rfl ⟨_, rfl⟩)) rfl<|LX.l (fun _ hJ => LO.bd (ps := [(_,_), (_,_)]) (vs := [(_,_), (_,_)]) (C := [_,_]) B162  ⟨(.r rfl), (.r rfl), trivial⟩ rfl ⟨_, [_], [_,_], rfl, rfl, rfl, rfl, ⟨_, [_], [_,_], rfl, rfl, rfl, rfl, rfl⟩⟩) rfl<|LX.s<|LX.s<|LX.l (fun _ hJ => LO.nc (.r rfl)) rfl<|LX.l (fun _ hJ => LO.fa (r := 3) F98_2 (.r rfl) rfl) rfl<|LX.s<|LX.nil) (⟨⟨rfl,_, rfl, FO.bs (ps := [(_,_)]) (vs := [(_,_)]) (Z := [_,_]) (C := [_,_]) S95 Z162 N162 ⟨(.r rfl), trivial⟩ rfl rfl rfl rfl ⟨_, [_,_], [_,_], rfl, rfl, rfl, rfl, rfl⟩⟩, trivial⟩) (HY.s<|HY.s<|HY.s<|HY.s<|HY.s<|HY.h rfl rfl fun X => HO.lo (LO.mf (cap := [_,_]) ⟨(.r rfl), (.r rfl), trivial⟩)<|⟨[_,_,_,_,_,_,_,_,_,_,_,_], rfl, selJ (L1 := [_,_,_,_,_,_,_,_,_,_,_,_]) [0,1,2,3,4,5,6,7,8,9,10,11] rfl rfl rfl, HY.h rfl rfl fun X => HO.callh (first := []) (cap := []) (xs := [_,_]) (vs := [_,_]) 10 (fun R => [_,_,_,_,_,_,_,_,_,_, R,_] ++ X) rfl (.r rfl) C64 ⟨(.r rfl), (.r rfl), trivial⟩ (fun _ => rfl) (fun w hw => DeleteFunc_d hw 10 1 0 rfl rfl rfl (by decide) (by decide) (by decide) (by omega) hT1 hT2 hH1 hH2) fun dz _ => ⟨[_,_,_,_,_,_,_,_,_,_,_,_], rfl, selJ (L1 := [_,_,_,_,_,_,_,_,_,_,_]) [0,1,2,3,4,5,6,7,8,9,11] rfl rfl rfl, HY.s<|HY.s<|HY.s<|HY.s<|HY.f rfl fun b17 => ⟨selJ (L1 := [_,_,_,_,_,_,_,_,_,_,_]) [1,2,3,4,5,6,7,8,9,10,12] rfl rfl rfl, HY.h rfl rfl fun X => HO.appT ((Rch.mk T t.lv)) 11 0 (fun R => [_,_,_,_,_,_,_,_,_,_,_, R,_] ++ X) S95 S95 I162 (.r rfl) (.r rfl) rfl rfl rfl rfl rfl rfl rfl (fun _ => rfl) rfl (by omega) fun p12 c12 => ⟨[_,_,_,_,_,_,_,_,_,_,_,_,_], rfl, selJ (L1 := [_,_,_,_,_,_,_,_,_,_,_]) [1,2,3,4,5,6,7,8,9,10,12] rfl rfl rfl, HY.s<|HY.s<|HY.h0 rfl fun X => HO.st 10 (vs := [_]) (C' := [_,_,_,_,_,_]) (L' := [_,_,_,_,_,_,_,_,_,_,_,_,_] ++ X) N95 rfl rfl rfl rfl rfl rfl rfl rfl<|⟨[_,_,_,_,_,_,_,_,_,_,_,_,_], rfl, selJ (L1 := [_,_,_,_,_,_,_,_,_,_]) [1,2,3,4,5,6,7,8,9,12] rfl rfl rfl, HY.nil ?_⟩⟩⟩⟩⟩)))
 refine VE.seqN<|VC.q (VO.a rfl rfl<|VO.n<|VC.seq<|VC.q (VO.m rfl rfl<|VO.l (LO.nc (.r rfl)) rfl<|VO.f (r := 3) F98_2 rfl rfl rfl<|VO.c 10 O95 rfl rfl ⟨_, rfl⟩ rfl<|VO.l (LO.len S95 (.r rfl) rfl) rfl<|VO.m rfl rfl<|VO.n<|VC.block<|VC.loopK (α := Nat) 0 (fun gx => [(11, .int .i64 (maxLv ((nowRc T H r.rc t.lv).take gx))), (37, .int .i64 (gx : Nat))]) [(0,_), (4,_), (6,_), (7,_), (10,_), (35,_), (36,_)] (fun gx => []) (fun gx => gx ≤ (nowRc T H r.rc t.lv).length) (fun gx => (nowRc T H r.rc t.lv).length - gx) 0 (by exact Nat.zero_le _) (.c4 rfl rfl rfl rfl (.c4 rfl rfl rfl rfl (.cons rfl .nil))) (fun _ h => h) ?_))
 rintro j hj
 refine VC.q (VO.t rfl rfl rfl<|VO.n<|VC.seq<|VC.cond rfl (fun h38 => ?_) (fun h38 => ?_))
 ·
  refine VC.skip (VE.seqN<|VC.seq<|VC.block<|VC.q (VO.l (LO.ixo S95 N162 (fun _ hw => (own_rows hw 11 rfl).some (by rw [List.length_map])) (.r rfl) (.r rfl) rfl (by omega)) rfl<|VO.l (LO.lda (vs := [_,_]) A162 (.r rfl) (fun w hw => cells_part (off := 0) (own_cell hw 11 rfl (getD_some (d := zRch) (by omega))) ⟨_, rfl⟩) rfl) rfl<|VO.h rfl<|HO.alloc (C := #[_,_]) Z162 rfl fun b19 => VO.h0<|HO.st 0 (vs := [_,_]) (C' := [_,_]) (L' := [_,_,_,_,_,_,_,_,_,_,_,_,_,_]) N162 rfl rfl rfl rfl rfl rfl rfl rfl<|VO.n<|VC.reg (VO.m rfl rfl<|VO.f (r := 1) F162_1 rfl rfl rfl<|VO.c 0 O3 rfl rfl ⟨_, rfl⟩ rfl<|VO.l (LO.max (.r rfl) (.r rfl)) rfl<|VO.a rfl rfl<|VO.nil<|VE.inN (VE.seqN<|VC.reg (VO.p rfl rfl (by omega) (by omega) rfl<|VO.m rfl rfl<|VO.nil<|VE.thenN fun a w ha hw => ⟨j + 1, (by omega), (by omega), ha.sub (.cons (Eq.trans (b := some (Value.int .i64 (max (maxLv ((nowRc T H r.rc t.lv).take j)) ((nowRc T H r.rc t.lv).getD j zRch).lv))) rfl (by rw [maxLv_take (by omega)])) (.c4 rfl rfl rfl rfl (.c4 rfl rfl rfl rfl .nil))), hw.sel [1,2,3,4,5,6,7,8,9,10,11,12,13] rfl⟩)))))
 ·
  refine VC.exit (VE.thenX (VE.thenX (VE.inX (VE.seqN<|VC.seq ?_))))
  have hj2 : j = (nowRc T H r.rc t.lv).length := by omega
  rw [show (nowRc T H r.rc t.lv).take j = (nowRc T H r.rc t.lv) from by rw [hj2, List.take_length]]
  refine VC.reg (VO.m rfl rfl<|VO.m rfl rfl<|VO.l (LO.nc (.r rfl)) rfl<|VO.f (r := 4) F98_3 rfl rfl rfl<|VO.c 10 O72 rfl rfl ⟨_, rfl⟩ rfl<|VO.m rfl rfl<|VO.h rfl<|HO.bs (ps := [(_,_)]) (vs := [(_,_)]) (Z := [_]) (C := [_]) S72 Z3 N3 ⟨(.r rfl), trivial⟩ rfl rfl rfl rfl ⟨_, [_], [_], rfl, rfl, rfl, rfl, rfl⟩ fun b21 => VO.h rfl<|HO.appT ((maxLv (nowRc T H r.rc t.lv))) 13 0 (fun R => [_,_,_,_,_,_,_,_,_,_,_,_,_, R]) S72 S72 I3 (.r rfl) (.r rfl) rfl rfl rfl rfl rfl rfl rfl (fun _ => rfl) rfl (by omega) fun p7 c7 => VO.l (LO.nc (.r rfl)) rfl<|VO.f (r := 4) F98_3 rfl rfl rfl<|VO.h0<|HO.st 11 (vs := [_]) (C' := [_,_,_,_,_,_]) (L' := [_,_,_,_,_,_,_,_,_,_,_,_,_,_]) N72 rfl rfl rfl rfl rfl rfl rfl rfl<|VO.n<|VC.seq<|VC.drawH [[0,1,2,3,4,5,6,7,8,9,10,11,12,13], [0,1,2,3,4,5,6,7,8,9,10,11,12,13], [0,1,2,3,4,5,6,7,8,9,10,11,12,13]] [some 1, some 1, some 1, some 1, some 1, some 1, some 1, none, none] mixed (by kernel_rfl) rfl (LX.l (fun _ hJ => LO.ld O3 (.r rfl) (fun _ hw => cells_at (hJ _ hw) 3 rfl ⟨_, rfl⟩)) rfl<|LX.m rfl rfl<|LX.l (fun _ hJ => LO.nc (.r rfl)) rfl<|LX.l (fun _ hJ => LO.fa (r := 2) F98_1 (.r rfl) rfl) rfl<|LX.l (fun _ hJ => LO.ld O3 (.r rfl) (fun _ hw => cells_at (hJ _ hw) 11 rfl ⟨_, rfl⟩)) rfl<|LX.m rfl rfl<|LX.l (fun _ hJ => LO.bd (ps := [(_,_), (_,_), (_,_), (_,_), (_,_)]) (vs := [(_,_), (_,_), (_,_), (_,_), (_,_)]) (C := [_,_,_,_,_,_,_]) B84  ⟨(.r rfl), (.r rfl), (.r rfl), (.r rfl), (.r rfl), trivial⟩ rfl ⟨_, [_], [_,_,_,_,_,_,_], rfl, rfl, rfl, rfl, ⟨_, [_], [_,_,_,_,_,_,_], rfl, rfl, rfl, rfl, ⟨_, [_], [_,_,_,_,_,_,_], rfl, rfl, rfl, rfl, ⟨_, [_], [_,_,_,_,_,_,_], rfl, rfl, rfl, rfl, ⟨_, [_], [_,_,_,_,_,_,_], rfl, rfl, rfl, rfl, rfl⟩⟩⟩⟩⟩) rfl<|LX.s<|LX.s<|LX.nil) (HX.s<|HX.s<|HX.s<|HX.s<|HX.s<|HX.s<|HX.s<|HX.h rfl<|HO.alloc (C := #[_,_,_,_,_,_,_]) Z84 rfl fun b25 => ⟨selJ (L1 := [_,_,_,_,_,_,_,_,_,_,_,_,_,_]) [1,2,3,4,5,6,7,8,9,10,11,12,13,14] rfl rfl rfl, HX.h0<|HO.st 0 (vs := [_,_,_,_,_,_,_]) (C' := [_,_,_,_,_,_,_]) (L' := [_,_,_,_,_,_,_,_,_,_,_,_,_,_,_]) N84 rfl rfl rfl rfl rfl rfl rfl rfl<|⟨selJ (L1 := [_,_,_,_,_,_,_,_,_,_,_,_,_,_]) [1,2,3,4,5,6,7,8,9,10,11,12,13,14] rfl rfl rfl, HX.nil ?_⟩⟩))
  refine VE.seqN<|VC.seq<|VC.block<|VC.q (VO.m rfl rfl<|VO.m rfl rfl<|VO.l (LO.eq (.r rfl) (.r rfl)) rfl<|VO.a rfl rfl<|VO.n<|VC.cond rfl (fun h64 => ?_) (fun h64 => ?_))
  ·
   refine VC.ret (VE.inR (VE.thenR (VE.res (vs := []) rfl trivial (fun w hw => ?_))))
   exact ⟨⟨{ r with rc := (nowRc T H r.rc t.lv), pr := p12, cr := c12, lv := r.lv ++ [(maxLv (nowRc T H r.rc t.lv))], pv := p7, cv := c7 }, o.cs, o.pk, o.ck, es, pe, ce⟩, ⟨rfl, rfl, rfl, rfl, rfl, .inl ⟨h64, rfl, rfl, rfl⟩⟩, rfl, selK (L1 := [_,_,_,_,_,_,_,_,_]) [6,7,8,9,10,11,12,13,14] rfl rfl _ hw⟩
  ·
   refine VC.q (VO.m rfl rfl<|VO.m rfl rfl<|VO.l (LO.gt (.r rfl) (.r rfl)) rfl<|VO.a rfl rfl<|VO.n<|VC.cond rfl (fun h68 => ?_) (fun h68 => ?_))
   ·
    refine VC.seq<|VC.q (VO.f (r := 2) F84_2 rfl rfl rfl<|VO.h0<|HO.st 0 (vs := [_]) (C' := [_,_,_,_,_,_,_]) (L' := [_,_,_,_,_,_,_,_,_,_,_,_,_,_,_]) N3 rfl rfl rfl rfl rfl rfl rfl rfl<|VO.n<|VC.q (VO.m rfl rfl<|VO.l (LO.eq (.r rfl) (.r rfl)) rfl<|VO.n<|VC.cond rfl (fun h74 => ?_) (fun h74 => ?_)))
    ·
     refine VC.reg (VO.f (r := 2) F84_2 rfl rfl rfl<|VO.h0<|HO.st 0 (vs := [_]) (C' := [_,_,_,_,_,_,_]) (L' := [_,_,_,_,_,_,_,_,_,_,_,_,_,_,_]) N3 rfl rfl rfl rfl rfl rfl rfl rfl<|VO.n<|VC.drawH [[0,1,2,3,4,5,6,7,8,9,10,11,12,13,14], [1,2,3,4,5,6,7,8,9,10,11,12,13,14], [1,2,3,4,5,6,7,8,9,10,11,12,13,14]] [some 0, some 0, some 1, some 1, some 0, none, some 1, none] mixed (by kernel_rfl) rfl (LX.l (fun _ hJ => LO.fa (r := 1) F124_1 (.r rfl) rfl) rfl<|LX.l (fun _ hJ => LO.ld O3 (.r rfl) (fun _ hw => cells_at (hJ _ hw) 5 rfl ⟨_, rfl⟩)) rfl<|LX.l (fun _ hJ => LO.fa (r := 2) F124_2 (.r rfl) rfl) rfl<|LX.l (fun _ hJ => LO.ld O3 (.r rfl) (fun _ hw => cells_at (hJ _ hw) 4 rfl ⟨_, rfl⟩)) rfl<|LX.l (fun _ hJ => LO.fa (r := 5) F84_5 (.r rfl) rfl) rfl<|LX.s<|LX.l (fun _ hJ => LO.fa (r := 6) F84_6 (.r rfl) rfl) rfl<|LX.s<|LX.nil) (HX.s<|HX.s<|HX.s<|HX.s<|HX.s<|HX.h0<|HO.st 0 (vs := [_]) (C' := [_,_,_,_,_,_,_]) (L' := [_,_,_,_,_,_,_,_,_,_,_,_,_,_,_]) N3 rfl rfl rfl rfl rfl rfl rfl rfl<|⟨selJ (L1 := [_,_,_,_,_,_,_,_,_,_,_,_,_,_]) [1,2,3,4,5,6,7,8,9,10,11,12,13,14] rfl rfl rfl, HX.s<|HX.h0<|HO.st 0 (vs := [_]) (C' := [_,_,_,_,_,_,_]) (L' := [_,_,_,_,_,_,_,_,_,_,_,_,_,_,_]) N3 rfl rfl rfl rfl rfl rfl rfl rfl<|⟨selJ (L1 := [_,_,_,_,_,_,_,_,_,_,_,_,_,_]) [1,2,3,4,5,6,7,8,9,10,11,12,13,14] rfl rfl rfl, HX.nil ?_⟩⟩))
     refine VE.inN (VE.seqN<|VC.reg (VO.m rfl rfl<|VO.l (LO.lda (vs := [_,_,_,_,_,_,_]) A84 (.r rfl) (cells_blk 0 rfl ⟨_, rfl⟩) rfl) rfl<|VO.m rfl rfl<|VO.h rfl<|HO.callP (first := []) (cap := [_,_]) (xs := [_,_]) (vs := [_,_]) [_,_,_,_,_,_,_] [_,_,_,_,_,_,_,_] (selK (L1 := [_,_,_,_,_,_,_] ++ [_,_,_,_,_,_,_,_]) [6,7,8,9,10,11,12,0,1,2,3,4,5,13,14] rfl rfl) (.r rfl) C38 ⟨(.r rfl), (.r rfl), trivial⟩ (fun w _ hh => hand_c o { r with rc := (nowRc T H r.rc t.lv), pr := p12, cr := c12, lv := r.lv ++ [(maxLv (nowRc T H r.rc t.lv))], pv := p7, cv := c7 } (Ev.mk T r.i 1 (maxLv (nowRc T H r.rc t.lv)) 0 t.ld t.px) es pe ce bo bu w hcs hes (fun hq => by first | exact absurd rfl hq | exact hop (by have := maxLv_nn (nowRc T H r.rc t.lv); omega)) hh) fun z hz => VO.nil<|VE.resN (vs := []) rfl trivial (fun w hw => ?_)))
     exact ⟨⟨{ ({ r with rc := (nowRc T H r.rc t.lv), pr := p12, cr := c12, lv := r.lv ++ [(maxLv (nowRc T H r.rc t.lv))], pv := p7, cv := c7 } : RcM) with op := z.1.2.1 }, z.1.1, z.2.1.1, z.2.1.2, es ++ [z.1.2.2], z.2.2.1, z.2.2.2⟩, ⟨rfl, rfl, rfl, rfl, rfl, .inr ⟨h64, z.1.2.2, (by have e : (Ev.mk T r.i 1 (maxLv (nowRc T H r.rc t.lv)) 0 t.ld t.px) = meetEv r.i T (lastI r.lv) (maxLv (nowRc T H r.rc t.lv)) t := (by simp only [meetEv, meetK, if_pos h68, if_pos h74]); rw [← e]; exact hz), rfl⟩⟩, rfl, selK (L1 := [_,_,_,_,_,_,_,_,_]) [0,1,2,3,4,5,6,13,14] rfl rfl _ hw⟩
    ·
     refine VC.skip (VE.seqN<|VC.drawH [[0,1,2,3,4,5,6,7,8,9,10,11,12,13,14], [1,2,3,4,5,6,7,8,9,10,11,12,13,14], [1,2,3,4,5,6,7,8,9,10,11,12,13,14]] [some 0, some 0, some 1, some 1, some 0, none, some 1, none] mixed (by kernel_rfl) rfl (LX.l (fun _ hJ => LO.fa (r := 1) F124_1 (.r rfl) rfl) rfl<|LX.l (fun _ hJ => LO.ld O3 (.r rfl) (fun _ hw => cells_at (hJ _ hw) 5 rfl ⟨_, rfl⟩)) rfl<|LX.l (fun _ hJ => LO.fa (r := 2) F124_2 (.r rfl) rfl) rfl<|LX.l (fun _ hJ => LO.ld O3 (.r rfl) (fun _ hw => cells_at (hJ _ hw) 4 rfl ⟨_, rfl⟩)) rfl<|LX.l (fun _ hJ => LO.fa (r := 5) F84_5 (.r rfl) rfl) rfl<|LX.s<|LX.l (fun _ hJ => LO.fa (r := 6) F84_6 (.r rfl) rfl) rfl<|LX.s<|LX.nil) (HX.s<|HX.s<|HX.s<|HX.s<|HX.s<|HX.h0<|HO.st 0 (vs := [_]) (C' := [_,_,_,_,_,_,_]) (L' := [_,_,_,_,_,_,_,_,_,_,_,_,_,_,_]) N3 rfl rfl rfl rfl rfl rfl rfl rfl<|⟨selJ (L1 := [_,_,_,_,_,_,_,_,_,_,_,_,_,_]) [1,2,3,4,5,6,7,8,9,10,11,12,13,14] rfl rfl rfl, HX.s<|HX.h0<|HO.st 0 (vs := [_]) (C' := [_,_,_,_,_,_,_]) (L' := [_,_,_,_,_,_,_,_,_,_,_,_,_,_,_]) N3 rfl rfl rfl rfl rfl rfl rfl rfl<|⟨selJ (L1 := [_,_,_,_,_,_,_,_,_,_,_,_,_,_]) [1,2,3,4,5,6,7,8,9,10,11,12,13,14] rfl rfl rfl, HX.nil ?_⟩⟩))
     refine VE.inN (VE.seqN<|VC.reg (VO.m rfl rfl<|VO.l (LO.lda (vs := [_,_,_,_,_,_,_]) A84 (.r rfl) (cells_blk 0 rfl ⟨_, rfl⟩) rfl) rfl<|VO.m rfl rfl<|VO.h rfl<|HO.callP (first := []) (cap := [_,_]) (xs := [_,_]) (vs := [_,_]) [_,_,_,_,_,_,_] [_,_,_,_,_,_,_,_] (selK (L1 := [_,_,_,_,_,_,_] ++ [_,_,_,_,_,_,_,_]) [6,7,8,9,10,11,12,0,1,2,3,4,5,13,14] rfl rfl) (.r rfl) C38 ⟨(.r rfl), (.r rfl), trivial⟩ (fun w _ hh => hand_c o { r with rc := (nowRc T H r.rc t.lv), pr := p12, cr := c12, lv := r.lv ++ [(maxLv (nowRc T H r.rc t.lv))], pv := p7, cv := c7 } (Ev.mk T r.i 3 (maxLv (nowRc T H r.rc t.lv)) 0 t.ld t.px) es pe ce bo bu w hcs hes (fun hq => by first | exact absurd rfl hq | exact hop (by have := maxLv_nn (nowRc T H r.rc t.lv); omega)) hh) fun z hz => VO.nil<|VE.resN (vs := []) rfl trivial (fun w hw => ?_)))
     exact ⟨⟨{ ({ r with rc := (nowRc T H r.rc t.lv), pr := p12, cr := c12, lv := r.lv ++ [(maxLv (nowRc T H r.rc t.lv))], pv := p7, cv := c7 } : RcM) with op := z.1.2.1 }, z.1.1, z.2.1.1, z.2.1.2, es ++ [z.1.2.2], z.2.2.1, z.2.2.2⟩, ⟨rfl, rfl, rfl, rfl, rfl, .inr ⟨h64, z.1.2.2, (by have e : (Ev.mk T r.i 3 (maxLv (nowRc T H r.rc t.lv)) 0 t.ld t.px) = meetEv r.i T (lastI r.lv) (maxLv (nowRc T H r.rc t.lv)) t := (by simp only [meetEv, meetK, if_pos h68, if_neg h74]); rw [← e]; exact hz), rfl⟩⟩, rfl, selK (L1 := [_,_,_,_,_,_,_,_,_]) [0,1,2,3,4,5,6,13,14] rfl rfl _ hw⟩
   ·
    refine VC.q (VO.m rfl rfl<|VO.l (LO.eq (.r rfl) (.r rfl)) rfl<|VO.a rfl rfl<|VO.n<|VC.cond rfl (fun h82 => ?_) (fun h82 => ?_))
    ·
     refine VC.reg (VO.f (r := 2) F84_2 rfl rfl rfl<|VO.h0<|HO.st 0 (vs := [_]) (C' := [_,_,_,_,_,_,_]) (L' := [_,_,_,_,_,_,_,_,_,_,_,_,_,_,_]) N3 rfl rfl rfl rfl rfl rfl rfl rfl<|VO.nil<|VE.inN (VE.seqN<|VC.reg (VO.m rfl rfl<|VO.l (LO.lda (vs := [_,_,_,_,_,_,_]) A84 (.r rfl) (cells_blk 0 rfl ⟨_, rfl⟩) rfl) rfl<|VO.m rfl rfl<|VO.h rfl<|HO.callP (first := []) (cap := [_,_]) (xs := [_,_]) (vs := [_,_]) [_,_,_,_,_,_,_] [_,_,_,_,_,_,_,_] (selK (L1 := [_,_,_,_,_,_,_] ++ [_,_,_,_,_,_,_,_]) [6,7,8,9,10,11,12,0,1,2,3,4,5,13,14] rfl rfl) (.r rfl) C38 ⟨(.r rfl), (.r rfl), trivial⟩ (fun w _ hh => hand_c o { r with rc := (nowRc T H r.rc t.lv), pr := p12, cr := c12, lv := r.lv ++ [(maxLv (nowRc T H r.rc t.lv))], pv := p7, cv := c7 } (Ev.mk T r.i 2 (maxLv (nowRc T H r.rc t.lv)) 0 (-1) (-1)) es pe ce bo bu w hcs hes (fun hq => by first | exact absurd rfl hq | exact hop (by have := maxLv_nn (nowRc T H r.rc t.lv); omega)) hh) fun z hz => VO.nil<|VE.resN (vs := []) rfl trivial (fun w hw => ?_))))
     exact ⟨⟨{ ({ r with rc := (nowRc T H r.rc t.lv), pr := p12, cr := c12, lv := r.lv ++ [(maxLv (nowRc T H r.rc t.lv))], pv := p7, cv := c7 } : RcM) with op := z.1.2.1 }, z.1.1, z.2.1.1, z.2.1.2, es ++ [z.1.2.2], z.2.2.1, z.2.2.2⟩, ⟨rfl, rfl, rfl, rfl, rfl, .inr ⟨h64, z.1.2.2, (by have e : (Ev.mk T r.i 2 (maxLv (nowRc T H r.rc t.lv)) 0 (-1) (-1)) = meetEv r.i T (lastI r.lv) (maxLv (nowRc T H r.rc t.lv)) t := (by simp only [meetEv, meetK, if_neg h68, if_pos h82]); rw [← e]; exact hz), rfl⟩⟩, rfl, selK (L1 := [_,_,_,_,_,_,_,_,_]) [0,1,2,3,4,5,6,13,14] rfl rfl _ hw⟩
    ·
     refine VC.reg (VO.f (r := 2) F84_2 rfl rfl rfl<|VO.h0<|HO.st 0 (vs := [_]) (C' := [_,_,_,_,_,_,_]) (L' := [_,_,_,_,_,_,_,_,_,_,_,_,_,_,_]) N3 rfl rfl rfl rfl rfl rfl rfl rfl<|VO.nil<|VE.inN (VE.seqN<|VC.reg (VO.m rfl rfl<|VO.l (LO.lda (vs := [_,_,_,_,_,_,_]) A84 (.r rfl) (cells_blk 0 rfl ⟨_, rfl⟩) rfl) rfl<|VO.m rfl rfl<|VO.h rfl<|HO.callP (first := []) (cap := [_,_]) (xs := [_,_]) (vs := [_,_]) [_,_,_,_,_,_,_] [_,_,_,_,_,_,_,_] (selK (L1 := [_,_,_,_,_,_,_] ++ [_,_,_,_,_,_,_,_]) [6,7,8,9,10,11,12,0,1,2,3,4,5,13,14] rfl rfl) (.r rfl) C38 ⟨(.r rfl), (.r rfl), trivial⟩ (fun w _ hh => hand_c o { r with rc := (nowRc T H r.rc t.lv), pr := p12, cr := c12, lv := r.lv ++ [(maxLv (nowRc T H r.rc t.lv))], pv := p7, cv := c7 } (Ev.mk T r.i 4 (maxLv (nowRc T H r.rc t.lv)) 0 (-1) (-1)) es pe ce bo bu w hcs hes (fun hq => by first | exact absurd rfl hq | exact hop (by have := maxLv_nn (nowRc T H r.rc t.lv); omega)) hh) fun z hz => VO.nil<|VE.resN (vs := []) rfl trivial (fun w hw => ?_))))
     exact ⟨⟨{ ({ r with rc := (nowRc T H r.rc t.lv), pr := p12, cr := c12, lv := r.lv ++ [(maxLv (nowRc T H r.rc t.lv))], pv := p7, cv := c7 } : RcM) with op := z.1.2.1 }, z.1.1, z.2.1.1, z.2.1.2, es ++ [z.1.2.2], z.2.2.1, z.2.2.2⟩, ⟨rfl, rfl, rfl, rfl, rfl, .inr ⟨h64, z.1.2.2, (by have e : (Ev.mk T r.i 4 (maxLv (nowRc T H r.rc t.lv)) 0 (-1) (-1)) = meetEv r.i T (lastI r.lv) (maxLv (nowRc T H r.rc t.lv)) t := (by simp only [meetEv, meetK, if_neg h68, if_neg h82]); rw [← e]; exact hz), rfl⟩⟩, rfl, selK (L1 := [_,_,_,_,_,_,_,_,_]) [0,1,2,3,4,5,6,13,14] rfl rfl _ hw⟩
theorem C27 : IsFn Tryz.prog 27 := ⟨_, Tryz.func27, by decide, rfl⟩
theorem I81 : EInfo Tryz.prog 81 7 88 (.agg #[.slice none 0 0, .slice none 0 0, .int .i64 0, .int .i64 0, .int .i64 0, .int .i64 0, .int .i64 0]) := ⟨by kernel_rfl, by kernel_rfl, by unfold ZeroOf; kernel_rfl, rfl, by decide⟩
theorem LO.eqSn {P : Program} {β : Bs} {env : Env} {L : List Res} {d : Option Nat} {ty : TypeId} {pos : String} {aft : Array Edge} {g : Option (Nat × Bool)} {T T2 : TypeId} {x y : Operand} {p : Option Addr} {n c : Nat} (hT : ∃ E, P.underlying T = some (.slice E)) (hx : OV env x (.slice p n c)) (hy : OV env y (.slice none 0 0)) :
    LO P β env L ⟨d, .binOp .eql T x y T2, ty, pos, aft, g⟩ (.bool p.isNone) :=
  .of_run fun a w h hw => ⟨w, by
    obtain ⟨E, hE⟩ := hT
    have key : (Op.equalIn Op.maxDepth T (.slice p n c) (.slice none 0 0)).run P w = .ok p.isNone w := by
      show (Op.equalIn (9999 + 1) T (.slice p n c) (.slice none 0 0)).run P w = _
      unfold Op.equalIn
      rw [Sem.run_bind, run_underlying hE]
      cases p <;> rfl
    simp only [execOp, h x (by simp [Op.operands]) _ hx, h y (by simp [Op.operands]) _ hy, eqGuard, binOp, Op.equal, Sem.run_bind, Sem.run_pure, Result.andThen_ok, key, Bool.not_true, Bool.false_eq_true, if_false], hw⟩
theorem RO_none {α : Type} {z : Nat} {f : α → List Value} {w : World} {p : Option Addr} {l : List α} (h : RO z f w p l) (hp : p.isNone = true) : l = [] := by
  have := Go.SL.Rows.nil h (by cases p; rfl; cases hp)
  simpa using this
theorem St.bagAdd2 {β : Bs} {L Rs : List Res} {r s : Res} {w : World} (h : St β (r :: s :: bagD Rs :: L) w) : St β (bagD (Rs ++ [r, s]) :: L) w := by
  have h1 := St.bagAdd (h.perm (L' := s :: bagD Rs :: r :: L) (by
    exact (List.Perm.swap s r _).trans (List.Perm.cons s (List.Perm.swap (bagD Rs) r L))))
  have h2 := h.perm (L' := r :: bagD Rs :: s :: L) (List.Perm.cons r (List.Perm.swap (bagD Rs) s L))
  have h3 := St.bagAdd h2
  have h4 := St.bagAdd (h3.perm (List.Perm.swap _ _ _))
  rw [List.append_assoc] at h4
  exact h4
theorem St.bagCp {β : Bs} {L : List Res} {xs : List CP} {x : CP} {w : World} (h : St β (own 3 1 x.ps x.cs (x.c.sure.map iC) :: own 3 1 x.pm x.cm (x.c.may.map iC) :: bagD (xs.flatMap cpR) :: L) w) : St β (bagD ((xs ++ [x]).flatMap cpR) :: L) w := by
  rw [List.flatMap_append]
  have e : [x].flatMap cpR = [own 3 1 x.ps x.cs (x.c.sure.map iC), own 3 1 x.pm x.cm (x.c.may.map iC)] := rfl
  rw [e]
  exact St.bagAdd2 h
theorem Clone_c (l : List Int) (p : Option Addr) (c : Nat) (w : World) (hn : l.length < 1000000000000) (hl : RO 1 iC w p l) :
 Calls Tryz.prog 27 #[.slice p l.length c] w fun e w' => ∃ x : Option Addr × Nat, True ∧ e = .returned (.slice x.1 l.length x.2) ∧ St (bs w) [own 3 1 x.1 x.2 (l.map iC)] w' := by
 refine enter (vs := [_]) (env := [(0,_)]) Tryz.func27 rfl rfl rfl rfl ?_
 refine VC.q (VO.a rfl rfl<|VO.n<|VC.seq<|VC.q (VO.m rfl rfl<|VO.l (LO.eqSn ⟨_, Tryz.underlying72⟩ (.r rfl) (.r rfl)) rfl<|VO.n<|VC.cond rfl (fun h4 => ?_) (fun h4 => ?_)))
 ·
  have h0 := RO_none hl h4
  refine VC.q (VO.a rfl rfl<|VO.n<|VC.ret (VE.thenR (VE.s rfl rfl (fun w hw => ?_))))
  first | exact ⟨(none, 0), trivial, by rw [h0]; rfl, by rw [h0]; exact hw.nil.ownNil 3 1⟩ | exact ⟨(p2, c2), trivial, rfl, hw.sel [0] rfl⟩
 ·
  refine VC.skip (VE.seqN<|VC.q (VO.h rfl<|HO.bs0 S72 N3 fun b1 => VO.m rfl rfl<|VO.h rfl<|HO.appN0 (f := iC) (m := l) 0 (fun R => [R]) S72 S72 I3 (.r rfl) (.r rfl) rfl (fun w hw => hl.keep w hw) (fun _ => rfl) (fun _ => rfl) rfl rfl (fun _ => rfl) rfl (by omega) fun p2 c2 _ => VO.h rfl<|HO.lo (LO.as (.r rfl))<|VO.n<|VC.ret (VE.s rfl rfl (fun w hw => ?_))))
  first | exact ⟨(none, 0), trivial, by rw [h0]; rfl, by rw [h0]; exact hw.nil.ownNil 3 1⟩ | exact ⟨(p2, c2), trivial, rfl, hw.sel [0] rfl⟩
theorem own_c (l : List CP) (p : Option Addr) (c : Nat) (w : World) (hn : l.length < 1000000000) (hl : Clouds w p l) :
 Calls Tryz.prog 37 #[.slice p l.length c] w fun e w' => ∃ x : (Option Addr × Nat) × List CP, x.2.map CP.c = l.map CP.c ∧ e = .returned (.slice x.1.1 x.2.length x.1.2) ∧ St (bs w) [own 81 7 x.1.1 x.1.2 (x.2.map CP.cells), bagD (x.2.flatMap cpR)] w' := by
 refine enter (vs := [_]) (env := [(0,_)]) Tryz.func37 rfl rfl rfl rfl ?_
 refine VC.q (VO.a rfl rfl<|VO.n<|VC.q (VO.a rfl rfl<|VO.n<|VC.seq<|VC.q (VO.m rfl rfl<|VO.l (LO.len S45 (.r rfl) rfl) rfl<|VO.m rfl rfl<|VO.n<|VC.block<|VC.loopK (α := Nat × (List CP) × (Option Addr) × Nat) 0 (fun gx => [(3, .slice gx.2.2.1 gx.2.1.length gx.2.2.2), (8, .int .i64 (gx.1 : Nat))]) [(6,_), (7,_)] (fun gx => [own 81 7 gx.2.2.1 gx.2.2.2 (gx.2.1.map CP.cells), bagD (gx.2.1.flatMap cpR)]) (fun gx => gx.1 ≤ l.length ∧ gx.2.1.map CP.c = (l.map CP.c).take gx.1) (fun gx => l.length - gx.1) (0, [], none, 0) (by exact ⟨Nat.zero_le _, rfl⟩) (.c4 rfl rfl rfl rfl .nil) (fun _ h => ((St.bagD (Rs := []) h).ownNil 81 7)) ?_)))
 rintro ⟨j, xs, po_, co_⟩ ⟨hj, hX⟩
 show VC _ _ _ _ _ ([(3, .slice po_ xs.length co_), (8, .int .i64 (j : Nat))] ++ _) ([own 81 7 po_ co_ (xs.map CP.cells), bagD (xs.flatMap cpR)] ++ _) _ _
 dsimp only at hj hX
 have hxl : xs.length = j := by rw [← List.length_map (f := CP.c), hX]; simp; omega
 refine VC.q (VO.t rfl rfl rfl<|VO.n<|VC.seq<|VC.cond rfl (fun h9 => ?_) (fun h9 => ?_))
 ·
  obtain ⟨x, hx⟩ : ∃ x, l[j]? = some x := ⟨_, List.getElem?_eq_getElem (by omega)⟩
  have hxo := hl.ok x (List.mem_of_getElem? hx)
  refine VC.skip (VE.seqN<|VC.seq<|VC.block<|VC.q (VO.l (LO.ixs S45 N81 hl.sl (.r rfl) (.r rfl) rfl (by omega)) rfl<|VO.l (LO.lda (vs := [_,_,_,_,_,_,_]) A81 (.r rfl) (hl.at hx) rfl) rfl<|VO.h rfl<|HO.alloc (C := #[_,_,_,_,_,_,_]) Z81 rfl fun b3 => VO.h0<|HO.st 0 (vs := [_,_,_,_,_,_,_]) (C' := [_,_,_,_,_,_,_]) (L' := [_,_,_]) N81 rfl rfl rfl rfl rfl rfl rfl rfl<|VO.n<|VC.seq<|VC.drawH [[0,1,2], [0,1,2], [0,1,2], [1,2], [1,2]] [some 0, some 0, none, some 1, some 1, none, some 2, none, some 3, none] mixed (by kernel_rfl) rfl (LX.l (fun _ hJ => LO.fa (r := 0) F81_0 (.r rfl) rfl) rfl<|LX.l (fun _ hJ => LO.ld O72 (.r rfl) (fun _ hw => cells_at (hJ _ hw) 0 rfl ⟨_, rfl⟩)) rfl<|LX.s<|LX.l (fun _ hJ => LO.fa (r := 1) F81_1 (.r rfl) rfl) rfl<|LX.l (fun _ hJ => LO.ld O72 (.r rfl) (fun _ hw => cells_at (hJ _ hw) 0 rfl ⟨_, rfl⟩)) rfl<|LX.s<|LX.l (fun _ hJ => LO.fa (r := 0) F81_0 (.r rfl) rfl) rfl<|LX.s<|LX.l (fun _ hJ => LO.fa (r := 1) F81_1 (.r rfl) rfl) rfl<|LX.s<|LX.nil) (HX.s<|HX.s<|HX.h rfl<|HO.callx (xs := [_]) (vs := [_]) C27 ⟨(.r rfl), trivial⟩ (fun w hw => Clone_c x.c.sure x.ps x.cs w hxo.2.2.1 (hxo.1.keep w hw)) fun q1 _ => ⟨fun _ hw => hw.sel [1,2,3] rfl, HX.s<|HX.s<|HX.h rfl<|HO.callx (xs := [_]) (vs := [_]) C27 ⟨(.r rfl), trivial⟩ (fun w hw => Clone_c x.c.may x.pm x.cm w hxo.2.2.2 (hxo.2.1.keep w hw)) fun q2 _ => ⟨fun _ hw => hw.sel [2,3,4] rfl, HX.s<|HX.h0<|HO.st 2 (vs := [_]) (C' := [_,_,_,_,_,_,_]) (L' := [_,_,_,_,_]) N72 rfl rfl rfl rfl rfl rfl rfl rfl<|⟨fun _ hw => hw.sel [3,4] rfl, HX.s<|HX.h0<|HO.st 2 (vs := [_]) (C' := [_,_,_,_,_,_,_]) (L' := [_,_,_,_,_]) N72 rfl rfl rfl rfl rfl rfl rfl rfl<|⟨fun _ hw => hw.sel [3,4] rfl, HX.nil ?_⟩⟩⟩⟩)))
  refine VE.seqN<|VC.reg (VO.m rfl rfl<|VO.l (LO.lda (vs := [_,_,_,_,_,_,_]) A81 (.r rfl) (cells_blk 2 rfl ⟨_, rfl⟩) rfl) rfl<|VO.h rfl<|HO.bs (ps := [(_,_)]) (vs := [(_,_)]) (Z := [_,_,_,_,_,_,_]) (C := [_,_,_,_,_,_,_]) S45 Z81 N81 ⟨(.r rfl), trivial⟩ rfl rfl rfl rfl ⟨_, [_,_,_,_,_,_,_], [_,_,_,_,_,_,_], rfl, rfl, rfl, rfl, rfl⟩ fun b13 => VO.h rfl<|HO.appT ((CP.mk x.c q1.1 q1.2 q2.1 q2.2)) 4 0 (fun R => [_,_,_,_, R,_]) S45 S45 I81 (.r rfl) (.r rfl) rfl rfl rfl rfl rfl rfl rfl (fun _ => rfl) rfl (by omega) fun p3 c3 => VO.h rfl<|HO.lo (LO.as (.r rfl))<|VO.nil<|VE.inN (VE.seqN<|VC.reg (VO.p rfl rfl (by omega) (by omega) rfl<|VO.m rfl rfl<|VO.nil<|VE.thenN fun a w ha hw => ⟨(j + 1, xs ++ [CP.mk x.c q1.1 q1.2 q2.1 q2.2], p3, c3), ⟨by dsimp only; omega, by dsimp only; rw [List.map_append, hX, take_c hx]; rfl⟩, (by dsimp only; omega), ha.sub (.c4 rfl rfl rfl rfl .nil), (by exact (St.bagCp (x := CP.mk x.c q1.1 q1.2 q2.1 q2.2) (selK (L1 := [_,_,_,_]) [2,1,5,4] rfl rfl _ hw)).sel [1,0] rfl)⟩)))
 ·
  refine VC.exit (VE.thenX (VE.thenX (VE.inX (VE.seqN<|VC.q (VO.m rfl rfl<|VO.a rfl rfl<|VO.n<|VC.ret (VE.s rfl rfl (fun w hw => ?_)))))))
  exact ⟨((po_, co_), xs), by rw [hX, List.take_of_length_le (by rw [List.length_map]; omega)], rfl, hw.sel [0,1] rfl⟩
theorem A28 : IsAgg Tryz.prog 28 9 := ⟨⟨_, Tryz.underlying28, rfl⟩, by kernel_rfl⟩
theorem C26 : IsFn Tryz.prog 26 := ⟨_, Tryz.func26, by decide, rfl⟩
theorem B92 : Builds Tryz.prog 92 [(0,9), (9,1), (10,1), (11,1), (12,1)] [.int .i64 0, .int .i64 0, .int .i64 0, .int .i64 0, .int .i64 0, .slice none 0 0, .int .i64 0, .int .i64 0, .int .i64 0, .slice none 0 0, .slice none 0 0, .slice none 0 0, .slice none 0 0] := Builds.mk fun _ => by kernel_rfl
theorem F92_0 : FieldAt Tryz.prog 92 0 0 := ⟨_,_, Tryz.underlying92, rfl, rfl, 8, by kernel_rfl⟩
theorem N24 : (Tryz.prog.info? 24).map (·.size) = some 1 := by kernel_rfl
theorem I74 : EInfo Tryz.prog 74 2 40 (.agg #[.string ByteArray.empty, .slice none 0 0]) := ⟨by kernel_rfl, by kernel_rfl, by unfold ZeroOf; kernel_rfl, rfl, by decide⟩
theorem B98 : Builds Tryz.prog 98 [(0,2), (2,1), (3,1), (4,1), (5,1)] [.string ByteArray.empty, .slice none 0 0, .int .i64 0, .slice none 0 0, .slice none 0 0, .pointer none] := Builds.mk fun _ => by kernel_rfl
theorem Z94 : ZeroOf Tryz.prog 94 (.pointer none) := by unfold ZeroOf; kernel_rfl
theorem N94 : (Tryz.prog.info? 94).map (·.size) = some 1 := by kernel_rfl
theorem I94 : EInfo Tryz.prog 94 1 8 (.pointer none) := ⟨by kernel_rfl, by kernel_rfl, by unfold ZeroOf; kernel_rfl, rfl, by decide⟩
theorem N88 : (Tryz.prog.info? 88).map (·.size) = some 1 := by kernel_rfl
def pixR (x : RG) : Res := own 3 1 x.px x.cx (x.r.pix.map iC)
def RcM.res (r : RcM) : Res := bagD [r.blk, r.rcR, r.lvR]
abbrev OfM.rgR (o : OfM) : Res := own 74 2 o.pg o.cg (o.rg.map RG.cells)
abbrev OfM.pxB (o : OfM) : Res := bagD (o.rg.map pixR)
abbrev OfM.rcR (o : OfM) : Res := own 94 1 o.pc o.cc (o.rc.map rcP)
abbrev OfM.rcB (o : OfM) : Res := bagD (o.rc.map RcM.res)
abbrev OfM.tsR (o : OfM) : Res := own 3 1 o.pt o.ct (o.ts.map iC)
abbrev OfM.lgR (o : OfM) : Res := own 149 1 o.pl o.cl (o.lg.map LgM.val)
abbrev OfM.lgB (o : OfM) : Res := bagD (o.lg.flatMap LgM.res)
abbrev offR (o : OfM) : List Res := [o.blk, o.rgR, o.pxB, o.rcR, o.rcB, o.tsR, o.csR, o.csB, o.lgR, o.lgB]
def OfM.sp (o : OfM) : Sp := ⟨o.g, o.rg.map RG.r, o.lead, o.step, o.hold⟩
def FreshR (rs : List RG) (ds : List RcM) : Prop := ds.length = rs.length ∧ ∀ (k : Nat) (r : RcM), ds[k]? = some r → rs[k]? = some r.x ∧ r.i = k ∧ r.rc = [] ∧ r.lv = [] ∧ r.op = none
theorem fresh_add {rs : List RG} {ds : List RcM} (h : FreshR rs ds) {x : RG} {r : RcM} (h1 : r.x = x) (h2 : r.i = rs.length) (h3 : r.rc = []) (h4 : r.lv = []) (h5 : r.op = none) : FreshR (rs ++ [x]) (ds ++ [r]) := by
  refine ⟨by simp [h.1], fun k q hq => ?_⟩
  rcases Nat.lt_or_ge k ds.length with hk | hk
  · rw [List.getElem?_append_left hk] at hq
    have := h.2 k q hq
    rw [List.getElem?_append_left (by rw [← h.1]; exact hk)]
    exact this
  · rw [List.getElem?_append_right hk] at hq
    have hk2 : k = ds.length := by
      rcases Nat.lt_or_ge (k - ds.length) 1 with q | q
      · omega
      · rw [List.getElem?_eq_none (by simpa using q)] at hq; cases hq
    subst hk2
    simp at hq
    subst hq
    rw [h.1, List.getElem?_append_right (Nat.le_refl _)]
    simp [h1, h2, h3, h4, h5]
theorem St.bagPx {β : Bs} {L : List Res} {xs : List RG} {x : RG} {w : World} (h : St β (own 3 1 x.px x.cx (x.r.pix.map iC) :: bagD (xs.map pixR) :: L) w) : St β (bagD ((xs ++ [x]).map pixR) :: L) w := by
  rw [List.map_append]; exact St.bagAdd h
theorem St.bagRc {β : Bs} {L : List Res} {xs : List RcM} {r : RcM} {w : World} (hr : r.rc = []) (hp : r.pr = none) (hc : r.cr = 0) (hl : r.lv = []) (hv : r.pv = none) (hc2 : r.cv = 0) (h : St β (r.blk :: bagD (xs.map RcM.res) :: L) w) : St β (bagD ((xs ++ [r]).map RcM.res) :: L) w := by
  rw [List.map_append]
  have h1 : St β (r.rcR :: r.lvR :: r.blk :: bagD (xs.map RcM.res) :: L) w := by
    unfold RcM.rcR RcM.lvR
    rw [hr, hp, hc, hl, hv, hc2]
    exact (h.ownNil 3 1).ownNil 162 2
  have h2 : St β (bagD [r.blk, r.rcR, r.lvR] :: bagD (xs.map RcM.res) :: L) w := St.bagD (Rs := [r.blk, r.rcR, r.lvR]) (h1.perm (List.perm_middle (l₁ := [r.rcR, r.lvR])))
  exact St.bagAdd h2
def NewP (g : Grid) (l : List RG) (a b d : Int) (o : OfM) : Prop := o.g = g ∧ o.lead = a ∧ o.step = b ∧ o.hold = d ∧ o.ts = [] ∧ o.cs = [] ∧ o.lg = [] ∧ True = True ∧ o.rg.map RG.r = l.map RG.r ∧ FreshR o.rg o.rc
theorem New_e (g : Grid) (l : List RG) (pl : Option Addr) (cl : Nat) (a b d : Int) (w : World) (hll : l.length < 1000000000000) (hl : Regs w pl l) (hs : ¬ specE ⟨g, l.map RG.r, a, b, d⟩ = 0) :
 Calls Tryz.prog 6 #[specV g pl l.length cl a b d] w fun e w' => e = .returned (.tuple #[.pointer none, .int .i64 (specE ⟨g, l.map RG.r, a, b, d⟩)]) ∧ St (bs w) [] w' := by
 refine enter (vs := [_]) (env := [(0,_)]) Tryz.func6 rfl rfl rfl rfl ?_
 refine VC.q (VO.h rfl<|HO.box (C := #[_,_,_,_,_,_,_,_,_]) rfl rfl fun b1 => VO.a rfl rfl<|VO.a rfl rfl<|VO.n<|VC.seq<|VC.q (VO.l (LO.lda (vs := [_,_,_,_,_,_,_,_,_]) A28 (.r rfl) (cells_blk 0 rfl ⟨_, rfl⟩) rfl) rfl<|VO.l (LO.call (xs := [_]) (vs := [_]) C26 ⟨(.r rfl), trivial⟩ (fun w hw => Check_c g l pl cl a b d w hll (hl.keep hw))) rfl<|VO.a rfl rfl<|VO.n<|VC.q (VO.m rfl rfl<|VO.u rfl rfl rfl<|VO.n<|VC.cond rfl (fun h11 => ?_) (fun h11 => ?_))))
 ·
  refine VC.q (VO.m rfl rfl<|VO.a rfl rfl<|VO.a rfl rfl<|VO.n<|VC.ret (VE.thenR (VE.res (vs := [_,_]) rfl ⟨rfl, rfl, trivial⟩ (fun w hw => ?_))))
  exact ⟨rfl, hw.nil⟩
 · (exfalso; exact h11 hs)
theorem New_c (g : Grid) (l : List RG) (pl : Option Addr) (cl : Nat) (a b d : Int) (w : World) (hll : l.length < 1000000000000) (hl : Regs w pl l) (hs : specE ⟨g, l.map RG.r, a, b, d⟩ = 0) :
 Calls Tryz.prog 6 #[specV g pl l.length cl a b d] w fun e w' => ∃ o : OfM, NewP g l a b d o ∧ e = .returned (.tuple #[ptrN o.b, .int .i64 0]) ∧ St (bs w) (offR o) w' := by
 have hok := specOk hs
 obtain ⟨hgo, hN1, hN2, hpx, hru⟩ := hok
 dsimp only at hN1
 rw [List.length_map] at hN1
 refine enter (vs := [_]) (env := [(0,_)]) Tryz.func6 rfl rfl rfl rfl ?_
 refine VC.q (VO.h rfl<|HO.box (C := #[_,_,_,_,_,_,_,_,_]) rfl rfl fun b1 => VO.a rfl rfl<|VO.a rfl rfl<|VO.n<|VC.seq<|VC.q (VO.l (LO.lda (vs := [_,_,_,_,_,_,_,_,_]) A28 (.r rfl) (cells_blk 0 rfl ⟨_, rfl⟩) rfl) rfl<|VO.l (LO.call (xs := [_]) (vs := [_]) C26 ⟨(.r rfl), trivial⟩ (fun w hw => Check_c g l pl cl a b d w hll (hl.keep hw))) rfl<|VO.a rfl rfl<|VO.n<|VC.q (VO.m rfl rfl<|VO.u rfl rfl rfl<|VO.n<|VC.cond rfl (fun h11 => ?_) (fun h11 => ?_))))
 · (exfalso; exact h11 hs)
 ·
  refine VC.skip (VE.seqN<|VC.q (VO.l (LO.lda (vs := [_,_,_,_,_,_,_,_,_]) A28 (.r rfl) (cells_blk 0 rfl ⟨_, rfl⟩) rfl) rfl<|VO.l (LO.bd (ps := [(_,_)]) (vs := [(_,_)]) (C := [_,_,_,_,_,_,_,_,_,_,_,_,_]) B92  ⟨(.r rfl), trivial⟩ rfl ⟨_, [_,_,_,_,_,_,_,_,_], [_,_,_,_,_,_,_,_,_,_,_,_,_], rfl, rfl, rfl, rfl, rfl⟩) rfl<|VO.h rfl<|HO.box (C := #[_,_,_,_,_,_,_,_,_,_,_,_,_]) rfl rfl fun b2 => VO.h rfl<|HO.lo (LO.as (.r rfl))<|VO.n<|VC.q (VO.m rfl rfl<|VO.l (LO.nc (.r rfl)) rfl<|VO.f (r := 0) F92_0 rfl rfl rfl<|VO.f (r := 5) F28_1 rfl rfl rfl<|VO.h0<|HO.st 0 (vs := [_]) (C' := [_,_,_,_,_,_,_,_,_,_,_,_,_]) (L' := [_,_]) N24 rfl rfl rfl rfl rfl rfl rfl rfl<|VO.n<|VC.seq<|VC.q (VO.f (r := 5) F28_1 rfl rfl rfl<|VO.c 1 O24 rfl rfl ⟨_, rfl⟩ rfl<|VO.l (LO.len S24 (.r rfl) rfl) rfl<|VO.m rfl rfl<|VO.n<|VC.block<|VC.loopK (α := Nat × (List RG) × (Option Addr) × Nat × (List RcM) × (Option Addr) × Nat) 1 (fun gx => [(23, .int .i64 (gx.1 : Nat))]) [(5,_), (21,_), (22,_)] (fun gx => [blk b2 (.cells #[.int .i64 g.x, .int .i64 g.y, .int .i64 g.size, .int .i64 g.wide, .int .i64 g.high, .slice gx.2.2.1 gx.2.1.length gx.2.2.2.1, .int .i64 a, .int .i64 b, .int .i64 d, .slice gx.2.2.2.2.2.1 gx.2.2.2.2.1.length gx.2.2.2.2.2.2, .slice none 0 0, .slice none 0 0, .slice none 0 0] 92), own 74 2 gx.2.2.1 gx.2.2.2.1 (gx.2.1.map RG.cells), bagD (gx.2.1.map pixR), own 94 1 gx.2.2.2.2.2.1 gx.2.2.2.2.2.2 (gx.2.2.2.2.1.map rcP), bagD (gx.2.2.2.2.1.map RcM.res)]) (fun gx => gx.1 ≤ l.length ∧ gx.2.1.map RG.r = (l.map RG.r).take gx.1 ∧ FreshR gx.2.1 gx.2.2.2.2.1) (fun gx => l.length - gx.1) (0, [], none, 0, [], none, 0) (by exact ⟨Nat.zero_le _, rfl, rfl, fun k r hr => by simp at hr⟩) (.c4 rfl rfl rfl rfl .nil) (fun _ h => (((St.bagD (Rs := []) ((St.bagD (Rs := []) h).ownNil 94 1)).ownNil 74 2)).sel [4,0,1,2,3,5] rfl) ?_))))
  rintro ⟨i, rgs, pg_, cg_, rcs, pc_, cc_⟩ ⟨hi, hX, hF⟩
  show VC _ _ _ _ _ ([(23, .int .i64 (i : Nat))] ++ _) ([blk b2 (.cells #[.int .i64 g.x, .int .i64 g.y, .int .i64 g.size, .int .i64 g.wide, .int .i64 g.high, .slice pg_ rgs.length cg_, .int .i64 a, .int .i64 b, .int .i64 d, .slice pc_ rcs.length cc_, .slice none 0 0, .slice none 0 0, .slice none 0 0] 92), own 74 2 pg_ cg_ (rgs.map RG.cells), bagD (rgs.map pixR), own 94 1 pc_ cc_ (rcs.map rcP), bagD (rcs.map RcM.res)] ++ _) _ _
  dsimp only at hi hX hF
  have hgl : rgs.length = i := by rw [← List.length_map (f := RG.r), hX]; simp; omega
  have hrl : rcs.length = i := by rw [hF.1, hgl]
  refine VC.q (VO.t rfl rfl rfl<|VO.n<|VC.seq<|VC.cond rfl (fun h24 => ?_) (fun h24 => ?_))
  ·
   obtain ⟨x, hx⟩ : ∃ x, l[i]? = some x := ⟨_, List.getElem?_eq_getElem (by omega)⟩
   have hxo := hl.ok x (List.mem_of_getElem? hx)
   refine VC.skip (VE.seqN<|VC.seq<|VC.block<|VC.q (VO.m rfl rfl<|VO.l (LO.ixs S24 N74 hl.sm (.r rfl) (.r rfl) rfl (by omega)) rfl<|VO.l (LO.lda (vs := [_,_]) A74 (.r rfl) (hl.at hx) rfl) rfl<|VO.h rfl<|HO.alloc (C := #[_,_]) Z74 rfl fun b9 => VO.a rfl rfl<|VO.h0<|HO.st 0 (vs := [_,_]) (C' := [_,_]) (L' := [_,_,_,_,_,_,_]) N74 rfl rfl rfl rfl rfl rfl rfl rfl<|VO.n<|VC.q (VO.f (r := 1) F74_1 rfl rfl rfl<|VO.c 0 O72 rfl rfl ⟨_, rfl⟩ rfl<|VO.h rfl<|HO.callx (xs := [_]) (vs := [_]) C27 ⟨(.r rfl), trivial⟩ (fun w hw => Clone_c x.r.pix x.px x.cx w hxo.2 (hxo.1.keep w hw)) fun q _ => VO.f (r := 1) F74_1 rfl rfl rfl<|VO.h0<|HO.st 1 (vs := [_]) (C' := [_,_]) (L' := [_,_,_,_,_,_,_,_]) N72 rfl rfl rfl rfl rfl rfl rfl rfl<|VO.n<|VC.seq<|VC.drawH [[0,1,2,3,4,5,6,7], [0,1,2,3,4,5,6,7], [0,1,2,4,5,6,7], [0,1,4,5,6,7]] [some 2, some 1, some 1, some 1, some 1, some 1, some 0, none, none, some 2, some 2, some 2, none] mixed (by kernel_rfl) rfl (LX.m rfl rfl<|LX.m rfl rfl<|LX.l (fun _ hJ => LO.nc (.r rfl)) rfl<|LX.l (fun _ hJ => LO.fa (r := 0) F92_0 (.r rfl) rfl) rfl<|LX.l (fun _ hJ => LO.fa (r := 5) F28_1 (.r rfl) rfl) rfl<|LX.l (fun _ hJ => LO.ld O24 (.r rfl) (fun _ hw => cells_at (hJ _ hw) 2 rfl ⟨_, rfl⟩)) rfl<|LX.l (fun _ hJ => LO.lda (vs := [_,_]) A74 (.r rfl) (fun _ hw => cells_at (hJ _ hw) 1 rfl ⟨_, rfl⟩) rfl) rfl<|LX.s<|LX.s<|LX.l (fun _ hJ => LO.nc (.r rfl)) rfl<|LX.l (fun _ hJ => LO.fa (r := 0) F92_0 (.r rfl) rfl) rfl<|LX.l (fun _ hJ => LO.fa (r := 5) F28_1 (.r rfl) rfl) rfl<|LX.s<|LX.nil) (HX.s<|HX.s<|HX.s<|HX.s<|HX.s<|HX.s<|HX.s<|HX.h rfl<|HO.bs (ps := [(_,_)]) (vs := [(_,_)]) (Z := [_,_]) (C := [_,_]) S24 Z74 N74 ⟨(.r rfl), trivial⟩ rfl rfl rfl rfl ⟨_, [_,_], [_,_], rfl, rfl, rfl, rfl, rfl⟩ fun b15 => ⟨selJ (L1 := [_,_,_,_,_,_,_,_]) [1,2,3,4,5,6,7,8] rfl rfl rfl, HX.h rfl<|HO.appT ((RG.mk x.r q.1 q.2)) 4 0 (fun R => [_,_,_,_, R,_,_,_,_]) S24 S24 I74 (.r rfl) (.r rfl) rfl rfl rfl rfl rfl rfl rfl (fun _ => rfl) rfl (by omega) fun p8 c8 => ⟨selJ (L1 := [_,_,_,_,_,_,_]) [1,2,3,5,6,7,8] rfl rfl rfl, HX.s<|HX.s<|HX.s<|HX.h0<|HO.st 3 (vs := [_]) (C' := [_,_,_,_,_,_,_,_,_,_,_,_,_]) (L' := [_,_,_,_,_,_,_,_,_]) N24 rfl rfl rfl rfl rfl rfl rfl rfl<|⟨selJ (L1 := [_,_,_,_,_,_]) [1,2,5,6,7,8] rfl rfl rfl, HX.nil ?_⟩⟩⟩))))
   refine VE.seqN<|VC.drawH [[0,1,2,3,4,5,6,7,8], [0,1,2,3,4,5,6,7,8], [0,1,2,3,4,5,6,7,8], [0,1,2,3,4,5,7,8], [0,1,2,4,5,7,8]] [some 3, some 2, some 2, some 2, some 2, some 0, some 0, some 0, none, none, none, some 3, some 3, none] mixed (by kernel_rfl) rfl (LX.m rfl rfl<|LX.m rfl rfl<|LX.l (fun _ hJ => LO.nc (.r rfl)) rfl<|LX.l (fun _ hJ => LO.fa (r := 9) F92_1 (.r rfl) rfl) rfl<|LX.l (fun _ hJ => LO.ld O88 (.r rfl) (fun _ hw => cells_at (hJ _ hw) 3 rfl ⟨_, rfl⟩)) rfl<|LX.l (fun _ hJ => LO.lda (vs := [_,_]) A74 (.r rfl) (fun _ hw => cells_at (hJ _ hw) 2 rfl ⟨_, rfl⟩) rfl) rfl<|LX.m rfl rfl<|LX.l (fun _ hJ => LO.bd (ps := [(_,_), (_,_)]) (vs := [(_,_), (_,_)]) (C := [_,_,_,_,_,_]) B98  ⟨(.r rfl), (.r rfl), trivial⟩ rfl ⟨_, [_,_], [_,_,_,_,_,_], rfl, rfl, rfl, rfl, ⟨_, [_], [_,_,_,_,_,_], rfl, rfl, rfl, rfl, rfl⟩⟩) rfl<|LX.s<|LX.s<|LX.s<|LX.l (fun _ hJ => LO.nc (.r rfl)) rfl<|LX.l (fun _ hJ => LO.fa (r := 9) F92_1 (.r rfl) rfl) rfl<|LX.s<|LX.nil) (HX.s<|HX.s<|HX.s<|HX.s<|HX.s<|HX.s<|HX.s<|HX.s<|HX.h rfl<|HO.box (C := #[_,_,_,_,_,_]) rfl rfl fun b20 => ⟨selJ (L1 := [_,_,_,_,_,_,_,_,_]) [1,2,3,4,5,6,7,8,9] rfl rfl rfl, HX.h rfl<|HO.bs (ps := [(_,_)]) (vs := [(_,_)]) (Z := [_]) (C := [_]) S88 Z94 N94 ⟨(.r rfl), trivial⟩ rfl rfl rfl rfl ⟨_, [_], [_], rfl, rfl, rfl, rfl, rfl⟩ fun b21 => ⟨selJ (L1 := [_,_,_,_,_,_,_,_,_]) [2,3,4,5,6,7,8,9,10] rfl rfl rfl, HX.h rfl<|HO.appT ((RcM.mk (RG.mk x.r q.1 q.2) b20 i [] none 0 [] none 0 none)) 8 0 (fun R => [_,_,_,_,_,_,_,_, R,_,_]) S88 S88 I94 (.r rfl) (.r rfl) rfl rfl rfl rfl rfl rfl rfl (fun _ => rfl) rfl (by omega) fun p10 c10 => ⟨selJ (L1 := [_,_,_,_,_,_,_,_]) [2,3,4,5,6,7,9,10] rfl rfl rfl, HX.s<|HX.s<|HX.h0<|HO.st 5 (vs := [_]) (C' := [_,_,_,_,_,_,_,_,_,_,_,_,_]) (L' := [_,_,_,_,_,_,_,_,_,_,_]) N88 rfl rfl rfl rfl rfl rfl rfl rfl<|⟨selJ (L1 := [_,_,_,_,_,_,_]) [2,3,4,6,7,9,10] rfl rfl rfl, HX.nil ?_⟩⟩⟩⟩)
   refine VE.inN (VE.seqN<|VC.reg (VO.p rfl rfl (by omega) (by omega) rfl<|VO.m rfl rfl<|VO.nil<|VE.thenN fun a w ha hw => ⟨(i + 1, rgs ++ [RG.mk x.r q.1 q.2], p8, c8, rcs ++ [(RcM.mk (RG.mk x.r q.1 q.2) b20 i [] none 0 [] none 0 none)], p10, c10), ⟨by dsimp only; omega, by dsimp only; rw [List.map_append, hX, List.take_add_one, List.getElem?_map, hx]; rfl, fresh_add hF rfl (by dsimp only; omega) rfl rfl rfl⟩, (by dsimp only; omega), ha.sub (.c4 rfl rfl rfl rfl .nil), (by exact (St.bagPx (x := RG.mk x.r q.1 q.2) ((St.bagRc (r := (RcM.mk (RG.mk x.r q.1 q.2) b20 i [] none 0 [] none 0 none)) rfl rfl rfl rfl rfl rfl (selK (L1 := [_,_,_,_,_,_,_,_]) [1,9,3,7,5,6,8,10] rfl rfl _ hw)).sel [1,2,0,3,4,5,6] rfl)).sel [2,3,0,4,1,5] rfl)⟩))
  ·
   refine VC.exit (VE.thenX (VE.thenX (VE.inX (VE.seqN<|VC.q (VO.m rfl rfl<|VO.a rfl rfl<|VO.a rfl rfl<|VO.n<|VC.ret (VE.res (vs := [_,_]) rfl ⟨rfl, rfl, trivial⟩ (fun w hw => ?_)))))))
   exact ⟨(OfM.mk b2 g rgs pg_ cg_ a b d rcs pc_ cc_ [] none 0 [] none 0 [] none 0), ⟨rfl, rfl, rfl, rfl, rfl, rfl, rfl, rfl, by dsimp only; rw [hX, show i = l.length by omega, List.take_of_length_le (by simp)], hF⟩, rfl, (St.bagD (Rs := []) ((((selK (L1 := [_,_,_,_,_]) [0,1,2,3,4] rfl rfl _ hw).ownNil 3 1).ownNil 96 1 |> St.bagD (Rs := [])).ownNil 149 1)).sel [5,6,7,8,9,4,3,2,1,0] rfl⟩
theorem C30 : IsFn Tryz.prog 30 := ⟨_, Tryz.func30, by decide, rfl⟩
theorem F92_2 : FieldAt Tryz.prog 92 2 10 := ⟨_,_, Tryz.underlying92, rfl, rfl, 0, by kernel_rfl⟩
theorem F92_4 : FieldAt Tryz.prog 92 4 12 := ⟨_,_, Tryz.underlying92, rfl, rfl, 0, by kernel_rfl⟩
theorem O90 : IsOne Tryz.prog 90 := ⟨⟨_, Tryz.underlying90, rfl⟩, by kernel_rfl⟩
theorem S90 : IsSlice Tryz.prog 90 149 := Tryz.underlying90
theorem C36 : IsFn Tryz.prog 36 := ⟨_, Tryz.func36, by decide, rfl⟩
theorem C37 : IsFn Tryz.prog 37 := ⟨_, Tryz.func37, by decide, rfl⟩
theorem B118 : Builds Tryz.prog 118 [(0,1), (1,1)] [.int .i64 0, .slice none 0 0] := Builds.mk fun _ => by kernel_rfl
theorem Z149 : ZeroOf Tryz.prog 149 (.nilIface) := by unfold ZeroOf; kernel_rfl
theorem N149 : (Tryz.prog.info? 149).map (·.size) = some 1 := by kernel_rfl
theorem I149 : EInfo Tryz.prog 149 1 16 (.nilIface) := ⟨by kernel_rfl, by kernel_rfl, by unfold ZeroOf; kernel_rfl, rfl, by decide⟩
theorem N90 : (Tryz.prog.info? 90).map (·.size) = some 1 := by kernel_rfl
theorem Z57 : ZeroOf Tryz.prog 57 (.slice none 0 0) := by unfold ZeroOf; kernel_rfl
theorem O94 : IsOne Tryz.prog 94 := ⟨⟨_, Tryz.underlying94, rfl⟩, by kernel_rfl⟩
theorem F98_0 : FieldAt Tryz.prog 98 0 0 := ⟨_,_, Tryz.underlying98, rfl, rfl, 1, by kernel_rfl⟩
theorem C40 : IsFn Tryz.prog 40 := ⟨_, Tryz.func40, by decide, rfl⟩
theorem C39 : IsFn Tryz.prog 39 := ⟨_, Tryz.func39, by decide, rfl⟩
inductive RunP (sts : List (List Int)) (b H T : Int) (cs0 : List CsM) : List RcM → List RcM → List CsM → List Ev → Prop
  | nil : RunP sts b H T cs0 [] [] cs0 []
  | snoc {rs ds : List RcM} {cs : List CsM} {es : List Ev} {r : RcM} {y : MeetY} : RunP sts b H T cs0 rs ds cs es → MeetP r T H (thr sts r.x.r.pix b) cs es y → RunP sts b H T cs0 (rs ++ [r]) (ds ++ [y.r]) y.cs y.es
def CsKeep (cs cs' : List CsM) : Prop := ∀ (k : Nat) (c : CsM), cs[k]? = some c → ∃ c', cs'[k]? = some c' ∧ c'.b = c.b
theorem csKeep_refl (cs : List CsM) : CsKeep cs cs := fun k c h => ⟨c, h, rfl⟩
theorem csKeep_trans {a b c : List CsM} (h : CsKeep a b) (k : CsKeep b c) : CsKeep a c := fun i x hx => by
  obtain ⟨y, hy, e⟩ := h i x hx
  obtain ⟨z, hz, e2⟩ := k i y hy
  exact ⟨z, hz, e2.trans e⟩
theorem hand_keep {cs cs' : List CsM} {op op' : Option Nat} {x x' : Ev} (h : HandP cs op x cs' op' x') : CsKeep cs cs' ∧ cs'.length ≤ cs.length + 1 := by
  rcases h with ⟨_, b,_, rfl,_⟩ | ⟨_, k, c, hc,_,_, rfl,_⟩
  · refine ⟨fun i y hy => ⟨y, ?_, rfl⟩, by simp⟩
    rw [List.getElem?_append_left (List.getElem?_eq_some_iff.1 hy).1]; exact hy
  · refine ⟨fun i y hy => ?_, by simp⟩
    rw [List.getElem?_set]
    split
    · rename_i q
      subst q
      rw [hc] at hy; cases hy
      exact ⟨_, if_pos (List.getElem?_eq_some_iff.1 hc).1, rfl⟩
    · exact ⟨y, hy, rfl⟩
theorem meet_keep {r : RcM} {T H : Int} {t : Thr} {cs : List CsM} {es : List Ev} {y : MeetY} (h : MeetP r T H t cs es y) : CsKeep cs y.cs ∧ y.cs.length ≤ cs.length + 1 ∧ y.es.length ≤ es.length + 1 ∧ y.r.b = r.b := by
  obtain ⟨_, hb,_,_,_, q | q⟩ := h
  · obtain ⟨_,_, hc, he⟩ := q
    rw [hc, he]
    exact ⟨csKeep_refl _, by omega, by omega, hb⟩
  · obtain ⟨_, x', hh, he⟩ := q
    have := hand_keep hh
    exact ⟨this.1, this.2, by rw [he]; simp, hb⟩
theorem run_keep {sts : List (List Int)} {b H T : Int} {cs0 : List CsM} {rs ds : List RcM} {cs : List CsM} {es : List Ev} (h : RunP sts b H T cs0 rs ds cs es) : CsKeep cs0 cs ∧ cs.length ≤ cs0.length + rs.length ∧ es.length ≤ rs.length ∧ ds.map rcP = rs.map rcP ∧ ds.length = rs.length := by
  induction h with
  | nil => exact ⟨csKeep_refl _, by simp, by simp, rfl, rfl⟩
  | snoc h1 h2 ih =>
    have := meet_keep h2
    refine ⟨csKeep_trans ih.1 this.1, by simp; omega, by simp; omega, ?_, by simp [ih.2.2.2.2]⟩
    rw [List.map_append, List.map_append, ih.2.2.2.1]
    simp [rcP, this.2.2.2]
theorem St.recOut {β : Bs} {L : List Res} {ds rs : List RcM} {j : Nat} {r : RcM} {w : World} (hr : rs[j]? = some r) (h : St β (bagD (ds.map RcM.res ++ (rs.drop j).map RcM.res) :: L) w) : St β (r.blk :: r.rcR :: r.lvR :: bagD (ds.map RcM.res ++ (rs.drop (j + 1)).map RcM.res) :: L) w := by
  obtain ⟨hj, rfl⟩ := List.getElem?_eq_some_iff.1 hr
  rw [List.drop_eq_getElem_cons hj, List.map_cons] at h
  have h1 := h.focus
  exact St.unbagD (Rs := [(rs[j]).blk, (rs[j]).rcR, (rs[j]).lvR]) h1
theorem St.recIn {β : Bs} {L : List Res} {ds rs : List RcM} {j : Nat} (d : RcM) {w : World} (h : St β (d.blk :: d.rcR :: d.lvR :: bagD (ds.map RcM.res ++ (rs.drop (j + 1)).map RcM.res) :: L) w) : St β (bagD ((ds ++ [d]).map RcM.res ++ (rs.drop (j + 1)).map RcM.res) :: L) w := by
  have h1 : St β (d.res :: bagD (ds.map RcM.res ++ (rs.drop (j + 1)).map RcM.res) :: L) w := St.bagD (Rs := [d.blk, d.rcR, d.lvR]) h
  rw [List.map_append, List.append_assoc]
  exact h1.unfocus
theorem pix_read {w : World} {rs : List RG} {x : RG} (h : (bagD (rs.map pixR)).inv w) (hx : x ∈ rs) : Ints w x.px x.r.pix := own_inv_rows (h.1 _ (List.mem_map_of_mem hx))
structure StepY where
  ds : List RcM
  cs : List CsM
  pk : Option Addr
  ck : Nat
  es : List Ev
  pe : Option Addr
  ce : Nat
  pt : Option Addr
  ct : Nat
  lg : LgM
  pl : Option Addr
  cl : Nat
abbrev StepY.o (y : StepY) (o : OfM) (T : Int) : OfM := { o with rc := y.ds, ts := o.ts ++ [T], pt := y.pt, ct := y.ct, cs := y.cs, pk := y.pk, ck := y.ck, lg := o.lg ++ [y.lg], pl := y.pl, cl := y.cl }
def StepP (o : OfM) (T : Int) (l : List Cloud) (y : StepY) : Prop := RunP (lookL o.g l o.lead o.step) o.step o.hold T o.cs o.rc y.ds y.cs y.es ∧ ∃ p c m, y.lg = .st T p c m ∧ m.map CP.c = l
theorem Step_c (o : OfM) (T : Int) (m : List CP) (pm : Option Addr) (cm : Nat) (w : World) (hh : Has w (offR o)) (hcl : ∀ {L : List Res} {v : World}, St ⟨w, fpL (offR o)⟩ L v → Clouds v pm m) (hcn : m.length < 1000000000) (hok : specE o.sp = 0) (hlen : o.rc.length = o.rg.length) (hreg : ∀ r, r ∈ o.rc → r.x ∈ o.rg) (hpxb : ∀ x, x ∈ o.rg → x.r.pix.length < 1000000000000) (hrcb : ∀ r, r ∈ o.rc → r.rc.length < 1000000) (hlvb : ∀ r, r ∈ o.rc → r.lv.length < 1000000) (hop : ∀ r, r ∈ o.rc → lastI r.lv ≠ 0 → ∃ (k : Nat) (c : CsM), o.cs[k]? = some c ∧ r.op = some c.b) (hcsb : o.cs.length < 900000) (htsb : o.ts.length < 1000000) (hT1 : 0 ≤ T) (hT3 : T ≤ 4294967296) (hlate : o.ts = [] ∨ lastI o.ts < T) (hful : o.lg.length < 256) (hlk : lookE o.g (m.map CP.c) = 0) :
 Calls Tryz.prog 13 #[ptrN o.b, .int .i64 T, .slice pm m.length cm] w fun e w' => ∃ y : StepY, StepP o T (m.map CP.c) y ∧ e = .returned (.tuple #[.slice y.pe y.es.length y.ce, .int .i64 0]) ∧ St ⟨w, fpL (offR o)⟩ (own 84 7 y.pe y.ce (y.es.map evC) :: offR (y.o o T)) w' := by
 have hok2 := specOk hok
 obtain ⟨hgo, hN1, hN2, hpx, ⟨hr1, hr2⟩, ⟨hr3, hr4⟩, hr5, hr6⟩ := hok2
 simp only [OfM.sp] at hgo hN1 hN2 hpx hr1 hr2 hr3 hr4 hr5 hr6
 rw [List.length_map] at hN1 hN2
 have hpx2 : ∀ x, x ∈ o.rg → pixE o.g x.r.pix = 0 := fun x hx => by obtain ⟨k, hk⟩ := List.mem_iff_getElem?.1 hx; have := hpx k (by rw [List.length_map]; exact (List.getElem?_eq_some_iff.1 hk).1); rwa [getD_r hk] at this
 have hT2 : T ≤ 1000000000000 := by omega
 have hltl : ¬ (0 < o.ts.length ∧ T ≤ o.ts.getD (o.ts.length - 1) 0) := by rintro ⟨h1, h2⟩; rcases hlate with e | e; (· rw [e] at h1; simp at h1); (· unfold lastI at e; omega)
 refine enterO (vs := [_,_,_]) (env := [(0,_), (1,_), (2,_)]) hh.enter Tryz.func13 rfl rfl rfl rfl ?_
 refine VC.q (VO.h rfl<|HO.box (C := #[_]) rfl rfl fun b11 => VO.a rfl rfl<|VO.a rfl rfl<|VO.n<|VC.seq<|VC.block<|VC.q (VO.c 0 O32 rfl rfl ⟨_, rfl⟩ rfl<|VO.l (LO.call (xs := [_]) (vs := [_]) C30 ⟨(.r rfl), trivial⟩ (fun w hw => nothing_c o w (by omega) (cells_at hw 1 rfl ⟨_, rfl⟩))) rfl<|VO.a rfl rfl<|VO.n<|VC.cond rfl (fun h15 => ?_) (fun h15 => ?_)))
 · (exfalso; omega)
 ·
  refine VC.q (VO.m rfl rfl<|VO.l (LO.call (xs := [_,_,_]) (vs := [_,_,_]) C31 ⟨(.r rfl), (.r rfl), (.r rfl), trivial⟩ (fun w _ => iwithin_c _ _ _ w)) rfl<|VO.l (LO.not (.r rfl)) rfl<|VO.a rfl rfl<|VO.n<|VC.cond rfl (fun h18 => ?_) (fun h18 => ?_))
  · (exfalso; omega)
  ·
   refine VC.seq<|VC.draw mixed (LL.l (LO.ld O32 (.r rfl) (cells_blk 0 rfl ⟨_, rfl⟩)) rfl<|LL.l (LO.nc (.r rfl)) rfl<|LL.l (LO.fa (r := 10) F92_2 (.r rfl) rfl) rfl<|LL.l (LO.ld O72 (.r rfl) (cells_blk 1 rfl ⟨_, rfl⟩)) rfl<|LL.l (LO.len S72 (.r rfl) rfl) rfl<|LL.l (LO.gt (.r rfl) (.r rfl)) rfl<|LL.m rfl rfl<|LL.gt rfl rfl (fun hg => LO.mv (.r rfl)) rfl<|LL.gt rfl rfl (fun hg => LO.ld O32 (.r rfl) (cells_blk 0 rfl ⟨_, rfl⟩)) rfl<|LL.gt rfl rfl (fun hg => LO.nc (.g hg rfl)) rfl<|LL.gt rfl rfl (fun hg => LO.fa (r := 10) F92_2 (.g hg rfl) rfl) rfl<|LL.gt rfl rfl (fun hg => LO.ld O72 (.g hg rfl) (cells_blk 1 rfl ⟨_, rfl⟩)) rfl<|LL.gt rfl rfl (fun hg => LO.ld O32 (.r rfl) (cells_blk 0 rfl ⟨_, rfl⟩)) rfl<|LL.gt rfl rfl (fun hg => LO.nc (.g hg rfl)) rfl<|LL.gt rfl rfl (fun hg => LO.fa (r := 10) F92_2 (.g hg rfl) rfl) rfl<|LL.gt rfl rfl (fun hg => LO.ld O72 (.g hg rfl) (cells_blk 1 rfl ⟨_, rfl⟩)) rfl<|LL.gt rfl rfl (fun hg => LO.len S72 (.g hg rfl) rfl) rfl<|LL.gt rfl rfl (fun hg => LO.sub (.g hg rfl) (.r rfl) (wi (by omega) (by omega))) rfl<|LL.gt rfl rfl (fun hg => LO.ixo S72 N3 (fun _ hw => (own_rows hw 6 rfl).some (by rw [List.length_map])) (.g hg rfl) (.g hg rfl) (by have := of_decide_eq_true hg; omega) (by have := of_decide_eq_true hg; omega)) rfl<|LL.gt rfl rfl (fun hg => LO.ld O3 (.g hg rfl) (fun w hw => cells_part (off := 0) (own_cell hw 6 rfl (getD_some (d := (0 : Int)) (j := o.ts.length - 1) (by have := of_decide_eq_true hg; omega))) ⟨_, rfl⟩)) rfl<|LL.gt rfl rfl (fun hg => LO.le (.g hg rfl) (.g hg rfl)) rfl<|LL.l (LO.pkA (.r rfl) rfl rfl (.r rfl)) rfl<|LL.l (LO.as (.r rfl)) rfl<|LL.nil) (by kernel_rfl)<|VE.seqN<|VC.cond rfl (fun h22 => ?_) (fun h22 => ?_)
   · (exfalso; exact hltl (by omega))
   ·
    refine VC.q (VO.c 0 O32 rfl rfl ⟨_, rfl⟩ rfl<|VO.l (LO.nc (.r rfl)) rfl<|VO.f (r := 12) F92_4 rfl rfl rfl<|VO.c 1 O90 rfl rfl ⟨_, rfl⟩ rfl<|VO.l (LO.len S90 (.r rfl) rfl) rfl<|VO.l (LO.ge (.r rfl) (.r rfl)) rfl<|VO.a rfl rfl<|VO.n<|VC.cond rfl (fun h45 => ?_) (fun h45 => ?_))
    · (exfalso; omega)
    ·
     refine VC.skip (VE.inN (VE.seqN<|VC.q (VO.c 0 O32 rfl rfl ⟨_, rfl⟩ rfl<|VO.l (LO.nc (.r rfl)) rfl<|VO.f (r := 0) F92_0 rfl rfl rfl<|VO.l (LO.lda (vs := [_,_,_,_,_,_,_,_,_]) A28 (.r rfl) (cells_blk 1 rfl ⟨_, rfl⟩) rfl) rfl<|VO.m rfl rfl<|VO.h rfl<|HO.callx (xs := [_,_]) (vs := [_,_]) C36 ⟨(.r rfl), (.r rfl), trivial⟩ (fun w hw => look_c o.g o.pg o.rg.length o.cg o.lead o.step o.hold m pm cm w hr1 hr2 hr3 hr4 (by omega) (hcl hw)) fun q hq => VO.h rfl<|HO.lo (LO.mv (.r rfl))<|VO.h rfl<|HO.lo (LO.ex (.r rfl) rfl)<|VO.h rfl<|HO.lo (LO.ex (.r rfl) rfl)<|VO.h rfl<|HO.lo (LO.as (.r rfl))<|VO.h rfl<|HO.lo (LO.as (.r rfl))<|VO.n<|VC.seq<|VC.q (VO.m rfl rfl<|VO.u rfl rfl rfl<|VO.n<|VC.cond rfl (fun h62 => ?_) (fun h62 => ?_)))))
     · (exfalso; exact h62 hlk)
     ·
      refine VC.skip (VE.seqN<|VC.seq ?_)
      have hql0 : q.2.length ≤ 241 := by rw [← lsI_len, hq]; unfold lookL; rw [if_neg (by omega), lookI_len]; exact (look_bd hr1 hr2 hr3 hr4 (Nat.le_refl _)).2.2
      refine VC.drawH [[0,1,2,3,4,5,6,7,8,9,10,11,12], [0,1,2,3,4,5,6,7,8,9,10,11,12], [0,1,2,3,4,5,6,7,9,10,11,12], [0,1,2,4,5,6,7,9,10,11,12]] [some 2, some 1, some 1, some 1, some 1, some 0, none, none, some 2, some 2, none] mixed (by kernel_rfl) rfl (LX.l (fun _ hJ => LO.ld O32 (.r rfl) (fun _ hw => cells_at (hJ _ hw) 2 rfl ⟨_, rfl⟩)) rfl<|LX.l (fun _ hJ => LO.ld O32 (.r rfl) (fun _ hw => cells_at (hJ _ hw) 2 rfl ⟨_, rfl⟩)) rfl<|LX.l (fun _ hJ => LO.nc (.r rfl)) rfl<|LX.l (fun _ hJ => LO.fa (r := 10) F92_2 (.r rfl) rfl) rfl<|LX.l (fun _ hJ => LO.ld O72 (.r rfl) (fun _ hw => cells_at (hJ _ hw) 3 rfl ⟨_, rfl⟩)) rfl<|LX.m rfl rfl<|LX.s<|LX.s<|LX.l (fun _ hJ => LO.nc (.r rfl)) rfl<|LX.l (fun _ hJ => LO.fa (r := 10) F92_2 (.r rfl) rfl) rfl<|LX.s<|LX.nil) (HX.s<|HX.s<|HX.s<|HX.s<|HX.s<|HX.s<|HX.h rfl<|HO.bs (ps := [(_,_)]) (vs := [(_,_)]) (Z := [_]) (C := [_]) S72 Z3 N3 ⟨(.r rfl), trivial⟩ rfl rfl rfl rfl ⟨_, [_], [_], rfl, rfl, rfl, rfl, rfl⟩ fun b16 => ⟨selJ (L1 := [_,_,_,_,_,_,_,_,_,_,_,_,_]) [1,2,3,4,5,6,7,8,9,10,11,12,13] rfl rfl rfl, HX.h rfl<|HO.appT (T) 9 0 (fun R => [_,_,_,_,_,_,_,_,_, R,_,_,_,_]) S72 S72 I3 (.r rfl) (.r rfl) rfl rfl rfl rfl rfl rfl rfl (fun _ => rfl) rfl (by omega) fun p7 c7 => ⟨selJ (L1 := [_,_,_,_,_,_,_,_,_,_,_,_]) [1,2,3,4,5,6,7,8,10,11,12,13] rfl rfl rfl, HX.s<|HX.s<|HX.h0<|HO.st 4 (vs := [_]) (C' := [_,_,_,_,_,_,_,_,_,_,_,_,_]) (L' := [_,_,_,_,_,_,_,_,_,_,_,_,_,_]) N72 rfl rfl rfl rfl rfl rfl rfl rfl<|⟨selJ (L1 := [_,_,_,_,_,_,_,_,_,_,_]) [1,2,3,5,6,7,8,10,11,12,13] rfl rfl rfl, HX.nil ?_⟩⟩⟩)
      refine VE.seqN<|VC.seq<|VC.drawH [[0,1,2,3,4,5,6,7,8,9,10,11,12,13], [0,1,2,3,4,5,6,7,8,9,10,11,12,13], [0,1,2,3,4,5,6,7,8,9,10,11,12,13], [0,1,2,3,4,5,6,7,8,9,10,11,12,13], [0,1,2,3,4,5,6,7,8,9,10,11,12,13], [0,1,2,3,4,5,6,7,8,9,10,11,13], [0,1,2,3,5,6,7,8,9,10,11,13]] [some 5, some 4, some 4, some 4, some 4, some 1, some 0, none, none, none, none, none, some 5, some 5, none] mixed (by kernel_rfl) rfl (LX.l (fun _ hJ => LO.ld O32 (.r rfl) (fun _ hw => cells_at (hJ _ hw) 3 rfl ⟨_, rfl⟩)) rfl<|LX.l (fun _ hJ => LO.ld O32 (.r rfl) (fun _ hw => cells_at (hJ _ hw) 3 rfl ⟨_, rfl⟩)) rfl<|LX.l (fun _ hJ => LO.nc (.r rfl)) rfl<|LX.l (fun _ hJ => LO.fa (r := 12) F92_4 (.r rfl) rfl) rfl<|LX.l (fun _ hJ => LO.ld O90 (.r rfl) (fun _ hw => cells_at (hJ _ hw) 4 rfl ⟨_, rfl⟩)) rfl<|LX.m rfl rfl<|LX.m rfl rfl<|LX.s<|LX.s<|LX.s<|LX.s<|LX.s<|LX.l (fun _ hJ => LO.nc (.r rfl)) rfl<|LX.l (fun _ hJ => LO.fa (r := 12) F92_4 (.r rfl) rfl) rfl<|LX.s<|LX.nil) (HX.s<|HX.s<|HX.s<|HX.s<|HX.s<|HX.s<|HX.s<|HX.h rfl<|HO.callx (xs := [_]) (vs := [_]) C37 ⟨(.r rfl), trivial⟩ (fun w hw => own_c m pm cm w hcn (hcl hw)) fun ql hql => ⟨selJ (L1 := [_,_,_,_,_,_,_,_,_,_,_,_,_,_]) [2,3,4,5,6,7,8,9,10,11,12,13,14,15] rfl rfl rfl, HX.h rfl<|HO.lo (LO.bd (ps := [(_,_), (_,_)]) (vs := [(_,_), (_,_)]) (C := [_,_]) B118  ⟨(.r rfl), (.r rfl), trivial⟩ rfl ⟨_, [_], [_,_], rfl, rfl, rfl, rfl, ⟨_, [_], [_,_], rfl, rfl, rfl, rfl, rfl⟩⟩)<|⟨selJ (L1 := [_,_,_,_,_,_,_,_,_,_,_,_,_,_]) [2,3,4,5,6,7,8,9,10,11,12,13,14,15] rfl rfl rfl, HX.h rfl<|HO.lo (LO.mi ⟨_, Tryz.underlying118, rfl⟩ (.r rfl))<|⟨selJ (L1 := [_,_,_,_,_,_,_,_,_,_,_,_,_,_]) [2,3,4,5,6,7,8,9,10,11,12,13,14,15] rfl rfl rfl, HX.h rfl<|HO.bs (ps := [(_,_)]) (vs := [(_,_)]) (Z := [_]) (C := [_]) S90 Z149 N149 ⟨(.r rfl), trivial⟩ rfl rfl rfl rfl ⟨_, [_], [_], rfl, rfl, rfl, rfl, rfl⟩ fun b24 => ⟨selJ (L1 := [_,_,_,_,_,_,_,_,_,_,_,_,_,_]) [3,4,5,6,7,8,9,10,11,12,13,14,15,16] rfl rfl rfl, HX.h rfl<|HO.appT ((LgM.st T ql.1.1 ql.1.2 ql.2)) 15 0 (fun R => [_,_,_,_,_,_,_,_,_,_,_,_,_,_,_, R,_]) S90 S90 I149 (.r rfl) (.r rfl) rfl rfl rfl rfl rfl rfl rfl (fun _ => rfl) rfl (by omega) fun p11 c11 => ⟨selJ (L1 := [_,_,_,_,_,_,_,_,_,_,_,_,_]) [3,4,5,6,7,8,9,10,11,12,13,14,16] rfl rfl rfl, HX.s<|HX.s<|HX.h0<|HO.st 7 (vs := [_]) (C' := [_,_,_,_,_,_,_,_,_,_,_,_,_]) (L' := [_,_,_,_,_,_,_,_,_,_,_,_,_,_,_,_,_]) N90 rfl rfl rfl rfl rfl rfl rfl rfl<|⟨selJ (L1 := [_,_,_,_,_,_,_,_,_,_,_,_]) [3,4,5,6,8,9,10,11,12,13,14,16] rfl rfl rfl, HX.nil ?_⟩⟩⟩⟩⟩⟩)
      refine VE.seqN<|VC.q (VO.h rfl<|HO.alloc (C := #[_]) Z57 rfl fun b26 => VO.n<|VC.q (VO.h rfl<|HO.lo (LO.mf (cap := [_,_]) ⟨(.r rfl), (.r rfl), trivial⟩)<|VO.h rfl<|HO.lo (LO.as (.r rfl))<|VO.n<|VC.seq<|VC.q (VO.c 7 O32 rfl rfl ⟨_, rfl⟩ rfl<|VO.l (LO.nc (.r rfl)) rfl<|VO.f (r := 9) F92_1 rfl rfl rfl<|VO.c 8 O88 rfl rfl ⟨_, rfl⟩ rfl<|VO.l (LO.len S88 (.r rfl) rfl) rfl<|VO.m rfl rfl<|VO.n<|VC.block<|VC.perm [0,8,14,15,12,1,2,3,4,5,6,7,9,10,11,13,16,17] rfl ?_)))
      refine VC.loopK (α := Nat × (List RcM) × (List CsM) × (Option Addr) × Nat × (List Ev) × (Option Addr) × Nat) 5 (fun gx => [(94, .int .i64 (gx.1 : Nat))]) [(1,_), (3,_), (8,_), (10,_), (11,_), (92,_), (93,_)] (fun gx => [blk b26 (.cells #[.slice gx.2.2.2.2.2.2.1 gx.2.2.2.2.2.1.length gx.2.2.2.2.2.2.2] 57), own 84 7 gx.2.2.2.2.2.2.1 gx.2.2.2.2.2.2.2 (gx.2.2.2.2.2.1.map evC), OfM.blk { o with ts := o.ts ++ [T], pt := p7, ct := c7, lg := o.lg ++ [LgM.st T ql.1.1 ql.1.2 ql.2], pl := p11, cl := c11, cs := gx.2.2.1, pk := gx.2.2.2.1, ck := gx.2.2.2.2.1 }, own 96 1 gx.2.2.2.1 gx.2.2.2.2.1 (gx.2.2.1.map csP), bagD (gx.2.2.1.map CsM.blk), bagD (gx.2.1.map RcM.res ++ (o.rc.drop gx.1).map RcM.res)]) (fun gx => gx.1 ≤ o.rc.length ∧ RunP (lsI q.2) o.step o.hold T o.cs (o.rc.take gx.1) gx.2.1 gx.2.2.1 gx.2.2.2.2.2.1) (fun gx => o.rc.length - gx.1) (0, [], o.cs, o.pk, o.ck, [], none, 0) (by exact ⟨Nat.zero_le _, .nil⟩) (.c4 rfl rfl rfl rfl (.c4 rfl rfl rfl rfl .nil)) (fun _ h => ((h.ownNil 84 7)).sel [1,0,2,3,4,5,6,7,8,9,10,11,12,13,14,15,16,17,18] rfl) ?_
      rintro ⟨j, ds, cs_, pk_, ck_, es_, pe_, ce_⟩ ⟨hj, hR⟩
      show VC _ _ _ _ _ ([(94, .int .i64 (j : Nat))] ++ _) ([blk b26 (.cells #[.slice pe_ es_.length ce_] 57), own 84 7 pe_ ce_ (es_.map evC), OfM.blk { o with ts := o.ts ++ [T], pt := p7, ct := c7, lg := o.lg ++ [LgM.st T ql.1.1 ql.1.2 ql.2], pl := p11, cl := c11, cs := cs_, pk := pk_, ck := ck_ }, own 96 1 pk_ ck_ (cs_.map csP), bagD (cs_.map CsM.blk), bagD (ds.map RcM.res ++ (o.rc.drop j).map RcM.res)] ++ _) _ _
      dsimp only at hj hR
      have hkp := run_keep hR
      have hkl : (o.rc.take j).length = j := by rw [List.length_take]; omega
      rw [hkl] at hkp
      refine VC.q (VO.t rfl rfl rfl<|VO.n<|VC.seq<|VC.cond rfl (fun h95 => ?_) (fun h95 => ?_))
      ·
       obtain ⟨r, hr⟩ : ∃ r, o.rc[j]? = some r := ⟨_, List.getElem?_eq_getElem (by omega)⟩
       have hrm : r ∈ o.rc := List.mem_of_getElem? hr
       have hrx := hreg r hrm
       refine VC.skip (VE.seqN<|VC.seq<|VC.block<|VC.q (VO.l (LO.ixo S88 N94 (fun _ hw => (own_rows hw 15 rfl).some (by rw [List.length_map])) (.r rfl) (.r rfl) rfl (by omega)) rfl<|VO.l (LO.ld O94 (.r rfl) (fun w hw => cells_part (off := 0) (own_cell hw 15 rfl hr) ⟨_, rfl⟩)) rfl<|VO.a rfl rfl<|VO.nil<|VE.resL (fun w hw => St.recOut hr (selK (L1 := [_,_,_,_,_,_,_,_,_,_,_,_,_,_,_,_,_,_,_]) [5,0,1,2,3,4,6,7,8,9,10,11,12,13,14,15,16,17,18] rfl rfl _ hw))<|VE.seqN<|VC.q (VO.m rfl rfl<|VO.l (LO.mf2 (first := [_]) (cap := []) ⟨(.r rfl), trivial⟩ trivial) rfl<|VO.h rfl<|HO.lo (LO.as (.r rfl))<|VO.n<|VC.drawH [[0,1,2,3,4,5,6,7,8,9,10,11,12,13,14,15,16,17,18,19,20,21], [3,9,10,11,12,13,14,16,17,18,19,20,21]] [some 0, some 0, some 0, some 0, some 0, some 0, some 0, some 0, some 0, some 0, some 0, some 0, some 0, some 0, some 0, some 0, some 0, some 0, some 0, some 0, some 0, none] mixed (by kernel_rfl) rfl (LX.m rfl rfl<|LX.m rfl rfl<|LX.l (fun _ hJ => LO.nc (.r rfl)) rfl<|LX.l (fun _ hJ => LO.fa (r := 0) F98_0 (.r rfl) rfl) rfl<|LX.l (fun _ hJ => LO.lda (vs := [_,_]) A74 (.r rfl) (fun _ hw => cells_at (hJ _ hw) 0 rfl ⟨_, rfl⟩) rfl) rfl<|LX.m rfl rfl<|LX.l (fun _ hJ => LO.ld O32 (.r rfl) (fun _ hw => cells_at (hJ _ hw) 15 rfl ⟨_, rfl⟩)) rfl<|LX.l (fun _ hJ => LO.nc (.r rfl)) rfl<|LX.l (fun _ hJ => LO.fa (r := 0) F92_0 (.r rfl) rfl) rfl<|LX.l (fun _ hJ => LO.fa (r := 6) F28_2 (.r rfl) rfl) rfl<|LX.l (fun _ hJ => LO.fa (r := 7) F26_1 (.r rfl) rfl) rfl<|LX.l (fun _ hJ => LO.ld O3 (.r rfl) (fun _ hw => cells_at (hJ _ hw) 6 rfl ⟨_, rfl⟩)) rfl<|LX.l (fun _ hJ => LO.call (xs := [_,_,_]) (vs := [_,_,_]) C40 ⟨(.r rfl), (.r rfl), (.r rfl), trivial⟩ (fun w hw => threat_c r.x q.2 _ _ o.step w (pix_read (St.inv (hJ _ hw) 17 _ rfl) hrx) (hpxb r.x hrx) (RR.of_own (hJ _ hw) 13 14 rfl rfl) (by omega) (by omega) hr4 (look_pix hr1 hr2 hr3 hr4 hq hlk (hpx2 r.x hrx) hgo))) rfl<|LX.m rfl rfl<|LX.l (fun _ hJ => LO.ld O32 (.r rfl) (fun _ hw => cells_at (hJ _ hw) 15 rfl ⟨_, rfl⟩)) rfl<|LX.l (fun _ hJ => LO.nc (.r rfl)) rfl<|LX.l (fun _ hJ => LO.fa (r := 0) F92_0 (.r rfl) rfl) rfl<|LX.l (fun _ hJ => LO.fa (r := 6) F28_2 (.r rfl) rfl) rfl<|LX.l (fun _ hJ => LO.fa (r := 8) F26_2 (.r rfl) rfl) rfl<|LX.l (fun _ hJ => LO.ld O3 (.r rfl) (fun _ hw => cells_at (hJ _ hw) 6 rfl ⟨_, rfl⟩)) rfl<|LX.m rfl rfl<|LX.s<|LX.nil) (HX.s<|HX.s<|HX.s<|HX.s<|HX.s<|HX.s<|HX.s<|HX.s<|HX.s<|HX.s<|HX.s<|HX.s<|HX.s<|HX.s<|HX.s<|HX.s<|HX.s<|HX.s<|HX.s<|HX.s<|HX.s<|HX.h rfl<|HO.callP (first := [_]) (cap := []) (xs := [_,_,_,_]) (vs := [_,_,_,_]) [_,_,_,_,_,_,_,_,_] [_,_,_,_,_,_,_,_,_,_,_,_,_] (selK (L1 := [_,_,_,_,_,_,_,_,_] ++ [_,_,_,_,_,_,_,_,_,_,_,_,_]) [15,4,5,6,7,8,0,1,2,3,9,10,11,12,13,14,16,17,18,19,20,21] rfl rfl) (.r rfl) C39 ⟨(.r rfl), (.r rfl), (.r rfl), (.r rfl), trivial⟩ (fun w _ hh => meet_c { o with ts := o.ts ++ [T], pt := p7, ct := c7, lg := o.lg ++ [LgM.st T ql.1.1 ql.1.2 ql.2], pl := p11, cl := c11, cs := cs_, pk := pk_, ck := ck_ } r (thr (lsI q.2) r.x.r.pix o.step) T o.hold es_ pe_ ce_ b11 b26 w (by show cs_.length < 1000000; omega) (by omega) (hrcb r hrm) (hlvb r hrm) hT1 hT2 hr5 (by omega) (fun hq => by obtain ⟨k, c, hc, he⟩ := hop r hrm hq; obtain ⟨c', h1, h2⟩ := hkp.1 k c hc; exact ⟨k, c', h1, by rw [he, h2]⟩) hh) fun y hy => ⟨selJ (L1 := [_,_,_,_,_,_,_,_,_,_,_,_,_]) [9,10,11,12,13,14,15,16,17,18,19,20,21] rfl rfl rfl, HX.nil ?_⟩))))
       refine VE.inN (VE.seqN<|VC.reg (VO.p rfl rfl (by omega) (by omega) rfl<|VO.m rfl rfl<|VO.nil<|VE.thenN fun a w ha hw => ⟨(j + 1, ds ++ [y.r], y.cs, y.pk, y.ck, y.es, y.pe, y.ce), ⟨by dsimp only; omega, by dsimp only; rw [List.take_add_one, hr]; exact .snoc hR hy⟩, (by dsimp only; omega), ha.sub (.c4 rfl rfl rfl rfl (.c4 rfl rfl rfl rfl .nil)), (by exact selK (L1 := [_,_,_,_,_,_,_,_,_,_,_,_,_,_,_,_,_,_,_]) [1,2,3,4,5,0,6,7,8,9,10,11,12,13,14,15,16,17,18] rfl rfl _ (St.recIn y.r (selK (L1 := [_,_,_,_,_,_,_,_,_,_,_,_,_,_,_,_,_,_,_,_,_,_]) [6,7,8,9,1,2,3,4,5,10,11,12,13,14,15,0,16,17,18,19,20,21] rfl rfl _ hw)))⟩))
      ·
       refine VC.exit (VE.thenX (VE.thenX (VE.inX (VE.seqN<|VC.q (VO.c 0 O57 rfl rfl ⟨_, rfl⟩ rfl<|VO.a rfl rfl<|VO.a rfl rfl<|VO.n<|VC.ret (VE.res (vs := [_,_]) rfl ⟨rfl, rfl, trivial⟩ (fun w hw => ?_)))))))
       have hje : j = o.rc.length := by omega
       have hds : o.rc.take j = o.rc := by rw [hje, List.take_length]
       rw [hds] at hR
       have hk2 := run_keep hR
       refine ⟨⟨ds, cs_, pk_, ck_, es_, pe_, ce_, p7, c7, LgM.st T ql.1.1 ql.1.2 ql.2, p11, c11⟩, ⟨by rw [← hq]; exact hR,_,_,_, rfl, hql⟩, rfl, ?_⟩
       have e1 : o.lg.flatMap LgM.res ++ [own 81 7 ql.1.1 ql.1.2 (ql.2.map CP.cells), bagD (ql.2.flatMap cpR)] = (o.lg ++ [LgM.st T ql.1.1 ql.1.2 ql.2]).flatMap LgM.res := by rw [List.flatMap_append]; rfl
       have e2 : ds.map RcM.res ++ (o.rc.drop j).map RcM.res = ds.map RcM.res := by rw [hje, List.drop_length]; simp
       have e3 : ds.length = o.rc.length := hk2.2.2.2.2
       show St _ [own 84 7 pe_ ce_ (es_.map evC), Go.SL.blk o.b (.cells #[_,_,_,_,_,_,_,_,_, .slice o.pc ds.length o.cc,_,_,_] 92), o.rgR, o.pxB, own 94 1 o.pc o.cc (ds.map rcP), bagD (ds.map RcM.res), own 3 1 p7 c7 ((o.ts ++ [T]).map iC), own 96 1 pk_ ck_ (cs_.map csP), bagD (cs_.map CsM.blk), own 149 1 p11 c11 ((o.lg ++ [LgM.st T ql.1.1 ql.1.2 ql.2]).map LgM.val), bagD ((o.lg ++ [LgM.st T ql.1.1 ql.1.2 ql.2]).flatMap LgM.res)] _
       rw [← e1, ← e2, hk2.2.2.2.1, e3]
       exact (St.bagAdd2 (selK (L1 := [_,_,_,_,_,_,_,_,_,_,_,_,_]) [7,8,18,1,2,13,14,15,5,16,3,4,17] rfl rfl _ hw)).sel [1,2,3,4,5,6,7,8,9,10,0] rfl
theorem B77 : Builds Tryz.prog 77 [(0,1), (1,1)] [.int .i64 0, .int .i64 0] := Builds.mk fun _ => by kernel_rfl
theorem C53 : IsFn Tryz.prog 53 := ⟨_, Tryz.func53, by decide, rfl⟩
theorem B79 : Builds Tryz.prog 79 [(0,2), (2,2)] [.int .i64 0, .int .i64 0, .int .i64 0, .int .i64 0] := Builds.mk fun _ => by kernel_rfl
theorem B81 : Builds Tryz.prog 81 [(0,1), (1,1), (2,4), (6,1)] [.slice none 0 0, .slice none 0 0, .int .i64 0, .int .i64 0, .int .i64 0, .int .i64 0, .int .i64 0] := Builds.mk fun _ => by kernel_rfl
theorem C22 : IsFn Tryz.prog 22 := ⟨_, Tryz.func22, by decide, rfl⟩
theorem Z28 : ZeroOf Tryz.prog 28 (.agg #[.int .i64 0, .int .i64 0, .int .i64 0, .int .i64 0, .int .i64 0, .slice none 0 0, .int .i64 0, .int .i64 0, .int .i64 0]) := by unfold ZeroOf; kernel_rfl
theorem B23 : Builds Tryz.prog 23 [(0,1), (1,1), (2,1), (3,1), (4,1)] [.int .i64 0, .int .i64 0, .int .i64 0, .int .i64 0, .int .i64 0] := Builds.mk fun _ => by kernel_rfl
theorem B74 : Builds Tryz.prog 74 [(0,1), (1,1)] [.string ByteArray.empty, .slice none 0 0] := Builds.mk fun _ => by kernel_rfl
theorem B26 : Builds Tryz.prog 26 [(0,1), (1,1), (2,1)] [.int .i64 0, .int .i64 0, .int .i64 0] := Builds.mk fun _ => by kernel_rfl
theorem B28 : Builds Tryz.prog 28 [(0,5), (5,1), (6,3)] [.int .i64 0, .int .i64 0, .int .i64 0, .int .i64 0, .int .i64 0, .slice none 0 0, .int .i64 0, .int .i64 0, .int .i64 0] := Builds.mk fun _ => by kernel_rfl
theorem N28 : (Tryz.prog.info? 28).map (·.size) = some 9 := by kernel_rfl
theorem rec_read {w : World} {o : OfM} (hh : Has w (offR o)) {r : RcM} (hr : r ∈ o.rc) : Cells w ⟨r.b, 0, none⟩ r.C ∧ RO 2 rchC w r.pr r.rc ∧ RO 1 iC w r.pv r.lv := by
  have h1 := (St.inv hh 4 _ rfl).1 _ (List.mem_map_of_mem (f := RcM.res) hr)
  exact ⟨cells_inv (h1.1 r.blk (by simp)), own_inv_rows (h1.1 r.rcR (by simp)), own_inv_rows (h1.1 r.lvR (by simp))⟩
theorem off_cells {w : World} {o : OfM} (hh : Has w (offR o)) : Cells w ⟨o.b, 0, none⟩ o.C := cells_inv (St.inv hh 0 _ rfl)
def levelsL (o : OfM) : List Int := o.rc.map fun r => lastI r.lv
theorem restInv {β : Bs} {R rest L : List Res} {w v : World} (h : St β (R ++ rest) w) (hs : St ⟨w, fpL R⟩ L v) {r : Res} (hr : r ∈ rest) : r.inv v := (h.callG (fun k hk => hk) hs).mem (List.mem_append_right _ hr)
def cD : Cloud := ⟨[7,8], [6,7,8], ⟨3000,3000,0,0⟩, 0⟩
def sEast : ByteArray := ⟨#[101,97,115,116]⟩
def sWest : ByteArray := ⟨#[119,101,115,116]⟩
theorem Levels_c (o : OfM) (w : World) (hn : o.rc.length < 1000000) (hp : 0 < o.rc.length) (hlv : ∀ r, r ∈ o.rc → r.lv.length < 1000000000000) (hh : Has w (offR o)) :
 Calls Tryz.prog 25 #[ptrN o.b] w fun e w' => ∃ x : Option Addr × Nat, True ∧ e = .returned (.slice x.1 (levelsL o).length x.2) ∧ St (bs w) [own 3 1 x.1 x.2 ((levelsL o).map iC)] w' := by
 have hrr : RO 1 rcP w o.pc o.rc := RO.of_own hh 3 rfl
 refine enter (vs := [_]) (env := [(0,_)]) Tryz.func25 rfl rfl rfl rfl ?_
 refine VC.q (VO.a rfl rfl<|VO.n<|VC.seq<|VC.q (VO.m rfl rfl<|VO.l (LO.call (xs := [_]) (vs := [_]) C30 ⟨(.r rfl), trivial⟩ (fun w hw => nothing_c o w (by omega) (off_cells (hh.keep hw)))) rfl<|VO.n<|VC.cond rfl (fun h7 => ?_) (fun h7 => ?_)))
 · (exfalso; omega)
 ·
  refine VC.skip (VE.seqN<|VC.q (VO.a rfl rfl<|VO.n<|VC.seq<|VC.q (VO.m rfl rfl<|VO.l (LO.nc (.r rfl)) rfl<|VO.f (r := 9) F92_1 rfl rfl rfl<|VO.l (LO.ld O88 (.r rfl) (cells_keep (sub_cells (off := 9) (off_cells hh) ⟨_, rfl⟩))) rfl<|VO.l (LO.len S88 (.r rfl) rfl) rfl<|VO.m rfl rfl<|VO.n<|VC.block<|VC.loopK (α := Nat × (List Int) × (Option Addr) × Nat) 0 (fun gx => [(3, .slice gx.2.2.1 gx.2.1.length gx.2.2.2), (13, .int .i64 (gx.1 : Nat))]) [(11,_), (12,_)] (fun gx => [own 3 1 gx.2.2.1 gx.2.2.2 (gx.2.1.map iC)]) (fun gx => gx.1 ≤ o.rc.length ∧ gx.2.1 = (levelsL o).take gx.1) (fun gx => o.rc.length - gx.1) (0, [], none, 0) (by exact ⟨Nat.zero_le _, rfl⟩) (.c4 rfl rfl rfl rfl .nil) (fun _ h => (h.ownNil 3 1)) ?_)))
  rintro ⟨j, xs, px_, cx_⟩ ⟨hj, hX⟩
  show VC _ _ _ _ _ ([(3, .slice px_ xs.length cx_), (13, .int .i64 (j : Nat))] ++ _) ([own 3 1 px_ cx_ (xs.map iC)] ++ _) _ _
  dsimp only at hj hX
  have hxl : xs.length = j := by rw [hX]; simp [levelsL]; omega
  refine VC.q (VO.t rfl rfl rfl<|VO.n<|VC.seq<|VC.cond rfl (fun h14 => ?_) (fun h14 => ?_))
  ·
   obtain ⟨r, hr⟩ : ∃ r, o.rc[j]? = some r := ⟨_, List.getElem?_eq_getElem (by omega)⟩
   have hrm : r ∈ o.rc := List.mem_of_getElem? hr
   refine VC.skip (VE.seqN<|VC.seq<|VC.block<|VC.q (VO.l (LO.ixs S88 N94 hrr.sm (.r rfl) (.r rfl) rfl (by omega)) rfl<|VO.l (LO.ld O94 (.r rfl) (fun w hw => cells_part (off := 0) ((fun w2 hw2 => (hrr.keep w2 hw2).cells _ _ (by rw [List.getElem?_map, hr]; rfl)) w hw) ⟨_, rfl⟩)) rfl<|VO.a rfl rfl<|VO.n<|VC.reg (VO.m rfl rfl<|VO.m rfl rfl<|VO.l (LO.call (xs := [_]) (vs := [_]) C54 ⟨(.r rfl), trivial⟩ (fun w hw => level_c r w (hlv r hrm) (rec_read (hh.keep hw) hrm).1 (rec_read (hh.keep hw) hrm).2.2)) rfl<|VO.h rfl<|HO.bs (ps := [(_,_)]) (vs := [(_,_)]) (Z := [_]) (C := [_]) S72 Z3 N3 ⟨(.r rfl), trivial⟩ rfl rfl rfl rfl ⟨_, [_], [_], rfl, rfl, rfl, rfl, rfl⟩ fun b2 => VO.h rfl<|HO.appT ((lastI r.lv)) 1 0 (fun R => [_, R]) S72 S72 I3 (.r rfl) (.r rfl) rfl rfl rfl rfl rfl rfl rfl (fun _ => rfl) rfl (by omega) fun p4 c4 => VO.h rfl<|HO.lo (LO.as (.r rfl))<|VO.nil<|VE.inN (VE.seqN<|VC.reg (VO.p rfl rfl (by omega) (by omega) rfl<|VO.m rfl rfl<|VO.nil<|VE.thenN fun a w ha hw => ⟨(j + 1, xs ++ [lastI r.lv], p4, c4), ⟨by dsimp only; omega, by dsimp only; unfold levelsL; rw [List.take_add_one, List.getElem?_map, hr, hX]; rfl⟩, (by dsimp only; omega), ha.sub (.c4 rfl rfl rfl rfl .nil), hw.sel [1] rfl⟩)))))
  ·
   refine VC.exit (VE.thenX (VE.thenX (VE.inX (VE.seqN<|VC.q (VO.m rfl rfl<|VO.a rfl rfl<|VO.n<|VC.ret (VE.s rfl rfl (fun w hw => ?_)))))))
   have hx2 : xs = levelsL o := by rw [hX, List.take_of_length_le (by simp [levelsL]; omega)]
   rw [← hx2]
   exact ⟨(px_, cx_), trivial, rfl, hw.sel [0] rfl⟩
theorem point_c (n : Int) (w : World) :
 Calls Tryz.prog 53 #[.int .i64 n] w fun e w' => e = .returned (.agg #[.int .i64 n, .int .i64 n]) ∧ St (bs w) [] w' := by
 refine enter (vs := [_]) (env := [(0,_)]) Tryz.func53 rfl rfl rfl rfl ?_
 refine VC.q (VO.h rfl<|HO.alloc (C := #[_,_]) Z77 rfl fun b1 => VO.n<|VC.q (VO.m rfl rfl<|VO.m rfl rfl<|VO.l (LO.bd (ps := [(_,_), (_,_)]) (vs := [(_,_), (_,_)]) (C := [_,_]) B77  ⟨(.r rfl), (.r rfl), trivial⟩ rfl ⟨_, [_], [_,_], rfl, rfl, rfl, rfl, ⟨_, [_], [_,_], rfl, rfl, rfl, rfl, rfl⟩⟩) rfl<|VO.h0<|HO.st 0 (vs := [_,_]) (C' := [_,_]) (L' := [_]) N77 rfl rfl rfl rfl rfl rfl rfl rfl<|VO.n<|VC.ret (VE.res (vs := [_]) rfl ⟨RV.agg (vs := [_,_]) A77 rfl (cells_blk 0 rfl ⟨_, rfl⟩) rfl, trivial⟩ (fun w hw => ?_))))
 exact ⟨rfl, hw.nil⟩
theorem C_c (w : World) :
 Calls Tryz.prog 22 #[] w fun e w' => ∃ q : Nat × Nat, True ∧ e = .returned (cloudV (some ⟨q.1,0, none⟩) 2 (some ⟨q.2,0, none⟩) 3 cC) ∧ St (bs w) [blk q.2 (.cells #[.int .i64 6, .int .i64 7, .int .i64 8] 3), blk q.1 (.cells #[.int .i64 7, .int .i64 8] 3)] w' := by
 refine enter (vs := []) (env := []) Tryz.func22 rfl rfl rfl rfl ?_
 refine VC.q (VO.h rfl<|HO.alloc (C := #[_,_,_,_,_,_,_]) Z81 rfl fun b1 => VO.n<|VC.q (VO.h rfl<|HO.bs (ps := [(_,_), (_,_)]) (vs := [(_,_), (_,_)]) (Z := [_,_]) (C := [_,_]) S72 Z3 N3 ⟨(.r rfl), (.r rfl), trivial⟩ rfl rfl rfl rfl ⟨_, [_], [_,_], rfl, rfl, rfl, rfl, ⟨_, [_], [_,_], rfl, rfl, rfl, rfl, rfl⟩⟩ fun b2 => VO.h rfl<|HO.bs (ps := [(_,_), (_,_), (_,_)]) (vs := [(_,_), (_,_), (_,_)]) (Z := [_,_,_]) (C := [_,_,_]) S72 Z3 N3 ⟨(.r rfl), (.r rfl), (.r rfl), trivial⟩ rfl rfl rfl rfl ⟨_, [_], [_,_,_], rfl, rfl, rfl, rfl, ⟨_, [_], [_,_,_], rfl, rfl, rfl, rfl, ⟨_, [_], [_,_,_], rfl, rfl, rfl, rfl, rfl⟩⟩⟩ fun b3 => VO.l (LO.call (xs := [_]) (vs := [_]) C53 ⟨(.r rfl), trivial⟩ (fun w _ => point_c _ w)) rfl<|VO.l (LO.bd (ps := [(_,_)]) (vs := [(_,_)]) (C := [_,_,_,_]) B79  ⟨(.r rfl), trivial⟩ rfl ⟨_, [_,_], [_,_,_,_], rfl, rfl, rfl, rfl, rfl⟩) rfl<|VO.h rfl<|HO.lo (LO.bd (ps := [(_,_), (_,_), (_,_)]) (vs := [(_,_), (_,_), (_,_)]) (C := [_,_,_,_,_,_,_]) B81  ⟨(.r rfl), (.r rfl), (.r rfl), trivial⟩ rfl ⟨_, [_], [_,_,_,_,_,_,_], rfl, rfl, rfl, rfl, ⟨_, [_], [_,_,_,_,_,_,_], rfl, rfl, rfl, rfl, ⟨_, [_,_,_,_], [_,_,_,_,_,_,_], rfl, rfl, rfl, rfl, rfl⟩⟩⟩)<|VO.h0<|HO.st 2 (vs := [_,_,_,_,_,_,_]) (C' := [_,_,_,_,_,_,_]) (L' := [_,_,_]) N81 rfl rfl rfl rfl rfl rfl rfl rfl<|VO.n<|VC.ret (VE.res (vs := [_]) rfl ⟨RV.agg (vs := [_,_,_,_,_,_,_]) A81 rfl (cells_blk 2 rfl ⟨_, rfl⟩) rfl, trivial⟩ (fun w hw => ?_))))
 exact ⟨(b2, b3), trivial, rfl, hw.sel [0,1] rfl⟩
theorem D_c (w : World) :
 Calls Tryz.prog 23 #[] w fun e w' => ∃ q : Nat × Nat, True ∧ e = .returned (cloudV (some ⟨q.1,0, none⟩) 2 (some ⟨q.2,0, none⟩) 3 cD) ∧ St (bs w) [blk q.2 (.cells #[.int .i64 6, .int .i64 7, .int .i64 8] 3), blk q.1 (.cells #[.int .i64 7, .int .i64 8] 3)] w' := by
 refine enter (vs := []) (env := []) Tryz.func23 rfl rfl rfl rfl ?_
 refine VC.q (VO.h rfl<|HO.alloc (C := #[_,_,_,_,_,_,_]) Z81 rfl fun b1 => VO.n<|VC.q (VO.h rfl<|HO.callx (xs := []) (vs := []) C22 trivial (fun w _ => C_c w) fun q _ => VO.h rfl<|HO.alloc (C := #[_,_,_,_,_,_,_]) Z81 rfl fun b4 => VO.h0<|HO.st 0 (vs := [_,_,_,_,_,_,_]) (C' := [_,_,_,_,_,_,_]) (L' := [_,_,_,_]) N81 rfl rfl rfl rfl rfl rfl rfl rfl<|VO.n<|VC.q (VO.l (LO.call (xs := [_]) (vs := [_]) C53 ⟨(.r rfl), trivial⟩ (fun w _ => point_c _ w)) rfl<|VO.f (r := 2) F81_2 rfl rfl rfl<|VO.f (r := 2) F79_0 rfl rfl rfl<|VO.h0<|HO.st 0 (vs := [_,_]) (C' := [_,_,_,_,_,_,_]) (L' := [_,_,_,_]) N77 rfl rfl rfl rfl rfl rfl rfl rfl<|VO.n<|VC.q (VO.l (LO.lda (vs := [_,_,_,_,_,_,_]) A81 (.r rfl) (cells_blk 0 rfl ⟨_, rfl⟩) rfl) rfl<|VO.h0<|HO.st 3 (vs := [_,_,_,_,_,_,_]) (C' := [_,_,_,_,_,_,_]) (L' := [_,_,_,_]) N81 rfl rfl rfl rfl rfl rfl rfl rfl<|VO.n<|VC.ret (VE.res (vs := [_]) rfl ⟨RV.agg (vs := [_,_,_,_,_,_,_]) A81 rfl (cells_blk 3 rfl ⟨_, rfl⟩) rfl, trivial⟩ (fun w hw => ?_))))))
 exact ⟨q, trivial, rfl, hw.sel [1,2] rfl⟩
theorem S_c (w : World) :
 Calls Tryz.prog 21 #[] w fun e w' => ∃ q : Nat × Nat × Nat, True ∧ e = .returned (specV gG (some ⟨q.1,0, none⟩) 2 2 1000 500 600) ∧ St (bs w) [blk q.1 (.cells #[.string sEast, .slice (some ⟨q.2.1,0, none⟩) 4 4, .string sWest, .slice (some ⟨q.2.2,0, none⟩) 3 3] 74), blk q.2.1 (.cells #[.int .i64 4, .int .i64 5, .int .i64 10, .int .i64 11] 3), blk q.2.2 (.cells #[.int .i64 0, .int .i64 6, .int .i64 12] 3)] w' := by
 refine enter (vs := []) (env := []) Tryz.func21 rfl rfl rfl rfl ?_
 refine VC.q (VO.h rfl<|HO.alloc (C := #[_,_,_,_,_,_,_,_,_]) Z28 rfl fun b1 => VO.n<|VC.q (VO.l (LO.bd (ps := [(_,_), (_,_), (_,_)]) (vs := [(_,_), (_,_), (_,_)]) (C := [_,_,_,_,_]) B23  ⟨(.r rfl), (.r rfl), (.r rfl), trivial⟩ rfl ⟨_, [_], [_,_,_,_,_], rfl, rfl, rfl, rfl, ⟨_, [_], [_,_,_,_,_], rfl, rfl, rfl, rfl, ⟨_, [_], [_,_,_,_,_], rfl, rfl, rfl, rfl, rfl⟩⟩⟩) rfl<|VO.h rfl<|HO.bs (ps := [(_,_), (_,_), (_,_), (_,_)]) (vs := [(_,_), (_,_), (_,_), (_,_)]) (Z := [_,_,_,_]) (C := [_,_,_,_]) S72 Z3 N3 ⟨(.r rfl), (.r rfl), (.r rfl), (.r rfl), trivial⟩ rfl rfl rfl rfl ⟨_, [_], [_,_,_,_], rfl, rfl, rfl, rfl, ⟨_, [_], [_,_,_,_], rfl, rfl, rfl, rfl, ⟨_, [_], [_,_,_,_], rfl, rfl, rfl, rfl, ⟨_, [_], [_,_,_,_], rfl, rfl, rfl, rfl, rfl⟩⟩⟩⟩ fun b2 => VO.h rfl<|HO.lo (LO.bd (ps := [(_,_), (_,_)]) (vs := [(_,_), (_,_)]) (C := [_,_]) B74  ⟨(.r rfl), (.r rfl), trivial⟩ rfl ⟨_, [_], [_,_], rfl, rfl, rfl, rfl, ⟨_, [_], [_,_], rfl, rfl, rfl, rfl, rfl⟩⟩)<|VO.h rfl<|HO.bs (ps := [(_,_), (_,_), (_,_)]) (vs := [(_,_), (_,_), (_,_)]) (Z := [_,_,_]) (C := [_,_,_]) S72 Z3 N3 ⟨(.r rfl), (.r rfl), (.r rfl), trivial⟩ rfl rfl rfl rfl ⟨_, [_], [_,_,_], rfl, rfl, rfl, rfl, ⟨_, [_], [_,_,_], rfl, rfl, rfl, rfl, ⟨_, [_], [_,_,_], rfl, rfl, rfl, rfl, rfl⟩⟩⟩ fun b3 => VO.h rfl<|HO.lo (LO.bd (ps := [(_,_), (_,_)]) (vs := [(_,_), (_,_)]) (C := [_,_]) B74  ⟨(.r rfl), (.r rfl), trivial⟩ rfl ⟨_, [_], [_,_], rfl, rfl, rfl, rfl, ⟨_, [_], [_,_], rfl, rfl, rfl, rfl, rfl⟩⟩)<|VO.h rfl<|HO.bs (ps := [(_,_), (_,_)]) (vs := [(_,_), (_,_)]) (Z := [_,_,_,_]) (C := [_,_,_,_]) S24 Z74 N74 ⟨(.r rfl), (.r rfl), trivial⟩ rfl rfl rfl rfl ⟨_, [_,_], [_,_,_,_], rfl, rfl, rfl, rfl, ⟨_, [_,_], [_,_,_,_], rfl, rfl, rfl, rfl, rfl⟩⟩ fun b4 => VO.l (LO.bd (ps := [(_,_), (_,_), (_,_)]) (vs := [(_,_), (_,_), (_,_)]) (C := [_,_,_]) B26  ⟨(.r rfl), (.r rfl), (.r rfl), trivial⟩ rfl ⟨_, [_], [_,_,_], rfl, rfl, rfl, rfl, ⟨_, [_], [_,_,_], rfl, rfl, rfl, rfl, ⟨_, [_], [_,_,_], rfl, rfl, rfl, rfl, rfl⟩⟩⟩) rfl<|VO.h rfl<|HO.lo (LO.bd (ps := [(_,_), (_,_), (_,_)]) (vs := [(_,_), (_,_), (_,_)]) (C := [_,_,_,_,_,_,_,_,_]) B28  ⟨(.r rfl), (.r rfl), (.r rfl), trivial⟩ rfl ⟨_, [_,_,_,_,_], [_,_,_,_,_,_,_,_,_], rfl, rfl, rfl, rfl, ⟨_, [_], [_,_,_,_,_,_,_,_,_], rfl, rfl, rfl, rfl, ⟨_, [_,_,_], [_,_,_,_,_,_,_,_,_], rfl, rfl, rfl, rfl, rfl⟩⟩⟩)<|VO.h0<|HO.st 3 (vs := [_,_,_,_,_,_,_,_,_]) (C' := [_,_,_,_,_,_,_,_,_]) (L' := [_,_,_,_]) N28 rfl rfl rfl rfl rfl rfl rfl rfl<|VO.n<|VC.ret (VE.res (vs := [_]) rfl ⟨RV.agg (vs := [_,_,_,_,_,_,_,_,_]) A28 rfl (cells_blk 3 rfl ⟨_, rfl⟩) rfl, trivial⟩ (fun w hw => ?_))))
 exact ⟨(b4, b2, b3), trivial, rfl, hw.sel [0,2,1] rfl⟩
theorem ints_c (p q : Option Addr) (l m : List Int) (c d : Nat) (w : World) (hnl : l.length < 1000000000000) (hnm : m.length < 1000000000000) (hl : Ints w p l) (hm : Ints w q m) :
 Calls Tryz.prog 24 #[.slice p l.length c, .slice q m.length d] w fun e w' => e = .returned (.bool (decide (l = m))) ∧ St (bs w) [] w' := by
 refine enter (vs := [_,_]) (env := [(0,_), (1,_)]) Tryz.func24 rfl rfl rfl rfl ?_
 refine VC.q (VO.a rfl rfl<|VO.n<|VC.seq<|VC.q (VO.m rfl rfl<|VO.l (LO.len S72 (.r rfl) rfl) rfl<|VO.m rfl rfl<|VO.l (LO.len S72 (.r rfl) rfl) rfl<|VO.u rfl rfl rfl<|VO.n<|VC.cond rfl (fun h1 => ?_) (fun h1 => ?_)))
 ·
  refine VC.q (VO.a rfl rfl<|VO.n<|VC.ret (VE.thenR (VE.s rfl rfl (fun w hw => ?_))))
  refine ⟨?_, hw.nil⟩
  simp only [resV]
  congr 2
  first | exact ints_ne1 h1 | exact ints_ne2 h3 | exact ints_eq hz (by omega) (by omega)
 ·
  refine VC.skip (VE.seqN<|VC.seq<|VC.q (VO.a rfl rfl<|VO.n<|VC.block<|VC.loopK (α := Nat) 0 (fun gx => [(5, .int .i64 (gx : Nat))]) [(0,_), (1,_)] (fun gx => []) (fun gx => gx ≤ l.length ∧ ∀ k, k < gx → l.getD k 0 = m.getD k 0) (fun gx => l.length - gx) 0 (by exact ⟨by omega, fun k hk => by omega⟩) (.cons rfl (.cons rfl (.cons rfl .nil))) (fun _ h => h) ?_))
  rintro j ⟨hj, hz⟩
  refine VC.seq<|VC.q (VO.m rfl rfl<|VO.m rfl rfl<|VO.l (LO.len S72 (.r rfl) rfl) rfl<|VO.t rfl rfl rfl<|VO.n<|VC.cond rfl (fun h2 => ?_) (fun h2 => ?_))
  ·
   refine VC.skip (VE.seqN<|VC.seq<|VC.block<|VC.seq<|VC.draw mixed (LL.m rfl rfl<|LL.m rfl rfl<|LL.l (LO.ixs S72 N3 hl.some (.r rfl) (.r rfl) rfl (by omega)) rfl<|LL.l (LO.ld O3 (.r rfl) (hl.at (j := j) (by omega))) rfl<|LL.m rfl rfl<|LL.m rfl rfl<|LL.l (LO.ixs S72 N3 hm.some (.r rfl) (.r rfl) rfl (by omega)) rfl<|LL.l (LO.ld O3 (.r rfl) (hm.at (j := j) (by omega))) rfl<|LL.l (LO.ne (.r rfl) (.r rfl)) rfl<|LL.nil) (by kernel_rfl)<|VE.seqN<|VC.cond rfl (fun h3 => ?_) (fun h3 => ?_))
   ·
    refine VC.q (VO.a rfl rfl<|VO.n<|VC.ret (VE.inR (VE.thenR (VE.thenR (VE.inR (VE.thenR (VE.s rfl rfl (fun w hw => ?_))))))))
    refine ⟨?_, hw.nil⟩
    simp only [resV]
    congr 2
    first | exact ints_ne1 h1 | exact ints_ne2 h3 | exact ints_eq hz (by omega) (by omega)
   ·
    refine VC.skip (VE.inN (VE.seqN<|VC.reg (VO.m rfl rfl<|VO.p rfl rfl (by omega) (by omega) rfl<|VO.a rfl rfl<|VO.nil<|VE.thenN fun a w ha hw => ⟨j + 1, ⟨by omega, step_eq hz (by simpa using h3)⟩, (by omega), ha.sub (.cons rfl (.cons rfl (.cons rfl .nil))), hw⟩)))
  ·
   refine VC.exit (VE.thenX (VE.thenX (VE.inX (VE.seqN<|VC.q (VO.a rfl rfl<|VO.n<|VC.ret (VE.s rfl rfl (fun w hw => ?_)))))))
   refine ⟨?_, hw.nil⟩
   simp only [resV]
   congr 2
   first | exact ints_ne1 h1 | exact ints_ne2 h3 | exact ints_eq hz (by omega) (by omega)
theorem lastI_snoc (l : List Int) (a : Int) : lastI (l ++ [a]) = a := by
  unfold lastI
  rw [List.getD_eq_getElem?_getD]
  simp
structure WfO (o : OfM) : Prop where
  spec : specE o.sp = 0
  len : o.rc.length = o.rg.length
  idx : ∀ (k : Nat) (r : RcM), o.rc[k]? = some r → o.rg[k]? = some r.x ∧ r.i = k
  pix : ∀ x, x ∈ o.rg → x.r.pix.length < 1000000000000
  rcb : ∀ r, r ∈ o.rc → r.rc.length ≤ o.ts.length
  lvb : ∀ r, r ∈ o.rc → r.lv.length = o.ts.length
  op : ∀ r, r ∈ o.rc → lastI r.lv ≠ 0 → ∃ (k : Nat) (c : CsM), o.cs[k]? = some c ∧ r.op = some c.b
  cs : o.cs.length ≤ 32 * o.ts.length
  ts : o.ts.length ≤ o.lg.length
theorem WfO.reg {o : OfM} (h : WfO o) : ∀ r, r ∈ o.rc → r.x ∈ o.rg := fun r hr => by
  obtain ⟨k, hk⟩ := List.mem_iff_getElem?.1 hr
  exact List.mem_of_getElem? (h.idx k r hk).1
theorem WfO.n {o : OfM} (h : WfO o) : 0 < o.rc.length ∧ o.rc.length ≤ 32 := by
  have := specOk h.spec
  have e : o.sp.regs.length = o.rg.length := by unfold OfM.sp; simp
  rw [h.len, ← e]; exact ⟨this.2.2.1, this.2.1⟩
theorem new_wf {g : Grid} {l : List RG} {a b d : Int} {o : OfM} (h : NewP g l a b d o) (hs : specE ⟨g, l.map RG.r, a, b, d⟩ = 0) (hp : ∀ x, x ∈ l → x.r.pix.length < 1000000000000) : WfO o := by
  obtain ⟨h1, h2, h3, h4, h5, h6, h7,_, h8, h9⟩ := h
  have nil : ∀ r, r ∈ o.rc → r.rc = [] ∧ r.lv = [] := fun r hr => by
    obtain ⟨k, hk⟩ := List.mem_iff_getElem?.1 hr
    exact ⟨(h9.2 k r hk).2.2.1, (h9.2 k r hk).2.2.2.1⟩
  refine ⟨by unfold OfM.sp; rw [h1, h2, h3, h4, h8]; exact hs, h9.1, fun k r hr => ⟨(h9.2 k r hr).1, (h9.2 k r hr).2.1⟩, ?_, fun r hr => by rw [(nil r hr).1]; simp, fun r hr => by rw [(nil r hr).2, h5], fun r hr hq => absurd (by rw [(nil r hr).2]; rfl) hq, by rw [h6]; simp, by rw [h5]; simp⟩
  intro x hx
  have : x.r ∈ o.rg.map RG.r := List.mem_map_of_mem hx
  rw [h8] at this
  obtain ⟨y, hy, e⟩ := List.mem_map.1 this
  rw [← e]; exact hp y hy
def HasOp (cs : List CsM) (r : RcM) : Prop := lastI r.lv ≠ 0 → ∃ (k : Nat) (c : CsM), cs[k]? = some c ∧ r.op = some c.b
theorem hasOp_keep {cs cs' : List CsM} {r : RcM} (h : HasOp cs r) (k : CsKeep cs cs') : HasOp cs' r := fun q => by
  obtain ⟨i, c, hc, e⟩ := h q
  obtain ⟨c', h1, h2⟩ := k i c hc
  exact ⟨i, c', h1, by rw [e, h2]⟩
theorem meet_op {r : RcM} {T H : Int} {t : Thr} {cs : List CsM} {es : List Ev} {y : MeetY} (h : MeetP r T H t cs es y) (ho : HasOp cs r) : HasOp y.cs y.r := by
  obtain ⟨_,_,_,_, hl, q | q⟩ := h
  · obtain ⟨hn, e1, e2,_⟩ := q
    intro hq
    rw [hl, lastI_snoc, hn] at hq
    rw [e1, e2]; exact ho hq
  · obtain ⟨hn, x', hh,_⟩ := q
    intro hq
    rcases hh with ⟨_, b, e1, e2,_⟩ | ⟨_, k, c, hc, e0, e1, e2,_⟩
    · rw [e1, e2]
      exact ⟨cs.length,_, by rw [List.getElem?_append_right (Nat.le_refl _)]; simp; rfl, rfl⟩
    · rw [e1, e2, e0]
      exact ⟨k,_, List.getElem?_set_self (List.getElem?_eq_some_iff.1 hc).1, rfl⟩
theorem run_wf {sts : List (List Int)} {b H T : Int} {cs0 : List CsM} {rs ds : List RcM} {cs : List CsM} {es : List Ev} (h : RunP sts b H T cs0 rs ds cs es) (h0 : ∀ r, r ∈ rs → HasOp cs0 r) :
    ∀ (k : Nat) (d : RcM), ds[k]? = some d → ∃ r, rs[k]? = some r ∧ d.x = r.x ∧ d.i = r.i ∧ d.b = r.b ∧ d.rc.length ≤ r.rc.length + 1 ∧ d.lv.length = r.lv.length + 1 ∧ HasOp cs d := by
  induction h with
  | nil => intro k d hd; simp at hd
  | @snoc rs ds cs es r y h1 h2 ih =>
    have hk := run_keep h1
    have hm := meet_keep h2
    intro k d hd
    rcases Nat.lt_or_ge k ds.length with q | q
    · rw [List.getElem?_append_left q] at hd
      obtain ⟨r', g1, g2, g3, g4, g5, g6, g7⟩ := ih (fun r hr => h0 r (List.mem_append_left _ hr)) k d hd
      exact ⟨r', by rw [List.getElem?_append_left (by rw [← hk.2.2.2.2]; exact q)]; exact g1, g2, g3, g4, g5, g6, hasOp_keep g7 hm.1⟩
    · rw [List.getElem?_append_right q] at hd
      have e : k = ds.length := by
        rcases Nat.lt_or_ge (k - ds.length) 1 with z | z
        · omega
        · rw [List.getElem?_eq_none (by simpa using z)] at hd; cases hd
      subst e
      simp at hd
      subst hd
      have hop := meet_op h2 (hasOp_keep (h0 r (by simp)) hk.1)
      obtain ⟨e1, e2, e3, e4, e5,_⟩ := h2
      refine ⟨r, by rw [hk.2.2.2.2, List.getElem?_append_right (Nat.le_refl _)]; simp, e1, e3, e2, ?_, by rw [e5]; simp, hop⟩
      rw [e4]
      have := List.length_filter_le (fun x => !oldR T H x) r.rc
      show (keepR T H r.rc ++ [Rch.mk T (thr sts r.x.r.pix b).lv]).length ≤ _
      unfold keepR
      rw [List.length_append]; simp; omega
theorem step_wf {o : OfM} {T : Int} {l : List Cloud} {y : StepY} (h : WfO o) (hp : StepP o T l y) : WfO (y.o o T) := by
  obtain ⟨hr, p, c, m, hl,_⟩ := hp
  have hk := run_keep hr
  have hw := run_wf hr (fun r hr => h.op r hr)
  have hn := h.n
  have mem : ∀ d, d ∈ y.ds → ∃ r, r ∈ o.rc ∧ d.rc.length ≤ r.rc.length + 1 ∧ d.lv.length = r.lv.length + 1 ∧ HasOp y.cs d := fun d hd => by
    obtain ⟨k, hk⟩ := List.mem_iff_getElem?.1 hd
    obtain ⟨r, g1, g2, g3, g4, g5, g6, g7⟩ := hw k d hk
    exact ⟨r, List.mem_of_getElem? g1, g5, g6, g7⟩
  refine ⟨h.spec, by show y.ds.length = _; rw [hk.2.2.2.2]; exact h.len, ?_, h.pix, ?_, ?_, ?_, ?_, ?_⟩
  · intro k d hd
    obtain ⟨r, g1, g2, g3, g4,_⟩ := hw k d hd
    have := h.idx k r g1
    exact ⟨by rw [g2]; exact this.1, by rw [g3]; exact this.2⟩
  · intro d hd
    obtain ⟨r, hr, g1,_⟩ := mem d hd
    have := h.rcb r hr
    show _ ≤ (o.ts ++ [T]).length
    simp; omega
  · intro d hd
    obtain ⟨r, hr,_, g1,_⟩ := mem d hd
    have := h.lvb r hr
    show _ = (o.ts ++ [T]).length
    simp; omega
  · intro d hd
    obtain ⟨r, hr,_,_, g1⟩ := mem d hd
    exact g1
  · have := h.cs
    show y.cs.length ≤ 32 * (o.ts ++ [T]).length
    simp; omega
  · have := h.ts
    show (o.ts ++ [T]).length ≤ (o.lg ++ [y.lg]).length
    simp; omega
theorem Step_w (o : OfM) (T : Int) (m : List CP) (pm : Option Addr) (cm : Nat) (w : World) (hh : Has w (offR o)) (hcl : ∀ {L : List Res} {v : World}, St ⟨w, fpL (offR o)⟩ L v → Clouds v pm m) (hcn : m.length < 1000000000) (h : WfO o) (hT1 : 0 ≤ T) (hT3 : T ≤ 4294967296) (hlate : o.ts = [] ∨ lastI o.ts < T) (hful : o.lg.length < 256) (hlk : lookE o.g (m.map CP.c) = 0) :
    Calls Tryz.prog 13 #[ptrN o.b, .int .i64 T, .slice pm m.length cm] w fun e w' => ∃ y : StepY, StepP o T (m.map CP.c) y ∧ e = .returned (.tuple #[.slice y.pe y.es.length y.ce, .int .i64 0]) ∧ St ⟨w, fpL (offR o)⟩ (own 84 7 y.pe y.ce (y.es.map evC) :: offR (y.o o T)) w' :=
  have h1 := h.ts
  have h2 := h.cs
  Step_c o T m pm cm w hh hcl hcn h.spec h.len h.reg h.pix (fun r hr => by have := h.rcb r hr; omega) (fun r hr => by have := h.lvb r hr; omega) h.op (by omega) (by omega) hT1 hT3 hlate hful hlk
theorem run_two {sts : List (List Int)} {b H T : Int} {cs0 : List CsM} {r0 r1 : RcM} {ds : List RcM} {cs : List CsM} {es : List Ev} (h : RunP sts b H T cs0 [r0, r1] ds cs es) :
    ∃ y0 y1 : MeetY, MeetP r0 T H (thr sts r0.x.r.pix b) cs0 [] y0 ∧ MeetP r1 T H (thr sts r1.x.r.pix b) y0.cs y0.es y1 ∧ ds = [y0.r, y1.r] ∧ cs = y1.cs ∧ es = y1.es := by
  generalize hrs : [r0, r1] = rs at h
  cases h with
  | nil => cases hrs
  | @snoc rs' ds' cs' es' r y h1 h2 =>
    have e := List.append_inj' (s₁ := [r0]) (t₁ := [r1]) hrs rfl
    obtain ⟨e1, e2⟩ := e
    simp only [List.cons.injEq, and_true] at e2
    subst e1 e2
    generalize hrs2 : [r0] = rs2 at h1
    cases h1 with
    | nil => cases hrs2
    | @snoc rs3 ds3 cs3 es3 r3 y3 h3 h4 =>
      have e := List.append_inj' (s₁ := []) (t₁ := [r0]) hrs2 rfl
      obtain ⟨e1, e2⟩ := e
      simp only [List.cons.injEq, and_true] at e2
      subst e1 e2
      generalize hrs4 : ([] : List RcM) = rs4 at h3
      cases h3 with
      | nil => exact ⟨y3, y, h4, h2, rfl, rfl, rfl⟩
      | snoc => simp at hrs4
theorem thr_of {t : Thr} {a b c : Int} (h : t.lv = a ∧ t.ld = b ∧ t.px = c) : t = ⟨a, b, c⟩ := by
  obtain ⟨h1, h2, h3⟩ := h
  cases t; simp_all
theorem thrCE : thr (lookL gG [cC] 1000 500) [4,5,10,11] 500 = ⟨0, -1, -1⟩ := thr_of (by decide +kernel)
theorem thrCW : thr (lookL gG [cC] 1000 500) [0,6,12] 500 = ⟨1,0,6⟩ := thr_of (by decide +kernel)
theorem thrDE : thr (lookL gG [cD] 1000 500) [4,5,10,11] 500 = ⟨2,1000,10⟩ := thr_of (by decide +kernel)
theorem thrDW : thr (lookL gG [cD] 1000 500) [0,6,12] 500 = ⟨1,0,6⟩ := thr_of (by decide +kernel)
def rgS : List Reg := [⟨sEast, [4,5,10,11]⟩, ⟨sWest, [0,6,12]⟩]
theorem specS : specE ⟨gG, rgS, 1000,500,600⟩ = 0 := by decide +kernel
theorem lookC : lookE gG [cC] = 0 := by decide +kernel
theorem lookD : lookE gG [cD] = 0 := by decide +kernel
theorem two_of {α : Type} : ∀ {l : List α}, l.length = 2 → ∃ a b, l = [a, b]
  | [a, b],_ => ⟨a, b, rfl⟩
theorem fresh_two {l : List RG} (hl : l.map RG.r = rgS) {o : OfM} (hn : NewP gG l 1000 500 600 o) : ∃ r0 r1, o.rc = [r0, r1] ∧ (r0.x.r.pix = [4,5,10,11] ∧ r0.i = 0 ∧ r0.rc = [] ∧ r0.lv = [] ∧ r0.op = none) ∧ (r1.x.r.pix = [0,6,12] ∧ r1.i = 1 ∧ r1.rc = [] ∧ r1.lv = [] ∧ r1.op = none) := by
  obtain ⟨h1, h2, h3, h4, h5, h6, h7,_, h8, h9⟩ := hn
  have e : o.rg.map RG.r = rgS := h8.trans hl
  have e2 : o.rg.length = 2 := by rw [← List.length_map (f := RG.r), e]; rfl
  have e3 : o.rc.length = 2 := by rw [h9.1, e2]
  obtain ⟨r0, r1, hrc⟩ := two_of e3
  obtain ⟨g0, g1, hrg⟩ := two_of e2
  have q0 := h9.2 0 r0 (by rw [hrc]; rfl)
  have q1 := h9.2 1 r1 (by rw [hrc]; rfl)
  rw [hrg] at q0 q1 e
  simp only [List.getElem?_cons_zero, Option.some.injEq, List.getElem?_cons_succ] at q0 q1
  unfold rgS at e
  simp only [List.map_cons, List.map_nil, List.cons.injEq, and_true] at e
  refine ⟨r0, r1, hrc, ⟨by rw [← q0.1, e.1], q0.2⟩, ⟨by rw [← q1.1, e.2], q1.2⟩⟩
theorem works_plain {l : List RG} (hl : l.map RG.r = rgS) {o : OfM} (hn : NewP gG l 1000 500 600 o) {y1 y2 : StepY} (h1 : StepP o 0 [cC] y1) (h2 : StepP (y1.o o 0) 300 [cD] y2) :
    y1.es = [⟨0,1,1,1,1,0,6⟩] ∧ y2.es = [⟨300,0,1,2,2,1000,10⟩] ∧ levelsL (y2.o (y1.o o 0) 300) = [2,1] := by
  obtain ⟨r0, r1, hrc, ⟨p0, i0, c0, l0, o0⟩, ⟨p1, i1, c1, l1, o1⟩⟩ := fresh_two hl hn
  obtain ⟨n1, n2, n3, n4, n5, n6, n7,_, n8, n9⟩ := hn
  have h1' := h1.1
  rw [n1, n2, n3, n4, n6, hrc] at h1'
  obtain ⟨ya, yb, ha, hb, ed, ec, ee⟩ := run_two h1'
  rw [p0, thrCE] at ha
  rw [p1, thrCW] at hb
  obtain ⟨xa, ba, ia, ca, la, q | q⟩ := ha
  case inr => exact absurd (by rw [c0, l0]; rfl) q.1
  obtain ⟨-, oa, csa, esa⟩ := q
  have ca2 : ya.r.rc = [⟨0,0⟩] := by rw [ca, c0]; rfl
  have la2 : ya.r.lv = [0] := by rw [la, c0, l0]; rfl
  obtain ⟨xb, bb, ib, cb, lb, q | q⟩ := hb
  case inl => exact absurd q.1 (by rw [c1, l1]; decide)
  obtain ⟨-, x', hx, esb⟩ := q
  have cb2 : yb.r.rc = [⟨0,1⟩] := by rw [cb, c1]; rfl
  have lb2 : yb.r.lv = [1] := by rw [lb, c1, l1]; rfl
  rw [c1, l1, i1, o1, csa] at hx
  have ev : meetEv ((1 : Nat) : Int) 0 (lastI []) (maxLv (nowRc 0 600 [] 1)) ⟨1,0,6⟩ = ⟨0,1,1,1,0,0,6⟩ := rfl
  dsimp only at hx
  rw [ev] at hx
  rcases hx with ⟨-, b, ob, csb, hx'⟩ | ⟨hk,_⟩
  case inr => exact absurd rfl hk
  have es1 : y1.es = [⟨0,1,1,1,1,0,6⟩] := by rw [ee, esb, esa, hx']; rfl
  have h2' := h2.1
  have f1 : (y1.o o 0).rc = [ya.r, yb.r] := ed
  have f2 : (y1.o o 0).cs = [⟨b, 1,1,0,1099511627776,1⟩] := by show y1.cs = _; rw [ec, csb]; rfl
  have f3 : (y1.o o 0).g = gG := n1
  have f4 : (y1.o o 0).lead = 1000 := n2
  have f5 : (y1.o o 0).step = 500 := n3
  have f6 : (y1.o o 0).hold = 600 := n4
  rw [f1, f2, f3, f4, f5, f6] at h2'
  obtain ⟨yc, yd, hc, hd, ed2, ec2, ee2⟩ := run_two h2'
  rw [xa, p0, thrDE] at hc
  rw [xb, p1, thrDW] at hd
  obtain ⟨xc, bc, ic, cc, lc, q | q⟩ := hc
  case inl => exact absurd q.1 (by rw [ca2, la2]; decide)
  obtain ⟨-, x2, hx2, esc⟩ := q
  have lc2 : yc.r.lv = [0,2] := by rw [lc, ca2, la2]; rfl
  rw [ca2, la2, ia, i0] at hx2
  have ev2 : meetEv ((0 : Nat) : Int) 300 (lastI [0]) (maxLv (nowRc 300 600 [⟨0,0⟩] 2)) ⟨2,1000,10⟩ = ⟨300,0,1,2,0,1000,10⟩ := rfl
  dsimp only at hx2
  rw [ev2] at hx2
  rcases hx2 with ⟨-, b2, ob2, csc, hx2'⟩ | ⟨hk,_⟩
  case inr => exact absurd rfl hk
  obtain ⟨xd, bd, id_, cd, ld, q | q⟩ := hd
  case inr => exact absurd (by rw [cb2, lb2]; rfl) q.1
  obtain ⟨-, od, csd, esd⟩ := q
  have ld2 : yd.r.lv = [1,1] := by rw [ld, cb2, lb2]; rfl
  refine ⟨es1, by rw [ee2, esd, esc, hx2']; rfl, ?_⟩
  unfold levelsL
  show List.map (fun r => lastI r.lv) y2.ds = [2,1]
  rw [ed2]
  simp only [List.map_cons, List.map_nil, lc2, ld2]
  rfl
theorem E84 : Flat Tryz.prog 84 7 := ⟨⟨_, Tryz.underlying84⟩, by kernel_rfl, by kernel_rfl⟩
theorem C21 : IsFn Tryz.prog 21 := ⟨_, Tryz.func21, by decide, rfl⟩
theorem C6 : IsFn Tryz.prog 6 := ⟨_, Tryz.func6, by decide, rfl⟩
theorem C13 : IsFn Tryz.prog 13 := ⟨_, Tryz.func13, by decide, rfl⟩
theorem C23 : IsFn Tryz.prog 23 := ⟨_, Tryz.func23, by decide, rfl⟩
theorem C25 : IsFn Tryz.prog 25 := ⟨_, Tryz.func25, by decide, rfl⟩
theorem C24 : IsFn Tryz.prog 24 := ⟨_, Tryz.func24, by decide, rfl⟩
def lS (q : Nat × Nat × Nat) : List RG := [⟨⟨sEast, [4,5,10,11]⟩, some ⟨q.2.1,0, none⟩, 4⟩, ⟨⟨sWest, [0,6,12]⟩, some ⟨q.2.2,0, none⟩, 3⟩]
theorem ints_blk {w : World} {b : Nat} {l : List Int} (h : (blk b (.cells (l.map intV).toArray 3)).inv w) : Ints w (some ⟨b, 0, none⟩) l := RO.ofC (f := iC) (fun _ => rfl) (by
  have e : (l.map iC).flatten = ((l.map intV).toArray).toList := by
    clear h
    induction l with
    | nil => rfl
    | cons a l ih => simp [List.map_cons, List.flatten_cons, intV] at ih ⊢; exact ih
  rw [e]; exact cells_inv h)
theorem regsS {w : World} {q : Nat × Nat × Nat} (h1 : (blk q.1 (.cells #[.string sEast, .slice (some ⟨q.2.1,0, none⟩) 4 4, .string sWest, .slice (some ⟨q.2.2,0, none⟩) 3 3] 74)).inv w) (h2 : (blk q.2.1 (.cells #[.int .i64 4, .int .i64 5, .int .i64 10, .int .i64 11] 3)).inv w) (h3 : (blk q.2.2 (.cells #[.int .i64 0, .int .i64 6, .int .i64 12] 3)).inv w) : Regs w (some ⟨q.1,0, none⟩) (lS q) := by
  refine ⟨RO.ofC (f := RG.cells) (fun _ => rfl) (cells_inv h1), fun x hx => ?_⟩
  simp only [lS, List.mem_cons, List.not_mem_nil, or_false] at hx
  rcases hx with rfl | rfl
  · exact ⟨ints_blk (l := [4,5,10,11]) h2, show (4 : Nat) < 1000000000000 by decide⟩
  · exact ⟨ints_blk (l := [0,6,12]) h3, show (3 : Nat) < 1000000000000 by decide⟩
def mC (f : Flow) (gr : Int) (q : Nat × Nat) : List CP := [⟨⟨[7,8], [6,7,8], f, gr⟩, some ⟨q.1,0, none⟩, 2, some ⟨q.2,0, none⟩, 3⟩]
theorem cloudsM {w : World} {b : Nat} {q : Nat × Nat} {f : Flow} {gr : Int} (h1 : (blk b (.cells #[.slice (some ⟨q.1,0, none⟩) 2 2, .slice (some ⟨q.2,0, none⟩) 3 3, .int .i64 f.a, .int .i64 f.b, .int .i64 f.c, .int .i64 f.d, .int .i64 gr] 81)).inv w)
    (h2 : (blk q.1 (.cells #[.int .i64 7, .int .i64 8] 3)).inv w) (h3 : (blk q.2 (.cells #[.int .i64 6, .int .i64 7, .int .i64 8] 3)).inv w) : Clouds w (some ⟨b, 0, none⟩) (mC f gr q) := by
  refine ⟨RO.ofC (f := CP.cells) (fun _ => rfl) (cells_inv h1), fun x hx => ?_⟩
  simp only [mC, List.mem_cons, List.not_mem_nil, or_false] at hx
  subst hx
  exact ⟨ints_blk (l := [7,8]) h2, ints_blk (l := [6,7,8]) h3, show (2 : Nat) < 1000000000000 by decide, show (3 : Nat) < 1000000000000 by decide⟩
theorem works_c (w : World) :
 Calls Tryz.prog 5 #[] w fun e w' => e = .returned (.bool true) ∧ St (bs w) [] w' := by
 refine enter (vs := []) (env := []) Tryz.func5 rfl rfl rfl rfl ?_
 refine VC.q (VO.a rfl rfl<|VO.n<|VC.q (VO.h rfl<|HO.callx (xs := []) (vs := []) C21 trivial (fun w _ => S_c w) fun q _ => VO.h rfl<|HO.callx (xs := [_]) (vs := [_]) C6 ⟨(.r rfl), trivial⟩ (fun w hw => New_c gG (lS q) _ 2 1000 500 600 w (show (2 : Nat) < 1000000000000 by decide) (regsS (St.inv hw 0 _ rfl) (St.inv hw 1 _ rfl) (St.inv hw 2 _ rfl)) specS) fun o hn => VO.h rfl<|HO.lo (LO.mv (.r rfl))<|VO.h rfl<|HO.lo (LO.ex (.r rfl) rfl)<|VO.h rfl<|HO.lo (LO.ex (.r rfl) rfl)<|VO.h rfl<|HO.lo (LO.as (.r rfl))<|VO.h rfl<|HO.lo (LO.as (.r rfl))<|VO.n<|VC.seq<|VC.q (VO.m rfl rfl<|VO.u rfl rfl rfl<|VO.n<|VC.cond rfl (fun h12 => ?_) (fun h12 => ?_))))
 · (exfalso; exact h12 rfl)
 ·
  refine VC.skip (VE.seqN<|VC.seq ?_)
  have hwf : WfO o := new_wf hn specS (fun x hx => by simp only [lS, List.mem_cons, List.not_mem_nil, or_false] at hx; rcases hx with rfl | rfl; (· exact show (4 : Nat) < 1000000000000 by decide); (· exact show (3 : Nat) < 1000000000000 by decide))
  refine VC.reg (VO.m rfl rfl<|VO.h rfl<|HO.callx (xs := []) (vs := []) C22 trivial (fun w _ => C_c w) fun qc _ => VO.h rfl<|HO.bs (ps := [(_,_)]) (vs := [(_,_)]) (Z := [_,_,_,_,_,_,_]) (C := [_,_,_,_,_,_,_]) S45 Z81 N81 ⟨(.r rfl), trivial⟩ rfl rfl rfl rfl ⟨_, [_,_,_,_,_,_,_], [_,_,_,_,_,_,_], rfl, rfl, rfl, rfl, rfl⟩ fun b16 => VO.h rfl<|HO.callP (first := []) (cap := []) (xs := [_,_,_]) (vs := [_,_,_]) [_,_,_,_,_,_,_,_,_,_] [_,_,_,_,_,_] (selK (L1 := [_,_,_,_,_,_,_,_,_,_] ++ [_,_,_,_,_,_]) [3,4,5,6,7,8,9,10,11,12,0,1,2,13,14,15] rfl rfl) (.r rfl) C13 ⟨(.r rfl), (.r rfl), (.r rfl), trivial⟩ (fun w hw hh => Step_w o 0 (mC ⟨1000,1000,0,0⟩ 0 qc) _ 1 w hh (fun hs => cloudsM (restInv (selK (L1 := offR o ++ [_,_,_]) [3,4,5,6,7,8,9,10,11,12,0,2,1] rfl rfl w hw) hs (.head _)) (restInv (selK (L1 := offR o ++ [_,_,_]) [3,4,5,6,7,8,9,10,11,12,0,2,1] rfl rfl w hw) hs (.tail _ (.head _))) (restInv (selK (L1 := offR o ++ [_,_,_]) [3,4,5,6,7,8,9,10,11,12,0,2,1] rfl rfl w hw) hs (.tail _ (.tail _ (.head _))))) (show (1 : Nat) < 1000000000 by decide) hwf (by decide) (by decide) (.inl hn.2.2.2.2.1) (by rw [hn.2.2.2.2.2.2.1]; decide) (by rw [hn.1]; exact lookC)) fun y1 hy1 => VO.h rfl<|HO.lo (LO.mv (.r rfl))<|VO.h rfl<|HO.lo (LO.ex (.r rfl) rfl)<|VO.h rfl<|HO.lo (LO.ex (.r rfl) rfl)<|VO.h rfl<|HO.lo (LO.as (.r rfl))<|VO.h rfl<|HO.lo (LO.as (.r rfl))<|VO.n<|VC.q (VO.m rfl rfl<|VO.h rfl<|HO.callx (xs := []) (vs := []) C23 trivial (fun w _ => D_c w) fun qd _ => VO.h rfl<|HO.bs (ps := [(_,_)]) (vs := [(_,_)]) (Z := [_,_,_,_,_,_,_]) (C := [_,_,_,_,_,_,_]) S45 Z81 N81 ⟨(.r rfl), trivial⟩ rfl rfl rfl rfl ⟨_, [_,_,_,_,_,_,_], [_,_,_,_,_,_,_], rfl, rfl, rfl, rfl, rfl⟩ fun b30 => VO.h rfl<|HO.callP (first := []) (cap := []) (xs := [_,_,_]) (vs := [_,_,_]) [_,_,_,_,_,_,_,_,_,_] [_,_,_,_,_,_,_,_,_,_] (selK (L1 := [_,_,_,_,_,_,_,_,_,_] ++ [_,_,_,_,_,_,_,_,_,_]) [4,5,6,7,8,9,10,11,12,13,0,1,2,3,14,15,16,17,18,19] rfl rfl) (.r rfl) C13 ⟨(.r rfl), (.r rfl), (.r rfl), trivial⟩ (fun w hw hh => Step_w (y1.o o 0) 300 (mC ⟨3000,3000,0,0⟩ 0 qd) _ 1 w hh (fun hs => cloudsM (restInv (selK (L1 := offR (y1.o o 0) ++ [_,_,_]) [4,5,6,7,8,9,10,11,12,13,0,2,1] rfl rfl w hw) hs (.head _)) (restInv (selK (L1 := offR (y1.o o 0) ++ [_,_,_]) [4,5,6,7,8,9,10,11,12,13,0,2,1] rfl rfl w hw) hs (.tail _ (.head _))) (restInv (selK (L1 := offR (y1.o o 0) ++ [_,_,_]) [4,5,6,7,8,9,10,11,12,13,0,2,1] rfl rfl w hw) hs (.tail _ (.tail _ (.head _))))) (show (1 : Nat) < 1000000000 by decide) (step_wf hwf hy1) (by decide) (by decide) (.inr (by show lastI (o.ts ++ [0]) < 300; rw [lastI_snoc]; decide)) (by show (o.lg ++ [y1.lg]).length < 256; rw [hn.2.2.2.2.2.2.1]; exact show (1 : Nat) < 256 by decide) (by show lookE o.g _ = 0; rw [hn.1]; exact lookD)) fun y2 hy2 => VO.h rfl<|HO.lo (LO.mv (.r rfl))<|VO.h rfl<|HO.lo (LO.ex (.r rfl) rfl)<|VO.h rfl<|HO.lo (LO.ex (.r rfl) rfl)<|VO.h rfl<|HO.lo (LO.as (.r rfl))<|VO.h rfl<|HO.lo (LO.as (.r rfl))<|VO.n<|VC.seq ?_))
  have hw3 : WfO (y2.o (y1.o o 0) 300) := step_wf (step_wf hwf hy1) hy2
  obtain ⟨hE1, hE2, hLv⟩ := works_plain (l := lS q) rfl hn hy1 hy2
  rw [hE1, hE2]
  refine VC.reg (VO.m rfl rfl<|VO.l (LO.len S57 (.r rfl) rfl) rfl<|VO.l (LO.eq (.r rfl) (.r rfl)) rfl<|VO.m rfl rfl<|VO.gt rfl rfl (fun hg => LO.mv (.r rfl)) rfl<|VO.gt rfl rfl (fun hg => LO.eq (.g hg rfl) (.r rfl)) rfl<|VO.l (LO.pkA (.r rfl) rfl rfl (.r rfl)) rfl<|VO.m rfl rfl<|VO.gt rfl rfl (fun hg => LO.mv (.r rfl)) rfl<|VO.gt rfl rfl (fun hg => LO.ixo S57 N84 (fun _ hw => (own_rows hw 14 rfl).some rfl) (.g hg rfl) (.r rfl) (j := 0) rfl (by decide)) rfl<|VO.gt rfl rfl (fun hg => LO.lda (vs := [_,_,_,_,_,_,_]) A84 (.g hg rfl) (fun w hw => cells_part (off := 0) (own_cell hw 14 rfl (j := 0) rfl) ⟨_, rfl⟩) rfl) rfl<|VO.gt rfl rfl (fun hg => LO.bd (ps := [(_,_), (_,_), (_,_), (_,_), (_,_), (_,_)]) (vs := [(_,_), (_,_), (_,_), (_,_), (_,_), (_,_)]) (C := [_,_,_,_,_,_,_]) B84  ⟨(.r rfl), (.r rfl), (.r rfl), (.r rfl), (.r rfl), (.r rfl), trivial⟩ rfl ⟨_, [_], [_,_,_,_,_,_,_], rfl, rfl, rfl, rfl, ⟨_, [_], [_,_,_,_,_,_,_], rfl, rfl, rfl, rfl, ⟨_, [_], [_,_,_,_,_,_,_], rfl, rfl, rfl, rfl, ⟨_, [_], [_,_,_,_,_,_,_], rfl, rfl, rfl, rfl, ⟨_, [_], [_,_,_,_,_,_,_], rfl, rfl, rfl, rfl, ⟨_, [_], [_,_,_,_,_,_,_], rfl, rfl, rfl, rfl, rfl⟩⟩⟩⟩⟩⟩) rfl<|VO.gt rfl rfl (fun hg => LO.eqs («as» := [0,1,1,1,1,0,6]) (bs := [0,1,1,1,1,0,6]) E84 (.g hg rfl) (.g hg rfl) rfl rfl) rfl<|VO.l (LO.pkA (.r rfl) rfl rfl (.r rfl)) rfl<|VO.m rfl rfl<|VO.gt rfl rfl (fun hg => LO.mv (.r rfl)) rfl<|VO.gt rfl rfl (fun hg => LO.len S57 (.g hg rfl) rfl) rfl<|VO.gt rfl rfl (fun hg => LO.eq (.g hg rfl) (.r rfl)) rfl<|VO.l (LO.pkA (.r rfl) rfl rfl (.r rfl)) rfl<|VO.m rfl rfl<|VO.gt rfl rfl (fun hg => LO.mv (.r rfl)) rfl<|VO.gt rfl rfl (fun hg => LO.eq (.g hg rfl) (.r rfl)) rfl<|VO.l (LO.pkA (.r rfl) rfl rfl (.r rfl)) rfl<|VO.m rfl rfl<|VO.gt rfl rfl (fun hg => LO.mv (.r rfl)) rfl<|VO.gt rfl rfl (fun hg => LO.ixo S57 N84 (fun _ hw => (own_rows hw 0 rfl).some rfl) (.g hg rfl) (.r rfl) (j := 0) rfl (by decide)) rfl<|VO.gt rfl rfl (fun hg => LO.lda (vs := [_,_,_,_,_,_,_]) A84 (.g hg rfl) (fun w hw => cells_part (off := 0) (own_cell hw 0 rfl (j := 0) rfl) ⟨_, rfl⟩) rfl) rfl<|VO.gt rfl rfl (fun hg => LO.bd (ps := [(_,_), (_,_), (_,_), (_,_), (_,_), (_,_), (_,_)]) (vs := [(_,_), (_,_), (_,_), (_,_), (_,_), (_,_), (_,_)]) (C := [_,_,_,_,_,_,_]) B84  ⟨(.r rfl), (.r rfl), (.r rfl), (.r rfl), (.r rfl), (.r rfl), (.r rfl), trivial⟩ rfl ⟨_, [_], [_,_,_,_,_,_,_], rfl, rfl, rfl, rfl, ⟨_, [_], [_,_,_,_,_,_,_], rfl, rfl, rfl, rfl, ⟨_, [_], [_,_,_,_,_,_,_], rfl, rfl, rfl, rfl, ⟨_, [_], [_,_,_,_,_,_,_], rfl, rfl, rfl, rfl, ⟨_, [_], [_,_,_,_,_,_,_], rfl, rfl, rfl, rfl, ⟨_, [_], [_,_,_,_,_,_,_], rfl, rfl, rfl, rfl, ⟨_, [_], [_,_,_,_,_,_,_], rfl, rfl, rfl, rfl, rfl⟩⟩⟩⟩⟩⟩⟩) rfl<|VO.gt rfl rfl (fun hg => LO.eqs («as» := [300,0,1,2,2,1000,10]) (bs := [300,0,1,2,2,1000,10]) E84 (.g hg rfl) (.g hg rfl) rfl rfl) rfl<|VO.l (LO.pkA (.r rfl) rfl rfl (.r rfl)) rfl<|VO.m rfl rfl<|VO.gt rfl rfl (fun hg => LO.mv (.r rfl)) rfl<|VO.bc (x := 57) rfl (fun hg6_30 => VO.gT rfl rfl (congrArg Value.bool hg6_30) rfl<|HO.callx (xs := [_]) (vs := [_]) C25 ⟨(.g hg6_30 rfl), trivial⟩ (fun w hw => Levels_c (y2.o (y1.o o 0) 300) w (by have := hw3.n; omega) hw3.n.1 (fun r hr => by have h1 := hw3.lvb r hr; have h2 : (y2.o (y1.o o 0) 300).ts.length = 2 := (by show ((o.ts ++ [0]) ++ [300]).length = 2; rw [hn.2.2.2.2.1]; rfl); omega) ((selK (L1 := offR (y2.o (y1.o o 0) 300)) [1,2,3,4,5,6,7,8,9,10] rfl rfl w hw).has (List.Sublist.refl _))) fun xl _ => VO.gT rfl rfl (congrArg Value.bool hg6_30) rfl<|HO.bs (ps := [(_,_), (_,_)]) (vs := [(_,_), (_,_)]) (Z := [_,_]) (C := [_,_]) S72 Z3 N3 ⟨(.r rfl), (.r rfl), trivial⟩ rfl rfl rfl rfl ⟨_, [_], [_,_], rfl, rfl, rfl, rfl, ⟨_, [_], [_,_], rfl, rfl, rfl, rfl, rfl⟩⟩ fun b43 => VO.gT rfl rfl (congrArg Value.bool hg6_30) rfl<|HO.lo (LO.call (xs := [_,_]) (vs := [_,_]) C24 ⟨(.r rfl), (.r rfl), trivial⟩ (fun w hw => ints_c xl.1 _ (levelsL (y2.o (y1.o o 0) 300)) [2,1] xl.2 2 w (by rw [hLv]; decide) (by decide) (own_rows hw 1 rfl) (ints_blk (l := [2,1]) (St.inv hw 0 _ rfl))))<|VO.h rfl<|HO.lo (LO.pkT (.r rfl) hg6_30 (.r rfl))<|VO.h rfl<|HO.lo (LO.as (.r rfl))<|VO.nil ?_) (fun hg6_30 => (by exfalso; exact absurd hg6_30 (by decide))))
  refine VE.seqN<|VC.ret (VE.s rfl rfl (fun w hw => ?_))
  refine ⟨?_, hw.nil⟩
  simp only [resV]
  rw [decide_eq_true hLv]
end Go.Proofs.YtdjflomhaljljaaGreat
