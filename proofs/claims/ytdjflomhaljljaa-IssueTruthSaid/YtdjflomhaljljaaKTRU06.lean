/-
  Drafts are made.
  Clouds by numbers, and beats.
  Drafts make valid services, and clouds by numbers are valid.
  Offices that have made their steps.
  What IssueNumbered rests on, in plain words.
  The steps of a draft: events and warnings, one by one.
  IssueThreats is walked.
  Frames of the laws about drafts.
  What a cloud does in truth, pixel by pixel: plain.
  What a cloud does in truth: the walk.
  Threats by their states, and levels at the times of steps: plain.
  IssueTruth is walked.
  What a reading says of the arguments of the laws about offices.
  Readings of drafts, clouds by numbers, and beats.
  Readings of bools and of two numbers.
-/
import Derived.Test.YtdjflomhaljljaaKTRU05

namespace Go.Proofs.Ytdjflomhaljljaa
open Go.SL Go.Proofs Go.Cast
set_option linter.unusedVariables false

theorem Z23 : ZeroOf Try.prog 23 (.agg #[.int .i64 0, .int .i64 0, .int .i64 0, .int .i64 0, .int .i64 0]) := by unfold ZeroOf; kernel_rfl
theorem N23 : (Try.prog.info? 23).map (·.size) = some 5 := by kernel_rfl
theorem C51 : IsFn Try.prog 51 := ⟨_, Try.func51, by decide, rfl⟩
theorem F48_1 : FieldAt Try.prog 48 1 20 := ⟨_, _, Try.underlying48, rfl, rfl, 0, by kernel_rfl⟩
theorem O46 : IsOne Try.prog 46 := ⟨⟨_, Try.underlying46, rfl⟩, by kernel_rfl⟩
theorem F48_2 : FieldAt Try.prog 48 2 21 := ⟨_, _, Try.underlying48, rfl, rfl, 0, by kernel_rfl⟩
theorem F48_3 : FieldAt Try.prog 48 3 22 := ⟨_, _, Try.underlying48, rfl, rfl, 0, by kernel_rfl⟩
theorem S143 : IsSlice Try.prog 143 9 := Try.underlying143
theorem Z9 : ZeroOf Try.prog 9 (.string ByteArray.empty) := by unfold ZeroOf; kernel_rfl
theorem N9 : (Try.prog.info? 9).map (·.size) = some 1 := by kernel_rfl
theorem F48_0 : FieldAt Try.prog 48 0 0 := ⟨_, _, Try.underlying48, rfl, rfl, 19, by kernel_rfl⟩
theorem N5 : (Try.prog.info? 5).map (·.size) = some 1 := by kernel_rfl
theorem O5 : IsOne Try.prog 5 := ⟨⟨_, Try.underlying5, rfl⟩, by kernel_rfl⟩


abbrev u8V (n : Int) : Value := .int .u8 n
def U8 (n : Int) : Prop := 0 ≤ n ∧ n ≤ 255
def U16 (n : Int) : Prop := 0 ≤ n ∧ n ≤ 65535
def I16 (n : Int) : Prop := -32768 ≤ n ∧ n ≤ 32767
/-- A draft. -/
structure DrM where
  px : List Int
  a : Int
  b : Int
  c : Int
abbrev DrM.cells (d : DrM) : List Value := d.px.map u8V ++ [.int .u16 d.a, .int .u16 d.b, .int .u16 d.c]
def DrM.ok (d : DrM) : Prop := d.px.length = 20 ∧ (∀ n, n ∈ d.px → U8 n) ∧ U16 d.a ∧ U16 d.b ∧ U16 d.c
theorem DrM.at (d : DrM) (h : d.px.length = 20) (k : Nat) (v : Value) (hk : [.int .u16 d.a, .int .u16 d.b, .int .u16 d.c][k]? = some v) : ∃ r, d.cells.toArray.toList.drop (20 + k) = [v] ++ r := by
  show ∃ r, (d.px.map u8V ++ _).drop (20 + k) = _
  have h2 : (d.px.map u8V).length = 20 := by simpa using h
  rw [← h2, List.drop_length_add_append]
  match k with
  | 0 => cases hk; exact ⟨_, rfl⟩
  | 1 => cases hk; exact ⟨_, rfl⟩
  | 2 => cases hk; exact ⟨_, rfl⟩
  | k + 3 => simp at hk
theorem px_at {px : List Int} {rest : List Value} {p : Nat} (h : p < px.length) : ∃ r, (px.map u8V ++ rest).toArray.toList.drop p = [u8V (px.getD p 0)] ++ r := by
  show ∃ r, (px.map u8V ++ rest).drop p = _
  rw [List.drop_append_of_le_length (by simp; omega), ← List.map_drop, List.drop_eq_getElem_cons h]
  refine ⟨(px.drop (p + 1)).map u8V ++ rest, ?_⟩
  have e : px.getD p 0 = px[p] := by rw [List.getD_eq_getElem?_getD, List.getElem?_eq_getElem h]; rfl
  rw [e]; rfl
theorem u8_at {px : List Int} (h : ∀ n, n ∈ px → U8 n) {p : Nat} (hp : p < px.length) : 0 ≤ px.getD p 0 ∧ px.getD p 0 ≤ 255 := h _ (getD_mem hp)
def gD : Grid := ⟨0, 0, 1000, 5, 4⟩
def nmB (n : UInt8) : ByteArray := ⟨#[n]⟩
def nmS (i : Nat) : ByteArray := [nmB 97, nmB 98, nmB 99].getD i ByteArray.empty
theorem nm_at {i : Nat} (h : i < 3) : ∃ r, [Value.string (nmB 97), .string (nmB 98), .string (nmB 99)].drop (0 + i * 1) = [.string (nmS i)] ++ r := by
  match i, h with
  | 0, _ => exact ⟨_, rfl⟩
  | 1, _ => exact ⟨_, rfl⟩
  | 2, _ => exact ⟨_, rfl⟩
/-- A pixel is in a region. -/
def drIn (d : DrM) (i p : Nat) : Prop := (d.px.getD p 0).fdiv (2 ^ (Min.min (i : Int).toNat 64)) % 2 = 1 ∨ (i : Int) = 0 ∧ (d.px.getD p 0).tmod 8 = 0
instance (d : DrM) (i p : Nat) : Decidable (drIn d i p) := by unfold drIn; infer_instance
def drPx (d : DrM) (i n : Nat) : List Int := ((List.range n).filter fun p => decide (drIn d i p)).map Int.ofNat
theorem drPx_y {d : DrM} {i n : Nat} (h : drIn d i n) : drPx d i (n + 1) = drPx d i n ++ [(n : Int)] := by
  unfold drPx; rw [List.range_succ, List.filter_append, List.map_append]; simp [h]
theorem drPx_n {d : DrM} {i n : Nat} (h : ¬ drIn d i n) : drPx d i (n + 1) = drPx d i n := by
  unfold drPx; rw [List.range_succ, List.filter_append]; simp [h]
theorem drPx_len {d : DrM} {i n : Nat} : (drPx d i n).length ≤ n := by
  unfold drPx
  rw [List.length_map]
  have := List.length_filter_le (fun p => decide (drIn d i p)) (List.range n)
  simpa using this
/-- The first regions of a draft. -/
def drRegs (d : DrM) : Nat → List Reg
  | 0 => []
  | i + 1 => if drPx d i 20 = [] then drRegs d i else drRegs d i ++ [⟨nmS i, drPx d i 20⟩]
theorem drRegs_len {d : DrM} : ∀ i, (drRegs d i).length ≤ i
  | 0 => Nat.le_refl _
  | i + 1 => by
    have := drRegs_len (d := d) i
    unfold drRegs; split
    · omega
    · simp; omega
theorem drRegs_y {d : DrM} {i : Nat} (h : drPx d i 20 ≠ []) : drRegs d (i + 1) = drRegs d i ++ [⟨nmS i, drPx d i 20⟩] := by
  conv => lhs; unfold drRegs
  rw [if_neg h]
theorem drRegs_n {d : DrM} {i : Nat} (h : drPx d i 20 = []) : drRegs d (i + 1) = drRegs d i := by
  conv => lhs; unfold drRegs
  rw [if_pos h]
def drA (d : DrM) : Int := d.a.tmod 301
def drB (d : DrM) : Int := 30 + d.b.tmod 120
def drC (d : DrM) : Int := d.c.tmod 400
def drSp (d : DrM) : Sp := ⟨gD, drRegs d 3, drA d, drB d, drC d⟩
theorem tm {n m : Int} (h : 0 ≤ n) (hm : 0 < m) : 0 ≤ n.tmod m ∧ n.tmod m < m := ⟨Int.tmod_nonneg _ h, Int.tmod_lt_of_pos _ hm⟩
theorem dr_bd {d : DrM} (h : d.ok) : (0 ≤ drA d ∧ drA d ≤ 300) ∧ (30 ≤ drB d ∧ drB d ≤ 149) ∧ (0 ≤ drC d ∧ drC d ≤ 399) := by
  obtain ⟨_, _, h1, h2, h3⟩ := h
  have q1 := tm h1.1 (show (0 : Int) < 301 by decide)
  have q2 := tm h2.1 (show (0 : Int) < 120 by decide)
  have q3 := tm h3.1 (show (0 : Int) < 400 by decide)
  unfold drA drB drC
  omega

set_option maxRecDepth 20000 in
theorem grid_c (w : World) :
  Calls Try.prog 51 #[] w fun e w' => e = .returned (.agg #[.int .i64 0, .int .i64 0, .int .i64 1000, .int .i64 5, .int .i64 4]) ∧ St (bs w) [] w' := by
  refine enter (vs := []) (env := []) Try.func51 rfl rfl rfl rfl ?_
  refine VC.seq ?_
  refine VC.reg (VO.h rfl <| HO.alloc (C := #[_, _, _, _, _]) Z23 rfl fun b1 => VO.nil ?_)
  refine VE.seqN ?_
  refine VC.seq ?_
  refine VC.reg (VO.l (LO.bd (ps := [(_, _), (_, _), (_, _)]) (vs := [(_, _), (_, _), (_, _)]) (C := [_, _, _, _, _]) B23  ⟨(.r rfl), (.r rfl), (.r rfl), trivial⟩ rfl ⟨_, [_], [_, _, _, _, _], rfl, rfl, rfl, rfl, ⟨_, [_], [_, _, _, _, _], rfl, rfl, rfl, rfl, ⟨_, [_], [_, _, _, _, _], rfl, rfl, rfl, rfl, rfl⟩⟩⟩) rfl <| VO.h0 <| HO.st 0 (vs := [_, _, _, _, _]) (C' := [_, _, _, _, _]) (L' := [_]) N23 rfl rfl rfl rfl rfl rfl rfl rfl <| VO.nil ?_)
  refine VE.seqN ?_
  refine VC.ret (VE.res (vs := [_]) rfl ⟨RV.agg (vs := [_, _, _, _, _]) A23 rfl (cells_blk 0 rfl ⟨_, rfl⟩) rfl, trivial⟩ (fun w hw => ?_))
  exact ⟨rfl, hw.nil⟩

set_option maxRecDepth 20000 in
theorem dmade_c (d : DrM) (w : World) (hd : d.ok) :
  Calls Try.prog 19 #[.agg d.cells.toArray] w fun e w' => ∃ y : List RG × Option Addr × Nat, y.1.map RG.r = drRegs d 3 ∧ e = .returned (specV gD y.2.1 y.1.length y.2.2 (drA d) (drB d) (drC d)) ∧ St (bs w) [own 74 2 y.2.1 y.2.2 (y.1.map RG.cells), bagD (y.1.map pixR)] w' := by
  obtain ⟨hl20, hu8, hua, hub, huc⟩ := id hd
  have hbd := dr_bd hd
  unfold U16 at hua hub huc
  refine enter (vs := [_]) (env := [(0, _)]) Try.func19 rfl rfl rfl rfl ?_
  refine VC.seq ?_
  refine VC.reg (VO.h rfl <| HO.box (C := d.cells.toArray) rfl rfl fun b1 => VO.h rfl <| HO.alloc (C := #[_, _, _, _, _, _, _, _, _]) Z28 rfl fun b2 => VO.nil ?_)
  refine VE.seqN ?_
  refine VC.seq ?_
  refine VC.drawH [[0, 1], [0, 1], [0, 1]] [some 1, some 1, some 1, some 1, some 1, some 1, some 1, some 1, some 1, some 1, some 1, some 1, some 1, some 1, some 1, some 1, none, none] mixed (by kernel_rfl) rfl (LX.l (fun _ hJ => LO.call (xs := []) (vs := []) C51 trivial (fun w _ => grid_c w)) rfl <| LX.l (fun _ hJ => LO.fa (r := 20) F48_1 (.r rfl) rfl) rfl <| LX.l (fun _ hJ => LO.ld O46 (.r rfl) (fun _ hw => cells_at (hJ _ hw) 1 rfl (d.at hl20 0 _ rfl))) rfl <| LX.l (fun _ hJ => LO.cv ⟨_, Try.underlying46⟩ Try.underlying3 (.r rfl) (wi (by omega) (by omega))) rfl <| LX.l (fun _ hJ => LO.rem (.r rfl) (.r rfl) (by omega)) rfl <| LX.l (fun _ hJ => LO.fa (r := 21) F48_2 (.r rfl) rfl) rfl <| LX.l (fun _ hJ => LO.ld O46 (.r rfl) (fun _ hw => cells_at (hJ _ hw) 1 rfl (d.at hl20 1 _ rfl))) rfl <| LX.l (fun _ hJ => LO.cv ⟨_, Try.underlying46⟩ Try.underlying3 (.r rfl) (wi (by omega) (by omega))) rfl <| LX.l (fun _ hJ => LO.rem (.r rfl) (.r rfl) (by omega)) rfl <| LX.l (fun _ hJ => LO.add (.r rfl) (.r rfl) (wi (by show _ ≤ 30 + d.b.tmod 120; unfold drB at hbd; omega) (by show 30 + d.b.tmod 120 ≤ _; unfold drB at hbd; omega))) rfl <| LX.l (fun _ hJ => LO.fa (r := 22) F48_3 (.r rfl) rfl) rfl <| LX.l (fun _ hJ => LO.ld O46 (.r rfl) (fun _ hw => cells_at (hJ _ hw) 1 rfl (d.at hl20 2 _ rfl))) rfl <| LX.l (fun _ hJ => LO.cv ⟨_, Try.underlying46⟩ Try.underlying3 (.r rfl) (wi (by omega) (by omega))) rfl <| LX.l (fun _ hJ => LO.rem (.r rfl) (.r rfl) (by omega)) rfl <| LX.l (fun _ hJ => LO.bd (ps := [(_, _), (_, _), (_, _)]) (vs := [(_, _), (_, _), (_, _)]) (C := [_, _, _]) B26  ⟨(.r rfl), (.r rfl), (.r rfl), trivial⟩ rfl ⟨_, [_], [_, _, _], rfl, rfl, rfl, rfl, ⟨_, [_], [_, _, _], rfl, rfl, rfl, rfl, ⟨_, [_], [_, _, _], rfl, rfl, rfl, rfl, rfl⟩⟩⟩) rfl <| LX.l (fun _ hJ => LO.bd (ps := [(_, _), (_, _)]) (vs := [(_, _), (_, _)]) (C := [_, _, _, _, _, _, _, _, _]) B28  ⟨(.r rfl), (.r rfl), trivial⟩ rfl ⟨_, [_, _, _, _, _], [_, _, _, _, _, _, _, _, _], rfl, rfl, rfl, rfl, ⟨_, [_, _, _], [_, _, _, _, _, _, _, _, _], rfl, rfl, rfl, rfl, rfl⟩⟩) rfl <| LX.s <| LX.s <| LX.nil) (HX.s <| HX.s <| HX.s <| HX.s <| HX.s <| HX.s <| HX.s <| HX.s <| HX.s <| HX.s <| HX.s <| HX.s <| HX.s <| HX.s <| HX.s <| HX.s <| HX.h rfl <| HO.alloc (C := #[_, _, _, _, _, _, _, _, _]) Z28 rfl fun b5 => ⟨fun _ hw => hw.sel [1, 2] rfl, HX.h0 <| HO.st 0 (vs := [_, _, _, _, _, _, _, _, _]) (C' := [_, _, _, _, _, _, _, _, _]) (L' := [_, _, _]) N28 rfl rfl rfl rfl rfl rfl rfl rfl <| ⟨fun _ hw => hw.sel [1, 2] rfl, HX.nil ?_⟩⟩)
  refine VE.seqN ?_
  refine VC.seq ?_
  refine VC.reg (VO.h rfl <| HO.bs (ps := [(_, _), (_, _), (_, _)]) (vs := [(_, _), (_, _), (_, _)]) (Z := [_, _, _]) (C := [_, _, _]) S143 Z9 N9 ⟨(.r rfl), (.r rfl), (.r rfl), trivial⟩ rfl rfl rfl rfl ⟨_, [_], [_, _, _], rfl, rfl, rfl, rfl, ⟨_, [_], [_, _, _], rfl, rfl, rfl, rfl, ⟨_, [_], [_, _, _], rfl, rfl, rfl, rfl, rfl⟩⟩⟩ fun b7 => VO.h rfl <| HO.lo (LO.as (.r rfl)) <| VO.nil ?_)
  refine VE.seqN ?_
  refine VC.seq ?_
  refine VC.seq ?_
  refine VC.reg (VO.l (LO.as (.r rfl)) rfl <| VO.nil ?_)
  refine VE.seqN ?_
  refine VC.block ?_
  refine VC.perm [1, 0, 2, 3] rfl ?_
  refine VC.loopK (α := Nat × (List RG) × (Option Addr) × Nat) 1 (fun gx => [(5, .int .i64 (gx.1 : Nat))]) [(1, _), (2, _), (3, _), (4, _)] (fun gx => [blk b5 (.cells #[.int .i64 0, .int .i64 0, .int .i64 1000, .int .i64 5, .int .i64 4, .slice gx.2.2.1 gx.2.1.length gx.2.2.2, .int .i64 (drA d), .int .i64 (drB d), .int .i64 (drC d)] 28), own 74 2 gx.2.2.1 gx.2.2.2 (gx.2.1.map RG.cells), bagD (gx.2.1.map pixR)]) (fun gx => gx.1 ≤ 3 ∧ gx.2.1.map RG.r = drRegs d gx.1) (fun gx => 3 - gx.1) (0, [], none, 0) (by exact ⟨Nat.zero_le _, rfl⟩) (.cons rfl (.cons rfl (.cons rfl (.cons rfl (.cons rfl .nil))))) (fun _ h => (((St.bagD (Rs := []) h).ownNil 74 2)).sel [2, 0, 1, 3, 4, 5] rfl) ?_
  rintro ⟨i, rgs, pg_, cg_⟩ ⟨hi, hX⟩
  show VC _ _ _ _ _ ([(5, .int .i64 (i : Nat))] ++ _) ([blk b5 (.cells #[.int .i64 0, .int .i64 0, .int .i64 1000, .int .i64 5, .int .i64 4, .slice pg_ rgs.length cg_, .int .i64 (drA d), .int .i64 (drB d), .int .i64 (drC d)] 28), own 74 2 pg_ cg_ (rgs.map RG.cells), bagD (rgs.map pixR)] ++ _) _ _
  dsimp only at hi hX
  have hgl : rgs.length ≤ i := by rw [← List.length_map (f := RG.r), hX]; exact drRegs_len i
  refine VC.seq ?_
  refine VC.seq ?_
  refine VC.reg (VO.l (LO.mv (.r rfl)) rfl <| VO.l (LO.lt (.r rfl) (.r rfl)) rfl <| VO.nil ?_)
  refine VE.seqN ?_
  refine VC.cond rfl (fun h26 => ?_) (fun h26 => ?_)
  ·
    refine VC.skip (VE.seqN ?_)
    refine VC.seq ?_
    refine VC.block ?_
    refine VC.seq ?_
    refine VC.reg (VO.l (LO.mv (.r rfl)) rfl <| VO.l (LO.mv (.r rfl)) rfl <| VO.l (LO.ix (j := i) S143 N9 (.r rfl) (.r rfl) (by omega)) rfl <| VO.l (LO.ld O9 (.r rfl) (fun _ hw => cells_at hw 3 rfl (nm_at (by omega)))) rfl <| VO.l (LO.bd (ps := [(_, _)]) (vs := [(_, _)]) (C := [_, _]) B74  ⟨(.r rfl), trivial⟩ rfl ⟨_, [_], [_, _], rfl, rfl, rfl, rfl, rfl⟩) rfl <| VO.h rfl <| HO.alloc (C := #[_, _]) Z74 rfl fun b11 => VO.h0 <| HO.st 0 (vs := [_, _]) (C' := [_, _]) (L' := [_, _, _, _, _, _, _]) N74 rfl rfl rfl rfl rfl rfl rfl rfl <| VO.nil ?_)
    refine VE.seqN ?_
    refine VC.seq ?_
    refine VC.seq ?_
    refine VC.reg (VO.l (LO.as (.r rfl)) rfl <| VO.nil ?_)
    refine VE.seqN ?_
    refine VC.block ?_
    refine VC.loopK (α := Nat × (List Int) × (Option Addr) × Nat) 1 (fun gx => [(7, .int .i64 (gx.1 : Nat))]) [(1, _), (2, _), (3, _), (4, _), (5, _), (6, _)] (fun gx => [blk b11 (.cells #[.string (nmS i), .slice gx.2.2.1 gx.2.1.length gx.2.2.2] 74), own 3 1 gx.2.2.1 gx.2.2.2 (gx.2.1.map iC)]) (fun gx => gx.1 ≤ 20 ∧ gx.2.1 = drPx d i gx.1) (fun gx => 20 - gx.1) (0, [], none, 0) (by exact ⟨Nat.zero_le _, rfl⟩) (.cons rfl (.cons rfl (.cons rfl (.cons rfl (.cons rfl (.cons rfl (.cons rfl .nil))))))) (fun _ h => ((h.ownNil 3 1)).sel [1, 0, 2, 3, 4, 5, 6, 7] rfl) ?_
    rintro ⟨p, xs, px_, cx_⟩ ⟨hp, hx⟩
    show VC _ _ _ _ _ ([(7, .int .i64 (p : Nat))] ++ _) ([blk b11 (.cells #[.string (nmS i), .slice px_ xs.length cx_] 74), own 3 1 px_ cx_ (xs.map iC)] ++ _) _ _
    dsimp only at hp hx
    have hxl : xs.length ≤ p := by rw [hx]; exact drPx_len
    refine VC.seq ?_
    refine VC.seq ?_
    refine VC.reg (VO.l (LO.mv (.r rfl)) rfl <| VO.l (LO.lt (.r rfl) (.r rfl)) rfl <| VO.nil ?_)
    refine VE.seqN ?_
    refine VC.cond rfl (fun h35 => ?_) (fun h35 => ?_)
    ·
      have hpx := u8_at hu8 (p := p) (by omega)
      refine VC.skip (VE.seqN ?_)
      refine VC.seq ?_
      refine VC.block ?_
      refine VC.seq ?_
      refine VC.reg (VO.l (LO.mv (.r rfl)) rfl <| VO.l (LO.fa (r := 0) F48_0 (.r rfl) rfl) rfl <| VO.l (LO.ixa (j := p) (r := p) Try.underlying45 N5 (.r rfl) (.r rfl) rfl (by omega) (by omega)) rfl <| VO.l (LO.ld O5 (.r rfl) (fun _ hw => cells_at hw 7 rfl (px_at (by omega)))) rfl <| VO.l (LO.cv ⟨_, Try.underlying5⟩ Try.underlying3 (.r rfl) (wi (by omega) (by omega))) rfl <| VO.l (LO.mv (.r rfl)) rfl <| VO.l (LO.shr (.r rfl) (.r rfl) (by omega)) rfl <| VO.l (LO.and1 (.r rfl) (.r rfl)) rfl <| VO.l (LO.eq (.r rfl) (.r rfl)) rfl <| VO.l (LO.mv (.r rfl)) rfl <| VO.lg rfl rfl (GD.f _) (fun hg => LO.mv (.r rfl)) rfl <| VO.lg rfl rfl (GD.f _) (fun hg => LO.eq (.g hg rfl) (.r rfl)) rfl <| VO.lg rfl rfl (GD.f _) (fun hg => LO.mv (.g hg rfl)) rfl <| VO.lg rfl rfl (GD.nt _ _) (fun hg => LO.mv (.r rfl)) rfl <| VO.lg rfl rfl (GD.nt _ _) (fun hg => LO.fa (r := 0) F48_0 (.r rfl) rfl) rfl <| VO.lg rfl rfl (GD.nt _ _) (fun hg => LO.ixa (j := p) (r := p) Try.underlying45 N5 (.g hg rfl) (.g hg rfl) rfl (by omega) (by omega)) rfl <| VO.lg rfl rfl (GD.nt _ _) (fun hg => LO.ld O5 (.g hg rfl) (fun _ hw => cells_at hw 7 rfl (px_at (by omega)))) rfl <| VO.lg rfl rfl (GD.nt _ _) (fun hg => LO.rem (.g hg rfl) (.r rfl) (by decide)) rfl <| VO.lg rfl rfl (GD.nt _ _) (fun hg => LO.eq (.g hg rfl) (.r rfl)) rfl <| VO.lg rfl rfl (GD.f _) (fun hg => LO.pkA (.g hg rfl) rfl (and_e hg) (.r rfl)) rfl <| VO.l (LO.pkO (.r rfl) (.r rfl) rfl rfl) rfl <| VO.nil ?_)
      refine VE.seqN ?_
      refine VC.cond rfl (fun h58 => ?_) (fun h58 => ?_)
      ·
        refine VC.reg (VO.l (LO.fa (r := 1) F74_1 (.r rfl) rfl) rfl <| VO.l (LO.ld O55 (.r rfl) (fun _ hw => cells_at hw 0 rfl ⟨_, rfl⟩)) rfl <| VO.l (LO.mv (.r rfl)) rfl <| VO.h rfl <| HO.bs (ps := [(_, _)]) (vs := [(_, _)]) (Z := [_]) (C := [_]) S55 Z3 N3 ⟨(.r rfl), trivial⟩ rfl rfl rfl rfl ⟨_, [_], [_], rfl, rfl, rfl, rfl, rfl⟩ fun b15 => VO.h rfl <| HO.appT (((p : Nat) : Int)) 2 0 (fun R => [_, _, R, _, _, _, _, _, _]) S55 S55 I3 (.r rfl) (.r rfl) rfl rfl rfl rfl rfl rfl rfl (fun _ => rfl) rfl (by omega) fun p4 c4 => VO.l (LO.fa (r := 1) F74_1 (.r rfl) rfl) rfl <| VO.h0 <| HO.st 1 (vs := [_]) (C' := [_, _]) (L' := [_, _, _, _, _, _, _, _, _]) N55 rfl rfl rfl rfl rfl rfl rfl rfl <| VO.nil ?_)
        refine VE.inN (VE.seqN ?_)
        refine VC.reg (VO.l (LO.mv (.r rfl)) rfl <| VO.l (LO.add (.r rfl) (.r rfl) (wi (by omega) (by omega))) rfl <| VO.l (LO.as (.r rfl)) rfl <| VO.nil ?_)
        refine VE.thenN fun a w ha hw => ⟨(p + 1, xs ++ [((p : Nat) : Int)], p4, c4), ⟨by dsimp only; omega, by dsimp only; rw [hx]; exact (drPx_y h58).symm⟩, (by dsimp only; omega), ha.sub (.cons rfl (.cons rfl (.cons rfl (.cons rfl (.cons rfl (.cons rfl (.cons rfl .nil))))))), hw.sel [1, 2, 3, 4, 5, 6, 7, 8] rfl⟩
      ·
        refine VC.skip (VE.inN (VE.seqN ?_))
        refine VC.reg (VO.l (LO.mv (.r rfl)) rfl <| VO.l (LO.add (.r rfl) (.r rfl) (wi (by omega) (by omega))) rfl <| VO.l (LO.as (.r rfl)) rfl <| VO.nil ?_)
        refine VE.thenN fun a w ha hw => ⟨(p + 1, xs, px_, cx_), ⟨by dsimp only; omega, by dsimp only; rw [hx]; exact (drPx_n h58).symm⟩, (by dsimp only; omega), ha.sub (.cons rfl (.cons rfl (.cons rfl (.cons rfl (.cons rfl (.cons rfl (.cons rfl .nil))))))), hw⟩
    ·
      refine VC.exit (VE.thenX (VE.thenX (VE.inX (VE.seqN ?_))))
      refine VC.seq ?_
      refine VC.reg (VO.l (LO.fa (r := 1) F74_1 (.r rfl) rfl) rfl <| VO.l (LO.ld O55 (.r rfl) (fun _ hw => cells_at hw 0 rfl ⟨_, rfl⟩)) rfl <| VO.l (LO.len S55 (.r rfl) rfl) rfl <| VO.l (LO.gt (.r rfl) (.r rfl)) rfl <| VO.nil ?_)
      refine VE.seqN ?_
      refine VC.cond rfl (fun h68 => ?_) (fun h68 => ?_)
      ·
        have hne : drPx d i 20 ≠ [] := fun q => by rw [show p = 20 by omega] at hx; rw [hx, q] at h68; exact absurd h68 (by decide)
        refine VC.reg (VO.l (LO.fa (r := 5) F28_1 (.r rfl) rfl) rfl <| VO.l (LO.ld O24 (.r rfl) (fun _ hw => cells_at hw 2 rfl ⟨_, rfl⟩)) rfl <| VO.l (LO.lda (vs := [_, _]) A74 (.r rfl) (fun _ hw => cells_at hw 0 rfl ⟨_, rfl⟩) rfl) rfl <| VO.h rfl <| HO.bs (ps := [(_, _)]) (vs := [(_, _)]) (Z := [_, _]) (C := [_, _]) S24 Z74 N74 ⟨(.r rfl), trivial⟩ rfl rfl rfl rfl ⟨_, [_, _], [_, _], rfl, rfl, rfl, rfl, rfl⟩ fun b17 => VO.h rfl <| HO.appT ((RG.mk ⟨nmS i, xs⟩ px_ cx_)) 4 0 (fun R => [_, _, _, _, R, _, _, _, _]) S24 S24 I74 (.r rfl) (.r rfl) rfl rfl rfl rfl rfl rfl rfl (fun _ => rfl) rfl (by omega) fun p4 c4 => VO.l (LO.fa (r := 5) F28_1 (.r rfl) rfl) rfl <| VO.h0 <| HO.st 3 (vs := [_]) (C' := [_, _, _, _, _, _, _, _, _]) (L' := [_, _, _, _, _, _, _, _, _]) N24 rfl rfl rfl rfl rfl rfl rfl rfl <| VO.nil ?_)
        refine VE.inN (VE.seqN ?_)
        refine VC.reg (VO.l (LO.mv (.r rfl)) rfl <| VO.l (LO.add (.r rfl) (.r rfl) (wi (by omega) (by omega))) rfl <| VO.l (LO.as (.r rfl)) rfl <| VO.nil ?_)
        refine VE.thenN fun a w ha hw => ⟨(i + 1, rgs ++ [RG.mk ⟨nmS i, xs⟩ px_ cx_], p4, c4), ⟨by dsimp only; omega, by dsimp only; rw [List.map_append, hX, drRegs_y hne, hx, show p = 20 by omega]; rfl⟩, (by dsimp only; omega), ha.sub (.cons rfl (.cons rfl (.cons rfl (.cons rfl (.cons rfl .nil))))), (by exact (St.bagPx (x := RG.mk ⟨nmS i, xs⟩ px_ cx_) (selK (L1 := [_, _, _, _, _, _, _]) [2, 5, 3, 4, 6, 7, 8] rfl rfl _ hw)).sel [1, 2, 0, 3, 4, 5] rfl)⟩
      ·
        have hne : drPx d i 20 = [] := List.eq_nil_of_length_eq_zero (by rw [show p = 20 by omega] at hx; rw [hx] at h68; omega)
        refine VC.skip (VE.inN (VE.seqN ?_))
        refine VC.reg (VO.l (LO.mv (.r rfl)) rfl <| VO.l (LO.add (.r rfl) (.r rfl) (wi (by omega) (by omega))) rfl <| VO.l (LO.as (.r rfl)) rfl <| VO.nil ?_)
        refine VE.thenN fun a w ha hw => ⟨(i + 1, rgs, pg_, cg_), ⟨by dsimp only; omega, by dsimp only; rw [hX, drRegs_n hne]⟩, (by dsimp only; omega), ha.sub (.cons rfl (.cons rfl (.cons rfl (.cons rfl (.cons rfl .nil))))), (by exact selK (L1 := [_, _, _, _, _, _]) [2, 3, 4, 5, 6, 7] rfl rfl _ hw)⟩
  ·
    refine VC.exit (VE.thenX (VE.thenX (VE.inX (VE.seqN ?_))))
    refine VC.seq ?_
    refine VC.reg (VO.l (LO.lda (vs := [_, _, _, _, _, _, _, _, _]) A28 (.r rfl) (fun _ hw => cells_at hw 0 rfl ⟨_, rfl⟩) rfl) rfl <| VO.h0 <| HO.st 4 (vs := [_, _, _, _, _, _, _, _, _]) (C' := [_, _, _, _, _, _, _, _, _]) (L' := [_, _, _, _, _, _]) N28 rfl rfl rfl rfl rfl rfl rfl rfl <| VO.nil ?_)
    refine VE.seqN ?_
    refine VC.ret (VE.res (vs := [_]) rfl ⟨RV.agg (vs := [_, _, _, _, _, _, _, _, _]) A28 rfl (cells_blk 4 rfl ⟨_, rfl⟩) rfl, trivial⟩ (fun w hw => ?_))
    have hi3 : i = 3 := by omega
    subst hi3
    exact ⟨(rgs, pg_, cg_), hX, rfl, selK (L1 := [_, _]) [1, 2] rfl rfl _ hw⟩

end Go.Proofs.Ytdjflomhaljljaa

namespace Go.Proofs.Ytdjflomhaljljaa
open Go.SL Go.Proofs Go.Cast
set_option linter.unusedVariables false

theorem A148 : IsAgg Try.prog 148 25 := ⟨⟨_, Try.underlying148, rfl⟩, by kernel_rfl⟩
theorem N145 : (Try.prog.info? 145).map (·.size) = some 1 := by kernel_rfl
theorem O145 : IsOne Try.prog 145 := ⟨⟨_, Try.underlying145, rfl⟩, by kernel_rfl⟩
theorem F148_1 : FieldAt Try.prog 148 1 20 := ⟨_, _, Try.underlying148, rfl, rfl, 1, by kernel_rfl⟩
theorem A146 : IsAgg Try.prog 146 2 := ⟨⟨_, Try.underlying146, rfl⟩, by kernel_rfl⟩
theorem C76 : IsFn Try.prog 76 := ⟨_, Try.func76, by decide, rfl⟩
theorem F148_2 : FieldAt Try.prog 148 2 22 := ⟨_, _, Try.underlying148, rfl, rfl, 1, by kernel_rfl⟩
theorem F148_3 : FieldAt Try.prog 148 3 24 := ⟨_, _, Try.underlying148, rfl, rfl, 0, by kernel_rfl⟩
theorem F148_0 : FieldAt Try.prog 148 0 0 := ⟨_, _, Try.underlying148, rfl, rfl, 19, by kernel_rfl⟩
theorem S49 : IsSlice Try.prog 49 148 := Try.underlying49
theorem N148 : (Try.prog.info? 148).map (·.size) = some 25 := by kernel_rfl
theorem C52 : IsFn Try.prog 52 := ⟨_, Try.func52, by decide, rfl⟩
theorem F66_3 : FieldAt Try.prog 66 3 3 := ⟨_, _, Try.underlying66, rfl, rfl, 0, by kernel_rfl⟩
theorem F66_1 : FieldAt Try.prog 66 1 1 := ⟨_, _, Try.underlying66, rfl, rfl, 0, by kernel_rfl⟩
theorem F66_2 : FieldAt Try.prog 66 2 2 := ⟨_, _, Try.underlying66, rfl, rfl, 0, by kernel_rfl⟩


def spA (a b : Int) : Int := min (a.tmod 20001) (b.tmod 20001)
def spB (a b : Int) : Int := max (a.tmod 20001) (b.tmod 20001)
theorem tm2 (a : Int) : -20001 < a.tmod 20001 ∧ a.tmod 20001 < 20001 := ⟨Int.lt_tmod_of_pos a (by decide), Int.tmod_lt_of_pos a (by decide)⟩
/-- A cloud by numbers. -/
structure ClM where
  px : List Int
  xa : Int
  xb : Int
  ya : Int
  yb : Int
  gr : Int
abbrev ClM.cells (c : ClM) : List Value := c.px.map u8V ++ [.int .i16 c.xa, .int .i16 c.xb, .int .i16 c.ya, .int .i16 c.yb, .int .u8 c.gr]
def ClM.ok (c : ClM) : Prop := c.px.length = 20 ∧ (∀ n, n ∈ c.px → U8 n) ∧ I16 c.xa ∧ I16 c.xb ∧ I16 c.ya ∧ I16 c.yb ∧ U8 c.gr
theorem ClM.len {c : ClM} (h : c.ok) : c.cells.length = 25 := by
  show (c.px.map u8V ++ _).length = 25
  rw [List.length_append, List.length_map, h.1]; rfl
theorem ClM.at (c : ClM) (h : c.px.length = 20) (k : Nat) (vs : List Value) (hk : ∃ r, [.int .i16 c.xa, .int .i16 c.xb, .int .i16 c.ya, .int .i16 c.yb, .int .u8 c.gr].drop k = vs ++ r) : ∃ r, c.cells.toArray.toList.drop (20 + k) = vs ++ r := by
  show ∃ r, (c.px.map u8V ++ _).drop (20 + k) = _
  have h2 : (c.px.map u8V).length = 20 := by simpa using h
  rw [← h2, List.drop_length_add_append]
  exact hk
def pxF (px : List Int) (f : Int → Bool) (n : Nat) : List Int := ((List.range n).filter fun p => f (px.getD p 0)).map Int.ofNat
theorem pxF_y {px : List Int} {f : Int → Bool} {n : Nat} (h : f (px.getD n 0) = true) : pxF px f (n + 1) = pxF px f n ++ [(n : Int)] := by
  unfold pxF; rw [List.range_succ, List.filter_append, List.map_append]; simp only [List.filter_cons, h, if_true, List.filter_nil]; rfl
theorem pxF_n {px : List Int} {f : Int → Bool} {n : Nat} (h : f (px.getD n 0) = false) : pxF px f (n + 1) = pxF px f n := by
  unfold pxF; rw [List.range_succ, List.filter_append]; simp only [List.filter_cons, h, Bool.false_eq_true, if_false, List.filter_nil, List.append_nil]
theorem pxF_len {px : List Int} {f : Int → Bool} {n : Nat} : (pxF px f n).length ≤ n := by
  unfold pxF
  rw [List.length_map]
  have := List.length_filter_le (fun p => f (px.getD p 0)) (List.range n)
  simpa using this
def mayF (n : Int) : Bool := decide (0 < n.tmod 3)
def sureF (n : Int) : Bool := decide (n.tmod 3 = 1)
def clMk (c : ClM) : Cloud := ⟨pxF c.px sureF 20, pxF c.px mayF 20, ⟨spA c.xa c.xb, spB c.xa c.xb, spA c.ya c.yb, spB c.ya c.yb⟩, c.gr⟩
def clHas (c : ClM) : Bool := decide ((0 : Int) < ((pxF c.px mayF 20).length : Nat))
/-- All clouds that have pixels. -/
def allL : List ClM → Nat → List Cloud
  | _, 0 => []
  | l, n + 1 => match l[n]? with
    | none => allL l n
    | some c => if clHas c = true then allL l n ++ [clMk c] else allL l n
theorem allL_len {l : List ClM} : ∀ n, (allL l n).length ≤ n
  | 0 => Nat.le_refl _
  | n + 1 => by
    have := allL_len (l := l) n
    unfold allL
    split
    · omega
    · split
      · simp; omega
      · omega
theorem allL_y {l : List ClM} {n : Nat} {c : ClM} (hc : l[n]? = some c) (h : clHas c = true) : allL l (n + 1) = allL l n ++ [clMk c] := by
  conv => lhs; unfold allL
  simp [hc, h]
theorem allL_n {l : List ClM} {n : Nat} {c : ClM} (hc : l[n]? = some c) (h : clHas c = false) : allL l (n + 1) = allL l n := by
  conv => lhs; unfold allL
  simp [hc, h]
structure ClsM (w : World) (p : Option Addr) (l : List ClM) : Prop where
  rows : RO 25 ClM.cells w p l
  ok : ∀ c, c ∈ l → c.ok
/-- A beat. -/
structure BtM where
  la : Int
  a : Int
  b : Int
  no : Bool
abbrev BtM.cells (b : BtM) : List Value := [.int .u16 b.la, .int .u8 b.a, .int .u8 b.b, .bool b.no]
def BtM.ok (b : BtM) : Prop := U16 b.la ∧ U8 b.a ∧ U8 b.b
structure BtsM (w : World) (p : Option Addr) (l : List BtM) : Prop where
  rows : RO 4 BtM.cells w p l
  ok : ∀ c, c ∈ l → c.ok
def btIx (n : Nat) (a : Int) : Nat := (a.tmod (n : Int)).toNat
/-- The clouds of a beat. -/
def beatL (b : BtM) (l : List Cloud) : List Cloud := if (l.length : Int) = 0 ∨ b.no = true then [] else [l.getD (btIx l.length b.a) default, l.getD (btIx l.length b.b) default]
theorem btIx_lt {n : Nat} {a : Int} (ha : 0 ≤ a) (hn : 0 < n) : btIx n a < n ∧ (a.tmod (n : Int)) = (btIx n a : Nat) := by
  unfold btIx
  have := tm ha (show (0 : Int) < (n : Int) by omega)
  omega
theorem St.blkRows {β : Bs} {L : List Res} {w : World} (hw : St β L w) (i : Nat) {E z b : Nat} {C : Array Value} {rows : List (List Value)} (hi : L[i]? = some (blk b (.cells C E))) (hC : C.toList = rows.flatten) (hz : ∀ r, r ∈ rows → r.length = z) : St β (L.set i (own E z (some ⟨b, 0, none⟩) rows.length rows)) w :=
  hw.conv i hi (fun k hk => hk.2) ⟨Nat.le_refl _, hz, fun q => (by cases q), fun a ha => by
    cases ha
    exact ⟨rfl, rfl, C, [], hw.inv i _ hi, by rw [List.append_nil]; exact hC, by rw [← Array.length_toList, hC, flatten_len hz]⟩⟩

set_option maxRecDepth 20000 in
theorem span_c (a b : Int) (w : World) (ha : I16 a) (hb : I16 b) :
  Calls Try.prog 76 #[.agg #[.int .i16 a, .int .i16 b]] w fun e w' => e = .returned (.agg #[.int .i64 (spA a b), .int .i64 (spB a b)]) ∧ St (bs w) [] w' := by
  unfold I16 at ha hb
  refine enter (vs := [_]) (env := [(0, _)]) Try.func76 rfl rfl rfl rfl ?_
  refine VC.seq ?_
  refine VC.reg (VO.h rfl <| HO.box (C := #[_, _]) rfl rfl fun b1 => VO.h rfl <| HO.alloc (C := #[_, _]) Z76 rfl fun b2 => VO.nil ?_)
  refine VE.seqN ?_
  refine VC.seq ?_
  refine VC.draw mixed (LL.l (LO.ixa (j := 0) (r := 0) Try.underlying146 N145 (.r rfl) (.r rfl) rfl (by decide) rfl) rfl <| LL.l (LO.ld O145 (.r rfl) (fun _ hw => cells_at hw 1 rfl ⟨_, rfl⟩)) rfl <| LL.l (LO.cv ⟨_, Try.underlying145⟩ Try.underlying3 (.r rfl) (wi (by omega) (by omega))) rfl <| LL.l (LO.rem (.r rfl) (.r rfl) (by omega)) rfl <| LL.l (LO.ixa (j := 1) (r := 1) Try.underlying146 N145 (.r rfl) (.r rfl) rfl (by decide) rfl) rfl <| LL.l (LO.ld O145 (.r rfl) (fun _ hw => cells_at hw 1 rfl ⟨_, rfl⟩)) rfl <| LL.l (LO.cv ⟨_, Try.underlying145⟩ Try.underlying3 (.r rfl) (wi (by omega) (by omega))) rfl <| LL.l (LO.rem (.r rfl) (.r rfl) (by omega)) rfl <| LL.l (LO.as (.r rfl)) rfl <| LL.l (LO.as (.r rfl)) rfl <| LL.nil) (by kernel_rfl) ?_
  refine VE.seqN ?_
  refine VC.seq ?_
  refine VC.reg (VO.l (LO.mv (.r rfl)) rfl <| VO.l (LO.mv (.r rfl)) rfl <| VO.l (LO.min (.r rfl) (.r rfl)) rfl <| VO.l (LO.mv (.r rfl)) rfl <| VO.l (LO.mv (.r rfl)) rfl <| VO.l (LO.max (.r rfl) (.r rfl)) rfl <| VO.l (LO.bd (ps := [(_, _), (_, _)]) (vs := [(_, _), (_, _)]) (C := [_, _]) B76  ⟨(.r rfl), (.r rfl), trivial⟩ rfl ⟨_, [_], [_, _], rfl, rfl, rfl, rfl, ⟨_, [_], [_, _], rfl, rfl, rfl, rfl, rfl⟩⟩) rfl <| VO.h0 <| HO.st 0 (vs := [_, _]) (C' := [_, _]) (L' := [_, _]) N76 rfl rfl rfl rfl rfl rfl rfl rfl <| VO.nil ?_)
  refine VE.seqN ?_
  refine VC.ret (VE.res (vs := [_]) rfl ⟨RV.agg (vs := [_, _]) A76 rfl (cells_blk 0 rfl ⟨_, rfl⟩) rfl, trivial⟩ (fun w hw => ?_))
  exact ⟨rfl, hw.nil⟩

set_option maxRecDepth 20000 in
theorem cmade_c (c : ClM) (w : World) (hc : c.ok) :
  Calls Try.prog 52 #[.agg c.cells.toArray] w fun e w' => ∃ y : CP, y.c = clMk c ∧ e = .returned (.tuple #[.agg y.cells.toArray, .bool (clHas c)]) ∧ St (bs w) [own 3 1 y.ps y.cs (y.c.sure.map iC), own 3 1 y.pm y.cm (y.c.may.map iC)] w' := by
  obtain ⟨hl20, hu8, h1, h2, h3, h4, h5⟩ := id hc
  unfold U8 at h5
  refine enter (vs := [_]) (env := [(0, _)]) Try.func52 rfl rfl rfl rfl ?_
  refine VC.seq ?_
  refine VC.reg (VO.h rfl <| HO.box (C := c.cells.toArray) rfl rfl fun b1 => VO.h rfl <| HO.alloc (C := #[_, _, _, _, _, _, _]) Z80 rfl fun b2 => VO.l (LO.as (.r rfl)) rfl <| VO.nil ?_)
  refine VE.seqN ?_
  refine VC.seq ?_
  refine VC.drawH [[0, 1], [0, 1], [0, 1]] [some 1, some 1, some 1, some 1, some 1, some 1, some 1, some 1, some 1, some 1, some 1, none, none] mixed (by kernel_rfl) rfl (LX.l (fun _ hJ => LO.fa (r := 20) F148_1 (.r rfl) rfl) rfl <| LX.l (fun _ hJ => LO.lda (vs := [_, _]) A146 (.r rfl) (fun _ hw => cells_at (hJ _ hw) 1 rfl (c.at hl20 0 _ ⟨_, rfl⟩)) rfl) rfl <| LX.l (fun _ hJ => LO.call (xs := [_]) (vs := [_]) C76 ⟨(.r rfl), trivial⟩ (fun w _ => span_c c.xa c.xb w h1 h2)) rfl <| LX.l (fun _ hJ => LO.fa (r := 22) F148_2 (.r rfl) rfl) rfl <| LX.l (fun _ hJ => LO.lda (vs := [_, _]) A146 (.r rfl) (fun _ hw => cells_at (hJ _ hw) 1 rfl (c.at hl20 2 _ ⟨_, rfl⟩)) rfl) rfl <| LX.l (fun _ hJ => LO.call (xs := [_]) (vs := [_]) C76 ⟨(.r rfl), trivial⟩ (fun w _ => span_c c.ya c.yb w h3 h4)) rfl <| LX.l (fun _ hJ => LO.bd (ps := [(_, _), (_, _)]) (vs := [(_, _), (_, _)]) (C := [_, _, _, _]) B78  ⟨(.r rfl), (.r rfl), trivial⟩ rfl ⟨_, [_, _], [_, _, _, _], rfl, rfl, rfl, rfl, ⟨_, [_, _], [_, _, _, _], rfl, rfl, rfl, rfl, rfl⟩⟩) rfl <| LX.l (fun _ hJ => LO.fa (r := 24) F148_3 (.r rfl) rfl) rfl <| LX.l (fun _ hJ => LO.ld O5 (.r rfl) (fun _ hw => cells_at (hJ _ hw) 1 rfl (c.at hl20 4 _ ⟨_, rfl⟩))) rfl <| LX.l (fun _ hJ => LO.cv ⟨_, Try.underlying5⟩ Try.underlying3 (.r rfl) (wi (by omega) (by omega))) rfl <| LX.l (fun _ hJ => LO.bd (ps := [(_, _), (_, _)]) (vs := [(_, _), (_, _)]) (C := [_, _, _, _, _, _, _]) B80  ⟨(.r rfl), (.r rfl), trivial⟩ rfl ⟨_, [_, _, _, _], [_, _, _, _, _, _, _], rfl, rfl, rfl, rfl, ⟨_, [_], [_, _, _, _, _, _, _], rfl, rfl, rfl, rfl, rfl⟩⟩) rfl <| LX.s <| LX.s <| LX.nil) (HX.s <| HX.s <| HX.s <| HX.s <| HX.s <| HX.s <| HX.s <| HX.s <| HX.s <| HX.s <| HX.s <| HX.h rfl <| HO.alloc (C := #[_, _, _, _, _, _, _]) Z80 rfl fun b5 => ⟨fun _ hw => hw.sel [1, 2] rfl, HX.h0 <| HO.st 0 (vs := [_, _, _, _, _, _, _]) (C' := [_, _, _, _, _, _, _]) (L' := [_, _, _]) N80 rfl rfl rfl rfl rfl rfl rfl rfl <| ⟨fun _ hw => hw.sel [1, 2] rfl, HX.nil ?_⟩⟩)
  refine VE.seqN ?_
  refine VC.seq ?_
  refine VC.seq ?_
  refine VC.reg (VO.l (LO.as (.r rfl)) rfl <| VO.nil ?_)
  refine VE.seqN ?_
  refine VC.block ?_
  refine VC.loopK (α := Nat × (List Int) × (Option Addr) × Nat × (List Int) × (Option Addr) × Nat) 1 (fun gx => [(5, .int .i64 (gx.1 : Nat))]) [(1, _), (2, _), (4, _)] (fun gx => [blk b5 (.cells #[.slice gx.2.2.2.2.2.1 gx.2.2.2.2.1.length gx.2.2.2.2.2.2, .slice gx.2.2.1 gx.2.1.length gx.2.2.2.1, .int .i64 (spA c.xa c.xb), .int .i64 (spB c.xa c.xb), .int .i64 (spA c.ya c.yb), .int .i64 (spB c.ya c.yb), .int .i64 c.gr] 80), own 3 1 gx.2.2.2.2.2.1 gx.2.2.2.2.2.2 (gx.2.2.2.2.1.map iC), own 3 1 gx.2.2.1 gx.2.2.2.1 (gx.2.1.map iC)]) (fun gx => gx.1 ≤ 20 ∧ gx.2.1 = pxF c.px mayF gx.1 ∧ gx.2.2.2.2.1 = pxF c.px sureF gx.1) (fun gx => 20 - gx.1) (0, [], none, 0, [], none, 0) (by exact ⟨Nat.zero_le _, rfl, rfl⟩) (.cons rfl (.cons rfl (.cons rfl (.cons rfl .nil)))) (fun _ h => (((h.ownNil 3 1).ownNil 3 1)).sel [2, 0, 1, 3, 4] rfl) ?_
  rintro ⟨p, xs, qm_, dm_, ys, qs_, ds_⟩ ⟨hp, hx, hy⟩
  show VC _ _ _ _ _ ([(5, .int .i64 (p : Nat))] ++ _) ([blk b5 (.cells #[.slice qs_ ys.length ds_, .slice qm_ xs.length dm_, .int .i64 (spA c.xa c.xb), .int .i64 (spB c.xa c.xb), .int .i64 (spA c.ya c.yb), .int .i64 (spB c.ya c.yb), .int .i64 c.gr] 80), own 3 1 qs_ ds_ (ys.map iC), own 3 1 qm_ dm_ (xs.map iC)] ++ _) _ _
  dsimp only at hp hx hy
  have hxl : xs.length ≤ p := by rw [hx]; exact pxF_len
  have hyl : ys.length ≤ p := by rw [hy]; exact pxF_len
  refine VC.seq ?_
  refine VC.seq ?_
  refine VC.reg (VO.l (LO.mv (.r rfl)) rfl <| VO.l (LO.lt (.r rfl) (.r rfl)) rfl <| VO.nil ?_)
  refine VE.seqN ?_
  refine VC.cond rfl (fun h18 => ?_) (fun h18 => ?_)
  ·
    have hpx := u8_at hu8 (p := p) (by omega)
    refine VC.skip (VE.seqN ?_)
    refine VC.seq ?_
    refine VC.block ?_
    refine VC.seq ?_
    refine VC.seq ?_
    refine VC.reg (VO.l (LO.mv (.r rfl)) rfl <| VO.l (LO.fa (r := 0) F148_0 (.r rfl) rfl) rfl <| VO.l (LO.ixa (j := p) (r := p) Try.underlying45 N5 (.r rfl) (.r rfl) rfl (by omega) (by omega)) rfl <| VO.l (LO.ld O5 (.r rfl) (fun _ hw => cells_at hw 4 rfl (px_at (by omega)))) rfl <| VO.l (LO.rem (.r rfl) (.r rfl) (by decide)) rfl <| VO.l (LO.gt (.r rfl) (.r rfl)) rfl <| VO.nil ?_)
    refine VE.seqN ?_
    refine VC.cond rfl (fun h26 => ?_) (fun h26 => ?_)
    ·
      refine VC.reg (VO.l (LO.fa (r := 1) F80_1 (.r rfl) rfl) rfl <| VO.l (LO.ld O55 (.r rfl) (fun _ hw => cells_at hw 0 rfl ⟨_, rfl⟩)) rfl <| VO.l (LO.mv (.r rfl)) rfl <| VO.h rfl <| HO.bs (ps := [(_, _)]) (vs := [(_, _)]) (Z := [_]) (C := [_]) S55 Z3 N3 ⟨(.r rfl), trivial⟩ rfl rfl rfl rfl ⟨_, [_], [_], rfl, rfl, rfl, rfl, rfl⟩ fun b10 => VO.h rfl <| HO.appT (((p : Nat) : Int)) 3 0 (fun R => [_, _, _, R, _, _]) S55 S55 I3 (.r rfl) (.r rfl) rfl rfl rfl rfl rfl rfl rfl (fun _ => rfl) rfl (by omega) fun p4 c4 => VO.l (LO.fa (r := 1) F80_1 (.r rfl) rfl) rfl <| VO.h0 <| HO.st 1 (vs := [_]) (C' := [_, _, _, _, _, _, _]) (L' := [_, _, _, _, _, _]) N55 rfl rfl rfl rfl rfl rfl rfl rfl <| VO.nil ?_)
      refine VE.seqN ?_
      refine VC.seq ?_
      refine VC.reg (VO.l (LO.mv (.r rfl)) rfl <| VO.l (LO.fa (r := 0) F148_0 (.r rfl) rfl) rfl <| VO.l (LO.ixa (j := p) (r := p) Try.underlying45 N5 (.r rfl) (.r rfl) rfl (by omega) (by omega)) rfl <| VO.l (LO.ld O5 (.r rfl) (fun _ hw => cells_at hw 5 rfl (px_at (by omega)))) rfl <| VO.l (LO.rem (.r rfl) (.r rfl) (by decide)) rfl <| VO.l (LO.eq (.r rfl) (.r rfl)) rfl <| VO.nil ?_)
      refine VE.seqN ?_
      refine VC.cond rfl (fun h38 => ?_) (fun h38 => ?_)
      ·
        refine VC.reg (VO.l (LO.fa (r := 0) F80_0 (.r rfl) rfl) rfl <| VO.l (LO.ld O55 (.r rfl) (fun _ hw => cells_at hw 1 rfl ⟨_, rfl⟩)) rfl <| VO.l (LO.mv (.r rfl)) rfl <| VO.h rfl <| HO.bs (ps := [(_, _)]) (vs := [(_, _)]) (Z := [_]) (C := [_]) S55 Z3 N3 ⟨(.r rfl), trivial⟩ rfl rfl rfl rfl ⟨_, [_], [_], rfl, rfl, rfl, rfl, rfl⟩ fun b12 => VO.h rfl <| HO.appT (((p : Nat) : Int)) 3 0 (fun R => [_, _, _, R, _, _, _]) S55 S55 I3 (.r rfl) (.r rfl) rfl rfl rfl rfl rfl rfl rfl (fun _ => rfl) rfl (by omega) fun p8 c8 => VO.l (LO.fa (r := 0) F80_0 (.r rfl) rfl) rfl <| VO.h0 <| HO.st 2 (vs := [_]) (C' := [_, _, _, _, _, _, _]) (L' := [_, _, _, _, _, _, _]) N55 rfl rfl rfl rfl rfl rfl rfl rfl <| VO.nil ?_)
        refine VE.inN (VE.seqN ?_)
        refine VC.reg (VO.l (LO.mv (.r rfl)) rfl <| VO.l (LO.add (.r rfl) (.r rfl) (wi (by omega) (by omega))) rfl <| VO.l (LO.as (.r rfl)) rfl <| VO.nil ?_)
        refine VE.thenN fun a w ha hw => ⟨(p + 1, xs ++ [((p : Nat) : Int)], p4, c4, ys ++ [((p : Nat) : Int)], p8, c8), ⟨by dsimp only; omega, by dsimp only; rw [hx]; exact (pxF_y (by unfold mayF; exact decide_eq_true h26)).symm, by dsimp only; rw [hy]; exact (pxF_y (by unfold sureF; exact decide_eq_true h38)).symm⟩, (by dsimp only; omega), ha.sub (.cons rfl (.cons rfl (.cons rfl (.cons rfl .nil)))), hw.sel [2, 3, 4, 5, 6] rfl⟩
      ·
        refine VC.skip (VE.inN (VE.seqN ?_))
        refine VC.reg (VO.l (LO.mv (.r rfl)) rfl <| VO.l (LO.add (.r rfl) (.r rfl) (wi (by omega) (by omega))) rfl <| VO.l (LO.as (.r rfl)) rfl <| VO.nil ?_)
        refine VE.thenN fun a w ha hw => ⟨(p + 1, xs ++ [((p : Nat) : Int)], p4, c4, ys, qs_, ds_), ⟨by dsimp only; omega, by dsimp only; rw [hx]; exact (pxF_y (by unfold mayF; exact decide_eq_true h26)).symm, by dsimp only; rw [hy]; exact (pxF_n (by unfold sureF; exact decide_eq_false h38)).symm⟩, (by dsimp only; omega), ha.sub (.cons rfl (.cons rfl (.cons rfl (.cons rfl .nil)))), hw.sel [1, 2, 3, 4, 5] rfl⟩
    ·
      refine VC.skip (VE.seqN ?_)
      refine VC.seq ?_
      refine VC.reg (VO.l (LO.mv (.r rfl)) rfl <| VO.l (LO.fa (r := 0) F148_0 (.r rfl) rfl) rfl <| VO.l (LO.ixa (j := p) (r := p) Try.underlying45 N5 (.r rfl) (.r rfl) rfl (by omega) (by omega)) rfl <| VO.l (LO.ld O5 (.r rfl) (fun _ hw => cells_at hw 4 rfl (px_at (by omega)))) rfl <| VO.l (LO.rem (.r rfl) (.r rfl) (by decide)) rfl <| VO.l (LO.eq (.r rfl) (.r rfl)) rfl <| VO.nil ?_)
      refine VE.seqN ?_
      refine VC.cond rfl (fun h38 => ?_) (fun h38 => ?_)
      ·
        refine VC.reg (VO.l (LO.fa (r := 0) F80_0 (.r rfl) rfl) rfl <| VO.l (LO.ld O55 (.r rfl) (fun _ hw => cells_at hw 0 rfl ⟨_, rfl⟩)) rfl <| VO.l (LO.mv (.r rfl)) rfl <| VO.h rfl <| HO.bs (ps := [(_, _)]) (vs := [(_, _)]) (Z := [_]) (C := [_]) S55 Z3 N3 ⟨(.r rfl), trivial⟩ rfl rfl rfl rfl ⟨_, [_], [_], rfl, rfl, rfl, rfl, rfl⟩ fun b14 => VO.h rfl <| HO.appT (((p : Nat) : Int)) 2 0 (fun R => [_, _, R, _, _, _]) S55 S55 I3 (.r rfl) (.r rfl) rfl rfl rfl rfl rfl rfl rfl (fun _ => rfl) rfl (by omega) fun p8 c8 => VO.l (LO.fa (r := 0) F80_0 (.r rfl) rfl) rfl <| VO.h0 <| HO.st 1 (vs := [_]) (C' := [_, _, _, _, _, _, _]) (L' := [_, _, _, _, _, _]) N55 rfl rfl rfl rfl rfl rfl rfl rfl <| VO.nil ?_)
        refine VE.inN (VE.seqN ?_)
        refine VC.reg (VO.l (LO.mv (.r rfl)) rfl <| VO.l (LO.add (.r rfl) (.r rfl) (wi (by omega) (by omega))) rfl <| VO.l (LO.as (.r rfl)) rfl <| VO.nil ?_)
        refine VE.thenN fun a w ha hw => ⟨(p + 1, xs, qm_, dm_, ys ++ [((p : Nat) : Int)], p8, c8), ⟨by dsimp only; omega, by dsimp only; rw [hx]; exact (pxF_n (by unfold mayF; exact decide_eq_false h26)).symm, by dsimp only; rw [hy]; exact (pxF_y (by unfold sureF; exact decide_eq_true h38)).symm⟩, (by dsimp only; omega), ha.sub (.cons rfl (.cons rfl (.cons rfl (.cons rfl .nil)))), hw.sel [1, 2, 3, 4, 5] rfl⟩
      ·
        refine VC.skip (VE.inN (VE.seqN ?_))
        refine VC.reg (VO.l (LO.mv (.r rfl)) rfl <| VO.l (LO.add (.r rfl) (.r rfl) (wi (by omega) (by omega))) rfl <| VO.l (LO.as (.r rfl)) rfl <| VO.nil ?_)
        refine VE.thenN fun a w ha hw => ⟨(p + 1, xs, qm_, dm_, ys, qs_, ds_), ⟨by dsimp only; omega, by dsimp only; rw [hx]; exact (pxF_n (by unfold mayF; exact decide_eq_false h26)).symm, by dsimp only; rw [hy]; exact (pxF_n (by unfold sureF; exact decide_eq_false h38)).symm⟩, (by dsimp only; omega), ha.sub (.cons rfl (.cons rfl (.cons rfl (.cons rfl .nil)))), hw⟩
  ·
    refine VC.exit (VE.thenX (VE.thenX (VE.inX (VE.seqN ?_))))
    refine VC.seq ?_
    refine VC.drawH [[0, 1, 2, 3, 4], [0, 1, 2, 4]] [some 0, some 1, some 1, some 1, some 1, none, some 1] mixed (by kernel_rfl) rfl (LX.l (fun _ hJ => LO.lda (vs := [_, _, _, _, _, _, _]) A80 (.r rfl) (fun _ hw => cells_at (hJ _ hw) 0 rfl ⟨_, rfl⟩) rfl) rfl <| LX.l (fun _ hJ => LO.fa (r := 1) F80_1 (.r rfl) rfl) rfl <| LX.l (fun _ hJ => LO.ld O55 (.r rfl) (fun _ hw => cells_at (hJ _ hw) 0 rfl ⟨_, rfl⟩)) rfl <| LX.l (fun _ hJ => LO.len S55 (.r rfl) rfl) rfl <| LX.l (fun _ hJ => LO.gt (.r rfl) (.r rfl)) rfl <| LX.s <| LX.l (fun _ hJ => LO.as (.r rfl)) rfl <| LX.nil) (HX.s <| HX.s <| HX.s <| HX.s <| HX.s <| HX.h0 <| HO.st 3 (vs := [_, _, _, _, _, _, _]) (C' := [_, _, _, _, _, _, _]) (L' := [_, _, _, _, _]) N80 rfl rfl rfl rfl rfl rfl rfl rfl <| ⟨fun _ hw => hw.sel [0, 1, 2, 4] rfl, HX.s <| HX.nil ?_⟩)
    refine VE.seqN ?_
    refine VC.ret (VE.res (vs := [_, _]) rfl ⟨RV.agg (vs := [_, _, _, _, _, _, _]) A80 rfl (cells_blk 3 rfl ⟨_, rfl⟩) rfl, rfl, trivial⟩ (fun w hw => ?_))
    have hp2 : p = 20 := by omega
    subst hp2
    exact ⟨⟨⟨ys, xs, ⟨spA c.xa c.xb, spB c.xa c.xb, spA c.ya c.yb, spB c.ya c.yb⟩, c.gr⟩, qs_, ds_, qm_, dm_⟩, by rw [hx, hy]; rfl, by rw [show clHas c = decide ((0 : Int) < (xs.length : Nat)) from by unfold clHas; rw [hx]]; rfl, selK (L1 := [_, _]) [1, 2] rfl rfl _ hw⟩

set_option maxRecDepth 20000 in
theorem all_c (l : List ClM) (p : Option Addr) (c : Nat) (w : World) (hn : l.length < 1000000) (hl : ClsM w p l) :
  Calls Try.prog 20 #[.slice p l.length c] w fun e w' => ∃ x : (Option Addr × Nat) × List CP, x.2.map CP.c = allL l l.length ∧ e = .returned (.slice x.1.1 x.2.length x.1.2) ∧ St (bs w) [own 80 7 x.1.1 x.1.2 (x.2.map CP.cells), bagD (x.2.flatMap cpR)] w' := by
  refine enter (vs := [_]) (env := [(0, _)]) Try.func20 rfl rfl rfl rfl ?_
  refine VC.seq ?_
  refine VC.reg (VO.l (LO.as (.r rfl)) rfl <| VO.nil ?_)
  refine VE.seqN ?_
  refine VC.seq ?_
  refine VC.reg (VO.l (LO.as (.r rfl)) rfl <| VO.nil ?_)
  refine VE.seqN ?_
  refine VC.seq ?_
  refine VC.seq ?_
  refine VC.reg (VO.l (LO.as (.r rfl)) rfl <| VO.nil ?_)
  refine VE.seqN ?_
  refine VC.block ?_
  refine VC.loopK (α := Nat × (List CP) × (Option Addr) × Nat) 0 (fun gx => [(3, .slice gx.2.2.1 gx.2.1.length gx.2.2.2), (4, .int .i64 (gx.1 : Nat))]) [(0, _)] (fun gx => [own 80 7 gx.2.2.1 gx.2.2.2 (gx.2.1.map CP.cells), bagD (gx.2.1.flatMap cpR)]) (fun gx => gx.1 ≤ l.length ∧ gx.2.1.map CP.c = allL l gx.1) (fun gx => l.length - gx.1) (0, [], none, 0) (by exact ⟨Nat.zero_le _, rfl⟩) (.cons rfl (.cons rfl (.cons rfl .nil))) (fun _ h => ((St.bagD (Rs := []) h).ownNil 80 7)) ?_
  rintro ⟨j, xs, po_, co_⟩ ⟨hj, hX⟩
  show VC _ _ _ _ _ ([(3, .slice po_ xs.length co_), (4, .int .i64 (j : Nat))] ++ _) ([own 80 7 po_ co_ (xs.map CP.cells), bagD (xs.flatMap cpR)] ++ _) _ _
  dsimp only at hj hX
  have hxl : xs.length ≤ j := by rw [← List.length_map (f := CP.c), hX]; exact allL_len j
  refine VC.seq ?_
  refine VC.seq ?_
  refine VC.reg (VO.l (LO.mv (.r rfl)) rfl <| VO.l (LO.mv (.r rfl)) rfl <| VO.l (LO.len S49 (.r rfl) rfl) rfl <| VO.l (LO.lt (.r rfl) (.r rfl)) rfl <| VO.nil ?_)
  refine VE.seqN ?_
  refine VC.cond rfl (fun h10 => ?_) (fun h10 => ?_)
  ·
    obtain ⟨x, hx⟩ : ∃ x, l[j]? = some x := ⟨_, List.getElem?_eq_getElem (by omega)⟩
    have hxo := hl.ok x (List.mem_of_getElem? hx)
    refine VC.skip (VE.seqN ?_)
    refine VC.seq ?_
    refine VC.block ?_
    refine VC.seq ?_
    refine VC.reg (VO.l (LO.mv (.r rfl)) rfl <| VO.l (LO.mv (.r rfl)) rfl <| VO.l (LO.ixs S49 N148 hl.rows.sm (.r rfl) (.r rfl) rfl (by omega)) rfl <| VO.l (LO.lda (vs := x.cells) A148 (.r rfl) (fun w hw => (hl.rows.keep w hw).cells _ _ (by rw [List.getElem?_map, hx]; rfl)) (by rw [ClM.len hxo]; rfl)) rfl <| VO.h rfl <| HO.callx (xs := [_]) (vs := [_]) C52 ⟨(.r rfl), trivial⟩ (fun w hw => cmade_c x w hxo) fun y hy => VO.h rfl <| HO.lo (LO.mv (.r rfl)) <| VO.h rfl <| HO.lo (LO.ex (.r rfl) rfl) <| VO.h rfl <| HO.lo (LO.ex (.r rfl) rfl) <| VO.h rfl <| HO.alloc (C := #[_, _, _, _, _, _, _]) Z80 rfl fun b5 => VO.h0 <| HO.st 0 (vs := [_, _, _, _, _, _, _]) (C' := [_, _, _, _, _, _, _]) (L' := [_, _, _, _, _]) N80 rfl rfl rfl rfl rfl rfl rfl rfl <| VO.h rfl <| HO.lo (LO.as (.r rfl)) <| VO.nil ?_)
    refine VE.seqN ?_
    refine VC.seq ?_
    refine VC.reg (VO.l (LO.mv (.r rfl)) rfl <| VO.nil ?_)
    refine VE.seqN ?_
    refine VC.cond rfl (fun h21 => ?_) (fun h21 => ?_)
    ·
      refine VC.reg (VO.l (LO.mv (.r rfl)) rfl <| VO.l (LO.lda (vs := [_, _, _, _, _, _, _]) A80 (.r rfl) (fun _ hw => cells_at hw 0 rfl ⟨_, rfl⟩) rfl) rfl <| VO.h rfl <| HO.bs (ps := [(_, _)]) (vs := [(_, _)]) (Z := [_, _, _, _, _, _, _]) (C := [_, _, _, _, _, _, _]) S29 Z80 N80 ⟨(.r rfl), trivial⟩ rfl rfl rfl rfl ⟨_, [_, _, _, _, _, _, _], [_, _, _, _, _, _, _], rfl, rfl, rfl, rfl, rfl⟩ fun b7 => VO.h rfl <| HO.appT (y) 4 0 (fun R => [_, _, _, _, R, _]) S29 S29 I80 (.r rfl) (.r rfl) rfl rfl rfl rfl rfl rfl rfl (fun _ => rfl) rfl (by omega) fun p3 c3 => VO.h rfl <| HO.lo (LO.as (.r rfl)) <| VO.nil ?_)
      refine VE.inN (VE.seqN ?_)
      refine VC.reg (VO.l (LO.mv (.r rfl)) rfl <| VO.l (LO.add (.r rfl) (.r rfl) (wi (by omega) (by omega))) rfl <| VO.l (LO.as (.r rfl)) rfl <| VO.nil ?_)
      refine VE.thenN fun a w ha hw => ⟨(j + 1, xs ++ [y], p3, c3), ⟨by dsimp only; omega, by dsimp only; rw [List.map_append, hX, allL_y hx h21, ← hy]; rfl⟩, (by dsimp only; omega), ha.sub (.cons rfl (.cons rfl (.cons rfl .nil))), (by exact (St.bagCp (selK (L1 := [_, _, _, _]) [2, 3, 5, 4] rfl rfl _ hw)).sel [1, 0] rfl)⟩
    ·
      refine VC.skip (VE.inN (VE.seqN ?_))
      refine VC.reg (VO.l (LO.mv (.r rfl)) rfl <| VO.l (LO.add (.r rfl) (.r rfl) (wi (by omega) (by omega))) rfl <| VO.l (LO.as (.r rfl)) rfl <| VO.nil ?_)
      refine VE.thenN fun a w ha hw => ⟨(j + 1, xs, po_, co_), ⟨by dsimp only; omega, by dsimp only; rw [hX, allL_n hx (by simpa using h21)]⟩, (by dsimp only; omega), ha.sub (.cons rfl (.cons rfl (.cons rfl .nil))), (by exact selK (L1 := [_, _]) [3, 4] rfl rfl _ hw)⟩
  ·
    refine VC.exit (VE.thenX (VE.thenX (VE.inX (VE.seqN ?_))))
    refine VC.seq ?_
    refine VC.reg (VO.l (LO.mv (.r rfl)) rfl <| VO.l (LO.as (.r rfl)) rfl <| VO.nil ?_)
    refine VE.seqN ?_
    refine VC.ret (VE.res (vs := [_]) rfl ⟨rfl, trivial⟩ (fun w hw => ?_))
    exact ⟨((po_, co_), xs), by rw [hX, show j = l.length by omega], rfl, hw.sel [0, 1] rfl⟩

set_option maxRecDepth 20000 in
theorem beat_c (b : BtM) (l : List CP) (p : Option Addr) (c : Nat) (w : World) (hn : l.length < 1000000) (hb : b.ok) (hl : Clouds w p l) :
  Calls Try.prog 23 #[.agg b.cells.toArray, .slice p l.length c] w fun e w' => ∃ x : (Option Addr × Nat) × List CP, (x.2.map CP.c = beatL b (l.map CP.c) ∧ x.2.length ≤ 2 ∧ ∀ y, y ∈ x.2 → y ∈ l) ∧ e = .returned (.slice x.1.1 x.2.length x.1.2) ∧ St (bs w) [own 80 7 x.1.1 x.1.2 (x.2.map CP.cells)] w' := by
  obtain ⟨hb1, hb2, hb3⟩ := id hb
  unfold U8 at hb2 hb3
  refine enter (vs := [_, _]) (env := [(0, _), (1, _)]) Try.func23 rfl rfl rfl rfl ?_
  refine VC.seq ?_
  refine VC.reg (VO.h rfl <| HO.box (C := #[_, _, _, _]) rfl rfl fun b1 => VO.l (LO.as (.r rfl)) rfl <| VO.nil ?_)
  refine VE.seqN ?_
  refine VC.seq ?_
  refine VC.seq ?_
  refine VC.reg (VO.l (LO.mv (.r rfl)) rfl <| VO.l (LO.len S29 (.r rfl) rfl) rfl <| VO.l (LO.eq (.r rfl) (.r rfl)) rfl <| VO.l (LO.mv (.r rfl)) rfl <| VO.lg rfl rfl (GD.f _) (fun hg => LO.fa (r := 3) F66_3 (.r rfl) rfl) rfl <| VO.lg rfl rfl (GD.f _) (fun hg => LO.ld O4 (.g hg rfl) (fun _ hw => cells_at hw 0 rfl ⟨_, rfl⟩)) rfl <| VO.l (LO.pkO (.r rfl) (.r rfl) rfl rfl) rfl <| VO.nil ?_)
  refine VE.seqN ?_
  refine VC.cond rfl (fun h11 => ?_) (fun h11 => ?_)
  ·
    refine VC.seq ?_
    refine VC.reg (VO.l (LO.as (.r rfl)) rfl <| VO.nil ?_)
    refine VE.seqN ?_
    refine VC.ret (VE.thenR (VE.res (vs := [_]) rfl ⟨rfl, trivial⟩ (fun w hw => ?_)))
    first | exact ⟨((none, 0), []), ⟨by unfold beatL; rw [if_pos (by rw [List.length_map]; exact h11)]; rfl, Nat.zero_le _, fun y hy => by cases hy⟩, rfl, hw.nil.ownNil 80 7⟩ | exact ⟨((_, _), [x, x2]), ⟨by unfold beatL; rw [if_neg (by rw [List.length_map]; exact h11), List.length_map, getD_c hx, getD_c hx2]; rfl, Nat.le_refl _, fun y hy => by simp only [List.mem_cons, List.not_mem_nil, or_false] at hy; rcases hy with rfl | rfl; (· exact List.mem_of_getElem? hx); (· exact List.mem_of_getElem? hx2)⟩, rfl, (Go.Proofs.Ytdjflomhaljljaa.St.blkRows hw 0 (rows := [x, x2].map CP.cells) rfl rfl (fun r hr => by obtain ⟨q, _, e⟩ := List.mem_map.1 hr; rw [← e]; rfl)).sel [0] rfl⟩
  ·
    have hpos : 0 < l.length := by omega
    have hk1 := btIx_lt hb2.1 hpos
    have hk2 := btIx_lt hb3.1 hpos
    obtain ⟨x, hx⟩ : ∃ x, l[(btIx l.length b.a)]? = some x := ⟨_, List.getElem?_eq_getElem hk1.1⟩
    obtain ⟨x2, hx2⟩ : ∃ x, l[(btIx l.length b.b)]? = some x := ⟨_, List.getElem?_eq_getElem hk2.1⟩
    refine VC.skip (VE.seqN ?_)
    refine VC.seq ?_
    refine VC.drawH [[0], [0], [0]] [some 0, some 0, some 0, some 0, some 0, some 0, some 0, some 0, some 0, some 0, some 0, some 0, some 0, some 0, some 0, some 0, some 0, some 0, none, none] mixed (by kernel_rfl) rfl (LX.l (fun _ hJ => LO.mv (.r rfl)) rfl <| LX.l (fun _ hJ => LO.fa (r := 1) F66_1 (.r rfl) rfl) rfl <| LX.l (fun _ hJ => LO.ld O5 (.r rfl) (fun _ hw => cells_at (hJ _ hw) 0 rfl ⟨_, rfl⟩)) rfl <| LX.l (fun _ hJ => LO.cv ⟨_, Try.underlying5⟩ Try.underlying3 (.r rfl) (wi (by omega) (by omega))) rfl <| LX.l (fun _ hJ => LO.mv (.r rfl)) rfl <| LX.l (fun _ hJ => LO.len S29 (.r rfl) rfl) rfl <| LX.l (fun _ hJ => LO.rem (.r rfl) (.r rfl) (by omega)) rfl <| LX.l (fun _ hJ => LO.ixs S29 N80 hl.sl (.r rfl) (.r rfl) hk1.2 hk1.1) rfl <| LX.l (fun _ hJ => LO.lda (vs := [_, _, _, _, _, _, _]) A80 (.r rfl) (hl.at hx) rfl) rfl <| LX.l (fun _ hJ => LO.mv (.r rfl)) rfl <| LX.l (fun _ hJ => LO.fa (r := 2) F66_2 (.r rfl) rfl) rfl <| LX.l (fun _ hJ => LO.ld O5 (.r rfl) (fun _ hw => cells_at (hJ _ hw) 0 rfl ⟨_, rfl⟩)) rfl <| LX.l (fun _ hJ => LO.cv ⟨_, Try.underlying5⟩ Try.underlying3 (.r rfl) (wi (by omega) (by omega))) rfl <| LX.l (fun _ hJ => LO.mv (.r rfl)) rfl <| LX.l (fun _ hJ => LO.len S29 (.r rfl) rfl) rfl <| LX.l (fun _ hJ => LO.rem (.r rfl) (.r rfl) (by omega)) rfl <| LX.l (fun _ hJ => LO.ixs S29 N80 hl.sl (.r rfl) (.r rfl) hk2.2 hk2.1) rfl <| LX.l (fun _ hJ => LO.lda (vs := [_, _, _, _, _, _, _]) A80 (.r rfl) (hl.at hx2) rfl) rfl <| LX.s <| LX.s <| LX.nil) (HX.s <| HX.s <| HX.s <| HX.s <| HX.s <| HX.s <| HX.s <| HX.s <| HX.s <| HX.s <| HX.s <| HX.s <| HX.s <| HX.s <| HX.s <| HX.s <| HX.s <| HX.s <| HX.h rfl <| HO.bs (ps := [(_, _), (_, _)]) (vs := [(_, _), (_, _)]) (Z := [_, _, _, _, _, _, _, _, _, _, _, _, _, _]) (C := [_, _, _, _, _, _, _, _, _, _, _, _, _, _]) S29 Z80 N80 ⟨(.r rfl), (.r rfl), trivial⟩ rfl rfl rfl rfl ⟨_, [_, _, _, _, _, _, _], [_, _, _, _, _, _, _, _, _, _, _, _, _, _], rfl, rfl, rfl, rfl, ⟨_, [_, _, _, _, _, _, _], [_, _, _, _, _, _, _, _, _, _, _, _, _, _], rfl, rfl, rfl, rfl, rfl⟩⟩ fun b3 => ⟨fun _ hw => hw.sel [1] rfl, HX.h rfl <| HO.lo (LO.as (.r rfl)) <| ⟨fun _ hw => hw.sel [1] rfl, HX.nil ?_⟩⟩)
    refine VE.seqN ?_
    refine VC.ret (VE.res (vs := [_]) rfl ⟨rfl, trivial⟩ (fun w hw => ?_))
    first | exact ⟨((none, 0), []), ⟨by unfold beatL; rw [if_pos (by rw [List.length_map]; exact h11)]; rfl, Nat.zero_le _, fun y hy => by cases hy⟩, rfl, hw.nil.ownNil 80 7⟩ | exact ⟨((_, _), [x, x2]), ⟨by unfold beatL; rw [if_neg (by rw [List.length_map]; exact h11), List.length_map, getD_c hx, getD_c hx2]; rfl, Nat.le_refl _, fun y hy => by simp only [List.mem_cons, List.not_mem_nil, or_false] at hy; rcases hy with rfl | rfl; (· exact List.mem_of_getElem? hx); (· exact List.mem_of_getElem? hx2)⟩, rfl, (Go.Proofs.Ytdjflomhaljljaa.St.blkRows hw 0 (rows := [x, x2].map CP.cells) rfl rfl (fun r hr => by obtain ⟨q, _, e⟩ := List.mem_map.1 hr; rw [← e]; rfl)).sel [0] rfl⟩

end Go.Proofs.Ytdjflomhaljljaa

namespace Go.Proofs.Ytdjflomhaljljaa
open Go.SL Go.Proofs Go.Cast
set_option linter.unusedVariables false

/-- Numbers in order, below a bound. -/
def Asc (n : Nat) (l : List Int) : Prop := l.Pairwise (· < ·) ∧ ∀ v, v ∈ l → 0 ≤ v ∧ v < (n : Int)
theorem asc_filter {n : Nat} (f : Nat → Bool) : Asc n (((List.range n).filter f).map Int.ofNat) := by
  constructor
  · rw [List.pairwise_map]
    exact (List.Pairwise.filter f List.pairwise_lt_range).imp fun h => by exact Int.ofNat_lt.2 h
  · intro v hv
    obtain ⟨p, hp, e⟩ := List.mem_map.1 hv
    have := List.mem_range.1 (List.mem_filter.1 hp).1
    subst e
    constructor
    · exact Int.natCast_nonneg p
    · exact Int.ofNat_lt.2 this
theorem asc_px {px : List Int} {f : Int → Bool} {n : Nat} : Asc n (pxF px f n) := asc_filter _
theorem asc_dr {d : DrM} {i n : Nat} : Asc n (drPx d i n) := asc_filter _
theorem asc_lt {n : Nat} {l : List Int} (h : Asc n l) {i : Nat} (h0 : 0 < i) (hi : i < l.length) : l.getD (i - 1) 0 < l.getD i 0 := by
  have := List.pairwise_iff_getElem.1 h.1 (i - 1) i (by omega) hi (by omega)
  rw [List.getD_eq_getElem?_getD, List.getD_eq_getElem?_getD, List.getElem?_eq_getElem hi, List.getElem?_eq_getElem (by omega : i - 1 < l.length)]
  exact this
theorem mayE_asc {l : List Int} (h : Asc 20 l) : firstE (mayE gD l) l.length = 0 := firstE_zero fun k hk => by
  have h1 := h.2 _ (getD_mem (d := 0) hk)
  unfold mayE
  rw [if_neg (fun q => q ⟨h1.1, by show _ ≤ (5 : Int) * 4 - 1; omega⟩), if_neg]
  rintro ⟨h2, h3⟩
  have := asc_lt h (by omega) hk
  omega
theorem pxF_mem {px : List Int} {f : Int → Bool} {n : Nat} {v : Int} : v ∈ pxF px f n ↔ ∃ p : Nat, p < n ∧ v = (p : Int) ∧ f (px.getD p 0) = true := by
  unfold pxF
  simp only [List.mem_map, List.mem_filter, List.mem_range]
  constructor
  · rintro ⟨p, ⟨h1, h2⟩, h3⟩; exact ⟨p, h1, h3.symm, h2⟩
  · rintro ⟨p, h1, h2, h3⟩; exact ⟨p, ⟨h1, h3⟩, h2.symm⟩
theorem sureE_asc {px : List Int} : firstE (sureE (pxF px mayF 20) (pxF px sureF 20)) (pxF px sureF 20).length = 0 := firstE_zero fun k hk => by
  unfold sureE
  rw [if_neg, if_neg]
  · intro q
    refine q ?_
    obtain ⟨p, h1, h2, h3⟩ := pxF_mem.1 (getD_mem (d := 0) hk)
    rw [h2]
    refine pxF_mem.2 ⟨p, h1, rfl, ?_⟩
    unfold sureF at h3
    unfold mayF
    have := of_decide_eq_true h3
    rw [this]; rfl
  · rintro ⟨h2, h3⟩
    have := asc_lt (asc_px (px := px) (f := sureF)) (by omega) hk
    omega
theorem cloud_ok {c : ClM} (h : c.ok) (hh : clHas c = true) : cloudE gD (clMk c) = 0 := by
  obtain ⟨_, _, h1, h2, h3, h4, h5⟩ := h
  have e1 : (clMk c).may ≠ [] := fun q => by
    have : pxF c.px mayF 20 = [] := q
    unfold clHas at hh; rw [this] at hh; cases hh
  have a := tm2 c.xa; have b := tm2 c.xb; have d := tm2 c.ya; have e := tm2 c.yb
  unfold U8 at h5
  unfold cloudE
  rw [if_neg (fun q => q (by decide)), if_neg (fun q => q ⟨⟨by show -100000 ≤ spA c.xa c.xb; unfold spA; omega, by show spA c.xa c.xb ≤ spB c.xa c.xb; unfold spA spB; omega, by show spB c.xa c.xb ≤ 100000; unfold spB; omega⟩, by show -100000 ≤ spA c.ya c.yb; unfold spA; omega, by show spA c.ya c.yb ≤ spB c.ya c.yb; unfold spA spB; omega, by show spB c.ya c.yb ≤ 100000; unfold spB; omega⟩),
    if_neg (fun q => q ⟨by show 0 ≤ c.gr; omega, by show c.gr ≤ 10000; omega⟩), if_neg e1]
  rw [if_neg (fun q => q (mayE_asc asc_px))]
  exact sureE_asc
theorem allL_ok {l : List ClM} (h : ∀ c, c ∈ l → c.ok) : ∀ n x, x ∈ allL l n → ∃ c, c ∈ l ∧ x = clMk c ∧ clHas c = true
  | 0, x, hx => by cases hx
  | n + 1, x, hx => by
    unfold allL at hx
    split at hx
    · exact allL_ok h n x hx
    · rename_i c hc
      split at hx
      · rcases List.mem_append.1 hx with q | q
        · exact allL_ok h n x q
        · simp at q; subst q; exact ⟨c, List.mem_of_getElem? hc, rfl, by assumption⟩
      · exact allL_ok h n x hx
theorem look_ok {l : List Cloud} (hl : l.length ≤ 64) (h : ∀ x, x ∈ l → cloudE gD x = 0) : lookE gD l = 0 := by
  unfold lookE atE
  rw [if_neg (fun q => q (by decide)), if_neg (by omega), if_neg (fun q => q (firstE_zero fun k hk => h _ (getD_mem hk))), if_neg (by decide)]
theorem beat_mem {b : BtM} {l : List Cloud} (hb : b.ok) : ∀ x, x ∈ beatL b l → x ∈ l := fun x hx => by
  unfold beatL at hx
  split at hx
  · cases hx
  · rename_i q
    have hp : 0 < l.length := by omega
    simp only [List.mem_cons, List.not_mem_nil, or_false] at hx
    rcases hx with rfl | rfl
    · exact getD_mem (btIx_lt hb.2.1.1 hp).1
    · exact getD_mem (btIx_lt hb.2.2.1 hp).1
theorem beat_len {b : BtM} {l : List Cloud} : (beatL b l).length ≤ 2 := by unfold beatL; split <;> simp
/-- Clouds that a look takes. -/
def ClsOk (l : List Cloud) : Prop := ∀ x, x ∈ l → cloudE gD x = 0
theorem allL_cls {l : List ClM} (h : ∀ c, c ∈ l → c.ok) (n : Nat) : ClsOk (allL l n) := fun x hx => by
  obtain ⟨c, h1, rfl, h2⟩ := allL_ok h n x hx
  exact cloud_ok (h c h1) h2
theorem beat_look {b : BtM} {l : List Cloud} (hb : b.ok) (h : ClsOk l) : lookE gD (beatL b l) = 0 := look_ok (by have := beat_len (b := b) (l := l); omega) fun x hx => h x (beat_mem hb x hx)
theorem drRegs_mem {d : DrM} : ∀ {i : Nat} {r : Reg}, r ∈ drRegs d i → ∃ j, j < i ∧ r = ⟨nmS j, drPx d j 20⟩ ∧ drPx d j 20 ≠ []
  | 0, r, h => by cases h
  | i + 1, r, h => by
    unfold drRegs at h
    split at h
    · obtain ⟨j, h1, h2⟩ := drRegs_mem h; exact ⟨j, by omega, h2⟩
    · rename_i q
      rcases List.mem_append.1 h with z | z
      · obtain ⟨j, h1, h2⟩ := drRegs_mem z; exact ⟨j, by omega, h2⟩
      · simp at z; exact ⟨i, by omega, z, q⟩
theorem nmS_inj {i j : Nat} (hi : i < 3) (hj : j < 3) (h : nmS i = nmS j) : i = j := by
  have key : ∀ i j : Fin 3, nmS i.val = nmS j.val → i = j := by decide
  have := key ⟨i, hi⟩ ⟨j, hj⟩ h
  exact congrArg Fin.val this
theorem nmS_ok {i : Nat} (hi : i < 3) : nameB (nmS i) = true := by
  have key : ∀ i : Fin 3, nameB (nmS i.val) = true := by decide
  exact key ⟨i, hi⟩
theorem drRegs_pw {d : DrM} : ∀ {i : Nat}, i ≤ 3 → (drRegs d i).Pairwise (fun r s => r.name ≠ s.name)
  | 0, _ => List.Pairwise.nil
  | i + 1, hi => by
    unfold drRegs
    split
    · exact drRegs_pw (by omega)
    · rw [List.pairwise_append]
      refine ⟨drRegs_pw (by omega), by simp, fun r hr s hs => ?_⟩
      simp at hs; subst hs
      obtain ⟨j, h1, h2, _⟩ := drRegs_mem hr
      subst h2
      intro e
      have := nmS_inj (by omega) (by omega) e
      omega
theorem dr_spec {d : DrM} (h : d.ok) (hne : drRegs d 3 ≠ []) : specE (drSp d) = 0 := by
  have hb := dr_bd h
  have hlen := drRegs_len (d := d) 3
  unfold specE drSp
  dsimp only
  have hz : firstE (regE gD (drRegs d 3)) (drRegs d 3).length = 0 := by
    refine firstE_zero fun k hk => ?_
    obtain ⟨j, h1, h2, h3⟩ := drRegs_mem (getD_mem (d := default) hk)
    unfold regE
    rw [if_neg, if_neg, h2]
    · unfold pixE
      rw [if_neg h3]
      exact mayE_asc asc_dr
    · intro q
      unfold metB at q
      rw [List.any_eq_true] at q
      obtain ⟨r, hr, e⟩ := q
      obtain ⟨i, hi⟩ := List.mem_iff_getElem?.1 hr
      rw [List.getElem?_take] at hi
      split at hi
      · rename_i q
        obtain ⟨z1, z2⟩ := List.getElem?_eq_some_iff.1 hi
        have := List.pairwise_iff_getElem.1 (drRegs_pw (d := d) (Nat.le_refl 3)) i k z1 hk q
        rw [z2] at this
        have e2 : (drRegs d 3).getD k default = (drRegs d 3)[k] := by rw [List.getD_eq_getElem?_getD, List.getElem?_eq_getElem hk]; rfl
        exact this (by rw [← e2]; exact (of_decide_eq_true e).symm)
      · cases hi
    · intro q
      rw [h2] at q
      exact q (nmS_ok h1)
  rw [if_neg (fun q => q (by decide)), if_neg hne, if_neg (by omega), if_neg (fun q => q hz), if_neg (fun q => q ⟨⟨by dsimp only; omega, by dsimp only; omega⟩, ⟨by dsimp only; omega, by dsimp only; omega⟩, by dsimp only; omega, by dsimp only; omega⟩)]
/-- The time of a beat. -/
def tAt (bs : List BtM) : Nat → Int
  | 0 => 0
  | i + 1 => tAt bs i + (1 + (bs.getD i ⟨0, 0, 0, true⟩).la.tmod 500)
theorem tAt_bd {bs : List BtM} (h : ∀ b, b ∈ bs → b.ok) : ∀ i, i ≤ bs.length → 0 ≤ tAt bs i ∧ tAt bs i ≤ 500 * (i : Int)
  | 0, _ => ⟨Int.le_refl _, Int.le_refl _⟩
  | i + 1, hi => by
    have ih := tAt_bd h i (by omega)
    have hb := (h _ (getD_mem (d := ⟨0, 0, 0, true⟩) (by omega : i < bs.length))).1
    have := tm hb.1 (show (0 : Int) < 500 by decide)
    unfold tAt
    omega
theorem tAt_lt {bs : List BtM} (h : ∀ b, b ∈ bs → b.ok) {i : Nat} (hi : i < bs.length) : tAt bs i < tAt bs (i + 1) := by
  have hb := (h _ (getD_mem (d := ⟨0, 0, 0, true⟩) hi)).1
  have := tm hb.1 (show (0 : Int) < 500 by decide)
  conv => rhs; unfold tAt
  omega
/-- The threats of all regions. -/
def thsP (s : Sp) (l : List Cloud) : List Thr := s.regs.map fun r => thr (lookL s.g l s.lead s.step) r.pix s.step
theorem ths_eq {o : OfM} (h : WfO o) (l : List Cloud) : thsO o l = thsP o.sp l := by
  unfold thsO thsP OfM.sp
  refine List.ext_getElem? fun k => ?_
  simp only [List.getElem?_map]
  cases q : o.rc[k]? with
  | none =>
    have : o.rc.length ≤ k := by
      rcases Nat.lt_or_ge k o.rc.length with z | z
      · rw [List.getElem?_eq_getElem z] at q; cases q
      · exact z
    rw [List.getElem?_eq_none (by rw [← h.len]; exact this)]; rfl
  | some r => rw [(h.idx k r q).1]; rfl
/-- The steps of beats. -/
def stB (s : Sp) (l : List Cloud) (bs : List BtM) (n : Nat) : List Stp := (List.range n).map fun i => ⟨tAt bs (i + 1), thsP s (beatL (bs.getD i ⟨0, 0, 0, true⟩) l)⟩
theorem stB_len {s : Sp} {l : List Cloud} {bs : List BtM} {n : Nat} : (stB s l bs n).length = n := by simp [stB]
theorem stB_snoc {s : Sp} {l : List Cloud} {bs : List BtM} {n : Nat} : stB s l bs (n + 1) = stB s l bs n ++ [⟨tAt bs (n + 1), thsP s (beatL (bs.getD n ⟨0, 0, 0, true⟩) l)⟩] := by
  unfold stB; rw [List.range_succ, List.map_append]; rfl
/-- The events of steps, step by step. -/
def evB (s : Sp) (l : List Cloud) (bs : List BtM) (n : Nat) : List (List Ev) := (List.range n).map fun i => evF s.hold s.regs.length (stB s l bs i) ⟨tAt bs (i + 1), thsP s (beatL (bs.getD i ⟨0, 0, 0, true⟩) l)⟩
theorem evB_snoc {s : Sp} {l : List Cloud} {bs : List BtM} {n : Nat} : evB s l bs (n + 1) = evB s l bs n ++ [evF s.hold s.regs.length (stB s l bs n) ⟨tAt bs (n + 1), thsP s (beatL (bs.getD n ⟨0, 0, 0, true⟩) l)⟩] := by
  unfold evB; rw [List.range_succ, List.map_append]; rfl
def tmB (bs : List BtM) (n : Nat) : List Int := (List.range n).map fun i => tAt bs (i + 1)
theorem tmB_snoc {bs : List BtM} {n : Nat} : tmB bs (n + 1) = tmB bs n ++ [tAt bs (n + 1)] := by unfold tmB; rw [List.range_succ, List.map_append]; rfl
theorem cs_nodup {o : OfM} {w : World} (h : (bagD (o.cs.map CsM.blk)).inv w) : (o.cs.map CsM.b).Nodup := by
  have := h.2
  rw [List.pairwise_map] at this
  unfold List.Nodup
  rw [List.pairwise_map]
  refine this.imp fun {a b} hab e => ?_
  exact hab a.b rfl (by show a.b = b.b; exact e)
/-- A step, and the plain words. -/
theorem Step_s (o : OfM) (st : List Stp) (T : Int) (m : List CP) (pm : Option Addr) (cm : Nat) (w : World) (hh : Has w (offR o)) (hcl : ∀ {L : List Res} {v : World}, St ⟨w, fpL (offR o)⟩ L v → Clouds v pm m) (hcn : m.length < 1000000000) (h : SimO o st) (hT1 : 0 ≤ T) (hT3 : T ≤ 4294967296) (hlate : o.ts = [] ∨ lastI o.ts < T) (hful : o.lg.length < 256) (hlk : lookE o.g (m.map CP.c) = 0) :
    Calls Try.prog 27 #[ptrN o.b, .int .i64 T, .slice pm m.length cm] w fun e w' => ∃ y : StepY, (StepP o T (m.map CP.c) y ∧ SimO (y.o o T) (st ++ [⟨T, thsP o.sp (m.map CP.c)⟩]) ∧ y.es = evF o.hold o.rc.length st ⟨T, thsP o.sp (m.map CP.c)⟩) ∧ e = .returned (.tuple #[.slice y.pe y.es.length y.ce, .int .i64 0]) ∧ St ⟨w, fpL (offR o)⟩ (own 62 7 y.pe y.ce (y.es.map evC) :: offR (y.o o T)) w' := by
  refine (Step_w o T m pm cm w hh hcl hcn h.wf hT1 hT3 hlate hful hlk).mono ?_
  rintro e w' ⟨y, hp, he, hs⟩
  have hnd : (y.cs.map CsM.b).Nodup := cs_nodup (o := y.o o T) (hs.inv 8 _ rfl)
  have := sim_step h hp hT1 hT3 hlate hnd
  rw [ths_eq h.wf] at this
  exact ⟨y, ⟨hp, this⟩, he, hs⟩
theorem n_eq {o : OfM} (h : WfO o) : o.rc.length = o.sp.regs.length := by unfold OfM.sp; rw [List.length_map]; exact h.len

end Go.Proofs.Ytdjflomhaljljaa

namespace Go.Proofs.Ytdjflomhaljljaa
open Go.SL Go.Proofs Go.Cast
set_option linter.unusedVariables false

theorem S50 : IsSlice Try.prog 50 66 := Try.underlying50
theorem N66 : (Try.prog.info? 66).map (·.size) = some 4 := by kernel_rfl
theorem F66_0 : FieldAt Try.prog 66 0 0 := ⟨_, _, Try.underlying66, rfl, rfl, 0, by kernel_rfl⟩
theorem A66 : IsAgg Try.prog 66 4 := ⟨⟨_, Try.underlying66, rfl⟩, by kernel_rfl⟩
theorem C23 : IsFn Try.prog 23 := ⟨_, Try.func23, by decide, rfl⟩
theorem S54 : IsSlice Try.prog 54 60 := Try.underlying54
theorem I60 : EInfo Try.prog 60 1 24 (.slice none 0 0) := ⟨by kernel_rfl, by kernel_rfl, by unfold ZeroOf; kernel_rfl, rfl, by decide⟩


/-- What stands in a log. -/
inductive Ent where
  | st (t : Int) (l : List Cloud)
  | nt (t : Int) (g : Grid) (vs : List Span) (lv : Int)
def LgM.ent : LgM → Ent
  | .st t _ _ l => .st t (l.map CP.c)
  | .nt t g _ _ vs lv => .nt t g vs lv
def lgB (l : List Cloud) (bs : List BtM) (n : Nat) : List Ent := (List.range n).map fun i => .st (tAt bs (i + 1)) (beatL (bs.getD i ⟨0, 0, 0, true⟩) l)
theorem lgB_snoc {l : List Cloud} {bs : List BtM} {n : Nat} : lgB l bs (n + 1) = lgB l bs n ++ [.st (tAt bs (n + 1)) (beatL (bs.getD n ⟨0, 0, 0, true⟩) l)] := by unfold lgB; rw [List.range_succ, List.map_append]; rfl
structure RnY where
  o : OfM
  evs : List (RowA Ev)
  pe : Option Addr
  ce : Nat
  ts : List Int
  pt : Option Addr
  ct : Nat
/-- What holds of an office behind some beats. -/
def RnA (s : Sp) (l : List Cloud) (bs : List BtM) (o : OfM) (evs : List (RowA Ev)) (ts : List Int) (n : Nat) : Prop :=
  SimO o (stB s l bs n) ∧ o.sp = s ∧ evs.map RowA.l = evB s l bs n ∧ ts = tmB bs n ∧ o.lg.map LgM.ent = lgB l bs n
def RnP (s : Sp) (l : List Cloud) (bs : List BtM) (y : RnY) : Prop := RnA s l bs y.o y.evs y.ts bs.length
theorem clouds_rest {R L : List Res} {w0 w v : World} {pl p : Option Addr} {c : Nat} {m l : List CP} (hl : Clouds w0 pl l) (hm : ∀ y, y ∈ m → y ∈ l) (h : St (bs w0) (R ++ [own 80 7 p c (m.map CP.cells)]) w) (hs : St ⟨w, fpL R⟩ L v) : Clouds v p m :=
  ⟨own_inv_rows (restInv h hs (.head _)), fun x hx => (hl.keep v (h.callG (fun k hk => hk) hs)).ok x (hm x hx)⟩
theorem tAt_s {bs : List BtM} {n : Nat} {x : BtM} (hx : bs[n]? = some x) : tAt bs (n + 1) = tAt bs n + (1 + x.la.tmod 500) := by
  have hxd : bs.getD n ⟨0, 0, 0, true⟩ = x := by rw [List.getD_eq_getElem?_getD, hx]; rfl
  conv => lhs; unfold tAt
  rw [hxd]
theorem late_stB {o : OfM} {s : Sp} {l : List Cloud} {bs : List BtM} {i : Nat} (h : o.ts = (stB s l bs i).map Stp.t) (hb : ∀ b, b ∈ bs → b.ok) (hi : i < bs.length) : o.ts = [] ∨ lastI o.ts < tAt bs (i + 1) := by
  cases i with
  | zero => exact .inl (by rw [h]; rfl)
  | succ k =>
    refine .inr ?_
    rw [h, stB_snoc, List.map_append]
    show lastI (_ ++ [_]) < _
    rw [lastI_snoc]
    exact tAt_lt hb hi
theorem rn_step {s : Sp} {l : List Cloud} {bs : List BtM} {o : OfM} {evs : List (RowA Ev)} {ts : List Int} {n : Nat} {y : StepY} {x : BtM} {m : List Cloud} (h : RnA s l bs o evs ts n) (hx : bs[n]? = some x) (hm : m = beatL x l)
    (hy : StepP o (tAt bs (n + 1)) m y ∧ SimO (y.o o (tAt bs (n + 1))) (stB s l bs n ++ [⟨tAt bs (n + 1), thsP o.sp m⟩]) ∧ y.es = evF o.hold o.rc.length (stB s l bs n) ⟨tAt bs (n + 1), thsP o.sp m⟩) :
    RnA s l bs (y.o o (tAt bs (n + 1))) (evs ++ [⟨y.pe, y.ce, y.es⟩]) (ts ++ [tAt bs (n + 1)]) (n + 1) := by
  obtain ⟨h1, h2, h3, h4, h5⟩ := h
  obtain ⟨k1, k2, k3⟩ := hy
  have hxd : bs.getD n ⟨0, 0, 0, true⟩ = x := by rw [List.getD_eq_getElem?_getD, hx]; rfl
  subst hm
  rw [h2] at k2 k3
  refine ⟨by rw [stB_snoc, hxd]; exact k2, h2, ?_, by rw [h4, tmB_snoc], ?_⟩
  · rw [List.map_append, h3, evB_snoc, hxd]
    congr 1
    show [y.es] = _
    rw [k3, n_eq h1.wf, h2]
    congr 3
    rw [← h2]; rfl
  · obtain ⟨_, p, c, q, e1, e2⟩ := k1
    show (o.lg ++ [y.lg]).map LgM.ent = _
    rw [List.map_append, h5, lgB_snoc, hxd, e1]
    show _ ++ [Ent.st _ (q.map CP.c)] = _
    rw [e2]

set_option maxRecDepth 20000 in
theorem run_c (g : Grid) (rgs : List RG) (pg : Option Addr) (cg : Nat) (a b d : Int) (s : Sp) (l : List CP) (pl : Option Addr) (cl : Nat) (bs : List BtM) (pb : Option Addr) (cb : Nat) (w : World) (hse : s = ⟨g, rgs.map RG.r, a, b, d⟩) (hs : specE s = 0) (hrl : rgs.length < 1000000000000) (hrg : Regs w pg rgs) (hll : l.length < 1000000) (hl : Clouds w pl l) (hbl : bs.length ≤ 200) (hb : BtsM w pb bs) (hlook : ∀ x, x ∈ bs → lookE s.g (beatL x (l.map CP.c)) = 0) :
  Calls Try.prog 21 #[specV g pg rgs.length cg a b d, .slice pl l.length cl, .slice pb bs.length cb] w fun e w' => ∃ y : RnY, RnP s (l.map CP.c) bs y ∧ e = .returned (.tuple #[ptrN y.o.b, .slice y.pe y.evs.length y.ce, .slice y.pt y.ts.length y.ct, .bool true]) ∧ St (Go.SL.bs w) (offR y.o ++ [own 60 1 y.pe y.ce (y.evs.map rowC), bagR 62 7 evC y.evs, own 3 1 y.pt y.ct (y.ts.map iC)]) w' := by
  have hbs := hb.ok
  have htb := tAt_bd hbs
  refine enter (vs := [_, _, _]) (env := [(0, _), (1, _), (2, _)]) Try.func21 rfl rfl rfl rfl ?_
  refine VC.seq ?_
  refine VC.reg (VO.h rfl <| HO.box (C := #[_, _, _, _, _, _, _, _, _]) rfl rfl fun b1 => VO.l (LO.as (.r rfl)) rfl <| VO.l (LO.as (.r rfl)) rfl <| VO.l (LO.as (.r rfl)) rfl <| VO.l (LO.as (.r rfl)) rfl <| VO.nil ?_)
  refine VE.seqN ?_
  refine VC.seq ?_
  refine VC.reg (VO.l (LO.lda (vs := [_, _, _, _, _, _, _, _, _]) A28 (.r rfl) (fun _ hw => cells_at hw 0 rfl ⟨_, rfl⟩) rfl) rfl <| VO.h rfl <| HO.callx (xs := [_]) (vs := [_]) C26 ⟨(.r rfl), trivial⟩ (fun w hw => New_c g rgs pg cg a b d w hrl (hrg.keep hw) (by rw [← hse]; exact hs)) fun o hn => VO.h rfl <| HO.lo (LO.mv (.r rfl)) <| VO.h rfl <| HO.lo (LO.ex (.r rfl) rfl) <| VO.h rfl <| HO.lo (LO.ex (.r rfl) rfl) <| VO.h rfl <| HO.lo (LO.as (.r rfl)) <| VO.h rfl <| HO.lo (LO.as (.r rfl)) <| VO.nil ?_)
  refine VE.seqN ?_
  refine VC.seq ?_
  refine VC.seq ?_
  refine VC.reg (VO.l (LO.mv (.r rfl)) rfl <| VO.l (LO.ne (.r rfl) (.r rfl)) rfl <| VO.nil ?_)
  refine VE.seqN ?_
  refine VC.cond rfl (fun h24 => ?_) (fun h24 => ?_)
  ·
    (exfalso; exact h24 rfl)
  ·
    refine VC.skip (VE.seqN ?_)
    refine VC.seq ?_
    refine VC.reg (VO.l (LO.as (.r rfl)) rfl <| VO.nil ?_)
    refine VE.seqN ?_
    refine VC.seq ?_
    refine VC.reg (VO.l (LO.as (.r rfl)) rfl <| VO.nil ?_)
    refine VE.seqN ?_
    refine VC.seq ?_
    refine VC.reg (VO.l (LO.as (.r rfl)) rfl <| VO.nil ?_)
    refine VE.seqN ?_
    refine VC.seq ?_
    refine VC.seq ?_
    refine VC.reg (VO.l (LO.as (.r rfl)) rfl <| VO.nil ?_)
    refine VE.seqN ?_
    refine VC.block ?_
    refine VC.loopK (α := Nat × OfM × (List (RowA Ev)) × (Option Addr) × Nat × (List Int) × (Option Addr) × Nat) 10 (fun gx => [(12, .int .i64 (tAt bs gx.1)), (13, .slice gx.2.2.2.1 gx.2.2.1.length gx.2.2.2.2.1), (14, .slice gx.2.2.2.2.2.2.1 gx.2.2.2.2.2.1.length gx.2.2.2.2.2.2.2), (15, .int .i64 (gx.1 : Nat))]) [(1, _), (2, _), (10, _)] (fun gx => [OfM.blk gx.2.1, OfM.rgR gx.2.1, OfM.pxB gx.2.1, OfM.rcR gx.2.1, OfM.rcB gx.2.1, OfM.tsR gx.2.1, OfM.csR gx.2.1, OfM.csB gx.2.1, OfM.lgR gx.2.1, OfM.lgB gx.2.1, own 60 1 gx.2.2.2.1 gx.2.2.2.2.1 (gx.2.2.1.map rowC), bagR 62 7 evC gx.2.2.1, own 3 1 gx.2.2.2.2.2.2.1 gx.2.2.2.2.2.2.2 (gx.2.2.2.2.2.1.map iC)]) (fun gx => gx.1 ≤ bs.length ∧ gx.2.1.b = o.b ∧ RnA s (l.map CP.c) bs gx.2.1 gx.2.2.1 gx.2.2.2.2.2.1 gx.1) (fun gx => bs.length - gx.1) (0, o, [], none, 0, [], none, 0) (by exact ⟨Nat.zero_le _, rfl, sim_new hn (by rw [← hse]; exact hs) (fun x hx => (hrg.ok x hx).2), (by rw [hse]; obtain ⟨h1, h2, h3, h4, _, _, _, _, h8, _⟩ := hn; unfold OfM.sp; rw [h1, h2, h3, h4, h8]), rfl, rfl, (by obtain ⟨_, _, _, _, _, _, h7, _⟩ := hn; rw [h7]; rfl)⟩) (.cons rfl (.cons rfl (.cons rfl (.cons rfl (.cons rfl (.cons rfl (.cons rfl .nil))))))) (fun _ h => ((((h.ownNil 3 1).bagRNil 62 7 evC).ownNil 60 1)).sel [3, 4, 5, 6, 7, 8, 9, 10, 11, 12, 0, 1, 2, 13] rfl) ?_
    rintro ⟨i, o_, evs, pe_, ce_, ts, pt_, ct_⟩ ⟨hi, hob, hR⟩
    show VC _ _ _ _ _ ([(12, .int .i64 (tAt bs i)), (13, .slice pe_ evs.length ce_), (14, .slice pt_ ts.length ct_), (15, .int .i64 (i : Nat))] ++ _) ([OfM.blk o_, OfM.rgR o_, OfM.pxB o_, OfM.rcR o_, OfM.rcB o_, OfM.tsR o_, OfM.csR o_, OfM.csB o_, OfM.lgR o_, OfM.lgB o_, own 60 1 pe_ ce_ (evs.map rowC), bagR 62 7 evC evs, own 3 1 pt_ ct_ (ts.map iC)] ++ _) _ _
    dsimp only at hi hob hR
    rw [← hob]
    have hel : evs.length = i := by rw [← List.length_map (f := RowA.l), hR.2.2.1]; simp [evB]
    have htl : ts.length = i := by rw [hR.2.2.2.1]; simp [tmB]
    refine VC.seq ?_
    refine VC.seq ?_
    refine VC.reg (VO.l (LO.mv (.r rfl)) rfl <| VO.l (LO.mv (.r rfl)) rfl <| VO.l (LO.len S50 (.r rfl) rfl) rfl <| VO.l (LO.lt (.r rfl) (.r rfl)) rfl <| VO.nil ?_)
    refine VE.seqN ?_
    refine VC.cond rfl (fun h28 => ?_) (fun h28 => ?_)
    ·
      obtain ⟨x, hx⟩ : ∃ x, bs[i]? = some x := ⟨_, List.getElem?_eq_getElem (by omega)⟩
      have hxm : x ∈ bs := List.mem_of_getElem? hx
      have hxo := hbs x hxm
      have hla : 0 ≤ x.la ∧ x.la ≤ 65535 := hxo.1
      have htm := tm hla.1 (show (0 : Int) < 500 by decide)
      have hT := tAt_s hx
      have htb1 := htb i (by omega)
      have htb2 := htb (i + 1) (by omega)
      refine VC.skip (VE.seqN ?_)
      refine VC.seq ?_
      refine VC.block ?_
      refine VC.seq ?_
      refine VC.reg (VO.l (LO.mv (.r rfl)) rfl <| VO.l (LO.mv (.r rfl)) rfl <| VO.l (LO.mv (.r rfl)) rfl <| VO.l (LO.ixs S50 N66 hb.rows.sm (.r rfl) (.r rfl) rfl (by omega)) rfl <| VO.l (LO.fa F66_0 (.r rfl) rfl) rfl <| VO.l (LO.ld O46 (.r rfl) (fun w hw => cells_part (off := 0) ((fun w2 hw2 => (hb.rows.keep w2 hw2).cells _ _ (by rw [List.getElem?_map, hx]; rfl)) w hw) ⟨_, rfl⟩)) rfl <| VO.l (LO.cv ⟨_, Try.underlying46⟩ Try.underlying3 (.r rfl) (wi (by omega) (by omega))) rfl <| VO.l (LO.rem (.r rfl) (.r rfl) (by decide)) rfl <| VO.l (LO.add (.r rfl) (.r rfl) (wi (by omega) (by omega))) rfl <| VO.l (LO.add (.r rfl) (.r rfl) ((wi (by omega) (by omega)).trans hT.symm)) rfl <| VO.l (LO.as (.r rfl)) rfl <| VO.nil ?_)
      refine VE.seqN ?_
      refine VC.seq ?_
      refine VC.reg (VO.l (LO.mv (.r rfl)) rfl <| VO.l (LO.mv (.r rfl)) rfl <| VO.l (LO.mv (.r rfl)) rfl <| VO.l (LO.mv (.r rfl)) rfl <| VO.l (LO.ixs S50 N66 hb.rows.sm (.r rfl) (.r rfl) rfl (by omega)) rfl <| VO.l (LO.lda (vs := [_, _, _, _]) A66 (.r rfl) (fun w hw => cells_part (off := 0) ((fun w2 hw2 => (hb.rows.keep w2 hw2).cells _ _ (by rw [List.getElem?_map, hx]; rfl)) w hw) ⟨_, rfl⟩) rfl) rfl <| VO.l (LO.mv (.r rfl)) rfl <| VO.h rfl <| HO.callx (xs := [_, _]) (vs := [_, _]) C23 ⟨(.r rfl), (.r rfl), trivial⟩ (fun w hw => beat_c x l pl cl w hll (hbs x hxm) (hl.keep w hw)) fun qb hqb => VO.h rfl <| HO.callP (first := []) (cap := []) (xs := [_, _, _]) (vs := [_, _, _]) [_, _, _, _, _, _, _, _, _, _] [_, _, _, _, _] (selK (L1 := [_, _, _, _, _, _, _, _, _, _] ++ [_, _, _, _, _]) [1, 2, 3, 4, 5, 6, 7, 8, 9, 10, 0, 11, 12, 13, 14] rfl rfl) (.r rfl) C27 ⟨(.r rfl), (.r rfl), (.r rfl), trivial⟩ (fun w hw hh => Step_s o_ _ (tAt bs (i + 1)) qb.2 qb.1.1 qb.1.2 w hh (fun hs => clouds_rest hl hqb.2.2 (selK (L1 := offR o_ ++ [_]) [1, 2, 3, 4, 5, 6, 7, 8, 9, 10, 0] rfl rfl w hw) hs) (by omega) hR.1 (by omega) (by omega) (late_stB hR.1.ts hbs (by omega)) (by rw [← List.length_map (f := LgM.ent), hR.2.2.2.2]; simp [lgB]; omega) (by rw [hqb.1, show o_.g = s.g from congrArg Sp.g hR.2.1]; exact hlook x hxm)) fun y hy => VO.h rfl <| HO.lo (LO.mv (.r rfl)) <| VO.h rfl <| HO.lo (LO.ex (.r rfl) rfl) <| VO.h rfl <| HO.lo (LO.ex (.r rfl) rfl) <| VO.h rfl <| HO.lo (LO.as (.r rfl)) <| VO.h rfl <| HO.lo (LO.as (.r rfl)) <| VO.nil ?_)
      refine VE.seqN ?_
      refine VC.seq ?_
      refine VC.seq ?_
      refine VC.reg (VO.l (LO.mv (.r rfl)) rfl <| VO.l (LO.ne (.r rfl) (.r rfl)) rfl <| VO.nil ?_)
      refine VE.seqN ?_
      refine VC.cond rfl (fun h54 => ?_) (fun h54 => ?_)
      ·
        (exfalso; exact h54 rfl)
      ·
        refine VC.skip (VE.seqN ?_)
        refine VC.reg (VO.l (LO.mv (.r rfl)) rfl <| VO.l (LO.mv (.r rfl)) rfl <| VO.h rfl <| HO.bs (ps := [(_, _)]) (vs := [(_, _)]) (Z := [_]) (C := [_]) S54 Z60 N60 ⟨(.r rfl), trivial⟩ rfl rfl rfl rfl ⟨_, [_], [_], rfl, rfl, rfl, rfl, rfl⟩ fun b27 => VO.h rfl <| HO.appT ((⟨y.pe, y.ce, y.es⟩ : RowA Ev)) 13 0 (fun R => [_, _, _, _, _, _, _, _, _, _, _, _, _, R, _, _, _]) S54 S54 I60 (.r rfl) (.r rfl) rfl rfl rfl rfl rfl rfl rfl (fun _ => rfl) rfl (by omega) fun p3 c3 => VO.l (LO.mv (.r rfl)) rfl <| VO.l (LO.mv (.r rfl)) rfl <| VO.h rfl <| HO.bs (ps := [(_, _)]) (vs := [(_, _)]) (Z := [_]) (C := [_]) S55 Z3 N3 ⟨(.r rfl), trivial⟩ rfl rfl rfl rfl ⟨_, [_], [_], rfl, rfl, rfl, rfl, rfl⟩ fun b28 => VO.h rfl <| HO.appT ((tAt bs (i + 1))) 16 0 (fun R => [_, _, _, _, _, _, _, _, _, _, _, _, _, _, _, _, R, _]) S55 S55 I3 (.r rfl) (.r rfl) rfl rfl rfl rfl rfl rfl rfl (fun _ => rfl) rfl (by omega) fun p7 c7 => VO.h rfl <| HO.lo (LO.as (.r rfl)) <| VO.h rfl <| HO.lo (LO.as (.r rfl)) <| VO.nil ?_)
        refine VE.inN (VE.seqN ?_)
        refine VC.reg (VO.l (LO.mv (.r rfl)) rfl <| VO.l (LO.add (.r rfl) (.r rfl) (wi (by omega) (by omega))) rfl <| VO.l (LO.as (.r rfl)) rfl <| VO.nil ?_)
        refine VE.thenN fun a w ha hw => ⟨(i + 1, y.o o_ (tAt bs (i + 1)), evs ++ [(⟨y.pe, y.ce, y.es⟩ : RowA Ev)], p3, c3, ts ++ [tAt bs (i + 1)], p7, c7), ⟨by dsimp only; omega, rfl, rn_step hR hx hqb.1 hy⟩, (by dsimp only; omega), ha.sub (.cons rfl (.cons rfl (.cons rfl (.cons rfl (.cons rfl (.cons rfl (.cons rfl .nil))))))), (by exact selK (L1 := [_, _, _, _, _, _, _, _, _, _, _, _, _, _]) [1, 2, 3, 4, 5, 6, 7, 8, 9, 10, 11, 0, 12, 13] rfl rfl _ (St.bagRIn (x := (⟨y.pe, y.ce, y.es⟩ : RowA Ev)) (selK (L1 := [_, _, _, _, _, _, _, _, _, _, _, _, _, _, _]) [2, 15, 3, 4, 5, 6, 7, 8, 9, 10, 11, 12, 14, 16, 17] rfl rfl _ hw)))⟩
    ·
      refine VC.exit (VE.thenX (VE.thenX (VE.inX (VE.seqN ?_))))
      refine VC.seq ?_
      refine VC.reg (VO.l (LO.mv (.r rfl)) rfl <| VO.l (LO.mv (.r rfl)) rfl <| VO.l (LO.mv (.r rfl)) rfl <| VO.l (LO.as (.r rfl)) rfl <| VO.l (LO.as (.r rfl)) rfl <| VO.l (LO.as (.r rfl)) rfl <| VO.l (LO.as (.r rfl)) rfl <| VO.nil ?_)
      refine VE.seqN ?_
      refine VC.ret (VE.res (vs := [_, _, _, _]) rfl ⟨rfl, rfl, rfl, rfl, trivial⟩ (fun w hw => ?_))
      have hi2 : i = bs.length := by omega
      subst hi2
      exact ⟨⟨o_, evs, pe_, ce_, ts, pt_, ct_⟩, hR, rfl, selK (L1 := offR o_ ++ [_, _, _]) [0, 1, 2, 3, 4, 5, 6, 7, 8, 9, 10, 11, 12] rfl rfl _ hw⟩

end Go.Proofs.Ytdjflomhaljljaa

namespace Go.Proofs.Ytdjflomhaljljaa
open Go.SL Go.Proofs Go.Cast
set_option linter.unusedVariables false

theorem foldl_max_mem : ∀ (l : List Rch) (m : Int) {x : Rch}, x ∈ l → x.lv ≤ l.foldl (fun m x => max m x.lv) m
  | y :: l, m, x, h => by
    rcases List.mem_cons.1 h with rfl | q
    · have := foldl_max_ge l (max m x.lv)
      simp only [List.foldl_cons]; omega
    · exact foldl_max_mem l _ q
theorem maxLv_mem {l : List Rch} {x : Rch} (h : x ∈ l) : x.lv ≤ maxLv l := foldl_max_mem l 0 h
theorem keep_mem {T H : Int} {l : List Rch} {x : Rch} : x ∈ keepR T H l ↔ x ∈ l ∧ T - H ≤ x.t := by
  unfold keepR oldR
  simp [List.mem_filter]
theorem histR_mem {k : Nat} {st : List Stp} {x : Rch} : x ∈ histR k st ↔ ∃ s, s ∈ st ∧ x = ⟨s.t, (s.th.getD k zT).lv⟩ := by
  unfold histR
  simp only [List.mem_map]
  constructor
  · rintro ⟨s, h1, h2⟩; exact ⟨s, h1, h2.symm⟩
  · rintro ⟨s, h1, h2⟩; exact ⟨s, h1, h2.symm⟩
/-- A step that is held counts. -/
theorem lvS_ge {H : Int} {k : Nat} {st : List Stp} {s : Stp} (hs : s ∈ st) (h : lastT st - H ≤ s.t) : (s.th.getD k zT).lv ≤ lvS H k st :=
  maxLv_mem (x := ⟨s.t, (s.th.getD k zT).lv⟩) (keep_mem.2 ⟨histR_mem.2 ⟨s, hs, rfl⟩, h⟩)
theorem thrP_nn {l pix : List Int} {x : Int} {a : Thr} (ha : 0 ≤ a.lv) : ∀ k, 0 ≤ (thrP l x pix a k).lv
  | 0 => ha
  | k + 1 => by
    have := thrP_nn (l := l) (pix := pix) (x := x) ha k
    unfold thrP
    split
    · show 0 ≤ l.getD _ 0; omega
    · exact this
theorem thr_nn {ls : List (List Int)} {pix : List Int} {b : Int} : 0 ≤ (thr ls pix b).lv := by
  have key : ∀ i, 0 ≤ (thrL ls pix b i).lv := by
    intro i
    induction i with
    | zero => exact Int.le_refl 0
    | succ i ih => exact thrP_nn ih _
  exact key _
/-- What arrays of a law say of levels and open warnings. -/
structure NumI (n : Nat) (lv : Nat → Int) (cs : List Cs) (le nu pe be : List Int) : Prop where
  l1 : le.length = n
  l2 : nu.length = n
  l3 : pe.length = n
  l4 : be.length = n
  le : ∀ j, j < n → le.getD j 0 = lv j
  op : ∀ j, j < n → lv j ≠ 0 → ∃ (i : Nat) (c : Cs), cs[i]? = some c ∧ opn j c = true ∧ nu.getD j 0 = c.nm ∧ pe.getD j 0 = c.pk ∧ be.getD j 0 = c.bg
end Go.Proofs.Ytdjflomhaljljaa

namespace Go.Proofs.Ytdjflomhaljljaa
open Go.SL Go.Proofs Go.Cast
set_option linter.unusedVariables false

/-! ### The steps of a draft -/
section
variable (d : DrM) (lc : List Cloud) (bs : List BtM) (i : Nat)
end
section
variable {d : DrM} {lc : List Cloud} {bs : List BtM} {i : Nat}
end

end Go.Proofs.Ytdjflomhaljljaa

namespace Go.Proofs.Ytdjflomhaljljaa
open Go.SL Go.Proofs Go.Cast
set_option linter.unusedVariables false

theorem C15 : IsFn Try.prog 15 := ⟨_, Try.func15, by decide, rfl⟩
end Go.Proofs.Ytdjflomhaljljaa

namespace Go.Proofs.Ytdjflomhaljljaa
open Go.SL Go.Proofs Go.Cast
set_option linter.unusedVariables false



theorem cp_read {w : World} {l : List CP} (h : (bagD (l.flatMap cpR)).inv w) {x : CP} (hx : x ∈ l) : Ints w x.ps x.c.sure ∧ Ints w x.pm x.c.may :=
  ⟨own_inv_rows (h.1 (own 3 1 x.ps x.cs (x.c.sure.map iC)) (List.mem_flatMap.2 ⟨x, hx, .head _⟩)), own_inv_rows (h.1 (own 3 1 x.pm x.cm (x.c.may.map iC)) (List.mem_flatMap.2 ⟨x, hx, .tail _ (.head _)⟩))⟩
theorem clouds_all {w : World} {p : Option Addr} {c n : Nat} {l : List CP} {cl : List ClM} (hX : l.map CP.c = allL cl n) (hok : ∀ c, c ∈ cl → c.ok) (h1 : (own 80 7 p c (l.map CP.cells)).inv w) (h2 : (bagD (l.flatMap cpR)).inv w) : Clouds w p l := by
  refine ⟨own_inv_rows h1, fun x hx => ?_⟩
  have h3 := cp_read h2 hx
  have h4 : x.c ∈ allL cl n := by rw [← hX]; exact List.mem_map_of_mem hx
  obtain ⟨k, _, e, _⟩ := allL_ok hok n _ h4
  have l1 : x.c.sure.length ≤ 20 := by rw [e]; exact pxF_len
  have l2 : x.c.may.length ≤ 20 := by rw [e]; exact pxF_len
  exact ⟨h3.1, h3.2, by omega, by omega⟩
theorem dr_pix {d : DrM} {r : Reg} (h : r ∈ drRegs d 3) : (∀ n, n ∈ r.pix → 0 ≤ n ∧ n < 20) ∧ r.pix.length ≤ 20 := by
  obtain ⟨j, _, rfl, _⟩ := drRegs_mem h
  exact ⟨fun n hn => asc_dr.2 n hn, drPx_len⟩
theorem regs_frame {w : World} {p : Option Addr} {c : Nat} {rgs : List RG} {d : DrM} (hX : rgs.map RG.r = drRegs d 3) (h1 : (own 74 2 p c (rgs.map RG.cells)).inv w) (h2 : (bagD (rgs.map pixR)).inv w) : Regs w p rgs := by
  refine ⟨own_inv_rows h1, fun x hx => ⟨pix_read h2 hx, ?_⟩⟩
  have h4 : x.r ∈ drRegs d 3 := by rw [← hX]; exact List.mem_map_of_mem hx
  have := (dr_pix h4).2
  omega
theorem clouds_own {w0 w : World} {L : List Res} {pl p : Option Addr} {c : Nat} {m l : List CP} (hl : Clouds w0 pl l) (hm : ∀ y, y ∈ m → y ∈ l) (hw : St (bs w0) L w) (i : Nat) (hi : L[i]? = some (own 80 7 p c (m.map CP.cells))) : Clouds w p m :=
  ⟨own_rows hw i hi, fun x hx => (hl.keep w hw).ok x (hm x hx)⟩
theorem getD_of {α : Type} {l : List α} {k : Nat} {x d : α} (h : l[k]? = some x) : l.getD k d = x := by rw [List.getD_eq_getElem?_getD, h]; rfl
/-- A region's threat, as a service says it. -/
theorem threat_of {d : DrM} (hd : d.ok) (hne : drRegs d 3 ≠ []) {l : List Cloud} (hl : lookE gD l = 0) {k : Nat} (hk : k < (drRegs d 3).length) : threatE (drSp d) (k : Int) l = 0 ∧ threatT (drSp d) (k : Int) l = (thsP (drSp d) l).getD k zT := by
  have hs := dr_spec hd hne
  have e : threatE (drSp d) (k : Int) l = 0 := by
    rw [tE3 hs ⟨by omega, by show (k : Int) ≤ ((drRegs d 3).length : Int) - 1; omega⟩]; exact hl
  refine ⟨e, ?_⟩
  unfold threatT thsP
  rw [if_neg (fun q => q e), Int.toNat_natCast, List.getD_eq_getElem?_getD (l := List.map _ _), List.getElem?_map]
  have hk2 : k < (drSp d).regs.length := hk
  rw [List.getElem?_eq_getElem hk2, List.getD_eq_getElem?_getD, List.getElem?_eq_getElem hk2]; rfl
theorem BtsM.keep {w0 w : World} {L : List Res} {p : Option Addr} {l : List BtM} (h : BtsM w0 p l) (hw : St (bs w0) L w) : BtsM w p l := ⟨h.rows.keep w hw, h.ok⟩
theorem DrM.len {d : DrM} (h : d.ok) : d.cells.length = 23 := by
  show (d.px.map u8V ++ _).length = 23
  rw [List.length_append, List.length_map, h.1]; rfl

end Go.Proofs.Ytdjflomhaljljaa

namespace Go.Proofs.Ytdjflomhaljljaa
open Go.SL Go.Proofs Go.Cast
set_option linter.unusedVariables false

theorem sure_may {g : Grid} {c : Cloud} (h : cloudE g c = 0) : (∀ n, n ∈ c.sure → n ∈ c.may) ∧ (∀ n, n ∈ c.may → 0 ≤ n ∧ n ≤ g.wide * g.high - 1) := by
  unfold cloudE at h
  split at h
  · omega
  · split at h
    · omega
    · split at h
      · omega
      · split at h
        · omega
        · split at h
          · omega
          · rename_i q
            have q := Classical.not_not.1 q
            constructor
            · intro n hn
              obtain ⟨i, hi, e⟩ := List.getElem_of_mem hn
              have := firstE_eq h i hi
              unfold sureE at this
              have e2 : c.sure.getD i 0 = n := by rw [List.getD_eq_getElem?_getD, List.getElem?_eq_getElem hi]; exact e
              rw [e2] at this
              split at this
              · omega
              · split at this
                · omega
                · rename_i r; exact Classical.not_not.1 r
            · intro n hn
              obtain ⟨i, hi, e⟩ := List.getElem_of_mem hn
              have := firstE_eq q i hi
              unfold mayE at this
              have e2 : c.may.getD i 0 = n := by rw [List.getD_eq_getElem?_getD, List.getElem?_eq_getElem hi]; exact e
              rw [e2] at this
              split at this
              · omega
              · rename_i r; exact Classical.not_not.1 r
/-- A place that is in the grid, and in a list. -/
def AtG (g : Grid) (l : List Int) (x y : Int) : Prop := (0 ≤ x ∧ x ≤ g.wide - 1) ∧ (0 ≤ y ∧ y ≤ g.high - 1) ∧ y * g.wide + x ∈ l
section
variable {g : Grid} {c : Cloud} {p t : Int}
theorem state_all (hf : flowOk c.flow) (hr1 : 0 ≤ c.grow) (hr2 : c.grow ≤ 10000) (ht : 0 ≤ t) (hs1 : memB c.sure (-1) = false) : stateOf g c p t = 2 ↔ ∀ v u, (comeLo c.flow.c c.grow t ≤ v ∧ v ≤ comeHi c.flow.d c.grow t) → (comeLo c.flow.a c.grow t ≤ u ∧ u ≤ comeHi c.flow.b c.grow t) → AtG g c.sure (p.tmod g.wide - u) (p.tdiv g.wide - v) := by
  have e1 : stateOf g c p t = 2 ↔ (srcs g c p t).all (memB c.sure) = true := by
    unfold stateOf; split
    · simp_all
    · rename_i h; constructor
      · intro k; split at k <;> omega
      · intro k; exact absurd k h
  rw [e1, ← all_iff hf hr1 hr2 ht hs1]
  have ok : ∀ v u, okA g c p v u = true ↔ AtG g c.sure (p.tmod g.wide - u) (p.tdiv g.wide - v) := fun v u => by
    unfold okA inG AtG memB; simp only [Bool.and_eq_true, decide_eq_true_eq]; exact and_assoc
  obtain ⟨⟨hfa, hfb, hfc⟩, hfd, hfe, hff⟩ := hf
  have b1 := come_far (f := c.flow.a) (c := c) (by omega) (by omega) hr1 hr2 ht
  have b2 := come_far (f := c.flow.b) (c := c) (by omega) (by omega) hr1 hr2 ht
  have b3 := come_far (f := c.flow.c) (c := c) (by omega) (by omega) hr1 hr2 ht
  have b4 := come_far (f := c.flow.d) (c := c) (by omega) (by omega) hr1 hr2 ht
  constructor
  · intro k v u hv hu
    exact (ok v u).1 (k v (by omega) (by omega) (lead_iff.2 hv) u (by omega) (by omega) (lead_iff.2 hu))
  · intro k v h1 h2 h3 u h4 h5 h6
    exact (ok v u).2 (k v u (lead_iff.1 h3) (lead_iff.1 h6))
theorem state_some (hf : flowOk c.flow) (hr1 : 0 ≤ c.grow) (hr2 : c.grow ≤ 10000) (ht : 0 ≤ t) (hm1 : memB c.may (-1) = false) : (srcs g c p t).any (memB c.may) = true ↔ ∃ v u, (comeLo c.flow.c c.grow t ≤ v ∧ v ≤ comeHi c.flow.d c.grow t) ∧ (comeLo c.flow.a c.grow t ≤ u ∧ u ≤ comeHi c.flow.b c.grow t) ∧ AtG g c.may (p.tmod g.wide - u) (p.tdiv g.wide - v) := by
  rw [← any_iff hf hr1 hr2 ht hm1]
  have ok : ∀ v u, okM g c p v u = true ↔ AtG g c.may (p.tmod g.wide - u) (p.tdiv g.wide - v) := fun v u => by
    unfold okM inG AtG memB; simp only [Bool.and_eq_true, decide_eq_true_eq]; exact and_assoc
  obtain ⟨⟨hfa, hfb, hfc⟩, hfd, hfe, hff⟩ := hf
  have b1 := come_far (f := c.flow.a) (c := c) (by omega) (by omega) hr1 hr2 ht
  have b2 := come_far (f := c.flow.b) (c := c) (by omega) (by omega) hr1 hr2 ht
  have b3 := come_far (f := c.flow.c) (c := c) (by omega) (by omega) hr1 hr2 ht
  have b4 := come_far (f := c.flow.d) (c := c) (by omega) (by omega) hr1 hr2 ht
  constructor
  · rintro ⟨v, h1, h2, h3, u, h4, h5, h6, h7⟩
    exact ⟨v, u, lead_iff.1 h3, lead_iff.1 h6, (ok v u).1 h7⟩
  · rintro ⟨v, u, hv, hu, h⟩
    exact ⟨v, by omega, by omega, lead_iff.2 hv, u, by omega, by omega, lead_iff.2 hu, (ok v u).2 h⟩
end
section
variable {g : Grid} {c : Cloud} {p t vx vy u v e : Int}
theorem come_in {px lo hi grow : Int} (h1 : lo ≤ v) (h2 : v ≤ hi) (ht : 0 ≤ t) (he : e ≤ grow * t) (h3 : u * 1000000 < px * 1000000 - v * t + 1000000 + e) (h4 : px * 1000000 - v * t - e < (u + 1) * 1000000) : comeLo lo grow t ≤ px - u ∧ px - u ≤ comeHi hi grow t := by
  have m1 : lo * t ≤ v * t := Int.mul_le_mul_of_nonneg_right h1 ht
  have m2 : v * t ≤ hi * t := Int.mul_le_mul_of_nonneg_right h2 ht
  refine lead_iff.1 ?_
  unfold leadB
  simp only [Bool.and_eq_true, decide_eq_true_eq, Int.sub_mul, Int.add_mul]
  generalize lo * t = a1 at *
  generalize hi * t = a2 at *
  generalize grow * t = a3 at *
  generalize v * t = a4 at *
  omega

/-- A pixel whose place then is met by what comes with some rush. -/
def Meets (g : Grid) (p t vx vy u v : Int) : Prop := (u * 1000000 < p.tmod g.wide * 1000000 - vx * t + 1000000 ∧ p.tmod g.wide * 1000000 - vx * t < (u + 1) * 1000000) ∧ (v * 1000000 < p.tdiv g.wide * 1000000 - vy * t + 1000000 ∧ p.tdiv g.wide * 1000000 - vy * t < (v + 1) * 1000000)
theorem one_met (hc : cloudE g c = 0) (ht : 0 ≤ t) (hx : c.flow.a ≤ vx ∧ vx ≤ c.flow.b) (hy : c.flow.c ≤ vy ∧ vy ≤ c.flow.d) (h : Meets g p t vx vy u v) (ha : AtG g c.may u v) : stateOf g c p t ≠ 0 := by
  have o := cloudE_ok hc
  have n1 := cloudE_neg hc
  have hg0 := Int.mul_nonneg o.2.1 ht
  obtain ⟨⟨r1, r2⟩, r3, r4⟩ := h
  have s := (state_some (g := g) (c := c) (p := p) o.1 o.2.1 o.2.2 ht n1.2).2 ⟨p.tdiv g.wide - v, p.tmod g.wide - u, come_in (e := 0) hy.1 hy.2 ht hg0 (by omega) (by omega), come_in (e := 0) hx.1 hx.2 ht hg0 (by omega) (by omega), by
    rw [show p.tmod g.wide - (p.tmod g.wide - u) = u by omega, show p.tdiv g.wide - (p.tdiv g.wide - v) = v by omega]
    exact ha⟩
  unfold stateOf
  by_cases q : (srcs g c p t).all (memB c.sure) = true
  · rw [if_pos q]; decide
  · rw [if_neg q, if_pos s]; decide
theorem one_whole (hc : cloudE g c = 0) (ht : 0 ≤ t) (hx : c.flow.a ≤ vx ∧ vx ≤ c.flow.b) (hy : c.flow.c ≤ vy ∧ vy ≤ c.flow.d) (h : Meets g p t vx vy u v) (h2 : stateOf g c p t = 2) : AtG g c.sure u v := by
  have o := cloudE_ok hc
  have n1 := cloudE_neg hc
  have hg0 := Int.mul_nonneg o.2.1 ht
  obtain ⟨⟨r1, r2⟩, r3, r4⟩ := h
  have s := (state_all (g := g) (c := c) (p := p) o.1 o.2.1 o.2.2 ht n1.1).1 h2 (p.tdiv g.wide - v) (p.tmod g.wide - u) (come_in (e := 0) hy.1 hy.2 ht hg0 (by omega) (by omega)) (come_in (e := 0) hx.1 hx.2 ht hg0 (by omega) (by omega))
  rw [show p.tmod g.wide - (p.tmod g.wide - u) = u by omega, show p.tdiv g.wide - (p.tdiv g.wide - v) = v by omega] at s
  exact s
end
end Go.Proofs.Ytdjflomhaljljaa

namespace Go.Proofs.Ytdjflomhaljljaa
open Go.SL Go.Proofs Go.Cast
set_option linter.unusedVariables false

theorem N46 : (Try.prog.info? 46).map (·.size) = some 1 := by kernel_rfl


def boV (b : Bool) : Value := .bool b
theorem bo_at {al : List Bool} {p : Nat} (h : p < al.length) : ∃ r, (al.map boV).toArray.toList.drop p = [.bool (al.getD p false)] ++ r := by
  show ∃ r, (al.map boV).drop p = _
  rw [← List.map_drop, List.drop_eq_getElem_cons h]
  refine ⟨(al.drop (p + 1)).map boV, ?_⟩
  have e : al.getD p false = al[p] := by rw [List.getD_eq_getElem?_getD, List.getElem?_eq_getElem h]; rfl
  rw [e]; rfl
/-- What the two answers of 'truth' have to do with a state. -/
def TrI (c : Cloud) (p t : Int) (pa wh : Bool) : Prop := (pa = true → stateOf gD c p t ≠ 0) ∧ (stateOf gD c p t = 2 → wh = true)
def InI (c : Cloud) (u v : Int) (b : Bool) (i : Nat) : Prop := (b = true → AtG gD c.may u v) ∧ (AtG gD c.sure u v → v * 5 + u ∈ c.may.take i → b = true)
theorem tr_0 {c : Cloud} {p t : Int} : TrI c p t false true := ⟨fun h => (by cases h), fun _ => rfl⟩
theorem in_0 {c : Cloud} {u v : Int} : InI c u v false 0 := ⟨fun h => (by cases h), fun _ h => by cases h⟩
theorem in_skip {c : Cloud} {u v q : Int} {b : Bool} {i : Nat} (h : InI c u v b i) (hq : c.may[i]? = some q) (k : (((¬ q = v * 5 + u ∨ u < 0) ∨ 4 < u) ∨ v < 0) ∨ 3 < v) : InI c u v b (i + 1) := by
  refine ⟨h.1, fun ha hm => ?_⟩
  rw [take_at hq] at hm
  rcases List.mem_append.1 hm with r | r
  · exact h.2 ha r
  · have e := List.mem_singleton.1 r
    obtain ⟨⟨a1, a2⟩, ⟨a3, a4⟩, _⟩ := ha
    unfold gD at a2 a4
    dsimp only at a2 a4
    omega
theorem in_at {c : Cloud} {u v q : Int} {b b2 : Bool} {i : Nat} (h : InI c u v b i) (hq : c.may[i]? = some q) (k : ¬ ((((¬ q = v * 5 + u ∨ u < 0) ∨ 4 < u) ∨ v < 0) ∨ 3 < v)) (h2 : q ∈ c.sure → b2 = true) : InI c u v b2 (i + 1) := by
  have hu : AtG gD c.may u v := ⟨⟨by omega, by show u ≤ 4; omega⟩, ⟨by omega, by show v ≤ 3; omega⟩, by
    show v * 5 + u ∈ c.may
    rw [show v * 5 + u = q by omega]; exact List.mem_of_getElem? hq⟩
  refine ⟨fun _ => hu, fun ha hm => h2 ?_⟩
  have z := ha.2.2
  change v * 5 + u ∈ c.sure at z
  rw [show q = v * 5 + u by omega]; exact z
theorem tr_step {c : Cloud} {p t vx vy u v X Y : Int} {pa wh b : Bool} {i : Nat} (h : TrI c p t pa wh) (hc : cloudE gD c = 0) (ht : 0 ≤ t) (hx : c.flow.a ≤ vx ∧ vx ≤ c.flow.b) (hy : c.flow.c ≤ vy ∧ vy ≤ c.flow.d) (hX : X = p.tmod 5 * 1000000 - vx * t) (hY : Y = p.tdiv 5 * 1000000 - vy * t)
    (k : ¬ (((X + 1000000 ≤ u * 1000000 ∨ (u + 1) * 1000000 ≤ X) ∨ Y + 1000000 ≤ v * 1000000) ∨ (v + 1) * 1000000 ≤ Y)) (hI : InI c u v b i) (hi : c.may.length ≤ i) : TrI c p t (pa || b) (wh && b) := by
  have hm : Meets gD p t vx vy u v := by
    unfold Meets
    show (u * 1000000 < p.tmod 5 * 1000000 - vx * t + 1000000 ∧ p.tmod 5 * 1000000 - vx * t < (u + 1) * 1000000) ∧ (v * 1000000 < p.tdiv 5 * 1000000 - vy * t + 1000000 ∧ p.tdiv 5 * 1000000 - vy * t < (v + 1) * 1000000)
    rw [← hX, ← hY]; omega
  constructor
  · intro e
    cases pa with
    | true => exact h.1 rfl
    | false => exact one_met hc ht hx hy hm (hI.1 (by simpa using e))
  · intro e
    have z := one_whole hc ht hx hy hm e
    have z2 : v * 5 + u ∈ c.sure := z.2.2
    rw [h.2 e, hI.2 z (by rw [List.take_of_length_le hi]; exact (sure_may hc).1 _ z2)]; rfl
theorem su_step {c : Cloud} {q s : Int} {k : Nat} {b : Bool} (h : q ∈ c.sure.take k → b = true) (hs : c.sure[k]? = some s) : q ∈ c.sure.take (k + 1) → (b || decide (s = q)) = true := by
  intro hm
  rw [take_at hs] at hm
  rcases List.mem_append.1 hm with r | r
  · rw [h r]; rfl
  · rw [List.mem_singleton.1 r]; simp
theorem vt3 {v t : Int} (h1 : -100000 ≤ v) (h2 : v ≤ 100000) (h3 : 0 ≤ t) (h4 : t ≤ 300) : -30000000 ≤ v * t ∧ v * t ≤ 30000000 := by
  have a : v * t ≤ 100000 * t := Int.mul_le_mul_of_nonneg_right h2 h3
  have b : -100000 * t ≤ v * t := Int.mul_le_mul_of_nonneg_right h1 h3
  omega
theorem pk3 {a b n : Int} (h : a ≤ b) (hn : 0 ≤ n) : a ≤ a + n.tmod (b - a + 1) ∧ a + n.tmod (b - a + 1) ≤ b := by
  have z := tm hn (show 0 < b - a + 1 by omega)
  omega

set_option maxRecDepth 20000 in
set_option maxHeartbeats 4000000 in
theorem truth_c (x : CP) (p t : Int) (al : List Bool) (r0 r1 : Int) (w : World) (hc : cloudE gD x.c = 0) (hp : 0 ≤ p ∧ p < 20) (ht : 0 ≤ t ∧ t ≤ 300) (hal : al.length = 20) (h0 : 0 ≤ r0 ∧ r0 ≤ 65535) (h1 : 0 ≤ r1 ∧ r1 ≤ 65535) (hs : Ints w x.ps x.c.sure) (hm : Ints w x.pm x.c.may) (hsl : x.c.sure.length < 1000000) (hml : x.c.may.length < 1000000) :
  Calls Try.prog 29 #[.agg x.cells.toArray, .int .i64 p, .int .i64 t, .agg (al.map boV).toArray, .agg #[.int .u16 r0, .int .u16 r1]] w fun e w' => ∃ z : Bool × Bool, TrI x.c p t z.1 z.2 ∧ e = .returned (.tuple #[.bool z.1, .bool z.2]) ∧ St (bs w) [] w' := by
  have hcl := cloudE_ok hc
  obtain ⟨hfl, _, _⟩ := hcl
  obtain ⟨⟨hfa, hfb, hfc⟩, hfd, hfe, hff⟩ := hfl
  have hmay := (sure_may hc).2
  have hvx := pk3 (a := x.c.flow.a) (b := x.c.flow.b) (by omega) h0.1
  have hvy := pk3 (a := x.c.flow.c) (b := x.c.flow.d) (by omega) h1.1
  obtain ⟨vx, hVx⟩ : ∃ v, v = x.c.flow.a + r0.tmod (x.c.flow.b - x.c.flow.a + 1) := ⟨_, rfl⟩
  obtain ⟨vy, hVy⟩ : ∃ v, v = x.c.flow.c + r1.tmod (x.c.flow.d - x.c.flow.c + 1) := ⟨_, rfl⟩
  have hb1 := vt3 (v := vx) (t := t) (by omega) (by omega) ht.1 ht.2
  have hb2 := vt3 (v := vy) (t := t) (by omega) (by omega) ht.1 ht.2
  have hm1 := tm h0.1 (show 0 < x.c.flow.b - x.c.flow.a + 1 by omega)
  have hm2 := tm h1.1 (show 0 < x.c.flow.d - x.c.flow.c + 1 by omega)
  have hp1 := tm hp.1 (show (0 : Int) < 5 by decide)
  have hp2 : 0 ≤ p.tdiv 5 ∧ p.tdiv 5 ≤ 3 := by rw [Int.tdiv_eq_ediv_of_nonneg hp.1]; omega
  obtain ⟨X, hX⟩ : ∃ v, v = p.tmod 5 * 1000000 - vx * t := ⟨_, rfl⟩
  obtain ⟨Y, hY⟩ : ∃ v, v = p.tdiv 5 * 1000000 - vy * t := ⟨_, rfl⟩
  have hXb : -40000000 ≤ X ∧ X ≤ 40000000 := by omega
  have hYb : -40000000 ≤ Y ∧ Y ≤ 40000000 := by omega
  rw [← hVx] at hvx
  rw [← hVy] at hvy
  refine enter (vs := [_, _, _, _, _]) (env := [(0, _), (1, _), (2, _), (3, _), (4, _)]) Try.func29 rfl rfl rfl rfl ?_
  refine VC.seq ?_
  refine VC.reg (VO.h rfl <| HO.box (C := #[_, _, _, _, _, _, _]) rfl rfl fun b1 => VO.h rfl <| HO.box (C := (al.map boV).toArray) rfl rfl fun b2 => VO.h rfl <| HO.box (C := #[_, _]) rfl rfl fun b3 => VO.l (LO.as (.r rfl)) rfl <| VO.l (LO.as (.r rfl)) rfl <| VO.nil ?_)
  refine VE.seqN ?_
  refine VC.seq ?_
  refine VC.draw mixed (LL.l (LO.fa (r := 2) F80_2 (.r rfl) rfl) rfl <| LL.l (LO.fa (r := 2) F78_0 (.r rfl) rfl) rfl <| LL.l (LO.fa (r := 2) F76_0 (.r rfl) rfl) rfl <| LL.l (LO.ld O3 (.r rfl) (fun _ hw => cells_at hw 2 rfl ⟨_, rfl⟩)) rfl <| LL.l (LO.ixa (j := 0) (r := 0) Try.underlying87 N46 (.r rfl) (.r rfl) rfl (by decide) rfl) rfl <| LL.l (LO.ld O46 (.r rfl) (fun _ hw => cells_at hw 0 rfl ⟨_, rfl⟩)) rfl <| LL.l (LO.cv ⟨_, Try.underlying46⟩ Try.underlying3 (.r rfl) (wi (by omega) (by omega))) rfl <| LL.l (LO.fa (r := 2) F80_2 (.r rfl) rfl) rfl <| LL.l (LO.fa (r := 2) F78_0 (.r rfl) rfl) rfl <| LL.l (LO.fa (r := 3) F76_1 (.r rfl) rfl) rfl <| LL.l (LO.ld O3 (.r rfl) (fun _ hw => cells_at hw 2 rfl ⟨_, rfl⟩)) rfl <| LL.l (LO.fa (r := 2) F80_2 (.r rfl) rfl) rfl <| LL.l (LO.fa (r := 2) F78_0 (.r rfl) rfl) rfl <| LL.l (LO.fa (r := 2) F76_0 (.r rfl) rfl) rfl <| LL.l (LO.ld O3 (.r rfl) (fun _ hw => cells_at hw 2 rfl ⟨_, rfl⟩)) rfl <| LL.l (LO.sub (.r rfl) (.r rfl) (wi (by omega) (by omega))) rfl <| LL.l (LO.add (.r rfl) (.r rfl) (wi (by omega) (by omega))) rfl <| LL.l (LO.rem (.r rfl) (.r rfl) (by omega)) rfl <| LL.l (LO.add (.r rfl) (.r rfl) ((wi (by omega) (by omega)).trans hVx.symm)) rfl <| LL.l (LO.fa (r := 2) F80_2 (.r rfl) rfl) rfl <| LL.l (LO.fa (r := 4) F78_1 (.r rfl) rfl) rfl <| LL.l (LO.fa (r := 4) F76_0 (.r rfl) rfl) rfl <| LL.l (LO.ld O3 (.r rfl) (fun _ hw => cells_at hw 2 rfl ⟨_, rfl⟩)) rfl <| LL.l (LO.ixa (j := 1) (r := 1) Try.underlying87 N46 (.r rfl) (.r rfl) rfl (by decide) rfl) rfl <| LL.l (LO.ld O46 (.r rfl) (fun _ hw => cells_at hw 0 rfl ⟨_, rfl⟩)) rfl <| LL.l (LO.cv ⟨_, Try.underlying46⟩ Try.underlying3 (.r rfl) (wi (by omega) (by omega))) rfl <| LL.l (LO.fa (r := 2) F80_2 (.r rfl) rfl) rfl <| LL.l (LO.fa (r := 4) F78_1 (.r rfl) rfl) rfl <| LL.l (LO.fa (r := 5) F76_1 (.r rfl) rfl) rfl <| LL.l (LO.ld O3 (.r rfl) (fun _ hw => cells_at hw 2 rfl ⟨_, rfl⟩)) rfl <| LL.l (LO.fa (r := 2) F80_2 (.r rfl) rfl) rfl <| LL.l (LO.fa (r := 4) F78_1 (.r rfl) rfl) rfl <| LL.l (LO.fa (r := 4) F76_0 (.r rfl) rfl) rfl <| LL.l (LO.ld O3 (.r rfl) (fun _ hw => cells_at hw 2 rfl ⟨_, rfl⟩)) rfl <| LL.l (LO.sub (.r rfl) (.r rfl) (wi (by omega) (by omega))) rfl <| LL.l (LO.add (.r rfl) (.r rfl) (wi (by omega) (by omega))) rfl <| LL.l (LO.rem (.r rfl) (.r rfl) (by omega)) rfl <| LL.l (LO.add (.r rfl) (.r rfl) ((wi (by omega) (by omega)).trans hVy.symm)) rfl <| LL.l (LO.as (.r rfl)) rfl <| LL.l (LO.as (.r rfl)) rfl <| LL.nil) (by kernel_rfl) ?_
  refine VE.seqN ?_
  refine VC.seq ?_
  refine VC.reg (VO.l (LO.mv (.r rfl)) rfl <| VO.l (LO.rem (.r rfl) (.r rfl) (by omega)) rfl <| VO.l (LO.mul (.r rfl) (.r rfl) (wi (by omega) (by omega))) rfl <| VO.l (LO.mv (.r rfl)) rfl <| VO.l (LO.mv (.r rfl)) rfl <| VO.l (LO.mul (.r rfl) (.r rfl) (wi (by omega) (by omega))) rfl <| VO.l (LO.sub (.r rfl) (.r rfl) ((wi (by omega) (by omega)).trans hX.symm)) rfl <| VO.l (LO.mv (.r rfl)) rfl <| VO.l (LO.quo (.r rfl) (.r rfl) (by omega) (wi (by omega) (by omega))) rfl <| VO.l (LO.mul (.r rfl) (.r rfl) (wi (by omega) (by omega))) rfl <| VO.l (LO.mv (.r rfl)) rfl <| VO.l (LO.mv (.r rfl)) rfl <| VO.l (LO.mul (.r rfl) (.r rfl) (wi (by omega) (by omega))) rfl <| VO.l (LO.sub (.r rfl) (.r rfl) ((wi (by omega) (by omega)).trans hY.symm)) rfl <| VO.l (LO.as (.r rfl)) rfl <| VO.l (LO.as (.r rfl)) rfl <| VO.nil ?_)
  refine VE.seqN ?_
  refine VC.seq ?_
  refine VC.reg (VO.l (LO.as (.r rfl)) rfl <| VO.l (LO.as (.r rfl)) rfl <| VO.nil ?_)
  refine VE.seqN ?_
  refine VC.seq ?_
  refine VC.seq ?_
  refine VC.reg (VO.l (LO.as (.r rfl)) rfl <| VO.nil ?_)
  refine VE.seqN ?_
  refine VC.block ?_
  refine VC.loopK (α := Int × Bool × Bool) 0 (fun gx => [(16, .bool gx.2.1), (17, .bool gx.2.2), (18, .int .i64 gx.1)]) [(5, _), (8, _), (14, _), (15, _)] (fun gx => []) (fun gx => (-10 ≤ gx.1 ∧ gx.1 ≤ 21) ∧ TrI x.c p t gx.2.1 gx.2.2) (fun gx => (21 - gx.1).toNat) (-10, false, true) (by exact ⟨by decide, tr_0⟩) (.cons rfl (.cons rfl (.cons rfl (.cons rfl (.cons rfl (.cons rfl (.cons rfl .nil))))))) (fun _ h => h) ?_
  rintro ⟨v, pa, wh⟩ ⟨hv, hT⟩
  show VC _ _ _ _ _ ([(16, .bool pa), (17, .bool wh), (18, .int .i64 v)] ++ _) ([] ++ _) _ _
  dsimp only at hv hT
  refine VC.seq ?_
  refine VC.seq ?_
  refine VC.reg (VO.l (LO.mv (.r rfl)) rfl <| VO.l (LO.le (.r rfl) (.r rfl)) rfl <| VO.nil ?_)
  refine VE.seqN ?_
  refine VC.cond rfl (fun h1 => ?_) (fun h1 => ?_)
  ·
    refine VC.skip (VE.seqN ?_)
    refine VC.seq ?_
    refine VC.block ?_
    refine VC.seq ?_
    refine VC.reg (VO.l (LO.as (.r rfl)) rfl <| VO.nil ?_)
    refine VE.seqN ?_
    refine VC.block ?_
    refine VC.loopK (α := Int × Bool × Bool) 0 (fun gx => [(16, .bool gx.2.1), (17, .bool gx.2.2), (19, .int .i64 gx.1)]) [(5, _), (8, _), (14, _), (15, _), (18, _)] (fun gx => []) (fun gx => (-10 ≤ gx.1 ∧ gx.1 ≤ 21) ∧ TrI x.c p t gx.2.1 gx.2.2) (fun gx => (21 - gx.1).toNat) (-10, pa, wh) (by exact ⟨by dsimp only; omega, hT⟩) (.cons rfl (.cons rfl (.cons rfl (.cons rfl (.cons rfl (.cons rfl (.cons rfl (.cons rfl .nil)))))))) (fun _ h => h) ?_
    rintro ⟨u, pa, wh⟩ ⟨hu, hT⟩
    show VC _ _ _ _ _ ([(16, .bool pa), (17, .bool wh), (19, .int .i64 u)] ++ _) ([] ++ _) _ _
    dsimp only at hu hT
    refine VC.seq ?_
    refine VC.seq ?_
    refine VC.reg (VO.l (LO.mv (.r rfl)) rfl <| VO.l (LO.le (.r rfl) (.r rfl)) rfl <| VO.nil ?_)
    refine VE.seqN ?_
    refine VC.cond rfl (fun h2 => ?_) (fun h2 => ?_)
    ·
      refine VC.skip (VE.seqN ?_)
      refine VC.seq ?_
      refine VC.block ?_
      refine VC.seq ?_
      refine VC.seq ?_
      refine VC.reg (VO.l (LO.mv (.r rfl)) rfl <| VO.l (LO.mul (.r rfl) (.r rfl) (wi (by omega) (by omega))) rfl <| VO.l (LO.mv (.r rfl)) rfl <| VO.l (LO.add (.r rfl) (.r rfl) (wi (by omega) (by omega))) rfl <| VO.l (LO.ge (.r rfl) (.r rfl)) rfl <| VO.l (LO.mv (.r rfl)) rfl <| VO.lg rfl rfl (GD.f _) (fun hg => LO.mv (.r rfl)) rfl <| VO.lg rfl rfl (GD.f _) (fun hg => LO.add (.g hg rfl) (.r rfl) (wi (by omega) (by omega))) rfl <| VO.lg rfl rfl (GD.f _) (fun hg => LO.mul (.g hg rfl) (.r rfl) (wi (by omega) (by omega))) rfl <| VO.lg rfl rfl (GD.f _) (fun hg => LO.mv (.r rfl)) rfl <| VO.lg rfl rfl (GD.f _) (fun hg => LO.le (.g hg rfl) (.g hg rfl)) rfl <| VO.l (LO.pkO (.r rfl) (.r rfl) rfl rfl) rfl <| VO.l (LO.mv (.r rfl)) rfl <| VO.lg rfl rfl (GD.f _) (fun hg => LO.mv (.r rfl)) rfl <| VO.lg rfl rfl (GD.f _) (fun hg => LO.mul (.g hg rfl) (.r rfl) (wi (by omega) (by omega))) rfl <| VO.lg rfl rfl (GD.f _) (fun hg => LO.mv (.r rfl)) rfl <| VO.lg rfl rfl (GD.f _) (fun hg => LO.add (.g hg rfl) (.r rfl) (wi (by omega) (by omega))) rfl <| VO.lg rfl rfl (GD.f _) (fun hg => LO.ge (.g hg rfl) (.g hg rfl)) rfl <| VO.l (LO.pkO (.r rfl) (.r rfl) rfl rfl) rfl <| VO.l (LO.mv (.r rfl)) rfl <| VO.lg rfl rfl (GD.f _) (fun hg => LO.mv (.r rfl)) rfl <| VO.lg rfl rfl (GD.f _) (fun hg => LO.add (.g hg rfl) (.r rfl) (wi (by omega) (by omega))) rfl <| VO.lg rfl rfl (GD.f _) (fun hg => LO.mul (.g hg rfl) (.r rfl) (wi (by omega) (by omega))) rfl <| VO.lg rfl rfl (GD.f _) (fun hg => LO.mv (.r rfl)) rfl <| VO.lg rfl rfl (GD.f _) (fun hg => LO.le (.g hg rfl) (.g hg rfl)) rfl <| VO.l (LO.pkO (.r rfl) (.r rfl) rfl rfl) rfl <| VO.nil ?_)
      refine VE.seqN ?_
      refine VC.cond rfl (fun h109 => ?_) (fun h109 => ?_)
      ·
        refine VC.exit (VE.thenX (VE.inX (VE.seqN ?_)))
        refine VC.reg (VO.l (LO.mv (.r rfl)) rfl <| VO.l (LO.add (.r rfl) (.r rfl) (wi (by omega) (by omega))) rfl <| VO.l (LO.as (.r rfl)) rfl <| VO.nil ?_)
        refine VE.thenN fun a w ha hw => ⟨(u + 1, pa, wh), ⟨by dsimp only; omega, hT⟩, (by dsimp only; omega), ha.sub (.cons rfl (.cons rfl (.cons rfl (.cons rfl (.cons rfl (.cons rfl (.cons rfl (.cons rfl .nil)))))))), hw⟩
      ·
        refine VC.skip (VE.seqN ?_)
        refine VC.seq ?_
        refine VC.reg (VO.l (LO.as (.r rfl)) rfl <| VO.nil ?_)
        refine VE.seqN ?_
        refine VC.seq ?_
        refine VC.seq ?_
        refine VC.reg (VO.l (LO.as (.r rfl)) rfl <| VO.nil ?_)
        refine VE.seqN ?_
        refine VC.block ?_
        refine VC.loopK (α := Nat × Bool) 0 (fun gx => [(20, .bool gx.2), (21, .int .i64 (gx.1 : Nat))]) [(5, _), (8, _), (14, _), (15, _), (16, _), (17, _), (18, _), (19, _)] (fun gx => []) (fun gx => gx.1 ≤ x.c.may.length ∧ InI x.c u v gx.2 gx.1) (fun gx => x.c.may.length - gx.1) (0, false) (by exact ⟨Nat.zero_le _, in_0⟩) (.cons rfl (.cons rfl (.cons rfl (.cons rfl (.cons rfl (.cons rfl (.cons rfl (.cons rfl (.cons rfl (.cons rfl .nil)))))))))) (fun _ h => h) ?_
        rintro ⟨i, inb⟩ ⟨hi, hI⟩
        show VC _ _ _ _ _ ([(20, .bool inb), (21, .int .i64 (i : Nat))] ++ _) ([] ++ _) _ _
        dsimp only at hi hI
        refine VC.seq ?_
        refine VC.seq ?_
        refine VC.reg (VO.l (LO.mv (.r rfl)) rfl <| VO.l (LO.fa (r := 1) F80_1 (.r rfl) rfl) rfl <| VO.l (LO.ld O55 (.r rfl) (fun _ hw => cells_at hw 2 rfl ⟨_, rfl⟩)) rfl <| VO.l (LO.len S55 (.r rfl) rfl) rfl <| VO.l (LO.lt (.r rfl) (.r rfl)) rfl <| VO.nil ?_)
        refine VE.seqN ?_
        refine VC.cond rfl (fun h114 => ?_) (fun h114 => ?_)
        ·
          obtain ⟨q, hq⟩ : ∃ q, x.c.may[i]? = some q := ⟨_, List.getElem?_eq_getElem (by omega)⟩
          have hqb := hmay q (List.mem_of_getElem? hq)
          change 0 ≤ q ∧ q ≤ 19 at hqb
          refine VC.skip (VE.seqN ?_)
          refine VC.seq ?_
          refine VC.block ?_
          refine VC.seq ?_
          refine VC.reg (VO.l (LO.fa (r := 1) F80_1 (.r rfl) rfl) rfl <| VO.l (LO.ld O55 (.r rfl) (fun _ hw => cells_at hw 2 rfl ⟨_, rfl⟩)) rfl <| VO.l (LO.mv (.r rfl)) rfl <| VO.l (LO.ixs S55 N3 (Go.SL.Rows.some (n := x.c.may.length) hm (by simp)) (.r rfl) (.r rfl) rfl (by omega)) rfl <| VO.l (LO.ld O3 (.r rfl) (fun w hw => cells_part (off := 0) ((fun w2 hw2 => (Go.SL.Rows.keep hm w2 hw2).cells _ _ (by rw [List.getElem?_map, hq]; rfl)) w hw) ⟨_, rfl⟩)) rfl <| VO.l (LO.as (.r rfl)) rfl <| VO.nil ?_)
          refine VE.seqN ?_
          refine VC.seq ?_
          refine VC.seq ?_
          refine VC.reg (VO.l (LO.mv (.r rfl)) rfl <| VO.l (LO.mv (.r rfl)) rfl <| VO.l (LO.mul (.r rfl) (.r rfl) (wi (by omega) (by omega))) rfl <| VO.l (LO.mv (.r rfl)) rfl <| VO.l (LO.add (.r rfl) (.r rfl) (wi (by omega) (by omega))) rfl <| VO.l (LO.ne (.r rfl) (.r rfl)) rfl <| VO.l (LO.mv (.r rfl)) rfl <| VO.lg rfl rfl (GD.f _) (fun hg => LO.mv (.r rfl)) rfl <| VO.lg rfl rfl (GD.f _) (fun hg => LO.lt (.g hg rfl) (.r rfl)) rfl <| VO.l (LO.pkO (.r rfl) (.r rfl) rfl rfl) rfl <| VO.l (LO.mv (.r rfl)) rfl <| VO.lg rfl rfl (GD.f _) (fun hg => LO.mv (.r rfl)) rfl <| VO.lg rfl rfl (GD.f _) (fun hg => LO.gt (.g hg rfl) (.r rfl)) rfl <| VO.l (LO.pkO (.r rfl) (.r rfl) rfl rfl) rfl <| VO.l (LO.mv (.r rfl)) rfl <| VO.lg rfl rfl (GD.f _) (fun hg => LO.mv (.r rfl)) rfl <| VO.lg rfl rfl (GD.f _) (fun hg => LO.lt (.g hg rfl) (.r rfl)) rfl <| VO.l (LO.pkO (.r rfl) (.r rfl) rfl rfl) rfl <| VO.l (LO.mv (.r rfl)) rfl <| VO.lg rfl rfl (GD.f _) (fun hg => LO.mv (.r rfl)) rfl <| VO.lg rfl rfl (GD.f _) (fun hg => LO.gt (.g hg rfl) (.r rfl)) rfl <| VO.l (LO.pkO (.r rfl) (.r rfl) rfl rfl) rfl <| VO.nil ?_)
          refine VE.seqN ?_
          refine VC.cond rfl (fun h143 => ?_) (fun h143 => ?_)
          ·
            refine VC.exit (VE.thenX (VE.inX (VE.seqN ?_)))
            refine VC.reg (VO.l (LO.mv (.r rfl)) rfl <| VO.l (LO.add (.r rfl) (.r rfl) (wi (by omega) (by omega))) rfl <| VO.l (LO.as (.r rfl)) rfl <| VO.nil ?_)
            refine VE.thenN fun a w ha hw => ⟨(i + 1, inb), ⟨by dsimp only; omega, in_skip hI hq h143⟩, (by dsimp only; omega), ha.sub (.cons rfl (.cons rfl (.cons rfl (.cons rfl (.cons rfl (.cons rfl (.cons rfl (.cons rfl (.cons rfl (.cons rfl .nil)))))))))), hw⟩
          ·
            refine VC.skip (VE.seqN ?_)
            refine VC.seq ?_
            refine VC.reg (VO.l (LO.mv (.r rfl)) rfl <| VO.l (LO.ixa (j := q.toNat) (r := q.toNat) Try.underlying86 N4 (.r rfl) (.r rfl) (by omega) (by omega) (by omega)) rfl <| VO.l (LO.ld O4 (.r rfl) (fun _ hw => cells_at hw 1 rfl (bo_at (p := q.toNat) (by omega)))) rfl <| VO.l (LO.as (.r rfl)) rfl <| VO.nil ?_)
            refine VE.seqN ?_
            refine VC.seq ?_
            refine VC.reg (VO.l (LO.as (.r rfl)) rfl <| VO.nil ?_)
            refine VE.seqN ?_
            refine VC.block ?_
            refine VC.loopK (α := Nat × Bool) 0 (fun gx => [(20, .bool gx.2), (23, .int .i64 (gx.1 : Nat))]) [(5, _), (8, _), (14, _), (15, _), (16, _), (17, _), (18, _), (19, _), (21, _), (22, _)] (fun gx => []) (fun gx => gx.1 ≤ x.c.sure.length ∧ (q ∈ x.c.sure.take gx.1 → gx.2 = true)) (fun gx => x.c.sure.length - gx.1) (0, (al.getD q.toNat false)) (by exact ⟨Nat.zero_le _, fun h => by cases h⟩) (.cons rfl (.cons rfl (.cons rfl (.cons rfl (.cons rfl (.cons rfl (.cons rfl (.cons rfl (.cons rfl (.cons rfl (.cons rfl (.cons rfl .nil)))))))))))) (fun _ h => h) ?_
            rintro ⟨k, inb⟩ ⟨hk, hk2⟩
            show VC _ _ _ _ _ ([(20, .bool inb), (23, .int .i64 (k : Nat))] ++ _) ([] ++ _) _ _
            dsimp only at hk hk2
            refine VC.seq ?_
            refine VC.seq ?_
            refine VC.reg (VO.l (LO.mv (.r rfl)) rfl <| VO.l (LO.fa (r := 0) F80_0 (.r rfl) rfl) rfl <| VO.l (LO.ld O55 (.r rfl) (fun _ hw => cells_at hw 2 rfl ⟨_, rfl⟩)) rfl <| VO.l (LO.len S55 (.r rfl) rfl) rfl <| VO.l (LO.lt (.r rfl) (.r rfl)) rfl <| VO.nil ?_)
            refine VE.seqN ?_
            refine VC.cond rfl (fun h151 => ?_) (fun h151 => ?_)
            ·
              obtain ⟨s, hsq⟩ : ∃ s, x.c.sure[k]? = some s := ⟨_, List.getElem?_eq_getElem (by omega)⟩
              refine VC.skip (VE.seqN ?_)
              refine VC.seq ?_
              refine VC.block ?_
              refine VC.reg (VO.l (LO.mv (.r rfl)) rfl <| VO.l (LO.mv (.r rfl)) rfl <| VO.lg rfl rfl (GD.f _) (fun hg => LO.fa (r := 0) F80_0 (.r rfl) rfl) rfl <| VO.lg rfl rfl (GD.f _) (fun hg => LO.ld O55 (.g hg rfl) (fun _ hw => cells_at hw 2 rfl ⟨_, rfl⟩)) rfl <| VO.lg rfl rfl (GD.f _) (fun hg => LO.mv (.r rfl)) rfl <| VO.lg rfl rfl (GD.f _) (fun hg => LO.ixs S55 N3 (Go.SL.Rows.some (n := x.c.sure.length) hs (by simp)) (.g hg rfl) (.g hg rfl) rfl (by omega)) rfl <| VO.lg rfl rfl (GD.f _) (fun hg => LO.ld O3 (.g hg rfl) (fun w hw => cells_part (off := 0) ((fun w2 hw2 => (Go.SL.Rows.keep hs w2 hw2).cells _ _ (by rw [List.getElem?_map, hsq]; rfl)) w hw) ⟨_, rfl⟩)) rfl <| VO.lg rfl rfl (GD.f _) (fun hg => LO.mv (.r rfl)) rfl <| VO.lg rfl rfl (GD.f _) (fun hg => LO.eq (.g hg rfl) (.g hg rfl)) rfl <| VO.l (LO.pkO (.r rfl) (.r rfl) rfl rfl) rfl <| VO.l (LO.as (.r rfl)) rfl <| VO.nil ?_)
              refine VE.inN (VE.seqN ?_)
              refine VC.reg (VO.l (LO.mv (.r rfl)) rfl <| VO.l (LO.add (.r rfl) (.r rfl) (wi (by omega) (by omega))) rfl <| VO.l (LO.as (.r rfl)) rfl <| VO.nil ?_)
              refine VE.thenN fun a w ha hw => ⟨(k + 1, (inb || decide (s = q))), ⟨by dsimp only; omega, su_step hk2 hsq⟩, (by dsimp only; omega), ha.sub (.cons rfl (.cons rfl (.cons rfl (.cons rfl (.cons rfl (.cons rfl (.cons rfl (.cons rfl (.cons rfl (.cons rfl (.cons rfl (.cons rfl .nil)))))))))))), hw⟩
            ·
              refine VC.exit (VE.thenX (VE.thenX (VE.inX (VE.inN (VE.seqN ?_)))))
              refine VC.reg (VO.l (LO.mv (.r rfl)) rfl <| VO.l (LO.add (.r rfl) (.r rfl) (wi (by omega) (by omega))) rfl <| VO.l (LO.as (.r rfl)) rfl <| VO.nil ?_)
              refine VE.thenN fun a w ha hw => ⟨(i + 1, inb), ⟨by dsimp only; omega, in_at hI hq h143 (fun z => hk2 (by rw [List.take_of_length_le (by omega)]; exact z))⟩, (by dsimp only; omega), ha.sub (.cons rfl (.cons rfl (.cons rfl (.cons rfl (.cons rfl (.cons rfl (.cons rfl (.cons rfl (.cons rfl (.cons rfl .nil)))))))))), hw⟩
        ·
          refine VC.exit (VE.thenX (VE.thenX (VE.inX (VE.seqN ?_))))
          refine VC.reg (VO.l (LO.mv (.r rfl)) rfl <| VO.l (LO.mv (.r rfl)) rfl <| VO.lg rfl rfl (GD.f _) (fun hg => LO.mv (.r rfl)) rfl <| VO.l (LO.pkO (.r rfl) (.r rfl) rfl rfl) rfl <| VO.l (LO.mv (.r rfl)) rfl <| VO.l (LO.mv (.r rfl)) rfl <| VO.lg rfl rfl (GD.t _) (fun hg => LO.mv (.r rfl)) rfl <| VO.l (LO.pkA (.r rfl) rfl rfl (.r rfl)) rfl <| VO.l (LO.as (.r rfl)) rfl <| VO.l (LO.as (.r rfl)) rfl <| VO.nil ?_)
          refine VE.inN (VE.seqN ?_)
          refine VC.reg (VO.l (LO.mv (.r rfl)) rfl <| VO.l (LO.add (.r rfl) (.r rfl) (wi (by omega) (by omega))) rfl <| VO.l (LO.as (.r rfl)) rfl <| VO.nil ?_)
          refine VE.thenN fun a w ha hw => ⟨(u + 1, (pa || inb), (wh && inb)), ⟨by dsimp only; omega, tr_step hT hc ht.1 hvx hvy hX hY h109 hI (by omega)⟩, (by dsimp only; omega), ha.sub (.cons rfl (.cons rfl (.cons rfl (.cons rfl (.cons rfl (.cons rfl (.cons rfl (.cons rfl .nil)))))))), hw⟩
    ·
      refine VC.exit (VE.thenX (VE.thenX (VE.inX (VE.inN (VE.seqN ?_)))))
      refine VC.reg (VO.l (LO.mv (.r rfl)) rfl <| VO.l (LO.add (.r rfl) (.r rfl) (wi (by omega) (by omega))) rfl <| VO.l (LO.as (.r rfl)) rfl <| VO.nil ?_)
      refine VE.thenN fun a w ha hw => ⟨(v + 1, pa, wh), ⟨by dsimp only; omega, hT⟩, (by dsimp only; omega), ha.sub (.cons rfl (.cons rfl (.cons rfl (.cons rfl (.cons rfl (.cons rfl (.cons rfl .nil))))))), hw⟩
  ·
    refine VC.exit (VE.thenX (VE.thenX (VE.inX (VE.seqN ?_))))
    refine VC.seq ?_
    refine VC.reg (VO.l (LO.mv (.r rfl)) rfl <| VO.l (LO.mv (.r rfl)) rfl <| VO.l (LO.as (.r rfl)) rfl <| VO.l (LO.as (.r rfl)) rfl <| VO.nil ?_)
    refine VE.seqN ?_
    refine VC.ret (VE.res (vs := [_, _]) rfl ⟨rfl, rfl, trivial⟩ (fun w hw => ?_))
    exact ⟨(pa, wh), hT, rfl, hw.nil⟩

end Go.Proofs.Ytdjflomhaljljaa

namespace Go.Proofs.Ytdjflomhaljljaa
open Go.SL Go.Proofs Go.Cast
set_option linter.unusedVariables false

/-- What a threat is, by the states of its pixels: the level. -/
def ThG (ls : List (List Int)) (pix : List Int) (v : Int) (n k : Nat) : Prop := ∀ m j, (m < n ∧ j < pix.length) ∨ (m = n ∧ j < k) → (ls.getD m []).getD (pix.getD j 0).toNat 0 ≤ v
def ThA (ls : List (List Int)) (pix : List Int) (b : Int) (t : Thr) (n k : Nat) : Prop := (t.lv = 0 ∧ t.ld = -1 ∧ t.px = -1) ∨ (0 < t.lv ∧ ∃ m j : Nat, ((m < n ∧ j < pix.length) ∨ (m = n ∧ j < k)) ∧ t.ld = m * b ∧ t.px = pix.getD j 0 ∧ t.lv = (ls.getD m []).getD t.px.toNat 0)
theorem thP_all {ls : List (List Int)} {pix : List Int} {b : Int} {n : Nat} {a : Thr} (h : ThG ls pix a.lv n 0 ∧ ThA ls pix b a n 0 ∧ 0 ≤ a.lv) : ∀ k, k ≤ pix.length → ThG ls pix (thrP (ls.getD n []) (n * b) pix a k).lv n k ∧ ThA ls pix b (thrP (ls.getD n []) (n * b) pix a k) n k ∧ 0 ≤ (thrP (ls.getD n []) (n * b) pix a k).lv
  | 0, _ => h
  | k + 1, hk => by
    obtain ⟨h1, h2, h3⟩ := thP_all h k (by omega)
    unfold thrP
    generalize thrP (ls.getD n []) (n * b) pix a k = t at *
    by_cases q : t.lv < (ls.getD n []).getD (pix.getD k 0).toNat 0
    · rw [if_pos q]
      refine ⟨fun m j hmj => ?_, .inr ⟨by show 0 < (ls.getD n []).getD (pix.getD k 0).toNat 0; omega, n, k, .inr ⟨rfl, by omega⟩, rfl, rfl, rfl⟩, by show 0 ≤ (ls.getD n []).getD (pix.getD k 0).toNat 0; omega⟩
      show _ ≤ (ls.getD n []).getD (pix.getD k 0).toNat 0
      rcases hmj with z | ⟨rfl, z⟩
      · have := h1 m j (.inl z); omega
      · rcases Nat.lt_or_ge j k with y | y
        · have := h1 m j (.inr ⟨rfl, y⟩); omega
        · rw [show j = k by omega]; exact Int.le_refl _
    · rw [if_neg q]
      refine ⟨fun m j hmj => ?_, ?_, h3⟩
      · rcases hmj with z | ⟨rfl, z⟩
        · exact h1 m j (.inl z)
        · rcases Nat.lt_or_ge j k with y | y
          · exact h1 m j (.inr ⟨rfl, y⟩)
          · rw [show j = k by omega]; omega
      · rcases h2 with z | ⟨z, m, j, hmj, r⟩
        · exact .inl z
        · refine .inr ⟨z, m, j, ?_, r⟩
          rcases hmj with y | ⟨y, y2⟩
          · exact .inl y
          · exact .inr ⟨y, by omega⟩
theorem thL_all {ls : List (List Int)} {pix : List Int} {b : Int} : ∀ n, ThG ls pix (thrL ls pix b n).lv n 0 ∧ ThA ls pix b (thrL ls pix b n) n 0 ∧ 0 ≤ (thrL ls pix b n).lv
  | 0 => ⟨fun m j h => (by omega), .inl ⟨rfl, rfl, rfl⟩, Int.le_refl _⟩
  | n + 1 => by
    obtain ⟨h1, h2, h3⟩ := thP_all (thL_all (ls := ls) (pix := pix) (b := b) n) pix.length (Nat.le_refl _)
    unfold thrL
    refine ⟨fun m j h => ?_, ?_, h3⟩
    · refine h1 m j ?_
      rcases h with ⟨h, k⟩ | ⟨_, h⟩
      · rcases Nat.lt_or_ge m n with y | y
        · exact .inl ⟨y, k⟩
        · exact .inr ⟨by omega, k⟩
      · omega
    · rcases h2 with z | ⟨z, m, j, hmj, r⟩
      · exact .inl z
      · refine .inr ⟨z, m, j, .inl ?_, r⟩
        rcases hmj with y | ⟨y, y2⟩
        · exact ⟨by omega, y.2⟩
        · exact ⟨by omega, y2⟩
theorem thr_ge {ls : List (List Int)} {pix : List Int} {b : Int} {m j : Nat} (hm : m < ls.length) (hj : j < pix.length) : (ls.getD m []).getD (pix.getD j 0).toNat 0 ≤ (thr ls pix b).lv := (thL_all ls.length).1 m j (.inl ⟨hm, hj⟩)
theorem thr_att {ls : List (List Int)} {pix : List Int} {b : Int} : ((thr ls pix b).lv = 0 ∧ (thr ls pix b).ld = -1 ∧ (thr ls pix b).px = -1) ∨ (0 < (thr ls pix b).lv ∧ ∃ m j : Nat, m < ls.length ∧ j < pix.length ∧ (thr ls pix b).ld = m * b ∧ (thr ls pix b).px = pix.getD j 0 ∧ (thr ls pix b).lv = (ls.getD m []).getD (thr ls pix b).px.toNat 0) := by
  rcases (thL_all (ls := ls) (pix := pix) (b := b) ls.length).2.1 with z | ⟨z, m, j, hmj, r⟩
  · exact .inl z
  · refine .inr ⟨z, m, j, ?_, ?_, r⟩
    · omega
    · omega
theorem fold_ge {f : Cloud → Int} : ∀ (l : List Cloud) (m : Int), m ≤ l.foldl (fun m c => max m (f c)) m
  | [], m => Int.le_refl _
  | x :: l, m => by have := fold_ge (f := f) l (max m (f x)); simp only [List.foldl_cons]; omega
theorem fold_mem {f : Cloud → Int} : ∀ (l : List Cloud) (m : Int) {x : Cloud}, x ∈ l → f x ≤ l.foldl (fun m c => max m (f c)) m
  | y :: l, m, x, h => by
    rcases List.mem_cons.1 h with rfl | q
    · have := fold_ge (f := f) l (max m (f x)); simp only [List.foldl_cons]; omega
    · exact fold_mem l _ q
theorem fold_att {f : Cloud → Int} : ∀ (l : List Cloud) (m : Int), l.foldl (fun m c => max m (f c)) m = m ∨ ∃ x, x ∈ l ∧ f x = l.foldl (fun m c => max m (f c)) m
  | [], m => .inl rfl
  | x :: l, m => by
    rcases fold_att (f := f) l (max m (f x)) with h | ⟨y, h, k⟩
    · simp only [List.foldl_cons]
      rw [h]
      rcases Int.le_total m (f x) with q | q
      · exact .inr ⟨x, by simp, by omega⟩
      · exact .inl (by omega)
    · exact .inr ⟨y, by simp [h], k⟩
section
variable {l : List Cloud} {a b : Int} {m : Nat}
theorem stateAll_ge {g : Grid} {t p : Int} {c : Cloud} (h : c ∈ l) : stateOf g c p t ≤ stateAll g l t p := fold_mem l 0 h
theorem stateAll_att {g : Grid} {t p : Int} (h : stateAll g l t p ≠ 0) : ∃ c, c ∈ l ∧ stateOf g c p t = stateAll g l t p := by
  rcases fold_att (f := fun c => stateOf g c p t) l 0 with q | q
  · exact absurd q h
  · exact q
theorem atE_t {t : Int} (h : lookE gD l = 0) (h1 : 0 ≤ t) (h2 : t ≤ 7200) : atE gD l t = 0 := by
  unfold lookE at h
  unfold atE at *
  split at h
  · omega
  · rename_i q1
    rw [if_neg q1]
    split at h
    · omega
    · rename_i q2
      rw [if_neg q2]
      split at h
      · rename_i q3; exact absurd h q3
      · rename_i q3
        rw [if_neg q3, if_neg (fun k => k ⟨h1, h2⟩)]
theorem atL_get {t p : Int} (h : atE gD l t = 0) (hp : 0 ≤ p ∧ p < 20) : (atL gD l t).getD p.toNat 0 = stateAll gD l t p := by
  unfold atL
  rw [if_neg (fun k => k h), List.getD_eq_getElem?_getD, List.getElem?_map, List.getElem?_range (by show p.toNat < ((5 : Int) * 4).toNat; omega)]
  show stateAll gD l t ((p.toNat : Nat) : Int) = _
  rw [show ((p.toNat : Nat) : Int) = p by omega]
theorem lookD_len (h : lookE gD l = 0) : (lookL gD l a b).length = lookN a b := by unfold lookL; rw [if_neg (fun k => k h), lookI_len]
theorem lookD_get (h : lookE gD l = 0) (hm : m < lookN a b) : (lookL gD l a b).getD m [] = atL gD l (m * b) := by
  unfold lookL
  rw [if_neg (fun k => k h)]
  unfold lookI
  rw [List.getD_eq_getElem?_getD, List.getElem?_map, List.getElem?_range hm]; rfl
end
theorem stateOf_3 (g : Grid) (c : Cloud) (p t : Int) : stateOf g c p t = 0 ∨ stateOf g c p t = 1 ∨ stateOf g c p t = 2 := by
  unfold stateOf
  split
  · exact .inr (.inr rfl)
  · split
    · exact .inr (.inl rfl)
    · exact .inl rfl
/-- The threat of a region with some clouds. -/
def thS (l : List Cloud) (a b : Int) (pix : List Int) : Thr := thr (lookL gD l a b) pix b
section
variable {l : List Cloud} {a b : Int} {pix : List Int} {m j : Nat} {c : Cloud}
theorem thS_touch (h : lookE gD l = 0) (ha : 0 ≤ a ∧ a ≤ 300) (hb : 30 ≤ b) (hm : (m : Int) * b ≤ a) (hp : ∀ n, n ∈ pix → 0 ≤ n ∧ n < 20) (hj : j < pix.length) (hc : c ∈ l) (hs : stateOf gD c (pix.getD j 0) (m * b) ≠ 0) : (thS l a b pix).lv ≠ 0 := by
  have hm2 := (look_lt ha.1 hb).1 hm
  have h0 : 0 ≤ (m : Int) * b := Int.mul_nonneg (by omega) (by omega)
  have z := thr_ge (ls := lookL gD l a b) (pix := pix) (b := b) (m := m) (j := j) (by rw [lookD_len h]; exact hm2) hj
  rw [lookD_get h hm2, atL_get (atE_t h h0 (by omega)) (hp _ (getD_mem hj))] at z
  have z2 := stateAll_ge (g := gD) (t := m * b) (p := pix.getD j 0) hc
  unfold thS
  rcases stateOf_3 gD c (pix.getD j 0) (m * b) with e | e | e
  · exact absurd e hs
  · omega
  · omega
theorem thS_warn (h : lookE gD l = 0) (ha : 0 ≤ a ∧ a ≤ 300) (hb : 30 ≤ b) (hp : ∀ n, n ∈ pix → 0 ≤ n ∧ n < 20) (h2 : (thS l a b pix).lv = 2) : ∃ c j, c ∈ l ∧ j < pix.length ∧ pix.getD j 0 = (thS l a b pix).px ∧ stateOf gD c (thS l a b pix).px (thS l a b pix).ld = 2 := by
  unfold thS at *
  rcases thr_att (ls := lookL gD l a b) (pix := pix) (b := b) with ⟨e, _⟩ | ⟨_, m, j, hm, hj, e1, e2, e3⟩
  · omega
  · rw [lookD_len h] at hm
    have hm2 := (look_lt ha.1 hb).2 hm
    have h0 : 0 ≤ (m : Int) * b := Int.mul_nonneg (by omega) (by omega)
    rw [lookD_get h hm, atL_get (atE_t h h0 (by omega)) (by rw [e2]; exact hp _ (getD_mem hj)), h2] at e3
    obtain ⟨c, hc, k⟩ := stateAll_att (g := gD) (l := l) (t := m * b) (p := (thr (lookL gD l a b) pix b).px) (by omega)
    exact ⟨c, j, hc, hj, e2.symm, by rw [e1, k]; exact e3.symm⟩
theorem thS_sign (hb : 30 ≤ b) (hp : ∀ n, n ∈ pix → 0 ≤ n ∧ n < 20) : ((thS l a b pix).lv = 0 ↔ (thS l a b pix).ld < 0) ∧ ((thS l a b pix).ld < 0 ↔ (thS l a b pix).px < 0) := by
  unfold thS
  rcases thr_att (ls := lookL gD l a b) (pix := pix) (b := b) with ⟨e1, e2, e3⟩ | ⟨e, m, j, hm, hj, e1, e2, e3⟩
  · omega
  · have h0 : 0 ≤ (m : Int) * b := Int.mul_nonneg (by omega) (by omega)
    have := hp _ (getD_mem (d := (0 : Int)) hj)
    omega
end
/-- Where the truth has covered a pixel. -/
def CovI (l : List Cloud) (pix : List Int) (px T : Int) (c n : Nat) (cov : Bool) : Prop := ∀ c' j, (c' < c ∧ j < pix.length) ∨ (c' = c ∧ j < n) → pix.getD j 0 = px → stateOf gD (l.getD c' default) px T = 2 → cov = true
theorem cov_0 {l : List Cloud} {pix : List Int} {px T : Int} : CovI l pix px T 0 0 false := fun c' j h => by omega
theorem cov_row {l : List Cloud} {pix : List Int} {px T : Int} {c n : Nat} {cov : Bool} (h : CovI l pix px T c n cov) (hn : pix.length ≤ n) : CovI l pix px T (c + 1) 0 cov := fun c' j hj => by
  refine h c' j ?_
  rcases hj with ⟨h1, h2⟩ | ⟨h1, h2⟩
  · rcases Nat.lt_or_ge c' c with q | q
    · exact .inl ⟨q, h2⟩
    · exact .inr ⟨by omega, by omega⟩
  · omega
theorem cov_pix {l : List Cloud} {pix : List Int} {px T p : Int} {c n : Nat} {cov wh : Bool} {x : Cloud} (h : CovI l pix px T c n cov) (hx : l.getD c default = x) (hp : pix.getD n 0 = p) (hw : stateOf gD x p T = 2 → wh = true) : CovI l pix px T c (n + 1) (cov || (wh && decide (p = px))) := fun c' j hj e s => by
  rcases hj with h1 | ⟨h1, h2⟩
  · rw [h c' j (.inl h1) e s]; rfl
  · rcases Nat.lt_or_ge j n with q | q
    · rw [h c' j (.inr ⟨h1, q⟩) e s]; rfl
    · have hjn : j = n := by omega
      subst hjn h1
      rw [hx] at s
      rw [hp] at e
      subst e
      rw [hw s]; simp
theorem cov_end {l : List Cloud} {a b : Int} {pix : List Int} {T : Int} {c : Nat} {cov : Bool} (h : CovI l pix (thS l a b pix).px T c 0 cov) (hc : l.length ≤ c) (hl : lookE gD l = 0) (ha : 0 ≤ a ∧ a ≤ 300) (hb : 30 ≤ b) (hp : ∀ n, n ∈ pix → 0 ≤ n ∧ n < 20) (h2 : (thS l a b pix).lv = 2) (hT : T = (thS l a b pix).ld) : cov = true := by
  obtain ⟨x, j, hx, hj, e1, e2⟩ := thS_warn hl ha hb hp h2
  obtain ⟨k, hk, e⟩ := List.getElem_of_mem hx
  refine h k j (.inl ⟨by omega, hj⟩) e1 ?_
  rw [List.getD_eq_getElem?_getD, List.getElem?_eq_getElem hk, e, hT]; exact e2
/-! levels at the times of steps -/
theorem kAt_inc {ts : List Int} (h : ts.Pairwise (· < ·)) {j : Nat} (hj : j < ts.length) : kAt ts (ts.getD j 0) = j + 1 := by
  have hm : ts.getD j 0 = ts[j] := by rw [List.getD_eq_getElem?_getD, List.getElem?_eq_getElem hj]; rfl
  have e : ts = ts.take j ++ ts[j] :: ts.drop (j + 1) := by rw [List.getElem_cons_drop, List.take_append_drop]
  have hlt : ∀ x, x ∈ ts.take j → x < ts[j] := fun x hx => by
    rw [e] at h
    exact (List.pairwise_append.1 h).2.2 x hx _ (List.mem_cons_self ..)
  have hgt : ∀ x, x ∈ ts.drop (j + 1) → ts[j] < x := fun x hx => by
    rw [e] at h
    exact (List.pairwise_cons.1 (List.pairwise_append.1 h).2.1).1 x hx
  have c1 : (ts.take j).countP (fun t => decide (t < ts[j])) = j := by
    rw [List.countP_eq_length.2 (fun x hx => by simpa using hlt x hx), List.length_take]; omega
  have c2 : (ts.drop (j + 1)).countP (fun t => decide (t < ts[j])) = 0 := List.countP_eq_zero.2 (fun x hx => by have := hgt x hx; simp; omega)
  unfold kAt
  rw [hm, if_pos (by simp)]
  have c3 : ts.countP (fun t => decide (t < ts[j])) = (ts.take j ++ ts[j] :: ts.drop (j + 1)).countP (fun t => decide (t < ts[j])) := congrArg (List.countP _) e
  rw [c3, List.countP_append, List.countP_cons, c1, c2]
  simp
theorem at_sim {o : OfM} {st : List Stp} (h : SimO o st) {j k : Nat} (hj : j < st.length) (hk : k < o.rc.length) : (atsL o (o.ts.getD j 0)).getD k 0 = lvS o.hold k (st.take (j + 1)) := by
  have hl : o.ts.length = st.length := by rw [h.ts]; simp
  unfold atsL
  rw [List.getD_eq_getElem?_getD, List.getElem?_map, List.getElem?_eq_getElem hk]
  show atLv o.ts (o.rc[k]).lv _ = _
  unfold atLv
  rw [kAt_inc h.inc (by omega), if_neg (by omega), (h.rcs k _ (List.getElem?_eq_getElem hk)).2.1]
  unfold lvL
  rw [List.getD_eq_getElem?_getD, List.getElem?_map, List.getElem?_range (by omega)]; rfl
/-- The levels hold what was reached. -/
theorem hold_at {o : OfM} {st : List Stp} (h : SimO o st) {i j k : Nat} {s : Stp} (hi : st[i]? = some s) (hij : i ≤ j) (hj : j < st.length) (hk : k < o.rc.length) (hT : o.ts.getD j 0 ≤ o.ts.getD i 0 + o.hold) (hs : 0 < (s.th.getD k zT).lv) : (atsL o (o.ts.getD j 0)).getD k 0 ≠ 0 := by
  have hl : o.ts.length = st.length := by rw [h.ts]; simp
  rw [at_sim h hj hk]
  have hd : ∀ q, q < st.length → o.ts.getD q 0 = (st.getD q zS).t := fun q hq => by
    rw [h.ts, List.getD_eq_getElem?_getD, List.getElem?_map, List.getElem?_eq_getElem hq, List.getD_eq_getElem?_getD, List.getElem?_eq_getElem hq]; rfl
  have hi2 : i < st.length := by omega
  have hs2 : st.getD i zS = s := by rw [List.getD_eq_getElem?_getD, hi]; rfl
  have hla : lastT (st.take (j + 1)) = o.ts.getD j 0 := by
    unfold lastT
    rw [List.length_take, show min (j + 1) st.length - 1 = j by omega, hd j hj, List.getD_eq_getElem?_getD, List.getElem?_take, if_pos (by omega), List.getD_eq_getElem?_getD]
  have z := lvS_ge (H := o.hold) (k := k) (st := st.take (j + 1)) (s := s) (by
    refine List.mem_of_getElem? (i := i) ?_
    rw [List.getElem?_take, if_pos (by omega)]; exact hi) (by
    rw [hla]
    have e := hd i hi2
    rw [hs2] at e
    omega)
  omega
end Go.Proofs.Ytdjflomhaljljaa

namespace Go.Proofs.Ytdjflomhaljljaa
open Go.SL Go.Proofs Go.Cast
set_option linter.unusedVariables false

theorem A86 : IsAgg Try.prog 86 20 := ⟨⟨_, Try.underlying86, rfl⟩, by kernel_rfl⟩
theorem A48 : IsAgg Try.prog 48 23 := ⟨⟨_, Try.underlying48, rfl⟩, by kernel_rfl⟩
theorem C19 : IsFn Try.prog 19 := ⟨_, Try.func19, by decide, rfl⟩
theorem C20 : IsFn Try.prog 20 := ⟨_, Try.func20, by decide, rfl⟩
theorem C21 : IsFn Try.prog 21 := ⟨_, Try.func21, by decide, rfl⟩
theorem A87 : IsAgg Try.prog 87 2 := ⟨⟨_, Try.underlying87, rfl⟩, by kernel_rfl⟩
theorem C29 : IsFn Try.prog 29 := ⟨_, Try.func29, by decide, rfl⟩


/-- A fact that is kept out of sight. -/
structure Hw (p : Prop) : Prop where
  out : p
theorem ths_get {d : DrM} {l : List Cloud} {k : Nat} (hk : k < (drRegs d 3).length) : (thsP (drSp d) l).getD k zT = thS l (drA d) (drB d) ((drRegs d 3).getD k default).pix := by
  unfold thsP thS
  rw [List.getD_eq_getElem?_getD, List.getElem?_map]
  have hk2 : k < (drSp d).regs.length := hk
  rw [List.getElem?_eq_getElem hk2, List.getD_eq_getElem?_getD, List.getElem?_eq_getElem hk]; rfl
theorem n106 {lv ld px : Int} (h : (lv = 0 ↔ ld < 0) ∧ (ld < 0 ↔ px < 0)) (k : (¬ (0 : Int) = 0 ∨ ¬ decide (lv = 0) = decide (ld < 0)) ∨ ¬ decide (ld < 0) = decide (px < 0)) : False := by
  rcases k with (k | k) | k
  · exact k rfl
  · exact k (decide_eq_decide.2 h.1)
  · exact k (decide_eq_decide.2 h.2)
theorem n192 {lv ld t : Int} {to co : Bool} (h1 : to = true → lv ≠ 0) (h2 : lv = 2 → t = ld → co = true) (k : (to = true ∧ lv = 0) ∨ ((lv = 2 ∧ t = ld) ∧ ¬ co = true)) : False := by
  rcases k with ⟨k1, k2⟩ | ⟨⟨k1, k2⟩, k3⟩
  · exact h1 k1 k2
  · exact k3 (h2 k1 k2)

theorem stB_ts {s : Sp} {l : List Cloud} {bs : List BtM} {n : Nat} : (stB s l bs n).map Stp.t = tmB bs n := by unfold stB tmB; rw [List.map_map]; rfl
theorem stB_get {s : Sp} {l : List Cloud} {bs : List BtM} {n i : Nat} (h : i < n) : (stB s l bs n)[i]? = some ⟨tAt bs (i + 1), thsP s (beatL (bs.getD i ⟨0, 0, 0, true⟩) l)⟩ := by
  unfold stB; rw [List.getElem?_map, List.getElem?_range h]; rfl
theorem mul_s {m : Nat} {b : Int} : ((m + 1 : Nat) : Int) * b = (m : Int) * b + b := by rw [Int.natCast_add, Int.add_mul]; simp
theorem to_step {to a : Bool} {p : Prop} (h : to = true → p) (k : a = true → p) : (to || a) = true → p := fun e => by
  cases to with
  | true => exact h rfl
  | false => exact k (by simpa using e)
theorem thP {l : List Cloud} {a b : Int} {pix : List Int} {th : Thr} {to : Bool} (h : th = thS l a b pix) (hT : to = true → th.lv ≠ 0) (k : ¬ ¬ to = true) : 0 < th.lv := by
  have h1 := hT (Classical.not_not.1 k)
  have h2 : 0 ≤ th.lv := by rw [h]; exact thr_nn
  omega
theorem n242 {lv : Int} {n m : Nat} (h : n = m) (k : lv ≠ 0) (e : (¬ (0 : Int) = 0 ∨ ¬ (n : Int) = (m : Int)) ∨ lv = 0) : False := by
  rcases e with (e | e) | e
  · exact e rfl
  · exact e (by rw [h])
  · exact k e
theorem cl_len {cl : List ClM} {n : Nat} (hok : ∀ c, c ∈ cl → c.ok) {c : Cloud} (h : c ∈ allL cl n) : c.sure.length < 1000000 ∧ c.may.length < 1000000 := by
  obtain ⟨k, _, e, _⟩ := allL_ok hok n _ h
  have h1 : c.sure.length ≤ 20 := by rw [e]; exact pxF_len
  have h2 : c.may.length ≤ 20 := by rw [e]; exact pxF_len
  omega

set_option maxRecDepth 20000 in
set_option maxHeartbeats 12000000 in
theorem IssueTruth_c (d : DrM) (cl : List ClM) (pc : Option Addr) (cc : Nat) (bs : List BtM) (pb : Option Addr) (cb : Nat) (al : List Bool) (r0 r1 : Int) (w : World) (hd : d.ok) (hcl : ClsM w pc cl) (hb : BtsM w pb bs) (hal : al.length = 20) (h0 : 0 ≤ r0 ∧ r0 ≤ 65535) (h1 : 0 ≤ r1 ∧ r1 ≤ 65535) :
  Calls Try.prog 6 #[.agg d.cells.toArray, .slice pc cl.length cc, .slice pb bs.length cb, .agg (al.map boV).toArray, .agg #[.int .u16 r0, .int .u16 r1]] w fun e w' => e = .returned (.bool true) ∧ St (Go.SL.bs w) [] w' := by
  refine enter (vs := [_, _, _, _, _]) (env := [(0, _), (1, _), (2, _), (3, _), (4, _)]) Try.func6 rfl rfl rfl rfl ?_
  refine VC.seq ?_
  refine VC.reg (VO.h rfl <| HO.box (C := d.cells.toArray) rfl rfl fun b1 => VO.h rfl <| HO.box (C := (al.map boV).toArray) rfl rfl fun b2 => VO.h rfl <| HO.box (C := #[_, _]) rfl rfl fun b3 => VO.l (LO.as (.r rfl)) rfl <| VO.nil ?_)
  refine VE.seqN ?_
  refine VC.seq ?_
  refine VC.seq ?_
  refine VC.reg (VO.l (LO.mv (.r rfl)) rfl <| VO.l (LO.len S49 (.r rfl) rfl) rfl <| VO.l (LO.gt (.r rfl) (.r rfl)) rfl <| VO.l (LO.mv (.r rfl)) rfl <| VO.lg rfl rfl (GD.f _) (fun hg => LO.mv (.r rfl)) rfl <| VO.lg rfl rfl (GD.f _) (fun hg => LO.len S50 (.g hg rfl) rfl) rfl <| VO.lg rfl rfl (GD.f _) (fun hg => LO.gt (.g hg rfl) (.r rfl)) rfl <| VO.l (LO.pkO (.r rfl) (.r rfl) rfl rfl) rfl <| VO.nil ?_)
  refine VE.seqN ?_
  refine VC.cond rfl (fun h41 => ?_) (fun h41 => ?_)
  ·
    refine VC.seq ?_
    refine VC.reg (VO.l (LO.call (xs := []) (vs := []) C14 trivial (fun w _ => works_c w)) rfl <| VO.l (LO.as (.r rfl)) rfl <| VO.nil ?_)
    refine VE.seqN ?_
    refine VC.ret (VE.thenR (VE.res (vs := [_]) rfl ⟨rfl, trivial⟩ (fun w hw => ?_)))
    first | exact ⟨rfl, hw1.based hw⟩ | exact ⟨rfl, hw.nil⟩
  ·
    have hcl5 : cl.length ≤ 5 := by omega
    have hbl5 : bs.length ≤ 8 := by omega
    refine VC.skip (VE.seqN ?_)
    refine VC.seq ?_
    refine VC.reg (VO.l (LO.lda (vs := d.cells) A48 (.r rfl) (fun _ hw => cells_at (off := 0) hw 2 rfl ⟨[], by simp⟩) (by rw [DrM.len hd]; rfl)) rfl <| VO.h rfl <| HO.callx (xs := [_]) (vs := [_]) C19 ⟨(.r rfl), trivial⟩ (fun w _ => dmade_c d w hd) fun z hX => VO.l (LO.mv (.r rfl)) rfl <| VO.h rfl <| HO.callx (xs := [_]) (vs := [_]) C20 ⟨(.r rfl), trivial⟩ (fun w hw => all_c cl pc cc w (by omega) ⟨hcl.rows.keep w hw, hcl.ok⟩) fun xl hl => VO.h rfl <| HO.alloc (C := #[_, _, _, _, _, _, _, _, _]) Z28 rfl fun b8 => VO.h0 <| HO.st 0 (vs := [_, _, _, _, _, _, _, _, _]) (C' := [_, _, _, _, _, _, _, _, _]) (L' := [_, _, _, _, _, _, _, _]) N28 rfl rfl rfl rfl rfl rfl rfl rfl <| VO.h rfl <| HO.lo (LO.as (.r rfl)) <| VO.nil ?_)
    refine VE.seqN ?_
    refine VC.seq ?_
    refine VC.seq ?_
    obtain ⟨rgs, pg, cg⟩ := z
    obtain ⟨⟨pl, kl⟩, l⟩ := xl
    dsimp only at hX hl ⊢
    have hrl : rgs.length = (drRegs d 3).length := by rw [← hX, List.length_map]
    have hr3 := drRegs_len (d := d) 3
    have hll : l.length ≤ cl.length := by rw [← List.length_map (f := CP.c), hl]; exact allL_len _
    refine VC.reg (VO.l (LO.fa (r := 5) F28_1 (.r rfl) rfl) rfl <| VO.l (LO.ld O24 (.r rfl) (fun _ hw => cells_at hw 0 rfl ⟨_, rfl⟩)) rfl <| VO.l (LO.len S24 (.r rfl) rfl) rfl <| VO.l (LO.eq (.r rfl) (.r rfl)) rfl <| VO.nil ?_)
    refine VE.seqN ?_
    refine VC.cond rfl (fun h50 => ?_) (fun h50 => ?_)
    ·
      refine VC.seq ?_
      refine VC.reg (VO.l (LO.call (xs := []) (vs := []) C14 trivial (fun w _ => works_c w)) rfl <| VO.l (LO.as (.r rfl)) rfl <| VO.nil ?_)
      refine VE.seqN ?_
      refine VC.ret (VE.thenR (VE.res (vs := [_]) rfl ⟨rfl, trivial⟩ (fun w hw => ?_)))
      first | exact ⟨rfl, hw1.based hw⟩ | exact ⟨rfl, hw.nil⟩
    ·
      have hne : drRegs d 3 ≠ [] := fun q => h50 (by rw [hrl, q]; rfl)
      have hsp := dr_spec hd hne
      refine VC.skip (VE.seqN ?_)
      refine VC.seq ?_
      refine VC.reg (VO.l (LO.lda (vs := [_, _, _, _, _, _, _, _, _]) A28 (.r rfl) (fun _ hw => cells_at hw 0 rfl ⟨_, rfl⟩) rfl) rfl <| VO.l (LO.mv (.r rfl)) rfl <| VO.l (LO.mv (.r rfl)) rfl <| VO.h rfl <| HO.callx (xs := [_, _, _]) (vs := [_, _, _]) C21 ⟨(.r rfl), (.r rfl), (.r rfl), trivial⟩ (fun w hw => run_c gD rgs pg cg (drA d) (drB d) (drC d) (drSp d) l pl kl bs pb cb w (by unfold drSp; rw [hX]) hsp (by omega) (regs_frame hX (St.inv hw 3 _ rfl) (St.inv hw 4 _ rfl)) (by omega) (clouds_all hl hcl.ok (St.inv hw 1 _ rfl) (St.inv hw 2 _ rfl)) (by omega) (hb.keep hw) (fun x hx => by rw [hl]; exact beat_look (hb.ok x hx) (allL_cls hcl.ok _))) fun y hy => VO.h rfl <| HO.lo (LO.mv (.r rfl)) <| VO.h rfl <| HO.lo (LO.ex (.r rfl) rfl) <| VO.h rfl <| HO.lo (LO.ex (.r rfl) rfl) <| VO.h rfl <| HO.lo (LO.ex (.r rfl) rfl) <| VO.h rfl <| HO.lo (LO.ex (.r rfl) rfl) <| VO.h rfl <| HO.lo (LO.as (.r rfl)) <| VO.h rfl <| HO.lo (LO.as (.r rfl)) <| VO.h rfl <| HO.lo (LO.as (.r rfl)) <| VO.h rfl <| HO.lo (LO.as (.r rfl)) <| VO.nil ?_)
      refine VE.seqN ?_
      refine VC.weak (env' := [(2, _), (8, _), (9, _), (11, _), (12, _), (13, _), (15, _), (16, _)]) (.cons rfl (.cons rfl (.cons rfl (.cons rfl (.cons rfl (.cons rfl (.cons rfl (.cons rfl .nil)))))))) (fun _ h => h) ?_
      refine VC.seq ?_
      refine VC.seq ?_
      refine VC.reg (VO.l (LO.mv (.r rfl)) rfl <| VO.l (LO.not (.r rfl)) rfl <| VO.nil ?_)
      refine VE.seqN ?_
      refine VC.cond rfl (fun h62 => ?_) (fun h62 => ?_)
      ·
        (exfalso; exact h62 rfl)
      ·
        refine VC.skip (VE.seqN ?_)
        refine VC.seq ?_
        refine VC.seq ?_
        refine VC.rebase fun w1 hw1 => ?_
        have hOff : Has w1 (offR y.o) := (selK (L1 := offR y.o) [0, 1, 2, 3, 4, 5, 6, 7, 8, 9] rfl rfl _ hw1).has (List.Sublist.refl _)
        have hTs : RO 1 iC w1 y.pt y.ts := own_rows hw1 12 rfl
        have hSp : Cells w1 ⟨b8, 0, none⟩ [.int .i64 0, .int .i64 0, .int .i64 1000, .int .i64 5, .int .i64 4, .slice pg rgs.length cg, .int .i64 (drA d), .int .i64 (drB d), .int .i64 (drC d)] := cells_at hw1 13 rfl ⟨[], rfl⟩
        have hAl : Cells w1 ⟨b2, 0, none⟩ (al.map boV) := cells_at (off := 0) hw1 19 rfl ⟨[], by simp⟩
        have hRu : Cells w1 ⟨b3, 0, none⟩ [.int .u16 r0, .int .u16 r1] := cells_at hw1 18 rfl ⟨[], rfl⟩
        have hRg : Regs w1 pg rgs := regs_frame hX (St.inv hw1 16 _ rfl) (St.inv hw1 17 _ rfl)
        have hCl : Clouds w1 pl l := clouds_all hl hcl.ok (St.inv hw1 14 _ rfl) (St.inv hw1 15 _ rfl)
        have hBt := hb.keep hw1
        obtain ⟨hS1, hS2, hS3, hS4, hS5⟩ := id hy
        have hok := hb.ok
        have hbd := dr_bd hd
        have htls : y.ts.length = bs.length := by rw [hS4]; simp [tmB]
        have hrlo : rgs.length ≤ 3 := by omega
        have hrcn : y.o.rc.length = rgs.length := by rw [n_eq hS1.wf, hS2, hrl]; rfl
        have hots : y.o.ts = y.ts := by rw [hS1.ts, hS4]; exact stB_ts
        have hC20 : ∀ x, x ∈ l → x.c.sure.length < 1000000 ∧ x.c.may.length < 1000000 := fun x hx => cl_len hcl.ok (n := cl.length) (by rw [← hl]; exact List.mem_map_of_mem hx)
        have hCk := allL_cls hcl.ok cl.length
        rw [← hl] at hCk
        have hhold : y.o.hold = drC d := congrArg Sp.hold hS2
        clear hsp h41 h50 h62
        refine VC.reg (VO.l (LO.as (.r rfl)) rfl <| VO.nil ?_)
        refine VE.seqN ?_
        refine VC.block ?_
        refine VC.loopK (α := Nat) 0 (fun gx => [(17, .int .i64 (gx : Nat))]) [(2, _), (8, _), (9, _), (11, _), (12, _), (13, _), (15, _)] (fun gx => []) (fun gx => gx ≤ bs.length) (fun gx => bs.length - gx) 0 (by exact Nat.zero_le _) (.cons rfl (.cons rfl (.cons rfl (.cons rfl (.cons rfl (.cons rfl (.cons rfl (.cons rfl .nil)))))))) (fun _ h => h) ?_
        rintro i hi
        refine VC.seq ?_
        refine VC.seq ?_
        refine VC.reg (VO.l (LO.mv (.r rfl)) rfl <| VO.l (LO.mv (.r rfl)) rfl <| VO.l (LO.len S50 (.r rfl) rfl) rfl <| VO.l (LO.lt (.r rfl) (.r rfl)) rfl <| VO.nil ?_)
        refine VE.seqN ?_
        refine VC.cond rfl (fun h66 => ?_) (fun h66 => ?_)
        ·
          have hi1 : i < bs.length := by omega
          obtain ⟨xb, hbx⟩ : ∃ x, bs[i]? = some x := ⟨_, List.getElem?_eq_getElem hi1⟩
          have hTi : 0 ≤ y.ts.getD i 0 ∧ y.ts.getD i 0 ≤ 4294967296 := hS1.tb _ (by rw [hots]; exact getD_mem (by omega))
          refine VC.skip (VE.seqN ?_)
          refine VC.seq ?_
          refine VC.block ?_
          refine VC.seq ?_
          refine VC.reg (VO.l (LO.mv (.r rfl)) rfl <| VO.l (LO.mv (.r rfl)) rfl <| VO.l (LO.ixs S50 N66 hBt.rows.sm (.r rfl) (.r rfl) rfl (by omega)) rfl <| VO.l (LO.lda (vs := [_, _, _, _]) A66 (.r rfl) (fun w hw => cells_part (off := 0) ((fun w2 hw2 => (hBt.rows.keep w2 hw2).cells _ _ (by rw [List.getElem?_map, hbx]; rfl)) w hw) ⟨_, rfl⟩) rfl) rfl <| VO.l (LO.mv (.r rfl)) rfl <| VO.h rfl <| HO.callx (xs := [_, _]) (vs := [_, _]) C23 ⟨(.r rfl), (.r rfl), trivial⟩ (fun w hw => beat_c xb l pl kl w (by omega) (hok xb (List.mem_of_getElem? hbx)) (hCl.keep w hw)) fun qb hqb => VO.h rfl <| HO.lo (LO.as (.r rfl)) <| VO.nil ?_)
          refine VE.seqN ?_
          refine VC.seq ?_
          refine VC.reg (VO.l (LO.as (.r rfl)) rfl <| VO.nil ?_)
          refine VE.seqN ?_
          refine VC.block ?_
          refine VC.loopK (α := Nat) 0 (fun gx => [(19, .int .i64 (gx : Nat))]) [(2, _), (8, _), (9, _), (11, _), (12, _), (13, _), (15, _), (17, _), (18, _)] (fun gx => []) (fun gx => gx ≤ rgs.length) (fun gx => rgs.length - gx) 0 (by exact Nat.zero_le _) (.cons rfl (.cons rfl (.cons rfl (.cons rfl (.cons rfl (.cons rfl (.cons rfl (.cons rfl (.cons rfl (.cons rfl .nil)))))))))) (fun _ h => h) ?_
          rintro k hk
          refine VC.seq ?_
          refine VC.seq ?_
          refine VC.reg (VO.l (LO.mv (.r rfl)) rfl <| VO.l (LO.fa (r := 5) F28_1 (.r rfl) rfl) rfl <| VO.l (LO.ld O24 (.r rfl) (cells_keep (sub_cells (off := 5) hSp ⟨_, rfl⟩))) rfl <| VO.l (LO.len S24 (.r rfl) rfl) rfl <| VO.l (LO.lt (.r rfl) (.r rfl)) rfl <| VO.nil ?_)
          refine VE.seqN ?_
          refine VC.cond rfl (fun h79 => ?_) (fun h79 => ?_)
          ·
            have hk1 : k < rgs.length := by omega
            obtain ⟨rk, hrk⟩ : ∃ x, rgs[k]? = some x := ⟨_, List.getElem?_eq_getElem hk1⟩
            have hpk := hRg.ok rk (List.mem_of_getElem? hrk)
            have hkd : k < (drRegs d 3).length := by omega
            have hrkp : (drRegs d 3).getD k default = rk.r := by rw [← hX, List.getD_eq_getElem?_getD, List.getElem?_map, hrk]; rfl
            have hpx : ∀ n, n ∈ rk.r.pix → 0 ≤ n ∧ n < 20 := (dr_pix (d := d) (r := rk.r) (by rw [← hX]; exact List.mem_map_of_mem (List.mem_of_getElem? hrk))).1
            have hlk : lookE gD (qb.2.map CP.c) = 0 := by rw [hqb.1]; exact beat_look (hok xb (List.mem_of_getElem? hbx)) hCk
            obtain ⟨th, hth⟩ : ∃ t, t = thS (qb.2.map CP.c) (drA d) (drB d) rk.r.pix := ⟨_, rfl⟩
            have hto := threat_of hd hne (l := qb.2.map CP.c) hlk (k := k) hkd
            have hTV : Hw (threatV (drSp d) (k : Int) (beatL xb (l.map CP.c)) = .tuple #[.int .i64 th.lv, .int .i64 th.ld, .int .i64 th.px, .int .i64 0]) := ⟨by rw [← hqb.1]; unfold threatV; rw [hto.1, hto.2, ths_get hkd, hrkp, ← hth]⟩
            clear hto
            refine VC.skip (VE.seqN ?_)
            refine VC.seq ?_
            refine VC.block ?_
            refine VC.seq ?_
            refine VC.reg (VO.l (LO.lda (vs := [_, _, _, _, _, _, _, _, _]) A28 (.r rfl) (cells_keep (sub_cells (off := 0) hSp ⟨_, rfl⟩)) rfl) rfl <| VO.l (LO.mv (.r rfl)) rfl <| VO.l (LO.mv (.r rfl)) rfl <| VO.l (LO.call (xs := [_, _, _]) (vs := [_, _, _]) C15 ⟨(.r rfl), (.r rfl), (.r rfl), trivial⟩ (fun w hw => by have z := Threat_c gD rgs pg cg (drA d) (drB d) (drC d) ((k : Nat) : Int) qb.2 qb.1.1 qb.1.2 w (by omega) (hRg.keep hw) (by omega) (clouds_own hCl hqb.2.2 hw 0 rfl); rw [hqb.1, show (⟨gD, rgs.map RG.r, drA d, drB d, drC d⟩ : Sp) = drSp d from by rw [hX]; rfl, hTV.out] at z; exact z)) rfl <| VO.l (LO.mv (.r rfl)) rfl <| VO.l (LO.ex (.r rfl) rfl) rfl <| VO.l (LO.ex (.r rfl) rfl) rfl <| VO.l (LO.ex (.r rfl) rfl) rfl <| VO.l (LO.ex (.r rfl) rfl) rfl <| VO.l (LO.as (.r rfl)) rfl <| VO.l (LO.as (.r rfl)) rfl <| VO.l (LO.as (.r rfl)) rfl <| VO.l (LO.as (.r rfl)) rfl <| VO.nil ?_)
            refine VE.seqN ?_
            refine VC.weak (env' := [(2, _), (8, _), (9, _), (11, _), (12, _), (13, _), (15, _), (17, _), (18, _), (19, _), (20, _), (21, _), (22, _), (23, _)]) (.cons rfl (.cons rfl (.cons rfl (.cons rfl (.cons rfl (.cons rfl (.cons rfl (.cons rfl (.cons rfl (.cons rfl (.cons rfl (.cons rfl (.cons rfl (.cons rfl .nil)))))))))))))) (fun _ h => h) ?_
            refine VC.seq ?_
            refine VC.seq ?_
            refine VC.reg (VO.l (LO.mv (.r rfl)) rfl <| VO.l (LO.ne (.r rfl) (.r rfl)) rfl <| VO.l (LO.mv (.r rfl)) rfl <| VO.lg rfl rfl (GD.f _) (fun hg => LO.mv (.r rfl)) rfl <| VO.lg rfl rfl (GD.f _) (fun hg => LO.eq (.g hg rfl) (.r rfl)) rfl <| VO.lg rfl rfl (GD.f _) (fun hg => LO.mv (.r rfl)) rfl <| VO.lg rfl rfl (GD.f _) (fun hg => LO.lt (.g hg rfl) (.r rfl)) rfl <| VO.lg rfl rfl (GD.f _) (fun hg => LO.neB Try.underlying4 (.g hg rfl) (.g hg rfl)) rfl <| VO.l (LO.pkO (.r rfl) (.r rfl) rfl rfl) rfl <| VO.l (LO.mv (.r rfl)) rfl <| VO.lg rfl rfl (GD.f _) (fun hg => LO.mv (.r rfl)) rfl <| VO.lg rfl rfl (GD.f _) (fun hg => LO.lt (.g hg rfl) (.r rfl)) rfl <| VO.lg rfl rfl (GD.f _) (fun hg => LO.mv (.r rfl)) rfl <| VO.lg rfl rfl (GD.f _) (fun hg => LO.lt (.g hg rfl) (.r rfl)) rfl <| VO.lg rfl rfl (GD.f _) (fun hg => LO.neB Try.underlying4 (.g hg rfl) (.g hg rfl)) rfl <| VO.l (LO.pkO (.r rfl) (.r rfl) rfl rfl) rfl <| VO.nil ?_)
            refine VE.seqN ?_
            refine VC.weak (env' := [(2, _), (8, _), (9, _), (11, _), (12, _), (13, _), (15, _), (17, _), (18, _), (19, _), (20, _), (21, _), (22, _), (106, _)]) (.cons rfl (.cons rfl (.cons rfl (.cons rfl (.cons rfl (.cons rfl (.cons rfl (.cons rfl (.cons rfl (.cons rfl (.cons rfl (.cons rfl (.cons rfl (.cons rfl .nil)))))))))))))) (fun _ h => h) ?_
            refine VC.cond rfl (fun h106 => ?_) (fun h106 => ?_)
            ·
              (exfalso; exact n106 (lv := th.lv) (ld := th.ld) (px := th.px) (by rw [hth]; exact thS_sign (by omega) hpx) h106)
            ·
              refine VC.skip (VE.seqN ?_)
              refine VC.seq ?_
              refine VC.reg (VO.l (LO.as (.r rfl)) rfl <| VO.nil ?_)
              refine VE.seqN ?_
              refine VC.block ?_
              refine VC.loopK (α := Nat) 0 (fun gx => [(24, .int .i64 ((gx : Int) * drB d))]) [(2, _), (8, _), (9, _), (11, _), (12, _), (13, _), (15, _), (17, _), (18, _), (19, _), (20, _), (21, _), (22, _)] (fun gx => []) (fun gx => 0 ≤ (gx : Int) * drB d ∧ (gx : Int) * drB d ≤ 500) (fun gx => (1000 - (gx : Int) * drB d).toNat) 0 (by exact ⟨by simp, by simp⟩) (.cons (congrArg (fun z => some (Value.int .i64 z)) (Int.zero_mul _).symm) (.cons rfl (.cons rfl (.cons rfl (.cons rfl (.cons rfl (.cons rfl (.cons rfl (.cons rfl (.cons rfl (.cons rfl (.cons rfl (.cons rfl (.cons rfl .nil)))))))))))))) (fun _ h => h) ?_
              rintro m htm
              refine VC.seq ?_
              refine VC.seq ?_
              refine VC.reg (VO.l (LO.mv (.r rfl)) rfl <| VO.l (LO.fa (r := 6) F28_2 (.r rfl) rfl) rfl <| VO.l (LO.fa (r := 6) F26_0 (.r rfl) rfl) rfl <| VO.l (LO.ld O3 (.r rfl) (cells_keep (sub_cells (off := 6) hSp ⟨_, rfl⟩))) rfl <| VO.l (LO.le (.r rfl) (.r rfl)) rfl <| VO.nil ?_)
              refine VE.seqN ?_
              refine VC.cond rfl (fun h111 => ?_) (fun h111 => ?_)
              ·
                refine VC.skip (VE.seqN ?_)
                refine VC.seq ?_
                refine VC.block ?_
                refine VC.seq ?_
                refine VC.reg (VO.l (LO.as (.r rfl)) rfl <| VO.l (LO.as (.r rfl)) rfl <| VO.nil ?_)
                refine VE.seqN ?_
                refine VC.seq ?_
                refine VC.seq ?_
                refine VC.reg (VO.l (LO.as (.r rfl)) rfl <| VO.nil ?_)
                refine VE.seqN ?_
                refine VC.block ?_
                refine VC.loopK (α := Nat × Bool × Bool) 0 (fun gx => [(25, .bool gx.2.1), (26, .bool gx.2.2), (27, .int .i64 (gx.1 : Nat))]) [(2, _), (8, _), (9, _), (11, _), (12, _), (13, _), (15, _), (17, _), (18, _), (19, _), (20, _), (21, _), (22, _), (24, _)] (fun gx => []) (fun gx => gx.1 ≤ qb.2.length ∧ (gx.2.1 = true → th.lv ≠ 0) ∧ CovI (qb.2.map CP.c) rk.r.pix (thS (qb.2.map CP.c) (drA d) (drB d) rk.r.pix).px (m * drB d) gx.1 0 gx.2.2) (fun gx => qb.2.length - gx.1) (0, false, false) (by exact ⟨Nat.zero_le _, fun q => (by cases q), cov_0⟩) (.cons rfl (.cons rfl (.cons rfl (.cons rfl (.cons rfl (.cons rfl (.cons rfl (.cons rfl (.cons rfl (.cons rfl (.cons rfl (.cons rfl (.cons rfl (.cons rfl (.cons rfl (.cons rfl (.cons rfl .nil))))))))))))))))) (fun _ h => h) ?_
                rintro ⟨c, to, co⟩ ⟨hc, hTo, hCo⟩
                show VC _ _ _ _ _ ([(25, .bool to), (26, .bool co), (27, .int .i64 (c : Nat))] ++ _) ([] ++ _) _ _
                dsimp only at hc hTo hCo
                refine VC.seq ?_
                refine VC.seq ?_
                refine VC.reg (VO.l (LO.mv (.r rfl)) rfl <| VO.l (LO.mv (.r rfl)) rfl <| VO.l (LO.len S29 (.r rfl) rfl) rfl <| VO.l (LO.lt (.r rfl) (.r rfl)) rfl <| VO.nil ?_)
                refine VE.seqN ?_
                refine VC.cond rfl (fun h120 => ?_) (fun h120 => ?_)
                ·
                  obtain ⟨xc, hxc⟩ : ∃ x, qb.2[c]? = some x := ⟨_, List.getElem?_eq_getElem (by omega)⟩
                  have hxm : xc.c ∈ qb.2.map CP.c := List.mem_map_of_mem (List.mem_of_getElem? hxc)
                  have hxl := hC20 xc (hqb.2.2 xc (List.mem_of_getElem? hxc))
                  refine VC.skip (VE.seqN ?_)
                  refine VC.seq ?_
                  refine VC.block ?_
                  refine VC.seq ?_
                  refine VC.reg (VO.l (LO.as (.r rfl)) rfl <| VO.nil ?_)
                  refine VE.seqN ?_
                  refine VC.block ?_
                  refine VC.loopK (α := Nat × Bool × Bool) 0 (fun gx => [(25, .bool gx.2.1), (26, .bool gx.2.2), (28, .int .i64 (gx.1 : Nat))]) [(2, _), (8, _), (9, _), (11, _), (12, _), (13, _), (15, _), (17, _), (18, _), (19, _), (20, _), (21, _), (22, _), (24, _), (27, _)] (fun gx => []) (fun gx => gx.1 ≤ rk.r.pix.length ∧ (gx.2.1 = true → th.lv ≠ 0) ∧ CovI (qb.2.map CP.c) rk.r.pix (thS (qb.2.map CP.c) (drA d) (drB d) rk.r.pix).px (m * drB d) c gx.1 gx.2.2) (fun gx => rk.r.pix.length - gx.1) (0, to, co) (by exact ⟨Nat.zero_le _, hTo, hCo⟩) (.cons rfl (.cons rfl (.cons rfl (.cons rfl (.cons rfl (.cons rfl (.cons rfl (.cons rfl (.cons rfl (.cons rfl (.cons rfl (.cons rfl (.cons rfl (.cons rfl (.cons rfl (.cons rfl (.cons rfl (.cons rfl .nil)))))))))))))))))) (fun _ h => h) ?_
                  rintro ⟨n, to, co⟩ ⟨hn, hTo, hCo⟩
                  show VC _ _ _ _ _ ([(25, .bool to), (26, .bool co), (28, .int .i64 (n : Nat))] ++ _) ([] ++ _) _ _
                  dsimp only at hn hTo hCo
                  refine VC.seq ?_
                  refine VC.seq ?_
                  refine VC.reg (VO.l (LO.mv (.r rfl)) rfl <| VO.l (LO.fa (r := 5) F28_1 (.r rfl) rfl) rfl <| VO.l (LO.ld O24 (.r rfl) (cells_keep (sub_cells (off := 5) hSp ⟨_, rfl⟩))) rfl <| VO.l (LO.mv (.r rfl)) rfl <| VO.l (LO.ixs S24 N74 hRg.sm (.r rfl) (.r rfl) rfl (by omega)) rfl <| VO.l (LO.fa F74_1 (.r rfl) rfl) rfl <| VO.l (LO.ld O55 (.r rfl) (fun w hw => cells_part (off := 1) ((hRg.at hrk) w hw) ⟨_, rfl⟩)) rfl <| VO.l (LO.len S55 (.r rfl) rfl) rfl <| VO.l (LO.lt (.r rfl) (.r rfl)) rfl <| VO.nil ?_)
                  refine VE.seqN ?_
                  refine VC.weak (env' := [(2, _), (8, _), (9, _), (11, _), (12, _), (13, _), (15, _), (17, _), (18, _), (19, _), (20, _), (21, _), (22, _), (24, _), (25, _), (26, _), (27, _), (28, _), (131, _)]) (.cons rfl (.cons rfl (.cons rfl (.cons rfl (.cons rfl (.cons rfl (.cons rfl (.cons rfl (.cons rfl (.cons rfl (.cons rfl (.cons rfl (.cons rfl (.cons rfl (.cons rfl (.cons rfl (.cons rfl (.cons rfl (.cons rfl .nil))))))))))))))))))) (fun _ h => h) ?_
                  refine VC.cond rfl (fun h131 => ?_) (fun h131 => ?_)
                  ·
                    have hn1 : n < rk.r.pix.length := by omega
                    obtain ⟨pn, hpn⟩ : ∃ x, rk.r.pix[n]? = some x := ⟨_, List.getElem?_eq_getElem hn1⟩
                    have hpb := hpx pn (List.mem_of_getElem? hpn)
                    refine VC.skip (VE.seqN ?_)
                    refine VC.seq ?_
                    refine VC.block ?_
                    refine VC.seq ?_
                    refine VC.drawCat 17 mixed (by kernel_rfl) (VA.drawH [[0], [0]] [some 0, some 0, some 0, some 0, some 0, some 0, some 0, some 0, some 0, some 0, some 0, some 0, some 0, some 0, some 0, some 0, none] (by kernel_rfl) rfl (LX.l (fun _ hJ => LO.mv (.r rfl)) rfl <| LX.l (fun _ hJ => LO.mv (.r rfl)) rfl <| LX.l (fun _ hJ => LO.ixo S29 N80 (fun _ hw => (own_rows (hJ _ hw) 0 rfl).some (by simp)) (.r rfl) (.r rfl) rfl (by omega)) rfl <| LX.l (fun _ hJ => LO.lda (vs := [_, _, _, _, _, _, _]) A80 (.r rfl) (fun w hw => cells_part (off := 0) (own_cell (hJ _ hw) 0 rfl hxc) ⟨_, rfl⟩) rfl) rfl <| LX.l (fun _ hJ => LO.fa (r := 5) F28_1 (.r rfl) rfl) rfl <| LX.l (fun _ hJ => LO.ld O24 (.r rfl) (cells_keep (sub_cells (off := 5) hSp ⟨_, rfl⟩))) rfl <| LX.l (fun _ hJ => LO.mv (.r rfl)) rfl <| LX.l (fun _ hJ => LO.ixs S24 N74 hRg.sm (.r rfl) (.r rfl) rfl (by omega)) rfl <| LX.l (fun _ hJ => LO.fa F74_1 (.r rfl) rfl) rfl <| LX.l (fun _ hJ => LO.ld O55 (.r rfl) (fun w hw => cells_part (off := 1) ((hRg.at hrk) w (hJ _ hw)) ⟨_, rfl⟩)) rfl <| LX.l (fun _ hJ => LO.mv (.r rfl)) rfl <| LX.l (fun _ hJ => LO.ixs S55 N3 (Go.SL.Rows.some (n := rk.r.pix.length) hpk.1 (by simp)) (.r rfl) (.r rfl) rfl (by omega)) rfl <| LX.l (fun _ hJ => LO.ld O3 (.r rfl) (fun w hw => cells_part (off := 0) ((fun w2 hw2 => (Go.SL.Rows.keep hpk.1 w2 hw2).cells _ _ (by rw [List.getElem?_map, hpn]; rfl)) w (hJ _ hw)) ⟨_, rfl⟩)) rfl <| LX.l (fun _ hJ => LO.mv (.r rfl)) rfl <| LX.l (fun _ hJ => LO.lda (vs := al.map boV) A86 (.r rfl) (cells_keep hAl) (by rw [List.length_map, hal]; rfl)) rfl <| LX.l (fun _ hJ => LO.lda (vs := [_, _]) A87 (.r rfl) (cells_keep (sub_cells (off := 0) hRu ⟨_, rfl⟩)) rfl) rfl <| LX.s <| LX.nil) (HX.s <| HX.s <| HX.s <| HX.s <| HX.s <| HX.s <| HX.s <| HX.s <| HX.s <| HX.s <| HX.s <| HX.s <| HX.s <| HX.s <| HX.s <| HX.s <| HX.h rfl <| HO.callx (xs := [_, _, _, _, _]) (vs := [_, _, _, _, _]) C29 ⟨(.r rfl), (.r rfl), (.r rfl), (.r rfl), (.r rfl), trivial⟩ (fun w hw => truth_c xc pn (m * drB d) al r0 r1 w (hCk xc.c (List.mem_map_of_mem (hqb.2.2 xc (List.mem_of_getElem? hxc)))) hpb ⟨htm.1, by omega⟩ hal h0 h1 ((clouds_own hCl hqb.2.2 hw 0 rfl).ok xc (List.mem_of_getElem? hxc)).1 ((clouds_own hCl hqb.2.2 hw 0 rfl).ok xc (List.mem_of_getElem? hxc)).2.1 hxl.1 hxl.2) fun z hz => ⟨fun _ hw => hw.sel [0] rfl, HX.nil (VE.any (VA.draw (LL.l (LO.mv (.r rfl)) rfl <| LL.l (LO.ex (.r rfl) rfl) rfl <| LL.l (LO.ex (.r rfl) rfl) rfl <| LL.l (LO.as (.r rfl)) rfl <| LL.l (LO.as (.r rfl)) rfl <| LL.nil) (by kernel_rfl) ?_))⟩))
                    refine VE.seqN ?_
                    refine VC.weak (env' := [(2, _), (8, _), (9, _), (11, _), (12, _), (13, _), (15, _), (17, _), (18, _), (19, _), (20, _), (21, _), (22, _), (24, _), (25, _), (26, _), (27, _), (28, _), (29, _), (30, _)]) (.cons rfl (.cons rfl (.cons rfl (.cons rfl (.cons rfl (.cons rfl (.cons rfl (.cons rfl (.cons rfl (.cons rfl (.cons rfl (.cons rfl (.cons rfl (.cons rfl (.cons rfl (.cons rfl (.cons rfl (.cons rfl (.cons rfl (.cons rfl .nil)))))))))))))))))))) (fun _ h => h) ?_
                    refine VC.draw mixed (LL.l (LO.mv (.r rfl)) rfl <| LL.l (LO.mv (.r rfl)) rfl <| LL.lg rfl rfl (GD.f _) (fun hg => LO.mv (.r rfl)) rfl <| LL.l (LO.pkO (.r rfl) (.r rfl) rfl rfl) rfl <| LL.l (LO.mv (.r rfl)) rfl <| LL.l (LO.mv (.r rfl)) rfl <| LL.lg rfl rfl (GD.f _) (fun hg => LO.mv (.r rfl)) rfl <| LL.lg rfl rfl (GD.f _) (fun hg => LO.mv (.g hg rfl)) rfl <| LL.lg rfl rfl (GD.nt _ _) (fun hg => LO.fa (r := 5) F28_1 (.r rfl) rfl) rfl <| LL.lg rfl rfl (GD.nt _ _) (fun hg => LO.ld O24 (.g hg rfl) (cells_keep (sub_cells (off := 5) hSp ⟨_, rfl⟩))) rfl <| LL.lg rfl rfl (GD.nt _ _) (fun hg => LO.mv (.r rfl)) rfl <| LL.lg rfl rfl (GD.nt _ _) (fun hg => LO.ixs S24 N74 hRg.sm (.g hg rfl) (.g hg rfl) rfl (by omega)) rfl <| LL.lg rfl rfl (GD.nt _ _) (fun hg => LO.fa F74_1 (.g hg rfl) rfl) rfl <| LL.lg rfl rfl (GD.nt _ _) (fun hg => LO.ld O55 (.g hg rfl) (fun w hw => cells_part (off := 1) ((hRg.at hrk) w hw) ⟨_, rfl⟩)) rfl <| LL.lg rfl rfl (GD.nt _ _) (fun hg => LO.mv (.r rfl)) rfl <| LL.lg rfl rfl (GD.nt _ _) (fun hg => LO.ixs S55 N3 (Go.SL.Rows.some (n := rk.r.pix.length) hpk.1 (by simp)) (.g hg rfl) (.g hg rfl) rfl (by omega)) rfl <| LL.lg rfl rfl (GD.nt _ _) (fun hg => LO.ld O3 (.g hg rfl) (fun w hw => cells_part (off := 0) ((fun w2 hw2 => (Go.SL.Rows.keep hpk.1 w2 hw2).cells _ _ (by rw [List.getElem?_map, hpn]; rfl)) w hw) ⟨_, rfl⟩)) rfl <| LL.lg rfl rfl (GD.nt _ _) (fun hg => LO.mv (.r rfl)) rfl <| LL.lg rfl rfl (GD.nt _ _) (fun hg => LO.eq (.g hg rfl) (.g hg rfl)) rfl <| LL.lg rfl rfl (GD.f _) (fun hg => LO.pkA (.g hg rfl) rfl (and_e hg) (.r rfl)) rfl <| LL.l (LO.pkO (.r rfl) (.r rfl) rfl rfl) rfl <| LL.l (LO.as (.r rfl)) rfl <| LL.l (LO.as (.r rfl)) rfl <| LL.nil) (by kernel_rfl) ?_
                    refine VE.inN (VE.seqN ?_)
                    refine VC.weak (env' := [(2, _), (8, _), (9, _), (11, _), (12, _), (13, _), (15, _), (17, _), (18, _), (19, _), (20, _), (21, _), (22, _), (24, _), (25, _), (26, _), (27, _), (28, _)]) (.cons rfl (.cons rfl (.cons rfl (.cons rfl (.cons rfl (.cons rfl (.cons rfl (.cons rfl (.cons rfl (.cons rfl (.cons rfl (.cons rfl (.cons rfl (.cons rfl (.cons rfl (.cons rfl (.cons rfl (.cons rfl .nil)))))))))))))))))) (fun _ h => h) ?_
                    refine VC.reg (VO.l (LO.mv (.r rfl)) rfl <| VO.l (LO.add (.r rfl) (.r rfl) (wi (by omega) (by omega))) rfl <| VO.l (LO.as (.r rfl)) rfl <| VO.nil ?_)
                    refine VE.thenN fun a w ha hw => ⟨(n + 1, (to || z.1), (co || (z.2 && decide (pn = th.px)))), ⟨by dsimp only; omega, to_step hTo fun e => by rw [hth]; exact thS_touch hlk hbd.1 hbd.2.1.1 h111 hpx hn1 hxm (by rw [getD_of hpn]; exact hz.1 e), by dsimp only; rw [hth]; exact cov_pix hCo (getD_of (by rw [List.getElem?_map, hxc]; rfl)) (getD_of hpn) hz.2⟩, (by dsimp only; omega), ha.sub (.cons rfl (.cons rfl (.cons rfl (.cons rfl (.cons rfl (.cons rfl (.cons rfl (.cons rfl (.cons rfl (.cons rfl (.cons rfl (.cons rfl (.cons rfl (.cons rfl (.cons rfl (.cons rfl (.cons rfl (.cons rfl .nil)))))))))))))))))), hw⟩
                  ·
                    refine VC.exit (VE.thenX (VE.thenX (VE.inX (VE.inN (VE.seqN ?_)))))
                    refine VC.reg (VO.l (LO.mv (.r rfl)) rfl <| VO.l (LO.add (.r rfl) (.r rfl) (wi (by omega) (by omega))) rfl <| VO.l (LO.as (.r rfl)) rfl <| VO.nil ?_)
                    refine VE.thenN fun a w ha hw => ⟨(c + 1, to, co), ⟨by dsimp only; omega, hTo, cov_row hCo (by omega)⟩, (by dsimp only; omega), ha.sub (.cons rfl (.cons rfl (.cons rfl (.cons rfl (.cons rfl (.cons rfl (.cons rfl (.cons rfl (.cons rfl (.cons rfl (.cons rfl (.cons rfl (.cons rfl (.cons rfl (.cons rfl (.cons rfl (.cons rfl .nil))))))))))))))))), hw⟩
                ·
                  refine VC.exit (VE.thenX (VE.thenX (VE.inX (VE.seqN ?_))))
                  refine VC.seq ?_
                  refine VC.seq ?_
                  refine VC.reg (VO.l (LO.mv (.r rfl)) rfl <| VO.l (LO.mv (.r rfl)) rfl <| VO.lg rfl rfl (GD.t _) (fun hg => LO.mv (.r rfl)) rfl <| VO.lg rfl rfl (GD.t _) (fun hg => LO.eq (.g hg rfl) (.r rfl)) rfl <| VO.l (LO.pkA (.r rfl) rfl rfl (.r rfl)) rfl <| VO.l (LO.mv (.r rfl)) rfl <| VO.lg rfl rfl (GD.f _) (fun hg => LO.mv (.r rfl)) rfl <| VO.lg rfl rfl (GD.f _) (fun hg => LO.eq (.g hg rfl) (.r rfl)) rfl <| VO.lg rfl rfl (GD.f _) (fun hg => LO.mv (.g hg rfl)) rfl <| VO.lg rfl rfl (GD.nt _ _) (fun hg => LO.mv (.r rfl)) rfl <| VO.lg rfl rfl (GD.nt _ _) (fun hg => LO.mv (.r rfl)) rfl <| VO.lg rfl rfl (GD.nt _ _) (fun hg => LO.eq (.g hg rfl) (.g hg rfl)) rfl <| VO.lg rfl rfl (GD.f _) (fun hg => LO.pkA (.g hg rfl) rfl (and_e hg) (.r rfl)) rfl <| VO.lg rfl rfl (GD.f _) (fun hg => LO.mv (.g hg rfl)) rfl <| VO.lg rfl rfl (GD.nt _ _) (fun hg => LO.mv (.r rfl)) rfl <| VO.lg rfl rfl (GD.nt _ _) (fun hg => LO.not (.g hg rfl)) rfl <| VO.lg rfl rfl (GD.f _) (fun hg => LO.pkA (.g hg rfl) rfl (and_e hg) (.r rfl)) rfl <| VO.l (LO.pkO (.r rfl) (.r rfl) rfl rfl) rfl <| VO.nil ?_)
                  refine VE.seqN ?_
                  refine VC.weak (env' := [(2, _), (8, _), (9, _), (11, _), (12, _), (13, _), (15, _), (17, _), (18, _), (19, _), (20, _), (21, _), (22, _), (24, _), (25, _), (192, _)]) (.cons rfl (.cons rfl (.cons rfl (.cons rfl (.cons rfl (.cons rfl (.cons rfl (.cons rfl (.cons rfl (.cons rfl (.cons rfl (.cons rfl (.cons rfl (.cons rfl (.cons rfl (.cons rfl .nil)))))))))))))))) (fun _ h => h) ?_
                  refine VC.cond rfl (fun h192 => ?_) (fun h192 => ?_)
                  ·
                    (exfalso; exact n192 hTo (fun e1 e2 => cov_end hCo (by rw [List.length_map]; omega) hlk hbd.1 hbd.2.1.1 hpx (by rw [← hth]; exact e1) (by rw [← hth]; exact e2)) h192)
                  ·
                    refine VC.skip (VE.seqN ?_)
                    refine VC.seq ?_
                    refine VC.seq ?_
                    refine VC.reg (VO.l (LO.mv (.r rfl)) rfl <| VO.l (LO.not (.r rfl)) rfl <| VO.nil ?_)
                    refine VE.seqN ?_
                    refine VC.cond rfl (fun h194 => ?_) (fun h194 => ?_)
                    ·
                      refine VC.exit (VE.thenX (VE.inX (VE.seqN ?_)))
                      refine VC.reg (VO.l (LO.mv (.r rfl)) rfl <| VO.l (LO.fa (r := 6) F28_2 (.r rfl) rfl) rfl <| VO.l (LO.fa (r := 7) F26_1 (.r rfl) rfl) rfl <| VO.l (LO.ld O3 (.r rfl) (cells_keep (sub_cells (off := 7) hSp ⟨_, rfl⟩))) rfl <| VO.l (LO.add (.r rfl) (.r rfl) (wi (by omega) (by omega))) rfl <| VO.l (LO.as (.r rfl)) rfl <| VO.nil ?_)
                      refine VE.thenN fun a w ha hw => ⟨m + 1, (by rw [mul_s]; omega), (by rw [mul_s]; omega), ha.sub (.cons (congrArg (fun z => some (Value.int .i64 z)) mul_s.symm) (.cons rfl (.cons rfl (.cons rfl (.cons rfl (.cons rfl (.cons rfl (.cons rfl (.cons rfl (.cons rfl (.cons rfl (.cons rfl (.cons rfl (.cons rfl .nil)))))))))))))), hw⟩
                    ·
                      refine VC.skip (VE.seqN ?_)
                      refine VC.seq ?_
                      refine VC.reg (VO.l (LO.mv (.r rfl)) rfl <| VO.l (LO.as (.r rfl)) rfl <| VO.nil ?_)
                      refine VE.seqN ?_
                      refine VC.block ?_
                      refine VC.loopK (α := Nat) 0 (fun gx => [(31, .int .i64 (gx : Nat))]) [(2, _), (8, _), (9, _), (11, _), (12, _), (13, _), (15, _), (17, _), (18, _), (19, _), (20, _), (21, _), (22, _), (24, _)] (fun gx => []) (fun gx => i ≤ gx ∧ gx ≤ bs.length) (fun gx => bs.length - gx) i (by exact ⟨Nat.le_refl _, by omega⟩) (.cons rfl (.cons rfl (.cons rfl (.cons rfl (.cons rfl (.cons rfl (.cons rfl (.cons rfl (.cons rfl (.cons rfl (.cons rfl (.cons rfl (.cons rfl (.cons rfl (.cons rfl .nil))))))))))))))) (fun _ h => h) ?_
                      rintro j ⟨hij, hj⟩
                      refine VC.seq ?_
                      refine VC.seq ?_
                      refine VC.draw mixed (LL.l (LO.mv (.r rfl)) rfl <| LL.l (LO.mv (.r rfl)) rfl <| LL.l (LO.len S55 (.r rfl) rfl) rfl <| LL.l (LO.lt (.r rfl) (.r rfl)) rfl <| LL.l (LO.mv (.r rfl)) rfl <| LL.lg rfl rfl (GD.t _) (fun hg => LO.mv (.r rfl)) rfl <| LL.lg rfl rfl (GD.t _) (fun hg => LO.mv (.r rfl)) rfl <| LL.lg rfl rfl (GD.t _) (fun hg => LO.ixs S55 N3 hTs.sm (.g hg rfl) (.g hg rfl) rfl (by have hz := IsP.yes inferInstance hg; omega)) rfl <| LL.lg rfl rfl (GD.t _) (fun hg => LO.ld O3 (.g hg rfl) (fun w hw => cells_part (off := 0) ((hTs.at 0 (j := j) (by first | omega | (have hz := IsP.yes inferInstance hg; omega))) w hw) ⟨_, rfl⟩)) rfl <| LL.lg rfl rfl (GD.t _) (fun hg => LO.mv (.r rfl)) rfl <| LL.lg rfl rfl (GD.t _) (fun hg => LO.mv (.r rfl)) rfl <| LL.lg rfl rfl (GD.t _) (fun hg => LO.ixs S55 N3 hTs.sm (.g hg rfl) (.g hg rfl) rfl (by omega)) rfl <| LL.lg rfl rfl (GD.t _) (fun hg => LO.ld O3 (.g hg rfl) (fun w hw => cells_part (off := 0) ((hTs.at 0 (j := i) (by first | omega | (have hz := IsP.yes inferInstance hg; omega))) w hw) ⟨_, rfl⟩)) rfl <| LL.lg rfl rfl (GD.t _) (fun hg => LO.fa (r := 6) F28_2 (.r rfl) rfl) rfl <| LL.lg rfl rfl (GD.t _) (fun hg => LO.fa (r := 8) F26_2 (.g hg rfl) rfl) rfl <| LL.lg rfl rfl (GD.t _) (fun hg => LO.ld O3 (.g hg rfl) (cells_keep (sub_cells (off := 8) hSp ⟨_, rfl⟩))) rfl <| LL.lg rfl rfl (GD.t _) (fun hg => LO.add (.g hg rfl) (.g hg rfl) (wi (by omega) (by omega))) rfl <| LL.lg rfl rfl (GD.t _) (fun hg => LO.le (.g hg rfl) (.g hg rfl)) rfl <| LL.l (LO.pkA (.r rfl) rfl rfl (.r rfl)) rfl <| LL.nil) (by kernel_rfl) ?_
                      refine VE.seqN ?_
                      refine VC.weak (env' := [(2, _), (8, _), (9, _), (11, _), (12, _), (13, _), (15, _), (17, _), (18, _), (19, _), (20, _), (21, _), (22, _), (24, _), (31, _), (214, _)]) (.cons rfl (.cons rfl (.cons rfl (.cons rfl (.cons rfl (.cons rfl (.cons rfl (.cons rfl (.cons rfl (.cons rfl (.cons rfl (.cons rfl (.cons rfl (.cons rfl (.cons rfl (.cons rfl .nil)))))))))))))))) (fun _ h => h) ?_
                      refine VC.cond rfl (fun h214 => ?_) (fun h214 => ?_)
                      ·
                        have hj1 : j < bs.length := by omega
                        have hTj : 0 ≤ y.ts.getD j 0 ∧ y.ts.getD j 0 ≤ 4294967296 := hS1.tb _ (by rw [hots]; exact getD_mem (by omega))
                        have hlvl : ∀ r, r ∈ y.o.rc → r.lv.length = y.o.ts.length := fun r hr => by obtain ⟨q, hq⟩ := List.mem_iff_getElem?.1 hr; rw [(hS1.rcs q r hq).2.1, lvL_len, hS1.ts, List.length_map]
                        have hotl : y.o.ts.length ≤ 8 := by rw [hots]; omega
                        have hal2 : (atsL y.o (y.ts.getD j 0)).length = y.o.rc.length := by unfold atsL; rw [List.length_map]
                        refine VC.skip (VE.seqN ?_)
                        refine VC.seq ?_
                        refine VC.block ?_
                        refine VC.seq ?_
                        refine VC.reg (VO.l (LO.mv (.r rfl)) rfl <| VO.l (LO.mv (.r rfl)) rfl <| VO.l (LO.mv (.r rfl)) rfl <| VO.l (LO.ixs S55 N3 hTs.sm (.r rfl) (.r rfl) rfl (by omega)) rfl <| VO.l (LO.ld O3 (.r rfl) (fun w hw => cells_part (off := 0) ((hTs.at 0 (j := j) (by first | omega | (have hz := IsP.yes inferInstance hg; omega))) w hw) ⟨_, rfl⟩)) rfl <| VO.h rfl <| HO.callx (xs := [_, _]) (vs := [_, _]) C28 ⟨(.r rfl), (.r rfl), trivial⟩ (fun w hw => At_o y.o (y.ts.getD j 0) w (by omega) (by omega) hlvl (by omega) (hS1.inc.imp Int.le_of_lt) hTj.1 hTj.2 (hOff.keep hw)) fun xa _ => VO.h rfl <| HO.lo (LO.mv (.r rfl)) <| VO.h rfl <| HO.lo (LO.ex (.r rfl) rfl) <| VO.h rfl <| HO.lo (LO.ex (.r rfl) rfl) <| VO.h rfl <| HO.lo (LO.as (.r rfl)) <| VO.h rfl <| HO.lo (LO.as (.r rfl)) <| VO.nil ?_)
                        refine VE.seqN ?_
                        refine VC.weak (env' := [(2, _), (8, _), (9, _), (11, _), (12, _), (13, _), (15, _), (17, _), (18, _), (19, _), (20, _), (21, _), (22, _), (24, _), (31, _), (32, _), (33, _)]) (.cons rfl (.cons rfl (.cons rfl (.cons rfl (.cons rfl (.cons rfl (.cons rfl (.cons rfl (.cons rfl (.cons rfl (.cons rfl (.cons rfl (.cons rfl (.cons rfl (.cons rfl (.cons rfl (.cons rfl .nil))))))))))))))))) (fun _ h => h) ?_
                        refine VC.seq ?_
                        refine VC.reg (VO.l (LO.mv (.r rfl)) rfl <| VO.l (LO.ne (.r rfl) (.r rfl)) rfl <| VO.l (LO.mv (.r rfl)) rfl <| VO.lg rfl rfl (GD.f _) (fun hg => LO.mv (.r rfl)) rfl <| VO.lg rfl rfl (GD.f _) (fun hg => LO.len S55 (.g hg rfl) rfl) rfl <| VO.lg rfl rfl (GD.f _) (fun hg => LO.fa (r := 5) F28_1 (.r rfl) rfl) rfl <| VO.lg rfl rfl (GD.f _) (fun hg => LO.ld O24 (.g hg rfl) (cells_keep (sub_cells (off := 5) hSp ⟨_, rfl⟩))) rfl <| VO.lg rfl rfl (GD.f _) (fun hg => LO.len S24 (.g hg rfl) rfl) rfl <| VO.lg rfl rfl (GD.f _) (fun hg => LO.ne (.g hg rfl) (.g hg rfl)) rfl <| VO.l (LO.pkO (.r rfl) (.r rfl) rfl rfl) rfl <| VO.l (LO.mv (.r rfl)) rfl <| VO.lg rfl rfl (GD.f _) (fun hg => LO.mv (.r rfl)) rfl <| VO.lg rfl rfl (GD.f _) (fun hg => LO.mv (.r rfl)) rfl <| VO.lg rfl rfl (GD.f _) (fun hg => LO.ixo S55 N3 (fun _ hw => (own_rows hw 0 rfl).some (by rw [List.length_map])) (.g hg rfl) (.g hg rfl) rfl (by omega)) rfl <| VO.lg rfl rfl (GD.f _) (fun hg => LO.ld O3 (.g hg rfl) (fun w hw => cells_part (off := 0) (own_cell hw 0 rfl (getD_some (d := (0 : Int)) (by omega))) ⟨_, rfl⟩)) rfl <| VO.lg rfl rfl (GD.f _) (fun hg => LO.eq (.g hg rfl) (.r rfl)) rfl <| VO.l (LO.pkO (.r rfl) (.r rfl) rfl rfl) rfl <| VO.nil ?_)
                        refine VE.seqN ?_
                        refine VC.weak (env' := [(2, _), (8, _), (9, _), (11, _), (12, _), (13, _), (15, _), (17, _), (18, _), (19, _), (20, _), (21, _), (22, _), (24, _), (31, _), (242, _)]) (.cons rfl (.cons rfl (.cons rfl (.cons rfl (.cons rfl (.cons rfl (.cons rfl (.cons rfl (.cons rfl (.cons rfl (.cons rfl (.cons rfl (.cons rfl (.cons rfl (.cons rfl (.cons rfl .nil)))))))))))))))) (fun _ h => h) ?_
                        refine VC.cond rfl (fun h242 => ?_) (fun h242 => ?_)
                        ·
                          (exfalso; exact n242 (by unfold atsL; rw [List.length_map]; omega) (by rw [← hots]; exact hold_at hS1 (i := i) (j := j) (k := k) (stB_get hi1) hij (by rw [stB_len]; omega) (by omega) (by rw [hots, hhold]; exact h214.2) (by show 0 < ((thsP (drSp d) _).getD k zT).lv; rw [ths_get hkd, hrkp, getD_of hbx, ← hqb.1, ← hth]; exact thP hth hTo h194)) h242)
                        ·
                          refine VC.skip (VE.inN (VE.seqN ?_))
                          refine VC.reg (VO.l (LO.mv (.r rfl)) rfl <| VO.l (LO.add (.r rfl) (.r rfl) (wi (by omega) (by omega))) rfl <| VO.l (LO.as (.r rfl)) rfl <| VO.nil ?_)
                          refine VE.thenN fun a w ha hw => ⟨j + 1, ⟨by omega, by omega⟩, (by omega), ha.sub (.cons rfl (.cons rfl (.cons rfl (.cons rfl (.cons rfl (.cons rfl (.cons rfl (.cons rfl (.cons rfl (.cons rfl (.cons rfl (.cons rfl (.cons rfl (.cons rfl (.cons rfl .nil))))))))))))))), hw.sel [1] rfl⟩
                      ·
                        refine VC.exit (VE.thenX (VE.thenX (VE.inX (VE.inN (VE.seqN ?_)))))
                        refine VC.reg (VO.l (LO.mv (.r rfl)) rfl <| VO.l (LO.fa (r := 6) F28_2 (.r rfl) rfl) rfl <| VO.l (LO.fa (r := 7) F26_1 (.r rfl) rfl) rfl <| VO.l (LO.ld O3 (.r rfl) (cells_keep (sub_cells (off := 7) hSp ⟨_, rfl⟩))) rfl <| VO.l (LO.add (.r rfl) (.r rfl) (wi (by omega) (by omega))) rfl <| VO.l (LO.as (.r rfl)) rfl <| VO.nil ?_)
                        refine VE.thenN fun a w ha hw => ⟨m + 1, (by rw [mul_s]; omega), (by rw [mul_s]; omega), ha.sub (.cons (congrArg (fun z => some (Value.int .i64 z)) mul_s.symm) (.cons rfl (.cons rfl (.cons rfl (.cons rfl (.cons rfl (.cons rfl (.cons rfl (.cons rfl (.cons rfl (.cons rfl (.cons rfl (.cons rfl (.cons rfl .nil)))))))))))))), hw⟩
              ·
                refine VC.exit (VE.thenX (VE.thenX (VE.inX (VE.inN (VE.seqN ?_)))))
                refine VC.reg (VO.l (LO.mv (.r rfl)) rfl <| VO.l (LO.add (.r rfl) (.r rfl) (wi (by omega) (by omega))) rfl <| VO.l (LO.as (.r rfl)) rfl <| VO.nil ?_)
                refine VE.thenN fun a w ha hw => ⟨k + 1, (by omega), (by omega), ha.sub (.cons rfl (.cons rfl (.cons rfl (.cons rfl (.cons rfl (.cons rfl (.cons rfl (.cons rfl (.cons rfl (.cons rfl .nil)))))))))), hw⟩
          ·
            refine VC.exit (VE.thenX (VE.thenX (VE.inX (VE.inN (VE.seqN ?_)))))
            refine VC.reg (VO.l (LO.mv (.r rfl)) rfl <| VO.l (LO.add (.r rfl) (.r rfl) (wi (by omega) (by omega))) rfl <| VO.l (LO.as (.r rfl)) rfl <| VO.nil ?_)
            refine VE.thenN fun a w ha hw => ⟨i + 1, (by omega), (by omega), ha.sub (.cons rfl (.cons rfl (.cons rfl (.cons rfl (.cons rfl (.cons rfl (.cons rfl (.cons rfl .nil)))))))), hw.sel [] rfl⟩
        ·
          refine VC.exit (VE.thenX (VE.thenX (VE.inX (VE.seqN ?_))))
          refine VC.seq ?_
          refine VC.reg (VO.l (LO.call (xs := []) (vs := []) C14 trivial (fun w _ => works_c w)) rfl <| VO.l (LO.as (.r rfl)) rfl <| VO.nil ?_)
          refine VE.seqN ?_
          refine VC.ret (VE.res (vs := [_]) rfl ⟨rfl, trivial⟩ (fun w hw => ?_))
          first | exact ⟨rfl, hw1.based hw⟩ | exact ⟨rfl, hw.nil⟩

end Go.Proofs.Ytdjflomhaljljaa

namespace Go.Proofs.Ytdjflomhaljljaa
open Go.SL Go.Proofs Go.Cast
set_option linter.unusedVariables false


section
variable {H : Type} {enc : TypeId × Value → H} {W : World}
end

end Go.Proofs.Ytdjflomhaljljaa

namespace Go.Proofs.Ytdjflomhaljljaa
open Go.SL Go.Proofs Go.Cast
set_option linter.unusedVariables false


theorem kb_u8 {n : Int} (h : kb .u8 n) : 0 ≤ n ∧ n ≤ 255 := by simpa [kb, IntKind.min, IntKind.max, IntKind.signed, IntKind.bits] using h
theorem kb_u16 {n : Int} (h : kb .u16 n) : 0 ≤ n ∧ n ≤ 65535 := by simpa [kb, IntKind.min, IntKind.max, IntKind.signed, IntKind.bits] using h
theorem kb_i16 {n : Int} (h : kb .i16 n) : -32768 ≤ n ∧ n ≤ 32767 := by simpa [kb, IntKind.min, IntKind.max, IntKind.signed, IntKind.bits] using h
theorem K5 : Try.prog.cellsOf 5 = 1 := by kernel_rfl
theorem K45 : Try.prog.cellsOf 45 = 20 := by kernel_rfl
theorem K46 : Try.prog.cellsOf 46 = 1 := by kernel_rfl
theorem K145 : Try.prog.cellsOf 145 = 1 := by kernel_rfl
theorem K146 : Try.prog.cellsOf 146 = 2 := by kernel_rfl
theorem K148 : Try.prog.cellsOf 148 = 25 := by kernel_rfl
theorem K66 : Try.prog.cellsOf 66 = 4 := by kernel_rfl

theorem flat_one {α : Type} {f : α → Value} : ∀ (l : List α), ((l.map fun x => [f x]).flatten) = l.map f
  | [] => rfl
  | x :: l => by simp [flat_one l]
section
variable {H : Type} {enc : TypeId × Value → H} {W : World}
theorem rd4b : RD enc Try.prog W 4 fun cs => ∃ b, cs = [.bool b] := RD.bool Try.underlying4
theorem rd5 : RD enc Try.prog W 5 fun cs => ∃ n, cs = [.int .u8 n] ∧ kb .u8 n := RD.int Try.underlying5
theorem rd46 : RD enc Try.prog W 46 fun cs => ∃ n, cs = [.int .u16 n] ∧ kb .u16 n := RD.int Try.underlying46
theorem rd145 : RD enc Try.prog W 145 fun cs => ∃ n, cs = [.int .i16 n] ∧ kb .i16 n := RD.int Try.underlying145

theorem rd45 : RD enc Try.prog W 45 fun cs => ∃ px : List Int, cs = px.map u8V ∧ px.length = 20 ∧ ∀ n, n ∈ px → U8 n := fun n cs x hx => by
  obtain ⟨css, rfl, hlen, hp⟩ := trod_cells Try.underlying45 K5 K45 hx rd5
  obtain ⟨l, rfl, hl⟩ := rows_map (f := fun n => [u8V n]) (Q := U8) (fun r hr => by obtain ⟨_, m, h1, h2⟩ := hp r hr; exact ⟨m, h1, kb_u8 h2⟩)
  exact ⟨l, flat_one l, by simpa using hlen, hl⟩
theorem rd146 : RD enc Try.prog W 146 fun cs => ∃ a b : Int, cs = [.int .i16 a, .int .i16 b] ∧ I16 a ∧ I16 b := fun n cs x hx => by
  obtain ⟨css, rfl, hlen, hp⟩ := trod_cells Try.underlying146 K145 K146 hx rd145
  match css, hlen with
  | [c0, c1], _ =>
    obtain ⟨_, a, rfl, ha⟩ := hp c0 (by simp)
    obtain ⟨_, b, rfl, hb⟩ := hp c1 (by simp)
    exact ⟨a, b, rfl, kb_i16 ha, kb_i16 hb⟩
theorem rd48 : RD enc Try.prog W 48 fun cs => ∃ d : DrM, cs = d.cells ∧ d.ok := fun n cs x hx => by
  obtain ⟨css, rfl, hlen, _, hp⟩ := trod_parts Try.underlying48 (zs := [20, 1, 1, 1]) (by kernel_rfl) rfl (by kernel_rfl) hx
  match css, hlen with
  | [c0, c1, c2, c3], _ =>
    obtain ⟨_, _, h0⟩ := hp 0 _ c0 rfl rfl
    obtain ⟨_, _, h1⟩ := hp 1 _ c1 rfl rfl
    obtain ⟨_, _, h2⟩ := hp 2 _ c2 rfl rfl
    obtain ⟨_, _, h3⟩ := hp 3 _ c3 rfl rfl
    obtain ⟨px, rfl, hl, hu⟩ := rd45 _ _ _ h0
    obtain ⟨a, rfl, ha⟩ := rd46 _ _ _ h1
    obtain ⟨b, rfl, hb⟩ := rd46 _ _ _ h2
    obtain ⟨c, rfl, hc⟩ := rd46 _ _ _ h3
    exact ⟨⟨px, a, b, c⟩, by simp, hl, hu, kb_u16 ha, kb_u16 hb, kb_u16 hc⟩
theorem rd148 : RD enc Try.prog W 148 fun cs => ∃ c : ClM, cs = c.cells ∧ c.ok := fun n cs x hx => by
  obtain ⟨css, rfl, hlen, _, hp⟩ := trod_parts Try.underlying148 (zs := [20, 2, 2, 1]) (by kernel_rfl) rfl (by kernel_rfl) hx
  match css, hlen with
  | [c0, c1, c2, c3], _ =>
    obtain ⟨_, _, h0⟩ := hp 0 _ c0 rfl rfl
    obtain ⟨_, _, h1⟩ := hp 1 _ c1 rfl rfl
    obtain ⟨_, _, h2⟩ := hp 2 _ c2 rfl rfl
    obtain ⟨_, _, h3⟩ := hp 3 _ c3 rfl rfl
    obtain ⟨px, rfl, hl, hu⟩ := rd45 _ _ _ h0
    obtain ⟨a, b, rfl, ha, hb⟩ := rd146 _ _ _ h1
    obtain ⟨c, d, rfl, hc, hd⟩ := rd146 _ _ _ h2
    obtain ⟨g, rfl, hg⟩ := rd5 _ _ _ h3
    exact ⟨⟨px, a, b, c, d, g⟩, by simp, hl, hu, ha, hb, hc, hd, kb_u8 hg⟩
theorem rd66 : RD enc Try.prog W 66 fun cs => ∃ b : BtM, cs = b.cells ∧ b.ok := fun n cs x hx => by
  obtain ⟨css, rfl, hlen, _, hp⟩ := trod_parts Try.underlying66 (zs := [1, 1, 1, 1]) (by kernel_rfl) rfl (by kernel_rfl) hx
  match css, hlen with
  | [c0, c1, c2, c3], _ =>
    obtain ⟨_, _, h0⟩ := hp 0 _ c0 rfl rfl
    obtain ⟨_, _, h1⟩ := hp 1 _ c1 rfl rfl
    obtain ⟨_, _, h2⟩ := hp 2 _ c2 rfl rfl
    obtain ⟨_, _, h3⟩ := hp 3 _ c3 rfl rfl
    obtain ⟨a, rfl, ha⟩ := rd46 _ _ _ h0
    obtain ⟨b, rfl, hb⟩ := rd5 _ _ _ h1
    obtain ⟨c, rfl, hc⟩ := rd5 _ _ _ h2
    obtain ⟨d, rfl⟩ := rd4b _ _ _ h3
    exact ⟨⟨a, b, c, d⟩, rfl, kb_u16 ha, kb_u8 hb, kb_u8 hc⟩
theorem rd49 : RD enc Try.prog W 49 fun cs => ∃ (p : Option Addr) (cap : Nat) (l : List ClM), cs = [.slice p l.length cap] ∧ ClsM W p l := fun n cs x hx => by
  obtain ⟨p, cap, rows, rfl, h1, h2, h3⟩ := RD.slice Try.underlying49 K148 (by decide) rd148 _ _ _ hx
  obtain ⟨l, rfl, h5⟩ := rows_map (f := ClM.cells) (Q := ClM.ok) (fun r hr => by obtain ⟨x, h6, h7⟩ := (h3 r hr).2; exact ⟨x, h6, h7⟩)
  exact ⟨p, cap, l, by simp, h2, h5⟩
theorem rd50 : RD enc Try.prog W 50 fun cs => ∃ (p : Option Addr) (cap : Nat) (l : List BtM), cs = [.slice p l.length cap] ∧ BtsM W p l := fun n cs x hx => by
  obtain ⟨p, cap, rows, rfl, h1, h2, h3⟩ := RD.slice Try.underlying50 K66 (by decide) rd66 _ _ _ hx
  obtain ⟨l, rfl, h5⟩ := rows_map (f := BtM.cells) (Q := BtM.ok) (fun r hr => by obtain ⟨x, h6, h7⟩ := (h3 r hr).2; exact ⟨x, h6, h7⟩)
  exact ⟨p, cap, l, by simp, h2, h5⟩
end

end Go.Proofs.Ytdjflomhaljljaa

namespace Go.Proofs.Ytdjflomhaljljaa
open Go.SL Go.Proofs Go.Cast
set_option linter.unusedVariables false


theorem K86 : Try.prog.cellsOf 86 = 20 := by kernel_rfl
theorem K87 : Try.prog.cellsOf 87 = 2 := by kernel_rfl
theorem K4t : Try.prog.cellsOf 4 = 1 := by kernel_rfl

section
variable {H : Type} {enc : TypeId × Value → H} {W : World}
theorem rd86 : RD enc Try.prog W 86 fun cs => ∃ al : List Bool, cs = al.map boV ∧ al.length = 20 := fun n cs x hx => by
  obtain ⟨css, rfl, hlen, hp⟩ := trod_cells Try.underlying86 K4t K86 hx rd4b
  obtain ⟨l, rfl, _⟩ := rows_map (f := fun b : Bool => [boV b]) (Q := fun _ => True) (fun r hr => by obtain ⟨_, m, h1⟩ := hp r hr; exact ⟨m, h1, trivial⟩)
  exact ⟨l, flat_one l, by simpa using hlen⟩
theorem rd87 : RD enc Try.prog W 87 fun cs => ∃ a b : Int, cs = [.int .u16 a, .int .u16 b] ∧ (0 ≤ a ∧ a ≤ 65535) ∧ (0 ≤ b ∧ b ≤ 65535) := fun n cs x hx => by
  obtain ⟨css, rfl, hlen, hp⟩ := trod_cells Try.underlying87 K46 K87 hx rd46
  match css, hlen with
  | [c0, c1], _ =>
    obtain ⟨_, a, rfl, ha⟩ := hp c0 (by simp)
    obtain ⟨_, b, rfl, hb⟩ := hp c1 (by simp)
    exact ⟨a, b, rfl, kb_u16 ha, kb_u16 hb⟩
end

end Go.Proofs.Ytdjflomhaljljaa
