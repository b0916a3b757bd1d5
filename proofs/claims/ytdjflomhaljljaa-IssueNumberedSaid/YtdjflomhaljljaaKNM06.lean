/-
  Drafts are made.
  Clouds by numbers, and beats.
  What a reading says of the arguments of the laws about offices.
  Readings of drafts, clouds by numbers, and beats.
  Drafts make valid services, and clouds by numbers are valid.
  Offices that have made their steps.
  What IssueNumbered rests on, in plain words.
  The steps of a draft, event by event.
  IssueThreats is walked.
  Frames of the laws about drafts.
  The last part of IssueNumbered.
-/
import Derived.Test.YtdjflomhaljljaaKNM05

namespace Go.Proofs.Ytdjflomhaljljaa
open Go.SL Go.Proofs Go.Cast
set_option linter.unusedVariables false

theorem Z23 : ZeroOf Try.prog 23 (.agg #[.int .i64 0, .int .i64 0, .int .i64 0, .int .i64 0, .int .i64 0]) := by unfold ZeroOf; kernel_rfl
theorem N23 : (Try.prog.info? 23).map (·.size) = some 5 := by kernel_rfl
theorem C51 : IsFn Try.prog 51 := ⟨_, Try.func51, by decide, rfl⟩
theorem F48_1 : FieldAt Try.prog 48 1 20 := ⟨_, _, Try.underlying48, rfl, rfl, 0, by kernel_rfl⟩
theorem O46 : IsOne Try.prog 46 := ⟨⟨_, Try.underlying46, rfl⟩, by kernel_rfl⟩
theorem F48_2 : FieldAt Try.prog 48 2 21 := ⟨_, _, Try.underlying48, rfl, rfl, 0, by kernel_rfl⟩
theorem F48_3 : FieldAt Try.prog 48 3 22 := ⟨_, _, Try.underlying48, rfl, rfl, 0, by kernel_rfl⟩
theorem S143 : IsSlice Try.prog 143 9 := Try.underlying143
theorem Z9 : ZeroOf Try.prog 9 (.string ByteArray.empty) := by unfold ZeroOf; kernel_rfl
theorem N9 : (Try.prog.info? 9).map (·.size) = some 1 := by kernel_rfl
theorem F48_0 : FieldAt Try.prog 48 0 0 := ⟨_, _, Try.underlying48, rfl, rfl, 19, by kernel_rfl⟩
theorem N5 : (Try.prog.info? 5).map (·.size) = some 1 := by kernel_rfl
theorem O5 : IsOne Try.prog 5 := ⟨⟨_, Try.underlying5, rfl⟩, by kernel_rfl⟩


abbrev u8V (n : Int) : Value := .int .u8 n
def U8 (n : Int) : Prop := 0 ≤ n ∧ n ≤ 255
def U16 (n : Int) : Prop := 0 ≤ n ∧ n ≤ 65535
def I16 (n : Int) : Prop := -32768 ≤ n ∧ n ≤ 32767
/-- A draft. -/
structure DrM where
  px : List Int
  a : Int
  b : Int
  c : Int
abbrev DrM.cells (d : DrM) : List Value := d.px.map u8V ++ [.int .u16 d.a, .int .u16 d.b, .int .u16 d.c]
def DrM.ok (d : DrM) : Prop := d.px.length = 20 ∧ (∀ n, n ∈ d.px → U8 n) ∧ U16 d.a ∧ U16 d.b ∧ U16 d.c
theorem DrM.at (d : DrM) (h : d.px.length = 20) (k : Nat) (v : Value) (hk : [.int .u16 d.a, .int .u16 d.b, .int .u16 d.c][k]? = some v) : ∃ r, d.cells.toArray.toList.drop (20 + k) = [v] ++ r := by
  show ∃ r, (d.px.map u8V ++ _).drop (20 + k) = _
  have h2 : (d.px.map u8V).length = 20 := by simpa using h
  rw [← h2, List.drop_length_add_append]
  match k with
  | 0 => cases hk; exact ⟨_, rfl⟩
  | 1 => cases hk; exact ⟨_, rfl⟩
  | 2 => cases hk; exact ⟨_, rfl⟩
  | k + 3 => simp at hk
theorem px_at {px : List Int} {rest : List Value} {p : Nat} (h : p < px.length) : ∃ r, (px.map u8V ++ rest).toArray.toList.drop p = [u8V (px.getD p 0)] ++ r := by
  show ∃ r, (px.map u8V ++ rest).drop p = _
  rw [List.drop_append_of_le_length (by simp; omega), ← List.map_drop, List.drop_eq_getElem_cons h]
  refine ⟨(px.drop (p + 1)).map u8V ++ rest, ?_⟩
  have e : px.getD p 0 = px[p] := by rw [List.getD_eq_getElem?_getD, List.getElem?_eq_getElem h]; rfl
  rw [e]; rfl
theorem u8_at {px : List Int} (h : ∀ n, n ∈ px → U8 n) {p : Nat} (hp : p < px.length) : 0 ≤ px.getD p 0 ∧ px.getD p 0 ≤ 255 := h _ (getD_mem hp)
def gD : Grid := ⟨0, 0, 1000, 5, 4⟩
def nmB (n : UInt8) : ByteArray := ⟨#[n]⟩
def nmS (i : Nat) : ByteArray := [nmB 97, nmB 98, nmB 99].getD i ByteArray.empty
theorem nm_at {i : Nat} (h : i < 3) : ∃ r, [Value.string (nmB 97), .string (nmB 98), .string (nmB 99)].drop (0 + i * 1) = [.string (nmS i)] ++ r := by
  match i, h with
  | 0, _ => exact ⟨_, rfl⟩
  | 1, _ => exact ⟨_, rfl⟩
  | 2, _ => exact ⟨_, rfl⟩
/-- A pixel is in a region. -/
def drIn (d : DrM) (i p : Nat) : Prop := (d.px.getD p 0).fdiv (2 ^ (Min.min (i : Int).toNat 64)) % 2 = 1 ∨ (i : Int) = 0 ∧ (d.px.getD p 0).tmod 8 = 0
instance (d : DrM) (i p : Nat) : Decidable (drIn d i p) := by unfold drIn; infer_instance
def drPx (d : DrM) (i n : Nat) : List Int := ((List.range n).filter fun p => decide (drIn d i p)).map Int.ofNat
theorem drPx_y {d : DrM} {i n : Nat} (h : drIn d i n) : drPx d i (n + 1) = drPx d i n ++ [(n : Int)] := by
  unfold drPx; rw [List.range_succ, List.filter_append, List.map_append]; simp [h]
theorem drPx_n {d : DrM} {i n : Nat} (h : ¬ drIn d i n) : drPx d i (n + 1) = drPx d i n := by
  unfold drPx; rw [List.range_succ, List.filter_append]; simp [h]
theorem drPx_len {d : DrM} {i n : Nat} : (drPx d i n).length ≤ n := by
  unfold drPx
  rw [List.length_map]
  have := List.length_filter_le (fun p => decide (drIn d i p)) (List.range n)
  simpa using this
/-- The first regions of a draft. -/
def drRegs (d : DrM) : Nat → List Reg
  | 0 => []
  | i + 1 => if drPx d i 20 = [] then drRegs d i else drRegs d i ++ [⟨nmS i, drPx d i 20⟩]
theorem drRegs_len {d : DrM} : ∀ i, (drRegs d i).length ≤ i
  | 0 => Nat.le_refl _
  | i + 1 => by
    have := drRegs_len (d := d) i
    unfold drRegs; split
    · omega
    · simp; omega
theorem drRegs_y {d : DrM} {i : Nat} (h : drPx d i 20 ≠ []) : drRegs d (i + 1) = drRegs d i ++ [⟨nmS i, drPx d i 20⟩] := by
  conv => lhs; unfold drRegs
  rw [if_neg h]
theorem drRegs_n {d : DrM} {i : Nat} (h : drPx d i 20 = []) : drRegs d (i + 1) = drRegs d i := by
  conv => lhs; unfold drRegs
  rw [if_pos h]
def drA (d : DrM) : Int := d.a.tmod 301
def drB (d : DrM) : Int := 30 + d.b.tmod 120
def drC (d : DrM) : Int := d.c.tmod 400
def drSp (d : DrM) : Sp := ⟨gD, drRegs d 3, drA d, drB d, drC d⟩
theorem tm {n m : Int} (h : 0 ≤ n) (hm : 0 < m) : 0 ≤ n.tmod m ∧ n.tmod m < m := ⟨Int.tmod_nonneg _ h, Int.tmod_lt_of_pos _ hm⟩
theorem dr_bd {d : DrM} (h : d.ok) : (0 ≤ drA d ∧ drA d ≤ 300) ∧ (30 ≤ drB d ∧ drB d ≤ 149) ∧ (0 ≤ drC d ∧ drC d ≤ 399) := by
  obtain ⟨_, _, h1, h2, h3⟩ := h
  have q1 := tm h1.1 (show (0 : Int) < 301 by decide)
  have q2 := tm h2.1 (show (0 : Int) < 120 by decide)
  have q3 := tm h3.1 (show (0 : Int) < 400 by decide)
  unfold drA drB drC
  omega

set_option maxRecDepth 20000 in
theorem grid_c (w : World) :
  Calls Try.prog 51 #[] w fun e w' => e = .returned (.agg #[.int .i64 0, .int .i64 0, .int .i64 1000, .int .i64 5, .int .i64 4]) ∧ St (bs w) [] w' := by
  refine enter (vs := []) (env := []) Try.func51 rfl rfl rfl rfl ?_
  refine VC.seq ?_
  refine VC.reg (VO.h rfl <| HO.alloc (C := #[_, _, _, _, _]) Z23 rfl fun b1 => VO.nil ?_)
  refine VE.seqN ?_
  refine VC.seq ?_
  refine VC.reg (VO.l (LO.bd (ps := [(_, _), (_, _), (_, _)]) (vs := [(_, _), (_, _), (_, _)]) (C := [_, _, _, _, _]) B23  ⟨(.r rfl), (.r rfl), (.r rfl), trivial⟩ rfl ⟨_, [_], [_, _, _, _, _], rfl, rfl, rfl, rfl, ⟨_, [_], [_, _, _, _, _], rfl, rfl, rfl, rfl, ⟨_, [_], [_, _, _, _, _], rfl, rfl, rfl, rfl, rfl⟩⟩⟩) rfl <| VO.h0 <| HO.st 0 (vs := [_, _, _, _, _]) (C' := [_, _, _, _, _]) (L' := [_]) N23 rfl rfl rfl rfl rfl rfl rfl rfl <| VO.nil ?_)
  refine VE.seqN ?_
  refine VC.ret (VE.res (vs := [_]) rfl ⟨RV.agg (vs := [_, _, _, _, _]) A23 rfl (cells_blk 0 rfl ⟨_, rfl⟩) rfl, trivial⟩ (fun w hw => ?_))
  exact ⟨rfl, hw.nil⟩

set_option maxRecDepth 20000 in
theorem dmade_c (d : DrM) (w : World) (hd : d.ok) :
  Calls Try.prog 19 #[.agg d.cells.toArray] w fun e w' => ∃ y : List RG × Option Addr × Nat, y.1.map RG.r = drRegs d 3 ∧ e = .returned (specV gD y.2.1 y.1.length y.2.2 (drA d) (drB d) (drC d)) ∧ St (bs w) [own 74 2 y.2.1 y.2.2 (y.1.map RG.cells), bagD (y.1.map pixR)] w' := by
  obtain ⟨hl20, hu8, hua, hub, huc⟩ := id hd
  have hbd := dr_bd hd
  unfold U16 at hua hub huc
  refine enter (vs := [_]) (env := [(0, _)]) Try.func19 rfl rfl rfl rfl ?_
  refine VC.seq ?_
  refine VC.reg (VO.h rfl <| HO.box (C := d.cells.toArray) rfl rfl fun b1 => VO.h rfl <| HO.alloc (C := #[_, _, _, _, _, _, _, _, _]) Z28 rfl fun b2 => VO.nil ?_)
  refine VE.seqN ?_
  refine VC.seq ?_
  refine VC.drawH [[0, 1], [0, 1], [0, 1]] [some 1, some 1, some 1, some 1, some 1, some 1, some 1, some 1, some 1, some 1, some 1, some 1, some 1, some 1, some 1, some 1, none, none] mixed (by kernel_rfl) rfl (LX.l (fun _ hJ => LO.call (xs := []) (vs := []) C51 trivial (fun w _ => grid_c w)) rfl <| LX.l (fun _ hJ => LO.fa (r := 20) F48_1 (.r rfl) rfl) rfl <| LX.l (fun _ hJ => LO.ld O46 (.r rfl) (fun _ hw => cells_at (hJ _ hw) 1 rfl (d.at hl20 0 _ rfl))) rfl <| LX.l (fun _ hJ => LO.cv ⟨_, Try.underlying46⟩ Try.underlying3 (.r rfl) (wi (by omega) (by omega))) rfl <| LX.l (fun _ hJ => LO.rem (.r rfl) (.r rfl) (by omega)) rfl <| LX.l (fun _ hJ => LO.fa (r := 21) F48_2 (.r rfl) rfl) rfl <| LX.l (fun _ hJ => LO.ld O46 (.r rfl) (fun _ hw => cells_at (hJ _ hw) 1 rfl (d.at hl20 1 _ rfl))) rfl <| LX.l (fun _ hJ => LO.cv ⟨_, Try.underlying46⟩ Try.underlying3 (.r rfl) (wi (by omega) (by omega))) rfl <| LX.l (fun _ hJ => LO.rem (.r rfl) (.r rfl) (by omega)) rfl <| LX.l (fun _ hJ => LO.add (.r rfl) (.r rfl) (wi (by show _ ≤ 30 + d.b.tmod 120; unfold drB at hbd; omega) (by show 30 + d.b.tmod 120 ≤ _; unfold drB at hbd; omega))) rfl <| LX.l (fun _ hJ => LO.fa (r := 22) F48_3 (.r rfl) rfl) rfl <| LX.l (fun _ hJ => LO.ld O46 (.r rfl) (fun _ hw => cells_at (hJ _ hw) 1 rfl (d.at hl20 2 _ rfl))) rfl <| LX.l (fun _ hJ => LO.cv ⟨_, Try.underlying46⟩ Try.underlying3 (.r rfl) (wi (by omega) (by omega))) rfl <| LX.l (fun _ hJ => LO.rem (.r rfl) (.r rfl) (by omega)) rfl <| LX.l (fun _ hJ => LO.bd (ps := [(_, _), (_, _), (_, _)]) (vs := [(_, _), (_, _), (_, _)]) (C := [_, _, _]) B26  ⟨(.r rfl), (.r rfl), (.r rfl), trivial⟩ rfl ⟨_, [_], [_, _, _], rfl, rfl, rfl, rfl, ⟨_, [_], [_, _, _], rfl, rfl, rfl, rfl, ⟨_, [_], [_, _, _], rfl, rfl, rfl, rfl, rfl⟩⟩⟩) rfl <| LX.l (fun _ hJ => LO.bd (ps := [(_, _), (_, _)]) (vs := [(_, _), (_, _)]) (C := [_, _, _, _, _, _, _, _, _]) B28  ⟨(.r rfl), (.r rfl), trivial⟩ rfl ⟨_, [_, _, _, _, _], [_, _, _, _, _, _, _, _, _], rfl, rfl, rfl, rfl, ⟨_, [_, _, _], [_, _, _, _, _, _, _, _, _], rfl, rfl, rfl, rfl, rfl⟩⟩) rfl <| LX.s <| LX.s <| LX.nil) (HX.s <| HX.s <| HX.s <| HX.s <| HX.s <| HX.s <| HX.s <| HX.s <| HX.s <| HX.s <| HX.s <| HX.s <| HX.s <| HX.s <| HX.s <| HX.s <| HX.h rfl <| HO.alloc (C := #[_, _, _, _, _, _, _, _, _]) Z28 rfl fun b5 => ⟨fun _ hw => hw.sel [1, 2] rfl, HX.h0 <| HO.st 0 (vs := [_, _, _, _, _, _, _, _, _]) (C' := [_, _, _, _, _, _, _, _, _]) (L' := [_, _, _]) N28 rfl rfl rfl rfl rfl rfl rfl rfl <| ⟨fun _ hw => hw.sel [1, 2] rfl, HX.nil ?_⟩⟩)
  refine VE.seqN ?_
  refine VC.seq ?_
  refine VC.reg (VO.h rfl <| HO.bs (ps := [(_, _), (_, _), (_, _)]) (vs := [(_, _), (_, _), (_, _)]) (Z := [_, _, _]) (C := [_, _, _]) S143 Z9 N9 ⟨(.r rfl), (.r rfl), (.r rfl), trivial⟩ rfl rfl rfl rfl ⟨_, [_], [_, _, _], rfl, rfl, rfl, rfl, ⟨_, [_], [_, _, _], rfl, rfl, rfl, rfl, ⟨_, [_], [_, _, _], rfl, rfl, rfl, rfl, rfl⟩⟩⟩ fun b7 => VO.h rfl <| HO.lo (LO.as (.r rfl)) <| VO.nil ?_)
  refine VE.seqN ?_
  refine VC.seq ?_
  refine VC.seq ?_
  refine VC.reg (VO.l (LO.as (.r rfl)) rfl <| VO.nil ?_)
  refine VE.seqN ?_
  refine VC.block ?_
  refine VC.perm [1, 0, 2, 3] rfl ?_
  refine VC.loopK (α := Nat × (List RG) × (Option Addr) × Nat) 1 (fun gx => [(5, .int .i64 (gx.1 : Nat))]) [(1, _), (2, _), (3, _), (4, _)] (fun gx => [blk b5 (.cells #[.int .i64 0, .int .i64 0, .int .i64 1000, .int .i64 5, .int .i64 4, .slice gx.2.2.1 gx.2.1.length gx.2.2.2, .int .i64 (drA d), .int .i64 (drB d), .int .i64 (drC d)] 28), own 74 2 gx.2.2.1 gx.2.2.2 (gx.2.1.map RG.cells), bagD (gx.2.1.map pixR)]) (fun gx => gx.1 ≤ 3 ∧ gx.2.1.map RG.r = drRegs d gx.1) (fun gx => 3 - gx.1) (0, [], none, 0) (by exact ⟨Nat.zero_le _, rfl⟩) (.cons rfl (.cons rfl (.cons rfl (.cons rfl (.cons rfl .nil))))) (fun _ h => (((St.bagD (Rs := []) h).ownNil 74 2)).sel [2, 0, 1, 3, 4, 5] rfl) ?_
  rintro ⟨i, rgs, pg_, cg_⟩ ⟨hi, hX⟩
  show VC _ _ _ _ _ ([(5, .int .i64 (i : Nat))] ++ _) ([blk b5 (.cells #[.int .i64 0, .int .i64 0, .int .i64 1000, .int .i64 5, .int .i64 4, .slice pg_ rgs.length cg_, .int .i64 (drA d), .int .i64 (drB d), .int .i64 (drC d)] 28), own 74 2 pg_ cg_ (rgs.map RG.cells), bagD (rgs.map pixR)] ++ _) _ _
  dsimp only at hi hX
  have hgl : rgs.length ≤ i := by rw [← List.length_map (f := RG.r), hX]; exact drRegs_len i
  refine VC.seq ?_
  refine VC.seq ?_
  refine VC.reg (VO.l (LO.mv (.r rfl)) rfl <| VO.l (LO.lt (.r rfl) (.r rfl)) rfl <| VO.nil ?_)
  refine VE.seqN ?_
  refine VC.cond rfl (fun h26 => ?_) (fun h26 => ?_)
  ·
    refine VC.skip (VE.seqN ?_)
    refine VC.seq ?_
    refine VC.block ?_
    refine VC.seq ?_
    refine VC.reg (VO.l (LO.mv (.r rfl)) rfl <| VO.l (LO.mv (.r rfl)) rfl <| VO.l (LO.ix (j := i) S143 N9 (.r rfl) (.r rfl) (by omega)) rfl <| VO.l (LO.ld O9 (.r rfl) (fun _ hw => cells_at hw 3 rfl (nm_at (by omega)))) rfl <| VO.l (LO.bd (ps := [(_, _)]) (vs := [(_, _)]) (C := [_, _]) B74  ⟨(.r rfl), trivial⟩ rfl ⟨_, [_], [_, _], rfl, rfl, rfl, rfl, rfl⟩) rfl <| VO.h rfl <| HO.alloc (C := #[_, _]) Z74 rfl fun b11 => VO.h0 <| HO.st 0 (vs := [_, _]) (C' := [_, _]) (L' := [_, _, _, _, _, _, _]) N74 rfl rfl rfl rfl rfl rfl rfl rfl <| VO.nil ?_)
    refine VE.seqN ?_
    refine VC.seq ?_
    refine VC.seq ?_
    refine VC.reg (VO.l (LO.as (.r rfl)) rfl <| VO.nil ?_)
    refine VE.seqN ?_
    refine VC.block ?_
    refine VC.loopK (α := Nat × (List Int) × (Option Addr) × Nat) 1 (fun gx => [(7, .int .i64 (gx.1 : Nat))]) [(1, _), (2, _), (3, _), (4, _), (5, _), (6, _)] (fun gx => [blk b11 (.cells #[.string (nmS i), .slice gx.2.2.1 gx.2.1.length gx.2.2.2] 74), own 3 1 gx.2.2.1 gx.2.2.2 (gx.2.1.map iC)]) (fun gx => gx.1 ≤ 20 ∧ gx.2.1 = drPx d i gx.1) (fun gx => 20 - gx.1) (0, [], none, 0) (by exact ⟨Nat.zero_le _, rfl⟩) (.cons rfl (.cons rfl (.cons rfl (.cons rfl (.cons rfl (.cons rfl (.cons rfl .nil))))))) (fun _ h => ((h.ownNil 3 1)).sel [1, 0, 2, 3, 4, 5, 6, 7] rfl) ?_
    rintro ⟨p, xs, px_, cx_⟩ ⟨hp, hx⟩
    show VC _ _ _ _ _ ([(7, .int .i64 (p : Nat))] ++ _) ([blk b11 (.cells #[.string (nmS i), .slice px_ xs.length cx_] 74), own 3 1 px_ cx_ (xs.map iC)] ++ _) _ _
    dsimp only at hp hx
    have hxl : xs.length ≤ p := by rw [hx]; exact drPx_len
    refine VC.seq ?_
    refine VC.seq ?_
    refine VC.reg (VO.l (LO.mv (.r rfl)) rfl <| VO.l (LO.lt (.r rfl) (.r rfl)) rfl <| VO.nil ?_)
    refine VE.seqN ?_
    refine VC.cond rfl (fun h35 => ?_) (fun h35 => ?_)
    ·
      have hpx := u8_at hu8 (p := p) (by omega)
      refine VC.skip (VE.seqN ?_)
      refine VC.seq ?_
      refine VC.block ?_
      refine VC.seq ?_
      refine VC.reg (VO.l (LO.mv (.r rfl)) rfl <| VO.l (LO.fa (r := 0) F48_0 (.r rfl) rfl) rfl <| VO.l (LO.ixa (j := p) (r := p) Try.underlying45 N5 (.r rfl) (.r rfl) rfl (by omega) (by omega)) rfl <| VO.l (LO.ld O5 (.r rfl) (fun _ hw => cells_at hw 7 rfl (px_at (by omega)))) rfl <| VO.l (LO.cv ⟨_, Try.underlying5⟩ Try.underlying3 (.r rfl) (wi (by omega) (by omega))) rfl <| VO.l (LO.mv (.r rfl)) rfl <| VO.l (LO.shr (.r rfl) (.r rfl) (by omega)) rfl <| VO.l (LO.and1 (.r rfl) (.r rfl)) rfl <| VO.l (LO.eq (.r rfl) (.r rfl)) rfl <| VO.l (LO.mv (.r rfl)) rfl <| VO.lg rfl rfl (GD.f _) (fun hg => LO.mv (.r rfl)) rfl <| VO.lg rfl rfl (GD.f _) (fun hg => LO.eq (.g hg rfl) (.r rfl)) rfl <| VO.lg rfl rfl (GD.f _) (fun hg => LO.mv (.g hg rfl)) rfl <| VO.lg rfl rfl (GD.nt _ _) (fun hg => LO.mv (.r rfl)) rfl <| VO.lg rfl rfl (GD.nt _ _) (fun hg => LO.fa (r := 0) F48_0 (.r rfl) rfl) rfl <| VO.lg rfl rfl (GD.nt _ _) (fun hg => LO.ixa (j := p) (r := p) Try.underlying45 N5 (.g hg rfl) (.g hg rfl) rfl (by omega) (by omega)) rfl <| VO.lg rfl rfl (GD.nt _ _) (fun hg => LO.ld O5 (.g hg rfl) (fun _ hw => cells_at hw 7 rfl (px_at (by omega)))) rfl <| VO.lg rfl rfl (GD.nt _ _) (fun hg => LO.rem (.g hg rfl) (.r rfl) (by decide)) rfl <| VO.lg rfl rfl (GD.nt _ _) (fun hg => LO.eq (.g hg rfl) (.r rfl)) rfl <| VO.lg rfl rfl (GD.f _) (fun hg => LO.pkA (.g hg rfl) rfl (and_e hg) (.r rfl)) rfl <| VO.l (LO.pkO (.r rfl) (.r rfl) rfl rfl) rfl <| VO.nil ?_)
      refine VE.seqN ?_
      refine VC.cond rfl (fun h58 => ?_) (fun h58 => ?_)
      ·
        refine VC.reg (VO.l (LO.fa (r := 1) F74_1 (.r rfl) rfl) rfl <| VO.l (LO.ld O55 (.r rfl) (fun _ hw => cells_at hw 0 rfl ⟨_, rfl⟩)) rfl <| VO.l (LO.mv (.r rfl)) rfl <| VO.h rfl <| HO.bs (ps := [(_, _)]) (vs := [(_, _)]) (Z := [_]) (C := [_]) S55 Z3 N3 ⟨(.r rfl), trivial⟩ rfl rfl rfl rfl ⟨_, [_], [_], rfl, rfl, rfl, rfl, rfl⟩ fun b15 => VO.h rfl <| HO.appT (((p : Nat) : Int)) 2 0 (fun R => [_, _, R, _, _, _, _, _, _]) S55 S55 I3 (.r rfl) (.r rfl) rfl rfl rfl rfl rfl rfl rfl (fun _ => rfl) rfl (by omega) fun p4 c4 => VO.l (LO.fa (r := 1) F74_1 (.r rfl) rfl) rfl <| VO.h0 <| HO.st 1 (vs := [_]) (C' := [_, _]) (L' := [_, _, _, _, _, _, _, _, _]) N55 rfl rfl rfl rfl rfl rfl rfl rfl <| VO.nil ?_)
        refine VE.inN (VE.seqN ?_)
        refine VC.reg (VO.l (LO.mv (.r rfl)) rfl <| VO.l (LO.add (.r rfl) (.r rfl) (wi (by omega) (by omega))) rfl <| VO.l (LO.as (.r rfl)) rfl <| VO.nil ?_)
        refine VE.thenN fun a w ha hw => ⟨(p + 1, xs ++ [((p : Nat) : Int)], p4, c4), ⟨by dsimp only; omega, by dsimp only; rw [hx]; exact (drPx_y h58).symm⟩, (by dsimp only; omega), ha.sub (.cons rfl (.cons rfl (.cons rfl (.cons rfl (.cons rfl (.cons rfl (.cons rfl .nil))))))), hw.sel [1, 2, 3, 4, 5, 6, 7, 8] rfl⟩
      ·
        refine VC.skip (VE.inN (VE.seqN ?_))
        refine VC.reg (VO.l (LO.mv (.r rfl)) rfl <| VO.l (LO.add (.r rfl) (.r rfl) (wi (by omega) (by omega))) rfl <| VO.l (LO.as (.r rfl)) rfl <| VO.nil ?_)
        refine VE.thenN fun a w ha hw => ⟨(p + 1, xs, px_, cx_), ⟨by dsimp only; omega, by dsimp only; rw [hx]; exact (drPx_n h58).symm⟩, (by dsimp only; omega), ha.sub (.cons rfl (.cons rfl (.cons rfl (.cons rfl (.cons rfl (.cons rfl (.cons rfl .nil))))))), hw⟩
    ·
      refine VC.exit (VE.thenX (VE.thenX (VE.inX (VE.seqN ?_))))
      refine VC.seq ?_
      refine VC.reg (VO.l (LO.fa (r := 1) F74_1 (.r rfl) rfl) rfl <| VO.l (LO.ld O55 (.r rfl) (fun _ hw => cells_at hw 0 rfl ⟨_, rfl⟩)) rfl <| VO.l (LO.len S55 (.r rfl) rfl) rfl <| VO.l (LO.gt (.r rfl) (.r rfl)) rfl <| VO.nil ?_)
      refine VE.seqN ?_
      refine VC.cond rfl (fun h68 => ?_) (fun h68 => ?_)
      ·
        have hne : drPx d i 20 ≠ [] := fun q => by rw [show p = 20 by omega] at hx; rw [hx, q] at h68; exact absurd h68 (by decide)
        refine VC.reg (VO.l (LO.fa (r := 5) F28_1 (.r rfl) rfl) rfl <| VO.l (LO.ld O24 (.r rfl) (fun _ hw => cells_at hw 2 rfl ⟨_, rfl⟩)) rfl <| VO.l (LO.lda (vs := [_, _]) A74 (.r rfl) (fun _ hw => cells_at hw 0 rfl ⟨_, rfl⟩) rfl) rfl <| VO.h rfl <| HO.bs (ps := [(_, _)]) (vs := [(_, _)]) (Z := [_, _]) (C := [_, _]) S24 Z74 N74 ⟨(.r rfl), trivial⟩ rfl rfl rfl rfl ⟨_, [_, _], [_, _], rfl, rfl, rfl, rfl, rfl⟩ fun b17 => VO.h rfl <| HO.appT ((RG.mk ⟨nmS i, xs⟩ px_ cx_)) 4 0 (fun R => [_, _, _, _, R, _, _, _, _]) S24 S24 I74 (.r rfl) (.r rfl) rfl rfl rfl rfl rfl rfl rfl (fun _ => rfl) rfl (by omega) fun p4 c4 => VO.l (LO.fa (r := 5) F28_1 (.r rfl) rfl) rfl <| VO.h0 <| HO.st 3 (vs := [_]) (C' := [_, _, _, _, _, _, _, _, _]) (L' := [_, _, _, _, _, _, _, _, _]) N24 rfl rfl rfl rfl rfl rfl rfl rfl <| VO.nil ?_)
        refine VE.inN (VE.seqN ?_)
        refine VC.reg (VO.l (LO.mv (.r rfl)) rfl <| VO.l (LO.add (.r rfl) (.r rfl) (wi (by omega) (by omega))) rfl <| VO.l (LO.as (.r rfl)) rfl <| VO.nil ?_)
        refine VE.thenN fun a w ha hw => ⟨(i + 1, rgs ++ [RG.mk ⟨nmS i, xs⟩ px_ cx_], p4, c4), ⟨by dsimp only; omega, by dsimp only; rw [List.map_append, hX, drRegs_y hne, hx, show p = 20 by omega]; rfl⟩, (by dsimp only; omega), ha.sub (.cons rfl (.cons rfl (.cons rfl (.cons rfl (.cons rfl .nil))))), (by exact (St.bagPx (x := RG.mk ⟨nmS i, xs⟩ px_ cx_) (selK (L1 := [_, _, _, _, _, _, _]) [2, 5, 3, 4, 6, 7, 8] rfl rfl _ hw)).sel [1, 2, 0, 3, 4, 5] rfl)⟩
      ·
        have hne : drPx d i 20 = [] := List.eq_nil_of_length_eq_zero (by rw [show p = 20 by omega] at hx; rw [hx] at h68; omega)
        refine VC.skip (VE.inN (VE.seqN ?_))
        refine VC.reg (VO.l (LO.mv (.r rfl)) rfl <| VO.l (LO.add (.r rfl) (.r rfl) (wi (by omega) (by omega))) rfl <| VO.l (LO.as (.r rfl)) rfl <| VO.nil ?_)
        refine VE.thenN fun a w ha hw => ⟨(i + 1, rgs, pg_, cg_), ⟨by dsimp only; omega, by dsimp only; rw [hX, drRegs_n hne]⟩, (by dsimp only; omega), ha.sub (.cons rfl (.cons rfl (.cons rfl (.cons rfl (.cons rfl .nil))))), (by exact selK (L1 := [_, _, _, _, _, _]) [2, 3, 4, 5, 6, 7] rfl rfl _ hw)⟩
  ·
    refine VC.exit (VE.thenX (VE.thenX (VE.inX (VE.seqN ?_))))
    refine VC.seq ?_
    refine VC.reg (VO.l (LO.lda (vs := [_, _, _, _, _, _, _, _, _]) A28 (.r rfl) (fun _ hw => cells_at hw 0 rfl ⟨_, rfl⟩) rfl) rfl <| VO.h0 <| HO.st 4 (vs := [_, _, _, _, _, _, _, _, _]) (C' := [_, _, _, _, _, _, _, _, _]) (L' := [_, _, _, _, _, _]) N28 rfl rfl rfl rfl rfl rfl rfl rfl <| VO.nil ?_)
    refine VE.seqN ?_
    refine VC.ret (VE.res (vs := [_]) rfl ⟨RV.agg (vs := [_, _, _, _, _, _, _, _, _]) A28 rfl (cells_blk 4 rfl ⟨_, rfl⟩) rfl, trivial⟩ (fun w hw => ?_))
    have hi3 : i = 3 := by omega
    subst hi3
    exact ⟨(rgs, pg_, cg_), hX, rfl, selK (L1 := [_, _]) [1, 2] rfl rfl _ hw⟩

end Go.Proofs.Ytdjflomhaljljaa

namespace Go.Proofs.Ytdjflomhaljljaa
open Go.SL Go.Proofs Go.Cast
set_option linter.unusedVariables false

theorem A148 : IsAgg Try.prog 148 25 := ⟨⟨_, Try.underlying148, rfl⟩, by kernel_rfl⟩
theorem N145 : (Try.prog.info? 145).map (·.size) = some 1 := by kernel_rfl
theorem O145 : IsOne Try.prog 145 := ⟨⟨_, Try.underlying145, rfl⟩, by kernel_rfl⟩
theorem F148_1 : FieldAt Try.prog 148 1 20 := ⟨_, _, Try.underlying148, rfl, rfl, 1, by kernel_rfl⟩
theorem A146 : IsAgg Try.prog 146 2 := ⟨⟨_, Try.underlying146, rfl⟩, by kernel_rfl⟩
theorem C76 : IsFn Try.prog 76 := ⟨_, Try.func76, by decide, rfl⟩
theorem F148_2 : FieldAt Try.prog 148 2 22 := ⟨_, _, Try.underlying148, rfl, rfl, 1, by kernel_rfl⟩
theorem F148_3 : FieldAt Try.prog 148 3 24 := ⟨_, _, Try.underlying148, rfl, rfl, 0, by kernel_rfl⟩
theorem F148_0 : FieldAt Try.prog 148 0 0 := ⟨_, _, Try.underlying148, rfl, rfl, 19, by kernel_rfl⟩
theorem S49 : IsSlice Try.prog 49 148 := Try.underlying49
theorem N148 : (Try.prog.info? 148).map (·.size) = some 25 := by kernel_rfl
theorem C52 : IsFn Try.prog 52 := ⟨_, Try.func52, by decide, rfl⟩
theorem F66_3 : FieldAt Try.prog 66 3 3 := ⟨_, _, Try.underlying66, rfl, rfl, 0, by kernel_rfl⟩
theorem F66_1 : FieldAt Try.prog 66 1 1 := ⟨_, _, Try.underlying66, rfl, rfl, 0, by kernel_rfl⟩
theorem F66_2 : FieldAt Try.prog 66 2 2 := ⟨_, _, Try.underlying66, rfl, rfl, 0, by kernel_rfl⟩


def spA (a b : Int) : Int := min (a.tmod 20001) (b.tmod 20001)
def spB (a b : Int) : Int := max (a.tmod 20001) (b.tmod 20001)
theorem tm2 (a : Int) : -20001 < a.tmod 20001 ∧ a.tmod 20001 < 20001 := ⟨Int.lt_tmod_of_pos a (by decide), Int.tmod_lt_of_pos a (by decide)⟩
/-- A cloud by numbers. -/
structure ClM where
  px : List Int
  xa : Int
  xb : Int
  ya : Int
  yb : Int
  gr : Int
abbrev ClM.cells (c : ClM) : List Value := c.px.map u8V ++ [.int .i16 c.xa, .int .i16 c.xb, .int .i16 c.ya, .int .i16 c.yb, .int .u8 c.gr]
def ClM.ok (c : ClM) : Prop := c.px.length = 20 ∧ (∀ n, n ∈ c.px → U8 n) ∧ I16 c.xa ∧ I16 c.xb ∧ I16 c.ya ∧ I16 c.yb ∧ U8 c.gr
theorem ClM.len {c : ClM} (h : c.ok) : c.cells.length = 25 := by
  show (c.px.map u8V ++ _).length = 25
  rw [List.length_append, List.length_map, h.1]; rfl
theorem ClM.at (c : ClM) (h : c.px.length = 20) (k : Nat) (vs : List Value) (hk : ∃ r, [.int .i16 c.xa, .int .i16 c.xb, .int .i16 c.ya, .int .i16 c.yb, .int .u8 c.gr].drop k = vs ++ r) : ∃ r, c.cells.toArray.toList.drop (20 + k) = vs ++ r := by
  show ∃ r, (c.px.map u8V ++ _).drop (20 + k) = _
  have h2 : (c.px.map u8V).length = 20 := by simpa using h
  rw [← h2, List.drop_length_add_append]
  exact hk
def pxF (px : List Int) (f : Int → Bool) (n : Nat) : List Int := ((List.range n).filter fun p => f (px.getD p 0)).map Int.ofNat
theorem pxF_y {px : List Int} {f : Int → Bool} {n : Nat} (h : f (px.getD n 0) = true) : pxF px f (n + 1) = pxF px f n ++ [(n : Int)] := by
  unfold pxF; rw [List.range_succ, List.filter_append, List.map_append]; simp only [List.filter_cons, h, if_true, List.filter_nil]; rfl
theorem pxF_n {px : List Int} {f : Int → Bool} {n : Nat} (h : f (px.getD n 0) = false) : pxF px f (n + 1) = pxF px f n := by
  unfold pxF; rw [List.range_succ, List.filter_append]; simp only [List.filter_cons, h, Bool.false_eq_true, if_false, List.filter_nil, List.append_nil]
theorem pxF_len {px : List Int} {f : Int → Bool} {n : Nat} : (pxF px f n).length ≤ n := by
  unfold pxF
  rw [List.length_map]
  have := List.length_filter_le (fun p => f (px.getD p 0)) (List.range n)
  simpa using this
def mayF (n : Int) : Bool := decide (0 < n.tmod 3)
def sureF (n : Int) : Bool := decide (n.tmod 3 = 1)
def clMk (c : ClM) : Cloud := ⟨pxF c.px sureF 20, pxF c.px mayF 20, ⟨spA c.xa c.xb, spB c.xa c.xb, spA c.ya c.yb, spB c.ya c.yb⟩, c.gr⟩
def clHas (c : ClM) : Bool := decide ((0 : Int) < ((pxF c.px mayF 20).length : Nat))
/-- All clouds that have pixels. -/
def allL : List ClM → Nat → List Cloud
  | _, 0 => []
  | l, n + 1 => match l[n]? with
    | none => allL l n
    | some c => if clHas c = true then allL l n ++ [clMk c] else allL l n
theorem allL_len {l : List ClM} : ∀ n, (allL l n).length ≤ n
  | 0 => Nat.le_refl _
  | n + 1 => by
    have := allL_len (l := l) n
    unfold allL
    split
    · omega
    · split
      · simp; omega
      · omega
theorem allL_y {l : List ClM} {n : Nat} {c : ClM} (hc : l[n]? = some c) (h : clHas c = true) : allL l (n + 1) = allL l n ++ [clMk c] := by
  conv => lhs; unfold allL
  simp [hc, h]
theorem allL_n {l : List ClM} {n : Nat} {c : ClM} (hc : l[n]? = some c) (h : clHas c = false) : allL l (n + 1) = allL l n := by
  conv => lhs; unfold allL
  simp [hc, h]
structure ClsM (w : World) (p : Option Addr) (l : List ClM) : Prop where
  rows : RO 25 ClM.cells w p l
  ok : ∀ c, c ∈ l → c.ok
/-- A beat. -/
structure BtM where
  la : Int
  a : Int
  b : Int
  no : Bool
abbrev BtM.cells (b : BtM) : List Value := [.int .u16 b.la, .int .u8 b.a, .int .u8 b.b, .bool b.no]
def BtM.ok (b : BtM) : Prop := U16 b.la ∧ U8 b.a ∧ U8 b.b
structure BtsM (w : World) (p : Option Addr) (l : List BtM) : Prop where
  rows : RO 4 BtM.cells w p l
  ok : ∀ c, c ∈ l → c.ok
def btIx (n : Nat) (a : Int) : Nat := (a.tmod (n : Int)).toNat
/-- The clouds of a beat. -/
def beatL (b : BtM) (l : List Cloud) : List Cloud := if (l.length : Int) = 0 ∨ b.no = true then [] else [l.getD (btIx l.length b.a) default, l.getD (btIx l.length b.b) default]
theorem btIx_lt {n : Nat} {a : Int} (ha : 0 ≤ a) (hn : 0 < n) : btIx n a < n ∧ (a.tmod (n : Int)) = (btIx n a : Nat) := by
  unfold btIx
  have := tm ha (show (0 : Int) < (n : Int) by omega)
  omega
theorem St.blkRows {β : Bs} {L : List Res} {w : World} (hw : St β L w) (i : Nat) {E z b : Nat} {C : Array Value} {rows : List (List Value)} (hi : L[i]? = some (blk b (.cells C E))) (hC : C.toList = rows.flatten) (hz : ∀ r, r ∈ rows → r.length = z) : St β (L.set i (own E z (some ⟨b, 0, none⟩) rows.length rows)) w :=
  hw.conv i hi (fun k hk => hk.2) ⟨Nat.le_refl _, hz, fun q => (by cases q), fun a ha => by
    cases ha
    exact ⟨rfl, rfl, C, [], hw.inv i _ hi, by rw [List.append_nil]; exact hC, by rw [← Array.length_toList, hC, flatten_len hz]⟩⟩

set_option maxRecDepth 20000 in
theorem span_c (a b : Int) (w : World) (ha : I16 a) (hb : I16 b) :
  Calls Try.prog 76 #[.agg #[.int .i16 a, .int .i16 b]] w fun e w' => e = .returned (.agg #[.int .i64 (spA a b), .int .i64 (spB a b)]) ∧ St (bs w) [] w' := by
  unfold I16 at ha hb
  refine enter (vs := [_]) (env := [(0, _)]) Try.func76 rfl rfl rfl rfl ?_
  refine VC.seq ?_
  refine VC.reg (VO.h rfl <| HO.box (C := #[_, _]) rfl rfl fun b1 => VO.h rfl <| HO.alloc (C := #[_, _]) Z76 rfl fun b2 => VO.nil ?_)
  refine VE.seqN ?_
  refine VC.seq ?_
  refine VC.draw mixed (LL.l (LO.ixa (j := 0) (r := 0) Try.underlying146 N145 (.r rfl) (.r rfl) rfl (by decide) rfl) rfl <| LL.l (LO.ld O145 (.r rfl) (fun _ hw => cells_at hw 1 rfl ⟨_, rfl⟩)) rfl <| LL.l (LO.cv ⟨_, Try.underlying145⟩ Try.underlying3 (.r rfl) (wi (by omega) (by omega))) rfl <| LL.l (LO.rem (.r rfl) (.r rfl) (by omega)) rfl <| LL.l (LO.ixa (j := 1) (r := 1) Try.underlying146 N145 (.r rfl) (.r rfl) rfl (by decide) rfl) rfl <| LL.l (LO.ld O145 (.r rfl) (fun _ hw => cells_at hw 1 rfl ⟨_, rfl⟩)) rfl <| LL.l (LO.cv ⟨_, Try.underlying145⟩ Try.underlying3 (.r rfl) (wi (by omega) (by omega))) rfl <| LL.l (LO.rem (.r rfl) (.r rfl) (by omega)) rfl <| LL.l (LO.as (.r rfl)) rfl <| LL.l (LO.as (.r rfl)) rfl <| LL.nil) (by kernel_rfl) ?_
  refine VE.seqN ?_
  refine VC.seq ?_
  refine VC.reg (VO.l (LO.mv (.r rfl)) rfl <| VO.l (LO.mv (.r rfl)) rfl <| VO.l (LO.min (.r rfl) (.r rfl)) rfl <| VO.l (LO.mv (.r rfl)) rfl <| VO.l (LO.mv (.r rfl)) rfl <| VO.l (LO.max (.r rfl) (.r rfl)) rfl <| VO.l (LO.bd (ps := [(_, _), (_, _)]) (vs := [(_, _), (_, _)]) (C := [_, _]) B76  ⟨(.r rfl), (.r rfl), trivial⟩ rfl ⟨_, [_], [_, _], rfl, rfl, rfl, rfl, ⟨_, [_], [_, _], rfl, rfl, rfl, rfl, rfl⟩⟩) rfl <| VO.h0 <| HO.st 0 (vs := [_, _]) (C' := [_, _]) (L' := [_, _]) N76 rfl rfl rfl rfl rfl rfl rfl rfl <| VO.nil ?_)
  refine VE.seqN ?_
  refine VC.ret (VE.res (vs := [_]) rfl ⟨RV.agg (vs := [_, _]) A76 rfl (cells_blk 0 rfl ⟨_, rfl⟩) rfl, trivial⟩ (fun w hw => ?_))
  exact ⟨rfl, hw.nil⟩

set_option maxRecDepth 20000 in
theorem cmade_c (c : ClM) (w : World) (hc : c.ok) :
  Calls Try.prog 52 #[.agg c.cells.toArray] w fun e w' => ∃ y : CP, y.c = clMk c ∧ e = .returned (.tuple #[.agg y.cells.toArray, .bool (clHas c)]) ∧ St (bs w) [own 3 1 y.ps y.cs (y.c.sure.map iC), own 3 1 y.pm y.cm (y.c.may.map iC)] w' := by
  obtain ⟨hl20, hu8, h1, h2, h3, h4, h5⟩ := id hc
  unfold U8 at h5
  refine enter (vs := [_]) (env := [(0, _)]) Try.func52 rfl rfl rfl rfl ?_
  refine VC.seq ?_
  refine VC.reg (VO.h rfl <| HO.box (C := c.cells.toArray) rfl rfl fun b1 => VO.h rfl <| HO.alloc (C := #[_, _, _, _, _, _, _]) Z80 rfl fun b2 => VO.l (LO.as (.r rfl)) rfl <| VO.nil ?_)
  refine VE.seqN ?_
  refine VC.seq ?_
  refine VC.drawH [[0, 1], [0, 1], [0, 1]] [some 1, some 1, some 1, some 1, some 1, some 1, some 1, some 1, some 1, some 1, some 1, none, none] mixed (by kernel_rfl) rfl (LX.l (fun _ hJ => LO.fa (r := 20) F148_1 (.r rfl) rfl) rfl <| LX.l (fun _ hJ => LO.lda (vs := [_, _]) A146 (.r rfl) (fun _ hw => cells_at (hJ _ hw) 1 rfl (c.at hl20 0 _ ⟨_, rfl⟩)) rfl) rfl <| LX.l (fun _ hJ => LO.call (xs := [_]) (vs := [_]) C76 ⟨(.r rfl), trivial⟩ (fun w _ => span_c c.xa c.xb w h1 h2)) rfl <| LX.l (fun _ hJ => LO.fa (r := 22) F148_2 (.r rfl) rfl) rfl <| LX.l (fun _ hJ => LO.lda (vs := [_, _]) A146 (.r rfl) (fun _ hw => cells_at (hJ _ hw) 1 rfl (c.at hl20 2 _ ⟨_, rfl⟩)) rfl) rfl <| LX.l (fun _ hJ => LO.call (xs := [_]) (vs := [_]) C76 ⟨(.r rfl), trivial⟩ (fun w _ => span_c c.ya c.yb w h3 h4)) rfl <| LX.l (fun _ hJ => LO.bd (ps := [(_, _), (_, _)]) (vs := [(_, _), (_, _)]) (C := [_, _, _, _]) B78  ⟨(.r rfl), (.r rfl), trivial⟩ rfl ⟨_, [_, _], [_, _, _, _], rfl, rfl, rfl, rfl, ⟨_, [_, _], [_, _, _, _], rfl, rfl, rfl, rfl, rfl⟩⟩) rfl <| LX.l (fun _ hJ => LO.fa (r := 24) F148_3 (.r rfl) rfl) rfl <| LX.l (fun _ hJ => LO.ld O5 (.r rfl) (fun _ hw => cells_at (hJ _ hw) 1 rfl (c.at hl20 4 _ ⟨_, rfl⟩))) rfl <| LX.l (fun _ hJ => LO.cv ⟨_, Try.underlying5⟩ Try.underlying3 (.r rfl) (wi (by omega) (by omega))) rfl <| LX.l (fun _ hJ => LO.bd (ps := [(_, _), (_, _)]) (vs := [(_, _), (_, _)]) (C := [_, _, _, _, _, _, _]) B80  ⟨(.r rfl), (.r rfl), trivial⟩ rfl ⟨_, [_, _, _, _], [_, _, _, _, _, _, _], rfl, rfl, rfl, rfl, ⟨_, [_], [_, _, _, _, _, _, _], rfl, rfl, rfl, rfl, rfl⟩⟩) rfl <| LX.s <| LX.s <| LX.nil) (HX.s <| HX.s <| HX.s <| HX.s <| HX.s <| HX.s <| HX.s <| HX.s <| HX.s <| HX.s <| HX.s <| HX.h rfl <| HO.alloc (C := #[_, _, _, _, _, _, _]) Z80 rfl fun b5 => ⟨fun _ hw => hw.sel [1, 2] rfl, HX.h0 <| HO.st 0 (vs := [_, _, _, _, _, _, _]) (C' := [_, _, _, _, _, _, _]) (L' := [_, _, _]) N80 rfl rfl rfl rfl rfl rfl rfl rfl <| ⟨fun _ hw => hw.sel [1, 2] rfl, HX.nil ?_⟩⟩)
  refine VE.seqN ?_
  refine VC.seq ?_
  refine VC.seq ?_
  refine VC.reg (VO.l (LO.as (.r rfl)) rfl <| VO.nil ?_)
  refine VE.seqN ?_
  refine VC.block ?_
  refine VC.loopK (α := Nat × (List Int) × (Option Addr) × Nat × (List Int) × (Option Addr) × Nat) 1 (fun gx => [(5, .int .i64 (gx.1 : Nat))]) [(1, _), (2, _), (4, _)] (fun gx => [blk b5 (.cells #[.slice gx.2.2.2.2.2.1 gx.2.2.2.2.1.length gx.2.2.2.2.2.2, .slice gx.2.2.1 gx.2.1.length gx.2.2.2.1, .int .i64 (spA c.xa c.xb), .int .i64 (spB c.xa c.xb), .int .i64 (spA c.ya c.yb), .int .i64 (spB c.ya c.yb), .int .i64 c.gr] 80), own 3 1 gx.2.2.2.2.2.1 gx.2.2.2.2.2.2 (gx.2.2.2.2.1.map iC), own 3 1 gx.2.2.1 gx.2.2.2.1 (gx.2.1.map iC)]) (fun gx => gx.1 ≤ 20 ∧ gx.2.1 = pxF c.px mayF gx.1 ∧ gx.2.2.2.2.1 = pxF c.px sureF gx.1) (fun gx => 20 - gx.1) (0, [], none, 0, [], none, 0) (by exact ⟨Nat.zero_le _, rfl, rfl⟩) (.cons rfl (.cons rfl (.cons rfl (.cons rfl .nil)))) (fun _ h => (((h.ownNil 3 1).ownNil 3 1)).sel [2, 0, 1, 3, 4] rfl) ?_
  rintro ⟨p, xs, qm_, dm_, ys, qs_, ds_⟩ ⟨hp, hx, hy⟩
  show VC _ _ _ _ _ ([(5, .int .i64 (p : Nat))] ++ _) ([blk b5 (.cells #[.slice qs_ ys.length ds_, .slice qm_ xs.length dm_, .int .i64 (spA c.xa c.xb), .int .i64 (spB c.xa c.xb), .int .i64 (spA c.ya c.yb), .int .i64 (spB c.ya c.yb), .int .i64 c.gr] 80), own 3 1 qs_ ds_ (ys.map iC), own 3 1 qm_ dm_ (xs.map iC)] ++ _) _ _
  dsimp only at hp hx hy
  have hxl : xs.length ≤ p := by rw [hx]; exact pxF_len
  have hyl : ys.length ≤ p := by rw [hy]; exact pxF_len
  refine VC.seq ?_
  refine VC.seq ?_
  refine VC.reg (VO.l (LO.mv (.r rfl)) rfl <| VO.l (LO.lt (.r rfl) (.r rfl)) rfl <| VO.nil ?_)
  refine VE.seqN ?_
  refine VC.cond rfl (fun h18 => ?_) (fun h18 => ?_)
  ·
    have hpx := u8_at hu8 (p := p) (by omega)
    refine VC.skip (VE.seqN ?_)
    refine VC.seq ?_
    refine VC.block ?_
    refine VC.seq ?_
    refine VC.seq ?_
    refine VC.reg (VO.l (LO.mv (.r rfl)) rfl <| VO.l (LO.fa (r := 0) F148_0 (.r rfl) rfl) rfl <| VO.l (LO.ixa (j := p) (r := p) Try.underlying45 N5 (.r rfl) (.r rfl) rfl (by omega) (by omega)) rfl <| VO.l (LO.ld O5 (.r rfl) (fun _ hw => cells_at hw 4 rfl (px_at (by omega)))) rfl <| VO.l (LO.rem (.r rfl) (.r rfl) (by decide)) rfl <| VO.l (LO.gt (.r rfl) (.r rfl)) rfl <| VO.nil ?_)
    refine VE.seqN ?_
    refine VC.cond rfl (fun h26 => ?_) (fun h26 => ?_)
    ·
      refine VC.reg (VO.l (LO.fa (r := 1) F80_1 (.r rfl) rfl) rfl <| VO.l (LO.ld O55 (.r rfl) (fun _ hw => cells_at hw 0 rfl ⟨_, rfl⟩)) rfl <| VO.l (LO.mv (.r rfl)) rfl <| VO.h rfl <| HO.bs (ps := [(_, _)]) (vs := [(_, _)]) (Z := [_]) (C := [_]) S55 Z3 N3 ⟨(.r rfl), trivial⟩ rfl rfl rfl rfl ⟨_, [_], [_], rfl, rfl, rfl, rfl, rfl⟩ fun b10 => VO.h rfl <| HO.appT (((p : Nat) : Int)) 3 0 (fun R => [_, _, _, R, _, _]) S55 S55 I3 (.r rfl) (.r rfl) rfl rfl rfl rfl rfl rfl rfl (fun _ => rfl) rfl (by omega) fun p4 c4 => VO.l (LO.fa (r := 1) F80_1 (.r rfl) rfl) rfl <| VO.h0 <| HO.st 1 (vs := [_]) (C' := [_, _, _, _, _, _, _]) (L' := [_, _, _, _, _, _]) N55 rfl rfl rfl rfl rfl rfl rfl rfl <| VO.nil ?_)
      refine VE.seqN ?_
      refine VC.seq ?_
      refine VC.reg (VO.l (LO.mv (.r rfl)) rfl <| VO.l (LO.fa (r := 0) F148_0 (.r rfl) rfl) rfl <| VO.l (LO.ixa (j := p) (r := p) Try.underlying45 N5 (.r rfl) (.r rfl) rfl (by omega) (by omega)) rfl <| VO.l (LO.ld O5 (.r rfl) (fun _ hw => cells_at hw 5 rfl (px_at (by omega)))) rfl <| VO.l (LO.rem (.r rfl) (.r rfl) (by decide)) rfl <| VO.l (LO.eq (.r rfl) (.r rfl)) rfl <| VO.nil ?_)
      refine VE.seqN ?_
      refine VC.cond rfl (fun h38 => ?_) (fun h38 => ?_)
      ·
        refine VC.reg (VO.l (LO.fa (r := 0) F80_0 (.r rfl) rfl) rfl <| VO.l (LO.ld O55 (.r rfl) (fun _ hw => cells_at hw 1 rfl ⟨_, rfl⟩)) rfl <| VO.l (LO.mv (.r rfl)) rfl <| VO.h rfl <| HO.bs (ps := [(_, _)]) (vs := [(_, _)]) (Z := [_]) (C := [_]) S55 Z3 N3 ⟨(.r rfl), trivial⟩ rfl rfl rfl rfl ⟨_, [_], [_], rfl, rfl, rfl, rfl, rfl⟩ fun b12 => VO.h rfl <| HO.appT (((p : Nat) : Int)) 3 0 (fun R => [_, _, _, R, _, _, _]) S55 S55 I3 (.r rfl) (.r rfl) rfl rfl rfl rfl rfl rfl rfl (fun _ => rfl) rfl (by omega) fun p8 c8 => VO.l (LO.fa (r := 0) F80_0 (.r rfl) rfl) rfl <| VO.h0 <| HO.st 2 (vs := [_]) (C' := [_, _, _, _, _, _, _]) (L' := [_, _, _, _, _, _, _]) N55 rfl rfl rfl rfl rfl rfl rfl rfl <| VO.nil ?_)
        refine VE.inN (VE.seqN ?_)
        refine VC.reg (VO.l (LO.mv (.r rfl)) rfl <| VO.l (LO.add (.r rfl) (.r rfl) (wi (by omega) (by omega))) rfl <| VO.l (LO.as (.r rfl)) rfl <| VO.nil ?_)
        refine VE.thenN fun a w ha hw => ⟨(p + 1, xs ++ [((p : Nat) : Int)], p4, c4, ys ++ [((p : Nat) : Int)], p8, c8), ⟨by dsimp only; omega, by dsimp only; rw [hx]; exact (pxF_y (by unfold mayF; exact decide_eq_true h26)).symm, by dsimp only; rw [hy]; exact (pxF_y (by unfold sureF; exact decide_eq_true h38)).symm⟩, (by dsimp only; omega), ha.sub (.cons rfl (.cons rfl (.cons rfl (.cons rfl .nil)))), hw.sel [2, 3, 4, 5, 6] rfl⟩
      ·
        refine VC.skip (VE.inN (VE.seqN ?_))
        refine VC.reg (VO.l (LO.mv (.r rfl)) rfl <| VO.l (LO.add (.r rfl) (.r rfl) (wi (by omega) (by omega))) rfl <| VO.l (LO.as (.r rfl)) rfl <| VO.nil ?_)
        refine VE.thenN fun a w ha hw => ⟨(p + 1, xs ++ [((p : Nat) : Int)], p4, c4, ys, qs_, ds_), ⟨by dsimp only; omega, by dsimp only; rw [hx]; exact (pxF_y (by unfold mayF; exact decide_eq_true h26)).symm, by dsimp only; rw [hy]; exact (pxF_n (by unfold sureF; exact decide_eq_false h38)).symm⟩, (by dsimp only; omega), ha.sub (.cons rfl (.cons rfl (.cons rfl (.cons rfl .nil)))), hw.sel [1, 2, 3, 4, 5] rfl⟩
    ·
      refine VC.skip (VE.seqN ?_)
      refine VC.seq ?_
      refine VC.reg (VO.l (LO.mv (.r rfl)) rfl <| VO.l (LO.fa (r := 0) F148_0 (.r rfl) rfl) rfl <| VO.l (LO.ixa (j := p) (r := p) Try.underlying45 N5 (.r rfl) (.r rfl) rfl (by omega) (by omega)) rfl <| VO.l (LO.ld O5 (.r rfl) (fun _ hw => cells_at hw 4 rfl (px_at (by omega)))) rfl <| VO.l (LO.rem (.r rfl) (.r rfl) (by decide)) rfl <| VO.l (LO.eq (.r rfl) (.r rfl)) rfl <| VO.nil ?_)
      refine VE.seqN ?_
      refine VC.cond rfl (fun h38 => ?_) (fun h38 => ?_)
      ·
        refine VC.reg (VO.l (LO.fa (r := 0) F80_0 (.r rfl) rfl) rfl <| VO.l (LO.ld O55 (.r rfl) (fun _ hw => cells_at hw 0 rfl ⟨_, rfl⟩)) rfl <| VO.l (LO.mv (.r rfl)) rfl <| VO.h rfl <| HO.bs (ps := [(_, _)]) (vs := [(_, _)]) (Z := [_]) (C := [_]) S55 Z3 N3 ⟨(.r rfl), trivial⟩ rfl rfl rfl rfl ⟨_, [_], [_], rfl, rfl, rfl, rfl, rfl⟩ fun b14 => VO.h rfl <| HO.appT (((p : Nat) : Int)) 2 0 (fun R => [_, _, R, _, _, _]) S55 S55 I3 (.r rfl) (.r rfl) rfl rfl rfl rfl rfl rfl rfl (fun _ => rfl) rfl (by omega) fun p8 c8 => VO.l (LO.fa (r := 0) F80_0 (.r rfl) rfl) rfl <| VO.h0 <| HO.st 1 (vs := [_]) (C' := [_, _, _, _, _, _, _]) (L' := [_, _, _, _, _, _]) N55 rfl rfl rfl rfl rfl rfl rfl rfl <| VO.nil ?_)
        refine VE.inN (VE.seqN ?_)
        refine VC.reg (VO.l (LO.mv (.r rfl)) rfl <| VO.l (LO.add (.r rfl) (.r rfl) (wi (by omega) (by omega))) rfl <| VO.l (LO.as (.r rfl)) rfl <| VO.nil ?_)
        refine VE.thenN fun a w ha hw => ⟨(p + 1, xs, qm_, dm_, ys ++ [((p : Nat) : Int)], p8, c8), ⟨by dsimp only; omega, by dsimp only; rw [hx]; exact (pxF_n (by unfold mayF; exact decide_eq_false h26)).symm, by dsimp only; rw [hy]; exact (pxF_y (by unfold sureF; exact decide_eq_true h38)).symm⟩, (by dsimp only; omega), ha.sub (.cons rfl (.cons rfl (.cons rfl (.cons rfl .nil)))), hw.sel [1, 2, 3, 4, 5] rfl⟩
      ·
        refine VC.skip (VE.inN (VE.seqN ?_))
        refine VC.reg (VO.l (LO.mv (.r rfl)) rfl <| VO.l (LO.add (.r rfl) (.r rfl) (wi (by omega) (by omega))) rfl <| VO.l (LO.as (.r rfl)) rfl <| VO.nil ?_)
        refine VE.thenN fun a w ha hw => ⟨(p + 1, xs, qm_, dm_, ys, qs_, ds_), ⟨by dsimp only; omega, by dsimp only; rw [hx]; exact (pxF_n (by unfold mayF; exact decide_eq_false h26)).symm, by dsimp only; rw [hy]; exact (pxF_n (by unfold sureF; exact decide_eq_false h38)).symm⟩, (by dsimp only; omega), ha.sub (.cons rfl (.cons rfl (.cons rfl (.cons rfl .nil)))), hw⟩
  ·
    refine VC.exit (VE.thenX (VE.thenX (VE.inX (VE.seqN ?_))))
    refine VC.seq ?_
    refine VC.drawH [[0, 1, 2, 3, 4], [0, 1, 2, 4]] [some 0, some 1, some 1, some 1, some 1, none, some 1] mixed (by kernel_rfl) rfl (LX.l (fun _ hJ => LO.lda (vs := [_, _, _, _, _, _, _]) A80 (.r rfl) (fun _ hw => cells_at (hJ _ hw) 0 rfl ⟨_, rfl⟩) rfl) rfl <| LX.l (fun _ hJ => LO.fa (r := 1) F80_1 (.r rfl) rfl) rfl <| LX.l (fun _ hJ => LO.ld O55 (.r rfl) (fun _ hw => cells_at (hJ _ hw) 0 rfl ⟨_, rfl⟩)) rfl <| LX.l (fun _ hJ => LO.len S55 (.r rfl) rfl) rfl <| LX.l (fun _ hJ => LO.gt (.r rfl) (.r rfl)) rfl <| LX.s <| LX.l (fun _ hJ => LO.as (.r rfl)) rfl <| LX.nil) (HX.s <| HX.s <| HX.s <| HX.s <| HX.s <| HX.h0 <| HO.st 3 (vs := [_, _, _, _, _, _, _]) (C' := [_, _, _, _, _, _, _]) (L' := [_, _, _, _, _]) N80 rfl rfl rfl rfl rfl rfl rfl rfl <| ⟨fun _ hw => hw.sel [0, 1, 2, 4] rfl, HX.s <| HX.nil ?_⟩)
    refine VE.seqN ?_
    refine VC.ret (VE.res (vs := [_, _]) rfl ⟨RV.agg (vs := [_, _, _, _, _, _, _]) A80 rfl (cells_blk 3 rfl ⟨_, rfl⟩) rfl, rfl, trivial⟩ (fun w hw => ?_))
    have hp2 : p = 20 := by omega
    subst hp2
    exact ⟨⟨⟨ys, xs, ⟨spA c.xa c.xb, spB c.xa c.xb, spA c.ya c.yb, spB c.ya c.yb⟩, c.gr⟩, qs_, ds_, qm_, dm_⟩, by rw [hx, hy]; rfl, by rw [show clHas c = decide ((0 : Int) < (xs.length : Nat)) from by unfold clHas; rw [hx]]; rfl, selK (L1 := [_, _]) [1, 2] rfl rfl _ hw⟩

set_option maxRecDepth 20000 in
theorem all_c (l : List ClM) (p : Option Addr) (c : Nat) (w : World) (hn : l.length < 1000000) (hl : ClsM w p l) :
  Calls Try.prog 20 #[.slice p l.length c] w fun e w' => ∃ x : (Option Addr × Nat) × List CP, x.2.map CP.c = allL l l.length ∧ e = .returned (.slice x.1.1 x.2.length x.1.2) ∧ St (bs w) [own 80 7 x.1.1 x.1.2 (x.2.map CP.cells), bagD (x.2.flatMap cpR)] w' := by
  refine enter (vs := [_]) (env := [(0, _)]) Try.func20 rfl rfl rfl rfl ?_
  refine VC.seq ?_
  refine VC.reg (VO.l (LO.as (.r rfl)) rfl <| VO.nil ?_)
  refine VE.seqN ?_
  refine VC.seq ?_
  refine VC.reg (VO.l (LO.as (.r rfl)) rfl <| VO.nil ?_)
  refine VE.seqN ?_
  refine VC.seq ?_
  refine VC.seq ?_
  refine VC.reg (VO.l (LO.as (.r rfl)) rfl <| VO.nil ?_)
  refine VE.seqN ?_
  refine VC.block ?_
  refine VC.loopK (α := Nat × (List CP) × (Option Addr) × Nat) 0 (fun gx => [(3, .slice gx.2.2.1 gx.2.1.length gx.2.2.2), (4, .int .i64 (gx.1 : Nat))]) [(0, _)] (fun gx => [own 80 7 gx.2.2.1 gx.2.2.2 (gx.2.1.map CP.cells), bagD (gx.2.1.flatMap cpR)]) (fun gx => gx.1 ≤ l.length ∧ gx.2.1.map CP.c = allL l gx.1) (fun gx => l.length - gx.1) (0, [], none, 0) (by exact ⟨Nat.zero_le _, rfl⟩) (.cons rfl (.cons rfl (.cons rfl .nil))) (fun _ h => ((St.bagD (Rs := []) h).ownNil 80 7)) ?_
  rintro ⟨j, xs, po_, co_⟩ ⟨hj, hX⟩
  show VC _ _ _ _ _ ([(3, .slice po_ xs.length co_), (4, .int .i64 (j : Nat))] ++ _) ([own 80 7 po_ co_ (xs.map CP.cells), bagD (xs.flatMap cpR)] ++ _) _ _
  dsimp only at hj hX
  have hxl : xs.length ≤ j := by rw [← List.length_map (f := CP.c), hX]; exact allL_len j
  refine VC.seq ?_
  refine VC.seq ?_
  refine VC.reg (VO.l (LO.mv (.r rfl)) rfl <| VO.l (LO.mv (.r rfl)) rfl <| VO.l (LO.len S49 (.r rfl) rfl) rfl <| VO.l (LO.lt (.r rfl) (.r rfl)) rfl <| VO.nil ?_)
  refine VE.seqN ?_
  refine VC.cond rfl (fun h10 => ?_) (fun h10 => ?_)
  ·
    obtain ⟨x, hx⟩ : ∃ x, l[j]? = some x := ⟨_, List.getElem?_eq_getElem (by omega)⟩
    have hxo := hl.ok x (List.mem_of_getElem? hx)
    refine VC.skip (VE.seqN ?_)
    refine VC.seq ?_
    refine VC.block ?_
    refine VC.seq ?_
    refine VC.reg (VO.l (LO.mv (.r rfl)) rfl <| VO.l (LO.mv (.r rfl)) rfl <| VO.l (LO.ixs S49 N148 hl.rows.sm (.r rfl) (.r rfl) rfl (by omega)) rfl <| VO.l (LO.lda (vs := x.cells) A148 (.r rfl) (fun w hw => (hl.rows.keep w hw).cells _ _ (by rw [List.getElem?_map, hx]; rfl)) (by rw [ClM.len hxo]; rfl)) rfl <| VO.h rfl <| HO.callx (xs := [_]) (vs := [_]) C52 ⟨(.r rfl), trivial⟩ (fun w hw => cmade_c x w hxo) fun y hy => VO.h rfl <| HO.lo (LO.mv (.r rfl)) <| VO.h rfl <| HO.lo (LO.ex (.r rfl) rfl) <| VO.h rfl <| HO.lo (LO.ex (.r rfl) rfl) <| VO.h rfl <| HO.alloc (C := #[_, _, _, _, _, _, _]) Z80 rfl fun b5 => VO.h0 <| HO.st 0 (vs := [_, _, _, _, _, _, _]) (C' := [_, _, _, _, _, _, _]) (L' := [_, _, _, _, _]) N80 rfl rfl rfl rfl rfl rfl rfl rfl <| VO.h rfl <| HO.lo (LO.as (.r rfl)) <| VO.nil ?_)
    refine VE.seqN ?_
    refine VC.seq ?_
    refine VC.reg (VO.l (LO.mv (.r rfl)) rfl <| VO.nil ?_)
    refine VE.seqN ?_
    refine VC.cond rfl (fun h21 => ?_) (fun h21 => ?_)
    ·
      refine VC.reg (VO.l (LO.mv (.r rfl)) rfl <| VO.l (LO.lda (vs := [_, _, _, _, _, _, _]) A80 (.r rfl) (fun _ hw => cells_at hw 0 rfl ⟨_, rfl⟩) rfl) rfl <| VO.h rfl <| HO.bs (ps := [(_, _)]) (vs := [(_, _)]) (Z := [_, _, _, _, _, _, _]) (C := [_, _, _, _, _, _, _]) S29 Z80 N80 ⟨(.r rfl), trivial⟩ rfl rfl rfl rfl ⟨_, [_, _, _, _, _, _, _], [_, _, _, _, _, _, _], rfl, rfl, rfl, rfl, rfl⟩ fun b7 => VO.h rfl <| HO.appT (y) 4 0 (fun R => [_, _, _, _, R, _]) S29 S29 I80 (.r rfl) (.r rfl) rfl rfl rfl rfl rfl rfl rfl (fun _ => rfl) rfl (by omega) fun p3 c3 => VO.h rfl <| HO.lo (LO.as (.r rfl)) <| VO.nil ?_)
      refine VE.inN (VE.seqN ?_)
      refine VC.reg (VO.l (LO.mv (.r rfl)) rfl <| VO.l (LO.add (.r rfl) (.r rfl) (wi (by omega) (by omega))) rfl <| VO.l (LO.as (.r rfl)) rfl <| VO.nil ?_)
      refine VE.thenN fun a w ha hw => ⟨(j + 1, xs ++ [y], p3, c3), ⟨by dsimp only; omega, by dsimp only; rw [List.map_append, hX, allL_y hx h21, ← hy]; rfl⟩, (by dsimp only; omega), ha.sub (.cons rfl (.cons rfl (.cons rfl .nil))), (by exact (St.bagCp (selK (L1 := [_, _, _, _]) [2, 3, 5, 4] rfl rfl _ hw)).sel [1, 0] rfl)⟩
    ·
      refine VC.skip (VE.inN (VE.seqN ?_))
      refine VC.reg (VO.l (LO.mv (.r rfl)) rfl <| VO.l (LO.add (.r rfl) (.r rfl) (wi (by omega) (by omega))) rfl <| VO.l (LO.as (.r rfl)) rfl <| VO.nil ?_)
      refine VE.thenN fun a w ha hw => ⟨(j + 1, xs, po_, co_), ⟨by dsimp only; omega, by dsimp only; rw [hX, allL_n hx (by simpa using h21)]⟩, (by dsimp only; omega), ha.sub (.cons rfl (.cons rfl (.cons rfl .nil))), (by exact selK (L1 := [_, _]) [3, 4] rfl rfl _ hw)⟩
  ·
    refine VC.exit (VE.thenX (VE.thenX (VE.inX (VE.seqN ?_))))
    refine VC.seq ?_
    refine VC.reg (VO.l (LO.mv (.r rfl)) rfl <| VO.l (LO.as (.r rfl)) rfl <| VO.nil ?_)
    refine VE.seqN ?_
    refine VC.ret (VE.res (vs := [_]) rfl ⟨rfl, trivial⟩ (fun w hw => ?_))
    exact ⟨((po_, co_), xs), by rw [hX, show j = l.length by omega], rfl, hw.sel [0, 1] rfl⟩

set_option maxRecDepth 20000 in
theorem beat_c (b : BtM) (l : List CP) (p : Option Addr) (c : Nat) (w : World) (hn : l.length < 1000000) (hb : b.ok) (hl : Clouds w p l) :
  Calls Try.prog 23 #[.agg b.cells.toArray, .slice p l.length c] w fun e w' => ∃ x : (Option Addr × Nat) × List CP, (x.2.map CP.c = beatL b (l.map CP.c) ∧ x.2.length ≤ 2 ∧ ∀ y, y ∈ x.2 → y ∈ l) ∧ e = .returned (.slice x.1.1 x.2.length x.1.2) ∧ St (bs w) [own 80 7 x.1.1 x.1.2 (x.2.map CP.cells)] w' := by
  obtain ⟨hb1, hb2, hb3⟩ := id hb
  unfold U8 at hb2 hb3
  refine enter (vs := [_, _]) (env := [(0, _), (1, _)]) Try.func23 rfl rfl rfl rfl ?_
  refine VC.seq ?_
  refine VC.reg (VO.h rfl <| HO.box (C := #[_, _, _, _]) rfl rfl fun b1 => VO.l (LO.as (.r rfl)) rfl <| VO.nil ?_)
  refine VE.seqN ?_
  refine VC.seq ?_
  refine VC.seq ?_
  refine VC.reg (VO.l (LO.mv (.r rfl)) rfl <| VO.l (LO.len S29 (.r rfl) rfl) rfl <| VO.l (LO.eq (.r rfl) (.r rfl)) rfl <| VO.l (LO.mv (.r rfl)) rfl <| VO.lg rfl rfl (GD.f _) (fun hg => LO.fa (r := 3) F66_3 (.r rfl) rfl) rfl <| VO.lg rfl rfl (GD.f _) (fun hg => LO.ld O4 (.g hg rfl) (fun _ hw => cells_at hw 0 rfl ⟨_, rfl⟩)) rfl <| VO.l (LO.pkO (.r rfl) (.r rfl) rfl rfl) rfl <| VO.nil ?_)
  refine VE.seqN ?_
  refine VC.cond rfl (fun h11 => ?_) (fun h11 => ?_)
  ·
    refine VC.seq ?_
    refine VC.reg (VO.l (LO.as (.r rfl)) rfl <| VO.nil ?_)
    refine VE.seqN ?_
    refine VC.ret (VE.thenR (VE.res (vs := [_]) rfl ⟨rfl, trivial⟩ (fun w hw => ?_)))
    first | exact ⟨((none, 0), []), ⟨by unfold beatL; rw [if_pos (by rw [List.length_map]; exact h11)]; rfl, Nat.zero_le _, fun y hy => by cases hy⟩, rfl, hw.nil.ownNil 80 7⟩ | exact ⟨((_, _), [x, x2]), ⟨by unfold beatL; rw [if_neg (by rw [List.length_map]; exact h11), List.length_map, getD_c hx, getD_c hx2]; rfl, Nat.le_refl _, fun y hy => by simp only [List.mem_cons, List.not_mem_nil, or_false] at hy; rcases hy with rfl | rfl; (· exact List.mem_of_getElem? hx); (· exact List.mem_of_getElem? hx2)⟩, rfl, (Go.Proofs.Ytdjflomhaljljaa.St.blkRows hw 0 (rows := [x, x2].map CP.cells) rfl rfl (fun r hr => by obtain ⟨q, _, e⟩ := List.mem_map.1 hr; rw [← e]; rfl)).sel [0] rfl⟩
  ·
    have hpos : 0 < l.length := by omega
    have hk1 := btIx_lt hb2.1 hpos
    have hk2 := btIx_lt hb3.1 hpos
    obtain ⟨x, hx⟩ : ∃ x, l[(btIx l.length b.a)]? = some x := ⟨_, List.getElem?_eq_getElem hk1.1⟩
    obtain ⟨x2, hx2⟩ : ∃ x, l[(btIx l.length b.b)]? = some x := ⟨_, List.getElem?_eq_getElem hk2.1⟩
    refine VC.skip (VE.seqN ?_)
    refine VC.seq ?_
    refine VC.drawH [[0], [0], [0]] [some 0, some 0, some 0, some 0, some 0, some 0, some 0, some 0, some 0, some 0, some 0, some 0, some 0, some 0, some 0, some 0, some 0, some 0, none, none] mixed (by kernel_rfl) rfl (LX.l (fun _ hJ => LO.mv (.r rfl)) rfl <| LX.l (fun _ hJ => LO.fa (r := 1) F66_1 (.r rfl) rfl) rfl <| LX.l (fun _ hJ => LO.ld O5 (.r rfl) (fun _ hw => cells_at (hJ _ hw) 0 rfl ⟨_, rfl⟩)) rfl <| LX.l (fun _ hJ => LO.cv ⟨_, Try.underlying5⟩ Try.underlying3 (.r rfl) (wi (by omega) (by omega))) rfl <| LX.l (fun _ hJ => LO.mv (.r rfl)) rfl <| LX.l (fun _ hJ => LO.len S29 (.r rfl) rfl) rfl <| LX.l (fun _ hJ => LO.rem (.r rfl) (.r rfl) (by omega)) rfl <| LX.l (fun _ hJ => LO.ixs S29 N80 hl.sl (.r rfl) (.r rfl) hk1.2 hk1.1) rfl <| LX.l (fun _ hJ => LO.lda (vs := [_, _, _, _, _, _, _]) A80 (.r rfl) (hl.at hx) rfl) rfl <| LX.l (fun _ hJ => LO.mv (.r rfl)) rfl <| LX.l (fun _ hJ => LO.fa (r := 2) F66_2 (.r rfl) rfl) rfl <| LX.l (fun _ hJ => LO.ld O5 (.r rfl) (fun _ hw => cells_at (hJ _ hw) 0 rfl ⟨_, rfl⟩)) rfl <| LX.l (fun _ hJ => LO.cv ⟨_, Try.underlying5⟩ Try.underlying3 (.r rfl) (wi (by omega) (by omega))) rfl <| LX.l (fun _ hJ => LO.mv (.r rfl)) rfl <| LX.l (fun _ hJ => LO.len S29 (.r rfl) rfl) rfl <| LX.l (fun _ hJ => LO.rem (.r rfl) (.r rfl) (by omega)) rfl <| LX.l (fun _ hJ => LO.ixs S29 N80 hl.sl (.r rfl) (.r rfl) hk2.2 hk2.1) rfl <| LX.l (fun _ hJ => LO.lda (vs := [_, _, _, _, _, _, _]) A80 (.r rfl) (hl.at hx2) rfl) rfl <| LX.s <| LX.s <| LX.nil) (HX.s <| HX.s <| HX.s <| HX.s <| HX.s <| HX.s <| HX.s <| HX.s <| HX.s <| HX.s <| HX.s <| HX.s <| HX.s <| HX.s <| HX.s <| HX.s <| HX.s <| HX.s <| HX.h rfl <| HO.bs (ps := [(_, _), (_, _)]) (vs := [(_, _), (_, _)]) (Z := [_, _, _, _, _, _, _, _, _, _, _, _, _, _]) (C := [_, _, _, _, _, _, _, _, _, _, _, _, _, _]) S29 Z80 N80 ⟨(.r rfl), (.r rfl), trivial⟩ rfl rfl rfl rfl ⟨_, [_, _, _, _, _, _, _], [_, _, _, _, _, _, _, _, _, _, _, _, _, _], rfl, rfl, rfl, rfl, ⟨_, [_, _, _, _, _, _, _], [_, _, _, _, _, _, _, _, _, _, _, _, _, _], rfl, rfl, rfl, rfl, rfl⟩⟩ fun b3 => ⟨fun _ hw => hw.sel [1] rfl, HX.h rfl <| HO.lo (LO.as (.r rfl)) <| ⟨fun _ hw => hw.sel [1] rfl, HX.nil ?_⟩⟩)
    refine VE.seqN ?_
    refine VC.ret (VE.res (vs := [_]) rfl ⟨rfl, trivial⟩ (fun w hw => ?_))
    first | exact ⟨((none, 0), []), ⟨by unfold beatL; rw [if_pos (by rw [List.length_map]; exact h11)]; rfl, Nat.zero_le _, fun y hy => by cases hy⟩, rfl, hw.nil.ownNil 80 7⟩ | exact ⟨((_, _), [x, x2]), ⟨by unfold beatL; rw [if_neg (by rw [List.length_map]; exact h11), List.length_map, getD_c hx, getD_c hx2]; rfl, Nat.le_refl _, fun y hy => by simp only [List.mem_cons, List.not_mem_nil, or_false] at hy; rcases hy with rfl | rfl; (· exact List.mem_of_getElem? hx); (· exact List.mem_of_getElem? hx2)⟩, rfl, (Go.Proofs.Ytdjflomhaljljaa.St.blkRows hw 0 (rows := [x, x2].map CP.cells) rfl rfl (fun r hr => by obtain ⟨q, _, e⟩ := List.mem_map.1 hr; rw [← e]; rfl)).sel [0] rfl⟩

end Go.Proofs.Ytdjflomhaljljaa

namespace Go.Proofs.Ytdjflomhaljljaa
open Go.SL Go.Proofs Go.Cast
set_option linter.unusedVariables false


section
variable {H : Type} {enc : TypeId × Value → H} {W : World}
end

end Go.Proofs.Ytdjflomhaljljaa

namespace Go.Proofs.Ytdjflomhaljljaa
open Go.SL Go.Proofs Go.Cast
set_option linter.unusedVariables false


theorem kb_u8 {n : Int} (h : kb .u8 n) : 0 ≤ n ∧ n ≤ 255 := by simpa [kb, IntKind.min, IntKind.max, IntKind.signed, IntKind.bits] using h
theorem kb_u16 {n : Int} (h : kb .u16 n) : 0 ≤ n ∧ n ≤ 65535 := by simpa [kb, IntKind.min, IntKind.max, IntKind.signed, IntKind.bits] using h
theorem kb_i16 {n : Int} (h : kb .i16 n) : -32768 ≤ n ∧ n ≤ 32767 := by simpa [kb, IntKind.min, IntKind.max, IntKind.signed, IntKind.bits] using h
theorem K5 : Try.prog.cellsOf 5 = 1 := by kernel_rfl
theorem K45 : Try.prog.cellsOf 45 = 20 := by kernel_rfl
theorem K145 : Try.prog.cellsOf 145 = 1 := by kernel_rfl
theorem K146 : Try.prog.cellsOf 146 = 2 := by kernel_rfl
theorem K148 : Try.prog.cellsOf 148 = 25 := by kernel_rfl
theorem K66 : Try.prog.cellsOf 66 = 4 := by kernel_rfl

theorem flat_one {α : Type} {f : α → Value} : ∀ (l : List α), ((l.map fun x => [f x]).flatten) = l.map f
  | [] => rfl
  | x :: l => by simp [flat_one l]
section
variable {H : Type} {enc : TypeId × Value → H} {W : World}
theorem rd4b : RD enc Try.prog W 4 fun cs => ∃ b, cs = [.bool b] := RD.bool Try.underlying4
theorem rd5 : RD enc Try.prog W 5 fun cs => ∃ n, cs = [.int .u8 n] ∧ kb .u8 n := RD.int Try.underlying5
theorem rd46 : RD enc Try.prog W 46 fun cs => ∃ n, cs = [.int .u16 n] ∧ kb .u16 n := RD.int Try.underlying46
theorem rd145 : RD enc Try.prog W 145 fun cs => ∃ n, cs = [.int .i16 n] ∧ kb .i16 n := RD.int Try.underlying145

theorem rd45 : RD enc Try.prog W 45 fun cs => ∃ px : List Int, cs = px.map u8V ∧ px.length = 20 ∧ ∀ n, n ∈ px → U8 n := fun n cs x hx => by
  obtain ⟨css, rfl, hlen, hp⟩ := trod_cells Try.underlying45 K5 K45 hx rd5
  obtain ⟨l, rfl, hl⟩ := rows_map (f := fun n => [u8V n]) (Q := U8) (fun r hr => by obtain ⟨_, m, h1, h2⟩ := hp r hr; exact ⟨m, h1, kb_u8 h2⟩)
  exact ⟨l, flat_one l, by simpa using hlen, hl⟩
theorem rd146 : RD enc Try.prog W 146 fun cs => ∃ a b : Int, cs = [.int .i16 a, .int .i16 b] ∧ I16 a ∧ I16 b := fun n cs x hx => by
  obtain ⟨css, rfl, hlen, hp⟩ := trod_cells Try.underlying146 K145 K146 hx rd145
  match css, hlen with
  | [c0, c1], _ =>
    obtain ⟨_, a, rfl, ha⟩ := hp c0 (by simp)
    obtain ⟨_, b, rfl, hb⟩ := hp c1 (by simp)
    exact ⟨a, b, rfl, kb_i16 ha, kb_i16 hb⟩
theorem rd48 : RD enc Try.prog W 48 fun cs => ∃ d : DrM, cs = d.cells ∧ d.ok := fun n cs x hx => by
  obtain ⟨css, rfl, hlen, _, hp⟩ := trod_parts Try.underlying48 (zs := [20, 1, 1, 1]) (by kernel_rfl) rfl (by kernel_rfl) hx
  match css, hlen with
  | [c0, c1, c2, c3], _ =>
    obtain ⟨_, _, h0⟩ := hp 0 _ c0 rfl rfl
    obtain ⟨_, _, h1⟩ := hp 1 _ c1 rfl rfl
    obtain ⟨_, _, h2⟩ := hp 2 _ c2 rfl rfl
    obtain ⟨_, _, h3⟩ := hp 3 _ c3 rfl rfl
    obtain ⟨px, rfl, hl, hu⟩ := rd45 _ _ _ h0
    obtain ⟨a, rfl, ha⟩ := rd46 _ _ _ h1
    obtain ⟨b, rfl, hb⟩ := rd46 _ _ _ h2
    obtain ⟨c, rfl, hc⟩ := rd46 _ _ _ h3
    exact ⟨⟨px, a, b, c⟩, by simp, hl, hu, kb_u16 ha, kb_u16 hb, kb_u16 hc⟩
theorem rd148 : RD enc Try.prog W 148 fun cs => ∃ c : ClM, cs = c.cells ∧ c.ok := fun n cs x hx => by
  obtain ⟨css, rfl, hlen, _, hp⟩ := trod_parts Try.underlying148 (zs := [20, 2, 2, 1]) (by kernel_rfl) rfl (by kernel_rfl) hx
  match css, hlen with
  | [c0, c1, c2, c3], _ =>
    obtain ⟨_, _, h0⟩ := hp 0 _ c0 rfl rfl
    obtain ⟨_, _, h1⟩ := hp 1 _ c1 rfl rfl
    obtain ⟨_, _, h2⟩ := hp 2 _ c2 rfl rfl
    obtain ⟨_, _, h3⟩ := hp 3 _ c3 rfl rfl
    obtain ⟨px, rfl, hl, hu⟩ := rd45 _ _ _ h0
    obtain ⟨a, b, rfl, ha, hb⟩ := rd146 _ _ _ h1
    obtain ⟨c, d, rfl, hc, hd⟩ := rd146 _ _ _ h2
    obtain ⟨g, rfl, hg⟩ := rd5 _ _ _ h3
    exact ⟨⟨px, a, b, c, d, g⟩, by simp, hl, hu, ha, hb, hc, hd, kb_u8 hg⟩
theorem rd66 : RD enc Try.prog W 66 fun cs => ∃ b : BtM, cs = b.cells ∧ b.ok := fun n cs x hx => by
  obtain ⟨css, rfl, hlen, _, hp⟩ := trod_parts Try.underlying66 (zs := [1, 1, 1, 1]) (by kernel_rfl) rfl (by kernel_rfl) hx
  match css, hlen with
  | [c0, c1, c2, c3], _ =>
    obtain ⟨_, _, h0⟩ := hp 0 _ c0 rfl rfl
    obtain ⟨_, _, h1⟩ := hp 1 _ c1 rfl rfl
    obtain ⟨_, _, h2⟩ := hp 2 _ c2 rfl rfl
    obtain ⟨_, _, h3⟩ := hp 3 _ c3 rfl rfl
    obtain ⟨a, rfl, ha⟩ := rd46 _ _ _ h0
    obtain ⟨b, rfl, hb⟩ := rd5 _ _ _ h1
    obtain ⟨c, rfl, hc⟩ := rd5 _ _ _ h2
    obtain ⟨d, rfl⟩ := rd4b _ _ _ h3
    exact ⟨⟨a, b, c, d⟩, rfl, kb_u16 ha, kb_u8 hb, kb_u8 hc⟩
theorem rd49 : RD enc Try.prog W 49 fun cs => ∃ (p : Option Addr) (cap : Nat) (l : List ClM), cs = [.slice p l.length cap] ∧ ClsM W p l := fun n cs x hx => by
  obtain ⟨p, cap, rows, rfl, h1, h2, h3⟩ := RD.slice Try.underlying49 K148 (by decide) rd148 _ _ _ hx
  obtain ⟨l, rfl, h5⟩ := rows_map (f := ClM.cells) (Q := ClM.ok) (fun r hr => by obtain ⟨x, h6, h7⟩ := (h3 r hr).2; exact ⟨x, h6, h7⟩)
  exact ⟨p, cap, l, by simp, h2, h5⟩
theorem rd50 : RD enc Try.prog W 50 fun cs => ∃ (p : Option Addr) (cap : Nat) (l : List BtM), cs = [.slice p l.length cap] ∧ BtsM W p l := fun n cs x hx => by
  obtain ⟨p, cap, rows, rfl, h1, h2, h3⟩ := RD.slice Try.underlying50 K66 (by decide) rd66 _ _ _ hx
  obtain ⟨l, rfl, h5⟩ := rows_map (f := BtM.cells) (Q := BtM.ok) (fun r hr => by obtain ⟨x, h6, h7⟩ := (h3 r hr).2; exact ⟨x, h6, h7⟩)
  exact ⟨p, cap, l, by simp, h2, h5⟩
end

end Go.Proofs.Ytdjflomhaljljaa

namespace Go.Proofs.Ytdjflomhaljljaa
open Go.SL Go.Proofs Go.Cast
set_option linter.unusedVariables false

/-- Numbers in order, below a bound. -/
def Asc (n : Nat) (l : List Int) : Prop := l.Pairwise (· < ·) ∧ ∀ v, v ∈ l → 0 ≤ v ∧ v < (n : Int)
theorem asc_filter {n : Nat} (f : Nat → Bool) : Asc n (((List.range n).filter f).map Int.ofNat) := by
  constructor
  · rw [List.pairwise_map]
    exact (List.Pairwise.filter f List.pairwise_lt_range).imp fun h => by exact Int.ofNat_lt.2 h
  · intro v hv
    obtain ⟨p, hp, e⟩ := List.mem_map.1 hv
    have := List.mem_range.1 (List.mem_filter.1 hp).1
    subst e
    constructor
    · exact Int.natCast_nonneg p
    · exact Int.ofNat_lt.2 this
theorem asc_px {px : List Int} {f : Int → Bool} {n : Nat} : Asc n (pxF px f n) := asc_filter _
theorem asc_dr {d : DrM} {i n : Nat} : Asc n (drPx d i n) := asc_filter _
theorem asc_lt {n : Nat} {l : List Int} (h : Asc n l) {i : Nat} (h0 : 0 < i) (hi : i < l.length) : l.getD (i - 1) 0 < l.getD i 0 := by
  have := List.pairwise_iff_getElem.1 h.1 (i - 1) i (by omega) hi (by omega)
  rw [List.getD_eq_getElem?_getD, List.getD_eq_getElem?_getD, List.getElem?_eq_getElem hi, List.getElem?_eq_getElem (by omega : i - 1 < l.length)]
  exact this
theorem mayE_asc {l : List Int} (h : Asc 20 l) : firstE (mayE gD l) l.length = 0 := firstE_zero fun k hk => by
  have h1 := h.2 _ (getD_mem (d := 0) hk)
  unfold mayE
  rw [if_neg (fun q => q ⟨h1.1, by show _ ≤ (5 : Int) * 4 - 1; omega⟩), if_neg]
  rintro ⟨h2, h3⟩
  have := asc_lt h (by omega) hk
  omega
theorem pxF_mem {px : List Int} {f : Int → Bool} {n : Nat} {v : Int} : v ∈ pxF px f n ↔ ∃ p : Nat, p < n ∧ v = (p : Int) ∧ f (px.getD p 0) = true := by
  unfold pxF
  simp only [List.mem_map, List.mem_filter, List.mem_range]
  constructor
  · rintro ⟨p, ⟨h1, h2⟩, h3⟩; exact ⟨p, h1, h3.symm, h2⟩
  · rintro ⟨p, h1, h2, h3⟩; exact ⟨p, ⟨h1, h3⟩, h2.symm⟩
theorem sureE_asc {px : List Int} : firstE (sureE (pxF px mayF 20) (pxF px sureF 20)) (pxF px sureF 20).length = 0 := firstE_zero fun k hk => by
  unfold sureE
  rw [if_neg, if_neg]
  · intro q
    refine q ?_
    obtain ⟨p, h1, h2, h3⟩ := pxF_mem.1 (getD_mem (d := 0) hk)
    rw [h2]
    refine pxF_mem.2 ⟨p, h1, rfl, ?_⟩
    unfold sureF at h3
    unfold mayF
    have := of_decide_eq_true h3
    rw [this]; rfl
  · rintro ⟨h2, h3⟩
    have := asc_lt (asc_px (px := px) (f := sureF)) (by omega) hk
    omega
theorem cloud_ok {c : ClM} (h : c.ok) (hh : clHas c = true) : cloudE gD (clMk c) = 0 := by
  obtain ⟨_, _, h1, h2, h3, h4, h5⟩ := h
  have e1 : (clMk c).may ≠ [] := fun q => by
    have : pxF c.px mayF 20 = [] := q
    unfold clHas at hh; rw [this] at hh; cases hh
  have a := tm2 c.xa; have b := tm2 c.xb; have d := tm2 c.ya; have e := tm2 c.yb
  unfold U8 at h5
  unfold cloudE
  rw [if_neg (fun q => q (by decide)), if_neg (fun q => q ⟨⟨by show -100000 ≤ spA c.xa c.xb; unfold spA; omega, by show spA c.xa c.xb ≤ spB c.xa c.xb; unfold spA spB; omega, by show spB c.xa c.xb ≤ 100000; unfold spB; omega⟩, by show -100000 ≤ spA c.ya c.yb; unfold spA; omega, by show spA c.ya c.yb ≤ spB c.ya c.yb; unfold spA spB; omega, by show spB c.ya c.yb ≤ 100000; unfold spB; omega⟩),
    if_neg (fun q => q ⟨by show 0 ≤ c.gr; omega, by show c.gr ≤ 10000; omega⟩), if_neg e1]
  rw [if_neg (fun q => q (mayE_asc asc_px))]
  exact sureE_asc
theorem allL_ok {l : List ClM} (h : ∀ c, c ∈ l → c.ok) : ∀ n x, x ∈ allL l n → ∃ c, c ∈ l ∧ x = clMk c ∧ clHas c = true
  | 0, x, hx => by cases hx
  | n + 1, x, hx => by
    unfold allL at hx
    split at hx
    · exact allL_ok h n x hx
    · rename_i c hc
      split at hx
      · rcases List.mem_append.1 hx with q | q
        · exact allL_ok h n x q
        · simp at q; subst q; exact ⟨c, List.mem_of_getElem? hc, rfl, by assumption⟩
      · exact allL_ok h n x hx
theorem look_ok {l : List Cloud} (hl : l.length ≤ 64) (h : ∀ x, x ∈ l → cloudE gD x = 0) : lookE gD l = 0 := by
  unfold lookE atE
  rw [if_neg (fun q => q (by decide)), if_neg (by omega), if_neg (fun q => q (firstE_zero fun k hk => h _ (getD_mem hk))), if_neg (by decide)]
theorem beat_mem {b : BtM} {l : List Cloud} (hb : b.ok) : ∀ x, x ∈ beatL b l → x ∈ l := fun x hx => by
  unfold beatL at hx
  split at hx
  · cases hx
  · rename_i q
    have hp : 0 < l.length := by omega
    simp only [List.mem_cons, List.not_mem_nil, or_false] at hx
    rcases hx with rfl | rfl
    · exact getD_mem (btIx_lt hb.2.1.1 hp).1
    · exact getD_mem (btIx_lt hb.2.2.1 hp).1
theorem beat_len {b : BtM} {l : List Cloud} : (beatL b l).length ≤ 2 := by unfold beatL; split <;> simp
/-- Clouds that a look takes. -/
def ClsOk (l : List Cloud) : Prop := ∀ x, x ∈ l → cloudE gD x = 0
theorem allL_cls {l : List ClM} (h : ∀ c, c ∈ l → c.ok) (n : Nat) : ClsOk (allL l n) := fun x hx => by
  obtain ⟨c, h1, rfl, h2⟩ := allL_ok h n x hx
  exact cloud_ok (h c h1) h2
theorem beat_look {b : BtM} {l : List Cloud} (hb : b.ok) (h : ClsOk l) : lookE gD (beatL b l) = 0 := look_ok (by have := beat_len (b := b) (l := l); omega) fun x hx => h x (beat_mem hb x hx)
theorem drRegs_mem {d : DrM} : ∀ {i : Nat} {r : Reg}, r ∈ drRegs d i → ∃ j, j < i ∧ r = ⟨nmS j, drPx d j 20⟩ ∧ drPx d j 20 ≠ []
  | 0, r, h => by cases h
  | i + 1, r, h => by
    unfold drRegs at h
    split at h
    · obtain ⟨j, h1, h2⟩ := drRegs_mem h; exact ⟨j, by omega, h2⟩
    · rename_i q
      rcases List.mem_append.1 h with z | z
      · obtain ⟨j, h1, h2⟩ := drRegs_mem z; exact ⟨j, by omega, h2⟩
      · simp at z; exact ⟨i, by omega, z, q⟩
theorem nmS_inj {i j : Nat} (hi : i < 3) (hj : j < 3) (h : nmS i = nmS j) : i = j := by
  have key : ∀ i j : Fin 3, nmS i.val = nmS j.val → i = j := by decide
  have := key ⟨i, hi⟩ ⟨j, hj⟩ h
  exact congrArg Fin.val this
theorem nmS_ok {i : Nat} (hi : i < 3) : nameB (nmS i) = true := by
  have key : ∀ i : Fin 3, nameB (nmS i.val) = true := by decide
  exact key ⟨i, hi⟩
theorem drRegs_pw {d : DrM} : ∀ {i : Nat}, i ≤ 3 → (drRegs d i).Pairwise (fun r s => r.name ≠ s.name)
  | 0, _ => List.Pairwise.nil
  | i + 1, hi => by
    unfold drRegs
    split
    · exact drRegs_pw (by omega)
    · rw [List.pairwise_append]
      refine ⟨drRegs_pw (by omega), by simp, fun r hr s hs => ?_⟩
      simp at hs; subst hs
      obtain ⟨j, h1, h2, _⟩ := drRegs_mem hr
      subst h2
      intro e
      have := nmS_inj (by omega) (by omega) e
      omega
theorem dr_spec {d : DrM} (h : d.ok) (hne : drRegs d 3 ≠ []) : specE (drSp d) = 0 := by
  have hb := dr_bd h
  have hlen := drRegs_len (d := d) 3
  unfold specE drSp
  dsimp only
  have hz : firstE (regE gD (drRegs d 3)) (drRegs d 3).length = 0 := by
    refine firstE_zero fun k hk => ?_
    obtain ⟨j, h1, h2, h3⟩ := drRegs_mem (getD_mem (d := default) hk)
    unfold regE
    rw [if_neg, if_neg, h2]
    · unfold pixE
      rw [if_neg h3]
      exact mayE_asc asc_dr
    · intro q
      unfold metB at q
      rw [List.any_eq_true] at q
      obtain ⟨r, hr, e⟩ := q
      obtain ⟨i, hi⟩ := List.mem_iff_getElem?.1 hr
      rw [List.getElem?_take] at hi
      split at hi
      · rename_i q
        obtain ⟨z1, z2⟩ := List.getElem?_eq_some_iff.1 hi
        have := List.pairwise_iff_getElem.1 (drRegs_pw (d := d) (Nat.le_refl 3)) i k z1 hk q
        rw [z2] at this
        have e2 : (drRegs d 3).getD k default = (drRegs d 3)[k] := by rw [List.getD_eq_getElem?_getD, List.getElem?_eq_getElem hk]; rfl
        exact this (by rw [← e2]; exact (of_decide_eq_true e).symm)
      · cases hi
    · intro q
      rw [h2] at q
      exact q (nmS_ok h1)
  rw [if_neg (fun q => q (by decide)), if_neg hne, if_neg (by omega), if_neg (fun q => q hz), if_neg (fun q => q ⟨⟨by dsimp only; omega, by dsimp only; omega⟩, ⟨by dsimp only; omega, by dsimp only; omega⟩, by dsimp only; omega, by dsimp only; omega⟩)]
/-- The time of a beat. -/
def tAt (bs : List BtM) : Nat → Int
  | 0 => 0
  | i + 1 => tAt bs i + (1 + (bs.getD i ⟨0, 0, 0, true⟩).la.tmod 500)
theorem tAt_bd {bs : List BtM} (h : ∀ b, b ∈ bs → b.ok) : ∀ i, i ≤ bs.length → 0 ≤ tAt bs i ∧ tAt bs i ≤ 500 * (i : Int)
  | 0, _ => ⟨Int.le_refl _, Int.le_refl _⟩
  | i + 1, hi => by
    have ih := tAt_bd h i (by omega)
    have hb := (h _ (getD_mem (d := ⟨0, 0, 0, true⟩) (by omega : i < bs.length))).1
    have := tm hb.1 (show (0 : Int) < 500 by decide)
    unfold tAt
    omega
theorem tAt_lt {bs : List BtM} (h : ∀ b, b ∈ bs → b.ok) {i : Nat} (hi : i < bs.length) : tAt bs i < tAt bs (i + 1) := by
  have hb := (h _ (getD_mem (d := ⟨0, 0, 0, true⟩) hi)).1
  have := tm hb.1 (show (0 : Int) < 500 by decide)
  conv => rhs; unfold tAt
  omega
/-- The threats of all regions. -/
def thsP (s : Sp) (l : List Cloud) : List Thr := s.regs.map fun r => thr (lookL s.g l s.lead s.step) r.pix s.step
theorem ths_eq {o : OfM} (h : WfO o) (l : List Cloud) : thsO o l = thsP o.sp l := by
  unfold thsO thsP OfM.sp
  refine List.ext_getElem? fun k => ?_
  simp only [List.getElem?_map]
  cases q : o.rc[k]? with
  | none =>
    have : o.rc.length ≤ k := by
      rcases Nat.lt_or_ge k o.rc.length with z | z
      · rw [List.getElem?_eq_getElem z] at q; cases q
      · exact z
    rw [List.getElem?_eq_none (by rw [← h.len]; exact this)]; rfl
  | some r => rw [(h.idx k r q).1]; rfl
/-- The steps of beats. -/
def stB (s : Sp) (l : List Cloud) (bs : List BtM) (n : Nat) : List Stp := (List.range n).map fun i => ⟨tAt bs (i + 1), thsP s (beatL (bs.getD i ⟨0, 0, 0, true⟩) l)⟩
theorem stB_snoc {s : Sp} {l : List Cloud} {bs : List BtM} {n : Nat} : stB s l bs (n + 1) = stB s l bs n ++ [⟨tAt bs (n + 1), thsP s (beatL (bs.getD n ⟨0, 0, 0, true⟩) l)⟩] := by
  unfold stB; rw [List.range_succ, List.map_append]; rfl
/-- The events of steps, step by step. -/
def evB (s : Sp) (l : List Cloud) (bs : List BtM) (n : Nat) : List (List Ev) := (List.range n).map fun i => evF s.hold s.regs.length (stB s l bs i) ⟨tAt bs (i + 1), thsP s (beatL (bs.getD i ⟨0, 0, 0, true⟩) l)⟩
theorem evB_snoc {s : Sp} {l : List Cloud} {bs : List BtM} {n : Nat} : evB s l bs (n + 1) = evB s l bs n ++ [evF s.hold s.regs.length (stB s l bs n) ⟨tAt bs (n + 1), thsP s (beatL (bs.getD n ⟨0, 0, 0, true⟩) l)⟩] := by
  unfold evB; rw [List.range_succ, List.map_append]; rfl
def tmB (bs : List BtM) (n : Nat) : List Int := (List.range n).map fun i => tAt bs (i + 1)
theorem tmB_snoc {bs : List BtM} {n : Nat} : tmB bs (n + 1) = tmB bs n ++ [tAt bs (n + 1)] := by unfold tmB; rw [List.range_succ, List.map_append]; rfl
theorem cs_nodup {o : OfM} {w : World} (h : (bagD (o.cs.map CsM.blk)).inv w) : (o.cs.map CsM.b).Nodup := by
  have := h.2
  rw [List.pairwise_map] at this
  unfold List.Nodup
  rw [List.pairwise_map]
  refine this.imp fun {a b} hab e => ?_
  exact hab a.b rfl (by show a.b = b.b; exact e)
/-- A step, and the plain words. -/
theorem Step_s (o : OfM) (st : List Stp) (T : Int) (m : List CP) (pm : Option Addr) (cm : Nat) (w : World) (hh : Has w (offR o)) (hcl : ∀ {L : List Res} {v : World}, St ⟨w, fpL (offR o)⟩ L v → Clouds v pm m) (hcn : m.length < 1000000000) (h : SimO o st) (hT1 : 0 ≤ T) (hT3 : T ≤ 4294967296) (hlate : o.ts = [] ∨ lastI o.ts < T) (hful : o.lg.length < 256) (hlk : lookE o.g (m.map CP.c) = 0) :
    Calls Try.prog 27 #[ptrN o.b, .int .i64 T, .slice pm m.length cm] w fun e w' => ∃ y : StepY, (StepP o T (m.map CP.c) y ∧ SimO (y.o o T) (st ++ [⟨T, thsP o.sp (m.map CP.c)⟩]) ∧ y.es = evF o.hold o.rc.length st ⟨T, thsP o.sp (m.map CP.c)⟩) ∧ e = .returned (.tuple #[.slice y.pe y.es.length y.ce, .int .i64 0]) ∧ St ⟨w, fpL (offR o)⟩ (own 62 7 y.pe y.ce (y.es.map evC) :: offR (y.o o T)) w' := by
  refine (Step_w o T m pm cm w hh hcl hcn h.wf hT1 hT3 hlate hful hlk).mono ?_
  rintro e w' ⟨y, hp, he, hs⟩
  have hnd : (y.cs.map CsM.b).Nodup := cs_nodup (o := y.o o T) (hs.inv 8 _ rfl)
  have := sim_step h hp hT1 hT3 hlate hnd
  rw [ths_eq h.wf] at this
  exact ⟨y, ⟨hp, this⟩, he, hs⟩
theorem n_eq {o : OfM} (h : WfO o) : o.rc.length = o.sp.regs.length := by unfold OfM.sp; rw [List.length_map]; exact h.len

end Go.Proofs.Ytdjflomhaljljaa

namespace Go.Proofs.Ytdjflomhaljljaa
open Go.SL Go.Proofs Go.Cast
set_option linter.unusedVariables false

theorem S50 : IsSlice Try.prog 50 66 := Try.underlying50
theorem N66 : (Try.prog.info? 66).map (·.size) = some 4 := by kernel_rfl
theorem F66_0 : FieldAt Try.prog 66 0 0 := ⟨_, _, Try.underlying66, rfl, rfl, 0, by kernel_rfl⟩
theorem A66 : IsAgg Try.prog 66 4 := ⟨⟨_, Try.underlying66, rfl⟩, by kernel_rfl⟩
theorem C23 : IsFn Try.prog 23 := ⟨_, Try.func23, by decide, rfl⟩
theorem S54 : IsSlice Try.prog 54 60 := Try.underlying54
theorem I60 : EInfo Try.prog 60 1 24 (.slice none 0 0) := ⟨by kernel_rfl, by kernel_rfl, by unfold ZeroOf; kernel_rfl, rfl, by decide⟩


/-- What stands in a log. -/
inductive Ent where
  | st (t : Int) (l : List Cloud)
  | nt (t : Int) (g : Grid) (vs : List Span) (lv : Int)
def LgM.ent : LgM → Ent
  | .st t _ _ l => .st t (l.map CP.c)
  | .nt t g _ _ vs lv => .nt t g vs lv
def lgB (l : List Cloud) (bs : List BtM) (n : Nat) : List Ent := (List.range n).map fun i => .st (tAt bs (i + 1)) (beatL (bs.getD i ⟨0, 0, 0, true⟩) l)
theorem lgB_snoc {l : List Cloud} {bs : List BtM} {n : Nat} : lgB l bs (n + 1) = lgB l bs n ++ [.st (tAt bs (n + 1)) (beatL (bs.getD n ⟨0, 0, 0, true⟩) l)] := by unfold lgB; rw [List.range_succ, List.map_append]; rfl
structure RnY where
  o : OfM
  evs : List (RowA Ev)
  pe : Option Addr
  ce : Nat
  ts : List Int
  pt : Option Addr
  ct : Nat
/-- What holds of an office behind some beats. -/
def RnA (s : Sp) (l : List Cloud) (bs : List BtM) (o : OfM) (evs : List (RowA Ev)) (ts : List Int) (n : Nat) : Prop :=
  SimO o (stB s l bs n) ∧ o.sp = s ∧ evs.map RowA.l = evB s l bs n ∧ ts = tmB bs n ∧ o.lg.map LgM.ent = lgB l bs n
def RnP (s : Sp) (l : List Cloud) (bs : List BtM) (y : RnY) : Prop := RnA s l bs y.o y.evs y.ts bs.length
theorem clouds_rest {R L : List Res} {w0 w v : World} {pl p : Option Addr} {c : Nat} {m l : List CP} (hl : Clouds w0 pl l) (hm : ∀ y, y ∈ m → y ∈ l) (h : St (bs w0) (R ++ [own 80 7 p c (m.map CP.cells)]) w) (hs : St ⟨w, fpL R⟩ L v) : Clouds v p m :=
  ⟨own_inv_rows (restInv h hs (.head _)), fun x hx => (hl.keep v (h.callG (fun k hk => hk) hs)).ok x (hm x hx)⟩
theorem tAt_s {bs : List BtM} {n : Nat} {x : BtM} (hx : bs[n]? = some x) : tAt bs (n + 1) = tAt bs n + (1 + x.la.tmod 500) := by
  have hxd : bs.getD n ⟨0, 0, 0, true⟩ = x := by rw [List.getD_eq_getElem?_getD, hx]; rfl
  conv => lhs; unfold tAt
  rw [hxd]
theorem late_stB {o : OfM} {s : Sp} {l : List Cloud} {bs : List BtM} {i : Nat} (h : o.ts = (stB s l bs i).map Stp.t) (hb : ∀ b, b ∈ bs → b.ok) (hi : i < bs.length) : o.ts = [] ∨ lastI o.ts < tAt bs (i + 1) := by
  cases i with
  | zero => exact .inl (by rw [h]; rfl)
  | succ k =>
    refine .inr ?_
    rw [h, stB_snoc, List.map_append]
    show lastI (_ ++ [_]) < _
    rw [lastI_snoc]
    exact tAt_lt hb hi
theorem rn_step {s : Sp} {l : List Cloud} {bs : List BtM} {o : OfM} {evs : List (RowA Ev)} {ts : List Int} {n : Nat} {y : StepY} {x : BtM} {m : List Cloud} (h : RnA s l bs o evs ts n) (hx : bs[n]? = some x) (hm : m = beatL x l)
    (hy : StepP o (tAt bs (n + 1)) m y ∧ SimO (y.o o (tAt bs (n + 1))) (stB s l bs n ++ [⟨tAt bs (n + 1), thsP o.sp m⟩]) ∧ y.es = evF o.hold o.rc.length (stB s l bs n) ⟨tAt bs (n + 1), thsP o.sp m⟩) :
    RnA s l bs (y.o o (tAt bs (n + 1))) (evs ++ [⟨y.pe, y.ce, y.es⟩]) (ts ++ [tAt bs (n + 1)]) (n + 1) := by
  obtain ⟨h1, h2, h3, h4, h5⟩ := h
  obtain ⟨k1, k2, k3⟩ := hy
  have hxd : bs.getD n ⟨0, 0, 0, true⟩ = x := by rw [List.getD_eq_getElem?_getD, hx]; rfl
  subst hm
  rw [h2] at k2 k3
  refine ⟨by rw [stB_snoc, hxd]; exact k2, h2, ?_, by rw [h4, tmB_snoc], ?_⟩
  · rw [List.map_append, h3, evB_snoc, hxd]
    congr 1
    show [y.es] = _
    rw [k3, n_eq h1.wf, h2]
    congr 3
    rw [← h2]; rfl
  · obtain ⟨_, p, c, q, e1, e2⟩ := k1
    show (o.lg ++ [y.lg]).map LgM.ent = _
    rw [List.map_append, h5, lgB_snoc, hxd, e1]
    show _ ++ [Ent.st _ (q.map CP.c)] = _
    rw [e2]

set_option maxRecDepth 20000 in
theorem run_c (g : Grid) (rgs : List RG) (pg : Option Addr) (cg : Nat) (a b d : Int) (s : Sp) (l : List CP) (pl : Option Addr) (cl : Nat) (bs : List BtM) (pb : Option Addr) (cb : Nat) (w : World) (hse : s = ⟨g, rgs.map RG.r, a, b, d⟩) (hs : specE s = 0) (hrl : rgs.length < 1000000000000) (hrg : Regs w pg rgs) (hll : l.length < 1000000) (hl : Clouds w pl l) (hbl : bs.length ≤ 200) (hb : BtsM w pb bs) (hlook : ∀ x, x ∈ bs → lookE s.g (beatL x (l.map CP.c)) = 0) :
  Calls Try.prog 21 #[specV g pg rgs.length cg a b d, .slice pl l.length cl, .slice pb bs.length cb] w fun e w' => ∃ y : RnY, RnP s (l.map CP.c) bs y ∧ e = .returned (.tuple #[ptrN y.o.b, .slice y.pe y.evs.length y.ce, .slice y.pt y.ts.length y.ct, .bool true]) ∧ St (Go.SL.bs w) (offR y.o ++ [own 60 1 y.pe y.ce (y.evs.map rowC), bagR 62 7 evC y.evs, own 3 1 y.pt y.ct (y.ts.map iC)]) w' := by
  have hbs := hb.ok
  have htb := tAt_bd hbs
  refine enter (vs := [_, _, _]) (env := [(0, _), (1, _), (2, _)]) Try.func21 rfl rfl rfl rfl ?_
  refine VC.seq ?_
  refine VC.reg (VO.h rfl <| HO.box (C := #[_, _, _, _, _, _, _, _, _]) rfl rfl fun b1 => VO.l (LO.as (.r rfl)) rfl <| VO.l (LO.as (.r rfl)) rfl <| VO.l (LO.as (.r rfl)) rfl <| VO.l (LO.as (.r rfl)) rfl <| VO.nil ?_)
  refine VE.seqN ?_
  refine VC.seq ?_
  refine VC.reg (VO.l (LO.lda (vs := [_, _, _, _, _, _, _, _, _]) A28 (.r rfl) (fun _ hw => cells_at hw 0 rfl ⟨_, rfl⟩) rfl) rfl <| VO.h rfl <| HO.callx (xs := [_]) (vs := [_]) C26 ⟨(.r rfl), trivial⟩ (fun w hw => New_c g rgs pg cg a b d w hrl (hrg.keep hw) (by rw [← hse]; exact hs)) fun o hn => VO.h rfl <| HO.lo (LO.mv (.r rfl)) <| VO.h rfl <| HO.lo (LO.ex (.r rfl) rfl) <| VO.h rfl <| HO.lo (LO.ex (.r rfl) rfl) <| VO.h rfl <| HO.lo (LO.as (.r rfl)) <| VO.h rfl <| HO.lo (LO.as (.r rfl)) <| VO.nil ?_)
  refine VE.seqN ?_
  refine VC.seq ?_
  refine VC.seq ?_
  refine VC.reg (VO.l (LO.mv (.r rfl)) rfl <| VO.l (LO.ne (.r rfl) (.r rfl)) rfl <| VO.nil ?_)
  refine VE.seqN ?_
  refine VC.cond rfl (fun h24 => ?_) (fun h24 => ?_)
  ·
    (exfalso; exact h24 rfl)
  ·
    refine VC.skip (VE.seqN ?_)
    refine VC.seq ?_
    refine VC.reg (VO.l (LO.as (.r rfl)) rfl <| VO.nil ?_)
    refine VE.seqN ?_
    refine VC.seq ?_
    refine VC.reg (VO.l (LO.as (.r rfl)) rfl <| VO.nil ?_)
    refine VE.seqN ?_
    refine VC.seq ?_
    refine VC.reg (VO.l (LO.as (.r rfl)) rfl <| VO.nil ?_)
    refine VE.seqN ?_
    refine VC.seq ?_
    refine VC.seq ?_
    refine VC.reg (VO.l (LO.as (.r rfl)) rfl <| VO.nil ?_)
    refine VE.seqN ?_
    refine VC.block ?_
    refine VC.loopK (α := Nat × OfM × (List (RowA Ev)) × (Option Addr) × Nat × (List Int) × (Option Addr) × Nat) 10 (fun gx => [(12, .int .i64 (tAt bs gx.1)), (13, .slice gx.2.2.2.1 gx.2.2.1.length gx.2.2.2.2.1), (14, .slice gx.2.2.2.2.2.2.1 gx.2.2.2.2.2.1.length gx.2.2.2.2.2.2.2), (15, .int .i64 (gx.1 : Nat))]) [(1, _), (2, _), (10, _)] (fun gx => [OfM.blk gx.2.1, OfM.rgR gx.2.1, OfM.pxB gx.2.1, OfM.rcR gx.2.1, OfM.rcB gx.2.1, OfM.tsR gx.2.1, OfM.csR gx.2.1, OfM.csB gx.2.1, OfM.lgR gx.2.1, OfM.lgB gx.2.1, own 60 1 gx.2.2.2.1 gx.2.2.2.2.1 (gx.2.2.1.map rowC), bagR 62 7 evC gx.2.2.1, own 3 1 gx.2.2.2.2.2.2.1 gx.2.2.2.2.2.2.2 (gx.2.2.2.2.2.1.map iC)]) (fun gx => gx.1 ≤ bs.length ∧ gx.2.1.b = o.b ∧ RnA s (l.map CP.c) bs gx.2.1 gx.2.2.1 gx.2.2.2.2.2.1 gx.1) (fun gx => bs.length - gx.1) (0, o, [], none, 0, [], none, 0) (by exact ⟨Nat.zero_le _, rfl, sim_new hn (by rw [← hse]; exact hs) (fun x hx => (hrg.ok x hx).2), (by rw [hse]; obtain ⟨h1, h2, h3, h4, _, _, _, _, h8, _⟩ := hn; unfold OfM.sp; rw [h1, h2, h3, h4, h8]), rfl, rfl, (by obtain ⟨_, _, _, _, _, _, h7, _⟩ := hn; rw [h7]; rfl)⟩) (.cons rfl (.cons rfl (.cons rfl (.cons rfl (.cons rfl (.cons rfl (.cons rfl .nil))))))) (fun _ h => ((((h.ownNil 3 1).bagRNil 62 7 evC).ownNil 60 1)).sel [3, 4, 5, 6, 7, 8, 9, 10, 11, 12, 0, 1, 2, 13] rfl) ?_
    rintro ⟨i, o_, evs, pe_, ce_, ts, pt_, ct_⟩ ⟨hi, hob, hR⟩
    show VC _ _ _ _ _ ([(12, .int .i64 (tAt bs i)), (13, .slice pe_ evs.length ce_), (14, .slice pt_ ts.length ct_), (15, .int .i64 (i : Nat))] ++ _) ([OfM.blk o_, OfM.rgR o_, OfM.pxB o_, OfM.rcR o_, OfM.rcB o_, OfM.tsR o_, OfM.csR o_, OfM.csB o_, OfM.lgR o_, OfM.lgB o_, own 60 1 pe_ ce_ (evs.map rowC), bagR 62 7 evC evs, own 3 1 pt_ ct_ (ts.map iC)] ++ _) _ _
    dsimp only at hi hob hR
    rw [← hob]
    have hel : evs.length = i := by rw [← List.length_map (f := RowA.l), hR.2.2.1]; simp [evB]
    have htl : ts.length = i := by rw [hR.2.2.2.1]; simp [tmB]
    refine VC.seq ?_
    refine VC.seq ?_
    refine VC.reg (VO.l (LO.mv (.r rfl)) rfl <| VO.l (LO.mv (.r rfl)) rfl <| VO.l (LO.len S50 (.r rfl) rfl) rfl <| VO.l (LO.lt (.r rfl) (.r rfl)) rfl <| VO.nil ?_)
    refine VE.seqN ?_
    refine VC.cond rfl (fun h28 => ?_) (fun h28 => ?_)
    ·
      obtain ⟨x, hx⟩ : ∃ x, bs[i]? = some x := ⟨_, List.getElem?_eq_getElem (by omega)⟩
      have hxm : x ∈ bs := List.mem_of_getElem? hx
      have hxo := hbs x hxm
      have hla : 0 ≤ x.la ∧ x.la ≤ 65535 := hxo.1
      have htm := tm hla.1 (show (0 : Int) < 500 by decide)
      have hT := tAt_s hx
      have htb1 := htb i (by omega)
      have htb2 := htb (i + 1) (by omega)
      refine VC.skip (VE.seqN ?_)
      refine VC.seq ?_
      refine VC.block ?_
      refine VC.seq ?_
      refine VC.reg (VO.l (LO.mv (.r rfl)) rfl <| VO.l (LO.mv (.r rfl)) rfl <| VO.l (LO.mv (.r rfl)) rfl <| VO.l (LO.ixs S50 N66 hb.rows.sm (.r rfl) (.r rfl) rfl (by omega)) rfl <| VO.l (LO.fa F66_0 (.r rfl) rfl) rfl <| VO.l (LO.ld O46 (.r rfl) (fun w hw => cells_part (off := 0) ((fun w2 hw2 => (hb.rows.keep w2 hw2).cells _ _ (by rw [List.getElem?_map, hx]; rfl)) w hw) ⟨_, rfl⟩)) rfl <| VO.l (LO.cv ⟨_, Try.underlying46⟩ Try.underlying3 (.r rfl) (wi (by omega) (by omega))) rfl <| VO.l (LO.rem (.r rfl) (.r rfl) (by decide)) rfl <| VO.l (LO.add (.r rfl) (.r rfl) (wi (by omega) (by omega))) rfl <| VO.l (LO.add (.r rfl) (.r rfl) ((wi (by omega) (by omega)).trans hT.symm)) rfl <| VO.l (LO.as (.r rfl)) rfl <| VO.nil ?_)
      refine VE.seqN ?_
      refine VC.seq ?_
      refine VC.reg (VO.l (LO.mv (.r rfl)) rfl <| VO.l (LO.mv (.r rfl)) rfl <| VO.l (LO.mv (.r rfl)) rfl <| VO.l (LO.mv (.r rfl)) rfl <| VO.l (LO.ixs S50 N66 hb.rows.sm (.r rfl) (.r rfl) rfl (by omega)) rfl <| VO.l (LO.lda (vs := [_, _, _, _]) A66 (.r rfl) (fun w hw => cells_part (off := 0) ((fun w2 hw2 => (hb.rows.keep w2 hw2).cells _ _ (by rw [List.getElem?_map, hx]; rfl)) w hw) ⟨_, rfl⟩) rfl) rfl <| VO.l (LO.mv (.r rfl)) rfl <| VO.h rfl <| HO.callx (xs := [_, _]) (vs := [_, _]) C23 ⟨(.r rfl), (.r rfl), trivial⟩ (fun w hw => beat_c x l pl cl w hll (hbs x hxm) (hl.keep w hw)) fun qb hqb => VO.h rfl <| HO.callP (first := []) (cap := []) (xs := [_, _, _]) (vs := [_, _, _]) [_, _, _, _, _, _, _, _, _, _] [_, _, _, _, _] (selK (L1 := [_, _, _, _, _, _, _, _, _, _] ++ [_, _, _, _, _]) [1, 2, 3, 4, 5, 6, 7, 8, 9, 10, 0, 11, 12, 13, 14] rfl rfl) (.r rfl) C27 ⟨(.r rfl), (.r rfl), (.r rfl), trivial⟩ (fun w hw hh => Step_s o_ _ (tAt bs (i + 1)) qb.2 qb.1.1 qb.1.2 w hh (fun hs => clouds_rest hl hqb.2.2 (selK (L1 := offR o_ ++ [_]) [1, 2, 3, 4, 5, 6, 7, 8, 9, 10, 0] rfl rfl w hw) hs) (by omega) hR.1 (by omega) (by omega) (late_stB hR.1.ts hbs (by omega)) (by rw [← List.length_map (f := LgM.ent), hR.2.2.2.2]; simp [lgB]; omega) (by rw [hqb.1, show o_.g = s.g from congrArg Sp.g hR.2.1]; exact hlook x hxm)) fun y hy => VO.h rfl <| HO.lo (LO.mv (.r rfl)) <| VO.h rfl <| HO.lo (LO.ex (.r rfl) rfl) <| VO.h rfl <| HO.lo (LO.ex (.r rfl) rfl) <| VO.h rfl <| HO.lo (LO.as (.r rfl)) <| VO.h rfl <| HO.lo (LO.as (.r rfl)) <| VO.nil ?_)
      refine VE.seqN ?_
      refine VC.seq ?_
      refine VC.seq ?_
      refine VC.reg (VO.l (LO.mv (.r rfl)) rfl <| VO.l (LO.ne (.r rfl) (.r rfl)) rfl <| VO.nil ?_)
      refine VE.seqN ?_
      refine VC.cond rfl (fun h54 => ?_) (fun h54 => ?_)
      ·
        (exfalso; exact h54 rfl)
      ·
        refine VC.skip (VE.seqN ?_)
        refine VC.reg (VO.l (LO.mv (.r rfl)) rfl <| VO.l (LO.mv (.r rfl)) rfl <| VO.h rfl <| HO.bs (ps := [(_, _)]) (vs := [(_, _)]) (Z := [_]) (C := [_]) S54 Z60 N60 ⟨(.r rfl), trivial⟩ rfl rfl rfl rfl ⟨_, [_], [_], rfl, rfl, rfl, rfl, rfl⟩ fun b27 => VO.h rfl <| HO.appT ((⟨y.pe, y.ce, y.es⟩ : RowA Ev)) 13 0 (fun R => [_, _, _, _, _, _, _, _, _, _, _, _, _, R, _, _, _]) S54 S54 I60 (.r rfl) (.r rfl) rfl rfl rfl rfl rfl rfl rfl (fun _ => rfl) rfl (by omega) fun p3 c3 => VO.l (LO.mv (.r rfl)) rfl <| VO.l (LO.mv (.r rfl)) rfl <| VO.h rfl <| HO.bs (ps := [(_, _)]) (vs := [(_, _)]) (Z := [_]) (C := [_]) S55 Z3 N3 ⟨(.r rfl), trivial⟩ rfl rfl rfl rfl ⟨_, [_], [_], rfl, rfl, rfl, rfl, rfl⟩ fun b28 => VO.h rfl <| HO.appT ((tAt bs (i + 1))) 16 0 (fun R => [_, _, _, _, _, _, _, _, _, _, _, _, _, _, _, _, R, _]) S55 S55 I3 (.r rfl) (.r rfl) rfl rfl rfl rfl rfl rfl rfl (fun _ => rfl) rfl (by omega) fun p7 c7 => VO.h rfl <| HO.lo (LO.as (.r rfl)) <| VO.h rfl <| HO.lo (LO.as (.r rfl)) <| VO.nil ?_)
        refine VE.inN (VE.seqN ?_)
        refine VC.reg (VO.l (LO.mv (.r rfl)) rfl <| VO.l (LO.add (.r rfl) (.r rfl) (wi (by omega) (by omega))) rfl <| VO.l (LO.as (.r rfl)) rfl <| VO.nil ?_)
        refine VE.thenN fun a w ha hw => ⟨(i + 1, y.o o_ (tAt bs (i + 1)), evs ++ [(⟨y.pe, y.ce, y.es⟩ : RowA Ev)], p3, c3, ts ++ [tAt bs (i + 1)], p7, c7), ⟨by dsimp only; omega, rfl, rn_step hR hx hqb.1 hy⟩, (by dsimp only; omega), ha.sub (.cons rfl (.cons rfl (.cons rfl (.cons rfl (.cons rfl (.cons rfl (.cons rfl .nil))))))), (by exact selK (L1 := [_, _, _, _, _, _, _, _, _, _, _, _, _, _]) [1, 2, 3, 4, 5, 6, 7, 8, 9, 10, 11, 0, 12, 13] rfl rfl _ (St.bagRIn (x := (⟨y.pe, y.ce, y.es⟩ : RowA Ev)) (selK (L1 := [_, _, _, _, _, _, _, _, _, _, _, _, _, _, _]) [2, 15, 3, 4, 5, 6, 7, 8, 9, 10, 11, 12, 14, 16, 17] rfl rfl _ hw)))⟩
    ·
      refine VC.exit (VE.thenX (VE.thenX (VE.inX (VE.seqN ?_))))
      refine VC.seq ?_
      refine VC.reg (VO.l (LO.mv (.r rfl)) rfl <| VO.l (LO.mv (.r rfl)) rfl <| VO.l (LO.mv (.r rfl)) rfl <| VO.l (LO.as (.r rfl)) rfl <| VO.l (LO.as (.r rfl)) rfl <| VO.l (LO.as (.r rfl)) rfl <| VO.l (LO.as (.r rfl)) rfl <| VO.nil ?_)
      refine VE.seqN ?_
      refine VC.ret (VE.res (vs := [_, _, _, _]) rfl ⟨rfl, rfl, rfl, rfl, trivial⟩ (fun w hw => ?_))
      have hi2 : i = bs.length := by omega
      subst hi2
      exact ⟨⟨o_, evs, pe_, ce_, ts, pt_, ct_⟩, hR, rfl, selK (L1 := offR o_ ++ [_, _, _]) [0, 1, 2, 3, 4, 5, 6, 7, 8, 9, 10, 11, 12] rfl rfl _ hw⟩

end Go.Proofs.Ytdjflomhaljljaa

namespace Go.Proofs.Ytdjflomhaljljaa
open Go.SL Go.Proofs Go.Cast
set_option linter.unusedVariables false

/-! ### What IssueNumbered rests on -/
theorem foldl_max_le : ∀ (l : List Rch) (m b : Int), m ≤ b → (∀ x, x ∈ l → x.lv ≤ b) → l.foldl (fun m x => max m x.lv) m ≤ b
  | [], m, b, h, _ => h
  | x :: l, m, b, h, hl => foldl_max_le l (max m x.lv) b (by have := hl x (by simp); omega) (fun y hy => hl y (by simp [hy]))
theorem foldl_max_mem : ∀ (l : List Rch) (m : Int) {x : Rch}, x ∈ l → x.lv ≤ l.foldl (fun m x => max m x.lv) m
  | y :: l, m, x, h => by
    rcases List.mem_cons.1 h with rfl | q
    · have := foldl_max_ge l (max m x.lv)
      simp only [List.foldl_cons]; omega
    · exact foldl_max_mem l _ q
theorem maxLv_le {l : List Rch} {b : Int} (h : 0 ≤ b) (hl : ∀ x, x ∈ l → x.lv ≤ b) : maxLv l ≤ b := foldl_max_le l 0 b h hl
theorem maxLv_mem {l : List Rch} {x : Rch} (h : x ∈ l) : x.lv ≤ maxLv l := foldl_max_mem l 0 h
theorem keep_mem {T H : Int} {l : List Rch} {x : Rch} : x ∈ keepR T H l ↔ x ∈ l ∧ T - H ≤ x.t := by
  unfold keepR oldR
  simp [List.mem_filter]
theorem histR_mem {k : Nat} {st : List Stp} {x : Rch} : x ∈ histR k st ↔ ∃ s, s ∈ st ∧ x = ⟨s.t, (s.th.getD k zT).lv⟩ := by
  unfold histR
  simp only [List.mem_map]
  constructor
  · rintro ⟨s, h1, h2⟩; exact ⟨s, h1, h2.symm⟩
  · rintro ⟨s, h1, h2⟩; exact ⟨s, h1, h2.symm⟩
/-- A step that is held counts. -/
theorem lvS_ge {H : Int} {k : Nat} {st : List Stp} {s : Stp} (hs : s ∈ st) (h : lastT st - H ≤ s.t) : (s.th.getD k zT).lv ≤ lvS H k st :=
  maxLv_mem (x := ⟨s.t, (s.th.getD k zT).lv⟩) (keep_mem.2 ⟨histR_mem.2 ⟨s, hs, rfl⟩, h⟩)
theorem lvS_le {H b : Int} {k : Nat} {st : List Stp} (hb : 0 ≤ b) (h : ∀ s, s ∈ st → lastT st - H ≤ s.t → (s.th.getD k zT).lv ≤ b) : lvS H k st ≤ b :=
  maxLv_le hb fun x hx => by
    obtain ⟨h1, h2⟩ := keep_mem.1 hx
    obtain ⟨s, h3, rfl⟩ := histR_mem.1 h1
    exact h s h3 h2
theorem lvS_now {H : Int} {k : Nat} {st : List Stp} {s : Stp} (hH : 0 ≤ H) : (s.th.getD k zT).lv ≤ lvS H k (st ++ [s]) := lvS_ge (by simp) (by rw [lastT_snoc]; omega)
theorem lvS_up {H : Int} {k : Nat} {st : List Stp} {s : Stp} (hT : lastT st ≤ s.t ∨ st = []) : lvS H k (st ++ [s]) ≤ max (lvS H k st) (s.th.getD k zT).lv :=
  lvS_le (by have := lvS_nn (H := H) (k := k) (st := st); omega) fun x hx ht => by
    rcases List.mem_append.1 hx with q | q
    · rw [lastT_snoc] at ht
      have : (x.th.getD k zT).lv ≤ lvS H k st := lvS_ge q (by
        rcases hT with z | z
        · omega
        · rw [z] at q; cases q)
      omega
    · simp at q; subst q; omega
theorem thrP_pos {l pix : List Int} {x : Int} {a : Thr} (hx : 0 ≤ x) (hp : ∀ n, n ∈ pix → 0 ≤ n) (ha : 0 < a.lv → 0 ≤ a.ld ∧ 0 ≤ a.px) : ∀ k, 0 < (thrP l x pix a k).lv → 0 ≤ (thrP l x pix a k).ld ∧ 0 ≤ (thrP l x pix a k).px
  | 0 => ha
  | k + 1 => by
    unfold thrP
    split
    · intro _
      refine ⟨hx, ?_⟩
      show 0 ≤ pix.getD k 0
      rcases Nat.lt_or_ge k pix.length with q | q
      · exact hp _ (getD_mem q)
      · rw [List.getD_eq_getElem?_getD, List.getElem?_eq_none q]; decide
    · exact thrP_pos hx hp ha k
theorem thr_pos {ls : List (List Int)} {pix : List Int} {b : Int} (hb : 0 ≤ b) (hp : ∀ n, n ∈ pix → 0 ≤ n) : 0 < (thr ls pix b).lv → 0 ≤ (thr ls pix b).ld ∧ 0 ≤ (thr ls pix b).px := by
  have key : ∀ i, 0 < (thrL ls pix b i).lv → 0 ≤ (thrL ls pix b i).ld ∧ 0 ≤ (thrL ls pix b i).px := by
    intro i
    induction i with
    | zero => intro h; exact absurd h (by show ¬ (0 : Int) < 0; decide)
    | succ i ih => exact thrP_pos (Int.mul_nonneg (by omega) hb) hp ih _
  exact key _
theorem thrP_nn {l pix : List Int} {x : Int} {a : Thr} (ha : 0 ≤ a.lv) : ∀ k, 0 ≤ (thrP l x pix a k).lv
  | 0 => ha
  | k + 1 => by
    have := thrP_nn (l := l) (pix := pix) (x := x) ha k
    unfold thrP
    split
    · show 0 ≤ l.getD _ 0; omega
    · exact this
theorem thr_nn {ls : List (List Int)} {pix : List Int} {b : Int} : 0 ≤ (thr ls pix b).lv := by
  have key : ∀ i, 0 ≤ (thrL ls pix b i).lv := by
    intro i
    induction i with
    | zero => exact Int.le_refl 0
    | succ i ih => exact thrP_nn ih _
  exact key _
/-- The regions whose level changes. -/
def chg (H : Int) (st : List Stp) (s : Stp) (n : Nat) : List Nat := (List.range n).filter fun j => decide (lvS H j st ≠ lvS H j (st ++ [s]))
theorem chg_succ_y {H : Int} {st : List Stp} {s : Stp} {n : Nat} (h : lvS H n st ≠ lvS H n (st ++ [s])) : chg H st s (n + 1) = chg H st s n ++ [n] := by
  unfold chg; rw [List.range_succ, List.filter_append]; simp [h]
theorem chg_succ_n {H : Int} {st : List Stp} {s : Stp} {n : Nat} (h : lvS H n st = lvS H n (st ++ [s])) : chg H st s (n + 1) = chg H st s n := by
  unfold chg; rw [List.range_succ, List.filter_append]; simp [h]
def evK (H : Int) (st : List Stp) (s : Stp) (cs : List Cs) (j : Nat) : Ev := evS j (lvS H j st) (lvS H j (st ++ [s])) s.t (s.th.getD j zT) (runC H st s cs j)
theorem runE_chg {H : Int} {st : List Stp} {s : Stp} {cs : List Cs} : ∀ n, runE H st s cs n = (chg H st s n).map (evK H st s cs)
  | 0 => rfl
  | n + 1 => by
    unfold runE stepE
    by_cases h : lvS H n st = lvS H n (st ++ [s])
    · rw [if_pos h, chg_succ_n h, runE_chg n]
    · rw [if_neg h, chg_succ_y h, List.map_append, runE_chg n]; rfl
theorem chg_mem {H : Int} {st : List Stp} {s : Stp} {n j : Nat} : j ∈ chg H st s n ↔ j < n ∧ lvS H j st ≠ lvS H j (st ++ [s]) := by unfold chg; simp [List.mem_filter]
theorem chg_pw {H : Int} {st : List Stp} {s : Stp} {n : Nat} : (chg H st s n).Pairwise (· < ·) := List.Pairwise.filter _ List.pairwise_lt_range
/-- The region of an event, or the number of regions. -/
def qAt (H : Int) (st : List Stp) (s : Stp) (n k : Nat) : Nat := (chg H st s n).getD k n
theorem qAt_lt {H : Int} {st : List Stp} {s : Stp} {n k : Nat} (hk : k < (chg H st s n).length) : qAt H st s n k < n ∧ lvS H (qAt H st s n k) st ≠ lvS H (qAt H st s n k) (st ++ [s]) := chg_mem.1 (getD_mem hk)
theorem qAt_end {H : Int} {st : List Stp} {s : Stp} {n k : Nat} (hk : (chg H st s n).length ≤ k) : qAt H st s n k = n := by
  unfold qAt; rw [List.getD_eq_getElem?_getD, List.getElem?_eq_none hk]; rfl
theorem qAt_le {H : Int} {st : List Stp} {s : Stp} {n k : Nat} : qAt H st s n k ≤ n := by
  rcases Nat.lt_or_ge k (chg H st s n).length with q | q
  · exact Nat.le_of_lt (qAt_lt q).1
  · rw [qAt_end q]; exact Nat.le_refl _
/-- Between the regions of two events nothing changes. -/
theorem qAt_gap {H : Int} {st : List Stp} {s : Stp} {n k j : Nat} (h1 : k = 0 ∨ qAt H st s n (k - 1) < j) (h2 : j < qAt H st s n k) : lvS H j st = lvS H j (st ++ [s]) := by
  refine Classical.byContradiction fun hne => ?_
  have hjn : j < n := by have := qAt_le (H := H) (st := st) (s := s) (n := n) (k := k); omega
  obtain ⟨i, hi, e⟩ := List.getElem_of_mem (chg_mem.2 ⟨hjn, hne⟩)
  have pw := List.pairwise_iff_getElem.1 (chg_pw (H := H) (st := st) (s := s) (n := n))
  have gd : ∀ m (hm : m < (chg H st s n).length), qAt H st s n m = (chg H st s n)[m] := fun m hm => by unfold qAt; rw [List.getD_eq_getElem?_getD, List.getElem?_eq_getElem hm]; rfl
  rcases Nat.lt_or_ge i k with q | q
  · rcases h1 with z | z
    · omega
    · rw [gd (k - 1) (by
        have : qAt H st s n (k - 1) ≠ n := by omega
        rcases Nat.lt_or_ge (k - 1) (chg H st s n).length with y | y
        · exact y
        · exact absurd (qAt_end y) this)] at z
      by_cases y : i = k - 1
      · subst y; omega
      · have hk1 : k - 1 < (chg H st s n).length := by
          rcases Nat.lt_or_ge (k - 1) (chg H st s n).length with y | y
          · exact y
          · exfalso
            have := qAt_end (H := H) (st := st) (s := s) (n := n) y
            omega
        have := pw i (k - 1) hi hk1 (by omega)
        omega
  · have hk : k < (chg H st s n).length := by omega
    rw [gd k hk] at h2
    by_cases y : i = k
    · subst y; omega
    · have := pw k i hk hi (by omega)
      omega
theorem runC_skip {H : Int} {st : List Stp} {s : Stp} {cs : List Cs} {q : Nat} : ∀ d, (∀ j, q ≤ j → j < q + d → lvS H j st = lvS H j (st ++ [s])) → runC H st s cs (q + d) = runC H st s cs q
  | 0, _ => rfl
  | d + 1, h => by
    have ih := runC_skip (cs := cs) d (fun j h1 h2 => h j h1 (by omega))
    show stepC (q + d) (lvS H (q + d) st) (lvS H (q + d) (st ++ [s])) s.t (runC H st s cs (q + d)) = _
    rw [ih]
    unfold stepC
    exact if_pos (h (q + d) (by omega) (by omega))
theorem lvM_skip {H : Int} {st : List Stp} {s : Stp} {q q' : Nat} (hq : q ≤ q') (h : ∀ j, q ≤ j → j < q' → lvS H j st = lvS H j (st ++ [s])) : lvM H st s q' = lvM H st s q := by
  funext j
  unfold lvM
  by_cases h1 : j < q
  · rw [if_pos h1, if_pos (by omega)]
  · rw [if_neg h1]
    by_cases h2 : j < q'
    · rw [if_pos h2, h j (by omega) h2]
    · rw [if_neg h2]
theorem q_first {H : Int} {st : List Stp} {s : Stp} {cs : List Cs} {n : Nat} : lvM H st s (qAt H st s n 0) = (fun j => lvS H j st) ∧ runC H st s cs (qAt H st s n 0) = cs := by
  have g : ∀ j, 0 ≤ j → j < qAt H st s n 0 → lvS H j st = lvS H j (st ++ [s]) := fun j _ h => qAt_gap (.inl rfl) h
  constructor
  · rw [lvM_skip (Nat.zero_le _) g]; funext j; unfold lvM; simp
  · have := runC_skip (cs := cs) (q := 0) (qAt H st s n 0) (fun j h1 h2 => g j h1 (by omega))
    rw [Nat.zero_add] at this; exact this
theorem q_next {H : Int} {st : List Stp} {s : Stp} {cs : List Cs} {n k : Nat} (hk : k < (chg H st s n).length) :
    qAt H st s n k < qAt H st s n (k + 1) ∧ lvM H st s (qAt H st s n (k + 1)) = setL (lvM H st s (qAt H st s n k)) (qAt H st s n k) (lvS H (qAt H st s n k) (st ++ [s])) ∧
    runC H st s cs (qAt H st s n (k + 1)) = stepC (qAt H st s n k) (lvS H (qAt H st s n k) st) (lvS H (qAt H st s n k) (st ++ [s])) s.t (runC H st s cs (qAt H st s n k)) := by
  have hlt : qAt H st s n k < qAt H st s n (k + 1) := by
    rcases Nat.lt_or_ge (k + 1) (chg H st s n).length with q | q
    · unfold qAt
      rw [List.getD_eq_getElem?_getD, List.getD_eq_getElem?_getD, List.getElem?_eq_getElem hk, List.getElem?_eq_getElem q]
      exact List.pairwise_iff_getElem.1 chg_pw k (k + 1) hk q (by omega)
    · rw [qAt_end q]; exact (qAt_lt hk).1
  have g : ∀ j, qAt H st s n k + 1 ≤ j → j < qAt H st s n (k + 1) → lvS H j st = lvS H j (st ++ [s]) := fun j h1 h2 => qAt_gap (k := k + 1) (.inr (by rw [Nat.add_sub_cancel]; exact h1)) h2
  refine ⟨hlt, ?_, ?_⟩
  · rw [lvM_skip hlt g]
    funext j; unfold setL lvM
    by_cases e : j = qAt H st s n k
    · rw [if_pos (by omega), if_pos e, e]
    · rw [if_neg e]
      by_cases e2 : j < qAt H st s n k
      · rw [if_pos (by omega), if_pos e2]
      · rw [if_neg (by omega), if_neg e2]
  · have := runC_skip (cs := cs) (q := qAt H st s n k + 1) (qAt H st s n (k + 1) - (qAt H st s n k + 1)) (fun j h1 h2 => g j h1 (by omega))
    rw [show qAt H st s n k + 1 + (qAt H st s n (k + 1) - (qAt H st s n k + 1)) = qAt H st s n (k + 1) by omega] at this
    rw [this]; rfl
/-- What arrays of a law say of levels and open warnings. -/
structure NumI (n : Nat) (lv : Nat → Int) (cs : List Cs) (le nu pe be : List Int) : Prop where
  l1 : le.length = n
  l2 : nu.length = n
  l3 : pe.length = n
  l4 : be.length = n
  le : ∀ j, j < n → le.getD j 0 = lv j
  op : ∀ j, j < n → lv j ≠ 0 → ∃ (i : Nat) (c : Cs), cs[i]? = some c ∧ opn j c = true ∧ nu.getD j 0 = c.nm ∧ pe.getD j 0 = c.pk ∧ be.getD j 0 = c.bg
theorem getD_set_e {l : List Int} {j : Nat} {v : Int} (h : j < l.length) : (l.set j v).getD j 0 = v := by rw [List.getD_eq_getElem?_getD, List.getElem?_set, if_pos rfl, if_pos h]; rfl
theorem getD_set_n {l : List Int} {i j : Nat} {v : Int} (h : i ≠ j) : (l.set i v).getD j 0 = l.getD j 0 := by rw [List.getD_eq_getElem?_getD, List.getD_eq_getElem?_getD, List.getElem?_set, if_neg h]
theorem getD_rep0 {n j : Nat} : (List.replicate n (0 : Int)).getD j 0 = 0 := by
  rw [List.getD_eq_getElem?_getD, List.getElem?_replicate]; split <;> rfl
theorem num_nil {n : Nat} {lv : Nat → Int} (h : ∀ j, lv j = 0) : NumI n lv [] (List.replicate n 0) (List.replicate n 0) (List.replicate n 0) (List.replicate n 0) :=
  ⟨by simp, by simp, by simp, by simp, fun j hj => by rw [getD_rep0, h], fun j _ q => absurd (h j) q⟩
/-- The warnings grow, and what is over stays. -/
def CsExt (cs cs' : List Cs) : Prop := cs.length ≤ cs'.length ∧ ∀ (j : Nat) (c : Cs), cs[j]? = some c → c.en ≠ never → cs'[j]? = some c
theorem ext_refl (cs : List Cs) : CsExt cs cs := ⟨Nat.le_refl _, fun _ _ h _ => h⟩
theorem ext_trans {a b c : List Cs} (h : CsExt a b) (k : CsExt b c) : CsExt a c := ⟨Nat.le_trans h.1 k.1, fun j x hx hn => k.2 j x (h.2 j x hx hn) hn⟩
theorem ext_step {k : Nat} {b m T : Int} {cs : List Cs} : CsExt cs (stepC k b m T cs) := by
  unfold stepC
  split
  · exact ext_refl _
  · split
    · exact ⟨by simp, fun j c h _ => by rw [List.getElem?_append_left (List.getElem?_eq_some_iff.1 h).1]; exact h⟩
    · refine ⟨by simp, fun j c h hn => ?_⟩
      rw [List.getElem?_map, h]
      simp only [Option.map_some]
      rw [if_neg (fun q => hn (opn_iff.1 q).2)]
theorem ext_run {H : Int} {st : List Stp} {s : Stp} {cs : List Cs} : ∀ {a b : Nat}, a ≤ b → CsExt (runC H st s cs a) (runC H st s cs b)
  | a, 0, h => by have : a = 0 := by omega
                  subst this; exact ext_refl _
  | a, b + 1, h => by
    by_cases e : a = b + 1
    · subst e; exact ext_refl _
    · exact ext_trans (ext_run (by omega : a ≤ b)) ext_step
/-- The arrays behind an event. -/
theorem num_step {n q : Nat} {lv : Nat → Int} {cs : List Cs} {le nu pe be : List Int} {b m T : Int} (h : NumI n lv cs le nu pe be) (hok : CsOk n lv cs) (hq : q < n) (hb : lv q = b) (hne : b ≠ m) (hb0 : 0 ≤ b) (hm0 : 0 ≤ m) :
    NumI n (setL lv q m) (stepC q b m T cs) (le.set q m) (if b = 0 then nu.set q (cs.length + 1) else nu) ((if b = 0 then pe.set q 0 else pe).set q (max ((if b = 0 then pe.set q 0 else pe).getD q 0) m)) (if b = 0 then be.set q T else be) := by
  refine ⟨by simp [h.l1], by split <;> simp [h.l2], by split <;> simp [h.l3], by split <;> simp [h.l4], ?_, ?_⟩
  · intro j hj
    by_cases e : q = j
    · subst e; rw [getD_set_e (by rw [h.l1]; exact hq)]; unfold setL; rw [if_pos rfl]
    · rw [getD_set_n e, h.le j hj]; unfold setL; rw [if_neg (Ne.symm e)]
  · intro j hj hl
    by_cases e : q = j
    · subst e
      have hm : m ≠ 0 := by unfold setL at hl; simpa using hl
      unfold stepC
      rw [if_neg hne]
      by_cases z : b = 0
      · rw [if_pos z, if_pos z, if_pos z, if_pos z]
        refine ⟨cs.length, ⟨cs.length + 1, q, T, never, m⟩, by rw [List.getElem?_append_right (Nat.le_refl _)]; simp, opn_iff.2 ⟨rfl, rfl⟩, getD_set_e (by rw [h.l2]; exact hq), ?_, getD_set_e (by rw [h.l4]; exact hq)⟩
        rw [getD_set_e (by rw [List.length_set, h.l3]; exact hq), getD_set_e (by rw [h.l3]; exact hq)]
        show max 0 m = m; omega
      · rw [if_neg z, if_neg z, if_neg z, if_neg z]
        obtain ⟨i, c, h1, h2, h3, h4, h5⟩ := h.op q hq (by rw [hb]; exact z)
        refine ⟨i, { c with en := if m = 0 then T else c.en, pk := max c.pk m }, ?_, ?_, h3, ?_, h5⟩
        · rw [List.getElem?_map, h1]; simp only [Option.map_some]; rw [if_pos h2]
        · refine opn_iff.2 ⟨(opn_iff.1 h2).1, ?_⟩
          simp only; rw [if_neg hm]; exact (opn_iff.1 h2).2
        · rw [getD_set_e (by rw [h.l3]; exact hq), h4]
    · have hl2 : lv j ≠ 0 := by unfold setL at hl; rwa [if_neg (Ne.symm e)] at hl
      obtain ⟨i, c, h1, h2, h3, h4, h5⟩ := h.op j hj hl2
      have hc := opn_iff.1 h2
      refine ⟨i, c, ?_, h2, ?_, ?_, ?_⟩
      · unfold stepC
        rw [if_neg hne]
        split
        · rw [List.getElem?_append_left (List.getElem?_eq_some_iff.1 h1).1]; exact h1
        · rw [List.getElem?_map, h1]; simp only [Option.map_some]
          rw [if_neg (fun z => e (by have := (opn_iff.1 z).1; rw [hc.1] at this; omega))]
      · split
        · rw [getD_set_n e]; exact h3
        · exact h3
      · rw [getD_set_n e]
        split
        · rw [getD_set_n e]; exact h4
        · exact h4
      · split
        · rw [getD_set_n e]; exact h5
        · exact h5
/-- The number of an event is that of its warning. -/
theorem num_nm {n q : Nat} {lv : Nat → Int} {cs : List Cs} {le nu pe be : List Int} {b : Int} (h : NumI n lv cs le nu pe be) (hok : CsOk n lv cs) (hq : q < n) (hb : lv q = b) (z : b ≠ 0) : ∃ (i : Nat) (c : Cs), cs[i]? = some c ∧ opn q c = true ∧ openNm q cs = c.nm ∧ nu.getD q 0 = c.nm ∧ c.nm = i + 1 ∧ pe.getD q 0 = c.pk ∧ be.getD q 0 = c.bg := by
  obtain ⟨i, c, h1, h2, h3, h4, h5⟩ := h.op q hq (by rw [hb]; exact z)
  have hc := opn_iff.1 h2
  exact ⟨i, c, h1, h2, open_nm h1 h2 (fun i' d hd ho => by
    have := opn_iff.1 ho
    exact hok.one i' i d c hd h1 (by rw [this.1, hc.1]) this.2 hc.2), h3, hok.nm i c h1, h4, h5⟩
/-- Where a level was reached last. -/
def HighI (H : Int) (n : Nat) (st : List Stp) (hi : List Int) : Prop := hi.length = n ∧ ∀ j, j < n → (0 ≤ hi.getD j 0 ∧ hi.getD j 0 ≤ lastT st) ∧ (lvS H j st ≠ 0 → ∃ s, s ∈ st ∧ s.t = hi.getD j 0 ∧ lvS H j st ≤ (s.th.getD j zT).lv)
/-- The same in the midst of a step. -/
def HighM (H : Int) (n : Nat) (st : List Stp) (s : Stp) (k : Nat) (hi : List Int) : Prop := hi.length = n ∧ ∀ j, j < n → if j < k then (0 ≤ hi.getD j 0 ∧ hi.getD j 0 ≤ s.t) ∧ (lvS H j (st ++ [s]) ≠ 0 → ∃ s', s' ∈ st ++ [s] ∧ s'.t = hi.getD j 0 ∧ lvS H j (st ++ [s]) ≤ (s'.th.getD j zT).lv)
  else (0 ≤ hi.getD j 0 ∧ hi.getD j 0 ≤ lastT st) ∧ (lvS H j st ≠ 0 → ∃ s, s ∈ st ∧ s.t = hi.getD j 0 ∧ lvS H j st ≤ (s.th.getD j zT).lv)
theorem high_0 {H : Int} {n : Nat} {st : List Stp} {s : Stp} {hi : List Int} (h : HighI H n st hi) : HighM H n st s 0 hi := ⟨h.1, fun j hj => by rw [if_neg (by omega)]; exact h.2 j hj⟩
theorem high_n {H : Int} {n : Nat} {st : List Stp} {s : Stp} {hi : List Int} (h : HighM H n st s n hi) : HighI H n (st ++ [s]) hi := ⟨h.1, fun j hj => by have := h.2 j hj; rw [if_pos hj] at this; rw [lastT_snoc]; exact this⟩
theorem high_y {H : Int} {n k : Nat} {st : List Stp} {s : Stp} {hi : List Int} (h : HighM H n st s k hi) (hk : k < n) (hs0 : 0 ≤ s.t) (e : (s.th.getD k zT).lv = lvS H k (st ++ [s])) : HighM H n st s (k + 1) (hi.set k s.t) := by
  refine ⟨by simp [h.1], fun j hj => ?_⟩
  by_cases q : k = j
  · subst q
    rw [if_pos (by omega), getD_set_e (by rw [h.1]; exact hk)]
    exact ⟨⟨hs0, Int.le_refl _⟩, fun _ => ⟨s, by simp, rfl, by omega⟩⟩
  · have := h.2 j hj
    rw [getD_set_n q]
    by_cases z : j < k
    · rw [if_pos (by omega)]; rw [if_pos z] at this; exact this
    · rw [if_neg (by omega)]; rw [if_neg z] at this; exact this
theorem high_x {H : Int} {n k : Nat} {st : List Stp} {s : Stp} {hi : List Int} (h : HighM H n st s k hi) (hk : k < n) (hH : 0 ≤ H) (hT : lastT st ≤ s.t ∨ st = []) (hT0 : lastT st ≤ s.t) (e : (s.th.getD k zT).lv ≠ lvS H k (st ++ [s])) : HighM H n st s (k + 1) hi := by
  refine ⟨h.1, fun j hj => ?_⟩
  have := h.2 j hj
  by_cases q : k = j
  · subst q
    rw [if_neg (by omega)] at this
    rw [if_pos (by omega)]
    have h1 := lvS_now (H := H) (k := k) (st := st) (s := s) hH
    have h2 := lvS_up (H := H) (k := k) (st := st) (s := s) hT
    have h3 : lvS H k (st ++ [s]) ≤ lvS H k st := by omega
    refine ⟨⟨this.1.1, by omega⟩, fun q => ?_⟩
    have h4 := lvS_nn (H := H) (k := k) (st := st ++ [s])
    obtain ⟨s', g1, g2, g3⟩ := this.2 (by omega)
    exact ⟨s', List.mem_append_left _ g1, g2, by omega⟩
  · by_cases z : j < k
    · rw [if_pos (by omega)]; rw [if_pos z] at this; exact this
    · rw [if_neg (by omega)]; rw [if_neg z] at this; exact this
/-- What is lowered was not reached within the hold. -/
theorem high_low {H : Int} {n q : Nat} {st : List Stp} {s : Stp} {hi : List Int} (h : HighI H n st hi) (hq : q < n) (hl : lvS H q (st ++ [s]) < lvS H q st) : ¬ s.t - hi.getD q 0 ≤ H := by
  intro k
  have h0 := lvS_nn (H := H) (k := q) (st := st ++ [s])
  obtain ⟨s', g1, g2, g3⟩ := (h.2 q hq).2 (by omega)
  have := lvS_ge (H := H) (k := q) (st := st ++ [s]) (s := s') (List.mem_append_left _ g1) (by rw [lastT_snoc, g2]; omega)
  omega
/-- With no hold a level is the threat. -/
theorem lvS_zero {k : Nat} {st : List Stp} {s : Stp} (h : ∀ x, x ∈ st → x.t < s.t) (h0 : 0 ≤ (s.th.getD k zT).lv) : lvS 0 k (st ++ [s]) = (s.th.getD k zT).lv := by
  refine Int.le_antisymm (lvS_le h0 fun x hx ht => ?_) (lvS_now (Int.le_refl 0))
  rw [lastT_snoc] at ht
  rcases List.mem_append.1 hx with q | q
  · have := h x q; omega
  · simp at q; subst q; exact Int.le_refl _
/-- As many warnings are open as regions are watched. -/
theorem open_count {n : Nat} {lv : Nat → Int} {cs : List Cs} (h : CsOk n lv cs) : cs.countP (fun c => decide (c.en = never)) = (List.range n).countP (fun j => decide (lv j ≠ 0)) := by
  rw [List.countP_eq_length_filter, List.countP_eq_length_filter]
  have hp : ((cs.filter fun c => decide (c.en = never)).map fun c => c.rg.toNat).Perm ((List.range n).filter fun j => decide (lv j ≠ 0)) := by
    refine (List.perm_ext_iff_of_nodup ?_ (List.Pairwise.filter _ List.nodup_range)).2 fun a => ?_
    · unfold List.Nodup
      rw [List.pairwise_map, List.pairwise_filter]
      refine List.pairwise_iff_getElem.2 fun i j hi hj hij h1 h2 e => ?_
      have r1 := h.rg i _ (List.getElem?_eq_getElem hi)
      have r2 := h.rg j _ (List.getElem?_eq_getElem hj)
      have := h.one i j _ _ (List.getElem?_eq_getElem hi) (List.getElem?_eq_getElem hj) (by omega) (of_decide_eq_true h1) (of_decide_eq_true h2)
      omega
    · simp only [List.mem_map, List.mem_filter, List.mem_range, decide_eq_true_eq]
      constructor
      · rintro ⟨c, ⟨h1, h2⟩, rfl⟩
        obtain ⟨j, hj⟩ := List.mem_iff_getElem?.1 h1
        have := h.rg j c hj
        exact ⟨by omega, h.op j c hj h2⟩
      · rintro ⟨h1, h2⟩
        obtain ⟨j, c, h3, h4, h5⟩ := h.has a h1 h2
        exact ⟨c, ⟨List.mem_of_getElem? h3, h5⟩, by rw [h4]; simp⟩
  rw [← hp.length_eq, List.length_map]
/-- Warnings stand in the order of their beginnings. -/
def CsOrd (T : Int) (q : Nat) (cs : List Cs) : Prop := (∀ j, 0 < j → j < cs.length → (cs.getD (j - 1) zC).bg < (cs.getD j zC).bg ∨ (cs.getD (j - 1) zC).bg = (cs.getD j zC).bg ∧ (cs.getD (j - 1) zC).rg < (cs.getD j zC).rg) ∧ (0 < cs.length → (cs.getD (cs.length - 1) zC).bg < T ∨ (cs.getD (cs.length - 1) zC).bg = T ∧ (cs.getD (cs.length - 1) zC).rg < (q : Int))
theorem ord_step {T b m : Int} {q : Nat} {cs : List Cs} (h : CsOrd T q cs) : CsOrd T (q + 1) (stepC q b m T cs) := by
  unfold stepC
  split
  · refine ⟨h.1, fun hl => ?_⟩
    rcases h.2 hl with z | z
    · exact .inl z
    · exact .inr ⟨z.1, by omega⟩
  · split
    · have e1 : ∀ j, j < cs.length → (cs ++ [(⟨cs.length + 1, q, T, never, m⟩ : Cs)]).getD j zC = cs.getD j zC := fun j hj => getD_app_l hj
      have e2 : (cs ++ [(⟨cs.length + 1, q, T, never, m⟩ : Cs)]).getD cs.length zC = ⟨cs.length + 1, q, T, never, m⟩ := getD_snoc
      refine ⟨fun j h0 hj => ?_, fun _ => ?_⟩
      · rw [List.length_append, List.length_singleton] at hj
        by_cases e : j = cs.length
        · subst e
          rw [e2, e1 _ (by omega)]
          exact h.2 h0
        · rw [e1 j (by omega), e1 (j - 1) (by omega)]
          exact h.1 j h0 (by omega)
      · rw [List.length_append, List.length_singleton, Nat.add_sub_cancel, e2]
        exact .inr ⟨rfl, by show (q : Int) < _; omega⟩
    · have e : ∀ j, (cs.map fun c => if opn q c = true then { c with en := if m = 0 then T else c.en, pk := max c.pk m } else c).getD j zC = (fun c => if opn q c = true then { c with en := if m = 0 then T else c.en, pk := max c.pk m } else c) (cs.getD j zC) ∨ cs.length ≤ j := fun j => by
        rcases Nat.lt_or_ge j cs.length with z | z
        · left
          rw [List.getD_eq_getElem?_getD, List.getD_eq_getElem?_getD, List.getElem?_map, List.getElem?_eq_getElem z]; rfl
        · exact .inr z
      have e3 : ∀ j, j < cs.length → ((cs.map fun c => if opn q c = true then { c with en := if m = 0 then T else c.en, pk := max c.pk m } else c).getD j zC).bg = (cs.getD j zC).bg ∧ ((cs.map fun c => if opn q c = true then { c with en := if m = 0 then T else c.en, pk := max c.pk m } else c).getD j zC).rg = (cs.getD j zC).rg := fun j hj => by
        rcases e j with z | z
        · rw [z]; dsimp only; split <;> exact ⟨rfl, rfl⟩
        · omega
      refine ⟨fun j h0 hj => ?_, fun hl => ?_⟩
      · rw [List.length_map] at hj
        rw [(e3 j hj).1, (e3 j hj).2, (e3 (j - 1) (by omega)).1, (e3 (j - 1) (by omega)).2]
        exact h.1 j h0 hj
      · rw [List.length_map] at hl ⊢
        rw [(e3 _ (by omega)).1, (e3 _ (by omega)).2]
        rcases h.2 hl with z | z
        · exact .inl z
        · exact .inr ⟨z.1, by omega⟩
theorem ord_run {H : Int} {st : List Stp} {s : Stp} {cs : List Cs} (h : CsOrd s.t 0 cs) : ∀ k, CsOrd s.t k (runC H st s cs k)
  | 0 => h
  | k + 1 => ord_step (ord_run h k)
theorem ord_all {H : Int} {n : Nat} {st : List Stp} (hs : (st.map Stp.t).Pairwise (· < ·)) : ∀ m, m ≤ st.length → CsOrd ((st.getD m zS).t) 0 (csA H n st m) ∨ m = st.length ∧ ∃ T, CsOrd T n (csA H n st m)
  | 0, _ => .inl ⟨fun j h0 hj => by simp [csA] at hj, fun hl => by simp [csA] at hl⟩
  | m + 1, hm => by
    have ih : CsOrd ((st.getD m zS).t) 0 (csA H n st m) := by
      rcases ord_all hs m (by omega) with z | ⟨z, _⟩
      · exact z
      · omega
    have h1 := ord_run (H := H) (st := st.take m) ih n
    rcases Nat.lt_or_ge (m + 1) st.length with q | q
    · left
      refine ⟨h1.1, fun hl => .inl ?_⟩
      have hlt : (st.getD m zS).t < (st.getD (m + 1) zS).t := by
        have := List.pairwise_iff_getElem.1 hs m (m + 1) (by simp; omega) (by simp; omega) (by omega)
        rw [List.getElem_map, List.getElem_map] at this
        rw [List.getD_eq_getElem?_getD, List.getD_eq_getElem?_getD, List.getElem?_eq_getElem (by omega), List.getElem?_eq_getElem q]
        exact this
      rcases h1.2 hl with z | z
      · exact Int.lt_trans z hlt
      · rw [← z.1] at hlt; exact hlt
    · exact .inr ⟨by omega, _, h1⟩
theorem ord_fin {H : Int} {n : Nat} {st : List Stp} (hs : (st.map Stp.t).Pairwise (· < ·)) : ∀ j, 0 < j → j < (csF H n st).length → ((csF H n st).getD (j - 1) zC).bg < ((csF H n st).getD j zC).bg ∨ ((csF H n st).getD (j - 1) zC).bg = ((csF H n st).getD j zC).bg ∧ ((csF H n st).getD (j - 1) zC).rg < ((csF H n st).getD j zC).rg := by
  rcases ord_all (H := H) (n := n) hs st.length (Nat.le_refl _) with z | ⟨_, T, z⟩
  · exact z.1
  · exact z.1

end Go.Proofs.Ytdjflomhaljljaa

namespace Go.Proofs.Ytdjflomhaljljaa
open Go.SL Go.Proofs Go.Cast
set_option linter.unusedVariables false

/-! ### The steps of a draft -/
section
variable (d : DrM) (lc : List Cloud) (bs : List BtM) (i : Nat)
def nD : Nat := (drRegs d 3).length
def stD : List Stp := stB (drSp d) lc bs i
def sD : Stp := ⟨tAt bs (i + 1), thsP (drSp d) (beatL (bs.getD i ⟨0, 0, 0, true⟩) lc)⟩
def csD : List Cs := csF (drC d) (nD d) (stD d lc bs i)
def rnD (q : Nat) : List Cs := runC (drC d) (stD d lc bs i) (sD d lc bs i) (csD d lc bs i) q
def lvD (q : Nat) : Nat → Int := lvM (drC d) (stD d lc bs i) (sD d lc bs i) q
def qD (k : Nat) : Nat := qAt (drC d) (stD d lc bs i) (sD d lc bs i) (nD d) k
def chD : List Nat := chg (drC d) (stD d lc bs i) (sD d lc bs i) (nD d)
def lsD (j : Nat) : Int := lvS (drC d) j (stD d lc bs i)
def thD (j : Nat) : Thr := (sD d lc bs i).th.getD j zT
def lastQ (k : Nat) : Int := if k = 0 then -1 else (qD d lc bs i (k - 1) : Nat)
end
section
variable {d : DrM} {lc : List Cloud} {bs : List BtM} {i : Nat}
theorem stD_snoc : stD d lc bs (i + 1) = stD d lc bs i ++ [sD d lc bs i] := stB_snoc
theorem csD_snoc : csD d lc bs (i + 1) = rnD d lc bs i (nD d) := by unfold csD; rw [stD_snoc, csF_snoc]; rfl
theorem lsD_snoc : lsD d lc bs (i + 1) = fun j => lvS (drC d) j (stD d lc bs i ++ [sD d lc bs i]) := by funext j; unfold lsD; rw [stD_snoc]
theorem sD_bd (hb : ∀ b, b ∈ bs → b.ok) (hi : i < bs.length) : 0 ≤ (sD d lc bs i).t ∧ (sD d lc bs i).t ≤ 500 * ((i : Int) + 1) := by
  have := tAt_bd hb (i + 1) (by omega)
  unfold sD; dsimp only; omega
theorem stD_last (hb : ∀ b, b ∈ bs → b.ok) (hi : i < bs.length) : lastT (stD d lc bs i) < (sD d lc bs i).t := by
  have hlt := tAt_lt hb hi
  cases i with
  | zero =>
    exact hlt
  | succ k =>
    show lastT (stB (drSp d) lc bs (k + 1)) < tAt bs (k + 1 + 1)
    rw [stB_snoc, lastT_snoc]; exact hlt
theorem stD_mem {x : Stp} (hx : x ∈ stD d lc bs i) : ∃ k, k < i ∧ x = sD d lc bs k := by
  unfold stD stB at hx
  obtain ⟨k, hk, e⟩ := List.mem_map.1 hx
  exact ⟨k, List.mem_range.1 hk, e.symm⟩
theorem tAt_mono (hb : ∀ b, b ∈ bs → b.ok) : ∀ {k j : Nat}, k ≤ j → j ≤ bs.length → tAt bs k ≤ tAt bs j
  | k, 0, h, _ => by have : k = 0 := by omega
                     subst this; exact Int.le_refl _
  | k, j + 1, h, hj => by
    by_cases e : k = j + 1
    · subst e; exact Int.le_refl _
    · have := tAt_mono hb (k := k) (j := j) (by omega) (by omega)
      have := tAt_lt hb (i := j) (by omega)
      omega
theorem stD_lt (hb : ∀ b, b ∈ bs → b.ok) (hi : i < bs.length) {x : Stp} (hx : x ∈ stD d lc bs i) : x.t < (sD d lc bs i).t := by
  obtain ⟨k, hk, rfl⟩ := stD_mem hx
  show tAt bs (k + 1) < tAt bs (i + 1)
  have h1 := tAt_mono hb (k := k + 1) (j := i) (by omega) (by omega)
  have h2 := tAt_lt hb hi
  omega
theorem stD_nv (hb : ∀ b, b ∈ bs → b.ok) (hl : bs.length ≤ 1000) (hi : i ≤ bs.length) : ∀ s, s ∈ stD d lc bs i → s.t ≠ never := fun s hs => by
  obtain ⟨k, hk, rfl⟩ := stD_mem hs
  have := sD_bd (d := d) (lc := lc) (i := k) hb (by omega)
  unfold never; omega
theorem csD_ok (hb : ∀ b, b ∈ bs → b.ok) (hl : bs.length ≤ 1000) (hi : i ≤ bs.length) : CsOk (nD d) (lsD d lc bs i) (csD d lc bs i) := csOk_all _ (stD_nv hb hl hi)
theorem rnD_ok (hb : ∀ b, b ∈ bs → b.ok) (hl : bs.length ≤ 1000) (hi : i < bs.length) {q : Nat} (hq : q ≤ nD d) : CsOk (nD d) (lvD d lc bs i q) (rnD d lc bs i q) :=
  csOk_run (csD_ok hb hl (Nat.le_of_lt hi)) (by have := sD_bd (d := d) (lc := lc) hb hi; unfold never; omega) q hq
theorem csD_ext {j : Nat} (h : i ≤ j) : CsExt (csD d lc bs i) (csD d lc bs j) := by
  induction j with
  | zero => have : i = 0 := by omega
            subst this; exact ext_refl _
  | succ j ih =>
    by_cases e : i = j + 1
    · subst e; exact ext_refl _
    · refine ext_trans (ih (by omega)) ?_
      rw [csD_snoc]
      exact ext_run (H := drC d) (st := stD d lc bs j) (s := sD d lc bs j) (cs := csD d lc bs j) (a := 0) (Nat.zero_le _)
theorem rnD_ext {q j : Nat} (hq : q ≤ nD d) (h : i < j) : CsExt (rnD d lc bs i q) (csD d lc bs j) := by
  refine ext_trans (ext_run hq) ?_
  have := csD_ext (d := d) (lc := lc) (bs := bs) (i := i + 1) (j := j) h
  rw [csD_snoc] at this; exact this
theorem evD_len {s : Sp} {l : List Ev} (h : l = evF (drC d) (nD d) (stD d lc bs i) (sD d lc bs i)) : l.length = (chD d lc bs i).length := by
  rw [h]; unfold evF; rw [runE_chg, List.length_map]; rfl
theorem evD_get {l : List Ev} (h : l = evF (drC d) (nD d) (stD d lc bs i) (sD d lc bs i)) {k : Nat} (hk : k < (chD d lc bs i).length) : l[k]? = some (evS (qD d lc bs i k) (lsD d lc bs i (qD d lc bs i k)) (lsD d lc bs (i + 1) (qD d lc bs i k)) (sD d lc bs i).t (thD d lc bs i (qD d lc bs i k)) (rnD d lc bs i (qD d lc bs i k))) := by
  rw [h]; unfold evF; rw [runE_chg, List.getElem?_map]
  have : (chg (drC d) (stD d lc bs i) (sD d lc bs i) (nD d))[k]? = some (qD d lc bs i k) := getD_some hk
  rw [this, lsD_snoc]; rfl
/-- What holds of an event. -/
theorem evD_fact (hd : d.ok) (hb : ∀ b, b ∈ bs → b.ok) (hl : bs.length ≤ 1000) (hi : i < bs.length) (hpx : ∀ r, r ∈ drRegs d 3 → ∀ n, n ∈ r.pix → 0 ≤ n) {k : Nat} (hk : k < (chD d lc bs i).length) {le nu pe be : List Int}
    (hN : NumI (nD d) (lvD d lc bs i (qD d lc bs i k)) (rnD d lc bs i (qD d lc bs i k)) le nu pe be) :
    ∃ (q : Nat) (b m : Int), q = qD d lc bs i k ∧ q < nD d ∧ b = lsD d lc bs i q ∧ m = lsD d lc bs (i + 1) q ∧ b ≠ m ∧ 0 ≤ b ∧ 0 ≤ m ∧ le.getD q 0 = b ∧ lastQ d lc bs i k < (q : Int) ∧ lastQ d lc bs i (k + 1) = (q : Int) ∧ (b < m → 0 ≤ (thD d lc bs i q).ld ∧ 0 ≤ (thD d lc bs i q).px) ∧
      NumI (nD d) (lvD d lc bs i (qD d lc bs i (k + 1))) (rnD d lc bs i (qD d lc bs i (k + 1))) (le.set q m) (if b = 0 then nu.set q ((rnD d lc bs i q).length + 1) else nu) ((if b = 0 then pe.set q 0 else pe).set q (max ((if b = 0 then pe.set q 0 else pe).getD q 0) m)) (if b = 0 then be.set q (sD d lc bs i).t else be) ∧
      rnD d lc bs i (qD d lc bs i (k + 1)) = stepC q b m (sD d lc bs i).t (rnD d lc bs i q) ∧
      (b ≠ 0 → ∃ (c : Nat) (x : Cs), (rnD d lc bs i q)[c]? = some x ∧ opn q x = true ∧ openNm q (rnD d lc bs i q) = x.nm ∧ nu.getD q 0 = x.nm ∧ x.nm = c + 1 ∧ pe.getD q 0 = x.pk ∧ be.getD q 0 = x.bg ∧ 0 ≤ x.pk) := by
  have hq := qAt_lt (H := drC d) (st := stD d lc bs i) (s := sD d lc bs i) (n := nD d) hk
  have hnx := q_next (H := drC d) (st := stD d lc bs i) (s := sD d lc bs i) (cs := csD d lc bs i) (n := nD d) hk
  have hok := rnD_ok (lc := lc) hb hl hi (Nat.le_of_lt hq.1)
  have hlvq : lvD d lc bs i (qD d lc bs i k) (qD d lc bs i k) = lsD d lc bs i (qD d lc bs i k) := by unfold lvD lvM; rw [if_neg (Nat.lt_irrefl _)]; rfl
  have hsn : lsD d lc bs (i + 1) (qD d lc bs i k) = lvS (drC d) (qD d lc bs i k) (stD d lc bs i ++ [sD d lc bs i]) := by rw [lsD_snoc]
  have hH : 0 ≤ drC d := (dr_bd hd).2.2.1
  have hTl := stD_last (d := d) (lc := lc) hb hi
  refine ⟨qD d lc bs i k, lsD d lc bs i (qD d lc bs i k), lsD d lc bs (i + 1) (qD d lc bs i k), rfl, hq.1, rfl, rfl, by rw [hsn]; exact hq.2, lvS_nn, lvS_nn, (hN.le _ hq.1).trans hlvq, ?_, ?_, ?_, ?_, ?_, ?_⟩
  · unfold lastQ
    split
    · omega
    · rename_i hk0
      have := (q_next (H := drC d) (st := stD d lc bs i) (s := sD d lc bs i) (cs := csD d lc bs i) (n := nD d) (k := k - 1) (by unfold chD at hk; omega)).1
      rw [show k - 1 + 1 = k by omega] at this
      unfold qD; omega
  · unfold lastQ; rw [if_neg (by omega)]; rfl
  · intro hlt
    have h1 := lvS_up (H := drC d) (k := qD d lc bs i k) (st := stD d lc bs i) (s := sD d lc bs i) (.inl (Int.le_of_lt hTl))
    have h0 := lvS_nn (H := drC d) (k := qD d lc bs i k) (st := stD d lc bs i)
    rw [hsn] at hlt
    have hpos : 0 < (thD d lc bs i (qD d lc bs i k)).lv := by
      unfold lsD at hlt
      show 0 < ((sD d lc bs i).th.getD _ zT).lv
      omega
    unfold thD sD thsP at hpos ⊢
    dsimp only at hpos ⊢
    have hlen : qD d lc bs i k < (drSp d).regs.length := hq.1
    rw [List.getD_eq_getElem?_getD, List.getElem?_map, List.getElem?_eq_getElem hlen] at hpos ⊢
    exact thr_pos (by have := (dr_bd hd).2.1; show 0 ≤ drB d; omega) (hpx _ (List.getElem_mem hlen)) hpos
  · have h1 := num_step (T := (sD d lc bs i).t) hN hok hq.1 hlvq (m := lsD d lc bs (i + 1) (qD d lc bs i k)) (by rw [hsn]; exact hq.2) lvS_nn lvS_nn
    have e1 : lvD d lc bs i (qD d lc bs i (k + 1)) = setL (lvD d lc bs i (qD d lc bs i k)) (qD d lc bs i k) (lsD d lc bs (i + 1) (qD d lc bs i k)) := by rw [hsn]; exact hnx.2.1
    have e2 : rnD d lc bs i (qD d lc bs i (k + 1)) = stepC (qD d lc bs i k) (lsD d lc bs i (qD d lc bs i k)) (lsD d lc bs (i + 1) (qD d lc bs i k)) (sD d lc bs i).t (rnD d lc bs i (qD d lc bs i k)) := by rw [hsn]; exact hnx.2.2
    rw [e1, e2]; exact h1
  · rw [hsn]; exact hnx.2.2
  · intro hb0
    obtain ⟨c, x, g1, g2, g3, g4, g5, g6, g7⟩ := num_nm hN hok hq.1 hlvq hb0
    refine ⟨c, x, g1, g2, g3, g4, g5, g6, g7, ?_⟩
    have := hok.pk c x g1 (opn_iff.1 g2).2
    rw [(opn_iff.1 g2).1, Int.toNat_natCast] at this
    have this2 : lsD d lc bs i (qD d lc bs i k) ≤ x.pk := hlvq ▸ this
    have h0 : 0 ≤ lsD d lc bs i (qD d lc bs i k) := lvS_nn
    omega
/-- A warning that ends in an event stays as it is then. -/
theorem evD_end {q c j k : Nat} {b m : Int} {x : Cs} (hq : q < nD d) (hk : k < (chD d lc bs i).length) (hbm : b ≠ m) (hb0 : b ≠ 0) (hm : m = 0) (hx : (rnD d lc bs i q)[c]? = some x) (ho : opn q x = true) (hT : (sD d lc bs i).t ≠ never)
    (hr : rnD d lc bs i (qD d lc bs i (k + 1)) = stepC q b m (sD d lc bs i).t (rnD d lc bs i q)) (hj : i < j) : (csD d lc bs j)[c]? = some { x with en := (sD d lc bs i).t, pk := max x.pk 0 } := by
  have hle : qD d lc bs i (k + 1) ≤ nD d := qAt_le
  have he := rnD_ext (lc := lc) (bs := bs) (i := i) hle hj
  refine he.2 c _ ?_ hT
  rw [hr]
  unfold stepC
  rw [if_neg hbm, if_neg hb0, List.getElem?_map, hx]
  simp only [Option.map_some]
  rw [if_pos ho, hm, if_pos rfl]
end

end Go.Proofs.Ytdjflomhaljljaa

namespace Go.Proofs.Ytdjflomhaljljaa
open Go.SL Go.Proofs Go.Cast
set_option linter.unusedVariables false

theorem C15 : IsFn Try.prog 15 := ⟨_, Try.func15, by decide, rfl⟩
end Go.Proofs.Ytdjflomhaljljaa

namespace Go.Proofs.Ytdjflomhaljljaa
open Go.SL Go.Proofs Go.Cast
set_option linter.unusedVariables false



theorem cp_read {w : World} {l : List CP} (h : (bagD (l.flatMap cpR)).inv w) {x : CP} (hx : x ∈ l) : Ints w x.ps x.c.sure ∧ Ints w x.pm x.c.may :=
  ⟨own_inv_rows (h.1 (own 3 1 x.ps x.cs (x.c.sure.map iC)) (List.mem_flatMap.2 ⟨x, hx, .head _⟩)), own_inv_rows (h.1 (own 3 1 x.pm x.cm (x.c.may.map iC)) (List.mem_flatMap.2 ⟨x, hx, .tail _ (.head _)⟩))⟩
theorem clouds_all {w : World} {p : Option Addr} {c n : Nat} {l : List CP} {cl : List ClM} (hX : l.map CP.c = allL cl n) (hok : ∀ c, c ∈ cl → c.ok) (h1 : (own 80 7 p c (l.map CP.cells)).inv w) (h2 : (bagD (l.flatMap cpR)).inv w) : Clouds w p l := by
  refine ⟨own_inv_rows h1, fun x hx => ?_⟩
  have h3 := cp_read h2 hx
  have h4 : x.c ∈ allL cl n := by rw [← hX]; exact List.mem_map_of_mem hx
  obtain ⟨k, _, e, _⟩ := allL_ok hok n _ h4
  have l1 : x.c.sure.length ≤ 20 := by rw [e]; exact pxF_len
  have l2 : x.c.may.length ≤ 20 := by rw [e]; exact pxF_len
  exact ⟨h3.1, h3.2, by omega, by omega⟩
theorem dr_pix {d : DrM} {r : Reg} (h : r ∈ drRegs d 3) : (∀ n, n ∈ r.pix → 0 ≤ n ∧ n < 20) ∧ r.pix.length ≤ 20 := by
  obtain ⟨j, _, rfl, _⟩ := drRegs_mem h
  exact ⟨fun n hn => asc_dr.2 n hn, drPx_len⟩
theorem regs_frame {w : World} {p : Option Addr} {c : Nat} {rgs : List RG} {d : DrM} (hX : rgs.map RG.r = drRegs d 3) (h1 : (own 74 2 p c (rgs.map RG.cells)).inv w) (h2 : (bagD (rgs.map pixR)).inv w) : Regs w p rgs := by
  refine ⟨own_inv_rows h1, fun x hx => ⟨pix_read h2 hx, ?_⟩⟩
  have h4 : x.r ∈ drRegs d 3 := by rw [← hX]; exact List.mem_map_of_mem hx
  have := (dr_pix h4).2
  omega
theorem clouds_own {w0 w : World} {L : List Res} {pl p : Option Addr} {c : Nat} {m l : List CP} (hl : Clouds w0 pl l) (hm : ∀ y, y ∈ m → y ∈ l) (hw : St (bs w0) L w) (i : Nat) (hi : L[i]? = some (own 80 7 p c (m.map CP.cells))) : Clouds w p m :=
  ⟨own_rows hw i hi, fun x hx => (hl.keep w hw).ok x (hm x hx)⟩
def zCs : CsM := ⟨0, 0, 0, 0, 0, 0⟩
theorem getD_of {α : Type} {l : List α} {k : Nat} {x d : α} (h : l[k]? = some x) : l.getD k d = x := by rw [List.getD_eq_getElem?_getD, h]; rfl
/-- A region's threat, as a service says it. -/
theorem threat_of {d : DrM} (hd : d.ok) (hne : drRegs d 3 ≠ []) {l : List Cloud} (hl : lookE gD l = 0) {k : Nat} (hk : k < (drRegs d 3).length) : threatE (drSp d) (k : Int) l = 0 ∧ threatT (drSp d) (k : Int) l = (thsP (drSp d) l).getD k zT := by
  have hs := dr_spec hd hne
  have e : threatE (drSp d) (k : Int) l = 0 := by
    rw [tE3 hs ⟨by omega, by show (k : Int) ≤ ((drRegs d 3).length : Int) - 1; omega⟩]; exact hl
  refine ⟨e, ?_⟩
  unfold threatT thsP
  rw [if_neg (fun q => q e), Int.toNat_natCast, List.getD_eq_getElem?_getD (l := List.map _ _), List.getElem?_map]
  have hk2 : k < (drSp d).regs.length := hk
  rw [List.getElem?_eq_getElem hk2, List.getD_eq_getElem?_getD, List.getElem?_eq_getElem hk2]; rfl
theorem cnt_take {l : List Int} {j : Nat} (hj : j < l.length) : (((l.take (j + 1)).countP fun v => decide (v ≠ 0)) : Int) = ((l.take j).countP fun v => decide (v ≠ 0) : Nat) + (if l.getD j 0 ≠ 0 then 1 else 0) := by
  rw [List.take_add_one, getD_some (d := (0 : Int)) hj, List.countP_append]
  by_cases h : l.getD j 0 = 0
  · rw [if_neg (fun q => q h)]; simp only [Option.toList, List.countP_cons, List.countP_nil, h]; simp
  · rw [if_pos h]; simp only [Option.toList, List.countP_cons, List.countP_nil]; rw [decide_eq_true h]; simp
theorem cnt_open {l : List CsM} {j : Nat} (hj : j < l.length) : (((l.take (j + 1)).countP fun c => decide (c.en = never)) : Int) = ((l.take j).countP fun c => decide (c.en = never) : Nat) + (if (l.getD j zCs).en = never then 1 else 0) := by
  rw [List.take_add_one, getD_some (d := zCs) hj, List.countP_append]
  by_cases h : (l.getD j zCs).en = never
  · rw [if_pos h]; simp only [Option.toList, List.countP_cons, List.countP_nil, h]; simp
  · rw [if_neg h]; simp only [Option.toList, List.countP_cons, List.countP_nil]; rw [decide_eq_false h]; simp
theorem lev_list {n : Nat} {lv : Nat → Int} {le : List Int} (hl : le.length = n) (h : ∀ j, j < n → le.getD j 0 = lv j) : le = (List.range n).map lv := by
  refine List.ext_getElem? fun j => ?_
  rw [List.getElem?_map]
  rcases Nat.lt_or_ge j n with q | q
  · rw [List.getElem?_range q, getD_some (d := (0 : Int)) (by omega), h j q]; rfl
  · rw [List.getElem?_eq_none (by omega), List.getElem?_eq_none (by simpa using q)]; rfl
theorem levels_sim {o : OfM} {st : List Stp} (h : SimO o st) : levelsL o = (List.range o.rc.length).map fun j => lvS o.hold j st := by
  unfold levelsL
  refine List.ext_getElem? fun j => ?_
  rw [List.getElem?_map, List.getElem?_map]
  rcases Nat.lt_or_ge j o.rc.length with q | q
  · rw [List.getElem?_range q, List.getElem?_eq_getElem q]
    have := (h.rcs j _ (List.getElem?_eq_getElem q)).2.1
    simp only [Option.map_some, this, lvL_last]
  · rw [List.getElem?_eq_none q, List.getElem?_eq_none (by simpa using q)]; rfl

theorem BtsM.keep {w0 w : World} {L : List Res} {p : Option Addr} {l : List BtM} (h : BtsM w0 p l) (hw : St (bs w0) L w) : BtsM w p l := ⟨h.rows.keep w hw, h.ok⟩
theorem DrM.len {d : DrM} (h : d.ok) : d.cells.length = 23 := by
  show (d.px.map u8V ++ _).length = 23
  rw [List.length_append, List.length_map, h.1]; rfl

end Go.Proofs.Ytdjflomhaljljaa

namespace Go.Proofs.Ytdjflomhaljljaa
open Go.SL Go.Proofs Go.Cast
set_option linter.unusedVariables false

theorem F64_2 : FieldAt Try.prog 64 2 2 := ⟨_, _, Try.underlying64, rfl, rfl, 0, by kernel_rfl⟩
theorem F64_1 : FieldAt Try.prog 64 1 1 := ⟨_, _, Try.underlying64, rfl, rfl, 0, by kernel_rfl⟩


/-- A fact that is kept out of sight. -/
structure Hd (p : Prop) : Prop where
  out : p
theorem n139 {xt tt st xr la xl lq b m : Int} {q n : Nat} (h1 : xt = st) (h2 : tt = st) (h3 : xr = (q : Int)) (h4 : lq = b) (h5 : la < (q : Int)) (h6 : (q : Int) < (n : Int)) (h7 : xl = m) (h8 : b ≠ m) (h : ((¬ xt = tt ∨ xr ≤ la) ∨ (n : Int) ≤ xr) ∨ xl = lq) : False := by omega
theorem n40 {t st h l : Int} {i : Nat} (a : t = st) (b : 0 ≤ st ∧ st ≤ 500 * ((i : Int) + 1)) (c : 0 ≤ h ∧ h ≤ l) (e : l < st) (hi : i ≤ 100) : -9223372036854775808 ≤ t - h ∧ t - h ≤ 9223372036854775807 := by omega
theorem sD_nv {t : Int} {i : Nat} (b : 0 ≤ t ∧ t ≤ 500 * ((i : Int) + 1)) (hi : i ≤ 100) : t ≠ never := by unfold never; omega
theorem n153 {lq b xl : Int} (h1 : lq = b) (h2 : 0 ≤ b) (h3 : lq < xl) (h4 : xl = 0) : False := by omega
theorem n155 {lq b m xl : Int} (h1 : lq = b) (h2 : b ≠ m) (h3 : xl = m) (h4 : 0 ≤ m) (h5 : ¬ lq < xl) (h6 : lq = 0) : False := by omega
theorem mk1 {b m : Int} (h : b = 0) (h2 : b ≠ m) (h3 : 0 ≤ m) : meetK b m = 1 := by unfold meetK; rw [if_pos (by omega), if_pos h]
theorem mk3 {b m lq xl : Int} (h : b ≠ 0) (h1 : lq = b) (h2 : xl = m) (h3 : lq < xl) : meetK b m = 3 := by unfold meetK; rw [if_pos (by omega), if_neg h]
theorem mk2 {b m lq xl : Int} (h : b ≠ 0) (h1 : lq = b) (h2 : xl = m) (h3 : ¬ lq < xl) (h4 : xl = 0) : meetK b m = 2 := by unfold meetK; rw [if_neg (by omega), if_pos (by omega)]
theorem mk4 {b m lq xl : Int} (h : b ≠ 0) (h1 : lq = b) (h2 : xl = m) (h3 : ¬ lq < xl) (h4 : ¬ xl = 0) : meetK b m = 4 := by unfold meetK; rw [if_neg (by omega), if_neg (by omega)]
theorem ld_eq {ld px tl tp b m lq xl : Int} (h1 : ld = if b < m then tl else -1) (h2 : px = if b < m then tp else -1) (h3 : b < m → 0 ≤ tl ∧ 0 ≤ tp) (h4 : lq = b) (h5 : xl = m) : decide (lq < xl) = (decide (0 ≤ ld) && decide (0 ≤ px)) := by
  subst h4 h5
  by_cases q : lq < xl
  · have := h3 q
    rw [if_pos q] at h1 h2
    rw [decide_eq_true q, decide_eq_true (by omega : 0 ≤ ld), decide_eq_true (by omega : 0 ≤ px)]; rfl
  · rw [if_neg q] at h1 h2
    rw [decide_eq_false q, decide_eq_false (by omega : ¬ 0 ≤ ld)]; rfl
theorem n220 {kd K nm nu : Int} {n : Nat} {a b : Bool} (h1 : kd = K) (h2 : nm = nu) (h3 : nm ≤ (n : Int)) (h4 : a = b) (h : ((¬ kd = K ∨ ¬ nm = nu) ∨ (n : Int) < nm) ∨ ¬ a = b) : False := by
  rcases h with ((h | h) | h) | h
  · exact h h1
  · exact h h2
  · omega
  · exact h h4
theorem n288 {c : CsM} {x : Cs} {T xt be pe' pe xl m xr xn : Int} (h : c.p = { x with en := T, pk := max x.pk 0 }) (h1 : be = x.bg) (h2 : xt = T) (h3 : pe' = max pe xl) (h4 : pe = x.pk) (h5 : xl = m) (h6 : m = 0) (h7 : xr = x.rg) (h8 : x.nm = xn)
    (hh : (((¬ c.bg = be ∨ ¬ c.en = xt) ∨ ¬ c.pk = pe') ∨ ¬ c.rg = xr) ∨ ¬ c.nm = xn) : False := by
  have e1 : c.bg = x.bg := congrArg Cs.bg h
  have e2 : c.en = T := congrArg Cs.en h
  have e3 : c.pk = max x.pk 0 := congrArg Cs.pk h
  have e4 : c.rg = x.rg := congrArg Cs.rg h
  have e5 : c.nm = x.nm := congrArg Cs.nm h
  subst h4 h5 h6
  rcases hh with (((q | q) | q) | q) | q
  · exact q (e1.trans h1.symm)
  · exact q (e2.trans h2.symm)
  · exact q (e3.trans h3.symm)
  · exact q (e4.trans h7.symm)
  · exact q (e5.trans h8)
theorem n339 {lk ls t H : Int} (h1 : lk = ls) (h2 : t ≤ ls) (h3 : H = 0 → ls = t) (h : (¬ (0 : Int) = 0 ∨ lk < t) ∨ (H = 0 ∧ ¬ t = lk)) : False := by
  rcases h with (h | h) | ⟨h, k⟩
  · exact h rfl
  · omega
  · exact k (by rw [h1, h3 h])
theorem n445 {nm b1 b2 r1 r2 : Int} {j : Nat} (h1 : nm = (j : Int) + 1) (h2 : 0 < j → b1 < b2 ∨ b1 = b2 ∧ r1 < r2) (h : ¬ nm = (j : Int) + 1 ∨ ((0 : Int) < (j : Int) ∧ (b2 < b1 ∨ (b1 = b2 ∧ r2 ≤ r1)))) : False := by
  rcases h with h | ⟨h, k⟩
  · exact h h1
  · have := h2 (by omega)
    omega
theorem num_end {H : Int} {n : Nat} {st : List Stp} {s : Stp} {cs : List Cs} {le nu pe be : List Int} (h : NumI n (lvM H st s n) cs le nu pe be) : NumI n (fun j => lvS H j (st ++ [s])) cs le nu pe be := by
  have e : ∀ j, j < n → lvM H st s n j = lvS H j (st ++ [s]) := fun j hj => by unfold lvM; rw [if_pos hj]
  exact ⟨h.l1, h.l2, h.l3, h.l4, fun j hj => by rw [h.le j hj, e j hj], fun j hj hl => h.op j hj (by rw [e j hj]; exact hl)⟩
theorem thD_nn {d : DrM} {lc : List Cloud} {bs : List BtM} {i : Nat} (k : Nat) : 0 ≤ ((sD d lc bs i).th.getD k zT).lv := by
  unfold sD thsP
  dsimp only
  rw [List.getD_eq_getElem?_getD, List.getElem?_map]
  cases (drSp d).regs[k]? with
  | none => exact Int.le_refl 0
  | some r => exact thr_nn
theorem decide_and_true {p : Prop} [Decidable p] (h : p) : (decide p && true) = true := by simp [h]

theorem num_final {d : DrM} {lc : List Cloud} {bs : List BtM} {cs : List CsM} (h : CsOk (nD d) (lsD d lc bs bs.length) (csD d lc bs bs.length)) (hp : ((stD d lc bs bs.length).map Stp.t).Pairwise (· < ·)) (hc : cs.map CsM.p = csD d lc bs bs.length) : ∀ j, j < cs.length → (cs.getD j zCs).nm = (j : Int) + 1 ∧ (0 < j → (cs.getD (j - 1) zCs).bg < (cs.getD j zCs).bg ∨ (cs.getD (j - 1) zCs).bg = (cs.getD j zCs).bg ∧ (cs.getD (j - 1) zCs).rg < (cs.getD j zCs).rg) := fun j hj => by
  have hl : (csD d lc bs bs.length).length = cs.length := by rw [← hc, List.length_map]
  have hpj : ∀ j, j < cs.length → (csD d lc bs bs.length).getD j zC = (cs.getD j zCs).p := fun j hj => by rw [← hc, List.getD_eq_getElem?_getD, List.getElem?_map, getD_some (d := zCs) hj]; rfl
  refine ⟨?_, fun h0 => ?_⟩
  · have z := h.nm j _ (getD_some (d := zC) (by omega))
    rw [hpj j hj] at z; exact z
  · have z := ord_fin (H := drC d) (n := nD d) (st := stD d lc bs bs.length) hp j h0 (by show j < (csD d lc bs bs.length).length; omega)
    have e1 := hpj j hj
    have e2 := hpj (j - 1) (by omega)
    unfold csD at e1 e2
    rw [e1, e2] at z; exact z

set_option maxRecDepth 20000 in
set_option maxHeartbeats 4000000 in
theorem num_tail (o : OfM) (le : List Int) (n cnt : Nat) (pc : Option Addr) (cc : Nat) (w w1 : World) (bl : Nat) (hbs : ∀ (L : List Res) (w2 : World), St (Go.SL.bs w1) L w2 → St (Go.SL.bs w) [] w2) (hOff : Has w1 (offR o)) (hrn : 0 < o.rc.length ∧ o.rc.length < 1000000) (hlv : ∀ r, r ∈ o.rc → r.lv.length < 1000000000000) (hLe : levelsL o = le) (hln : le.length = n) (hcsl : o.cs.length = cnt) (hcsb : o.cs.length ≤ 400) (hcnt : o.cs.countP (fun c => decide (c.en = never)) = le.countP (fun v => decide (v ≠ 0))) (hnm : ∀ j, j < o.cs.length → (o.cs.getD j zCs).nm = (j : Int) + 1) (hord : ∀ j, 0 < j → j < o.cs.length → (o.cs.getD (j - 1) zCs).bg < (o.cs.getD j zCs).bg ∨ (o.cs.getD (j - 1) zCs).bg = (o.cs.getD j zCs).bg ∧ (o.cs.getD (j - 1) zCs).rg < (o.cs.getD j zCs).rg) :
  VC Try.prog none (Go.SL.bs w1) Try.f4.ntmps [] [(9, ptrN o.b), (13, .slice (some ⟨bl, 0, none⟩) n n), (18, .int .i64 (cnt : Nat)), (19, .slice pc o.cs.length cc)] [own 3 1 (some ⟨bl, 0, none⟩) n (le.map iC), own 64 5 pc cc (o.cs.map CsM.C)] (bodyAt [1, 1, 1, 1, 1, 1, 1, 1, 1, 1, 1, 1, 1, 1] Try.f4) (FP Try.prog Try.f4 (fun e w' => e = .returned (.bool true) ∧ St (Go.SL.bs w) [] w')) := by
  have hnl2 : n ≤ 1000000 := by rw [← hln, ← hLe]; unfold levelsL; rw [List.length_map]; omega
  show VC _ _ _ _ _ _ _ (.seq _ _) _
  refine VC.seq ?_
  refine VC.reg (VO.l (LO.mv (.r rfl)) rfl <| VO.h rfl <| HO.callx (xs := [_]) (vs := [_]) C24 ⟨(.r rfl), trivial⟩ (fun w hw => Levels_c o w (by omega) (by omega) hlv (hOff.keep hw)) fun xv _ => VO.h rfl <| HO.lo (LO.as (.r rfl)) <| VO.nil ?_)
  refine VE.seqN ?_
  refine VC.seq ?_
  refine VC.reg (VO.l (LO.as (.r rfl)) rfl <| VO.nil ?_)
  refine VE.seqN ?_
  refine VC.seq ?_
  refine VC.seq ?_
  refine VC.reg (VO.l (LO.as (.r rfl)) rfl <| VO.nil ?_)
  refine VE.seqN ?_
  refine VC.block ?_
  refine VC.loopK (α := Nat) 0 (fun gx => [(33, .int .i64 (((le.take gx).countP fun v => decide (v ≠ 0) : Nat) : Int)), (34, .int .i64 (gx : Nat))]) [(13, _), (18, _), (19, _), (32, _)] (fun gx => []) (fun gx => gx ≤ le.length) (fun gx => le.length - gx) 0 (by exact Nat.zero_le _) (.cons rfl (.cons rfl (.cons rfl (.cons rfl (.cons rfl (.cons rfl .nil)))))) (fun _ h => h) ?_
  rintro j hj
  have hclk : ((le.take j).countP fun v => decide (v ≠ 0)) ≤ 1000000 := Nat.le_trans List.countP_le_length (by rw [List.length_take]; omega)
  refine VC.seq ?_
  refine VC.seq ?_
  refine VC.reg (VO.l (LO.mv (.r rfl)) rfl <| VO.l (LO.mv (.r rfl)) rfl <| VO.l (LO.len S55 (.r rfl) rfl) rfl <| VO.l (LO.lt (.r rfl) (.r rfl)) rfl <| VO.nil ?_)
  refine VE.seqN ?_
  refine VC.cond rfl (fun h358 => ?_) (fun h358 => ?_)
  ·
    refine VC.skip (VE.seqN ?_)
    refine VC.seq ?_
    refine VC.block ?_
    refine VC.seq ?_
    refine VC.reg (VO.l (LO.mv (.r rfl)) rfl <| VO.l (LO.mv (.r rfl)) rfl <| VO.l (LO.ixo S55 N3 (fun _ hw => (own_rows hw 1 rfl).some (by first | (rw [List.length_map]; omega) | (simp only [List.length_map, List.length_set]; omega))) (.r rfl) (.r rfl) rfl (by omega)) rfl <| VO.l (LO.ld O3 (.r rfl) (fun w hw => cells_part (off := 0) (own_cell hw 1 rfl (getD_some (d := (0 : Int)) (by first | omega | (simp only [List.length_set]; omega)))) ⟨_, rfl⟩)) rfl <| VO.l (LO.ne (.r rfl) (.r rfl)) rfl <| VO.nil ?_)
    refine VE.seqN ?_
    refine VC.cond rfl (fun h365 => ?_) (fun h365 => ?_)
    ·
      refine VC.reg (VO.l (LO.mv (.r rfl)) rfl <| VO.l (LO.add (.r rfl) (.r rfl) (wi (by omega) (by omega))) rfl <| VO.l (LO.as (.r rfl)) rfl <| VO.nil ?_)
      refine VE.inN (VE.seqN ?_)
      refine VC.reg (VO.l (LO.mv (.r rfl)) rfl <| VO.l (LO.add (.r rfl) (.r rfl) (wi (by omega) (by omega))) rfl <| VO.l (LO.as (.r rfl)) rfl <| VO.nil ?_)
      refine VE.thenN fun a w ha hw => ⟨j + 1, (by omega), (by omega), ha.sub (.cons (congrArg (fun z => some (Value.int .i64 z)) (by rw [cnt_take (by omega)]; first | rw [if_pos h365] | (rw [if_neg h365]; simp))) (.cons rfl (.cons rfl (.cons rfl (.cons rfl (.cons rfl .nil)))))), hw⟩
    ·
      refine VC.skip (VE.inN (VE.seqN ?_))
      refine VC.reg (VO.l (LO.mv (.r rfl)) rfl <| VO.l (LO.add (.r rfl) (.r rfl) (wi (by omega) (by omega))) rfl <| VO.l (LO.as (.r rfl)) rfl <| VO.nil ?_)
      refine VE.thenN fun a w ha hw => ⟨j + 1, (by omega), (by omega), ha.sub (.cons (congrArg (fun z => some (Value.int .i64 z)) (by rw [cnt_take (by omega)]; first | rw [if_pos h365] | (rw [if_neg h365]; simp))) (.cons rfl (.cons rfl (.cons rfl (.cons rfl (.cons rfl .nil)))))), hw⟩
  ·
    refine VC.exit (VE.thenX (VE.thenX (VE.inX (VE.seqN ?_))))
    refine VC.seq ?_
    refine VC.seq ?_
    refine VC.reg (VO.l (LO.mv (.r rfl)) rfl <| VO.l (LO.len S58 (.r rfl) rfl) rfl <| VO.l (LO.mv (.r rfl)) rfl <| VO.l (LO.ne (.r rfl) (.r rfl)) rfl <| VO.l (LO.mv (.r rfl)) rfl <| VO.lg rfl rfl (GD.f _) (fun hg => LO.mv (.r rfl)) rfl <| VO.lg rfl rfl (GD.f _) (fun hg => LO.mv (.r rfl)) rfl <| VO.lg rfl rfl (GD.f _) (fun hg => LO.call (xs := [_, _]) (vs := [_, _]) C25 ⟨(.g hg rfl), (.g hg rfl), trivial⟩ (fun w hw => by have z := ints_c xv.1 (some ⟨bl, 0, none⟩) (levelsL o) le xv.2 n w (by rw [hLe]; omega) (by omega) (own_rows hw 0 rfl) (own_rows hw 1 rfl); rw [hln] at z; exact z)) rfl <| VO.lg rfl rfl (GD.f _) (fun hg => LO.not (.g hg rfl)) rfl <| VO.l (LO.pkO (.r rfl) (.r rfl) rfl rfl) rfl <| VO.nil ?_)
    refine VE.seqN ?_
    refine VC.cond rfl (fun h377 => ?_) (fun h377 => ?_)
    ·
      (exfalso; (rcases h377 with h | h; (· exact h (by rw [hcsl])); (· exact h hLe)))
    ·
      refine VC.skip (VE.seqN ?_)
      refine VC.seq ?_
      refine VC.seq ?_
      refine VC.reg (VO.l (LO.as (.r rfl)) rfl <| VO.nil ?_)
      refine VE.seqN ?_
      refine VC.block ?_
      refine VC.loopK (α := Nat) 0 (fun gx => [(33, .int .i64 ((le.countP fun v => decide (v ≠ 0) : Nat) - ((o.cs.take gx).countP fun c => decide (c.en = never) : Nat) : Int)), (35, .int .i64 (gx : Nat))]) [(19, _)] (fun gx => []) (fun gx => gx ≤ o.cs.length) (fun gx => o.cs.length - gx) 0 (by exact Nat.zero_le _) (.cons (congrArg (fun z => some (Value.int .i64 z)) (by rw [List.take_of_length_le (by omega)]; simp)) (.cons rfl (.cons rfl .nil))) (fun _ h => h) ?_
      rintro j hj
      refine VC.seq ?_
      refine VC.seq ?_
      refine VC.reg (VO.l (LO.mv (.r rfl)) rfl <| VO.l (LO.mv (.r rfl)) rfl <| VO.l (LO.len S58 (.r rfl) rfl) rfl <| VO.l (LO.lt (.r rfl) (.r rfl)) rfl <| VO.nil ?_)
      refine VE.seqN ?_
      refine VC.cond rfl (fun h381 => ?_) (fun h381 => ?_)
      ·
        have hnmj := hnm j (by omega)
        have hordj : Hd (0 < j → _) := ⟨fun h0 => hord j h0 (by omega)⟩
        have hctk : ((o.cs.take j).countP fun c => decide (c.en = never)) ≤ 400 := Nat.le_trans List.countP_le_length (by rw [List.length_take]; omega)
        have hclk : (le.countP fun v => decide (v ≠ 0)) ≤ 1000000 := Nat.le_trans List.countP_le_length (by omega)
        refine VC.skip (VE.seqN ?_)
        refine VC.seq ?_
        refine VC.block ?_
        refine VC.seq ?_
        refine VC.seq ?_
        refine VC.reg (VO.l (LO.mv (.r rfl)) rfl <| VO.l (LO.mv (.r rfl)) rfl <| VO.l (LO.ixo S58 N64 (fun _ hw => (own_rows hw 2 rfl).some (by rw [List.length_map])) (.r rfl) (.r rfl) rfl (by omega)) rfl <| VO.l (LO.fa F64_3 (.r rfl) rfl) rfl <| VO.l (LO.ld O3 (.r rfl) (fun w hw => cells_part (off := 3) (own_cell hw 2 rfl (getD_some (d := zCs) (by omega))) ⟨_, rfl⟩)) rfl <| VO.l (LO.eq (.r rfl) (.r rfl)) rfl <| VO.nil ?_)
        refine VE.seqN ?_
        refine VC.cond rfl (fun h389 => ?_) (fun h389 => ?_)
        ·
          refine VC.reg (VO.l (LO.mv (.r rfl)) rfl <| VO.l (LO.sub (.r rfl) (.r rfl) (wi (by omega) (by omega))) rfl <| VO.l (LO.as (.r rfl)) rfl <| VO.nil ?_)
          refine VE.seqN ?_
          refine VC.seq ?_
          refine VC.draw mixed (LL.l (LO.mv (.r rfl)) rfl <| LL.l (LO.mv (.r rfl)) rfl <| LL.l (LO.ixo S58 N64 (fun _ hw => (own_rows hw 2 rfl).some (by rw [List.length_map])) (.r rfl) (.r rfl) rfl (by omega)) rfl <| LL.l (LO.fa F64_0 (.r rfl) rfl) rfl <| LL.l (LO.ld O3 (.r rfl) (fun w hw => cells_part (off := 0) (own_cell hw 2 rfl (getD_some (d := zCs) (by omega))) ⟨_, rfl⟩)) rfl <| LL.l (LO.mv (.r rfl)) rfl <| LL.l (LO.add (.r rfl) (.r rfl) (wi (by omega) (by omega))) rfl <| LL.l (LO.ne (.r rfl) (.r rfl)) rfl <| LL.l (LO.mv (.r rfl)) rfl <| LL.lg rfl rfl (GD.f _) (fun hg => LO.mv (.r rfl)) rfl <| LL.lg rfl rfl (GD.f _) (fun hg => LO.gt (.g hg rfl) (.r rfl)) rfl <| LL.lg rfl rfl (GD.f _) (fun hg => LO.mv (.g hg rfl)) rfl <| LL.lg rfl rfl (GD.nt _ _) (fun hg => LO.mv (.r rfl)) rfl <| LL.lg rfl rfl (GD.nt _ _) (fun hg => LO.mv (.r rfl)) rfl <| LL.lg rfl rfl (GD.nt _ _) (fun hg => LO.sub (.g hg rfl) (.r rfl) (wi (by have hz := IsP.yes inferInstance hg; omega) (by omega))) rfl <| LL.lg rfl rfl (GD.nt _ _) (fun hg => LO.ixo S58 N64 (fun _ hw => (own_rows hw 2 rfl).some (by rw [List.length_map])) (.g hg rfl) (.g hg rfl) (show _ = ((j - 1 : Nat) : Int) by have hz := IsP.yes inferInstance hg; omega) (by omega)) rfl <| LL.lg rfl rfl (GD.nt _ _) (fun hg => LO.fa F64_2 (.g hg rfl) rfl) rfl <| LL.lg rfl rfl (GD.nt _ _) (fun hg => LO.ld O3 (.g hg rfl) (fun w hw => cells_part (off := 2) (own_cell hw 2 rfl (getD_some (d := zCs) (by omega))) ⟨_, rfl⟩)) rfl <| LL.lg rfl rfl (GD.nt _ _) (fun hg => LO.mv (.r rfl)) rfl <| LL.lg rfl rfl (GD.nt _ _) (fun hg => LO.mv (.r rfl)) rfl <| LL.lg rfl rfl (GD.nt _ _) (fun hg => LO.ixo S58 N64 (fun _ hw => (own_rows hw 2 rfl).some (by rw [List.length_map])) (.g hg rfl) (.g hg rfl) rfl (by omega)) rfl <| LL.lg rfl rfl (GD.nt _ _) (fun hg => LO.fa F64_2 (.g hg rfl) rfl) rfl <| LL.lg rfl rfl (GD.nt _ _) (fun hg => LO.ld O3 (.g hg rfl) (fun w hw => cells_part (off := 2) (own_cell hw 2 rfl (getD_some (d := zCs) (by omega))) ⟨_, rfl⟩)) rfl <| LL.lg rfl rfl (GD.nt _ _) (fun hg => LO.gt (.g hg rfl) (.g hg rfl)) rfl <| LL.lg rfl rfl (GD.nt _ _) (fun hg => LO.mv (.g hg rfl)) rfl <| LL.lg rfl rfl (GD.nf _ _) (fun hg => LO.mv (.r rfl)) rfl <| LL.lg rfl rfl (GD.nf _ _) (fun hg => LO.mv (.r rfl)) rfl <| LL.lg rfl rfl (GD.nf _ _) (fun hg => LO.sub (.g hg rfl) (.r rfl) (wi (by have hz := IsP.yes inferInstance hg; omega) (by omega))) rfl <| LL.lg rfl rfl (GD.nf _ _) (fun hg => LO.ixo S58 N64 (fun _ hw => (own_rows hw 2 rfl).some (by rw [List.length_map])) (.g hg rfl) (.g hg rfl) (show _ = ((j - 1 : Nat) : Int) by have hz := IsP.yes inferInstance hg; omega) (by omega)) rfl <| LL.lg rfl rfl (GD.nf _ _) (fun hg => LO.fa F64_2 (.g hg rfl) rfl) rfl <| LL.lg rfl rfl (GD.nf _ _) (fun hg => LO.ld O3 (.g hg rfl) (fun w hw => cells_part (off := 2) (own_cell hw 2 rfl (getD_some (d := zCs) (by omega))) ⟨_, rfl⟩)) rfl <| LL.lg rfl rfl (GD.nf _ _) (fun hg => LO.mv (.r rfl)) rfl <| LL.lg rfl rfl (GD.nf _ _) (fun hg => LO.mv (.r rfl)) rfl <| LL.lg rfl rfl (GD.nf _ _) (fun hg => LO.ixo S58 N64 (fun _ hw => (own_rows hw 2 rfl).some (by rw [List.length_map])) (.g hg rfl) (.g hg rfl) rfl (by omega)) rfl <| LL.lg rfl rfl (GD.nf _ _) (fun hg => LO.fa F64_2 (.g hg rfl) rfl) rfl <| LL.lg rfl rfl (GD.nf _ _) (fun hg => LO.ld O3 (.g hg rfl) (fun w hw => cells_part (off := 2) (own_cell hw 2 rfl (getD_some (d := zCs) (by omega))) ⟨_, rfl⟩)) rfl <| LL.lg rfl rfl (GD.nf _ _) (fun hg => LO.eq (.g hg rfl) (.g hg rfl)) rfl <| LL.lg rfl rfl (GD.nf _ _) (fun hg => LO.mv (.g hg rfl)) rfl <| LL.lg rfl rfl (GD.nt _ _) (fun hg => LO.mv (.r rfl)) rfl <| LL.lg rfl rfl (GD.nt _ _) (fun hg => LO.mv (.r rfl)) rfl <| LL.lg rfl rfl (GD.nt _ _) (fun hg => LO.sub (.g hg rfl) (.r rfl) (wi (by have hz := IsP.yes inferInstance hg; omega) (by omega))) rfl <| LL.lg rfl rfl (GD.nt _ _) (fun hg => LO.ixo S58 N64 (fun _ hw => (own_rows hw 2 rfl).some (by rw [List.length_map])) (.g hg rfl) (.g hg rfl) (show _ = ((j - 1 : Nat) : Int) by have hz := IsP.yes inferInstance hg; omega) (by omega)) rfl <| LL.lg rfl rfl (GD.nt _ _) (fun hg => LO.fa F64_1 (.g hg rfl) rfl) rfl <| LL.lg rfl rfl (GD.nt _ _) (fun hg => LO.ld O3 (.g hg rfl) (fun w hw => cells_part (off := 1) (own_cell hw 2 rfl (getD_some (d := zCs) (by omega))) ⟨_, rfl⟩)) rfl <| LL.lg rfl rfl (GD.nt _ _) (fun hg => LO.mv (.r rfl)) rfl <| LL.lg rfl rfl (GD.nt _ _) (fun hg => LO.mv (.r rfl)) rfl <| LL.lg rfl rfl (GD.nt _ _) (fun hg => LO.ixo S58 N64 (fun _ hw => (own_rows hw 2 rfl).some (by rw [List.length_map])) (.g hg rfl) (.g hg rfl) rfl (by omega)) rfl <| LL.lg rfl rfl (GD.nt _ _) (fun hg => LO.fa F64_1 (.g hg rfl) rfl) rfl <| LL.lg rfl rfl (GD.nt _ _) (fun hg => LO.ld O3 (.g hg rfl) (fun w hw => cells_part (off := 1) (own_cell hw 2 rfl (getD_some (d := zCs) (by omega))) ⟨_, rfl⟩)) rfl <| LL.lg rfl rfl (GD.nt _ _) (fun hg => LO.ge (.g hg rfl) (.g hg rfl)) rfl <| LL.lg rfl rfl (GD.nf _ _) (fun hg => LO.pkA (.g hg rfl) rfl (and_e hg) (.r rfl)) rfl <| LL.lg rfl rfl (GD.nt _ _) (fun hg => LO.pkO (.g hg rfl) (.r rfl) rfl (and_e hg)) rfl <| LL.lg rfl rfl (GD.f _) (fun hg => LO.pkA (.g hg rfl) rfl (and_e hg) (.r rfl)) rfl <| LL.l (LO.pkO (.r rfl) (.r rfl) rfl rfl) rfl <| LL.nil) (by kernel_rfl) ?_
          refine VE.seqN ?_
          refine VC.cond rfl (fun h445 => ?_) (fun h445 => ?_)
          ·
            (exfalso; exact n445 hnmj hordj.out h445)
          ·
            refine VC.skip (VE.inN (VE.seqN ?_))
            refine VC.reg (VO.l (LO.mv (.r rfl)) rfl <| VO.l (LO.add (.r rfl) (.r rfl) (wi (by omega) (by omega))) rfl <| VO.l (LO.as (.r rfl)) rfl <| VO.nil ?_)
            refine VE.thenN fun a w ha hw => ⟨j + 1, (by omega), (by omega), ha.sub (.cons (congrArg (fun z => some (Value.int .i64 z)) (by rw [cnt_open (by omega)]; first | (rw [if_pos (show (o.cs.getD j zCs).en = never from h389)]; omega) | (rw [if_neg (show ¬ (o.cs.getD j zCs).en = never from h389)]; omega))) (.cons rfl (.cons rfl .nil))), hw⟩
        ·
          refine VC.skip (VE.seqN ?_)
          refine VC.seq ?_
          refine VC.draw mixed (LL.l (LO.mv (.r rfl)) rfl <| LL.l (LO.mv (.r rfl)) rfl <| LL.l (LO.ixo S58 N64 (fun _ hw => (own_rows hw 2 rfl).some (by rw [List.length_map])) (.r rfl) (.r rfl) rfl (by omega)) rfl <| LL.l (LO.fa F64_0 (.r rfl) rfl) rfl <| LL.l (LO.ld O3 (.r rfl) (fun w hw => cells_part (off := 0) (own_cell hw 2 rfl (getD_some (d := zCs) (by omega))) ⟨_, rfl⟩)) rfl <| LL.l (LO.mv (.r rfl)) rfl <| LL.l (LO.add (.r rfl) (.r rfl) (wi (by omega) (by omega))) rfl <| LL.l (LO.ne (.r rfl) (.r rfl)) rfl <| LL.l (LO.mv (.r rfl)) rfl <| LL.lg rfl rfl (GD.f _) (fun hg => LO.mv (.r rfl)) rfl <| LL.lg rfl rfl (GD.f _) (fun hg => LO.gt (.g hg rfl) (.r rfl)) rfl <| LL.lg rfl rfl (GD.f _) (fun hg => LO.mv (.g hg rfl)) rfl <| LL.lg rfl rfl (GD.nt _ _) (fun hg => LO.mv (.r rfl)) rfl <| LL.lg rfl rfl (GD.nt _ _) (fun hg => LO.mv (.r rfl)) rfl <| LL.lg rfl rfl (GD.nt _ _) (fun hg => LO.sub (.g hg rfl) (.r rfl) (wi (by have hz := IsP.yes inferInstance hg; omega) (by omega))) rfl <| LL.lg rfl rfl (GD.nt _ _) (fun hg => LO.ixo S58 N64 (fun _ hw => (own_rows hw 2 rfl).some (by rw [List.length_map])) (.g hg rfl) (.g hg rfl) (show _ = ((j - 1 : Nat) : Int) by have hz := IsP.yes inferInstance hg; omega) (by omega)) rfl <| LL.lg rfl rfl (GD.nt _ _) (fun hg => LO.fa F64_2 (.g hg rfl) rfl) rfl <| LL.lg rfl rfl (GD.nt _ _) (fun hg => LO.ld O3 (.g hg rfl) (fun w hw => cells_part (off := 2) (own_cell hw 2 rfl (getD_some (d := zCs) (by omega))) ⟨_, rfl⟩)) rfl <| LL.lg rfl rfl (GD.nt _ _) (fun hg => LO.mv (.r rfl)) rfl <| LL.lg rfl rfl (GD.nt _ _) (fun hg => LO.mv (.r rfl)) rfl <| LL.lg rfl rfl (GD.nt _ _) (fun hg => LO.ixo S58 N64 (fun _ hw => (own_rows hw 2 rfl).some (by rw [List.length_map])) (.g hg rfl) (.g hg rfl) rfl (by omega)) rfl <| LL.lg rfl rfl (GD.nt _ _) (fun hg => LO.fa F64_2 (.g hg rfl) rfl) rfl <| LL.lg rfl rfl (GD.nt _ _) (fun hg => LO.ld O3 (.g hg rfl) (fun w hw => cells_part (off := 2) (own_cell hw 2 rfl (getD_some (d := zCs) (by omega))) ⟨_, rfl⟩)) rfl <| LL.lg rfl rfl (GD.nt _ _) (fun hg => LO.gt (.g hg rfl) (.g hg rfl)) rfl <| LL.lg rfl rfl (GD.nt _ _) (fun hg => LO.mv (.g hg rfl)) rfl <| LL.lg rfl rfl (GD.nf _ _) (fun hg => LO.mv (.r rfl)) rfl <| LL.lg rfl rfl (GD.nf _ _) (fun hg => LO.mv (.r rfl)) rfl <| LL.lg rfl rfl (GD.nf _ _) (fun hg => LO.sub (.g hg rfl) (.r rfl) (wi (by have hz := IsP.yes inferInstance hg; omega) (by omega))) rfl <| LL.lg rfl rfl (GD.nf _ _) (fun hg => LO.ixo S58 N64 (fun _ hw => (own_rows hw 2 rfl).some (by rw [List.length_map])) (.g hg rfl) (.g hg rfl) (show _ = ((j - 1 : Nat) : Int) by have hz := IsP.yes inferInstance hg; omega) (by omega)) rfl <| LL.lg rfl rfl (GD.nf _ _) (fun hg => LO.fa F64_2 (.g hg rfl) rfl) rfl <| LL.lg rfl rfl (GD.nf _ _) (fun hg => LO.ld O3 (.g hg rfl) (fun w hw => cells_part (off := 2) (own_cell hw 2 rfl (getD_some (d := zCs) (by omega))) ⟨_, rfl⟩)) rfl <| LL.lg rfl rfl (GD.nf _ _) (fun hg => LO.mv (.r rfl)) rfl <| LL.lg rfl rfl (GD.nf _ _) (fun hg => LO.mv (.r rfl)) rfl <| LL.lg rfl rfl (GD.nf _ _) (fun hg => LO.ixo S58 N64 (fun _ hw => (own_rows hw 2 rfl).some (by rw [List.length_map])) (.g hg rfl) (.g hg rfl) rfl (by omega)) rfl <| LL.lg rfl rfl (GD.nf _ _) (fun hg => LO.fa F64_2 (.g hg rfl) rfl) rfl <| LL.lg rfl rfl (GD.nf _ _) (fun hg => LO.ld O3 (.g hg rfl) (fun w hw => cells_part (off := 2) (own_cell hw 2 rfl (getD_some (d := zCs) (by omega))) ⟨_, rfl⟩)) rfl <| LL.lg rfl rfl (GD.nf _ _) (fun hg => LO.eq (.g hg rfl) (.g hg rfl)) rfl <| LL.lg rfl rfl (GD.nf _ _) (fun hg => LO.mv (.g hg rfl)) rfl <| LL.lg rfl rfl (GD.nt _ _) (fun hg => LO.mv (.r rfl)) rfl <| LL.lg rfl rfl (GD.nt _ _) (fun hg => LO.mv (.r rfl)) rfl <| LL.lg rfl rfl (GD.nt _ _) (fun hg => LO.sub (.g hg rfl) (.r rfl) (wi (by have hz := IsP.yes inferInstance hg; omega) (by omega))) rfl <| LL.lg rfl rfl (GD.nt _ _) (fun hg => LO.ixo S58 N64 (fun _ hw => (own_rows hw 2 rfl).some (by rw [List.length_map])) (.g hg rfl) (.g hg rfl) (show _ = ((j - 1 : Nat) : Int) by have hz := IsP.yes inferInstance hg; omega) (by omega)) rfl <| LL.lg rfl rfl (GD.nt _ _) (fun hg => LO.fa F64_1 (.g hg rfl) rfl) rfl <| LL.lg rfl rfl (GD.nt _ _) (fun hg => LO.ld O3 (.g hg rfl) (fun w hw => cells_part (off := 1) (own_cell hw 2 rfl (getD_some (d := zCs) (by omega))) ⟨_, rfl⟩)) rfl <| LL.lg rfl rfl (GD.nt _ _) (fun hg => LO.mv (.r rfl)) rfl <| LL.lg rfl rfl (GD.nt _ _) (fun hg => LO.mv (.r rfl)) rfl <| LL.lg rfl rfl (GD.nt _ _) (fun hg => LO.ixo S58 N64 (fun _ hw => (own_rows hw 2 rfl).some (by rw [List.length_map])) (.g hg rfl) (.g hg rfl) rfl (by omega)) rfl <| LL.lg rfl rfl (GD.nt _ _) (fun hg => LO.fa F64_1 (.g hg rfl) rfl) rfl <| LL.lg rfl rfl (GD.nt _ _) (fun hg => LO.ld O3 (.g hg rfl) (fun w hw => cells_part (off := 1) (own_cell hw 2 rfl (getD_some (d := zCs) (by omega))) ⟨_, rfl⟩)) rfl <| LL.lg rfl rfl (GD.nt _ _) (fun hg => LO.ge (.g hg rfl) (.g hg rfl)) rfl <| LL.lg rfl rfl (GD.nf _ _) (fun hg => LO.pkA (.g hg rfl) rfl (and_e hg) (.r rfl)) rfl <| LL.lg rfl rfl (GD.nt _ _) (fun hg => LO.pkO (.g hg rfl) (.r rfl) rfl (and_e hg)) rfl <| LL.lg rfl rfl (GD.f _) (fun hg => LO.pkA (.g hg rfl) rfl (and_e hg) (.r rfl)) rfl <| LL.l (LO.pkO (.r rfl) (.r rfl) rfl rfl) rfl <| LL.nil) (by kernel_rfl) ?_
          refine VE.seqN ?_
          refine VC.cond rfl (fun h445 => ?_) (fun h445 => ?_)
          ·
            (exfalso; exact n445 hnmj hordj.out h445)
          ·
            refine VC.skip (VE.inN (VE.seqN ?_))
            refine VC.reg (VO.l (LO.mv (.r rfl)) rfl <| VO.l (LO.add (.r rfl) (.r rfl) (wi (by omega) (by omega))) rfl <| VO.l (LO.as (.r rfl)) rfl <| VO.nil ?_)
            refine VE.thenN fun a w ha hw => ⟨j + 1, (by omega), (by omega), ha.sub (.cons (congrArg (fun z => some (Value.int .i64 z)) (by rw [cnt_open (by omega)]; first | (rw [if_pos (show (o.cs.getD j zCs).en = never from h389)]; omega) | (rw [if_neg (show ¬ (o.cs.getD j zCs).en = never from h389)]; omega))) (.cons rfl (.cons rfl .nil))), hw⟩
      ·
        refine VC.exit (VE.thenX (VE.thenX (VE.inX (VE.seqN ?_))))
        refine VC.seq ?_
        refine VC.reg (VO.l (LO.mv (.r rfl)) rfl <| VO.l (LO.eq (.r rfl) (.r rfl)) rfl <| VO.l (LO.mv (.r rfl)) rfl <| VO.lg rfl rfl (GD.t _) (fun hg => LO.call (xs := []) (vs := []) C14 trivial (fun w _ => works_c w)) rfl <| VO.l (LO.pkA (.r rfl) rfl rfl (.r rfl)) rfl <| VO.l (LO.as (.r rfl)) rfl <| VO.nil ?_)
        refine VE.seqN ?_
        refine VC.ret (VE.res (vs := [_]) rfl ⟨rfl, trivial⟩ (fun w hw => ?_))
        refine ⟨?_, hbs _ _ hw⟩
        first | rfl | (simp only [resV]; congr 2; exact decide_and_true (by rw [List.take_of_length_le (by omega), hcnt]; omega))

end Go.Proofs.Ytdjflomhaljljaa
