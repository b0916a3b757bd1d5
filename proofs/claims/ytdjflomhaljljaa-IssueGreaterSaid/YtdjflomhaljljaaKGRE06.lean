/-
  Clouds by numbers, and beats.
  Drafts make valid services, and clouds by numbers are valid.
  Offices that have made their steps.
  What IssueNumbered rests on, in plain words.
  The steps of a draft: events and warnings, one by one.
  IssueThreats is walked.
  Frames of the laws about drafts.
  What a cloud does in truth, pixel by pixel: plain.
  What a cloud does in truth: the walk.
  Threats by their states, and levels at the times of steps: plain.
  More clouds, greater leads and holds, and turned orders: plain.
  IssueTruth is walked.
  IssueGreater is walked.
  What a reading says of the arguments of the laws about offices.
  Readings of drafts, clouds by numbers, and beats.
-/
import Derived.Test.YtdjflomhaljljaaKGRE05

namespace Go.Proofs.Ytdjflomhaljljaa
open Go.SL Go.Proofs Go.Cast
set_option linter.unusedVariables false

theorem A148 : IsAgg Try.prog 148 25 := ⟨⟨_, Try.underlying148, rfl⟩, by kernel_rfl⟩
theorem N145 : (Try.prog.info? 145).map (·.size) = some 1 := by kernel_rfl
theorem O145 : IsOne Try.prog 145 := ⟨⟨_, Try.underlying145, rfl⟩, by kernel_rfl⟩
theorem F148_1 : FieldAt Try.prog 148 1 20 := ⟨_, _, Try.underlying148, rfl, rfl, 1, by kernel_rfl⟩
theorem A146 : IsAgg Try.prog 146 2 := ⟨⟨_, Try.underlying146, rfl⟩, by kernel_rfl⟩
theorem C76 : IsFn Try.prog 76 := ⟨_, Try.func76, by decide, rfl⟩
theorem F148_2 : FieldAt Try.prog 148 2 22 := ⟨_, _, Try.underlying148, rfl, rfl, 1, by kernel_rfl⟩
theorem F148_3 : FieldAt Try.prog 148 3 24 := ⟨_, _, Try.underlying148, rfl, rfl, 0, by kernel_rfl⟩
theorem F148_0 : FieldAt Try.prog 148 0 0 := ⟨_, _, Try.underlying148, rfl, rfl, 19, by kernel_rfl⟩
theorem S49 : IsSlice Try.prog 49 148 := Try.underlying49
theorem N148 : (Try.prog.info? 148).map (·.size) = some 25 := by kernel_rfl
theorem C52 : IsFn Try.prog 52 := ⟨_, Try.func52, by decide, rfl⟩
theorem F66_3 : FieldAt Try.prog 66 3 3 := ⟨_, _, Try.underlying66, rfl, rfl, 0, by kernel_rfl⟩
theorem F66_1 : FieldAt Try.prog 66 1 1 := ⟨_, _, Try.underlying66, rfl, rfl, 0, by kernel_rfl⟩
theorem F66_2 : FieldAt Try.prog 66 2 2 := ⟨_, _, Try.underlying66, rfl, rfl, 0, by kernel_rfl⟩


def spA (a b : Int) : Int := min (a.tmod 20001) (b.tmod 20001)
def spB (a b : Int) : Int := max (a.tmod 20001) (b.tmod 20001)
theorem tm2 (a : Int) : -20001 < a.tmod 20001 ∧ a.tmod 20001 < 20001 := ⟨Int.lt_tmod_of_pos a (by decide), Int.tmod_lt_of_pos a (by decide)⟩
/-- A cloud by numbers. -/
structure ClM where
  px : List Int
  xa : Int
  xb : Int
  ya : Int
  yb : Int
  gr : Int
abbrev ClM.cells (c : ClM) : List Value := c.px.map u8V ++ [.int .i16 c.xa, .int .i16 c.xb, .int .i16 c.ya, .int .i16 c.yb, .int .u8 c.gr]
def ClM.ok (c : ClM) : Prop := c.px.length = 20 ∧ (∀ n, n ∈ c.px → U8 n) ∧ I16 c.xa ∧ I16 c.xb ∧ I16 c.ya ∧ I16 c.yb ∧ U8 c.gr
theorem ClM.len {c : ClM} (h : c.ok) : c.cells.length = 25 := by
  show (c.px.map u8V ++ _).length = 25
  rw [List.length_append, List.length_map, h.1]; rfl
theorem ClM.at (c : ClM) (h : c.px.length = 20) (k : Nat) (vs : List Value) (hk : ∃ r, [.int .i16 c.xa, .int .i16 c.xb, .int .i16 c.ya, .int .i16 c.yb, .int .u8 c.gr].drop k = vs ++ r) : ∃ r, c.cells.toArray.toList.drop (20 + k) = vs ++ r := by
  show ∃ r, (c.px.map u8V ++ _).drop (20 + k) = _
  have h2 : (c.px.map u8V).length = 20 := by simpa using h
  rw [← h2, List.drop_length_add_append]
  exact hk
def pxF (px : List Int) (f : Int → Bool) (n : Nat) : List Int := ((List.range n).filter fun p => f (px.getD p 0)).map Int.ofNat
theorem pxF_y {px : List Int} {f : Int → Bool} {n : Nat} (h : f (px.getD n 0) = true) : pxF px f (n + 1) = pxF px f n ++ [(n : Int)] := by
  unfold pxF; rw [List.range_succ, List.filter_append, List.map_append]; simp only [List.filter_cons, h, if_true, List.filter_nil]; rfl
theorem pxF_n {px : List Int} {f : Int → Bool} {n : Nat} (h : f (px.getD n 0) = false) : pxF px f (n + 1) = pxF px f n := by
  unfold pxF; rw [List.range_succ, List.filter_append]; simp only [List.filter_cons, h, Bool.false_eq_true, if_false, List.filter_nil, List.append_nil]
theorem pxF_len {px : List Int} {f : Int → Bool} {n : Nat} : (pxF px f n).length ≤ n := by
  unfold pxF
  rw [List.length_map]
  have := List.length_filter_le (fun p => f (px.getD p 0)) (List.range n)
  simpa using this
def mayF (n : Int) : Bool := decide (0 < n.tmod 3)
def sureF (n : Int) : Bool := decide (n.tmod 3 = 1)
def clMk (c : ClM) : Cloud := ⟨pxF c.px sureF 20, pxF c.px mayF 20, ⟨spA c.xa c.xb, spB c.xa c.xb, spA c.ya c.yb, spB c.ya c.yb⟩, c.gr⟩
def clHas (c : ClM) : Bool := decide ((0 : Int) < ((pxF c.px mayF 20).length : Nat))
/-- All clouds that have pixels. -/
def allL : List ClM → Nat → List Cloud
  | _, 0 => []
  | l, n + 1 => match l[n]? with
    | none => allL l n
    | some c => if clHas c = true then allL l n ++ [clMk c] else allL l n
theorem allL_len {l : List ClM} : ∀ n, (allL l n).length ≤ n
  | 0 => Nat.le_refl _
  | n + 1 => by
    have := allL_len (l := l) n
    unfold allL
    split
    · omega
    · split
      · simp; omega
      · omega
theorem allL_y {l : List ClM} {n : Nat} {c : ClM} (hc : l[n]? = some c) (h : clHas c = true) : allL l (n + 1) = allL l n ++ [clMk c] := by
  conv => lhs; unfold allL
  simp [hc, h]
theorem allL_n {l : List ClM} {n : Nat} {c : ClM} (hc : l[n]? = some c) (h : clHas c = false) : allL l (n + 1) = allL l n := by
  conv => lhs; unfold allL
  simp [hc, h]
structure ClsM (w : World) (p : Option Addr) (l : List ClM) : Prop where
  rows : RO 25 ClM.cells w p l
  ok : ∀ c, c ∈ l → c.ok
/-- A beat. -/
structure BtM where
  la : Int
  a : Int
  b : Int
  no : Bool
abbrev BtM.cells (b : BtM) : List Value := [.int .u16 b.la, .int .u8 b.a, .int .u8 b.b, .bool b.no]
def BtM.ok (b : BtM) : Prop := U16 b.la ∧ U8 b.a ∧ U8 b.b
structure BtsM (w : World) (p : Option Addr) (l : List BtM) : Prop where
  rows : RO 4 BtM.cells w p l
  ok : ∀ c, c ∈ l → c.ok
def btIx (n : Nat) (a : Int) : Nat := (a.tmod (n : Int)).toNat
/-- The clouds of a beat. -/
def beatL (b : BtM) (l : List Cloud) : List Cloud := if (l.length : Int) = 0 ∨ b.no = true then [] else [l.getD (btIx l.length b.a) default, l.getD (btIx l.length b.b) default]
theorem btIx_lt {n : Nat} {a : Int} (ha : 0 ≤ a) (hn : 0 < n) : btIx n a < n ∧ (a.tmod (n : Int)) = (btIx n a : Nat) := by
  unfold btIx
  have := tm ha (show (0 : Int) < (n : Int) by omega)
  omega
theorem St.blkRows {β : Bs} {L : List Res} {w : World} (hw : St β L w) (i : Nat) {E z b : Nat} {C : Array Value} {rows : List (List Value)} (hi : L[i]? = some (blk b (.cells C E))) (hC : C.toList = rows.flatten) (hz : ∀ r, r ∈ rows → r.length = z) : St β (L.set i (own E z (some ⟨b, 0, none⟩) rows.length rows)) w :=
  hw.conv i hi (fun k hk => hk.2) ⟨Nat.le_refl _, hz, fun q => (by cases q), fun a ha => by
    cases ha
    exact ⟨rfl, rfl, C, [], hw.inv i _ hi, by rw [List.append_nil]; exact hC, by rw [← Array.length_toList, hC, flatten_len hz]⟩⟩

set_option maxRecDepth 20000 in
theorem span_c (a b : Int) (w : World) (ha : I16 a) (hb : I16 b) :
  Calls Try.prog 76 #[.agg #[.int .i16 a, .int .i16 b]] w fun e w' => e = .returned (.agg #[.int .i64 (spA a b), .int .i64 (spB a b)]) ∧ St (bs w) [] w' := by
  unfold I16 at ha hb
  refine enter (vs := [_]) (env := [(0, _)]) Try.func76 rfl rfl rfl rfl ?_
  refine VC.seq ?_
  refine VC.reg (VO.h rfl <| HO.box (C := #[_, _]) rfl rfl fun b1 => VO.h rfl <| HO.alloc (C := #[_, _]) Z76 rfl fun b2 => VO.nil ?_)
  refine VE.seqN ?_
  refine VC.seq ?_
  refine VC.draw mixed (LL.l (LO.ixa (j := 0) (r := 0) Try.underlying146 N145 (.r rfl) (.r rfl) rfl (by decide) rfl) rfl <| LL.l (LO.ld O145 (.r rfl) (fun _ hw => cells_at hw 1 rfl ⟨_, rfl⟩)) rfl <| LL.l (LO.cv ⟨_, Try.underlying145⟩ Try.underlying3 (.r rfl) (wi (by omega) (by omega))) rfl <| LL.l (LO.rem (.r rfl) (.r rfl) (by omega)) rfl <| LL.l (LO.ixa (j := 1) (r := 1) Try.underlying146 N145 (.r rfl) (.r rfl) rfl (by decide) rfl) rfl <| LL.l (LO.ld O145 (.r rfl) (fun _ hw => cells_at hw 1 rfl ⟨_, rfl⟩)) rfl <| LL.l (LO.cv ⟨_, Try.underlying145⟩ Try.underlying3 (.r rfl) (wi (by omega) (by omega))) rfl <| LL.l (LO.rem (.r rfl) (.r rfl) (by omega)) rfl <| LL.l (LO.as (.r rfl)) rfl <| LL.l (LO.as (.r rfl)) rfl <| LL.nil) (by kernel_rfl) ?_
  refine VE.seqN ?_
  refine VC.seq ?_
  refine VC.reg (VO.l (LO.mv (.r rfl)) rfl <| VO.l (LO.mv (.r rfl)) rfl <| VO.l (LO.min (.r rfl) (.r rfl)) rfl <| VO.l (LO.mv (.r rfl)) rfl <| VO.l (LO.mv (.r rfl)) rfl <| VO.l (LO.max (.r rfl) (.r rfl)) rfl <| VO.l (LO.bd (ps := [(_, _), (_, _)]) (vs := [(_, _), (_, _)]) (C := [_, _]) B76  ⟨(.r rfl), (.r rfl), trivial⟩ rfl ⟨_, [_], [_, _], rfl, rfl, rfl, rfl, ⟨_, [_], [_, _], rfl, rfl, rfl, rfl, rfl⟩⟩) rfl <| VO.h0 <| HO.st 0 (vs := [_, _]) (C' := [_, _]) (L' := [_, _]) N76 rfl rfl rfl rfl rfl rfl rfl rfl <| VO.nil ?_)
  refine VE.seqN ?_
  refine VC.ret (VE.res (vs := [_]) rfl ⟨RV.agg (vs := [_, _]) A76 rfl (cells_blk 0 rfl ⟨_, rfl⟩) rfl, trivial⟩ (fun w hw => ?_))
  exact ⟨rfl, hw.nil⟩

set_option maxRecDepth 20000 in
theorem cmade_c (c : ClM) (w : World) (hc : c.ok) :
  Calls Try.prog 52 #[.agg c.cells.toArray] w fun e w' => ∃ y : CP, y.c = clMk c ∧ e = .returned (.tuple #[.agg y.cells.toArray, .bool (clHas c)]) ∧ St (bs w) [own 3 1 y.ps y.cs (y.c.sure.map iC), own 3 1 y.pm y.cm (y.c.may.map iC)] w' := by
  obtain ⟨hl20, hu8, h1, h2, h3, h4, h5⟩ := id hc
  unfold U8 at h5
  refine enter (vs := [_]) (env := [(0, _)]) Try.func52 rfl rfl rfl rfl ?_
  refine VC.seq ?_
  refine VC.reg (VO.h rfl <| HO.box (C := c.cells.toArray) rfl rfl fun b1 => VO.h rfl <| HO.alloc (C := #[_, _, _, _, _, _, _]) Z80 rfl fun b2 => VO.l (LO.as (.r rfl)) rfl <| VO.nil ?_)
  refine VE.seqN ?_
  refine VC.seq ?_
  refine VC.drawH [[0, 1], [0, 1], [0, 1]] [some 1, some 1, some 1, some 1, some 1, some 1, some 1, some 1, some 1, some 1, some 1, none, none] mixed (by kernel_rfl) rfl (LX.l (fun _ hJ => LO.fa (r := 20) F148_1 (.r rfl) rfl) rfl <| LX.l (fun _ hJ => LO.lda (vs := [_, _]) A146 (.r rfl) (fun _ hw => cells_at (hJ _ hw) 1 rfl (c.at hl20 0 _ ⟨_, rfl⟩)) rfl) rfl <| LX.l (fun _ hJ => LO.call (xs := [_]) (vs := [_]) C76 ⟨(.r rfl), trivial⟩ (fun w _ => span_c c.xa c.xb w h1 h2)) rfl <| LX.l (fun _ hJ => LO.fa (r := 22) F148_2 (.r rfl) rfl) rfl <| LX.l (fun _ hJ => LO.lda (vs := [_, _]) A146 (.r rfl) (fun _ hw => cells_at (hJ _ hw) 1 rfl (c.at hl20 2 _ ⟨_, rfl⟩)) rfl) rfl <| LX.l (fun _ hJ => LO.call (xs := [_]) (vs := [_]) C76 ⟨(.r rfl), trivial⟩ (fun w _ => span_c c.ya c.yb w h3 h4)) rfl <| LX.l (fun _ hJ => LO.bd (ps := [(_, _), (_, _)]) (vs := [(_, _), (_, _)]) (C := [_, _, _, _]) B78  ⟨(.r rfl), (.r rfl), trivial⟩ rfl ⟨_, [_, _], [_, _, _, _], rfl, rfl, rfl, rfl, ⟨_, [_, _], [_, _, _, _], rfl, rfl, rfl, rfl, rfl⟩⟩) rfl <| LX.l (fun _ hJ => LO.fa (r := 24) F148_3 (.r rfl) rfl) rfl <| LX.l (fun _ hJ => LO.ld O5 (.r rfl) (fun _ hw => cells_at (hJ _ hw) 1 rfl (c.at hl20 4 _ ⟨_, rfl⟩))) rfl <| LX.l (fun _ hJ => LO.cv ⟨_, Try.underlying5⟩ Try.underlying3 (.r rfl) (wi (by omega) (by omega))) rfl <| LX.l (fun _ hJ => LO.bd (ps := [(_, _), (_, _)]) (vs := [(_, _), (_, _)]) (C := [_, _, _, _, _, _, _]) B80  ⟨(.r rfl), (.r rfl), trivial⟩ rfl ⟨_, [_, _, _, _], [_, _, _, _, _, _, _], rfl, rfl, rfl, rfl, ⟨_, [_], [_, _, _, _, _, _, _], rfl, rfl, rfl, rfl, rfl⟩⟩) rfl <| LX.s <| LX.s <| LX.nil) (HX.s <| HX.s <| HX.s <| HX.s <| HX.s <| HX.s <| HX.s <| HX.s <| HX.s <| HX.s <| HX.s <| HX.h rfl <| HO.alloc (C := #[_, _, _, _, _, _, _]) Z80 rfl fun b5 => ⟨fun _ hw => hw.sel [1, 2] rfl, HX.h0 <| HO.st 0 (vs := [_, _, _, _, _, _, _]) (C' := [_, _, _, _, _, _, _]) (L' := [_, _, _]) N80 rfl rfl rfl rfl rfl rfl rfl rfl <| ⟨fun _ hw => hw.sel [1, 2] rfl, HX.nil ?_⟩⟩)
  refine VE.seqN ?_
  refine VC.seq ?_
  refine VC.seq ?_
  refine VC.reg (VO.l (LO.as (.r rfl)) rfl <| VO.nil ?_)
  refine VE.seqN ?_
  refine VC.block ?_
  refine VC.loopK (α := Nat × (List Int) × (Option Addr) × Nat × (List Int) × (Option Addr) × Nat) 1 (fun gx => [(5, .int .i64 (gx.1 : Nat))]) [(1, _), (2, _), (4, _)] (fun gx => [blk b5 (.cells #[.slice gx.2.2.2.2.2.1 gx.2.2.2.2.1.length gx.2.2.2.2.2.2, .slice gx.2.2.1 gx.2.1.length gx.2.2.2.1, .int .i64 (spA c.xa c.xb), .int .i64 (spB c.xa c.xb), .int .i64 (spA c.ya c.yb), .int .i64 (spB c.ya c.yb), .int .i64 c.gr] 80), own 3 1 gx.2.2.2.2.2.1 gx.2.2.2.2.2.2 (gx.2.2.2.2.1.map iC), own 3 1 gx.2.2.1 gx.2.2.2.1 (gx.2.1.map iC)]) (fun gx => gx.1 ≤ 20 ∧ gx.2.1 = pxF c.px mayF gx.1 ∧ gx.2.2.2.2.1 = pxF c.px sureF gx.1) (fun gx => 20 - gx.1) (0, [], none, 0, [], none, 0) (by exact ⟨Nat.zero_le _, rfl, rfl⟩) (.cons rfl (.cons rfl (.cons rfl (.cons rfl .nil)))) (fun _ h => (((h.ownNil 3 1).ownNil 3 1)).sel [2, 0, 1, 3, 4] rfl) ?_
  rintro ⟨p, xs, qm_, dm_, ys, qs_, ds_⟩ ⟨hp, hx, hy⟩
  show VC _ _ _ _ _ ([(5, .int .i64 (p : Nat))] ++ _) ([blk b5 (.cells #[.slice qs_ ys.length ds_, .slice qm_ xs.length dm_, .int .i64 (spA c.xa c.xb), .int .i64 (spB c.xa c.xb), .int .i64 (spA c.ya c.yb), .int .i64 (spB c.ya c.yb), .int .i64 c.gr] 80), own 3 1 qs_ ds_ (ys.map iC), own 3 1 qm_ dm_ (xs.map iC)] ++ _) _ _
  dsimp only at hp hx hy
  have hxl : xs.length ≤ p := by rw [hx]; exact pxF_len
  have hyl : ys.length ≤ p := by rw [hy]; exact pxF_len
  refine VC.seq ?_
  refine VC.seq ?_
  refine VC.reg (VO.l (LO.mv (.r rfl)) rfl <| VO.l (LO.lt (.r rfl) (.r rfl)) rfl <| VO.nil ?_)
  refine VE.seqN ?_
  refine VC.cond rfl (fun h18 => ?_) (fun h18 => ?_)
  ·
    have hpx := u8_at hu8 (p := p) (by omega)
    refine VC.skip (VE.seqN ?_)
    refine VC.seq ?_
    refine VC.block ?_
    refine VC.seq ?_
    refine VC.seq ?_
    refine VC.reg (VO.l (LO.mv (.r rfl)) rfl <| VO.l (LO.fa (r := 0) F148_0 (.r rfl) rfl) rfl <| VO.l (LO.ixa (j := p) (r := p) Try.underlying45 N5 (.r rfl) (.r rfl) rfl (by omega) (by omega)) rfl <| VO.l (LO.ld O5 (.r rfl) (fun _ hw => cells_at hw 4 rfl (px_at (by omega)))) rfl <| VO.l (LO.rem (.r rfl) (.r rfl) (by decide)) rfl <| VO.l (LO.gt (.r rfl) (.r rfl)) rfl <| VO.nil ?_)
    refine VE.seqN ?_
    refine VC.cond rfl (fun h26 => ?_) (fun h26 => ?_)
    ·
      refine VC.reg (VO.l (LO.fa (r := 1) F80_1 (.r rfl) rfl) rfl <| VO.l (LO.ld O55 (.r rfl) (fun _ hw => cells_at hw 0 rfl ⟨_, rfl⟩)) rfl <| VO.l (LO.mv (.r rfl)) rfl <| VO.h rfl <| HO.bs (ps := [(_, _)]) (vs := [(_, _)]) (Z := [_]) (C := [_]) S55 Z3 N3 ⟨(.r rfl), trivial⟩ rfl rfl rfl rfl ⟨_, [_], [_], rfl, rfl, rfl, rfl, rfl⟩ fun b10 => VO.h rfl <| HO.appT (((p : Nat) : Int)) 3 0 (fun R => [_, _, _, R, _, _]) S55 S55 I3 (.r rfl) (.r rfl) rfl rfl rfl rfl rfl rfl rfl (fun _ => rfl) rfl (by omega) fun p4 c4 => VO.l (LO.fa (r := 1) F80_1 (.r rfl) rfl) rfl <| VO.h0 <| HO.st 1 (vs := [_]) (C' := [_, _, _, _, _, _, _]) (L' := [_, _, _, _, _, _]) N55 rfl rfl rfl rfl rfl rfl rfl rfl <| VO.nil ?_)
      refine VE.seqN ?_
      refine VC.seq ?_
      refine VC.reg (VO.l (LO.mv (.r rfl)) rfl <| VO.l (LO.fa (r := 0) F148_0 (.r rfl) rfl) rfl <| VO.l (LO.ixa (j := p) (r := p) Try.underlying45 N5 (.r rfl) (.r rfl) rfl (by omega) (by omega)) rfl <| VO.l (LO.ld O5 (.r rfl) (fun _ hw => cells_at hw 5 rfl (px_at (by omega)))) rfl <| VO.l (LO.rem (.r rfl) (.r rfl) (by decide)) rfl <| VO.l (LO.eq (.r rfl) (.r rfl)) rfl <| VO.nil ?_)
      refine VE.seqN ?_
      refine VC.cond rfl (fun h38 => ?_) (fun h38 => ?_)
      ·
        refine VC.reg (VO.l (LO.fa (r := 0) F80_0 (.r rfl) rfl) rfl <| VO.l (LO.ld O55 (.r rfl) (fun _ hw => cells_at hw 1 rfl ⟨_, rfl⟩)) rfl <| VO.l (LO.mv (.r rfl)) rfl <| VO.h rfl <| HO.bs (ps := [(_, _)]) (vs := [(_, _)]) (Z := [_]) (C := [_]) S55 Z3 N3 ⟨(.r rfl), trivial⟩ rfl rfl rfl rfl ⟨_, [_], [_], rfl, rfl, rfl, rfl, rfl⟩ fun b12 => VO.h rfl <| HO.appT (((p : Nat) : Int)) 3 0 (fun R => [_, _, _, R, _, _, _]) S55 S55 I3 (.r rfl) (.r rfl) rfl rfl rfl rfl rfl rfl rfl (fun _ => rfl) rfl (by omega) fun p8 c8 => VO.l (LO.fa (r := 0) F80_0 (.r rfl) rfl) rfl <| VO.h0 <| HO.st 2 (vs := [_]) (C' := [_, _, _, _, _, _, _]) (L' := [_, _, _, _, _, _, _]) N55 rfl rfl rfl rfl rfl rfl rfl rfl <| VO.nil ?_)
        refine VE.inN (VE.seqN ?_)
        refine VC.reg (VO.l (LO.mv (.r rfl)) rfl <| VO.l (LO.add (.r rfl) (.r rfl) (wi (by omega) (by omega))) rfl <| VO.l (LO.as (.r rfl)) rfl <| VO.nil ?_)
        refine VE.thenN fun a w ha hw => ⟨(p + 1, xs ++ [((p : Nat) : Int)], p4, c4, ys ++ [((p : Nat) : Int)], p8, c8), ⟨by dsimp only; omega, by dsimp only; rw [hx]; exact (pxF_y (by unfold mayF; exact decide_eq_true h26)).symm, by dsimp only; rw [hy]; exact (pxF_y (by unfold sureF; exact decide_eq_true h38)).symm⟩, (by dsimp only; omega), ha.sub (.cons rfl (.cons rfl (.cons rfl (.cons rfl .nil)))), hw.sel [2, 3, 4, 5, 6] rfl⟩
      ·
        refine VC.skip (VE.inN (VE.seqN ?_))
        refine VC.reg (VO.l (LO.mv (.r rfl)) rfl <| VO.l (LO.add (.r rfl) (.r rfl) (wi (by omega) (by omega))) rfl <| VO.l (LO.as (.r rfl)) rfl <| VO.nil ?_)
        refine VE.thenN fun a w ha hw => ⟨(p + 1, xs ++ [((p : Nat) : Int)], p4, c4, ys, qs_, ds_), ⟨by dsimp only; omega, by dsimp only; rw [hx]; exact (pxF_y (by unfold mayF; exact decide_eq_true h26)).symm, by dsimp only; rw [hy]; exact (pxF_n (by unfold sureF; exact decide_eq_false h38)).symm⟩, (by dsimp only; omega), ha.sub (.cons rfl (.cons rfl (.cons rfl (.cons rfl .nil)))), hw.sel [1, 2, 3, 4, 5] rfl⟩
    ·
      refine VC.skip (VE.seqN ?_)
      refine VC.seq ?_
      refine VC.reg (VO.l (LO.mv (.r rfl)) rfl <| VO.l (LO.fa (r := 0) F148_0 (.r rfl) rfl) rfl <| VO.l (LO.ixa (j := p) (r := p) Try.underlying45 N5 (.r rfl) (.r rfl) rfl (by omega) (by omega)) rfl <| VO.l (LO.ld O5 (.r rfl) (fun _ hw => cells_at hw 4 rfl (px_at (by omega)))) rfl <| VO.l (LO.rem (.r rfl) (.r rfl) (by decide)) rfl <| VO.l (LO.eq (.r rfl) (.r rfl)) rfl <| VO.nil ?_)
      refine VE.seqN ?_
      refine VC.cond rfl (fun h38 => ?_) (fun h38 => ?_)
      ·
        refine VC.reg (VO.l (LO.fa (r := 0) F80_0 (.r rfl) rfl) rfl <| VO.l (LO.ld O55 (.r rfl) (fun _ hw => cells_at hw 0 rfl ⟨_, rfl⟩)) rfl <| VO.l (LO.mv (.r rfl)) rfl <| VO.h rfl <| HO.bs (ps := [(_, _)]) (vs := [(_, _)]) (Z := [_]) (C := [_]) S55 Z3 N3 ⟨(.r rfl), trivial⟩ rfl rfl rfl rfl ⟨_, [_], [_], rfl, rfl, rfl, rfl, rfl⟩ fun b14 => VO.h rfl <| HO.appT (((p : Nat) : Int)) 2 0 (fun R => [_, _, R, _, _, _]) S55 S55 I3 (.r rfl) (.r rfl) rfl rfl rfl rfl rfl rfl rfl (fun _ => rfl) rfl (by omega) fun p8 c8 => VO.l (LO.fa (r := 0) F80_0 (.r rfl) rfl) rfl <| VO.h0 <| HO.st 1 (vs := [_]) (C' := [_, _, _, _, _, _, _]) (L' := [_, _, _, _, _, _]) N55 rfl rfl rfl rfl rfl rfl rfl rfl <| VO.nil ?_)
        refine VE.inN (VE.seqN ?_)
        refine VC.reg (VO.l (LO.mv (.r rfl)) rfl <| VO.l (LO.add (.r rfl) (.r rfl) (wi (by omega) (by omega))) rfl <| VO.l (LO.as (.r rfl)) rfl <| VO.nil ?_)
        refine VE.thenN fun a w ha hw => ⟨(p + 1, xs, qm_, dm_, ys ++ [((p : Nat) : Int)], p8, c8), ⟨by dsimp only; omega, by dsimp only; rw [hx]; exact (pxF_n (by unfold mayF; exact decide_eq_false h26)).symm, by dsimp only; rw [hy]; exact (pxF_y (by unfold sureF; exact decide_eq_true h38)).symm⟩, (by dsimp only; omega), ha.sub (.cons rfl (.cons rfl (.cons rfl (.cons rfl .nil)))), hw.sel [1, 2, 3, 4, 5] rfl⟩
      ·
        refine VC.skip (VE.inN (VE.seqN ?_))
        refine VC.reg (VO.l (LO.mv (.r rfl)) rfl <| VO.l (LO.add (.r rfl) (.r rfl) (wi (by omega) (by omega))) rfl <| VO.l (LO.as (.r rfl)) rfl <| VO.nil ?_)
        refine VE.thenN fun a w ha hw => ⟨(p + 1, xs, qm_, dm_, ys, qs_, ds_), ⟨by dsimp only; omega, by dsimp only; rw [hx]; exact (pxF_n (by unfold mayF; exact decide_eq_false h26)).symm, by dsimp only; rw [hy]; exact (pxF_n (by unfold sureF; exact decide_eq_false h38)).symm⟩, (by dsimp only; omega), ha.sub (.cons rfl (.cons rfl (.cons rfl (.cons rfl .nil)))), hw⟩
  ·
    refine VC.exit (VE.thenX (VE.thenX (VE.inX (VE.seqN ?_))))
    refine VC.seq ?_
    refine VC.drawH [[0, 1, 2, 3, 4], [0, 1, 2, 4]] [some 0, some 1, some 1, some 1, some 1, none, some 1] mixed (by kernel_rfl) rfl (LX.l (fun _ hJ => LO.lda (vs := [_, _, _, _, _, _, _]) A80 (.r rfl) (fun _ hw => cells_at (hJ _ hw) 0 rfl ⟨_, rfl⟩) rfl) rfl <| LX.l (fun _ hJ => LO.fa (r := 1) F80_1 (.r rfl) rfl) rfl <| LX.l (fun _ hJ => LO.ld O55 (.r rfl) (fun _ hw => cells_at (hJ _ hw) 0 rfl ⟨_, rfl⟩)) rfl <| LX.l (fun _ hJ => LO.len S55 (.r rfl) rfl) rfl <| LX.l (fun _ hJ => LO.gt (.r rfl) (.r rfl)) rfl <| LX.s <| LX.l (fun _ hJ => LO.as (.r rfl)) rfl <| LX.nil) (HX.s <| HX.s <| HX.s <| HX.s <| HX.s <| HX.h0 <| HO.st 3 (vs := [_, _, _, _, _, _, _]) (C' := [_, _, _, _, _, _, _]) (L' := [_, _, _, _, _]) N80 rfl rfl rfl rfl rfl rfl rfl rfl <| ⟨fun _ hw => hw.sel [0, 1, 2, 4] rfl, HX.s <| HX.nil ?_⟩)
    refine VE.seqN ?_
    refine VC.ret (VE.res (vs := [_, _]) rfl ⟨RV.agg (vs := [_, _, _, _, _, _, _]) A80 rfl (cells_blk 3 rfl ⟨_, rfl⟩) rfl, rfl, trivial⟩ (fun w hw => ?_))
    have hp2 : p = 20 := by omega
    subst hp2
    exact ⟨⟨⟨ys, xs, ⟨spA c.xa c.xb, spB c.xa c.xb, spA c.ya c.yb, spB c.ya c.yb⟩, c.gr⟩, qs_, ds_, qm_, dm_⟩, by rw [hx, hy]; rfl, by rw [show clHas c = decide ((0 : Int) < (xs.length : Nat)) from by unfold clHas; rw [hx]]; rfl, selK (L1 := [_, _]) [1, 2] rfl rfl _ hw⟩

set_option maxRecDepth 20000 in
theorem all_c (l : List ClM) (p : Option Addr) (c : Nat) (w : World) (hn : l.length < 1000000) (hl : ClsM w p l) :
  Calls Try.prog 20 #[.slice p l.length c] w fun e w' => ∃ x : (Option Addr × Nat) × List CP, x.2.map CP.c = allL l l.length ∧ e = .returned (.slice x.1.1 x.2.length x.1.2) ∧ St (bs w) [own 80 7 x.1.1 x.1.2 (x.2.map CP.cells), bagD (x.2.flatMap cpR)] w' := by
  refine enter (vs := [_]) (env := [(0, _)]) Try.func20 rfl rfl rfl rfl ?_
  refine VC.seq ?_
  refine VC.reg (VO.l (LO.as (.r rfl)) rfl <| VO.nil ?_)
  refine VE.seqN ?_
  refine VC.seq ?_
  refine VC.reg (VO.l (LO.as (.r rfl)) rfl <| VO.nil ?_)
  refine VE.seqN ?_
  refine VC.seq ?_
  refine VC.seq ?_
  refine VC.reg (VO.l (LO.as (.r rfl)) rfl <| VO.nil ?_)
  refine VE.seqN ?_
  refine VC.block ?_
  refine VC.loopK (α := Nat × (List CP) × (Option Addr) × Nat) 0 (fun gx => [(3, .slice gx.2.2.1 gx.2.1.length gx.2.2.2), (4, .int .i64 (gx.1 : Nat))]) [(0, _)] (fun gx => [own 80 7 gx.2.2.1 gx.2.2.2 (gx.2.1.map CP.cells), bagD (gx.2.1.flatMap cpR)]) (fun gx => gx.1 ≤ l.length ∧ gx.2.1.map CP.c = allL l gx.1) (fun gx => l.length - gx.1) (0, [], none, 0) (by exact ⟨Nat.zero_le _, rfl⟩) (.cons rfl (.cons rfl (.cons rfl .nil))) (fun _ h => ((St.bagD (Rs := []) h).ownNil 80 7)) ?_
  rintro ⟨j, xs, po_, co_⟩ ⟨hj, hX⟩
  show VC _ _ _ _ _ ([(3, .slice po_ xs.length co_), (4, .int .i64 (j : Nat))] ++ _) ([own 80 7 po_ co_ (xs.map CP.cells), bagD (xs.flatMap cpR)] ++ _) _ _
  dsimp only at hj hX
  have hxl : xs.length ≤ j := by rw [← List.length_map (f := CP.c), hX]; exact allL_len j
  refine VC.seq ?_
  refine VC.seq ?_
  refine VC.reg (VO.l (LO.mv (.r rfl)) rfl <| VO.l (LO.mv (.r rfl)) rfl <| VO.l (LO.len S49 (.r rfl) rfl) rfl <| VO.l (LO.lt (.r rfl) (.r rfl)) rfl <| VO.nil ?_)
  refine VE.seqN ?_
  refine VC.cond rfl (fun h10 => ?_) (fun h10 => ?_)
  ·
    obtain ⟨x, hx⟩ : ∃ x, l[j]? = some x := ⟨_, List.getElem?_eq_getElem (by omega)⟩
    have hxo := hl.ok x (List.mem_of_getElem? hx)
    refine VC.skip (VE.seqN ?_)
    refine VC.seq ?_
    refine VC.block ?_
    refine VC.seq ?_
    refine VC.reg (VO.l (LO.mv (.r rfl)) rfl <| VO.l (LO.mv (.r rfl)) rfl <| VO.l (LO.ixs S49 N148 hl.rows.sm (.r rfl) (.r rfl) rfl (by omega)) rfl <| VO.l (LO.lda (vs := x.cells) A148 (.r rfl) (fun w hw => (hl.rows.keep w hw).cells _ _ (by rw [List.getElem?_map, hx]; rfl)) (by rw [ClM.len hxo]; rfl)) rfl <| VO.h rfl <| HO.callx (xs := [_]) (vs := [_]) C52 ⟨(.r rfl), trivial⟩ (fun w hw => cmade_c x w hxo) fun y hy => VO.h rfl <| HO.lo (LO.mv (.r rfl)) <| VO.h rfl <| HO.lo (LO.ex (.r rfl) rfl) <| VO.h rfl <| HO.lo (LO.ex (.r rfl) rfl) <| VO.h rfl <| HO.alloc (C := #[_, _, _, _, _, _, _]) Z80 rfl fun b5 => VO.h0 <| HO.st 0 (vs := [_, _, _, _, _, _, _]) (C' := [_, _, _, _, _, _, _]) (L' := [_, _, _, _, _]) N80 rfl rfl rfl rfl rfl rfl rfl rfl <| VO.h rfl <| HO.lo (LO.as (.r rfl)) <| VO.nil ?_)
    refine VE.seqN ?_
    refine VC.seq ?_
    refine VC.reg (VO.l (LO.mv (.r rfl)) rfl <| VO.nil ?_)
    refine VE.seqN ?_
    refine VC.cond rfl (fun h21 => ?_) (fun h21 => ?_)
    ·
      refine VC.reg (VO.l (LO.mv (.r rfl)) rfl <| VO.l (LO.lda (vs := [_, _, _, _, _, _, _]) A80 (.r rfl) (fun _ hw => cells_at hw 0 rfl ⟨_, rfl⟩) rfl) rfl <| VO.h rfl <| HO.bs (ps := [(_, _)]) (vs := [(_, _)]) (Z := [_, _, _, _, _, _, _]) (C := [_, _, _, _, _, _, _]) S29 Z80 N80 ⟨(.r rfl), trivial⟩ rfl rfl rfl rfl ⟨_, [_, _, _, _, _, _, _], [_, _, _, _, _, _, _], rfl, rfl, rfl, rfl, rfl⟩ fun b7 => VO.h rfl <| HO.appT (y) 4 0 (fun R => [_, _, _, _, R, _]) S29 S29 I80 (.r rfl) (.r rfl) rfl rfl rfl rfl rfl rfl rfl (fun _ => rfl) rfl (by omega) fun p3 c3 => VO.h rfl <| HO.lo (LO.as (.r rfl)) <| VO.nil ?_)
      refine VE.inN (VE.seqN ?_)
      refine VC.reg (VO.l (LO.mv (.r rfl)) rfl <| VO.l (LO.add (.r rfl) (.r rfl) (wi (by omega) (by omega))) rfl <| VO.l (LO.as (.r rfl)) rfl <| VO.nil ?_)
      refine VE.thenN fun a w ha hw => ⟨(j + 1, xs ++ [y], p3, c3), ⟨by dsimp only; omega, by dsimp only; rw [List.map_append, hX, allL_y hx h21, ← hy]; rfl⟩, (by dsimp only; omega), ha.sub (.cons rfl (.cons rfl (.cons rfl .nil))), (by exact (St.bagCp (selK (L1 := [_, _, _, _]) [2, 3, 5, 4] rfl rfl _ hw)).sel [1, 0] rfl)⟩
    ·
      refine VC.skip (VE.inN (VE.seqN ?_))
      refine VC.reg (VO.l (LO.mv (.r rfl)) rfl <| VO.l (LO.add (.r rfl) (.r rfl) (wi (by omega) (by omega))) rfl <| VO.l (LO.as (.r rfl)) rfl <| VO.nil ?_)
      refine VE.thenN fun a w ha hw => ⟨(j + 1, xs, po_, co_), ⟨by dsimp only; omega, by dsimp only; rw [hX, allL_n hx (by simpa using h21)]⟩, (by dsimp only; omega), ha.sub (.cons rfl (.cons rfl (.cons rfl .nil))), (by exact selK (L1 := [_, _]) [3, 4] rfl rfl _ hw)⟩
  ·
    refine VC.exit (VE.thenX (VE.thenX (VE.inX (VE.seqN ?_))))
    refine VC.seq ?_
    refine VC.reg (VO.l (LO.mv (.r rfl)) rfl <| VO.l (LO.as (.r rfl)) rfl <| VO.nil ?_)
    refine VE.seqN ?_
    refine VC.ret (VE.res (vs := [_]) rfl ⟨rfl, trivial⟩ (fun w hw => ?_))
    exact ⟨((po_, co_), xs), by rw [hX, show j = l.length by omega], rfl, hw.sel [0, 1] rfl⟩

set_option maxRecDepth 20000 in
theorem beat_c (b : BtM) (l : List CP) (p : Option Addr) (c : Nat) (w : World) (hn : l.length < 1000000) (hb : b.ok) (hl : Clouds w p l) :
  Calls Try.prog 23 #[.agg b.cells.toArray, .slice p l.length c] w fun e w' => ∃ x : (Option Addr × Nat) × List CP, (x.2.map CP.c = beatL b (l.map CP.c) ∧ x.2.length ≤ 2 ∧ ∀ y, y ∈ x.2 → y ∈ l) ∧ e = .returned (.slice x.1.1 x.2.length x.1.2) ∧ St (bs w) [own 80 7 x.1.1 x.1.2 (x.2.map CP.cells)] w' := by
  obtain ⟨hb1, hb2, hb3⟩ := id hb
  unfold U8 at hb2 hb3
  refine enter (vs := [_, _]) (env := [(0, _), (1, _)]) Try.func23 rfl rfl rfl rfl ?_
  refine VC.seq ?_
  refine VC.reg (VO.h rfl <| HO.box (C := #[_, _, _, _]) rfl rfl fun b1 => VO.l (LO.as (.r rfl)) rfl <| VO.nil ?_)
  refine VE.seqN ?_
  refine VC.seq ?_
  refine VC.seq ?_
  refine VC.reg (VO.l (LO.mv (.r rfl)) rfl <| VO.l (LO.len S29 (.r rfl) rfl) rfl <| VO.l (LO.eq (.r rfl) (.r rfl)) rfl <| VO.l (LO.mv (.r rfl)) rfl <| VO.lg rfl rfl (GD.f _) (fun hg => LO.fa (r := 3) F66_3 (.r rfl) rfl) rfl <| VO.lg rfl rfl (GD.f _) (fun hg => LO.ld O4 (.g hg rfl) (fun _ hw => cells_at hw 0 rfl ⟨_, rfl⟩)) rfl <| VO.l (LO.pkO (.r rfl) (.r rfl) rfl rfl) rfl <| VO.nil ?_)
  refine VE.seqN ?_
  refine VC.cond rfl (fun h11 => ?_) (fun h11 => ?_)
  ·
    refine VC.seq ?_
    refine VC.reg (VO.l (LO.as (.r rfl)) rfl <| VO.nil ?_)
    refine VE.seqN ?_
    refine VC.ret (VE.thenR (VE.res (vs := [_]) rfl ⟨rfl, trivial⟩ (fun w hw => ?_)))
    first | exact ⟨((none, 0), []), ⟨by unfold beatL; rw [if_pos (by rw [List.length_map]; exact h11)]; rfl, Nat.zero_le _, fun y hy => by cases hy⟩, rfl, hw.nil.ownNil 80 7⟩ | exact ⟨((_, _), [x, x2]), ⟨by unfold beatL; rw [if_neg (by rw [List.length_map]; exact h11), List.length_map, getD_c hx, getD_c hx2]; rfl, Nat.le_refl _, fun y hy => by simp only [List.mem_cons, List.not_mem_nil, or_false] at hy; rcases hy with rfl | rfl; (· exact List.mem_of_getElem? hx); (· exact List.mem_of_getElem? hx2)⟩, rfl, (Go.Proofs.Ytdjflomhaljljaa.St.blkRows hw 0 (rows := [x, x2].map CP.cells) rfl rfl (fun r hr => by obtain ⟨q, _, e⟩ := List.mem_map.1 hr; rw [← e]; rfl)).sel [0] rfl⟩
  ·
    have hpos : 0 < l.length := by omega
    have hk1 := btIx_lt hb2.1 hpos
    have hk2 := btIx_lt hb3.1 hpos
    obtain ⟨x, hx⟩ : ∃ x, l[(btIx l.length b.a)]? = some x := ⟨_, List.getElem?_eq_getElem hk1.1⟩
    obtain ⟨x2, hx2⟩ : ∃ x, l[(btIx l.length b.b)]? = some x := ⟨_, List.getElem?_eq_getElem hk2.1⟩
    refine VC.skip (VE.seqN ?_)
    refine VC.seq ?_
    refine VC.drawH [[0], [0], [0]] [some 0, some 0, some 0, some 0, some 0, some 0, some 0, some 0, some 0, some 0, some 0, some 0, some 0, some 0, some 0, some 0, some 0, some 0, none, none] mixed (by kernel_rfl) rfl (LX.l (fun _ hJ => LO.mv (.r rfl)) rfl <| LX.l (fun _ hJ => LO.fa (r := 1) F66_1 (.r rfl) rfl) rfl <| LX.l (fun _ hJ => LO.ld O5 (.r rfl) (fun _ hw => cells_at (hJ _ hw) 0 rfl ⟨_, rfl⟩)) rfl <| LX.l (fun _ hJ => LO.cv ⟨_, Try.underlying5⟩ Try.underlying3 (.r rfl) (wi (by omega) (by omega))) rfl <| LX.l (fun _ hJ => LO.mv (.r rfl)) rfl <| LX.l (fun _ hJ => LO.len S29 (.r rfl) rfl) rfl <| LX.l (fun _ hJ => LO.rem (.r rfl) (.r rfl) (by omega)) rfl <| LX.l (fun _ hJ => LO.ixs S29 N80 hl.sl (.r rfl) (.r rfl) hk1.2 hk1.1) rfl <| LX.l (fun _ hJ => LO.lda (vs := [_, _, _, _, _, _, _]) A80 (.r rfl) (hl.at hx) rfl) rfl <| LX.l (fun _ hJ => LO.mv (.r rfl)) rfl <| LX.l (fun _ hJ => LO.fa (r := 2) F66_2 (.r rfl) rfl) rfl <| LX.l (fun _ hJ => LO.ld O5 (.r rfl) (fun _ hw => cells_at (hJ _ hw) 0 rfl ⟨_, rfl⟩)) rfl <| LX.l (fun _ hJ => LO.cv ⟨_, Try.underlying5⟩ Try.underlying3 (.r rfl) (wi (by omega) (by omega))) rfl <| LX.l (fun _ hJ => LO.mv (.r rfl)) rfl <| LX.l (fun _ hJ => LO.len S29 (.r rfl) rfl) rfl <| LX.l (fun _ hJ => LO.rem (.r rfl) (.r rfl) (by omega)) rfl <| LX.l (fun _ hJ => LO.ixs S29 N80 hl.sl (.r rfl) (.r rfl) hk2.2 hk2.1) rfl <| LX.l (fun _ hJ => LO.lda (vs := [_, _, _, _, _, _, _]) A80 (.r rfl) (hl.at hx2) rfl) rfl <| LX.s <| LX.s <| LX.nil) (HX.s <| HX.s <| HX.s <| HX.s <| HX.s <| HX.s <| HX.s <| HX.s <| HX.s <| HX.s <| HX.s <| HX.s <| HX.s <| HX.s <| HX.s <| HX.s <| HX.s <| HX.s <| HX.h rfl <| HO.bs (ps := [(_, _), (_, _)]) (vs := [(_, _), (_, _)]) (Z := [_, _, _, _, _, _, _, _, _, _, _, _, _, _]) (C := [_, _, _, _, _, _, _, _, _, _, _, _, _, _]) S29 Z80 N80 ⟨(.r rfl), (.r rfl), trivial⟩ rfl rfl rfl rfl ⟨_, [_, _, _, _, _, _, _], [_, _, _, _, _, _, _, _, _, _, _, _, _, _], rfl, rfl, rfl, rfl, ⟨_, [_, _, _, _, _, _, _], [_, _, _, _, _, _, _, _, _, _, _, _, _, _], rfl, rfl, rfl, rfl, rfl⟩⟩ fun b3 => ⟨fun _ hw => hw.sel [1] rfl, HX.h rfl <| HO.lo (LO.as (.r rfl)) <| ⟨fun _ hw => hw.sel [1] rfl, HX.nil ?_⟩⟩)
    refine VE.seqN ?_
    refine VC.ret (VE.res (vs := [_]) rfl ⟨rfl, trivial⟩ (fun w hw => ?_))
    first | exact ⟨((none, 0), []), ⟨by unfold beatL; rw [if_pos (by rw [List.length_map]; exact h11)]; rfl, Nat.zero_le _, fun y hy => by cases hy⟩, rfl, hw.nil.ownNil 80 7⟩ | exact ⟨((_, _), [x, x2]), ⟨by unfold beatL; rw [if_neg (by rw [List.length_map]; exact h11), List.length_map, getD_c hx, getD_c hx2]; rfl, Nat.le_refl _, fun y hy => by simp only [List.mem_cons, List.not_mem_nil, or_false] at hy; rcases hy with rfl | rfl; (· exact List.mem_of_getElem? hx); (· exact List.mem_of_getElem? hx2)⟩, rfl, (Go.Proofs.Ytdjflomhaljljaa.St.blkRows hw 0 (rows := [x, x2].map CP.cells) rfl rfl (fun r hr => by obtain ⟨q, _, e⟩ := List.mem_map.1 hr; rw [← e]; rfl)).sel [0] rfl⟩

end Go.Proofs.Ytdjflomhaljljaa

namespace Go.Proofs.Ytdjflomhaljljaa
open Go.SL Go.Proofs Go.Cast
set_option linter.unusedVariables false

/-- Numbers in order, below a bound. -/
def Asc (n : Nat) (l : List Int) : Prop := l.Pairwise (· < ·) ∧ ∀ v, v ∈ l → 0 ≤ v ∧ v < (n : Int)
theorem asc_filter {n : Nat} (f : Nat → Bool) : Asc n (((List.range n).filter f).map Int.ofNat) := by
  constructor
  · rw [List.pairwise_map]
    exact (List.Pairwise.filter f List.pairwise_lt_range).imp fun h => by exact Int.ofNat_lt.2 h
  · intro v hv
    obtain ⟨p, hp, e⟩ := List.mem_map.1 hv
    have := List.mem_range.1 (List.mem_filter.1 hp).1
    subst e
    constructor
    · exact Int.natCast_nonneg p
    · exact Int.ofNat_lt.2 this
theorem asc_px {px : List Int} {f : Int → Bool} {n : Nat} : Asc n (pxF px f n) := asc_filter _
theorem asc_dr {d : DrM} {i n : Nat} : Asc n (drPx d i n) := asc_filter _
theorem asc_lt {n : Nat} {l : List Int} (h : Asc n l) {i : Nat} (h0 : 0 < i) (hi : i < l.length) : l.getD (i - 1) 0 < l.getD i 0 := by
  have := List.pairwise_iff_getElem.1 h.1 (i - 1) i (by omega) hi (by omega)
  rw [List.getD_eq_getElem?_getD, List.getD_eq_getElem?_getD, List.getElem?_eq_getElem hi, List.getElem?_eq_getElem (by omega : i - 1 < l.length)]
  exact this
theorem mayE_asc {l : List Int} (h : Asc 20 l) : firstE (mayE gD l) l.length = 0 := firstE_zero fun k hk => by
  have h1 := h.2 _ (getD_mem (d := 0) hk)
  unfold mayE
  rw [if_neg (fun q => q ⟨h1.1, by show _ ≤ (5 : Int) * 4 - 1; omega⟩), if_neg]
  rintro ⟨h2, h3⟩
  have := asc_lt h (by omega) hk
  omega
theorem pxF_mem {px : List Int} {f : Int → Bool} {n : Nat} {v : Int} : v ∈ pxF px f n ↔ ∃ p : Nat, p < n ∧ v = (p : Int) ∧ f (px.getD p 0) = true := by
  unfold pxF
  simp only [List.mem_map, List.mem_filter, List.mem_range]
  constructor
  · rintro ⟨p, ⟨h1, h2⟩, h3⟩; exact ⟨p, h1, h3.symm, h2⟩
  · rintro ⟨p, h1, h2, h3⟩; exact ⟨p, ⟨h1, h3⟩, h2.symm⟩
theorem sureE_asc {px : List Int} : firstE (sureE (pxF px mayF 20) (pxF px sureF 20)) (pxF px sureF 20).length = 0 := firstE_zero fun k hk => by
  unfold sureE
  rw [if_neg, if_neg]
  · intro q
    refine q ?_
    obtain ⟨p, h1, h2, h3⟩ := pxF_mem.1 (getD_mem (d := 0) hk)
    rw [h2]
    refine pxF_mem.2 ⟨p, h1, rfl, ?_⟩
    unfold sureF at h3
    unfold mayF
    have := of_decide_eq_true h3
    rw [this]; rfl
  · rintro ⟨h2, h3⟩
    have := asc_lt (asc_px (px := px) (f := sureF)) (by omega) hk
    omega
theorem cloud_ok {c : ClM} (h : c.ok) (hh : clHas c = true) : cloudE gD (clMk c) = 0 := by
  obtain ⟨_, _, h1, h2, h3, h4, h5⟩ := h
  have e1 : (clMk c).may ≠ [] := fun q => by
    have : pxF c.px mayF 20 = [] := q
    unfold clHas at hh; rw [this] at hh; cases hh
  have a := tm2 c.xa; have b := tm2 c.xb; have d := tm2 c.ya; have e := tm2 c.yb
  unfold U8 at h5
  unfold cloudE
  rw [if_neg (fun q => q (by decide)), if_neg (fun q => q ⟨⟨by show -100000 ≤ spA c.xa c.xb; unfold spA; omega, by show spA c.xa c.xb ≤ spB c.xa c.xb; unfold spA spB; omega, by show spB c.xa c.xb ≤ 100000; unfold spB; omega⟩, by show -100000 ≤ spA c.ya c.yb; unfold spA; omega, by show spA c.ya c.yb ≤ spB c.ya c.yb; unfold spA spB; omega, by show spB c.ya c.yb ≤ 100000; unfold spB; omega⟩),
    if_neg (fun q => q ⟨by show 0 ≤ c.gr; omega, by show c.gr ≤ 10000; omega⟩), if_neg e1]
  rw [if_neg (fun q => q (mayE_asc asc_px))]
  exact sureE_asc
theorem allL_ok {l : List ClM} (h : ∀ c, c ∈ l → c.ok) : ∀ n x, x ∈ allL l n → ∃ c, c ∈ l ∧ x = clMk c ∧ clHas c = true
  | 0, x, hx => by cases hx
  | n + 1, x, hx => by
    unfold allL at hx
    split at hx
    · exact allL_ok h n x hx
    · rename_i c hc
      split at hx
      · rcases List.mem_append.1 hx with q | q
        · exact allL_ok h n x q
        · simp at q; subst q; exact ⟨c, List.mem_of_getElem? hc, rfl, by assumption⟩
      · exact allL_ok h n x hx
theorem look_ok {l : List Cloud} (hl : l.length ≤ 64) (h : ∀ x, x ∈ l → cloudE gD x = 0) : lookE gD l = 0 := by
  unfold lookE atE
  rw [if_neg (fun q => q (by decide)), if_neg (by omega), if_neg (fun q => q (firstE_zero fun k hk => h _ (getD_mem hk))), if_neg (by decide)]
theorem beat_mem {b : BtM} {l : List Cloud} (hb : b.ok) : ∀ x, x ∈ beatL b l → x ∈ l := fun x hx => by
  unfold beatL at hx
  split at hx
  · cases hx
  · rename_i q
    have hp : 0 < l.length := by omega
    simp only [List.mem_cons, List.not_mem_nil, or_false] at hx
    rcases hx with rfl | rfl
    · exact getD_mem (btIx_lt hb.2.1.1 hp).1
    · exact getD_mem (btIx_lt hb.2.2.1 hp).1
theorem beat_len {b : BtM} {l : List Cloud} : (beatL b l).length ≤ 2 := by unfold beatL; split <;> simp
/-- Clouds that a look takes. -/
def ClsOk (l : List Cloud) : Prop := ∀ x, x ∈ l → cloudE gD x = 0
theorem allL_cls {l : List ClM} (h : ∀ c, c ∈ l → c.ok) (n : Nat) : ClsOk (allL l n) := fun x hx => by
  obtain ⟨c, h1, rfl, h2⟩ := allL_ok h n x hx
  exact cloud_ok (h c h1) h2
theorem beat_look {b : BtM} {l : List Cloud} (hb : b.ok) (h : ClsOk l) : lookE gD (beatL b l) = 0 := look_ok (by have := beat_len (b := b) (l := l); omega) fun x hx => h x (beat_mem hb x hx)
theorem drRegs_mem {d : DrM} : ∀ {i : Nat} {r : Reg}, r ∈ drRegs d i → ∃ j, j < i ∧ r = ⟨nmS j, drPx d j 20⟩ ∧ drPx d j 20 ≠ []
  | 0, r, h => by cases h
  | i + 1, r, h => by
    unfold drRegs at h
    split at h
    · obtain ⟨j, h1, h2⟩ := drRegs_mem h; exact ⟨j, by omega, h2⟩
    · rename_i q
      rcases List.mem_append.1 h with z | z
      · obtain ⟨j, h1, h2⟩ := drRegs_mem z; exact ⟨j, by omega, h2⟩
      · simp at z; exact ⟨i, by omega, z, q⟩
theorem nmS_inj {i j : Nat} (hi : i < 3) (hj : j < 3) (h : nmS i = nmS j) : i = j := by
  have key : ∀ i j : Fin 3, nmS i.val = nmS j.val → i = j := by decide
  have := key ⟨i, hi⟩ ⟨j, hj⟩ h
  exact congrArg Fin.val this
theorem nmS_ok {i : Nat} (hi : i < 3) : nameB (nmS i) = true := by
  have key : ∀ i : Fin 3, nameB (nmS i.val) = true := by decide
  exact key ⟨i, hi⟩
theorem drRegs_pw {d : DrM} : ∀ {i : Nat}, i ≤ 3 → (drRegs d i).Pairwise (fun r s => r.name ≠ s.name)
  | 0, _ => List.Pairwise.nil
  | i + 1, hi => by
    unfold drRegs
    split
    · exact drRegs_pw (by omega)
    · rw [List.pairwise_append]
      refine ⟨drRegs_pw (by omega), by simp, fun r hr s hs => ?_⟩
      simp at hs; subst hs
      obtain ⟨j, h1, h2, _⟩ := drRegs_mem hr
      subst h2
      intro e
      have := nmS_inj (by omega) (by omega) e
      omega
theorem dr_spec {d : DrM} (h : d.ok) (hne : drRegs d 3 ≠ []) : specE (drSp d) = 0 := by
  have hb := dr_bd h
  have hlen := drRegs_len (d := d) 3
  unfold specE drSp
  dsimp only
  have hz : firstE (regE gD (drRegs d 3)) (drRegs d 3).length = 0 := by
    refine firstE_zero fun k hk => ?_
    obtain ⟨j, h1, h2, h3⟩ := drRegs_mem (getD_mem (d := default) hk)
    unfold regE
    rw [if_neg, if_neg, h2]
    · unfold pixE
      rw [if_neg h3]
      exact mayE_asc asc_dr
    · intro q
      unfold metB at q
      rw [List.any_eq_true] at q
      obtain ⟨r, hr, e⟩ := q
      obtain ⟨i, hi⟩ := List.mem_iff_getElem?.1 hr
      rw [List.getElem?_take] at hi
      split at hi
      · rename_i q
        obtain ⟨z1, z2⟩ := List.getElem?_eq_some_iff.1 hi
        have := List.pairwise_iff_getElem.1 (drRegs_pw (d := d) (Nat.le_refl 3)) i k z1 hk q
        rw [z2] at this
        have e2 : (drRegs d 3).getD k default = (drRegs d 3)[k] := by rw [List.getD_eq_getElem?_getD, List.getElem?_eq_getElem hk]; rfl
        exact this (by rw [← e2]; exact (of_decide_eq_true e).symm)
      · cases hi
    · intro q
      rw [h2] at q
      exact q (nmS_ok h1)
  rw [if_neg (fun q => q (by decide)), if_neg hne, if_neg (by omega), if_neg (fun q => q hz), if_neg (fun q => q ⟨⟨by dsimp only; omega, by dsimp only; omega⟩, ⟨by dsimp only; omega, by dsimp only; omega⟩, by dsimp only; omega, by dsimp only; omega⟩)]
/-- The time of a beat. -/
def tAt (bs : List BtM) : Nat → Int
  | 0 => 0
  | i + 1 => tAt bs i + (1 + (bs.getD i ⟨0, 0, 0, true⟩).la.tmod 500)
theorem tAt_bd {bs : List BtM} (h : ∀ b, b ∈ bs → b.ok) : ∀ i, i ≤ bs.length → 0 ≤ tAt bs i ∧ tAt bs i ≤ 500 * (i : Int)
  | 0, _ => ⟨Int.le_refl _, Int.le_refl _⟩
  | i + 1, hi => by
    have ih := tAt_bd h i (by omega)
    have hb := (h _ (getD_mem (d := ⟨0, 0, 0, true⟩) (by omega : i < bs.length))).1
    have := tm hb.1 (show (0 : Int) < 500 by decide)
    unfold tAt
    omega
theorem tAt_lt {bs : List BtM} (h : ∀ b, b ∈ bs → b.ok) {i : Nat} (hi : i < bs.length) : tAt bs i < tAt bs (i + 1) := by
  have hb := (h _ (getD_mem (d := ⟨0, 0, 0, true⟩) hi)).1
  have := tm hb.1 (show (0 : Int) < 500 by decide)
  conv => rhs; unfold tAt
  omega
/-- The threats of all regions. -/
def thsP (s : Sp) (l : List Cloud) : List Thr := s.regs.map fun r => thr (lookL s.g l s.lead s.step) r.pix s.step
theorem ths_eq {o : OfM} (h : WfO o) (l : List Cloud) : thsO o l = thsP o.sp l := by
  unfold thsO thsP OfM.sp
  refine List.ext_getElem? fun k => ?_
  simp only [List.getElem?_map]
  cases q : o.rc[k]? with
  | none =>
    have : o.rc.length ≤ k := by
      rcases Nat.lt_or_ge k o.rc.length with z | z
      · rw [List.getElem?_eq_getElem z] at q; cases q
      · exact z
    rw [List.getElem?_eq_none (by rw [← h.len]; exact this)]; rfl
  | some r => rw [(h.idx k r q).1]; rfl
/-- The steps of beats. -/
def stB (s : Sp) (l : List Cloud) (bs : List BtM) (n : Nat) : List Stp := (List.range n).map fun i => ⟨tAt bs (i + 1), thsP s (beatL (bs.getD i ⟨0, 0, 0, true⟩) l)⟩
theorem stB_snoc {s : Sp} {l : List Cloud} {bs : List BtM} {n : Nat} : stB s l bs (n + 1) = stB s l bs n ++ [⟨tAt bs (n + 1), thsP s (beatL (bs.getD n ⟨0, 0, 0, true⟩) l)⟩] := by
  unfold stB; rw [List.range_succ, List.map_append]; rfl
/-- The events of steps, step by step. -/
def evB (s : Sp) (l : List Cloud) (bs : List BtM) (n : Nat) : List (List Ev) := (List.range n).map fun i => evF s.hold s.regs.length (stB s l bs i) ⟨tAt bs (i + 1), thsP s (beatL (bs.getD i ⟨0, 0, 0, true⟩) l)⟩
theorem evB_snoc {s : Sp} {l : List Cloud} {bs : List BtM} {n : Nat} : evB s l bs (n + 1) = evB s l bs n ++ [evF s.hold s.regs.length (stB s l bs n) ⟨tAt bs (n + 1), thsP s (beatL (bs.getD n ⟨0, 0, 0, true⟩) l)⟩] := by
  unfold evB; rw [List.range_succ, List.map_append]; rfl
def tmB (bs : List BtM) (n : Nat) : List Int := (List.range n).map fun i => tAt bs (i + 1)
theorem tmB_snoc {bs : List BtM} {n : Nat} : tmB bs (n + 1) = tmB bs n ++ [tAt bs (n + 1)] := by unfold tmB; rw [List.range_succ, List.map_append]; rfl
theorem cs_nodup {o : OfM} {w : World} (h : (bagD (o.cs.map CsM.blk)).inv w) : (o.cs.map CsM.b).Nodup := by
  have := h.2
  rw [List.pairwise_map] at this
  unfold List.Nodup
  rw [List.pairwise_map]
  refine this.imp fun {a b} hab e => ?_
  exact hab a.b rfl (by show a.b = b.b; exact e)
/-- A step, and the plain words. -/
theorem Step_s (o : OfM) (st : List Stp) (T : Int) (m : List CP) (pm : Option Addr) (cm : Nat) (w : World) (hh : Has w (offR o)) (hcl : ∀ {L : List Res} {v : World}, St ⟨w, fpL (offR o)⟩ L v → Clouds v pm m) (hcn : m.length < 1000000000) (h : SimO o st) (hT1 : 0 ≤ T) (hT3 : T ≤ 4294967296) (hlate : o.ts = [] ∨ lastI o.ts < T) (hful : o.lg.length < 256) (hlk : lookE o.g (m.map CP.c) = 0) :
    Calls Try.prog 27 #[ptrN o.b, .int .i64 T, .slice pm m.length cm] w fun e w' => ∃ y : StepY, (StepP o T (m.map CP.c) y ∧ SimO (y.o o T) (st ++ [⟨T, thsP o.sp (m.map CP.c)⟩]) ∧ y.es = evF o.hold o.rc.length st ⟨T, thsP o.sp (m.map CP.c)⟩) ∧ e = .returned (.tuple #[.slice y.pe y.es.length y.ce, .int .i64 0]) ∧ St ⟨w, fpL (offR o)⟩ (own 62 7 y.pe y.ce (y.es.map evC) :: offR (y.o o T)) w' := by
  refine (Step_w o T m pm cm w hh hcl hcn h.wf hT1 hT3 hlate hful hlk).mono ?_
  rintro e w' ⟨y, hp, he, hs⟩
  have hnd : (y.cs.map CsM.b).Nodup := cs_nodup (o := y.o o T) (hs.inv 8 _ rfl)
  have := sim_step h hp hT1 hT3 hlate hnd
  rw [ths_eq h.wf] at this
  exact ⟨y, ⟨hp, this⟩, he, hs⟩
theorem n_eq {o : OfM} (h : WfO o) : o.rc.length = o.sp.regs.length := by unfold OfM.sp; rw [List.length_map]; exact h.len

end Go.Proofs.Ytdjflomhaljljaa

namespace Go.Proofs.Ytdjflomhaljljaa
open Go.SL Go.Proofs Go.Cast
set_option linter.unusedVariables false

theorem S50 : IsSlice Try.prog 50 66 := Try.underlying50
theorem N66 : (Try.prog.info? 66).map (·.size) = some 4 := by kernel_rfl
theorem F66_0 : FieldAt Try.prog 66 0 0 := ⟨_, _, Try.underlying66, rfl, rfl, 0, by kernel_rfl⟩
theorem A66 : IsAgg Try.prog 66 4 := ⟨⟨_, Try.underlying66, rfl⟩, by kernel_rfl⟩
theorem C23 : IsFn Try.prog 23 := ⟨_, Try.func23, by decide, rfl⟩
theorem S54 : IsSlice Try.prog 54 60 := Try.underlying54
theorem I60 : EInfo Try.prog 60 1 24 (.slice none 0 0) := ⟨by kernel_rfl, by kernel_rfl, by unfold ZeroOf; kernel_rfl, rfl, by decide⟩


/-- What stands in a log. -/
inductive Ent where
  | st (t : Int) (l : List Cloud)
  | nt (t : Int) (g : Grid) (vs : List Span) (lv : Int)
def LgM.ent : LgM → Ent
  | .st t _ _ l => .st t (l.map CP.c)
  | .nt t g _ _ vs lv => .nt t g vs lv
def lgB (l : List Cloud) (bs : List BtM) (n : Nat) : List Ent := (List.range n).map fun i => .st (tAt bs (i + 1)) (beatL (bs.getD i ⟨0, 0, 0, true⟩) l)
theorem lgB_snoc {l : List Cloud} {bs : List BtM} {n : Nat} : lgB l bs (n + 1) = lgB l bs n ++ [.st (tAt bs (n + 1)) (beatL (bs.getD n ⟨0, 0, 0, true⟩) l)] := by unfold lgB; rw [List.range_succ, List.map_append]; rfl
structure RnY where
  o : OfM
  evs : List (RowA Ev)
  pe : Option Addr
  ce : Nat
  ts : List Int
  pt : Option Addr
  ct : Nat
/-- What holds of an office behind some beats. -/
def RnA (s : Sp) (l : List Cloud) (bs : List BtM) (o : OfM) (evs : List (RowA Ev)) (ts : List Int) (n : Nat) : Prop :=
  SimO o (stB s l bs n) ∧ o.sp = s ∧ evs.map RowA.l = evB s l bs n ∧ ts = tmB bs n ∧ o.lg.map LgM.ent = lgB l bs n
def RnP (s : Sp) (l : List Cloud) (bs : List BtM) (y : RnY) : Prop := RnA s l bs y.o y.evs y.ts bs.length
theorem clouds_rest {R L : List Res} {w0 w v : World} {pl p : Option Addr} {c : Nat} {m l : List CP} (hl : Clouds w0 pl l) (hm : ∀ y, y ∈ m → y ∈ l) (h : St (bs w0) (R ++ [own 80 7 p c (m.map CP.cells)]) w) (hs : St ⟨w, fpL R⟩ L v) : Clouds v p m :=
  ⟨own_inv_rows (restInv h hs (.head _)), fun x hx => (hl.keep v (h.callG (fun k hk => hk) hs)).ok x (hm x hx)⟩
theorem tAt_s {bs : List BtM} {n : Nat} {x : BtM} (hx : bs[n]? = some x) : tAt bs (n + 1) = tAt bs n + (1 + x.la.tmod 500) := by
  have hxd : bs.getD n ⟨0, 0, 0, true⟩ = x := by rw [List.getD_eq_getElem?_getD, hx]; rfl
  conv => lhs; unfold tAt
  rw [hxd]
theorem late_stB {o : OfM} {s : Sp} {l : List Cloud} {bs : List BtM} {i : Nat} (h : o.ts = (stB s l bs i).map Stp.t) (hb : ∀ b, b ∈ bs → b.ok) (hi : i < bs.length) : o.ts = [] ∨ lastI o.ts < tAt bs (i + 1) := by
  cases i with
  | zero => exact .inl (by rw [h]; rfl)
  | succ k =>
    refine .inr ?_
    rw [h, stB_snoc, List.map_append]
    show lastI (_ ++ [_]) < _
    rw [lastI_snoc]
    exact tAt_lt hb hi
theorem rn_step {s : Sp} {l : List Cloud} {bs : List BtM} {o : OfM} {evs : List (RowA Ev)} {ts : List Int} {n : Nat} {y : StepY} {x : BtM} {m : List Cloud} (h : RnA s l bs o evs ts n) (hx : bs[n]? = some x) (hm : m = beatL x l)
    (hy : StepP o (tAt bs (n + 1)) m y ∧ SimO (y.o o (tAt bs (n + 1))) (stB s l bs n ++ [⟨tAt bs (n + 1), thsP o.sp m⟩]) ∧ y.es = evF o.hold o.rc.length (stB s l bs n) ⟨tAt bs (n + 1), thsP o.sp m⟩) :
    RnA s l bs (y.o o (tAt bs (n + 1))) (evs ++ [⟨y.pe, y.ce, y.es⟩]) (ts ++ [tAt bs (n + 1)]) (n + 1) := by
  obtain ⟨h1, h2, h3, h4, h5⟩ := h
  obtain ⟨k1, k2, k3⟩ := hy
  have hxd : bs.getD n ⟨0, 0, 0, true⟩ = x := by rw [List.getD_eq_getElem?_getD, hx]; rfl
  subst hm
  rw [h2] at k2 k3
  refine ⟨by rw [stB_snoc, hxd]; exact k2, h2, ?_, by rw [h4, tmB_snoc], ?_⟩
  · rw [List.map_append, h3, evB_snoc, hxd]
    congr 1
    show [y.es] = _
    rw [k3, n_eq h1.wf, h2]
    congr 3
    rw [← h2]; rfl
  · obtain ⟨_, p, c, q, e1, e2⟩ := k1
    show (o.lg ++ [y.lg]).map LgM.ent = _
    rw [List.map_append, h5, lgB_snoc, hxd, e1]
    show _ ++ [Ent.st _ (q.map CP.c)] = _
    rw [e2]

set_option maxRecDepth 20000 in
theorem run_c (g : Grid) (rgs : List RG) (pg : Option Addr) (cg : Nat) (a b d : Int) (s : Sp) (l : List CP) (pl : Option Addr) (cl : Nat) (bs : List BtM) (pb : Option Addr) (cb : Nat) (w : World) (hse : s = ⟨g, rgs.map RG.r, a, b, d⟩) (hs : specE s = 0) (hrl : rgs.length < 1000000000000) (hrg : Regs w pg rgs) (hll : l.length < 1000000) (hl : Clouds w pl l) (hbl : bs.length ≤ 200) (hb : BtsM w pb bs) (hlook : ∀ x, x ∈ bs → lookE s.g (beatL x (l.map CP.c)) = 0) :
  Calls Try.prog 21 #[specV g pg rgs.length cg a b d, .slice pl l.length cl, .slice pb bs.length cb] w fun e w' => ∃ y : RnY, RnP s (l.map CP.c) bs y ∧ e = .returned (.tuple #[ptrN y.o.b, .slice y.pe y.evs.length y.ce, .slice y.pt y.ts.length y.ct, .bool true]) ∧ St (Go.SL.bs w) (offR y.o ++ [own 60 1 y.pe y.ce (y.evs.map rowC), bagR 62 7 evC y.evs, own 3 1 y.pt y.ct (y.ts.map iC)]) w' := by
  have hbs := hb.ok
  have htb := tAt_bd hbs
  refine enter (vs := [_, _, _]) (env := [(0, _), (1, _), (2, _)]) Try.func21 rfl rfl rfl rfl ?_
  refine VC.seq ?_
  refine VC.reg (VO.h rfl <| HO.box (C := #[_, _, _, _, _, _, _, _, _]) rfl rfl fun b1 => VO.l (LO.as (.r rfl)) rfl <| VO.l (LO.as (.r rfl)) rfl <| VO.l (LO.as (.r rfl)) rfl <| VO.l (LO.as (.r rfl)) rfl <| VO.nil ?_)
  refine VE.seqN ?_
  refine VC.seq ?_
  refine VC.reg (VO.l (LO.lda (vs := [_, _, _, _, _, _, _, _, _]) A28 (.r rfl) (fun _ hw => cells_at hw 0 rfl ⟨_, rfl⟩) rfl) rfl <| VO.h rfl <| HO.callx (xs := [_]) (vs := [_]) C26 ⟨(.r rfl), trivial⟩ (fun w hw => New_c g rgs pg cg a b d w hrl (hrg.keep hw) (by rw [← hse]; exact hs)) fun o hn => VO.h rfl <| HO.lo (LO.mv (.r rfl)) <| VO.h rfl <| HO.lo (LO.ex (.r rfl) rfl) <| VO.h rfl <| HO.lo (LO.ex (.r rfl) rfl) <| VO.h rfl <| HO.lo (LO.as (.r rfl)) <| VO.h rfl <| HO.lo (LO.as (.r rfl)) <| VO.nil ?_)
  refine VE.seqN ?_
  refine VC.seq ?_
  refine VC.seq ?_
  refine VC.reg (VO.l (LO.mv (.r rfl)) rfl <| VO.l (LO.ne (.r rfl) (.r rfl)) rfl <| VO.nil ?_)
  refine VE.seqN ?_
  refine VC.cond rfl (fun h24 => ?_) (fun h24 => ?_)
  ·
    (exfalso; exact h24 rfl)
  ·
    refine VC.skip (VE.seqN ?_)
    refine VC.seq ?_
    refine VC.reg (VO.l (LO.as (.r rfl)) rfl <| VO.nil ?_)
    refine VE.seqN ?_
    refine VC.seq ?_
    refine VC.reg (VO.l (LO.as (.r rfl)) rfl <| VO.nil ?_)
    refine VE.seqN ?_
    refine VC.seq ?_
    refine VC.reg (VO.l (LO.as (.r rfl)) rfl <| VO.nil ?_)
    refine VE.seqN ?_
    refine VC.seq ?_
    refine VC.seq ?_
    refine VC.reg (VO.l (LO.as (.r rfl)) rfl <| VO.nil ?_)
    refine VE.seqN ?_
    refine VC.block ?_
    refine VC.loopK (α := Nat × OfM × (List (RowA Ev)) × (Option Addr) × Nat × (List Int) × (Option Addr) × Nat) 10 (fun gx => [(12, .int .i64 (tAt bs gx.1)), (13, .slice gx.2.2.2.1 gx.2.2.1.length gx.2.2.2.2.1), (14, .slice gx.2.2.2.2.2.2.1 gx.2.2.2.2.2.1.length gx.2.2.2.2.2.2.2), (15, .int .i64 (gx.1 : Nat))]) [(1, _), (2, _), (10, _)] (fun gx => [OfM.blk gx.2.1, OfM.rgR gx.2.1, OfM.pxB gx.2.1, OfM.rcR gx.2.1, OfM.rcB gx.2.1, OfM.tsR gx.2.1, OfM.csR gx.2.1, OfM.csB gx.2.1, OfM.lgR gx.2.1, OfM.lgB gx.2.1, own 60 1 gx.2.2.2.1 gx.2.2.2.2.1 (gx.2.2.1.map rowC), bagR 62 7 evC gx.2.2.1, own 3 1 gx.2.2.2.2.2.2.1 gx.2.2.2.2.2.2.2 (gx.2.2.2.2.2.1.map iC)]) (fun gx => gx.1 ≤ bs.length ∧ gx.2.1.b = o.b ∧ RnA s (l.map CP.c) bs gx.2.1 gx.2.2.1 gx.2.2.2.2.2.1 gx.1) (fun gx => bs.length - gx.1) (0, o, [], none, 0, [], none, 0) (by exact ⟨Nat.zero_le _, rfl, sim_new hn (by rw [← hse]; exact hs) (fun x hx => (hrg.ok x hx).2), (by rw [hse]; obtain ⟨h1, h2, h3, h4, _, _, _, _, h8, _⟩ := hn; unfold OfM.sp; rw [h1, h2, h3, h4, h8]), rfl, rfl, (by obtain ⟨_, _, _, _, _, _, h7, _⟩ := hn; rw [h7]; rfl)⟩) (.cons rfl (.cons rfl (.cons rfl (.cons rfl (.cons rfl (.cons rfl (.cons rfl .nil))))))) (fun _ h => ((((h.ownNil 3 1).bagRNil 62 7 evC).ownNil 60 1)).sel [3, 4, 5, 6, 7, 8, 9, 10, 11, 12, 0, 1, 2, 13] rfl) ?_
    rintro ⟨i, o_, evs, pe_, ce_, ts, pt_, ct_⟩ ⟨hi, hob, hR⟩
    show VC _ _ _ _ _ ([(12, .int .i64 (tAt bs i)), (13, .slice pe_ evs.length ce_), (14, .slice pt_ ts.length ct_), (15, .int .i64 (i : Nat))] ++ _) ([OfM.blk o_, OfM.rgR o_, OfM.pxB o_, OfM.rcR o_, OfM.rcB o_, OfM.tsR o_, OfM.csR o_, OfM.csB o_, OfM.lgR o_, OfM.lgB o_, own 60 1 pe_ ce_ (evs.map rowC), bagR 62 7 evC evs, own 3 1 pt_ ct_ (ts.map iC)] ++ _) _ _
    dsimp only at hi hob hR
    rw [← hob]
    have hel : evs.length = i := by rw [← List.length_map (f := RowA.l), hR.2.2.1]; simp [evB]
    have htl : ts.length = i := by rw [hR.2.2.2.1]; simp [tmB]
    refine VC.seq ?_
    refine VC.seq ?_
    refine VC.reg (VO.l (LO.mv (.r rfl)) rfl <| VO.l (LO.mv (.r rfl)) rfl <| VO.l (LO.len S50 (.r rfl) rfl) rfl <| VO.l (LO.lt (.r rfl) (.r rfl)) rfl <| VO.nil ?_)
    refine VE.seqN ?_
    refine VC.cond rfl (fun h28 => ?_) (fun h28 => ?_)
    ·
      obtain ⟨x, hx⟩ : ∃ x, bs[i]? = some x := ⟨_, List.getElem?_eq_getElem (by omega)⟩
      have hxm : x ∈ bs := List.mem_of_getElem? hx
      have hxo := hbs x hxm
      have hla : 0 ≤ x.la ∧ x.la ≤ 65535 := hxo.1
      have htm := tm hla.1 (show (0 : Int) < 500 by decide)
      have hT := tAt_s hx
      have htb1 := htb i (by omega)
      have htb2 := htb (i + 1) (by omega)
      refine VC.skip (VE.seqN ?_)
      refine VC.seq ?_
      refine VC.block ?_
      refine VC.seq ?_
      refine VC.reg (VO.l (LO.mv (.r rfl)) rfl <| VO.l (LO.mv (.r rfl)) rfl <| VO.l (LO.mv (.r rfl)) rfl <| VO.l (LO.ixs S50 N66 hb.rows.sm (.r rfl) (.r rfl) rfl (by omega)) rfl <| VO.l (LO.fa F66_0 (.r rfl) rfl) rfl <| VO.l (LO.ld O46 (.r rfl) (fun w hw => cells_part (off := 0) ((fun w2 hw2 => (hb.rows.keep w2 hw2).cells _ _ (by rw [List.getElem?_map, hx]; rfl)) w hw) ⟨_, rfl⟩)) rfl <| VO.l (LO.cv ⟨_, Try.underlying46⟩ Try.underlying3 (.r rfl) (wi (by omega) (by omega))) rfl <| VO.l (LO.rem (.r rfl) (.r rfl) (by decide)) rfl <| VO.l (LO.add (.r rfl) (.r rfl) (wi (by omega) (by omega))) rfl <| VO.l (LO.add (.r rfl) (.r rfl) ((wi (by omega) (by omega)).trans hT.symm)) rfl <| VO.l (LO.as (.r rfl)) rfl <| VO.nil ?_)
      refine VE.seqN ?_
      refine VC.seq ?_
      refine VC.reg (VO.l (LO.mv (.r rfl)) rfl <| VO.l (LO.mv (.r rfl)) rfl <| VO.l (LO.mv (.r rfl)) rfl <| VO.l (LO.mv (.r rfl)) rfl <| VO.l (LO.ixs S50 N66 hb.rows.sm (.r rfl) (.r rfl) rfl (by omega)) rfl <| VO.l (LO.lda (vs := [_, _, _, _]) A66 (.r rfl) (fun w hw => cells_part (off := 0) ((fun w2 hw2 => (hb.rows.keep w2 hw2).cells _ _ (by rw [List.getElem?_map, hx]; rfl)) w hw) ⟨_, rfl⟩) rfl) rfl <| VO.l (LO.mv (.r rfl)) rfl <| VO.h rfl <| HO.callx (xs := [_, _]) (vs := [_, _]) C23 ⟨(.r rfl), (.r rfl), trivial⟩ (fun w hw => beat_c x l pl cl w hll (hbs x hxm) (hl.keep w hw)) fun qb hqb => VO.h rfl <| HO.callP (first := []) (cap := []) (xs := [_, _, _]) (vs := [_, _, _]) [_, _, _, _, _, _, _, _, _, _] [_, _, _, _, _] (selK (L1 := [_, _, _, _, _, _, _, _, _, _] ++ [_, _, _, _, _]) [1, 2, 3, 4, 5, 6, 7, 8, 9, 10, 0, 11, 12, 13, 14] rfl rfl) (.r rfl) C27 ⟨(.r rfl), (.r rfl), (.r rfl), trivial⟩ (fun w hw hh => Step_s o_ _ (tAt bs (i + 1)) qb.2 qb.1.1 qb.1.2 w hh (fun hs => clouds_rest hl hqb.2.2 (selK (L1 := offR o_ ++ [_]) [1, 2, 3, 4, 5, 6, 7, 8, 9, 10, 0] rfl rfl w hw) hs) (by omega) hR.1 (by omega) (by omega) (late_stB hR.1.ts hbs (by omega)) (by rw [← List.length_map (f := LgM.ent), hR.2.2.2.2]; simp [lgB]; omega) (by rw [hqb.1, show o_.g = s.g from congrArg Sp.g hR.2.1]; exact hlook x hxm)) fun y hy => VO.h rfl <| HO.lo (LO.mv (.r rfl)) <| VO.h rfl <| HO.lo (LO.ex (.r rfl) rfl) <| VO.h rfl <| HO.lo (LO.ex (.r rfl) rfl) <| VO.h rfl <| HO.lo (LO.as (.r rfl)) <| VO.h rfl <| HO.lo (LO.as (.r rfl)) <| VO.nil ?_)
      refine VE.seqN ?_
      refine VC.seq ?_
      refine VC.seq ?_
      refine VC.reg (VO.l (LO.mv (.r rfl)) rfl <| VO.l (LO.ne (.r rfl) (.r rfl)) rfl <| VO.nil ?_)
      refine VE.seqN ?_
      refine VC.cond rfl (fun h54 => ?_) (fun h54 => ?_)
      ·
        (exfalso; exact h54 rfl)
      ·
        refine VC.skip (VE.seqN ?_)
        refine VC.reg (VO.l (LO.mv (.r rfl)) rfl <| VO.l (LO.mv (.r rfl)) rfl <| VO.h rfl <| HO.bs (ps := [(_, _)]) (vs := [(_, _)]) (Z := [_]) (C := [_]) S54 Z60 N60 ⟨(.r rfl), trivial⟩ rfl rfl rfl rfl ⟨_, [_], [_], rfl, rfl, rfl, rfl, rfl⟩ fun b27 => VO.h rfl <| HO.appT ((⟨y.pe, y.ce, y.es⟩ : RowA Ev)) 13 0 (fun R => [_, _, _, _, _, _, _, _, _, _, _, _, _, R, _, _, _]) S54 S54 I60 (.r rfl) (.r rfl) rfl rfl rfl rfl rfl rfl rfl (fun _ => rfl) rfl (by omega) fun p3 c3 => VO.l (LO.mv (.r rfl)) rfl <| VO.l (LO.mv (.r rfl)) rfl <| VO.h rfl <| HO.bs (ps := [(_, _)]) (vs := [(_, _)]) (Z := [_]) (C := [_]) S55 Z3 N3 ⟨(.r rfl), trivial⟩ rfl rfl rfl rfl ⟨_, [_], [_], rfl, rfl, rfl, rfl, rfl⟩ fun b28 => VO.h rfl <| HO.appT ((tAt bs (i + 1))) 16 0 (fun R => [_, _, _, _, _, _, _, _, _, _, _, _, _, _, _, _, R, _]) S55 S55 I3 (.r rfl) (.r rfl) rfl rfl rfl rfl rfl rfl rfl (fun _ => rfl) rfl (by omega) fun p7 c7 => VO.h rfl <| HO.lo (LO.as (.r rfl)) <| VO.h rfl <| HO.lo (LO.as (.r rfl)) <| VO.nil ?_)
        refine VE.inN (VE.seqN ?_)
        refine VC.reg (VO.l (LO.mv (.r rfl)) rfl <| VO.l (LO.add (.r rfl) (.r rfl) (wi (by omega) (by omega))) rfl <| VO.l (LO.as (.r rfl)) rfl <| VO.nil ?_)
        refine VE.thenN fun a w ha hw => ⟨(i + 1, y.o o_ (tAt bs (i + 1)), evs ++ [(⟨y.pe, y.ce, y.es⟩ : RowA Ev)], p3, c3, ts ++ [tAt bs (i + 1)], p7, c7), ⟨by dsimp only; omega, rfl, rn_step hR hx hqb.1 hy⟩, (by dsimp only; omega), ha.sub (.cons rfl (.cons rfl (.cons rfl (.cons rfl (.cons rfl (.cons rfl (.cons rfl .nil))))))), (by exact selK (L1 := [_, _, _, _, _, _, _, _, _, _, _, _, _, _]) [1, 2, 3, 4, 5, 6, 7, 8, 9, 10, 11, 0, 12, 13] rfl rfl _ (St.bagRIn (x := (⟨y.pe, y.ce, y.es⟩ : RowA Ev)) (selK (L1 := [_, _, _, _, _, _, _, _, _, _, _, _, _, _, _]) [2, 15, 3, 4, 5, 6, 7, 8, 9, 10, 11, 12, 14, 16, 17] rfl rfl _ hw)))⟩
    ·
      refine VC.exit (VE.thenX (VE.thenX (VE.inX (VE.seqN ?_))))
      refine VC.seq ?_
      refine VC.reg (VO.l (LO.mv (.r rfl)) rfl <| VO.l (LO.mv (.r rfl)) rfl <| VO.l (LO.mv (.r rfl)) rfl <| VO.l (LO.as (.r rfl)) rfl <| VO.l (LO.as (.r rfl)) rfl <| VO.l (LO.as (.r rfl)) rfl <| VO.l (LO.as (.r rfl)) rfl <| VO.nil ?_)
      refine VE.seqN ?_
      refine VC.ret (VE.res (vs := [_, _, _, _]) rfl ⟨rfl, rfl, rfl, rfl, trivial⟩ (fun w hw => ?_))
      have hi2 : i = bs.length := by omega
      subst hi2
      exact ⟨⟨o_, evs, pe_, ce_, ts, pt_, ct_⟩, hR, rfl, selK (L1 := offR o_ ++ [_, _, _]) [0, 1, 2, 3, 4, 5, 6, 7, 8, 9, 10, 11, 12] rfl rfl _ hw⟩

end Go.Proofs.Ytdjflomhaljljaa

namespace Go.Proofs.Ytdjflomhaljljaa
open Go.SL Go.Proofs Go.Cast
set_option linter.unusedVariables false

/-! ### What IssueNumbered rests on -/
theorem foldl_max_le : ∀ (l : List Rch) (m b : Int), m ≤ b → (∀ x, x ∈ l → x.lv ≤ b) → l.foldl (fun m x => max m x.lv) m ≤ b
  | [], m, b, h, _ => h
  | x :: l, m, b, h, hl => foldl_max_le l (max m x.lv) b (by have := hl x (by simp); omega) (fun y hy => hl y (by simp [hy]))
theorem foldl_max_mem : ∀ (l : List Rch) (m : Int) {x : Rch}, x ∈ l → x.lv ≤ l.foldl (fun m x => max m x.lv) m
  | y :: l, m, x, h => by
    rcases List.mem_cons.1 h with rfl | q
    · have := foldl_max_ge l (max m x.lv)
      simp only [List.foldl_cons]; omega
    · exact foldl_max_mem l _ q
theorem maxLv_le {l : List Rch} {b : Int} (h : 0 ≤ b) (hl : ∀ x, x ∈ l → x.lv ≤ b) : maxLv l ≤ b := foldl_max_le l 0 b h hl
theorem maxLv_mem {l : List Rch} {x : Rch} (h : x ∈ l) : x.lv ≤ maxLv l := foldl_max_mem l 0 h
theorem keep_mem {T H : Int} {l : List Rch} {x : Rch} : x ∈ keepR T H l ↔ x ∈ l ∧ T - H ≤ x.t := by
  unfold keepR oldR
  simp [List.mem_filter]
theorem histR_mem {k : Nat} {st : List Stp} {x : Rch} : x ∈ histR k st ↔ ∃ s, s ∈ st ∧ x = ⟨s.t, (s.th.getD k zT).lv⟩ := by
  unfold histR
  simp only [List.mem_map]
  constructor
  · rintro ⟨s, h1, h2⟩; exact ⟨s, h1, h2.symm⟩
  · rintro ⟨s, h1, h2⟩; exact ⟨s, h1, h2.symm⟩
/-- A step that is held counts. -/
theorem lvS_ge {H : Int} {k : Nat} {st : List Stp} {s : Stp} (hs : s ∈ st) (h : lastT st - H ≤ s.t) : (s.th.getD k zT).lv ≤ lvS H k st :=
  maxLv_mem (x := ⟨s.t, (s.th.getD k zT).lv⟩) (keep_mem.2 ⟨histR_mem.2 ⟨s, hs, rfl⟩, h⟩)
theorem lvS_le {H b : Int} {k : Nat} {st : List Stp} (hb : 0 ≤ b) (h : ∀ s, s ∈ st → lastT st - H ≤ s.t → (s.th.getD k zT).lv ≤ b) : lvS H k st ≤ b :=
  maxLv_le hb fun x hx => by
    obtain ⟨h1, h2⟩ := keep_mem.1 hx
    obtain ⟨s, h3, rfl⟩ := histR_mem.1 h1
    exact h s h3 h2
theorem thrP_nn {l pix : List Int} {x : Int} {a : Thr} (ha : 0 ≤ a.lv) : ∀ k, 0 ≤ (thrP l x pix a k).lv
  | 0 => ha
  | k + 1 => by
    have := thrP_nn (l := l) (pix := pix) (x := x) ha k
    unfold thrP
    split
    · show 0 ≤ l.getD _ 0; omega
    · exact this
theorem thr_nn {ls : List (List Int)} {pix : List Int} {b : Int} : 0 ≤ (thr ls pix b).lv := by
  have key : ∀ i, 0 ≤ (thrL ls pix b i).lv := by
    intro i
    induction i with
    | zero => exact Int.le_refl 0
    | succ i ih => exact thrP_nn ih _
  exact key _
/-- What arrays of a law say of levels and open warnings. -/
structure NumI (n : Nat) (lv : Nat → Int) (cs : List Cs) (le nu pe be : List Int) : Prop where
  l1 : le.length = n
  l2 : nu.length = n
  l3 : pe.length = n
  l4 : be.length = n
  le : ∀ j, j < n → le.getD j 0 = lv j
  op : ∀ j, j < n → lv j ≠ 0 → ∃ (i : Nat) (c : Cs), cs[i]? = some c ∧ opn j c = true ∧ nu.getD j 0 = c.nm ∧ pe.getD j 0 = c.pk ∧ be.getD j 0 = c.bg
end Go.Proofs.Ytdjflomhaljljaa

namespace Go.Proofs.Ytdjflomhaljljaa
open Go.SL Go.Proofs Go.Cast
set_option linter.unusedVariables false

/-! ### The steps of a draft -/
section
variable (d : DrM) (lc : List Cloud) (bs : List BtM) (i : Nat)
end
section
variable {d : DrM} {lc : List Cloud} {bs : List BtM} {i : Nat}
end

end Go.Proofs.Ytdjflomhaljljaa

namespace Go.Proofs.Ytdjflomhaljljaa
open Go.SL Go.Proofs Go.Cast
set_option linter.unusedVariables false

end Go.Proofs.Ytdjflomhaljljaa

namespace Go.Proofs.Ytdjflomhaljljaa
open Go.SL Go.Proofs Go.Cast
set_option linter.unusedVariables false



theorem cp_read {w : World} {l : List CP} (h : (bagD (l.flatMap cpR)).inv w) {x : CP} (hx : x ∈ l) : Ints w x.ps x.c.sure ∧ Ints w x.pm x.c.may :=
  ⟨own_inv_rows (h.1 (own 3 1 x.ps x.cs (x.c.sure.map iC)) (List.mem_flatMap.2 ⟨x, hx, .head _⟩)), own_inv_rows (h.1 (own 3 1 x.pm x.cm (x.c.may.map iC)) (List.mem_flatMap.2 ⟨x, hx, .tail _ (.head _)⟩))⟩
theorem clouds_all {w : World} {p : Option Addr} {c n : Nat} {l : List CP} {cl : List ClM} (hX : l.map CP.c = allL cl n) (hok : ∀ c, c ∈ cl → c.ok) (h1 : (own 80 7 p c (l.map CP.cells)).inv w) (h2 : (bagD (l.flatMap cpR)).inv w) : Clouds w p l := by
  refine ⟨own_inv_rows h1, fun x hx => ?_⟩
  have h3 := cp_read h2 hx
  have h4 : x.c ∈ allL cl n := by rw [← hX]; exact List.mem_map_of_mem hx
  obtain ⟨k, _, e, _⟩ := allL_ok hok n _ h4
  have l1 : x.c.sure.length ≤ 20 := by rw [e]; exact pxF_len
  have l2 : x.c.may.length ≤ 20 := by rw [e]; exact pxF_len
  exact ⟨h3.1, h3.2, by omega, by omega⟩
theorem dr_pix {d : DrM} {r : Reg} (h : r ∈ drRegs d 3) : (∀ n, n ∈ r.pix → 0 ≤ n ∧ n < 20) ∧ r.pix.length ≤ 20 := by
  obtain ⟨j, _, rfl, _⟩ := drRegs_mem h
  exact ⟨fun n hn => asc_dr.2 n hn, drPx_len⟩
theorem regs_frame {w : World} {p : Option Addr} {c : Nat} {rgs : List RG} {d : DrM} (hX : rgs.map RG.r = drRegs d 3) (h1 : (own 74 2 p c (rgs.map RG.cells)).inv w) (h2 : (bagD (rgs.map pixR)).inv w) : Regs w p rgs := by
  refine ⟨own_inv_rows h1, fun x hx => ⟨pix_read h2 hx, ?_⟩⟩
  have h4 : x.r ∈ drRegs d 3 := by rw [← hX]; exact List.mem_map_of_mem hx
  have := (dr_pix h4).2
  omega
def zCs : CsM := ⟨0, 0, 0, 0, 0, 0⟩
theorem getD_of {α : Type} {l : List α} {k : Nat} {x d : α} (h : l[k]? = some x) : l.getD k d = x := by rw [List.getD_eq_getElem?_getD, h]; rfl
theorem BtsM.keep {w0 w : World} {L : List Res} {p : Option Addr} {l : List BtM} (h : BtsM w0 p l) (hw : St (bs w0) L w) : BtsM w p l := ⟨h.rows.keep w hw, h.ok⟩
theorem DrM.len {d : DrM} (h : d.ok) : d.cells.length = 23 := by
  show (d.px.map u8V ++ _).length = 23
  rw [List.length_append, List.length_map, h.1]; rfl

end Go.Proofs.Ytdjflomhaljljaa

namespace Go.Proofs.Ytdjflomhaljljaa
open Go.SL Go.Proofs Go.Cast
set_option linter.unusedVariables false

section
variable {g : Grid} {c : Cloud} {p t : Int}
end
section
variable {g : Grid} {c : Cloud} {p t vx vy u v e : Int}
end
end Go.Proofs.Ytdjflomhaljljaa

namespace Go.Proofs.Ytdjflomhaljljaa
open Go.SL Go.Proofs Go.Cast
set_option linter.unusedVariables false

end Go.Proofs.Ytdjflomhaljljaa

namespace Go.Proofs.Ytdjflomhaljljaa
open Go.SL Go.Proofs Go.Cast
set_option linter.unusedVariables false

/-- What a threat is, by the states of its pixels: the level. -/
def ThG (ls : List (List Int)) (pix : List Int) (v : Int) (n k : Nat) : Prop := ∀ m j, (m < n ∧ j < pix.length) ∨ (m = n ∧ j < k) → (ls.getD m []).getD (pix.getD j 0).toNat 0 ≤ v
def ThA (ls : List (List Int)) (pix : List Int) (b : Int) (t : Thr) (n k : Nat) : Prop := (t.lv = 0 ∧ t.ld = -1 ∧ t.px = -1) ∨ (0 < t.lv ∧ ∃ m j : Nat, ((m < n ∧ j < pix.length) ∨ (m = n ∧ j < k)) ∧ t.ld = m * b ∧ t.px = pix.getD j 0 ∧ t.lv = (ls.getD m []).getD t.px.toNat 0)
theorem thP_all {ls : List (List Int)} {pix : List Int} {b : Int} {n : Nat} {a : Thr} (h : ThG ls pix a.lv n 0 ∧ ThA ls pix b a n 0 ∧ 0 ≤ a.lv) : ∀ k, k ≤ pix.length → ThG ls pix (thrP (ls.getD n []) (n * b) pix a k).lv n k ∧ ThA ls pix b (thrP (ls.getD n []) (n * b) pix a k) n k ∧ 0 ≤ (thrP (ls.getD n []) (n * b) pix a k).lv
  | 0, _ => h
  | k + 1, hk => by
    obtain ⟨h1, h2, h3⟩ := thP_all h k (by omega)
    unfold thrP
    generalize thrP (ls.getD n []) (n * b) pix a k = t at *
    by_cases q : t.lv < (ls.getD n []).getD (pix.getD k 0).toNat 0
    · rw [if_pos q]
      refine ⟨fun m j hmj => ?_, .inr ⟨by show 0 < (ls.getD n []).getD (pix.getD k 0).toNat 0; omega, n, k, .inr ⟨rfl, by omega⟩, rfl, rfl, rfl⟩, by show 0 ≤ (ls.getD n []).getD (pix.getD k 0).toNat 0; omega⟩
      show _ ≤ (ls.getD n []).getD (pix.getD k 0).toNat 0
      rcases hmj with z | ⟨rfl, z⟩
      · have := h1 m j (.inl z); omega
      · rcases Nat.lt_or_ge j k with y | y
        · have := h1 m j (.inr ⟨rfl, y⟩); omega
        · rw [show j = k by omega]; exact Int.le_refl _
    · rw [if_neg q]
      refine ⟨fun m j hmj => ?_, ?_, h3⟩
      · rcases hmj with z | ⟨rfl, z⟩
        · exact h1 m j (.inl z)
        · rcases Nat.lt_or_ge j k with y | y
          · exact h1 m j (.inr ⟨rfl, y⟩)
          · rw [show j = k by omega]; omega
      · rcases h2 with z | ⟨z, m, j, hmj, r⟩
        · exact .inl z
        · refine .inr ⟨z, m, j, ?_, r⟩
          rcases hmj with y | ⟨y, y2⟩
          · exact .inl y
          · exact .inr ⟨y, by omega⟩
theorem thL_all {ls : List (List Int)} {pix : List Int} {b : Int} : ∀ n, ThG ls pix (thrL ls pix b n).lv n 0 ∧ ThA ls pix b (thrL ls pix b n) n 0 ∧ 0 ≤ (thrL ls pix b n).lv
  | 0 => ⟨fun m j h => (by omega), .inl ⟨rfl, rfl, rfl⟩, Int.le_refl _⟩
  | n + 1 => by
    obtain ⟨h1, h2, h3⟩ := thP_all (thL_all (ls := ls) (pix := pix) (b := b) n) pix.length (Nat.le_refl _)
    unfold thrL
    refine ⟨fun m j h => ?_, ?_, h3⟩
    · refine h1 m j ?_
      rcases h with ⟨h, k⟩ | ⟨_, h⟩
      · rcases Nat.lt_or_ge m n with y | y
        · exact .inl ⟨y, k⟩
        · exact .inr ⟨by omega, k⟩
      · omega
    · rcases h2 with z | ⟨z, m, j, hmj, r⟩
      · exact .inl z
      · refine .inr ⟨z, m, j, .inl ?_, r⟩
        rcases hmj with y | ⟨y, y2⟩
        · exact ⟨by omega, y.2⟩
        · exact ⟨by omega, y2⟩
theorem thr_ge {ls : List (List Int)} {pix : List Int} {b : Int} {m j : Nat} (hm : m < ls.length) (hj : j < pix.length) : (ls.getD m []).getD (pix.getD j 0).toNat 0 ≤ (thr ls pix b).lv := (thL_all ls.length).1 m j (.inl ⟨hm, hj⟩)
theorem thr_att {ls : List (List Int)} {pix : List Int} {b : Int} : ((thr ls pix b).lv = 0 ∧ (thr ls pix b).ld = -1 ∧ (thr ls pix b).px = -1) ∨ (0 < (thr ls pix b).lv ∧ ∃ m j : Nat, m < ls.length ∧ j < pix.length ∧ (thr ls pix b).ld = m * b ∧ (thr ls pix b).px = pix.getD j 0 ∧ (thr ls pix b).lv = (ls.getD m []).getD (thr ls pix b).px.toNat 0) := by
  rcases (thL_all (ls := ls) (pix := pix) (b := b) ls.length).2.1 with z | ⟨z, m, j, hmj, r⟩
  · exact .inl z
  · refine .inr ⟨z, m, j, ?_, ?_, r⟩
    · omega
    · omega
theorem fold_ge {f : Cloud → Int} : ∀ (l : List Cloud) (m : Int), m ≤ l.foldl (fun m c => max m (f c)) m
  | [], m => Int.le_refl _
  | x :: l, m => by have := fold_ge (f := f) l (max m (f x)); simp only [List.foldl_cons]; omega
theorem fold_mem {f : Cloud → Int} : ∀ (l : List Cloud) (m : Int) {x : Cloud}, x ∈ l → f x ≤ l.foldl (fun m c => max m (f c)) m
  | y :: l, m, x, h => by
    rcases List.mem_cons.1 h with rfl | q
    · have := fold_ge (f := f) l (max m (f x)); simp only [List.foldl_cons]; omega
    · exact fold_mem l _ q
theorem fold_att {f : Cloud → Int} : ∀ (l : List Cloud) (m : Int), l.foldl (fun m c => max m (f c)) m = m ∨ ∃ x, x ∈ l ∧ f x = l.foldl (fun m c => max m (f c)) m
  | [], m => .inl rfl
  | x :: l, m => by
    rcases fold_att (f := f) l (max m (f x)) with h | ⟨y, h, k⟩
    · simp only [List.foldl_cons]
      rw [h]
      rcases Int.le_total m (f x) with q | q
      · exact .inr ⟨x, by simp, by omega⟩
      · exact .inl (by omega)
    · exact .inr ⟨y, by simp [h], k⟩
section
variable {l : List Cloud} {a b : Int} {m : Nat}
theorem stateAll_ge {g : Grid} {t p : Int} {c : Cloud} (h : c ∈ l) : stateOf g c p t ≤ stateAll g l t p := fold_mem l 0 h
theorem stateAll_att {g : Grid} {t p : Int} (h : stateAll g l t p ≠ 0) : ∃ c, c ∈ l ∧ stateOf g c p t = stateAll g l t p := by
  rcases fold_att (f := fun c => stateOf g c p t) l 0 with q | q
  · exact absurd q h
  · exact q
theorem atE_t {t : Int} (h : lookE gD l = 0) (h1 : 0 ≤ t) (h2 : t ≤ 7200) : atE gD l t = 0 := by
  unfold lookE at h
  unfold atE at *
  split at h
  · omega
  · rename_i q1
    rw [if_neg q1]
    split at h
    · omega
    · rename_i q2
      rw [if_neg q2]
      split at h
      · rename_i q3; exact absurd h q3
      · rename_i q3
        rw [if_neg q3, if_neg (fun k => k ⟨h1, h2⟩)]
theorem atL_get {t p : Int} (h : atE gD l t = 0) (hp : 0 ≤ p ∧ p < 20) : (atL gD l t).getD p.toNat 0 = stateAll gD l t p := by
  unfold atL
  rw [if_neg (fun k => k h), List.getD_eq_getElem?_getD, List.getElem?_map, List.getElem?_range (by show p.toNat < ((5 : Int) * 4).toNat; omega)]
  show stateAll gD l t ((p.toNat : Nat) : Int) = _
  rw [show ((p.toNat : Nat) : Int) = p by omega]
theorem lookD_len (h : lookE gD l = 0) : (lookL gD l a b).length = lookN a b := by unfold lookL; rw [if_neg (fun k => k h), lookI_len]
theorem lookD_get (h : lookE gD l = 0) (hm : m < lookN a b) : (lookL gD l a b).getD m [] = atL gD l (m * b) := by
  unfold lookL
  rw [if_neg (fun k => k h)]
  unfold lookI
  rw [List.getD_eq_getElem?_getD, List.getElem?_map, List.getElem?_range hm]; rfl
end
/-- The threat of a region with some clouds. -/
def thS (l : List Cloud) (a b : Int) (pix : List Int) : Thr := thr (lookL gD l a b) pix b
section
variable {l : List Cloud} {a b : Int} {pix : List Int} {m j : Nat} {c : Cloud}
end
/-! levels at the times of steps -/
theorem kAt_inc {ts : List Int} (h : ts.Pairwise (· < ·)) {j : Nat} (hj : j < ts.length) : kAt ts (ts.getD j 0) = j + 1 := by
  have hm : ts.getD j 0 = ts[j] := by rw [List.getD_eq_getElem?_getD, List.getElem?_eq_getElem hj]; rfl
  have e : ts = ts.take j ++ ts[j] :: ts.drop (j + 1) := by rw [List.getElem_cons_drop, List.take_append_drop]
  have hlt : ∀ x, x ∈ ts.take j → x < ts[j] := fun x hx => by
    rw [e] at h
    exact (List.pairwise_append.1 h).2.2 x hx _ (List.mem_cons_self ..)
  have hgt : ∀ x, x ∈ ts.drop (j + 1) → ts[j] < x := fun x hx => by
    rw [e] at h
    exact (List.pairwise_cons.1 (List.pairwise_append.1 h).2.1).1 x hx
  have c1 : (ts.take j).countP (fun t => decide (t < ts[j])) = j := by
    rw [List.countP_eq_length.2 (fun x hx => by simpa using hlt x hx), List.length_take]; omega
  have c2 : (ts.drop (j + 1)).countP (fun t => decide (t < ts[j])) = 0 := List.countP_eq_zero.2 (fun x hx => by have := hgt x hx; simp; omega)
  unfold kAt
  rw [hm, if_pos (by simp)]
  have c3 : ts.countP (fun t => decide (t < ts[j])) = (ts.take j ++ ts[j] :: ts.drop (j + 1)).countP (fun t => decide (t < ts[j])) := congrArg (List.countP _) e
  rw [c3, List.countP_append, List.countP_cons, c1, c2]
  simp
theorem at_sim {o : OfM} {st : List Stp} (h : SimO o st) {j k : Nat} (hj : j < st.length) (hk : k < o.rc.length) : (atsL o (o.ts.getD j 0)).getD k 0 = lvS o.hold k (st.take (j + 1)) := by
  have hl : o.ts.length = st.length := by rw [h.ts]; simp
  unfold atsL
  rw [List.getD_eq_getElem?_getD, List.getElem?_map, List.getElem?_eq_getElem hk]
  show atLv o.ts (o.rc[k]).lv _ = _
  unfold atLv
  rw [kAt_inc h.inc (by omega), if_neg (by omega), (h.rcs k _ (List.getElem?_eq_getElem hk)).2.1]
  unfold lvL
  rw [List.getD_eq_getElem?_getD, List.getElem?_map, List.getElem?_range (by omega)]; rfl
end Go.Proofs.Ytdjflomhaljljaa

namespace Go.Proofs.Ytdjflomhaljljaa
open Go.SL Go.Proofs Go.Cast
set_option linter.unusedVariables false

/-! services -/
theorem regs_zero {d : DrM} {regs : List Reg} (h : ∀ r, r ∈ regs → r ∈ drRegs d 3) (pw : regs.Pairwise fun r s => r.name ≠ s.name) : firstE (regE gD regs) regs.length = 0 := by
  refine firstE_zero fun k hk => ?_
  obtain ⟨j, h1, h2, h3⟩ := drRegs_mem (h _ (getD_mem (d := default) hk))
  unfold regE
  rw [if_neg, if_neg, h2]
  · unfold pixE
    rw [if_neg h3]
    exact mayE_asc asc_dr
  · intro q
    unfold metB at q
    rw [List.any_eq_true] at q
    obtain ⟨r, hr, e⟩ := q
    obtain ⟨i, hi⟩ := List.mem_iff_getElem?.1 hr
    rw [List.getElem?_take] at hi
    split at hi
    · rename_i q
      obtain ⟨z1, z2⟩ := List.getElem?_eq_some_iff.1 hi
      have := List.pairwise_iff_getElem.1 pw i k z1 hk q
      rw [z2] at this
      have e2 : regs.getD k default = regs[k] := by rw [List.getD_eq_getElem?_getD, List.getElem?_eq_getElem hk]; rfl
      exact this (by rw [← e2]; exact (of_decide_eq_true e).symm)
    · cases hi
  · intro q
    rw [h2] at q
    exact q (nmS_ok h1)
theorem spec_any {d : DrM} {regs : List Reg} {a b c : Int} (h : ∀ r, r ∈ regs → r ∈ drRegs d 3) (pw : regs.Pairwise fun r s => r.name ≠ s.name) (hne : regs ≠ []) (hlen : regs.length ≤ 32) (ha : 0 ≤ a ∧ a ≤ 7200) (hb : 30 ≤ b ∧ b ≤ 3600) (hc : 0 ≤ c ∧ c ≤ 86400) : specE ⟨gD, regs, a, b, c⟩ = 0 := by
  unfold specE
  dsimp only
  rw [if_neg (fun q => q (by decide)), if_neg hne, if_neg (by omega), if_neg (fun q => q (regs_zero h pw)), if_neg (fun q => q ⟨ha, hb, hc⟩)]

/-! threats -/
theorem stateAll_mono {g : Grid} {l l' : List Cloud} {t p : Int} (h : ∀ c, c ∈ l → c ∈ l') : stateAll g l t p ≤ stateAll g l' t p := by
  by_cases q : stateAll g l t p = 0
  · rw [q]; exact fold_ge (f := fun c => stateOf g c p t) l' 0
  · obtain ⟨c, hc, e⟩ := stateAll_att q
    rw [← e]; exact stateAll_ge (h c hc)
section
variable {l l' : List Cloud} {a a' b : Int} {pix : List Int}
theorem thS_mono (h : lookE gD l = 0) (h' : lookE gD l' = 0) (hs : ∀ c, c ∈ l → c ∈ l') (ha : 0 ≤ a) (haa : a ≤ a') (ha' : a' ≤ 7200) (hb : 30 ≤ b) (hp : ∀ n, n ∈ pix → 0 ≤ n ∧ n < 20) : (thS l a b pix).lv ≤ (thS l' a' b pix).lv := by
  unfold thS
  rcases thr_att (ls := lookL gD l a b) (pix := pix) (b := b) with ⟨e1, _⟩ | ⟨_, m, j, hm, hj, e1, e2, e3⟩
  · rw [e1]; exact thr_nn
  · rw [lookD_len h] at hm
    have hm2 := (look_lt ha hb).2 hm
    have hm3 := (look_lt (a := a') (by omega) hb (i := m)).1 (by omega)
    have h0 : 0 ≤ (m : Int) * b := Int.mul_nonneg (by omega) (by omega)
    have hpj : 0 ≤ (thr (lookL gD l a b) pix b).px ∧ (thr (lookL gD l a b) pix b).px < 20 := by rw [e2]; exact hp _ (getD_mem hj)
    rw [lookD_get h hm, atL_get (atE_t h h0 (by omega)) hpj] at e3
    have z := thr_ge (ls := lookL gD l' a' b) (pix := pix) (b := b) (m := m) (j := j) (by rw [lookD_len h']; exact hm3) hj
    rw [lookD_get h' hm3, ← e2, atL_get (atE_t h' h0 (by omega)) hpj] at z
    rw [e3]
    exact Int.le_trans (stateAll_mono hs) z
end
/-- The steps of a service, whatever the clouds. -/
def stG (s : Sp) (f : Nat → List Cloud) (bs : List BtM) (n : Nat) : List Stp := (List.range n).map fun i => ⟨tAt bs (i + 1), thsP s (f i)⟩
section
variable {s s' : Sp} {f f' : Nat → List Cloud} {bs : List BtM} {n : Nat}
theorem stG_snoc : stG s f bs (n + 1) = stG s f bs n ++ [⟨tAt bs (n + 1), thsP s (f n)⟩] := by unfold stG; rw [List.range_succ, List.map_append]; rfl
theorem stG_len : (stG s f bs n).length = n := by simp [stG]
theorem stG_ts : (stG s f bs n).map Stp.t = tmB bs n := by unfold stG tmB; rw [List.map_map]; rfl
theorem stG_take {m : Nat} (h : m ≤ n) : (stG s f bs n).take m = stG s f bs m := by
  unfold stG
  rw [← List.map_take, List.take_range, Nat.min_eq_left h]
theorem stG_last : lastT (stG s f bs n) = lastT (stG s' f' bs n) := by
  cases n with
  | zero => rfl
  | succ n => rw [stG_snoc, stG_snoc, lastT_snoc, lastT_snoc]
theorem stG_mem {x : Stp} : x ∈ stG s f bs n ↔ ∃ i, i < n ∧ x = ⟨tAt bs (i + 1), thsP s (f i)⟩ := by
  unfold stG
  simp only [List.mem_map, List.mem_range]
  constructor
  · rintro ⟨i, h1, h2⟩; exact ⟨i, h1, h2.symm⟩
  · rintro ⟨i, h1, h2⟩; exact ⟨i, h1, h2.symm⟩
theorem lvS_mono {H H' : Int} {k k' : Nat} (hH : H ≤ H') (h : ∀ i, i < n → ((thsP s (f i)).getD k zT).lv ≤ ((thsP s' (f' i)).getD k' zT).lv) : lvS H k (stG s f bs n) ≤ lvS H' k' (stG s' f' bs n) :=
  lvS_le lvS_nn fun x hx ht => by
    obtain ⟨i, hi, rfl⟩ := stG_mem.1 hx
    have e := stG_last (s := s) (s' := s') (f := f) (f' := f') (bs := bs) (n := n)
    have z := lvS_ge (H := H') (k := k') (st := stG s' f' bs n) (s := ⟨tAt bs (i + 1), thsP s' (f' i)⟩) (stG_mem.2 ⟨i, hi, rfl⟩) (by
      dsimp only at ht ⊢; omega)
    have := h i hi
    dsimp only at z ⊢
    omega
end
theorem ths_any {regs : List Reg} {a b c : Int} {l : List Cloud} {k : Nat} (hk : k < regs.length) : (thsP ⟨gD, regs, a, b, c⟩ l).getD k zT = thS l a b (regs.getD k default).pix := by
  unfold thsP thS
  rw [List.getD_eq_getElem?_getD, List.getElem?_map]
  dsimp only
  rw [List.getElem?_eq_getElem hk, List.getD_eq_getElem?_getD, List.getElem?_eq_getElem hk]; rfl
/-- An office that has made the first steps of a service. -/
def GrI (s : Sp) (f : Nat → List Cloud) (bs : List BtM) (o : OfM) (n : Nat) : Prop := SimO o (stG s f bs n) ∧ o.sp = s ∧ o.lg.length = n
section
variable {s s' : Sp} {f f' : Nat → List Cloud} {bs : List BtM} {o : OfM} {n : Nat}
theorem gr_ts (h : GrI s f bs o n) : o.ts = tmB bs n := by rw [h.1.ts, stG_ts]
theorem gr_hold (h : GrI s f bs o n) : o.hold = s.hold := congrArg Sp.hold h.2.1
theorem gr_g (h : GrI s f bs o n) : o.g = s.g := congrArg Sp.g h.2.1
theorem gr_n (h : GrI s f bs o n) : o.rc.length = s.regs.length := by rw [n_eq h.1.wf, h.2.1]
theorem gr_step {m : List Cloud} {y : StepY} (h : GrI s f bs o n) (hm : m = f n) (hy : StepP o (tAt bs (n + 1)) m y ∧ SimO (y.o o (tAt bs (n + 1))) (stG s f bs n ++ [⟨tAt bs (n + 1), thsP o.sp m⟩]) ∧ y.es = evF o.hold o.rc.length (stG s f bs n) ⟨tAt bs (n + 1), thsP o.sp m⟩) : GrI s f bs (y.o o (tAt bs (n + 1))) (n + 1) := by
  obtain ⟨h1, h2, h3⟩ := h
  obtain ⟨k1, k2, _⟩ := hy
  subst hm
  rw [h2] at k2
  exact ⟨by rw [stG_snoc]; exact k2, h2, by show (o.lg ++ [y.lg]).length = _; rw [List.length_append, h3]; rfl⟩
theorem gr_late (h : GrI s f bs o n) (hb : ∀ b, b ∈ bs → b.ok) (hi : n < bs.length) : o.ts = [] ∨ lastI o.ts < tAt bs (n + 1) := late_stB (s := s) (l := []) (by rw [gr_ts h]; unfold stB tmB; rw [List.map_map]; rfl) hb hi
theorem gr_at (h : GrI s f bs o n) {j k : Nat} (hj : j < n) (hk : k < s.regs.length) : (atsL o (tAt bs (j + 1))).getD k 0 = lvS s.hold k (stG s f bs (j + 1)) := by
  have z := at_sim h.1 (j := j) (k := k) (by rw [stG_len]; exact hj) (by rw [gr_n h]; exact hk)
  rw [gr_ts h, gr_hold h, stG_take hj] at z
  have e : (tmB bs n).getD j 0 = tAt bs (j + 1) := by
    unfold tmB; rw [List.getD_eq_getElem?_getD, List.getElem?_map, List.getElem?_range hj]; rfl
  rw [e] at z
  exact z
theorem gr_csok (h : GrI s f bs o n) : CsOk s.regs.length (fun i => lvS s.hold i (stG s f bs n)) (o.cs.map CsM.p) := by
  have z := h.1.cs
  rw [gr_hold h, gr_n h] at z
  rw [z]
  refine csOk_all _ fun x hx => ?_
  have := h.1.tb x.t (by rw [h.1.ts]; exact List.mem_map_of_mem hx)
  unfold never; omega
theorem gr_cs (h : GrI s f bs o n) : o.cs.map CsM.p = csF s.hold s.regs.length (stG s f bs n) := by
  have z := h.1.cs
  rw [gr_hold h, gr_n h] at z
  exact z
end
/-- More clouds, and clouds in the opposite order. -/
def exL (mo : Int) (l : List Cloud) : List Cloud := if (0 : Int) < (l.length : Int) then [l.getD (btIx l.length mo) default] else []
def fA (bs : List BtM) (l : List Cloud) (i : Nat) : List Cloud := beatL (bs.getD i ⟨0, 0, 0, true⟩) l
def fC (bs : List BtM) (l : List Cloud) (i : Nat) : List Cloud := (fA bs l i).reverse
def fB (bs : List BtM) (l : List Cloud) (mo : Int) (i : Nat) : List Cloud := (fA bs l i).reverse ++ exL mo l
def bigSp (d : DrM) (lo ho : Int) : Sp := ⟨gD, drRegs d 3, drA d + drB d * lo.tmod 3, drB d, drC d + ho.tmod 400⟩
def trnSp (d : DrM) : Sp := ⟨gD, (drRegs d 3).reverse, drA d, drB d, drC d⟩
theorem gr_of {d : DrM} {l : List Cloud} {bs : List BtM} {y : RnY} (h : RnP (drSp d) l bs y) : GrI (drSp d) (fA bs l) bs y.o bs.length := by
  obtain ⟨h1, h2, _, _, h5⟩ := h
  exact ⟨h1, h2, by rw [← List.length_map (f := LgM.ent), h5]; simp [lgB]⟩
section
variable {d : DrM} {l : List Cloud} {bs : List BtM} {mo lo ho : Int} {i k : Nat}
theorem exL_mem (hm : 0 ≤ mo) {c : Cloud} (h : c ∈ exL mo l) : c ∈ l := by
  unfold exL at h
  split at h
  · rename_i q
    rw [List.mem_singleton.1 h]
    exact getD_mem (btIx_lt hm (by omega)).1
  · cases h
theorem fA_mem (hb : ∀ b, b ∈ bs → b.ok) (hi : i < bs.length) {c : Cloud} (h : c ∈ fA bs l i) : c ∈ l := beat_mem (hb _ (getD_mem hi)) c h
theorem fA_look (hb : ∀ b, b ∈ bs → b.ok) (hi : i < bs.length) (hl : ClsOk l) : lookE gD (fA bs l i) = 0 := beat_look (hb _ (getD_mem hi)) hl
theorem fC_look (hb : ∀ b, b ∈ bs → b.ok) (hi : i < bs.length) (hl : ClsOk l) : lookE gD (fC bs l i) = 0 := by
  refine look_ok ?_ fun x hx => hl x (fA_mem hb hi (List.mem_reverse.1 hx))
  unfold fC; rw [List.length_reverse]; have := beat_len (b := bs.getD i ⟨0, 0, 0, true⟩) (l := l); unfold fA; omega
theorem fB_look (hb : ∀ b, b ∈ bs → b.ok) (hi : i < bs.length) (hl : ClsOk l) (hm : 0 ≤ mo) : lookE gD (fB bs l mo i) = 0 := by
  refine look_ok ?_ fun x hx => ?_
  · unfold fB
    rw [List.length_append, List.length_reverse]
    have := beat_len (b := bs.getD i ⟨0, 0, 0, true⟩) (l := l)
    have h2 : (exL mo l).length ≤ 1 := by unfold exL; split <;> simp
    unfold fA; omega
  · rcases List.mem_append.1 hx with q | q
    · exact hl x (fA_mem hb hi (List.mem_reverse.1 q))
    · exact hl x (exL_mem hm q)
theorem dr_pixd (hk : k < (drRegs d 3).length) : ∀ n, n ∈ ((drRegs d 3).getD k default).pix → 0 ≤ n ∧ n < 20 := (dr_pix (getD_mem hk)).1
theorem big_bd (hd : d.ok) (hl : 0 ≤ lo) (hh : 0 ≤ ho) : (0 ≤ drB d * lo.tmod 3 ∧ drB d * lo.tmod 3 ≤ 298) ∧ (0 ≤ ho.tmod 400 ∧ ho.tmod 400 ≤ 399) := by
  obtain ⟨⟨a1, a2⟩, ⟨b1, b2⟩, c1, c2⟩ := dr_bd hd
  have q1 := tm hl (show (0 : Int) < 3 by decide)
  have q2 := tm hh (show (0 : Int) < 400 by decide)
  have q3 : 0 ≤ drB d * lo.tmod 3 := Int.mul_nonneg (by omega) q1.1
  have q4 : drB d * lo.tmod 3 ≤ 149 * lo.tmod 3 := Int.mul_le_mul_of_nonneg_right b2 q1.1
  omega
theorem big_thr (hd : d.ok) (hb : ∀ b, b ∈ bs → b.ok) (hi : i < bs.length) (hl : ClsOk l) (hm : 0 ≤ mo) (hlo : 0 ≤ lo) (hho : 0 ≤ ho) (hk : k < (drRegs d 3).length) : ((thsP (drSp d) (fA bs l i)).getD k zT).lv ≤ ((thsP (bigSp d lo ho) (fB bs l mo i)).getD k zT).lv := by
  obtain ⟨⟨a1, a2⟩, ⟨b1, b2⟩, c1, c2⟩ := dr_bd hd
  have q := big_bd hd hlo hho
  unfold drSp bigSp
  rw [ths_any hk, ths_any hk]
  exact thS_mono (fA_look hb hi hl) (fB_look hb hi hl hm) (fun c hc => List.mem_append_left _ (List.mem_reverse.2 hc)) a1 (by omega) (by omega) b1 (dr_pixd hk)
theorem rev_get {regs : List Reg} {k : Nat} (hk : k < regs.length) : regs.reverse.getD (regs.length - 1 - k) default = regs.getD k default := by
  rw [List.getD_eq_getElem?_getD, List.getElem?_reverse (by omega), List.getD_eq_getElem?_getD, show regs.length - 1 - (regs.length - 1 - k) = k by omega]
theorem trn_thr (hd : d.ok) (hb : ∀ b, b ∈ bs → b.ok) (hi : i < bs.length) (hl : ClsOk l) (hk : k < (drRegs d 3).length) : ((thsP (drSp d) (fA bs l i)).getD k zT).lv = ((thsP (trnSp d) (fC bs l i)).getD ((drRegs d 3).length - 1 - k) zT).lv := by
  obtain ⟨⟨a1, a2⟩, ⟨b1, b2⟩, c1, c2⟩ := dr_bd hd
  unfold drSp trnSp
  rw [ths_any hk, ths_any (by rw [List.length_reverse]; omega), rev_get hk]
  have h1 := fA_look (l := l) hb hi hl
  have h2 := fC_look (l := l) hb hi hl
  exact Int.le_antisymm (thS_mono h1 h2 (fun c hc => List.mem_reverse.2 hc) a1 (Int.le_refl _) (by omega) b1 (dr_pixd hk)) (thS_mono h2 h1 (fun c hc => List.mem_reverse.1 hc) a1 (Int.le_refl _) (by omega) b1 (dr_pixd hk))
theorem big_lv (hd : d.ok) (hb : ∀ b, b ∈ bs → b.ok) {n : Nat} (hn : n ≤ bs.length) (hl : ClsOk l) (hm : 0 ≤ mo) (hlo : 0 ≤ lo) (hho : 0 ≤ ho) (hk : k < (drRegs d 3).length) : lvS (drC d) k (stG (drSp d) (fA bs l) bs n) ≤ lvS (drC d + ho.tmod 400) k (stG (bigSp d lo ho) (fB bs l mo) bs n) :=
  lvS_mono (by have := (big_bd (lo := lo) hd hlo hho).2; omega) fun i hi => big_thr hd hb (by omega) hl hm hlo hho hk
theorem trn_lv (hd : d.ok) (hb : ∀ b, b ∈ bs → b.ok) {n : Nat} (hn : n ≤ bs.length) (hl : ClsOk l) (hk : k < (drRegs d 3).length) : lvS (drC d) k (stG (drSp d) (fA bs l) bs n) = lvS (drC d) ((drRegs d 3).length - 1 - k) (stG (trnSp d) (fC bs l) bs n) :=
  Int.le_antisymm (lvS_mono (Int.le_refl _) fun i hi => Int.le_of_eq (trn_thr hd hb (by omega) hl hk)) (lvS_mono (Int.le_refl _) fun i hi => Int.le_of_eq (trn_thr hd hb (by omega) hl hk).symm)
end
/-! warnings, region by region -/
/-- What is said of a warning, but for its number and its region. -/
abbrev CV := Int × Int × Int
def cvl (c : Cs) : CV := (c.bg, c.en, c.pk)
def caseK (r : Int) (cs : List Cs) : List CV := (cs.filter fun c => decide (c.rg = r)).map cvl
def stepK (b m T : Int) (l : List CV) : List CV :=
  if b = m then l else if b = 0 then l ++ [(T, never, m)] else l.map fun x => if x.2.1 = never then (x.1, if m = 0 then T else x.2.1, max x.2.2 m) else x
theorem caseK_e {q : Nat} {b m T : Int} {cs : List Cs} : caseK (q : Int) (stepC q b m T cs) = stepK b m T (caseK (q : Int) cs) := by
  unfold stepC stepK
  by_cases h1 : b = m
  · rw [if_pos h1, if_pos h1]
  · rw [if_neg h1, if_neg h1]
    by_cases h2 : b = 0
    · rw [if_pos h2, if_pos h2]
      unfold caseK
      rw [List.filter_append, List.map_append]
      simp [cvl]
    · rw [if_neg h2, if_neg h2]
      unfold caseK
      rw [List.filter_map, List.map_map, List.map_map]
      have hf : (cs.filter ((fun c => decide (c.rg = (q : Int))) ∘ fun c => if opn q c = true then { c with en := if m = 0 then T else c.en, pk := max c.pk m } else c)) = cs.filter fun c => decide (c.rg = (q : Int)) := List.filter_congr fun x _ => by
        simp only [Function.comp]; split <;> rfl
      rw [hf]
      refine List.map_congr_left fun c hc => ?_
      have hr : c.rg = (q : Int) := of_decide_eq_true (List.mem_filter.1 hc).2
      show cvl (if opn q c = true then { c with en := if m = 0 then T else c.en, pk := max c.pk m } else c) = (if c.en = never then (c.bg, if m = 0 then T else c.en, max c.pk m) else cvl c)
      by_cases h3 : c.en = never
      · rw [if_pos (opn_iff.2 ⟨hr, h3⟩), if_pos h3]; rfl
      · rw [if_neg (fun z => h3 (opn_iff.1 z).2), if_neg h3]
theorem caseK_n {q : Nat} {r b m T : Int} {cs : List Cs} (hr : r ≠ (q : Int)) : caseK r (stepC q b m T cs) = caseK r cs := by
  unfold stepC
  by_cases h1 : b = m
  · rw [if_pos h1]
  · rw [if_neg h1]
    by_cases h2 : b = 0
    · rw [if_pos h2]
      unfold caseK
      rw [List.filter_append, List.map_append]
      simp [Ne.symm hr]
    · rw [if_neg h2]
      unfold caseK
      rw [List.filter_map, List.map_map]
      have hf : (cs.filter ((fun c => decide (c.rg = r)) ∘ fun c => if opn q c = true then { c with en := if m = 0 then T else c.en, pk := max c.pk m } else c)) = cs.filter fun c => decide (c.rg = r) := List.filter_congr fun x _ => by
        simp only [Function.comp]; split <;> rfl
      rw [hf]
      refine List.map_congr_left fun c hc => ?_
      have hr2 : c.rg = r := of_decide_eq_true (List.mem_filter.1 hc).2
      simp only [Function.comp]
      rw [if_neg (fun z => hr (hr2.symm.trans (opn_iff.1 z).1))]
theorem caseK_run {H : Int} {st : List Stp} {s : Stp} {cs : List Cs} {k : Nat} : ∀ j, caseK (k : Int) (runC H st s cs j) = if k < j then stepK (lvS H k st) (lvS H k (st ++ [s])) s.t (caseK (k : Int) cs) else caseK (k : Int) cs
  | 0 => by rw [if_neg (by omega)]; rfl
  | j + 1 => by
    have ih := caseK_run (H := H) (st := st) (s := s) (cs := cs) (k := k) j
    unfold runC
    by_cases e : k = j
    · subst e
      rw [caseK_e, ih, if_neg (by omega), if_pos (by omega)]
    · rw [caseK_n (by omega), ih]
      by_cases q : k < j
      · rw [if_pos q, if_pos (by omega)]
      · rw [if_neg q, if_neg (by omega)]
section
variable {s s' : Sp} {f f' : Nat → List Cloud} {bs : List BtM} {N n : Nat} {H : Int}
theorem csG_snoc : csF H n (stG s f bs (N + 1)) = runC H (stG s f bs N) ⟨tAt bs (N + 1), thsP s (f N)⟩ (csF H n (stG s f bs N)) n := by rw [stG_snoc, csF_snoc]
theorem caseK_turn (h : ∀ m, m ≤ N → ∀ k, k < n → lvS H k (stG s f bs m) = lvS H (n - 1 - k) (stG s' f' bs m)) {k : Nat} (hk : k < n) : caseK (k : Int) (csF H n (stG s f bs N)) = caseK ((n - 1 - k : Nat) : Int) (csF H n (stG s' f' bs N)) := by
  induction N with
  | zero => rfl
  | succ N ih =>
    rw [csG_snoc, csG_snoc, caseK_run, caseK_run, if_pos hk, if_pos (by omega), ih (fun m hm => h m (by omega)), h N (by omega) k hk]
    rw [← stG_snoc, ← stG_snoc, h (N + 1) (Nat.le_refl _) k hk]
end
def keyC (c : Cs) : Int × CV := (c.rg, cvl c)
def keyT (n : Nat) (c : Cs) : Int × CV := ((n : Int) - 1 - c.rg, cvl c)
theorem cnt_y {v : CV} {a : Int × CV} {r : Int} {u : CV} {x y : Nat} (h : a = (r, u)) (k : x = y) : x + (if a == (r, v) then 1 else 0) = y + (if u == v then 1 else 0) := by
  subst h k
  congr 1
  by_cases q : u = v
  · rw [if_pos (by simp [q]), if_pos (by simp [q])]
  · rw [if_neg (by simp [q]), if_neg (by simp [q])]
theorem cnt_n {v : CV} {a : Int × CV} {r : Int} {x y : Nat} (h : a.1 ≠ r) (k : x = y) : x + (if a == (r, v) then 1 else 0) = y := by
  subst k
  rw [if_neg]; rfl
  intro q
  exact h (congrArg Prod.fst (eq_of_beq q))
theorem cnt_key {r : Int} {v : CV} : ∀ cs : List Cs, (cs.map keyC).count (r, v) = (caseK r cs).count v
  | [] => rfl
  | c :: cs => by
    have ih := cnt_key (r := r) (v := v) cs
    unfold caseK at *
    rw [List.map_cons, List.count_cons]
    by_cases h : c.rg = r
    · rw [List.filter_cons_of_pos (by simpa using h), List.map_cons, List.count_cons]
      exact cnt_y (by unfold keyC; rw [h]) ih
    · rw [List.filter_cons_of_neg (by simp [h])]
      exact cnt_n h ih
theorem cnt_keyT {n : Nat} {r : Int} {v : CV} : ∀ cs : List Cs, (cs.map (keyT n)).count (r, v) = (caseK ((n : Int) - 1 - r) cs).count v
  | [] => rfl
  | c :: cs => by
    have ih := cnt_keyT (n := n) (r := r) (v := v) cs
    unfold caseK at *
    rw [List.map_cons, List.count_cons]
    by_cases h : c.rg = (n : Int) - 1 - r
    · rw [List.filter_cons_of_pos (by simpa using h), List.map_cons, List.count_cons]
      exact cnt_y (by unfold keyT; rw [show (n : Int) - 1 - c.rg = r by omega]) ih
    · rw [List.filter_cons_of_neg (by simp [h])]
      exact cnt_n (show (n : Int) - 1 - c.rg ≠ r by omega) ih
theorem caseK_out {n : Nat} {lv : Nat → Int} {cs : List Cs} {r : Int} (h : CsOk n lv cs) (hr : r < 0 ∨ (n : Int) ≤ r) : caseK r cs = [] := by
  unfold caseK
  rw [List.map_eq_nil_iff, List.filter_eq_nil_iff]
  intro c hc
  obtain ⟨j, hj⟩ := List.mem_iff_getElem?.1 hc
  have := h.rg j c hj
  simp; omega
theorem turn_perm {n : Nat} {lv lv' : Nat → Int} {cs cs' : List Cs} (h : CsOk n lv cs) (h' : CsOk n lv' cs') (e : ∀ k, k < n → caseK (k : Int) cs = caseK ((n - 1 - k : Nat) : Int) cs') : (cs.map keyC).Perm (cs'.map (keyT n)) := by
  rw [List.perm_iff_count]
  rintro ⟨r, v⟩
  rw [cnt_key, cnt_keyT]
  by_cases q : 0 ≤ r ∧ r < (n : Int)
  · have := e r.toNat (by omega)
    rw [show ((r.toNat : Nat) : Int) = r by omega, show (((n - 1 - r.toNat : Nat)) : Int) = (n : Int) - 1 - r by omega] at this
    rw [this]
  · rw [caseK_out h (by omega), caseK_out h' (by omega)]
/-- What the walk asks: each warning has one in the turned office. -/
theorem turn_find {n : Nat} {lv lv' : Nat → Int} {cs cs' : List CsM} (h : CsOk n lv (cs.map CsM.p)) (h' : CsOk n lv' (cs'.map CsM.p)) (e : ∀ k, k < n → caseK (k : Int) (cs.map CsM.p) = caseK ((n - 1 - k : Nat) : Int) (cs'.map CsM.p)) : cs.length = cs'.length ∧ ∀ c, c ∈ cs → ∃ (k : Nat) (c' : CsM), cs'[k]? = some c' ∧ c.rg = (n : Int) - 1 - c'.rg ∧ c.bg = c'.bg ∧ c.en = c'.en ∧ c.pk = c'.pk := by
  have hp := turn_perm h h' e
  refine ⟨by simpa using hp.length_eq, fun c hc => ?_⟩
  have hm : keyC c.p ∈ (cs'.map CsM.p).map (keyT n) := hp.mem_iff.1 (List.mem_map_of_mem (List.mem_map_of_mem hc))
  obtain ⟨x, hx, e1⟩ := List.mem_map.1 hm
  obtain ⟨c', hc', rfl⟩ := List.mem_map.1 hx
  obtain ⟨k, hk⟩ := List.mem_iff_getElem?.1 hc'
  simp only [keyT, keyC, cvl, Prod.mk.injEq] at e1
  exact ⟨k, c', hk, e1.1.symm, e1.2.1.symm, e1.2.2.1.symm, e1.2.2.2.symm⟩
/-- The answers at a step, and the warnings in the end. -/
theorem gr_ge {d : DrM} {l : List Cloud} {bs : List BtM} {mo lo ho : Int} {i k N : Nat} {oa ob : OfM} (hA : GrI (drSp d) (fA bs l) bs oa N) (hB : GrI (bigSp d lo ho) (fB bs l mo) bs ob (i + 1)) (hN : N = bs.length) (hd : d.ok) (hb : ∀ b, b ∈ bs → b.ok) (hi : i < bs.length) (hl : ClsOk l) (hm : 0 ≤ mo) (hlo : 0 ≤ lo) (hho : 0 ≤ ho) (hk : k < (drRegs d 3).length) : (atsL oa (tAt bs (i + 1))).getD k 0 ≤ (atsL ob (tAt bs (i + 1))).getD k 0 := by
  rw [gr_at hA (by omega) hk, gr_at hB (by omega) hk]
  exact big_lv hd hb (by omega) hl hm hlo hho hk
theorem gr_eq {d : DrM} {l : List Cloud} {bs : List BtM} {i k N : Nat} {oa oc : OfM} (hA : GrI (drSp d) (fA bs l) bs oa N) (hC : GrI (trnSp d) (fC bs l) bs oc (i + 1)) (hN : N = bs.length) (hd : d.ok) (hb : ∀ b, b ∈ bs → b.ok) (hi : i < bs.length) (hl : ClsOk l) (hk : k < (drRegs d 3).length) : (atsL oc (tAt bs (i + 1))).getD ((drRegs d 3).length - 1 - k) 0 = (atsL oa (tAt bs (i + 1))).getD k 0 := by
  rw [gr_at hA (by omega) hk, gr_at hC (by omega) (by show _ < (drRegs d 3).reverse.length; rw [List.length_reverse]; omega)]
  exact (trn_lv hd hb (by omega) hl hk).symm
theorem gr_find {d : DrM} {l : List Cloud} {bs : List BtM} {N : Nat} {oa oc : OfM} (hA : GrI (drSp d) (fA bs l) bs oa N) (hC : GrI (trnSp d) (fC bs l) bs oc N) (hN : N = bs.length) (hd : d.ok) (hb : ∀ b, b ∈ bs → b.ok) (hl : ClsOk l) :
    oa.cs.length = oc.cs.length ∧ ∀ c, c ∈ oa.cs → ∃ (k : Nat) (c' : CsM), oc.cs[k]? = some c' ∧ c.rg = ((drRegs d 3).length : Int) - 1 - c'.rg ∧ c.bg = c'.bg ∧ c.en = c'.en ∧ c.pk = c'.pk := by
  have h1 := gr_csok hA
  have h2 := gr_csok hC
  have e : (trnSp d).regs.length = (drRegs d 3).length := List.length_reverse ..
  rw [e] at h2
  refine turn_find h1 h2 fun k hk => ?_
  rw [gr_cs hA, gr_cs hC, e]
  exact caseK_turn (fun m hm k hk => trn_lv hd hb (by omega) hl hk) hk
theorem rev_drop {α : Type} {l : List α} {m : Nat} {x : α} (h : l[m - 1]? = some x) (h0 : 0 < m) : (l.drop m).reverse ++ [x] = (l.drop (m - 1)).reverse := by
  obtain ⟨h1, h2⟩ := List.getElem?_eq_some_iff.1 h
  rw [List.drop_eq_getElem_cons h1, List.reverse_cons, h2, show m - 1 + 1 = m by omega]
end Go.Proofs.Ytdjflomhaljljaa

namespace Go.Proofs.Ytdjflomhaljljaa
open Go.SL Go.Proofs Go.Cast
set_option linter.unusedVariables false

theorem A48 : IsAgg Try.prog 48 23 := ⟨⟨_, Try.underlying48, rfl⟩, by kernel_rfl⟩
theorem C19 : IsFn Try.prog 19 := ⟨_, Try.func19, by decide, rfl⟩
theorem C20 : IsFn Try.prog 20 := ⟨_, Try.func20, by decide, rfl⟩
theorem C21 : IsFn Try.prog 21 := ⟨_, Try.func21, by decide, rfl⟩
/-- A fact that is kept out of sight. -/
structure Hw (p : Prop) : Prop where
  out : p
end Go.Proofs.Ytdjflomhaljljaa

namespace Go.Proofs.Ytdjflomhaljljaa
open Go.SL Go.Proofs Go.Cast
set_option linter.unusedVariables false

theorem F64_1 : FieldAt Try.prog 64 1 1 := ⟨_, _, Try.underlying64, rfl, rfl, 0, by kernel_rfl⟩
theorem F64_2 : FieldAt Try.prog 64 2 2 := ⟨_, _, Try.underlying64, rfl, rfl, 0, by kernel_rfl⟩


/-- A warning of the one office has one in the other that is alike. -/
def MtC (n : Nat) (c c' : CsM) : Prop := c.rg = (n : Int) - 1 - c'.rg ∧ c.bg = c'.bg ∧ c.en = c'.en ∧ c.pk = c'.pk
theorem mt_step {n i k : Nat} {a b : List CsM} {sm x : Bool} (h : ∀ q, q < k → MtC n (a.getD i zCs) (b.getD q zCs) → sm = true) (hx : MtC n (a.getD i zCs) (b.getD k zCs) → x = true) : ∀ q, q < k + 1 → MtC n (a.getD i zCs) (b.getD q zCs) → (sm || x) = true := fun q hq hm => by
  by_cases e : q = k
  · subst e; rw [hx hm]; cases sm <;> rfl
  · rw [h q (by omega) hm]; rfl
theorem mt_eq {n : Nat} {c c' : CsM} (h : MtC n c c') : (((decide (c.rg = (n : Int) - 1 - c'.rg) && decide (c.bg = c'.bg)) && decide (c.en = c'.en)) && decide (c.pk = c'.pk)) = true := by
  obtain ⟨h1, h2, h3, h4⟩ := h
  simp [h1, h2, h3, h4]
theorem gr_new {s : Sp} {f : Nat → List Cloud} {bs : List BtM} {g : Grid} {l : List RG} {a b d : Int} {o : OfM} (hn : NewP g l a b d o) (hse : (⟨g, l.map RG.r, a, b, d⟩ : Sp) = s) (hs : specE ⟨g, l.map RG.r, a, b, d⟩ = 0) (hp : ∀ x, x ∈ l → x.r.pix.length < 1000000000000) : GrI s f bs o 0 := by
  have h0 := sim_new hn hs hp
  obtain ⟨h1, h2, h3, h4, _, _, h7, _, h8, _⟩ := hn
  refine ⟨h0, ?_, by rw [h7]; rfl⟩
  rw [← hse]
  unfold OfM.sp
  rw [h1, h2, h3, h4, h8]
theorem gr_lvl {s : Sp} {f : Nat → List Cloud} {bs : List BtM} {o : OfM} {n : Nat} (h : GrI s f bs o n) : ∀ r, r ∈ o.rc → r.lv.length = o.ts.length := fun r hr => by
  obtain ⟨q, hq⟩ := List.mem_iff_getElem?.1 hr
  rw [(h.1.rcs q r hq).2.1, lvL_len, h.1.ts, List.length_map]
theorem gr_tsl {s : Sp} {f : Nat → List Cloud} {bs : List BtM} {o : OfM} {n : Nat} (h : GrI s f bs o n) : o.ts.length = n := by rw [gr_ts h]; simp [tmB]

set_option maxRecDepth 20000 in
set_option maxHeartbeats 16000000 in
theorem IssueGreater_c (d : DrM) (cl : List ClM) (pc : Option Addr) (cc : Nat) (bs : List BtM) (pb : Option Addr) (cb : Nat) (mo lo ho : Int) (w : World) (hd : d.ok) (hcl : ClsM w pc cl) (hb : BtsM w pb bs) (hmo : U8 mo) (h0 : U8 lo) (h1 : U16 ho) :
  Calls Try.prog 5 #[.agg d.cells.toArray, .slice pc cl.length cc, .slice pb bs.length cb, .int .u8 mo, .int .u8 lo, .int .u16 ho] w fun e w' => e = .returned (.bool true) ∧ St (Go.SL.bs w) [] w' := by
  unfold U8 at hmo h0
  unfold U16 at h1
  have hm3 := tm h0.1 (show (0 : Int) < 3 by decide)
  have hm4 := tm h1.1 (show (0 : Int) < 400 by decide)
  refine enter (vs := [_, _, _, _, _, _]) (env := [(0, _), (1, _), (2, _), (3, _), (4, _), (5, _)]) Try.func5 rfl rfl rfl rfl ?_
  refine VC.seq ?_
  refine VC.reg (VO.h rfl <| HO.box (C := d.cells.toArray) rfl rfl fun b1 => VO.l (LO.as (.r rfl)) rfl <| VO.nil ?_)
  refine VE.seqN ?_
  refine VC.seq ?_
  refine VC.seq ?_
  refine VC.reg (VO.l (LO.mv (.r rfl)) rfl <| VO.l (LO.len S49 (.r rfl) rfl) rfl <| VO.l (LO.gt (.r rfl) (.r rfl)) rfl <| VO.l (LO.mv (.r rfl)) rfl <| VO.lg rfl rfl (GD.f _) (fun hg => LO.mv (.r rfl)) rfl <| VO.lg rfl rfl (GD.f _) (fun hg => LO.len S50 (.g hg rfl) rfl) rfl <| VO.lg rfl rfl (GD.f _) (fun hg => LO.gt (.g hg rfl) (.r rfl)) rfl <| VO.l (LO.pkO (.r rfl) (.r rfl) rfl rfl) rfl <| VO.nil ?_)
  refine VE.seqN ?_
  refine VC.cond rfl (fun h54 => ?_) (fun h54 => ?_)
  ·
    refine VC.seq ?_
    refine VC.reg (VO.l (LO.call (xs := []) (vs := []) C14 trivial (fun w _ => works_c w)) rfl <| VO.l (LO.as (.r rfl)) rfl <| VO.nil ?_)
    refine VE.seqN ?_
    refine VC.ret (VE.thenR (VE.res (vs := [_]) rfl ⟨rfl, trivial⟩ (fun w hw => ?_)))
    first | exact ⟨rfl, hw1.based hw⟩ | exact ⟨rfl, hw.nil⟩
  ·
    have hcl5 : cl.length ≤ 5 := by omega
    have hbl5 : bs.length ≤ 8 := by omega
    refine VC.skip (VE.seqN ?_)
    refine VC.seq ?_
    refine VC.reg (VO.l (LO.lda (vs := d.cells) A48 (.r rfl) (fun _ hw => cells_at (off := 0) hw 0 rfl ⟨[], by simp⟩) (by rw [DrM.len hd]; rfl)) rfl <| VO.h rfl <| HO.callx (xs := [_]) (vs := [_]) C19 ⟨(.r rfl), trivial⟩ (fun w _ => dmade_c d w hd) fun z hX => VO.l (LO.mv (.r rfl)) rfl <| VO.h rfl <| HO.callx (xs := [_]) (vs := [_]) C20 ⟨(.r rfl), trivial⟩ (fun w hw => all_c cl pc cc w (by omega) ⟨hcl.rows.keep w hw, hcl.ok⟩) fun xl hl => VO.h rfl <| HO.alloc (C := #[_, _, _, _, _, _, _, _, _]) Z28 rfl fun b6 => VO.h0 <| HO.st 0 (vs := [_, _, _, _, _, _, _, _, _]) (C' := [_, _, _, _, _, _, _, _, _]) (L' := [_, _, _, _, _, _]) N28 rfl rfl rfl rfl rfl rfl rfl rfl <| VO.h rfl <| HO.lo (LO.as (.r rfl)) <| VO.nil ?_)
    refine VE.seqN ?_
    refine VC.seq ?_
    refine VC.seq ?_
    obtain ⟨rgs, pg, cg⟩ := z
    obtain ⟨⟨pl, kl⟩, l⟩ := xl
    dsimp only at hX hl ⊢
    have hrl : rgs.length = (drRegs d 3).length := by rw [← hX, List.length_map]
    have hr3 := drRegs_len (d := d) 3
    have hll : l.length ≤ cl.length := by rw [← List.length_map (f := CP.c), hl]; exact allL_len _
    refine VC.reg (VO.l (LO.fa (r := 5) F28_1 (.r rfl) rfl) rfl <| VO.l (LO.ld O24 (.r rfl) (fun _ hw => cells_at hw 0 rfl ⟨_, rfl⟩)) rfl <| VO.l (LO.len S24 (.r rfl) rfl) rfl <| VO.l (LO.eq (.r rfl) (.r rfl)) rfl <| VO.nil ?_)
    refine VE.seqN ?_
    refine VC.cond rfl (fun h63 => ?_) (fun h63 => ?_)
    ·
      refine VC.seq ?_
      refine VC.reg (VO.l (LO.call (xs := []) (vs := []) C14 trivial (fun w _ => works_c w)) rfl <| VO.l (LO.as (.r rfl)) rfl <| VO.nil ?_)
      refine VE.seqN ?_
      refine VC.ret (VE.thenR (VE.res (vs := [_]) rfl ⟨rfl, trivial⟩ (fun w hw => ?_)))
      first | exact ⟨rfl, hw1.based hw⟩ | exact ⟨rfl, hw.nil⟩
    ·
      have hne : drRegs d 3 ≠ [] := fun q => h63 (by rw [hrl, q]; rfl)
      have hsp := dr_spec hd hne
      refine VC.skip (VE.seqN ?_)
      refine VC.seq ?_
      refine VC.reg (VO.l (LO.lda (vs := [_, _, _, _, _, _, _, _, _]) A28 (.r rfl) (fun _ hw => cells_at hw 0 rfl ⟨_, rfl⟩) rfl) rfl <| VO.l (LO.mv (.r rfl)) rfl <| VO.l (LO.mv (.r rfl)) rfl <| VO.h rfl <| HO.callx (xs := [_, _, _]) (vs := [_, _, _]) C21 ⟨(.r rfl), (.r rfl), (.r rfl), trivial⟩ (fun w hw => run_c gD rgs pg cg (drA d) (drB d) (drC d) (drSp d) l pl kl bs pb cb w (by unfold drSp; rw [hX]) hsp (by omega) (regs_frame hX (St.inv hw 3 _ rfl) (St.inv hw 4 _ rfl)) (by omega) (clouds_all hl hcl.ok (St.inv hw 1 _ rfl) (St.inv hw 2 _ rfl)) (by omega) (hb.keep hw) (fun x hx => by rw [hl]; exact beat_look (hb.ok x hx) (allL_cls hcl.ok _))) fun y hy => VO.h rfl <| HO.lo (LO.mv (.r rfl)) <| VO.h rfl <| HO.lo (LO.ex (.r rfl) rfl) <| VO.h rfl <| HO.lo (LO.ex (.r rfl) rfl) <| VO.h rfl <| HO.lo (LO.ex (.r rfl) rfl) <| VO.h rfl <| HO.lo (LO.ex (.r rfl) rfl) <| VO.h rfl <| HO.lo (LO.as (.r rfl)) <| VO.h rfl <| HO.lo (LO.as (.r rfl)) <| VO.h rfl <| HO.lo (LO.as (.r rfl)) <| VO.h rfl <| HO.lo (LO.as (.r rfl)) <| VO.nil ?_)
      refine VE.seqN ?_
      refine VC.weak (env' := [(2, _), (3, _), (4, _), (5, _), (13, _), (14, _), (15, _), (17, _), (18, _)]) (.cons rfl (.cons rfl (.cons rfl (.cons rfl (.cons rfl (.cons rfl (.cons rfl (.cons rfl (.cons rfl .nil))))))))) (fun _ h => h) ?_
      refine VC.seq ?_
      refine VC.seq ?_
      refine VC.reg (VO.l (LO.mv (.r rfl)) rfl <| VO.l (LO.not (.r rfl)) rfl <| VO.nil ?_)
      refine VE.seqN ?_
      refine VC.cond rfl (fun h75 => ?_) (fun h75 => ?_)
      ·
        (exfalso; exact h75 rfl)
      ·
        refine VC.skip (VE.seqN ?_)
        refine VC.seq ?_
        refine VC.rebase fun w1 hw1 => ?_
        have hOff : Has w1 (offR y.o) := (selK (L1 := offR y.o) [0, 1, 2, 3, 4, 5, 6, 7, 8, 9] rfl rfl _ hw1).has (List.Sublist.refl _)
        have hTs : RO 1 iC w1 y.pt y.ts := own_rows hw1 12 rfl
        have hSp : Cells w1 ⟨b6, 0, none⟩ [.int .i64 0, .int .i64 0, .int .i64 1000, .int .i64 5, .int .i64 4, .slice pg rgs.length cg, .int .i64 (drA d), .int .i64 (drB d), .int .i64 (drC d)] := cells_at hw1 13 rfl ⟨[], rfl⟩
        have hRg : Regs w1 pg rgs := regs_frame hX (St.inv hw1 16 _ rfl) (St.inv hw1 17 _ rfl)
        have hCl : Clouds w1 pl l := clouds_all hl hcl.ok (St.inv hw1 14 _ rfl) (St.inv hw1 15 _ rfl)
        have hBt := hb.keep hw1
        have hA := gr_of hy
        have hS1 := hA.1
        have hS4 := hy.2.2.2.1
        have hok := hb.ok
        have hbd := dr_bd hd
        have hbb := big_bd (lo := lo) (ho := ho) hd h0.1 h1.1
        have htls : y.ts.length = bs.length := by rw [hS4]; simp [tmB]
        have hrlo : rgs.length ≤ 3 := by omega
        have hrl1 : 0 < rgs.length := by omega
        have hrcn : y.o.rc.length = rgs.length := by rw [gr_n hA, hrl]; rfl
        have hCk := allL_cls hcl.ok cl.length
        rw [← hl] at hCk
        obtain ⟨lc, hlc⟩ : ∃ lc, lc = l.map CP.c := ⟨_, rfl⟩
        rw [← hlc] at hA hCk
        have hlcl : lc.length = l.length := by rw [hlc, List.length_map]
        have htb := fun i (h : i < bs.length) => tAt_bd hok (i + 1) h
        have hmrg : ∀ r, r ∈ rgs.map RG.r → r ∈ drRegs d 3 := fun r hr => by rw [← hX]; exact hr
        have hpw : (rgs.map RG.r).Pairwise fun r s => r.name ≠ s.name := by rw [hX]; exact drRegs_pw (Nat.le_refl 3)
        have hnil : rgs.map RG.r ≠ [] := by rw [hX]; exact hne
        have hspB : specE ⟨gD, rgs.map RG.r, drA d + drB d * lo.tmod 3, drB d, drC d + ho.tmod 400⟩ = 0 := spec_any (d := d) hmrg hpw hnil (by rw [List.length_map]; omega) (by omega) (by omega) (by omega)
        have hspC : specE ⟨gD, rgs.reverse.map RG.r, drA d, drB d, drC d⟩ = 0 := by rw [List.map_reverse]; exact spec_any (d := d) (fun r hr => hmrg r (List.mem_reverse.1 hr)) (List.pairwise_reverse.2 (hpw.imp fun h => h.symm)) (fun q => hnil (List.reverse_eq_nil_iff.1 q)) (by rw [List.length_reverse, List.length_map]; omega) (by omega) (by omega) (by omega)
        clear hsp h54 h63 h75
        refine VC.reg (VO.l (LO.lda (vs := [_, _, _, _, _, _, _, _, _]) A28 (.r rfl) (cells_keep (sub_cells (off := 0) hSp ⟨_, rfl⟩)) rfl) rfl <| VO.h rfl <| HO.alloc (C := #[_, _, _, _, _, _, _, _, _]) Z28 rfl fun b21 => VO.h0 <| HO.st 0 (vs := [_, _, _, _, _, _, _, _, _]) (C' := [_, _, _, _, _, _, _, _, _]) (L' := [_]) N28 rfl rfl rfl rfl rfl rfl rfl rfl <| VO.nil ?_)
        refine VE.seqN ?_
        refine VC.seq ?_
        refine VC.reg (VO.l (LO.fa (r := 6) F28_2 (.r rfl) rfl) rfl <| VO.l (LO.fa (r := 6) F26_0 (.r rfl) rfl) rfl <| VO.l (LO.ld O3 (.r rfl) (fun _ hw => cells_at hw 0 rfl ⟨_, rfl⟩)) rfl <| VO.l (LO.fa (r := 6) F28_2 (.r rfl) rfl) rfl <| VO.l (LO.fa (r := 7) F26_1 (.r rfl) rfl) rfl <| VO.l (LO.ld O3 (.r rfl) (cells_keep (sub_cells (off := 7) hSp ⟨_, rfl⟩))) rfl <| VO.l (LO.mv (.r rfl)) rfl <| VO.l (LO.cv ⟨_, Try.underlying5⟩ Try.underlying3 (.r rfl) (wi (by omega) (by omega))) rfl <| VO.l (LO.rem (.r rfl) (.r rfl) (by omega)) rfl <| VO.l (LO.mul (.r rfl) (.r rfl) (wi (by omega) (by omega))) rfl <| VO.l (LO.add (.r rfl) (.r rfl) (wi (by omega) (by omega))) rfl <| VO.l (LO.fa (r := 6) F28_2 (.r rfl) rfl) rfl <| VO.l (LO.fa (r := 6) F26_0 (.r rfl) rfl) rfl <| VO.h0 <| HO.st 0 (vs := [_]) (C' := [_, _, _, _, _, _, _, _, _]) (L' := [_]) N3 rfl rfl rfl rfl rfl rfl rfl rfl <| VO.nil ?_)
        refine VE.seqN ?_
        refine VC.weak (env' := [(2, _), (3, _), (5, _), (13, _), (14, _), (15, _), (17, _), (19, _)]) (.cons rfl (.cons rfl (.cons rfl (.cons rfl (.cons rfl (.cons rfl (.cons rfl (.cons rfl .nil)))))))) (fun _ h => h) ?_
        refine VC.seq ?_
        refine VC.reg (VO.l (LO.fa (r := 6) F28_2 (.r rfl) rfl) rfl <| VO.l (LO.fa (r := 8) F26_2 (.r rfl) rfl) rfl <| VO.l (LO.ld O3 (.r rfl) (fun _ hw => cells_at hw 0 rfl ⟨_, rfl⟩)) rfl <| VO.l (LO.mv (.r rfl)) rfl <| VO.l (LO.cv ⟨_, Try.underlying46⟩ Try.underlying3 (.r rfl) (wi (by omega) (by omega))) rfl <| VO.l (LO.rem (.r rfl) (.r rfl) (by omega)) rfl <| VO.l (LO.add (.r rfl) (.r rfl) (wi (by omega) (by omega))) rfl <| VO.l (LO.fa (r := 6) F28_2 (.r rfl) rfl) rfl <| VO.l (LO.fa (r := 8) F26_2 (.r rfl) rfl) rfl <| VO.h0 <| HO.st 0 (vs := [_]) (C' := [_, _, _, _, _, _, _, _, _]) (L' := [_]) N3 rfl rfl rfl rfl rfl rfl rfl rfl <| VO.nil ?_)
        refine VE.seqN ?_
        refine VC.seq ?_
        refine VC.reg (VO.l (LO.lda (vs := [_, _, _, _, _, _, _, _, _]) A28 (.r rfl) (fun _ hw => cells_at hw 0 rfl ⟨_, rfl⟩) rfl) rfl <| VO.h rfl <| HO.callx (xs := [_]) (vs := [_]) C26 ⟨(.r rfl), trivial⟩ (fun w hw => New_c gD rgs pg cg (drA d + drB d * lo.tmod 3) (drB d) (drC d + ho.tmod 400) w (by omega) (hRg.keep hw) hspB) fun ob hob => VO.h rfl <| HO.lo (LO.mv (.r rfl)) <| VO.h rfl <| HO.lo (LO.ex (.r rfl) rfl) <| VO.h rfl <| HO.lo (LO.ex (.r rfl) rfl) <| VO.h rfl <| HO.lo (LO.as (.r rfl)) <| VO.h rfl <| HO.lo (LO.as (.r rfl)) <| VO.nil ?_)
        refine VE.seqN ?_
        refine VC.seq ?_
        refine VC.reg (VO.l (LO.lda (vs := [_, _, _, _, _, _, _, _, _]) A28 (.r rfl) (cells_keep (sub_cells (off := 0) hSp ⟨_, rfl⟩)) rfl) rfl <| VO.h rfl <| HO.alloc (C := #[_, _, _, _, _, _, _, _, _]) Z28 rfl fun b35 => VO.h0 <| HO.st 0 (vs := [_, _, _, _, _, _, _, _, _]) (C' := [_, _, _, _, _, _, _, _, _]) (L' := [_, _, _, _, _, _, _, _, _, _, _, _]) N28 rfl rfl rfl rfl rfl rfl rfl rfl <| VO.nil ?_)
        refine VE.seqN ?_
        refine VC.weak (env' := [(2, _), (3, _), (13, _), (14, _), (15, _), (17, _), (20, _), (21, _), (22, _)]) (.cons rfl (.cons rfl (.cons rfl (.cons rfl (.cons rfl (.cons rfl (.cons rfl (.cons rfl (.cons rfl .nil))))))))) (fun _ h => h) ?_
        refine VC.seq ?_
        refine VC.reg (VO.l (LO.fa (r := 5) F28_1 (.r rfl) rfl) rfl <| VO.h0 <| HO.st 0 (vs := [_]) (C' := [_, _, _, _, _, _, _, _, _]) (L' := [_, _, _, _, _, _, _, _, _, _, _, _]) N24 rfl rfl rfl rfl rfl rfl rfl rfl <| VO.nil ?_)
        refine VE.seqN ?_
        refine VC.seq ?_
        refine VC.seq ?_
        refine VC.reg (VO.l (LO.fa (r := 5) F28_1 (.r rfl) rfl) rfl <| VO.l (LO.ld O24 (.r rfl) (cells_keep (sub_cells (off := 5) hSp ⟨_, rfl⟩))) rfl <| VO.l (LO.len S24 (.r rfl) rfl) rfl <| VO.l (LO.sub (.r rfl) (.r rfl) (wi (by omega) (by omega))) rfl <| VO.l (LO.as (.r rfl)) rfl <| VO.nil ?_)
        refine VE.seqN ?_
        refine VC.block ?_
        refine VC.loopK (α := Nat × (List RG) × (Option Addr) × Nat) 1 (fun gx => [(23, .int .i64 ((gx.1 : Int) - 1))]) [(2, _), (3, _), (13, _), (14, _), (15, _), (17, _), (20, _), (21, _), (22, _)] (fun gx => [blk b35 (.cells #[.int .i64 0, .int .i64 0, .int .i64 1000, .int .i64 5, .int .i64 4, .slice gx.2.2.1 gx.2.1.length gx.2.2.2, .int .i64 (drA d), .int .i64 (drB d), .int .i64 (drC d)] 28), own 74 2 gx.2.2.1 gx.2.2.2 (gx.2.1.map RG.cells)]) (fun gx => gx.1 ≤ rgs.length ∧ gx.2.1 = (rgs.drop gx.1).reverse) (fun gx => gx.1) (rgs.length, [], none, 0) (by exact ⟨Nat.le_refl _, by dsimp only; rw [List.drop_length]; rfl⟩) (.cons rfl (.cons rfl (.cons rfl (.cons rfl (.cons rfl (.cons rfl (.cons rfl (.cons rfl (.cons rfl (.cons rfl .nil)))))))))) (fun _ h => ((h.ownNil 74 2)).sel [1, 0, 2, 3, 4, 5, 6, 7, 8, 9, 10, 11, 12] rfl) ?_
        rintro ⟨m, zs, pz_, cz_⟩ ⟨hm, hzs⟩
        show VC _ _ _ _ _ ([(23, .int .i64 ((m : Int) - 1))] ++ _) ([blk b35 (.cells #[.int .i64 0, .int .i64 0, .int .i64 1000, .int .i64 5, .int .i64 4, .slice pz_ zs.length cz_, .int .i64 (drA d), .int .i64 (drB d), .int .i64 (drC d)] 28), own 74 2 pz_ cz_ (zs.map RG.cells)] ++ _) _ _
        dsimp only at hm hzs
        have hzl : zs.length ≤ 3 := by rw [hzs, List.length_reverse, List.length_drop]; omega
        refine VC.seq ?_
        refine VC.seq ?_
        refine VC.reg (VO.l (LO.mv (.r rfl)) rfl <| VO.l (LO.ge (.r rfl) (.r rfl)) rfl <| VO.nil ?_)
        refine VE.seqN ?_
        refine VC.cond rfl (fun h111 => ?_) (fun h111 => ?_)
        ·
          obtain ⟨rk, hrk⟩ : ∃ x, rgs[m - 1]? = some x := ⟨_, List.getElem?_eq_getElem (by omega)⟩
          refine VC.skip (VE.seqN ?_)
          refine VC.seq ?_
          refine VC.block ?_
          refine VC.drawH [[0, 1, 2, 3, 4, 5, 6, 7, 8, 9, 10, 11, 12], [0, 1, 2, 3, 4, 5, 6, 7, 8, 9, 10, 11, 12], [0, 2, 3, 4, 5, 6, 7, 8, 9, 10, 11, 12], [2, 3, 4, 5, 6, 7, 8, 9, 10, 11, 12]] [some 1, some 1, some 0, some 0, some 0, some 0, some 0, none, none, some 2, none] mixed (by kernel_rfl) rfl (LX.l (fun _ hJ => LO.fa (r := 5) F28_1 (.r rfl) rfl) rfl <| LX.l (fun _ hJ => LO.ld O24 (.r rfl) (fun _ hw => cells_at (hJ _ hw) 0 rfl ⟨_, rfl⟩)) rfl <| LX.l (fun _ hJ => LO.fa (r := 5) F28_1 (.r rfl) rfl) rfl <| LX.l (fun _ hJ => LO.ld O24 (.r rfl) (cells_keep (sub_cells (off := 5) hSp ⟨_, rfl⟩))) rfl <| LX.l (fun _ hJ => LO.mv (.r rfl)) rfl <| LX.l (fun _ hJ => LO.ixs S24 N74 hRg.sm (.r rfl) (.r rfl) (show _ = ((m - 1 : Nat) : Int) by omega) (by omega)) rfl <| LX.l (fun _ hJ => LO.lda (vs := [_, _]) A74 (.r rfl) (fun w hw => cells_part (off := 0) ((hRg.at hrk) w (hJ _ hw)) ⟨_, rfl⟩) rfl) rfl <| LX.s <| LX.s <| LX.l (fun _ hJ => LO.fa (r := 5) F28_1 (.r rfl) rfl) rfl <| LX.s <| LX.nil) (HX.s <| HX.s <| HX.s <| HX.s <| HX.s <| HX.s <| HX.s <| HX.h rfl <| HO.bs (ps := [(_, _)]) (vs := [(_, _)]) (Z := [_, _]) (C := [_, _]) S24 Z74 N74 ⟨(.r rfl), trivial⟩ rfl rfl rfl rfl ⟨_, [_, _], [_, _], rfl, rfl, rfl, rfl, rfl⟩ fun b42 => ⟨selJ (L1 := [_, _, _, _, _, _, _, _, _, _, _, _, _]) [1, 2, 3, 4, 5, 6, 7, 8, 9, 10, 11, 12, 13] rfl rfl rfl, HX.h rfl <| HO.appT (rk) 2 0 (fun R => [_, _, R, _, _, _, _, _, _, _, _, _, _, _]) S24 S24 I74 (.r rfl) (.r rfl) rfl rfl rfl rfl rfl rfl rfl (fun _ => rfl) rfl (by omega) fun p8 c8 => ⟨selJ (L1 := [_, _, _, _, _, _, _, _, _, _, _, _]) [1, 3, 4, 5, 6, 7, 8, 9, 10, 11, 12, 13] rfl rfl rfl, HX.s <| HX.h0 <| HO.st 1 (vs := [_]) (C' := [_, _, _, _, _, _, _, _, _]) (L' := [_, _, _, _, _, _, _, _, _, _, _, _, _, _]) N24 rfl rfl rfl rfl rfl rfl rfl rfl <| ⟨selJ (L1 := [_, _, _, _, _, _, _, _, _, _, _]) [3, 4, 5, 6, 7, 8, 9, 10, 11, 12, 13] rfl rfl rfl, HX.nil ?_⟩⟩⟩)
          refine VE.inN (VE.seqN ?_)
          refine VC.reg (VO.l (LO.mv (.r rfl)) rfl <| VO.l (LO.sub (.r rfl) (.r rfl) (wi (by omega) (by omega))) rfl <| VO.l (LO.as (.r rfl)) rfl <| VO.nil ?_)
          refine VE.thenN fun a w ha hw => ⟨(m - 1, zs ++ [rk], p8, c8), ⟨by dsimp only; omega, by dsimp only; rw [hzs]; exact rev_drop hrk (by omega)⟩, (by dsimp only; omega), ha.sub (.cons (congrArg (fun z => some (Value.int .i64 z)) (by omega)) (.cons rfl (.cons rfl (.cons rfl (.cons rfl (.cons rfl (.cons rfl (.cons rfl (.cons rfl (.cons rfl .nil)))))))))), hw.sel [1, 2, 3, 4, 5, 6, 7, 8, 9, 10, 11, 12, 13] rfl⟩
        ·
          have hm0 : m = 0 := by omega
          have hzr : zs = rgs.reverse := by rw [hzs, hm0, List.drop_zero]
          refine VC.exit (VE.thenX (VE.thenX (VE.inX (VE.seqN ?_))))
          refine VC.seq ?_
          refine VC.reg (VO.l (LO.lda (vs := [_, _, _, _, _, _, _, _, _]) A28 (.r rfl) (fun _ hw => cells_at hw 0 rfl ⟨_, rfl⟩) rfl) rfl <| VO.h rfl <| HO.callx (xs := [_]) (vs := [_]) C26 ⟨(.r rfl), trivial⟩ (fun w hw => New_c gD zs pz_ cz_ (drA d) (drB d) (drC d) w (by rw [hzr, List.length_reverse]; omega) ⟨own_rows hw 1 rfl, fun x hx => (hRg.keep hw).ok x (by rw [hzr] at hx; exact List.mem_reverse.1 hx)⟩ (by rw [hzr]; exact hspC)) fun oc hoc => VO.h rfl <| HO.lo (LO.mv (.r rfl)) <| VO.h rfl <| HO.lo (LO.ex (.r rfl) rfl) <| VO.h rfl <| HO.lo (LO.ex (.r rfl) rfl) <| VO.h rfl <| HO.lo (LO.as (.r rfl)) <| VO.h rfl <| HO.lo (LO.as (.r rfl)) <| VO.nil ?_)
          refine VE.seqN ?_
          refine VC.seq ?_
          refine VC.seq ?_
          refine VC.reg (VO.l (LO.mv (.r rfl)) rfl <| VO.l (LO.ne (.r rfl) (.r rfl)) rfl <| VO.l (LO.mv (.r rfl)) rfl <| VO.lg rfl rfl (GD.f _) (fun hg => LO.mv (.r rfl)) rfl <| VO.lg rfl rfl (GD.f _) (fun hg => LO.ne (.g hg rfl) (.r rfl)) rfl <| VO.l (LO.pkO (.r rfl) (.r rfl) rfl rfl) rfl <| VO.nil ?_)
          refine VE.seqN ?_
          refine VC.weak (env' := [(2, _), (3, _), (13, _), (14, _), (15, _), (17, _), (20, _), (24, _), (134, _)]) (.cons rfl (.cons rfl (.cons rfl (.cons rfl (.cons rfl (.cons rfl (.cons rfl (.cons rfl (.cons rfl .nil))))))))) (fun _ h => h) ?_
          refine VC.cond rfl (fun h134 => ?_) (fun h134 => ?_)
          ·
            (exfalso; rcases h134 with h | h <;> exact h rfl)
          ·
            refine VC.skip (VE.seqN ?_)
            refine VC.seq ?_
            refine VC.seq ?_
            refine VC.reg (VO.l (LO.as (.r rfl)) rfl <| VO.nil ?_)
            refine VE.seqN ?_
            refine VC.block ?_
            refine VC.perm [12, 13, 14, 15, 16, 17, 18, 19, 20, 21, 0, 1, 2, 3, 4, 5, 6, 7, 8, 9, 10, 11, 22] rfl ?_
            refine VC.loopK (α := Nat × OfM × OfM) 20 (fun gx => [(26, .int .i64 (gx.1 : Nat))]) [(2, _), (3, _), (13, _), (14, _), (15, _), (17, _), (20, _), (24, _)] (fun gx => [OfM.blk gx.2.1, OfM.rgR gx.2.1, OfM.pxB gx.2.1, OfM.rcR gx.2.1, OfM.rcB gx.2.1, OfM.tsR gx.2.1, OfM.csR gx.2.1, OfM.csB gx.2.1, OfM.lgR gx.2.1, OfM.lgB gx.2.1, OfM.blk gx.2.2, OfM.rgR gx.2.2, OfM.pxB gx.2.2, OfM.rcR gx.2.2, OfM.rcB gx.2.2, OfM.tsR gx.2.2, OfM.csR gx.2.2, OfM.csB gx.2.2, OfM.lgR gx.2.2, OfM.lgB gx.2.2]) (fun gx => gx.1 ≤ bs.length ∧ (gx.2.1.b = ob.b ∧ gx.2.2.b = oc.b) ∧ GrI (bigSp d lo ho) (fB bs lc mo) bs gx.2.1 gx.1 ∧ GrI (trnSp d) (fC bs lc) bs gx.2.2 gx.1) (fun gx => bs.length - gx.1) (0, ob, oc) (by exact ⟨Nat.zero_le _, ⟨rfl, rfl⟩, gr_new hob (by rw [hX]; rfl) hspB (fun x hx => (hRg.ok x hx).2), gr_new hoc (by rw [hzr, List.map_reverse, hX]; rfl) (by rw [hzr]; exact hspC) (fun x hx => (hRg.ok x (by rw [hzr] at hx; exact List.mem_reverse.1 hx)).2)⟩) (.cons rfl (.cons rfl (.cons rfl (.cons rfl (.cons rfl (.cons rfl (.cons rfl (.cons rfl (.cons rfl .nil))))))))) (fun _ h => h) ?_
            rintro ⟨i, ob_, oc_⟩ ⟨hi, ⟨hbb2, hcb2⟩, hB, hC⟩
            show VC _ _ _ _ _ ([(26, .int .i64 (i : Nat))] ++ _) ([OfM.blk ob_, OfM.rgR ob_, OfM.pxB ob_, OfM.rcR ob_, OfM.rcB ob_, OfM.tsR ob_, OfM.csR ob_, OfM.csB ob_, OfM.lgR ob_, OfM.lgB ob_, OfM.blk oc_, OfM.rgR oc_, OfM.pxB oc_, OfM.rcR oc_, OfM.rcB oc_, OfM.tsR oc_, OfM.csR oc_, OfM.csB oc_, OfM.lgR oc_, OfM.lgB oc_] ++ _) _ _
            dsimp only at hi hbb2 hcb2 hB hC
            rw [← hbb2, ← hcb2]
            refine VC.seq ?_
            refine VC.seq ?_
            refine VC.reg (VO.l (LO.mv (.r rfl)) rfl <| VO.l (LO.mv (.r rfl)) rfl <| VO.l (LO.len S50 (.r rfl) rfl) rfl <| VO.l (LO.lt (.r rfl) (.r rfl)) rfl <| VO.nil ?_)
            refine VE.seqN ?_
            refine VC.cond rfl (fun h138 => ?_) (fun h138 => ?_)
            ·
              have hi1 : i < bs.length := by omega
              obtain ⟨xb, hbx⟩ : ∃ x, bs[i]? = some x := ⟨_, List.getElem?_eq_getElem hi1⟩
              have hTi := htb i hi1
              have hTr : ∀ (L : List Res) (w2 : World), St (Go.SL.bs w1) L w2 → Cells w2 ⟨Go.SL.pb y.pt, Go.SL.po y.pt + i * 1, none⟩ (iC (tAt bs (i + 1))) := fun L w2 hw2 => by have z := hTs.at 0 (j := i) (by omega) w2 hw2; rw [show y.ts.getD i 0 = tAt bs (i + 1) from by rw [hS4]; unfold tmB; rw [List.getD_eq_getElem?_getD, List.getElem?_map, List.getElem?_range hi1]; rfl] at z; exact z
              refine VC.skip (VE.seqN ?_)
              refine VC.seq ?_
              refine VC.block ?_
              refine VC.seq ?_
              have hEc0 : fA bs lc i = beatL xb lc := by unfold fA; rw [getD_of hbx]
              refine VC.reg (VO.l (LO.mv (.r rfl)) rfl <| VO.l (LO.mv (.r rfl)) rfl <| VO.l (LO.ixs S50 N66 hBt.rows.sm (.r rfl) (.r rfl) rfl (by omega)) rfl <| VO.l (LO.lda (vs := [_, _, _, _]) A66 (.r rfl) (fun w hw => cells_part (off := 0) ((fun w2 hw2 => (hBt.rows.keep w2 hw2).cells _ _ (by rw [List.getElem?_map, hbx]; rfl)) w hw) ⟨_, rfl⟩) rfl) rfl <| VO.l (LO.mv (.r rfl)) rfl <| VO.h rfl <| HO.callx (xs := [_, _]) (vs := [_, _]) C23 ⟨(.r rfl), (.r rfl), trivial⟩ (fun w hw => beat_c xb l pl kl w (by omega) (hok xb (List.mem_of_getElem? hbx)) (hCl.keep w hw)) fun qb hqb => VO.h rfl <| HO.lo (LO.as (.r rfl)) <| VO.nil ?_)
              refine VE.seqN ?_
              refine VC.seq ?_
              refine VC.reg (VO.l (LO.as (.r rfl)) rfl <| VO.l (LO.as (.r rfl)) rfl <| VO.nil ?_)
              refine VE.seqN ?_
              refine VC.seq ?_
              refine VC.seq ?_
              refine VC.reg (VO.l (LO.mv (.r rfl)) rfl <| VO.l (LO.len S29 (.r rfl) rfl) rfl <| VO.l (LO.sub (.r rfl) (.r rfl) (wi (by omega) (by omega))) rfl <| VO.l (LO.as (.r rfl)) rfl <| VO.nil ?_)
              refine VE.seqN ?_
              refine VC.weak (env' := [(2, _), (3, _), (13, _), (14, _), (15, _), (17, _), (20, _), (24, _), (26, _), (27, _), (28, _), (29, _), (30, _)]) (.cons rfl (.cons rfl (.cons rfl (.cons rfl (.cons rfl (.cons rfl (.cons rfl (.cons rfl (.cons rfl (.cons rfl (.cons rfl (.cons rfl (.cons rfl .nil))))))))))))) (fun _ h => h) ?_
              refine VC.block ?_
              refine VC.loopK (α := Nat × (List CP) × (Option Addr) × Nat × (Option Addr) × Nat) 0 (fun gx => [(28, .slice gx.2.2.1 gx.2.1.length gx.2.2.2.1), (29, .slice gx.2.2.2.2.1 gx.2.1.length gx.2.2.2.2.2), (30, .int .i64 ((gx.1 : Int) - 1))]) [(2, _), (3, _), (13, _), (14, _), (15, _), (17, _), (20, _), (24, _), (26, _), (27, _)] (fun gx => [own 80 7 gx.2.2.1 gx.2.2.2.1 (gx.2.1.map CP.cells), own 80 7 gx.2.2.2.2.1 gx.2.2.2.2.2 (gx.2.1.map CP.cells)]) (fun gx => gx.1 ≤ qb.2.length ∧ gx.2.1 = (qb.2.drop gx.1).reverse) (fun gx => gx.1) (qb.2.length, [], none, 0, none, 0) (by exact ⟨Nat.le_refl _, by dsimp only; rw [List.drop_length]; rfl⟩) (.cons rfl (.cons rfl (.cons rfl (.cons rfl (.cons rfl (.cons rfl (.cons rfl (.cons rfl (.cons rfl (.cons rfl (.cons rfl (.cons rfl (.cons rfl .nil))))))))))))) (fun _ h => ((h.ownNil 80 7).ownNil 80 7)) ?_
              rintro ⟨m2, xs, p1_, d1_, p2_, d2_⟩ ⟨hm2, hxs⟩
              show VC _ _ _ _ _ ([(28, .slice p1_ xs.length d1_), (29, .slice p2_ xs.length d2_), (30, .int .i64 ((m2 : Int) - 1))] ++ _) ([own 80 7 p1_ d1_ (xs.map CP.cells), own 80 7 p2_ d2_ (xs.map CP.cells)] ++ _) _ _
              dsimp only at hm2 hxs
              have hxl : xs.length ≤ 2 := by rw [hxs, List.length_reverse, List.length_drop]; omega
              refine VC.seq ?_
              refine VC.seq ?_
              refine VC.reg (VO.l (LO.mv (.r rfl)) rfl <| VO.l (LO.ge (.r rfl) (.r rfl)) rfl <| VO.nil ?_)
              refine VE.seqN ?_
              refine VC.cond rfl (fun h151 => ?_) (fun h151 => ?_)
              ·
                obtain ⟨xc, hxc⟩ : ∃ x, qb.2[m2 - 1]? = some x := ⟨_, List.getElem?_eq_getElem (by omega)⟩
                refine VC.skip (VE.seqN ?_)
                refine VC.seq ?_
                refine VC.block ?_
                refine VC.drawB [⟨5, 159, fun b => .slice (some ⟨b, 0, none⟩) 1 1, 80, #[_, _, _, _, _, _, _]⟩, ⟨12, 166, fun b => .slice (some ⟨b, 0, none⟩) 1 1, 80, #[_, _, _, _, _, _, _]⟩] [[0, 1, 2, 3, 4, 5, 6, 7, 8, 9, 10, 11, 12, 13, 14, 15, 16, 17, 18, 19, 20, 21, 22, 23, 24, 25], [0, 1, 2, 3, 4, 5, 6, 7, 8, 9, 10, 11, 12, 13, 14, 15, 16, 17, 18, 19, 20, 21, 22, 23, 24, 25], [1, 2, 3, 4, 5, 6, 7, 8, 9, 10, 11, 12, 13, 14, 15, 16, 17, 18, 19, 20, 21, 22, 23, 24, 25], [1, 2, 3, 4, 5, 6, 7, 8, 9, 10, 11, 12, 13, 14, 15, 16, 17, 18, 19, 20, 21, 22, 23, 24, 25], [2, 3, 4, 5, 6, 7, 8, 9, 10, 11, 12, 13, 14, 15, 16, 17, 18, 19, 20, 21, 22, 23, 24, 25], [2, 3, 4, 5, 6, 7, 8, 9, 10, 11, 12, 13, 14, 15, 16, 17, 18, 19, 20, 21, 22, 23, 24, 25], [2, 3, 4, 5, 6, 7, 8, 9, 10, 11, 12, 13, 14, 15, 16, 17, 18, 19, 20, 21, 22, 23, 24, 25]] [some 3, some 3, some 3, some 3, some 3, none, none, some 3, some 2, some 2, some 2, some 2, none, none, none, none] mixed (by kernel_rfl) rfl (LX.l (fun _ hJ => LO.mv (.r rfl)) rfl <| LX.l (fun _ hJ => LO.mv (.r rfl)) rfl <| LX.l (fun _ hJ => LO.mv (.r rfl)) rfl <| LX.l (fun _ hJ => LO.ixo S29 N80 (fun _ hw => (own_rows (hJ _ hw) 1 rfl).some (by simp)) (.r rfl) (.r rfl) (show _ = ((m2 - 1 : Nat) : Int) by omega) (by omega)) rfl <| LX.l (fun _ hJ => LO.lda (vs := [_, _, _, _, _, _, _]) A80 (.r rfl) (fun w hw => cells_part (off := 0) (own_cell (hJ _ hw) 1 rfl hxc) ⟨_, rfl⟩) rfl) rfl <| LX.s <| LX.s <| LX.l (fun _ hJ => LO.mv (.r rfl)) rfl <| LX.l (fun _ hJ => LO.mv (.r rfl)) rfl <| LX.l (fun _ hJ => LO.mv (.r rfl)) rfl <| LX.l (fun _ hJ => LO.ixo S29 N80 (fun _ hw => (own_rows (hJ _ hw) 1 rfl).some (by simp)) (.r rfl) (.r rfl) (show _ = ((m2 - 1 : Nat) : Int) by omega) (by omega)) rfl <| LX.l (fun _ hJ => LO.lda (vs := [_, _, _, _, _, _, _]) A80 (.r rfl) (fun w hw => cells_part (off := 0) (own_cell (hJ _ hw) 1 rfl hxc) ⟨_, rfl⟩) rfl) rfl <| LX.s <| LX.s <| LX.s <| LX.s <| LX.nil) (⟨⟨rfl, _, rfl, FO.bs (ps := [(_, _)]) (vs := [(_, _)]) (Z := [_, _, _, _, _, _, _]) (C := [_, _, _, _, _, _, _]) S29 Z80 N80 ⟨(.r rfl), trivial⟩ rfl rfl rfl rfl ⟨_, [_, _, _, _, _, _, _], [_, _, _, _, _, _, _], rfl, rfl, rfl, rfl, rfl⟩⟩, ⟨⟨rfl, _, rfl, FO.bs (ps := [(_, _)]) (vs := [(_, _)]) (Z := [_, _, _, _, _, _, _]) (C := [_, _, _, _, _, _, _]) S29 Z80 N80 ⟨(.r rfl), trivial⟩ rfl rfl rfl rfl ⟨_, [_, _, _, _, _, _, _], [_, _, _, _, _, _, _], rfl, rfl, rfl, rfl, rfl⟩⟩, trivial⟩⟩) (HY.s <| HY.s <| HY.s <| HY.s <| HY.s <| HY.f rfl fun b59 => ⟨selJ (L1 := [_, _, _, _, _, _, _, _, _, _, _, _, _, _, _, _, _, _, _, _, _, _, _, _, _, _]) [1, 2, 3, 4, 5, 6, 7, 8, 9, 10, 11, 12, 13, 14, 15, 16, 17, 18, 19, 20, 21, 22, 23, 24, 25, 26] rfl rfl rfl, HY.h rfl rfl fun X => HO.appT (xc) 1 0 (fun R => [_, R, _, _, _, _, _, _, _, _, _, _, _, _, _, _, _, _, _, _, _, _, _, _, _, _, _] ++ X) S29 S29 I80 (.r rfl) (.r rfl) rfl rfl rfl rfl rfl rfl rfl (fun _ => rfl) rfl (by omega) fun p6 c6 => ⟨[_, _, _, _, _, _, _, _, _, _, _, _, _, _, _, _, _, _, _, _, _, _, _, _, _, _, _], rfl, selJ (L1 := [_, _, _, _, _, _, _, _, _, _, _, _, _, _, _, _, _, _, _, _, _, _, _, _, _]) [2, 3, 4, 5, 6, 7, 8, 9, 10, 11, 12, 13, 14, 15, 16, 17, 18, 19, 20, 21, 22, 23, 24, 25, 26] rfl rfl rfl, HY.s <| HY.s <| HY.s <| HY.s <| HY.s <| HY.f rfl fun b60 => ⟨selJ (L1 := [_, _, _, _, _, _, _, _, _, _, _, _, _, _, _, _, _, _, _, _, _, _, _, _, _]) [3, 4, 5, 6, 7, 8, 9, 10, 11, 12, 13, 14, 15, 16, 17, 18, 19, 20, 21, 22, 23, 24, 25, 26, 27] rfl rfl rfl, HY.h rfl rfl fun X => HO.appT (xc) 3 0 (fun R => [_, _, _, R, _, _, _, _, _, _, _, _, _, _, _, _, _, _, _, _, _, _, _, _, _, _, _, _] ++ X) S29 S29 I80 (.r rfl) (.r rfl) rfl rfl rfl rfl rfl rfl rfl (fun _ => rfl) rfl (by omega) fun p13 c13 => ⟨[_, _, _, _, _, _, _, _, _, _, _, _, _, _, _, _, _, _, _, _, _, _, _, _, _, _, _, _], rfl, selJ (L1 := [_, _, _, _, _, _, _, _, _, _, _, _, _, _, _, _, _, _, _, _, _, _, _, _]) [4, 5, 6, 7, 8, 9, 10, 11, 12, 13, 14, 15, 16, 17, 18, 19, 20, 21, 22, 23, 24, 25, 26, 27] rfl rfl rfl, HY.h rfl rfl fun X => HO.lo (LO.as (.r rfl)) <| ⟨[_, _, _, _, _, _, _, _, _, _, _, _, _, _, _, _, _, _, _, _, _, _, _, _, _, _, _, _], rfl, selJ (L1 := [_, _, _, _, _, _, _, _, _, _, _, _, _, _, _, _, _, _, _, _, _, _, _, _]) [4, 5, 6, 7, 8, 9, 10, 11, 12, 13, 14, 15, 16, 17, 18, 19, 20, 21, 22, 23, 24, 25, 26, 27] rfl rfl rfl, HY.h rfl rfl fun X => HO.lo (LO.as (.r rfl)) <| ⟨[_, _, _, _, _, _, _, _, _, _, _, _, _, _, _, _, _, _, _, _, _, _, _, _, _, _, _, _], rfl, selJ (L1 := [_, _, _, _, _, _, _, _, _, _, _, _, _, _, _, _, _, _, _, _, _, _, _, _]) [4, 5, 6, 7, 8, 9, 10, 11, 12, 13, 14, 15, 16, 17, 18, 19, 20, 21, 22, 23, 24, 25, 26, 27] rfl rfl rfl, HY.nil ?_⟩⟩⟩⟩⟩⟩)
                refine VE.inN (VE.seqN ?_)
                refine VC.weak (env' := [(2, _), (3, _), (13, _), (14, _), (15, _), (17, _), (20, _), (24, _), (26, _), (27, _), (28, _), (29, _), (30, _)]) (.cons rfl (.cons rfl (.cons rfl (.cons rfl (.cons rfl (.cons rfl (.cons rfl (.cons rfl (.cons rfl (.cons rfl (.cons rfl (.cons rfl (.cons rfl .nil))))))))))))) (fun _ h => h) ?_
                refine VC.reg (VO.l (LO.mv (.r rfl)) rfl <| VO.l (LO.sub (.r rfl) (.r rfl) (wi (by omega) (by omega))) rfl <| VO.l (LO.as (.r rfl)) rfl <| VO.nil ?_)
                refine VE.thenN fun a w ha hw => ⟨(m2 - 1, xs ++ [xc], p6, c6, p13, c13), ⟨by dsimp only; omega, by dsimp only; rw [hxs]; exact rev_drop hxc (by omega)⟩, (by dsimp only; omega), ha.sub (.cons rfl (.cons rfl (.cons (congrArg (fun z => some (Value.int .i64 z)) (by omega)) (.cons rfl (.cons rfl (.cons rfl (.cons rfl (.cons rfl (.cons rfl (.cons rfl (.cons rfl (.cons rfl (.cons rfl .nil))))))))))))), hw.sel [2, 3, 4, 5, 6, 7, 8, 9, 10, 11, 12, 13, 14, 15, 16, 17, 18, 19, 20, 21, 22, 23, 24, 25, 26, 27] rfl⟩
              ·
                have hm20 : m2 = 0 := by omega
                have hxr : xs = qb.2.reverse := by rw [hxs, hm20, List.drop_zero]
                refine VC.exit (VE.thenX (VE.thenX (VE.inX (VE.seqN ?_))))
                refine VC.seq ?_
                refine VC.seq ?_
                refine VC.reg (VO.l (LO.mv (.r rfl)) rfl <| VO.l (LO.len S29 (.r rfl) rfl) rfl <| VO.l (LO.gt (.r rfl) (.r rfl)) rfl <| VO.nil ?_)
                refine VE.seqN ?_
                refine VC.cond rfl (fun h170 => ?_) (fun h170 => ?_)
                ·
                  have hpos : 0 < l.length := by omega
                  have hk1 := btIx_lt hmo.1 hpos
                  obtain ⟨xm, hxm⟩ : ∃ x, l[btIx l.length mo]? = some x := ⟨_, List.getElem?_eq_getElem hk1.1⟩
                  have hxl2 : xs.length ≤ 2 := by rw [hxr, List.length_reverse]; exact hqb.2.1
                  have hEx : (xs ++ [xm]).map CP.c = fB bs lc mo i := by unfold fB exL; rw [if_pos (by omega), List.map_append, hxr, List.map_reverse, hEc0, hlc, hqb.1, List.length_map, getD_c hxm]; rfl
                  refine VC.reg (VO.l (LO.mv (.r rfl)) rfl <| VO.l (LO.mv (.r rfl)) rfl <| VO.l (LO.mv (.r rfl)) rfl <| VO.l (LO.cv ⟨_, Try.underlying5⟩ Try.underlying3 (.r rfl) (wi (by omega) (by omega))) rfl <| VO.l (LO.mv (.r rfl)) rfl <| VO.l (LO.len S29 (.r rfl) rfl) rfl <| VO.l (LO.rem (.r rfl) (.r rfl) (by omega)) rfl <| VO.l (LO.ixs S29 N80 hCl.sl (.r rfl) (.r rfl) hk1.2 hk1.1) rfl <| VO.l (LO.lda (vs := [_, _, _, _, _, _, _]) A80 (.r rfl) (hCl.at hxm) rfl) rfl <| VO.h rfl <| HO.bs (ps := [(_, _)]) (vs := [(_, _)]) (Z := [_, _, _, _, _, _, _]) (C := [_, _, _, _, _, _, _]) S29 Z80 N80 ⟨(.r rfl), trivial⟩ rfl rfl rfl rfl ⟨_, [_, _, _, _, _, _, _], [_, _, _, _, _, _, _], rfl, rfl, rfl, rfl, rfl⟩ fun b61 => VO.h rfl <| HO.appT (xm) 2 0 (fun R => [_, _, R, _, _, _, _, _, _, _, _, _, _, _, _, _, _, _, _, _, _, _, _, _, _, _, _]) S29 S29 I80 (.r rfl) (.r rfl) rfl rfl rfl rfl rfl rfl rfl (fun _ => rfl) rfl (by omega) fun p10 c10 => VO.h rfl <| HO.lo (LO.as (.r rfl)) <| VO.nil ?_)
                  refine VE.seqN ?_
                  refine VC.weak (env' := [(2, _), (3, _), (13, _), (14, _), (15, _), (17, _), (20, _), (24, _), (26, _), (28, _), (29, _)]) (.cons rfl (.cons rfl (.cons rfl (.cons rfl (.cons rfl (.cons rfl (.cons rfl (.cons rfl (.cons rfl (.cons rfl (.cons rfl .nil))))))))))) (fun _ h => h) ?_
                  refine VC.seq ?_
                  have hqc : qb.2.map CP.c = fA bs lc i := by rw [hEc0, hlc]; exact hqb.1
                  have hEc : xs.map CP.c = fC bs lc i := by rw [hxr, List.map_reverse, hqc]; rfl
                  have hxsl : xs.length ≤ 2 := by rw [hxr, List.length_reverse]; exact hqb.2.1
                  have hxsm : ∀ x, x ∈ xs → x ∈ l := fun x hx => hqb.2.2 x (by rw [hxr] at hx; exact List.mem_reverse.1 hx)
                  refine VC.reg (VO.l (LO.mv (.r rfl)) rfl <| VO.l (LO.mv (.r rfl)) rfl <| VO.l (LO.mv (.r rfl)) rfl <| VO.l (LO.ixs S55 N3 hTs.sm (.r rfl) (.r rfl) rfl (by omega)) rfl <| VO.l (LO.ld O3 (.r rfl) (fun w hw => cells_part (off := 0) ((hTr _) w hw) ⟨_, rfl⟩)) rfl <| VO.l (LO.mv (.r rfl)) rfl <| VO.h rfl <| HO.callP (first := []) (cap := []) (xs := [_, _, _]) (vs := [_, _, _]) [_, _, _, _, _, _, _, _, _, _] [_, _, _, _, _, _, _, _, _, _, _, _, _, _, _, _, _] (selK (L1 := [_, _, _, _, _, _, _, _, _, _] ++ [_, _, _, _, _, _, _, _, _, _, _, _, _, _, _, _, _]) [4, 5, 6, 7, 8, 9, 10, 11, 12, 13, 0, 1, 2, 3, 14, 15, 16, 17, 18, 19, 20, 21, 22, 23, 24, 25, 26] rfl rfl) (.r rfl) C27 ⟨(.r rfl), (.r rfl), (.r rfl), trivial⟩ (fun w hw hh => Step_s ob_ _ (tAt bs (i + 1)) (xs ++ [xm]) p10 c10 w hh (fun hs => clouds_rest hCl (fun x hx => by rcases List.mem_append.1 hx with q | q; (· exact hxsm x q); (· rw [List.mem_singleton.1 q]; exact List.mem_of_getElem? hxm)) (selK (L1 := offR ob_ ++ [_]) [4, 5, 6, 7, 8, 9, 10, 11, 12, 13, 2] rfl rfl w hw) hs) (by rw [List.length_append, List.length_singleton]; omega) hB.1 (by omega) (by omega) (gr_late hB hok (by omega)) (by rw [hB.2.2]; omega) (by rw [gr_g hB, hEx]; exact fB_look hok hi1 hCk hmo.1)) fun yB hyB => VO.h rfl <| HO.lo (LO.mv (.r rfl)) <| VO.h rfl <| HO.lo (LO.ex (.r rfl) rfl) <| VO.h rfl <| HO.lo (LO.ex (.r rfl) rfl) <| VO.h rfl <| HO.lo (LO.as (.r rfl)) <| VO.h rfl <| HO.lo (LO.as (.r rfl)) <| VO.nil ?_)
                  refine VE.seqN ?_
                  refine VC.seq ?_
                  refine VC.reg (VO.l (LO.mv (.r rfl)) rfl <| VO.l (LO.mv (.r rfl)) rfl <| VO.l (LO.mv (.r rfl)) rfl <| VO.l (LO.ixs S55 N3 hTs.sm (.r rfl) (.r rfl) rfl (by omega)) rfl <| VO.l (LO.ld O3 (.r rfl) (fun w hw => cells_part (off := 0) ((hTr _) w hw) ⟨_, rfl⟩)) rfl <| VO.l (LO.mv (.r rfl)) rfl <| VO.h rfl <| HO.callP (first := []) (cap := []) (xs := [_, _, _]) (vs := [_, _, _]) [_, _, _, _, _, _, _, _, _, _] [_, _, _, _, _, _, _, _, _, _, _, _, _, _, _, _, _, _] (selK (L1 := [_, _, _, _, _, _, _, _, _, _] ++ [_, _, _, _, _, _, _, _, _, _, _, _, _, _, _, _, _, _]) [15, 16, 17, 18, 19, 20, 21, 22, 23, 24, 0, 1, 2, 3, 4, 5, 6, 7, 8, 9, 10, 11, 12, 13, 14, 25, 26, 27] rfl rfl) (.r rfl) C27 ⟨(.r rfl), (.r rfl), (.r rfl), trivial⟩ (fun w hw hh => Step_s oc_ _ (tAt bs (i + 1)) (xs) p1_ d1_ w hh (fun hs => clouds_rest hCl hxsm (selK (L1 := offR oc_ ++ [_]) [15, 16, 17, 18, 19, 20, 21, 22, 23, 24, 12] rfl rfl w hw) hs) (by omega) hC.1 (by omega) (by omega) (gr_late hC hok (by omega)) (by rw [hC.2.2]; omega) (by rw [gr_g hC, hEc]; exact fC_look hok hi1 hCk)) fun yC hyC => VO.h rfl <| HO.lo (LO.mv (.r rfl)) <| VO.h rfl <| HO.lo (LO.ex (.r rfl) rfl) <| VO.h rfl <| HO.lo (LO.ex (.r rfl) rfl) <| VO.h rfl <| HO.lo (LO.as (.r rfl)) <| VO.h rfl <| HO.lo (LO.as (.r rfl)) <| VO.nil ?_)
                  refine VE.seqN ?_
                  refine VC.weak (env' := [(2, _), (3, _), (13, _), (14, _), (15, _), (17, _), (20, _), (24, _), (26, _), (32, _), (34, _)]) (.cons rfl (.cons rfl (.cons rfl (.cons rfl (.cons rfl (.cons rfl (.cons rfl (.cons rfl (.cons rfl (.cons rfl (.cons rfl .nil))))))))))) (fun _ h => h) ?_
                  refine VC.seq ?_
                  have hB2 := gr_step hB hEx hyB
                  have hC2 := gr_step hC hEc hyC
                  have hnA := gr_n hA
                  have hnB := gr_n hB2
                  have hnC := gr_n hC2
                  change y.o.rc.length = (drRegs d 3).length at hnA
                  change _ = (drRegs d 3).length at hnB
                  change _ = (drRegs d 3).reverse.length at hnC
                  rw [List.length_reverse] at hnC
                  obtain ⟨ax, hax⟩ : ∃ a, a = atsL y.o (tAt bs (i + 1)) := ⟨_, rfl⟩
                  obtain ⟨ay, hay⟩ : ∃ a, a = atsL (yB.o ob_ (tAt bs (i + 1))) (tAt bs (i + 1)) := ⟨_, rfl⟩
                  obtain ⟨az, haz⟩ : ∃ a, a = atsL (yC.o oc_ (tAt bs (i + 1))) (tAt bs (i + 1)) := ⟨_, rfl⟩
                  have hlx : ax.length = rgs.length := by rw [hax]; unfold atsL; rw [List.length_map]; omega
                  have hly : ay.length = rgs.length := by rw [hay]; unfold atsL; rw [List.length_map]; omega
                  have hlz : az.length = rgs.length := by rw [haz]; unfold atsL; rw [List.length_map]; omega
                  refine VC.reg (VO.l (LO.mv (.r rfl)) rfl <| VO.l (LO.mv (.r rfl)) rfl <| VO.l (LO.mv (.r rfl)) rfl <| VO.l (LO.ixs S55 N3 hTs.sm (.r rfl) (.r rfl) rfl (by omega)) rfl <| VO.l (LO.ld O3 (.r rfl) (fun w hw => cells_part (off := 0) ((hTr _) w hw) ⟨_, rfl⟩)) rfl <| VO.h rfl <| HO.callx (xs := [_, _]) (vs := [_, _]) C28 ⟨(.r rfl), (.r rfl), trivial⟩ (fun w hw => by have z := At_o (y.o) (tAt bs (i + 1)) w (by omega) (by omega) (gr_lvl hA) (by rw [gr_tsl hA]; omega) (hA.1.inc.imp Int.le_of_lt) hTi.1 (by omega) (hOff.keep hw); rw [← hax] at z; exact z) fun xa _ => VO.h rfl <| HO.lo (LO.mv (.r rfl)) <| VO.h rfl <| HO.lo (LO.ex (.r rfl) rfl) <| VO.h rfl <| HO.lo (LO.ex (.r rfl) rfl) <| VO.h rfl <| HO.lo (LO.as (.r rfl)) <| VO.h rfl <| HO.lo (LO.as (.r rfl)) <| VO.nil ?_)
                  refine VE.seqN ?_
                  refine VC.seq ?_
                  refine VC.reg (VO.l (LO.mv (.r rfl)) rfl <| VO.l (LO.mv (.r rfl)) rfl <| VO.l (LO.mv (.r rfl)) rfl <| VO.l (LO.ixs S55 N3 hTs.sm (.r rfl) (.r rfl) rfl (by omega)) rfl <| VO.l (LO.ld O3 (.r rfl) (fun w hw => cells_part (off := 0) ((hTr _) w hw) ⟨_, rfl⟩)) rfl <| VO.h rfl <| HO.callx (xs := [_, _]) (vs := [_, _]) C28 ⟨(.r rfl), (.r rfl), trivial⟩ (fun w hw => by have z := At_o (yB.o ob_ (tAt bs (i + 1))) (tAt bs (i + 1)) w (by omega) (by omega) (gr_lvl hB2) (by rw [gr_tsl hB2]; omega) (hB2.1.inc.imp Int.le_of_lt) hTi.1 (by omega) ((selK (L1 := offR (yB.o ob_ (tAt bs (i + 1)))) [13, 14, 15, 16, 17, 18, 19, 20, 21, 22] rfl rfl _ hw).has (List.Sublist.refl _)); rw [← hay] at z; exact z) fun xb2 _ => VO.h rfl <| HO.lo (LO.mv (.r rfl)) <| VO.h rfl <| HO.lo (LO.ex (.r rfl) rfl) <| VO.h rfl <| HO.lo (LO.ex (.r rfl) rfl) <| VO.h rfl <| HO.lo (LO.as (.r rfl)) <| VO.h rfl <| HO.lo (LO.as (.r rfl)) <| VO.nil ?_)
                  refine VE.seqN ?_
                  refine VC.weak (env' := [(2, _), (3, _), (13, _), (14, _), (15, _), (17, _), (20, _), (24, _), (26, _), (32, _), (34, _), (35, _), (36, _), (37, _), (38, _)]) (.cons rfl (.cons rfl (.cons rfl (.cons rfl (.cons rfl (.cons rfl (.cons rfl (.cons rfl (.cons rfl (.cons rfl (.cons rfl (.cons rfl (.cons rfl (.cons rfl (.cons rfl .nil))))))))))))))) (fun _ h => h) ?_
                  refine VC.seq ?_
                  refine VC.reg (VO.l (LO.mv (.r rfl)) rfl <| VO.l (LO.mv (.r rfl)) rfl <| VO.l (LO.mv (.r rfl)) rfl <| VO.l (LO.ixs S55 N3 hTs.sm (.r rfl) (.r rfl) rfl (by omega)) rfl <| VO.l (LO.ld O3 (.r rfl) (fun w hw => cells_part (off := 0) ((hTr _) w hw) ⟨_, rfl⟩)) rfl <| VO.h rfl <| HO.callx (xs := [_, _]) (vs := [_, _]) C28 ⟨(.r rfl), (.r rfl), trivial⟩ (fun w hw => by have z := At_o (yC.o oc_ (tAt bs (i + 1))) (tAt bs (i + 1)) w (by omega) (by omega) (gr_lvl hC2) (by rw [gr_tsl hC2]; omega) (hC2.1.inc.imp Int.le_of_lt) hTi.1 (by omega) ((selK (L1 := offR (yC.o oc_ (tAt bs (i + 1)))) [3, 4, 5, 6, 7, 8, 9, 10, 11, 12] rfl rfl _ hw).has (List.Sublist.refl _)); rw [← haz] at z; exact z) fun xc2 _ => VO.h rfl <| HO.lo (LO.mv (.r rfl)) <| VO.h rfl <| HO.lo (LO.ex (.r rfl) rfl) <| VO.h rfl <| HO.lo (LO.ex (.r rfl) rfl) <| VO.h rfl <| HO.lo (LO.as (.r rfl)) <| VO.h rfl <| HO.lo (LO.as (.r rfl)) <| VO.nil ?_)
                  refine VE.seqN ?_
                  refine VC.weak (env' := [(2, _), (3, _), (13, _), (14, _), (15, _), (17, _), (20, _), (24, _), (26, _), (32, _), (34, _), (35, _), (36, _), (37, _), (38, _), (39, _), (40, _)]) (.cons rfl (.cons rfl (.cons rfl (.cons rfl (.cons rfl (.cons rfl (.cons rfl (.cons rfl (.cons rfl (.cons rfl (.cons rfl (.cons rfl (.cons rfl (.cons rfl (.cons rfl (.cons rfl (.cons rfl .nil))))))))))))))))) (fun _ h => h) ?_
                  refine VC.seq ?_
                  refine VC.seq ?_
                  refine VC.reg (VO.l (LO.mv (.r rfl)) rfl <| VO.l (LO.ne (.r rfl) (.r rfl)) rfl <| VO.l (LO.mv (.r rfl)) rfl <| VO.lg rfl rfl (GD.f _) (fun hg => LO.mv (.r rfl)) rfl <| VO.lg rfl rfl (GD.f _) (fun hg => LO.ne (.g hg rfl) (.r rfl)) rfl <| VO.l (LO.pkO (.r rfl) (.r rfl) rfl rfl) rfl <| VO.l (LO.mv (.r rfl)) rfl <| VO.lg rfl rfl (GD.f _) (fun hg => LO.mv (.r rfl)) rfl <| VO.lg rfl rfl (GD.f _) (fun hg => LO.ne (.g hg rfl) (.r rfl)) rfl <| VO.l (LO.pkO (.r rfl) (.r rfl) rfl rfl) rfl <| VO.l (LO.mv (.r rfl)) rfl <| VO.lg rfl rfl (GD.f _) (fun hg => LO.mv (.r rfl)) rfl <| VO.lg rfl rfl (GD.f _) (fun hg => LO.ne (.g hg rfl) (.r rfl)) rfl <| VO.l (LO.pkO (.r rfl) (.r rfl) rfl rfl) rfl <| VO.l (LO.mv (.r rfl)) rfl <| VO.lg rfl rfl (GD.f _) (fun hg => LO.mv (.r rfl)) rfl <| VO.lg rfl rfl (GD.f _) (fun hg => LO.ne (.g hg rfl) (.r rfl)) rfl <| VO.l (LO.pkO (.r rfl) (.r rfl) rfl rfl) rfl <| VO.l (LO.mv (.r rfl)) rfl <| VO.lg rfl rfl (GD.f _) (fun hg => LO.mv (.r rfl)) rfl <| VO.lg rfl rfl (GD.f _) (fun hg => LO.len S55 (.g hg rfl) rfl) rfl <| VO.lg rfl rfl (GD.f _) (fun hg => LO.fa (r := 5) F28_1 (.r rfl) rfl) rfl <| VO.lg rfl rfl (GD.f _) (fun hg => LO.ld O24 (.g hg rfl) (cells_keep (sub_cells (off := 5) hSp ⟨_, rfl⟩))) rfl <| VO.lg rfl rfl (GD.f _) (fun hg => LO.len S24 (.g hg rfl) rfl) rfl <| VO.lg rfl rfl (GD.f _) (fun hg => LO.ne (.g hg rfl) (.g hg rfl)) rfl <| VO.l (LO.pkO (.r rfl) (.r rfl) rfl rfl) rfl <| VO.l (LO.mv (.r rfl)) rfl <| VO.lg rfl rfl (GD.f _) (fun hg => LO.mv (.r rfl)) rfl <| VO.lg rfl rfl (GD.f _) (fun hg => LO.len S55 (.g hg rfl) rfl) rfl <| VO.lg rfl rfl (GD.f _) (fun hg => LO.mv (.r rfl)) rfl <| VO.lg rfl rfl (GD.f _) (fun hg => LO.len S55 (.g hg rfl) rfl) rfl <| VO.lg rfl rfl (GD.f _) (fun hg => LO.ne (.g hg rfl) (.g hg rfl)) rfl <| VO.l (LO.pkO (.r rfl) (.r rfl) rfl rfl) rfl <| VO.l (LO.mv (.r rfl)) rfl <| VO.lg rfl rfl (GD.f _) (fun hg => LO.mv (.r rfl)) rfl <| VO.lg rfl rfl (GD.f _) (fun hg => LO.len S55 (.g hg rfl) rfl) rfl <| VO.lg rfl rfl (GD.f _) (fun hg => LO.mv (.r rfl)) rfl <| VO.lg rfl rfl (GD.f _) (fun hg => LO.len S55 (.g hg rfl) rfl) rfl <| VO.lg rfl rfl (GD.f _) (fun hg => LO.ne (.g hg rfl) (.g hg rfl)) rfl <| VO.l (LO.pkO (.r rfl) (.r rfl) rfl rfl) rfl <| VO.nil ?_)
                  refine VE.seqN ?_
                  refine VC.weak (env' := [(2, _), (3, _), (13, _), (14, _), (15, _), (17, _), (20, _), (24, _), (26, _), (35, _), (37, _), (39, _), (268, _)]) (.cons rfl (.cons rfl (.cons rfl (.cons rfl (.cons rfl (.cons rfl (.cons rfl (.cons rfl (.cons rfl (.cons rfl (.cons rfl (.cons rfl (.cons rfl .nil))))))))))))) (fun _ h => h) ?_
                  refine VC.cond rfl (fun h268 => ?_) (fun h268 => ?_)
                  ·
                    (exfalso; omega)
                  ·
                    refine VC.skip (VE.seqN ?_)
                    refine VC.seq ?_
                    refine VC.reg (VO.l (LO.as (.r rfl)) rfl <| VO.nil ?_)
                    refine VE.seqN ?_
                    refine VC.block ?_
                    refine VC.loopK (α := Nat) 0 (fun gx => [(41, .int .i64 (gx : Nat))]) [(2, _), (3, _), (13, _), (14, _), (15, _), (17, _), (20, _), (24, _), (26, _), (35, _), (37, _), (39, _)] (fun gx => []) (fun gx => gx ≤ rgs.length) (fun gx => rgs.length - gx) 0 (by exact Nat.zero_le _) (.cons rfl (.cons rfl (.cons rfl (.cons rfl (.cons rfl (.cons rfl (.cons rfl (.cons rfl (.cons rfl (.cons rfl (.cons rfl (.cons rfl (.cons rfl .nil))))))))))))) (fun _ h => h) ?_
                    rintro k hk
                    refine VC.seq ?_
                    refine VC.seq ?_
                    refine VC.reg (VO.l (LO.mv (.r rfl)) rfl <| VO.l (LO.mv (.r rfl)) rfl <| VO.l (LO.len S55 (.r rfl) rfl) rfl <| VO.l (LO.lt (.r rfl) (.r rfl)) rfl <| VO.nil ?_)
                    refine VE.seqN ?_
                    refine VC.cond rfl (fun h272 => ?_) (fun h272 => ?_)
                    ·
                      have hk3 : k < (drRegs d 3).length := by omega
                      have hge := gr_ge hA hB2 rfl hd hok hi1 hCk hmo.1 h0.1 h1.1 hk3
                      have heq := gr_eq hA hC2 rfl hd hok hi1 hCk hk3
                      rw [← hax, ← hay] at hge
                      rw [← hax, ← haz, ← hrl] at heq
                      refine VC.skip (VE.seqN ?_)
                      refine VC.seq ?_
                      refine VC.block ?_
                      refine VC.seq ?_
                      refine VC.draw mixed (LL.l (LO.mv (.r rfl)) rfl <| LL.l (LO.mv (.r rfl)) rfl <| LL.l (LO.ixo S55 N3 (fun _ hw => (own_rows hw 1 rfl).some (by rw [List.length_map])) (.r rfl) (.r rfl) rfl (by omega)) rfl <| LL.l (LO.ld O3 (.r rfl) (fun w hw => cells_part (off := 0) (own_cell hw 1 rfl (getD_some (d := (0 : Int)) (by first | omega | (simp only [List.length_set]; omega)))) ⟨_, rfl⟩)) rfl <| LL.l (LO.mv (.r rfl)) rfl <| LL.l (LO.mv (.r rfl)) rfl <| LL.l (LO.ixo S55 N3 (fun _ hw => (own_rows hw 2 rfl).some (by rw [List.length_map])) (.r rfl) (.r rfl) rfl (by omega)) rfl <| LL.l (LO.ld O3 (.r rfl) (fun w hw => cells_part (off := 0) (own_cell hw 2 rfl (getD_some (d := (0 : Int)) (by first | omega | (simp only [List.length_set]; omega)))) ⟨_, rfl⟩)) rfl <| LL.l (LO.lt (.r rfl) (.r rfl)) rfl <| LL.l (LO.mv (.r rfl)) rfl <| LL.lg rfl rfl (GD.f _) (fun hg => LO.mv (.r rfl)) rfl <| LL.lg rfl rfl (GD.f _) (fun hg => LO.mv (.r rfl)) rfl <| LL.lg rfl rfl (GD.f _) (fun hg => LO.len S55 (.g hg rfl) rfl) rfl <| LL.lg rfl rfl (GD.f _) (fun hg => LO.sub (.g hg rfl) (.r rfl) (wi (by omega) (by omega))) rfl <| LL.lg rfl rfl (GD.f _) (fun hg => LO.mv (.r rfl)) rfl <| LL.lg rfl rfl (GD.f _) (fun hg => LO.sub (.g hg rfl) (.g hg rfl) (wi (by omega) (by omega))) rfl <| LL.lg rfl rfl (GD.f _) (fun hg => LO.ixo S55 N3 (fun _ hw => (own_rows hw 0 rfl).some (by rw [List.length_map])) (.g hg rfl) (.g hg rfl) (show _ = ((rgs.length - 1 - k : Nat) : Int) by omega) (by omega)) rfl <| LL.lg rfl rfl (GD.f _) (fun hg => LO.ld O3 (.g hg rfl) (fun w hw => cells_part (off := 0) (own_cell hw 0 rfl (getD_some (d := (0 : Int)) (by first | omega | (simp only [List.length_set]; omega)))) ⟨_, rfl⟩)) rfl <| LL.lg rfl rfl (GD.f _) (fun hg => LO.mv (.r rfl)) rfl <| LL.lg rfl rfl (GD.f _) (fun hg => LO.mv (.r rfl)) rfl <| LL.lg rfl rfl (GD.f _) (fun hg => LO.ixo S55 N3 (fun _ hw => (own_rows hw 2 rfl).some (by rw [List.length_map])) (.g hg rfl) (.g hg rfl) rfl (by omega)) rfl <| LL.lg rfl rfl (GD.f _) (fun hg => LO.ld O3 (.g hg rfl) (fun w hw => cells_part (off := 0) (own_cell hw 2 rfl (getD_some (d := (0 : Int)) (by first | omega | (simp only [List.length_set]; omega)))) ⟨_, rfl⟩)) rfl <| LL.lg rfl rfl (GD.f _) (fun hg => LO.ne (.g hg rfl) (.g hg rfl)) rfl <| LL.l (LO.pkO (.r rfl) (.r rfl) rfl rfl) rfl <| LL.nil) (by kernel_rfl) ?_
                      refine VE.seqN ?_
                      refine VC.weak (env' := [(2, _), (3, _), (13, _), (14, _), (15, _), (17, _), (20, _), (24, _), (26, _), (35, _), (37, _), (39, _), (41, _), (298, _)]) (.cons rfl (.cons rfl (.cons rfl (.cons rfl (.cons rfl (.cons rfl (.cons rfl (.cons rfl (.cons rfl (.cons rfl (.cons rfl (.cons rfl (.cons rfl (.cons rfl .nil)))))))))))))) (fun _ h => h) ?_
                      refine VC.cond rfl (fun h298 => ?_) (fun h298 => ?_)
                      ·
                        (exfalso; (rcases h298 with h | h; (· omega); (· exact h heq)))
                      ·
                        refine VC.skip (VE.inN (VE.seqN ?_))
                        refine VC.reg (VO.l (LO.mv (.r rfl)) rfl <| VO.l (LO.add (.r rfl) (.r rfl) (wi (by omega) (by omega))) rfl <| VO.l (LO.as (.r rfl)) rfl <| VO.nil ?_)
                        refine VE.thenN fun a w ha hw => ⟨k + 1, (by omega), (by omega), ha.sub (.cons rfl (.cons rfl (.cons rfl (.cons rfl (.cons rfl (.cons rfl (.cons rfl (.cons rfl (.cons rfl (.cons rfl (.cons rfl (.cons rfl (.cons rfl .nil))))))))))))), hw⟩
                    ·
                      refine VC.exit (VE.thenX (VE.thenX (VE.inX (VE.inN (VE.seqN ?_)))))
                      refine VC.reg (VO.l (LO.mv (.r rfl)) rfl <| VO.l (LO.add (.r rfl) (.r rfl) (wi (by omega) (by omega))) rfl <| VO.l (LO.as (.r rfl)) rfl <| VO.nil ?_)
                      refine VE.thenN fun a w ha hw => ⟨(i + 1, yB.o ob_ (tAt bs (i + 1)), yC.o oc_ (tAt bs (i + 1))), ⟨by dsimp only; omega, ⟨rfl, rfl⟩, hB2, hC2⟩, (by dsimp only; omega), ha.sub (.cons rfl (.cons rfl (.cons rfl (.cons rfl (.cons rfl (.cons rfl (.cons rfl (.cons rfl (.cons rfl .nil))))))))), (by exact selK (L1 := [_, _, _, _, _, _, _, _, _, _, _, _, _, _, _, _, _, _, _, _, _, _, _]) [15, 16, 17, 18, 19, 20, 21, 22, 23, 24, 4, 5, 6, 7, 8, 9, 10, 11, 12, 13, 29, 30, 31] rfl rfl _ hw)⟩
                ·
                  have hEx : xs.map CP.c = fB bs lc mo i := by unfold fB exL; rw [if_neg (by omega), hxr, List.map_reverse, hEc0, hlc, hqb.1, List.append_nil]
                  refine VC.skip (VE.seqN ?_)
                  refine VC.seq ?_
                  have hqc : qb.2.map CP.c = fA bs lc i := by rw [hEc0, hlc]; exact hqb.1
                  have hEc : xs.map CP.c = fC bs lc i := by rw [hxr, List.map_reverse, hqc]; rfl
                  have hxsl : xs.length ≤ 2 := by rw [hxr, List.length_reverse]; exact hqb.2.1
                  have hxsm : ∀ x, x ∈ xs → x ∈ l := fun x hx => hqb.2.2 x (by rw [hxr] at hx; exact List.mem_reverse.1 hx)
                  refine VC.reg (VO.l (LO.mv (.r rfl)) rfl <| VO.l (LO.mv (.r rfl)) rfl <| VO.l (LO.mv (.r rfl)) rfl <| VO.l (LO.ixs S55 N3 hTs.sm (.r rfl) (.r rfl) rfl (by omega)) rfl <| VO.l (LO.ld O3 (.r rfl) (fun w hw => cells_part (off := 0) ((hTr _) w hw) ⟨_, rfl⟩)) rfl <| VO.l (LO.mv (.r rfl)) rfl <| VO.h rfl <| HO.callP (first := []) (cap := []) (xs := [_, _, _]) (vs := [_, _, _]) [_, _, _, _, _, _, _, _, _, _] [_, _, _, _, _, _, _, _, _, _, _, _, _, _, _, _] (selK (L1 := [_, _, _, _, _, _, _, _, _, _] ++ [_, _, _, _, _, _, _, _, _, _, _, _, _, _, _, _]) [3, 4, 5, 6, 7, 8, 9, 10, 11, 12, 0, 1, 2, 13, 14, 15, 16, 17, 18, 19, 20, 21, 22, 23, 24, 25] rfl rfl) (.r rfl) C27 ⟨(.r rfl), (.r rfl), (.r rfl), trivial⟩ (fun w hw hh => Step_s ob_ _ (tAt bs (i + 1)) (xs) p2_ d2_ w hh (fun hs => clouds_rest hCl hxsm (selK (L1 := offR ob_ ++ [_]) [3, 4, 5, 6, 7, 8, 9, 10, 11, 12, 1] rfl rfl w hw) hs) (by omega) hB.1 (by omega) (by omega) (gr_late hB hok (by omega)) (by rw [hB.2.2]; omega) (by rw [gr_g hB, hEx]; exact fB_look hok hi1 hCk hmo.1)) fun yB hyB => VO.h rfl <| HO.lo (LO.mv (.r rfl)) <| VO.h rfl <| HO.lo (LO.ex (.r rfl) rfl) <| VO.h rfl <| HO.lo (LO.ex (.r rfl) rfl) <| VO.h rfl <| HO.lo (LO.as (.r rfl)) <| VO.h rfl <| HO.lo (LO.as (.r rfl)) <| VO.nil ?_)
                  refine VE.seqN ?_
                  refine VC.weak (env' := [(2, _), (3, _), (13, _), (14, _), (15, _), (17, _), (20, _), (24, _), (26, _), (28, _), (32, _)]) (.cons rfl (.cons rfl (.cons rfl (.cons rfl (.cons rfl (.cons rfl (.cons rfl (.cons rfl (.cons rfl (.cons rfl (.cons rfl .nil))))))))))) (fun _ h => h) ?_
                  refine VC.seq ?_
                  refine VC.reg (VO.l (LO.mv (.r rfl)) rfl <| VO.l (LO.mv (.r rfl)) rfl <| VO.l (LO.mv (.r rfl)) rfl <| VO.l (LO.ixs S55 N3 hTs.sm (.r rfl) (.r rfl) rfl (by omega)) rfl <| VO.l (LO.ld O3 (.r rfl) (fun w hw => cells_part (off := 0) ((hTr _) w hw) ⟨_, rfl⟩)) rfl <| VO.l (LO.mv (.r rfl)) rfl <| VO.h rfl <| HO.callP (first := []) (cap := []) (xs := [_, _, _]) (vs := [_, _, _]) [_, _, _, _, _, _, _, _, _, _] [_, _, _, _, _, _, _, _, _, _, _, _, _, _, _, _, _] (selK (L1 := [_, _, _, _, _, _, _, _, _, _] ++ [_, _, _, _, _, _, _, _, _, _, _, _, _, _, _, _, _]) [14, 15, 16, 17, 18, 19, 20, 21, 22, 23, 0, 1, 2, 3, 4, 5, 6, 7, 8, 9, 10, 11, 12, 13, 24, 25, 26] rfl rfl) (.r rfl) C27 ⟨(.r rfl), (.r rfl), (.r rfl), trivial⟩ (fun w hw hh => Step_s oc_ _ (tAt bs (i + 1)) (xs) p1_ d1_ w hh (fun hs => clouds_rest hCl hxsm (selK (L1 := offR oc_ ++ [_]) [14, 15, 16, 17, 18, 19, 20, 21, 22, 23, 11] rfl rfl w hw) hs) (by omega) hC.1 (by omega) (by omega) (gr_late hC hok (by omega)) (by rw [hC.2.2]; omega) (by rw [gr_g hC, hEc]; exact fC_look hok hi1 hCk)) fun yC hyC => VO.h rfl <| HO.lo (LO.mv (.r rfl)) <| VO.h rfl <| HO.lo (LO.ex (.r rfl) rfl) <| VO.h rfl <| HO.lo (LO.ex (.r rfl) rfl) <| VO.h rfl <| HO.lo (LO.as (.r rfl)) <| VO.h rfl <| HO.lo (LO.as (.r rfl)) <| VO.nil ?_)
                  refine VE.seqN ?_
                  refine VC.seq ?_
                  have hB2 := gr_step hB hEx hyB
                  have hC2 := gr_step hC hEc hyC
                  have hnA := gr_n hA
                  have hnB := gr_n hB2
                  have hnC := gr_n hC2
                  change y.o.rc.length = (drRegs d 3).length at hnA
                  change _ = (drRegs d 3).length at hnB
                  change _ = (drRegs d 3).reverse.length at hnC
                  rw [List.length_reverse] at hnC
                  obtain ⟨ax, hax⟩ : ∃ a, a = atsL y.o (tAt bs (i + 1)) := ⟨_, rfl⟩
                  obtain ⟨ay, hay⟩ : ∃ a, a = atsL (yB.o ob_ (tAt bs (i + 1))) (tAt bs (i + 1)) := ⟨_, rfl⟩
                  obtain ⟨az, haz⟩ : ∃ a, a = atsL (yC.o oc_ (tAt bs (i + 1))) (tAt bs (i + 1)) := ⟨_, rfl⟩
                  have hlx : ax.length = rgs.length := by rw [hax]; unfold atsL; rw [List.length_map]; omega
                  have hly : ay.length = rgs.length := by rw [hay]; unfold atsL; rw [List.length_map]; omega
                  have hlz : az.length = rgs.length := by rw [haz]; unfold atsL; rw [List.length_map]; omega
                  refine VC.reg (VO.l (LO.mv (.r rfl)) rfl <| VO.l (LO.mv (.r rfl)) rfl <| VO.l (LO.mv (.r rfl)) rfl <| VO.l (LO.ixs S55 N3 hTs.sm (.r rfl) (.r rfl) rfl (by omega)) rfl <| VO.l (LO.ld O3 (.r rfl) (fun w hw => cells_part (off := 0) ((hTr _) w hw) ⟨_, rfl⟩)) rfl <| VO.h rfl <| HO.callx (xs := [_, _]) (vs := [_, _]) C28 ⟨(.r rfl), (.r rfl), trivial⟩ (fun w hw => by have z := At_o (y.o) (tAt bs (i + 1)) w (by omega) (by omega) (gr_lvl hA) (by rw [gr_tsl hA]; omega) (hA.1.inc.imp Int.le_of_lt) hTi.1 (by omega) (hOff.keep hw); rw [← hax] at z; exact z) fun xa _ => VO.h rfl <| HO.lo (LO.mv (.r rfl)) <| VO.h rfl <| HO.lo (LO.ex (.r rfl) rfl) <| VO.h rfl <| HO.lo (LO.ex (.r rfl) rfl) <| VO.h rfl <| HO.lo (LO.as (.r rfl)) <| VO.h rfl <| HO.lo (LO.as (.r rfl)) <| VO.nil ?_)
                  refine VE.seqN ?_
                  refine VC.weak (env' := [(2, _), (3, _), (13, _), (14, _), (15, _), (17, _), (20, _), (24, _), (26, _), (32, _), (34, _), (35, _), (36, _)]) (.cons rfl (.cons rfl (.cons rfl (.cons rfl (.cons rfl (.cons rfl (.cons rfl (.cons rfl (.cons rfl (.cons rfl (.cons rfl (.cons rfl (.cons rfl .nil))))))))))))) (fun _ h => h) ?_
                  refine VC.seq ?_
                  refine VC.reg (VO.l (LO.mv (.r rfl)) rfl <| VO.l (LO.mv (.r rfl)) rfl <| VO.l (LO.mv (.r rfl)) rfl <| VO.l (LO.ixs S55 N3 hTs.sm (.r rfl) (.r rfl) rfl (by omega)) rfl <| VO.l (LO.ld O3 (.r rfl) (fun w hw => cells_part (off := 0) ((hTr _) w hw) ⟨_, rfl⟩)) rfl <| VO.h rfl <| HO.callx (xs := [_, _]) (vs := [_, _]) C28 ⟨(.r rfl), (.r rfl), trivial⟩ (fun w hw => by have z := At_o (yB.o ob_ (tAt bs (i + 1))) (tAt bs (i + 1)) w (by omega) (by omega) (gr_lvl hB2) (by rw [gr_tsl hB2]; omega) (hB2.1.inc.imp Int.le_of_lt) hTi.1 (by omega) ((selK (L1 := offR (yB.o ob_ (tAt bs (i + 1)))) [13, 14, 15, 16, 17, 18, 19, 20, 21, 22] rfl rfl _ hw).has (List.Sublist.refl _)); rw [← hay] at z; exact z) fun xb2 _ => VO.h rfl <| HO.lo (LO.mv (.r rfl)) <| VO.h rfl <| HO.lo (LO.ex (.r rfl) rfl) <| VO.h rfl <| HO.lo (LO.ex (.r rfl) rfl) <| VO.h rfl <| HO.lo (LO.as (.r rfl)) <| VO.h rfl <| HO.lo (LO.as (.r rfl)) <| VO.nil ?_)
                  refine VE.seqN ?_
                  refine VC.seq ?_
                  refine VC.reg (VO.l (LO.mv (.r rfl)) rfl <| VO.l (LO.mv (.r rfl)) rfl <| VO.l (LO.mv (.r rfl)) rfl <| VO.l (LO.ixs S55 N3 hTs.sm (.r rfl) (.r rfl) rfl (by omega)) rfl <| VO.l (LO.ld O3 (.r rfl) (fun w hw => cells_part (off := 0) ((hTr _) w hw) ⟨_, rfl⟩)) rfl <| VO.h rfl <| HO.callx (xs := [_, _]) (vs := [_, _]) C28 ⟨(.r rfl), (.r rfl), trivial⟩ (fun w hw => by have z := At_o (yC.o oc_ (tAt bs (i + 1))) (tAt bs (i + 1)) w (by omega) (by omega) (gr_lvl hC2) (by rw [gr_tsl hC2]; omega) (hC2.1.inc.imp Int.le_of_lt) hTi.1 (by omega) ((selK (L1 := offR (yC.o oc_ (tAt bs (i + 1)))) [3, 4, 5, 6, 7, 8, 9, 10, 11, 12] rfl rfl _ hw).has (List.Sublist.refl _)); rw [← haz] at z; exact z) fun xc2 _ => VO.h rfl <| HO.lo (LO.mv (.r rfl)) <| VO.h rfl <| HO.lo (LO.ex (.r rfl) rfl) <| VO.h rfl <| HO.lo (LO.ex (.r rfl) rfl) <| VO.h rfl <| HO.lo (LO.as (.r rfl)) <| VO.h rfl <| HO.lo (LO.as (.r rfl)) <| VO.nil ?_)
                  refine VE.seqN ?_
                  refine VC.weak (env' := [(2, _), (3, _), (13, _), (14, _), (15, _), (17, _), (20, _), (24, _), (26, _), (32, _), (34, _), (35, _), (36, _), (37, _), (38, _), (39, _), (40, _)]) (.cons rfl (.cons rfl (.cons rfl (.cons rfl (.cons rfl (.cons rfl (.cons rfl (.cons rfl (.cons rfl (.cons rfl (.cons rfl (.cons rfl (.cons rfl (.cons rfl (.cons rfl (.cons rfl (.cons rfl .nil))))))))))))))))) (fun _ h => h) ?_
                  refine VC.seq ?_
                  refine VC.seq ?_
                  refine VC.reg (VO.l (LO.mv (.r rfl)) rfl <| VO.l (LO.ne (.r rfl) (.r rfl)) rfl <| VO.l (LO.mv (.r rfl)) rfl <| VO.lg rfl rfl (GD.f _) (fun hg => LO.mv (.r rfl)) rfl <| VO.lg rfl rfl (GD.f _) (fun hg => LO.ne (.g hg rfl) (.r rfl)) rfl <| VO.l (LO.pkO (.r rfl) (.r rfl) rfl rfl) rfl <| VO.l (LO.mv (.r rfl)) rfl <| VO.lg rfl rfl (GD.f _) (fun hg => LO.mv (.r rfl)) rfl <| VO.lg rfl rfl (GD.f _) (fun hg => LO.ne (.g hg rfl) (.r rfl)) rfl <| VO.l (LO.pkO (.r rfl) (.r rfl) rfl rfl) rfl <| VO.l (LO.mv (.r rfl)) rfl <| VO.lg rfl rfl (GD.f _) (fun hg => LO.mv (.r rfl)) rfl <| VO.lg rfl rfl (GD.f _) (fun hg => LO.ne (.g hg rfl) (.r rfl)) rfl <| VO.l (LO.pkO (.r rfl) (.r rfl) rfl rfl) rfl <| VO.l (LO.mv (.r rfl)) rfl <| VO.lg rfl rfl (GD.f _) (fun hg => LO.mv (.r rfl)) rfl <| VO.lg rfl rfl (GD.f _) (fun hg => LO.ne (.g hg rfl) (.r rfl)) rfl <| VO.l (LO.pkO (.r rfl) (.r rfl) rfl rfl) rfl <| VO.l (LO.mv (.r rfl)) rfl <| VO.lg rfl rfl (GD.f _) (fun hg => LO.mv (.r rfl)) rfl <| VO.lg rfl rfl (GD.f _) (fun hg => LO.len S55 (.g hg rfl) rfl) rfl <| VO.lg rfl rfl (GD.f _) (fun hg => LO.fa (r := 5) F28_1 (.r rfl) rfl) rfl <| VO.lg rfl rfl (GD.f _) (fun hg => LO.ld O24 (.g hg rfl) (cells_keep (sub_cells (off := 5) hSp ⟨_, rfl⟩))) rfl <| VO.lg rfl rfl (GD.f _) (fun hg => LO.len S24 (.g hg rfl) rfl) rfl <| VO.lg rfl rfl (GD.f _) (fun hg => LO.ne (.g hg rfl) (.g hg rfl)) rfl <| VO.l (LO.pkO (.r rfl) (.r rfl) rfl rfl) rfl <| VO.l (LO.mv (.r rfl)) rfl <| VO.lg rfl rfl (GD.f _) (fun hg => LO.mv (.r rfl)) rfl <| VO.lg rfl rfl (GD.f _) (fun hg => LO.len S55 (.g hg rfl) rfl) rfl <| VO.lg rfl rfl (GD.f _) (fun hg => LO.mv (.r rfl)) rfl <| VO.lg rfl rfl (GD.f _) (fun hg => LO.len S55 (.g hg rfl) rfl) rfl <| VO.lg rfl rfl (GD.f _) (fun hg => LO.ne (.g hg rfl) (.g hg rfl)) rfl <| VO.l (LO.pkO (.r rfl) (.r rfl) rfl rfl) rfl <| VO.l (LO.mv (.r rfl)) rfl <| VO.lg rfl rfl (GD.f _) (fun hg => LO.mv (.r rfl)) rfl <| VO.lg rfl rfl (GD.f _) (fun hg => LO.len S55 (.g hg rfl) rfl) rfl <| VO.lg rfl rfl (GD.f _) (fun hg => LO.mv (.r rfl)) rfl <| VO.lg rfl rfl (GD.f _) (fun hg => LO.len S55 (.g hg rfl) rfl) rfl <| VO.lg rfl rfl (GD.f _) (fun hg => LO.ne (.g hg rfl) (.g hg rfl)) rfl <| VO.l (LO.pkO (.r rfl) (.r rfl) rfl rfl) rfl <| VO.nil ?_)
                  refine VE.seqN ?_
                  refine VC.weak (env' := [(2, _), (3, _), (13, _), (14, _), (15, _), (17, _), (20, _), (24, _), (26, _), (35, _), (37, _), (39, _), (268, _)]) (.cons rfl (.cons rfl (.cons rfl (.cons rfl (.cons rfl (.cons rfl (.cons rfl (.cons rfl (.cons rfl (.cons rfl (.cons rfl (.cons rfl (.cons rfl .nil))))))))))))) (fun _ h => h) ?_
                  refine VC.cond rfl (fun h268 => ?_) (fun h268 => ?_)
                  ·
                    (exfalso; omega)
                  ·
                    refine VC.skip (VE.seqN ?_)
                    refine VC.seq ?_
                    refine VC.reg (VO.l (LO.as (.r rfl)) rfl <| VO.nil ?_)
                    refine VE.seqN ?_
                    refine VC.block ?_
                    refine VC.loopK (α := Nat) 0 (fun gx => [(41, .int .i64 (gx : Nat))]) [(2, _), (3, _), (13, _), (14, _), (15, _), (17, _), (20, _), (24, _), (26, _), (35, _), (37, _), (39, _)] (fun gx => []) (fun gx => gx ≤ rgs.length) (fun gx => rgs.length - gx) 0 (by exact Nat.zero_le _) (.cons rfl (.cons rfl (.cons rfl (.cons rfl (.cons rfl (.cons rfl (.cons rfl (.cons rfl (.cons rfl (.cons rfl (.cons rfl (.cons rfl (.cons rfl .nil))))))))))))) (fun _ h => h) ?_
                    rintro k hk
                    refine VC.seq ?_
                    refine VC.seq ?_
                    refine VC.reg (VO.l (LO.mv (.r rfl)) rfl <| VO.l (LO.mv (.r rfl)) rfl <| VO.l (LO.len S55 (.r rfl) rfl) rfl <| VO.l (LO.lt (.r rfl) (.r rfl)) rfl <| VO.nil ?_)
                    refine VE.seqN ?_
                    refine VC.cond rfl (fun h272 => ?_) (fun h272 => ?_)
                    ·
                      have hk3 : k < (drRegs d 3).length := by omega
                      have hge := gr_ge hA hB2 rfl hd hok hi1 hCk hmo.1 h0.1 h1.1 hk3
                      have heq := gr_eq hA hC2 rfl hd hok hi1 hCk hk3
                      rw [← hax, ← hay] at hge
                      rw [← hax, ← haz, ← hrl] at heq
                      refine VC.skip (VE.seqN ?_)
                      refine VC.seq ?_
                      refine VC.block ?_
                      refine VC.seq ?_
                      refine VC.draw mixed (LL.l (LO.mv (.r rfl)) rfl <| LL.l (LO.mv (.r rfl)) rfl <| LL.l (LO.ixo S55 N3 (fun _ hw => (own_rows hw 1 rfl).some (by rw [List.length_map])) (.r rfl) (.r rfl) rfl (by omega)) rfl <| LL.l (LO.ld O3 (.r rfl) (fun w hw => cells_part (off := 0) (own_cell hw 1 rfl (getD_some (d := (0 : Int)) (by first | omega | (simp only [List.length_set]; omega)))) ⟨_, rfl⟩)) rfl <| LL.l (LO.mv (.r rfl)) rfl <| LL.l (LO.mv (.r rfl)) rfl <| LL.l (LO.ixo S55 N3 (fun _ hw => (own_rows hw 2 rfl).some (by rw [List.length_map])) (.r rfl) (.r rfl) rfl (by omega)) rfl <| LL.l (LO.ld O3 (.r rfl) (fun w hw => cells_part (off := 0) (own_cell hw 2 rfl (getD_some (d := (0 : Int)) (by first | omega | (simp only [List.length_set]; omega)))) ⟨_, rfl⟩)) rfl <| LL.l (LO.lt (.r rfl) (.r rfl)) rfl <| LL.l (LO.mv (.r rfl)) rfl <| LL.lg rfl rfl (GD.f _) (fun hg => LO.mv (.r rfl)) rfl <| LL.lg rfl rfl (GD.f _) (fun hg => LO.mv (.r rfl)) rfl <| LL.lg rfl rfl (GD.f _) (fun hg => LO.len S55 (.g hg rfl) rfl) rfl <| LL.lg rfl rfl (GD.f _) (fun hg => LO.sub (.g hg rfl) (.r rfl) (wi (by omega) (by omega))) rfl <| LL.lg rfl rfl (GD.f _) (fun hg => LO.mv (.r rfl)) rfl <| LL.lg rfl rfl (GD.f _) (fun hg => LO.sub (.g hg rfl) (.g hg rfl) (wi (by omega) (by omega))) rfl <| LL.lg rfl rfl (GD.f _) (fun hg => LO.ixo S55 N3 (fun _ hw => (own_rows hw 0 rfl).some (by rw [List.length_map])) (.g hg rfl) (.g hg rfl) (show _ = ((rgs.length - 1 - k : Nat) : Int) by omega) (by omega)) rfl <| LL.lg rfl rfl (GD.f _) (fun hg => LO.ld O3 (.g hg rfl) (fun w hw => cells_part (off := 0) (own_cell hw 0 rfl (getD_some (d := (0 : Int)) (by first | omega | (simp only [List.length_set]; omega)))) ⟨_, rfl⟩)) rfl <| LL.lg rfl rfl (GD.f _) (fun hg => LO.mv (.r rfl)) rfl <| LL.lg rfl rfl (GD.f _) (fun hg => LO.mv (.r rfl)) rfl <| LL.lg rfl rfl (GD.f _) (fun hg => LO.ixo S55 N3 (fun _ hw => (own_rows hw 2 rfl).some (by rw [List.length_map])) (.g hg rfl) (.g hg rfl) rfl (by omega)) rfl <| LL.lg rfl rfl (GD.f _) (fun hg => LO.ld O3 (.g hg rfl) (fun w hw => cells_part (off := 0) (own_cell hw 2 rfl (getD_some (d := (0 : Int)) (by first | omega | (simp only [List.length_set]; omega)))) ⟨_, rfl⟩)) rfl <| LL.lg rfl rfl (GD.f _) (fun hg => LO.ne (.g hg rfl) (.g hg rfl)) rfl <| LL.l (LO.pkO (.r rfl) (.r rfl) rfl rfl) rfl <| LL.nil) (by kernel_rfl) ?_
                      refine VE.seqN ?_
                      refine VC.weak (env' := [(2, _), (3, _), (13, _), (14, _), (15, _), (17, _), (20, _), (24, _), (26, _), (35, _), (37, _), (39, _), (41, _), (298, _)]) (.cons rfl (.cons rfl (.cons rfl (.cons rfl (.cons rfl (.cons rfl (.cons rfl (.cons rfl (.cons rfl (.cons rfl (.cons rfl (.cons rfl (.cons rfl (.cons rfl .nil)))))))))))))) (fun _ h => h) ?_
                      refine VC.cond rfl (fun h298 => ?_) (fun h298 => ?_)
                      ·
                        (exfalso; (rcases h298 with h | h; (· omega); (· exact h heq)))
                      ·
                        refine VC.skip (VE.inN (VE.seqN ?_))
                        refine VC.reg (VO.l (LO.mv (.r rfl)) rfl <| VO.l (LO.add (.r rfl) (.r rfl) (wi (by omega) (by omega))) rfl <| VO.l (LO.as (.r rfl)) rfl <| VO.nil ?_)
                        refine VE.thenN fun a w ha hw => ⟨k + 1, (by omega), (by omega), ha.sub (.cons rfl (.cons rfl (.cons rfl (.cons rfl (.cons rfl (.cons rfl (.cons rfl (.cons rfl (.cons rfl (.cons rfl (.cons rfl (.cons rfl (.cons rfl .nil))))))))))))), hw⟩
                    ·
                      refine VC.exit (VE.thenX (VE.thenX (VE.inX (VE.inN (VE.seqN ?_)))))
                      refine VC.reg (VO.l (LO.mv (.r rfl)) rfl <| VO.l (LO.add (.r rfl) (.r rfl) (wi (by omega) (by omega))) rfl <| VO.l (LO.as (.r rfl)) rfl <| VO.nil ?_)
                      refine VE.thenN fun a w ha hw => ⟨(i + 1, yB.o ob_ (tAt bs (i + 1)), yC.o oc_ (tAt bs (i + 1))), ⟨by dsimp only; omega, ⟨rfl, rfl⟩, hB2, hC2⟩, (by dsimp only; omega), ha.sub (.cons rfl (.cons rfl (.cons rfl (.cons rfl (.cons rfl (.cons rfl (.cons rfl (.cons rfl (.cons rfl .nil))))))))), (by exact selK (L1 := [_, _, _, _, _, _, _, _, _, _, _, _, _, _, _, _, _, _, _, _, _, _, _]) [15, 16, 17, 18, 19, 20, 21, 22, 23, 24, 4, 5, 6, 7, 8, 9, 10, 11, 12, 13, 28, 29, 30] rfl rfl _ hw)⟩
            ·
              refine VC.exit (VE.thenX (VE.thenX (VE.inX (VE.seqN ?_))))
              refine VC.seq ?_
              have hie : i = bs.length := by omega
              rw [hie] at hC
              have hfd := gr_find hA hC rfl hd hok hCk
              have hnC := gr_n hC
              change _ = (drRegs d 3).reverse.length at hnC
              rw [List.length_reverse] at hnC
              have hcsb : y.o.cs.length ≤ 400 := by have h1 := hS1.wf.cs; have h2 : y.o.ts.length = bs.length := (by rw [gr_ts hA]; simp [tmB]); omega
              have hrb : ∀ q, q < oc_.cs.length → 0 ≤ (oc_.cs.getD q zCs).rg ∧ (oc_.cs.getD q zCs).rg < (rgs.length : Int) := fun q hq => by have z := (gr_csok hC).rg q _ (by rw [List.getElem?_map, getD_some (d := zCs) hq]; rfl); rw [show (trnSp d).regs.length = rgs.length from (List.length_reverse ..).trans hrl.symm] at z; exact z
              refine VC.reg (VO.l (LO.mv (.r rfl)) rfl <| VO.h rfl <| HO.callx (xs := [_]) (vs := [_]) C22 ⟨(.r rfl), trivial⟩ (fun w hw => Cases_c y.o w (by omega) (by omega) (by omega) (hOff.keep hw)) fun xp _ => VO.l (LO.mv (.r rfl)) rfl <| VO.h rfl <| HO.callx (xs := [_]) (vs := [_]) C22 ⟨(.r rfl), trivial⟩ (fun w hw => Cases_c oc_ w (by omega) (by omega) (by omega) ((selK (L1 := offR oc_) [11, 12, 13, 14, 15, 16, 17, 18, 19, 20] rfl rfl _ hw).has (List.Sublist.refl _))) fun xq _ => VO.h rfl <| HO.lo (LO.as (.r rfl)) <| VO.h rfl <| HO.lo (LO.as (.r rfl)) <| VO.nil ?_)
              refine VE.seqN ?_
              refine VC.seq ?_
              refine VC.seq ?_
              refine VC.reg (VO.l (LO.mv (.r rfl)) rfl <| VO.l (LO.len S58 (.r rfl) rfl) rfl <| VO.l (LO.mv (.r rfl)) rfl <| VO.l (LO.len S58 (.r rfl) rfl) rfl <| VO.l (LO.ne (.r rfl) (.r rfl)) rfl <| VO.nil ?_)
              refine VE.seqN ?_
              refine VC.cond rfl (fun h307 => ?_) (fun h307 => ?_)
              ·
                (exfalso; (have := hfd.1; omega))
              ·
                refine VC.skip (VE.seqN ?_)
                refine VC.seq ?_
                refine VC.seq ?_
                refine VC.reg (VO.l (LO.as (.r rfl)) rfl <| VO.nil ?_)
                refine VE.seqN ?_
                refine VC.weak (env' := [(13, _), (42, _), (43, _), (44, _)]) (.cons rfl (.cons rfl (.cons rfl (.cons rfl .nil)))) (fun _ h => h) ?_
                refine VC.block ?_
                refine VC.loopK (α := Nat) 0 (fun gx => [(44, .int .i64 (gx : Nat))]) [(13, _), (42, _), (43, _)] (fun gx => []) (fun gx => gx ≤ y.o.cs.length) (fun gx => y.o.cs.length - gx) 0 (by exact Nat.zero_le _) (.cons rfl (.cons rfl (.cons rfl (.cons rfl .nil)))) (fun _ h => h) ?_
                rintro i2 hi2
                refine VC.seq ?_
                refine VC.seq ?_
                refine VC.reg (VO.l (LO.mv (.r rfl)) rfl <| VO.l (LO.mv (.r rfl)) rfl <| VO.l (LO.len S58 (.r rfl) rfl) rfl <| VO.l (LO.lt (.r rfl) (.r rfl)) rfl <| VO.nil ?_)
                refine VE.seqN ?_
                refine VC.cond rfl (fun h311 => ?_) (fun h311 => ?_)
                ·
                  have hi3 : i2 < y.o.cs.length := by omega
                  refine VC.skip (VE.seqN ?_)
                  refine VC.seq ?_
                  refine VC.block ?_
                  refine VC.seq ?_
                  refine VC.reg (VO.l (LO.as (.r rfl)) rfl <| VO.nil ?_)
                  refine VE.seqN ?_
                  refine VC.seq ?_
                  refine VC.seq ?_
                  refine VC.reg (VO.l (LO.as (.r rfl)) rfl <| VO.nil ?_)
                  refine VE.seqN ?_
                  refine VC.block ?_
                  refine VC.loopK (α := Nat × Bool) 0 (fun gx => [(45, .bool gx.2), (46, .int .i64 (gx.1 : Nat))]) [(13, _), (42, _), (43, _), (44, _)] (fun gx => []) (fun gx => gx.1 ≤ oc_.cs.length ∧ ∀ q, q < gx.1 → MtC rgs.length (y.o.cs.getD i2 zCs) (oc_.cs.getD q zCs) → gx.2 = true) (fun gx => oc_.cs.length - gx.1) (0, false) (by exact ⟨Nat.zero_le _, fun q hq => by omega⟩) (.cons rfl (.cons rfl (.cons rfl (.cons rfl (.cons rfl (.cons rfl .nil)))))) (fun _ h => h) ?_
                  rintro ⟨k2, sm⟩ ⟨hk2, hsm⟩
                  show VC _ _ _ _ _ ([(45, .bool sm), (46, .int .i64 (k2 : Nat))] ++ _) ([] ++ _) _ _
                  dsimp only at hk2 hsm
                  refine VC.seq ?_
                  refine VC.seq ?_
                  refine VC.reg (VO.l (LO.mv (.r rfl)) rfl <| VO.l (LO.mv (.r rfl)) rfl <| VO.l (LO.len S58 (.r rfl) rfl) rfl <| VO.l (LO.lt (.r rfl) (.r rfl)) rfl <| VO.nil ?_)
                  refine VE.seqN ?_
                  refine VC.cond rfl (fun h317 => ?_) (fun h317 => ?_)
                  ·
                    refine VC.skip (VE.seqN ?_)
                    refine VC.seq ?_
                    refine VC.block ?_
                    refine VC.draw mixed (LL.l (LO.mv (.r rfl)) rfl <| LL.l (LO.mv (.r rfl)) rfl <| LL.lg rfl rfl (GD.f _) (fun hg => LO.mv (.r rfl)) rfl <| LL.lg rfl rfl (GD.f _) (fun hg => LO.mv (.r rfl)) rfl <| LL.lg rfl rfl (GD.f _) (fun hg => LO.ixo S58 N64 (fun _ hw => (own_rows hw 1 rfl).some (by rw [List.length_map])) (.g hg rfl) (.g hg rfl) rfl (by omega)) rfl <| LL.lg rfl rfl (GD.f _) (fun hg => LO.fa F64_1 (.g hg rfl) rfl) rfl <| LL.lg rfl rfl (GD.f _) (fun hg => LO.ld O3 (.g hg rfl) (fun w hw => cells_part (off := 1) (own_cell hw 1 rfl (getD_some (d := zCs) (by omega))) ⟨_, rfl⟩)) rfl <| LL.lg rfl rfl (GD.f _) (fun hg => LO.fa (r := 5) F28_1 (.r rfl) rfl) rfl <| LL.lg rfl rfl (GD.f _) (fun hg => LO.ld O24 (.g hg rfl) (cells_keep (sub_cells (off := 5) hSp ⟨_, rfl⟩))) rfl <| LL.lg rfl rfl (GD.f _) (fun hg => LO.len S24 (.g hg rfl) rfl) rfl <| LL.lg rfl rfl (GD.f _) (fun hg => LO.sub (.g hg rfl) (.r rfl) (wi (by omega) (by omega))) rfl <| LL.lg rfl rfl (GD.f _) (fun hg => LO.mv (.r rfl)) rfl <| LL.lg rfl rfl (GD.f _) (fun hg => LO.mv (.r rfl)) rfl <| LL.lg rfl rfl (GD.f _) (fun hg => LO.ixo S58 N64 (fun _ hw => (own_rows hw 0 rfl).some (by rw [List.length_map])) (.g hg rfl) (.g hg rfl) rfl (by omega)) rfl <| LL.lg rfl rfl (GD.f _) (fun hg => LO.fa F64_1 (.g hg rfl) rfl) rfl <| LL.lg rfl rfl (GD.f _) (fun hg => LO.ld O3 (.g hg rfl) (fun w hw => cells_part (off := 1) (own_cell hw 0 rfl (getD_some (d := zCs) (by omega))) ⟨_, rfl⟩)) rfl <| LL.lg rfl rfl (GD.f _) (fun hg => LO.sub (.g hg rfl) (.g hg rfl) (wi (by have := hrb k2 (by omega); omega) (by have := hrb k2 (by omega); omega))) rfl <| LL.lg rfl rfl (GD.f _) (fun hg => LO.eq (.g hg rfl) (.g hg rfl)) rfl <| LL.lg rfl rfl (GD.f _) (fun hg => LO.mv (.g hg rfl)) rfl <| LL.lg rfl rfl (GD.nt _ _) (fun hg => LO.mv (.r rfl)) rfl <| LL.lg rfl rfl (GD.nt _ _) (fun hg => LO.mv (.r rfl)) rfl <| LL.lg rfl rfl (GD.nt _ _) (fun hg => LO.ixo S58 N64 (fun _ hw => (own_rows hw 1 rfl).some (by rw [List.length_map])) (.g hg rfl) (.g hg rfl) rfl (by omega)) rfl <| LL.lg rfl rfl (GD.nt _ _) (fun hg => LO.fa F64_2 (.g hg rfl) rfl) rfl <| LL.lg rfl rfl (GD.nt _ _) (fun hg => LO.ld O3 (.g hg rfl) (fun w hw => cells_part (off := 2) (own_cell hw 1 rfl (getD_some (d := zCs) (by omega))) ⟨_, rfl⟩)) rfl <| LL.lg rfl rfl (GD.nt _ _) (fun hg => LO.mv (.r rfl)) rfl <| LL.lg rfl rfl (GD.nt _ _) (fun hg => LO.mv (.r rfl)) rfl <| LL.lg rfl rfl (GD.nt _ _) (fun hg => LO.ixo S58 N64 (fun _ hw => (own_rows hw 0 rfl).some (by rw [List.length_map])) (.g hg rfl) (.g hg rfl) rfl (by omega)) rfl <| LL.lg rfl rfl (GD.nt _ _) (fun hg => LO.fa F64_2 (.g hg rfl) rfl) rfl <| LL.lg rfl rfl (GD.nt _ _) (fun hg => LO.ld O3 (.g hg rfl) (fun w hw => cells_part (off := 2) (own_cell hw 0 rfl (getD_some (d := zCs) (by omega))) ⟨_, rfl⟩)) rfl <| LL.lg rfl rfl (GD.nt _ _) (fun hg => LO.eq (.g hg rfl) (.g hg rfl)) rfl <| LL.lg rfl rfl (GD.f _) (fun hg => LO.pkA (.g hg rfl) rfl (and_e hg) (.r rfl)) rfl <| LL.lg rfl rfl (GD.f _) (fun hg => LO.mv (.g hg rfl)) rfl <| LL.lg rfl rfl (GD.nt _ _) (fun hg => LO.mv (.r rfl)) rfl <| LL.lg rfl rfl (GD.nt _ _) (fun hg => LO.mv (.r rfl)) rfl <| LL.lg rfl rfl (GD.nt _ _) (fun hg => LO.ixo S58 N64 (fun _ hw => (own_rows hw 1 rfl).some (by rw [List.length_map])) (.g hg rfl) (.g hg rfl) rfl (by omega)) rfl <| LL.lg rfl rfl (GD.nt _ _) (fun hg => LO.fa F64_3 (.g hg rfl) rfl) rfl <| LL.lg rfl rfl (GD.nt _ _) (fun hg => LO.ld O3 (.g hg rfl) (fun w hw => cells_part (off := 3) (own_cell hw 1 rfl (getD_some (d := zCs) (by omega))) ⟨_, rfl⟩)) rfl <| LL.lg rfl rfl (GD.nt _ _) (fun hg => LO.mv (.r rfl)) rfl <| LL.lg rfl rfl (GD.nt _ _) (fun hg => LO.mv (.r rfl)) rfl <| LL.lg rfl rfl (GD.nt _ _) (fun hg => LO.ixo S58 N64 (fun _ hw => (own_rows hw 0 rfl).some (by rw [List.length_map])) (.g hg rfl) (.g hg rfl) rfl (by omega)) rfl <| LL.lg rfl rfl (GD.nt _ _) (fun hg => LO.fa F64_3 (.g hg rfl) rfl) rfl <| LL.lg rfl rfl (GD.nt _ _) (fun hg => LO.ld O3 (.g hg rfl) (fun w hw => cells_part (off := 3) (own_cell hw 0 rfl (getD_some (d := zCs) (by omega))) ⟨_, rfl⟩)) rfl <| LL.lg rfl rfl (GD.nt _ _) (fun hg => LO.eq (.g hg rfl) (.g hg rfl)) rfl <| LL.lg rfl rfl (GD.f _) (fun hg => LO.pkA (.g hg rfl) rfl (and_e hg) (.r rfl)) rfl <| LL.lg rfl rfl (GD.f _) (fun hg => LO.mv (.g hg rfl)) rfl <| LL.lg rfl rfl (GD.nt _ _) (fun hg => LO.mv (.r rfl)) rfl <| LL.lg rfl rfl (GD.nt _ _) (fun hg => LO.mv (.r rfl)) rfl <| LL.lg rfl rfl (GD.nt _ _) (fun hg => LO.ixo S58 N64 (fun _ hw => (own_rows hw 1 rfl).some (by rw [List.length_map])) (.g hg rfl) (.g hg rfl) rfl (by omega)) rfl <| LL.lg rfl rfl (GD.nt _ _) (fun hg => LO.fa F64_4 (.g hg rfl) rfl) rfl <| LL.lg rfl rfl (GD.nt _ _) (fun hg => LO.ld O3 (.g hg rfl) (fun w hw => cells_part (off := 4) (own_cell hw 1 rfl (getD_some (d := zCs) (by omega))) ⟨_, rfl⟩)) rfl <| LL.lg rfl rfl (GD.nt _ _) (fun hg => LO.mv (.r rfl)) rfl <| LL.lg rfl rfl (GD.nt _ _) (fun hg => LO.mv (.r rfl)) rfl <| LL.lg rfl rfl (GD.nt _ _) (fun hg => LO.ixo S58 N64 (fun _ hw => (own_rows hw 0 rfl).some (by rw [List.length_map])) (.g hg rfl) (.g hg rfl) rfl (by omega)) rfl <| LL.lg rfl rfl (GD.nt _ _) (fun hg => LO.fa F64_4 (.g hg rfl) rfl) rfl <| LL.lg rfl rfl (GD.nt _ _) (fun hg => LO.ld O3 (.g hg rfl) (fun w hw => cells_part (off := 4) (own_cell hw 0 rfl (getD_some (d := zCs) (by omega))) ⟨_, rfl⟩)) rfl <| LL.lg rfl rfl (GD.nt _ _) (fun hg => LO.eq (.g hg rfl) (.g hg rfl)) rfl <| LL.lg rfl rfl (GD.f _) (fun hg => LO.pkA (.g hg rfl) rfl (and_e hg) (.r rfl)) rfl <| LL.l (LO.pkO (.r rfl) (.r rfl) rfl rfl) rfl <| LL.l (LO.as (.r rfl)) rfl <| LL.nil) (by kernel_rfl) ?_
                    refine VE.inN (VE.seqN ?_)
                    refine VC.weak (env' := [(13, _), (42, _), (43, _), (44, _), (45, _), (46, _)]) (.cons rfl (.cons rfl (.cons rfl (.cons rfl (.cons rfl (.cons rfl .nil)))))) (fun _ h => h) ?_
                    refine VC.reg (VO.l (LO.mv (.r rfl)) rfl <| VO.l (LO.add (.r rfl) (.r rfl) (wi (by omega) (by omega))) rfl <| VO.l (LO.as (.r rfl)) rfl <| VO.nil ?_)
                    refine VE.thenN fun a w ha hw => ⟨(k2 + 1, (sm || (((decide ((y.o.cs.getD i2 zCs).rg = (rgs.length : Int) - 1 - (oc_.cs.getD k2 zCs).rg) && decide ((y.o.cs.getD i2 zCs).bg = (oc_.cs.getD k2 zCs).bg)) && decide ((y.o.cs.getD i2 zCs).en = (oc_.cs.getD k2 zCs).en)) && decide ((y.o.cs.getD i2 zCs).pk = (oc_.cs.getD k2 zCs).pk)))), ⟨by dsimp only; omega, mt_step hsm mt_eq⟩, (by dsimp only; omega), ha.sub (.cons rfl (.cons rfl (.cons rfl (.cons rfl (.cons rfl (.cons rfl .nil)))))), hw⟩
                  ·
                    refine VC.exit (VE.thenX (VE.thenX (VE.inX (VE.seqN ?_))))
                    refine VC.seq ?_
                    refine VC.reg (VO.l (LO.mv (.r rfl)) rfl <| VO.l (LO.not (.r rfl)) rfl <| VO.nil ?_)
                    refine VE.seqN ?_
                    refine VC.cond rfl (fun h379 => ?_) (fun h379 => ?_)
                    ·
                      (exfalso; (obtain ⟨q, c2, hq, e1, e2, e3, e4⟩ := hfd.2 _ (getD_mem (d := zCs) hi3); refine h379 (hsm q (by have := (List.getElem?_eq_some_iff.1 hq).1; omega) ?_); rw [getD_of hq]; exact ⟨by rw [hrl]; exact e1, e2, e3, e4⟩))
                    ·
                      refine VC.skip (VE.inN (VE.seqN ?_))
                      refine VC.reg (VO.l (LO.mv (.r rfl)) rfl <| VO.l (LO.add (.r rfl) (.r rfl) (wi (by omega) (by omega))) rfl <| VO.l (LO.as (.r rfl)) rfl <| VO.nil ?_)
                      refine VE.thenN fun a w ha hw => ⟨i2 + 1, (by omega), (by omega), ha.sub (.cons rfl (.cons rfl (.cons rfl (.cons rfl .nil)))), hw⟩
                ·
                  refine VC.exit (VE.thenX (VE.thenX (VE.inX (VE.seqN ?_))))
                  refine VC.seq ?_
                  refine VC.reg (VO.l (LO.call (xs := []) (vs := []) C14 trivial (fun w _ => works_c w)) rfl <| VO.l (LO.as (.r rfl)) rfl <| VO.nil ?_)
                  refine VE.seqN ?_
                  refine VC.ret (VE.res (vs := [_]) rfl ⟨rfl, trivial⟩ (fun w hw => ?_))
                  first | exact ⟨rfl, hw1.based hw⟩ | exact ⟨rfl, hw.nil⟩

end Go.Proofs.Ytdjflomhaljljaa

namespace Go.Proofs.Ytdjflomhaljljaa
open Go.SL Go.Proofs Go.Cast
set_option linter.unusedVariables false


section
variable {H : Type} {enc : TypeId × Value → H} {W : World}
end

end Go.Proofs.Ytdjflomhaljljaa

namespace Go.Proofs.Ytdjflomhaljljaa
open Go.SL Go.Proofs Go.Cast
set_option linter.unusedVariables false


theorem kb_u8 {n : Int} (h : kb .u8 n) : 0 ≤ n ∧ n ≤ 255 := by simpa [kb, IntKind.min, IntKind.max, IntKind.signed, IntKind.bits] using h
theorem kb_u16 {n : Int} (h : kb .u16 n) : 0 ≤ n ∧ n ≤ 65535 := by simpa [kb, IntKind.min, IntKind.max, IntKind.signed, IntKind.bits] using h
theorem kb_i16 {n : Int} (h : kb .i16 n) : -32768 ≤ n ∧ n ≤ 32767 := by simpa [kb, IntKind.min, IntKind.max, IntKind.signed, IntKind.bits] using h
theorem K5 : Try.prog.cellsOf 5 = 1 := by kernel_rfl
theorem K45 : Try.prog.cellsOf 45 = 20 := by kernel_rfl
theorem K145 : Try.prog.cellsOf 145 = 1 := by kernel_rfl
theorem K146 : Try.prog.cellsOf 146 = 2 := by kernel_rfl
theorem K148 : Try.prog.cellsOf 148 = 25 := by kernel_rfl
theorem K66 : Try.prog.cellsOf 66 = 4 := by kernel_rfl

theorem flat_one {α : Type} {f : α → Value} : ∀ (l : List α), ((l.map fun x => [f x]).flatten) = l.map f
  | [] => rfl
  | x :: l => by simp [flat_one l]
section
variable {H : Type} {enc : TypeId × Value → H} {W : World}
theorem rd4b : RD enc Try.prog W 4 fun cs => ∃ b, cs = [.bool b] := RD.bool Try.underlying4
theorem rd5 : RD enc Try.prog W 5 fun cs => ∃ n, cs = [.int .u8 n] ∧ kb .u8 n := RD.int Try.underlying5
theorem rd46 : RD enc Try.prog W 46 fun cs => ∃ n, cs = [.int .u16 n] ∧ kb .u16 n := RD.int Try.underlying46
theorem rd145 : RD enc Try.prog W 145 fun cs => ∃ n, cs = [.int .i16 n] ∧ kb .i16 n := RD.int Try.underlying145

theorem rd45 : RD enc Try.prog W 45 fun cs => ∃ px : List Int, cs = px.map u8V ∧ px.length = 20 ∧ ∀ n, n ∈ px → U8 n := fun n cs x hx => by
  obtain ⟨css, rfl, hlen, hp⟩ := trod_cells Try.underlying45 K5 K45 hx rd5
  obtain ⟨l, rfl, hl⟩ := rows_map (f := fun n => [u8V n]) (Q := U8) (fun r hr => by obtain ⟨_, m, h1, h2⟩ := hp r hr; exact ⟨m, h1, kb_u8 h2⟩)
  exact ⟨l, flat_one l, by simpa using hlen, hl⟩
theorem rd146 : RD enc Try.prog W 146 fun cs => ∃ a b : Int, cs = [.int .i16 a, .int .i16 b] ∧ I16 a ∧ I16 b := fun n cs x hx => by
  obtain ⟨css, rfl, hlen, hp⟩ := trod_cells Try.underlying146 K145 K146 hx rd145
  match css, hlen with
  | [c0, c1], _ =>
    obtain ⟨_, a, rfl, ha⟩ := hp c0 (by simp)
    obtain ⟨_, b, rfl, hb⟩ := hp c1 (by simp)
    exact ⟨a, b, rfl, kb_i16 ha, kb_i16 hb⟩
theorem rd48 : RD enc Try.prog W 48 fun cs => ∃ d : DrM, cs = d.cells ∧ d.ok := fun n cs x hx => by
  obtain ⟨css, rfl, hlen, _, hp⟩ := trod_parts Try.underlying48 (zs := [20, 1, 1, 1]) (by kernel_rfl) rfl (by kernel_rfl) hx
  match css, hlen with
  | [c0, c1, c2, c3], _ =>
    obtain ⟨_, _, h0⟩ := hp 0 _ c0 rfl rfl
    obtain ⟨_, _, h1⟩ := hp 1 _ c1 rfl rfl
    obtain ⟨_, _, h2⟩ := hp 2 _ c2 rfl rfl
    obtain ⟨_, _, h3⟩ := hp 3 _ c3 rfl rfl
    obtain ⟨px, rfl, hl, hu⟩ := rd45 _ _ _ h0
    obtain ⟨a, rfl, ha⟩ := rd46 _ _ _ h1
    obtain ⟨b, rfl, hb⟩ := rd46 _ _ _ h2
    obtain ⟨c, rfl, hc⟩ := rd46 _ _ _ h3
    exact ⟨⟨px, a, b, c⟩, by simp, hl, hu, kb_u16 ha, kb_u16 hb, kb_u16 hc⟩
theorem rd148 : RD enc Try.prog W 148 fun cs => ∃ c : ClM, cs = c.cells ∧ c.ok := fun n cs x hx => by
  obtain ⟨css, rfl, hlen, _, hp⟩ := trod_parts Try.underlying148 (zs := [20, 2, 2, 1]) (by kernel_rfl) rfl (by kernel_rfl) hx
  match css, hlen with
  | [c0, c1, c2, c3], _ =>
    obtain ⟨_, _, h0⟩ := hp 0 _ c0 rfl rfl
    obtain ⟨_, _, h1⟩ := hp 1 _ c1 rfl rfl
    obtain ⟨_, _, h2⟩ := hp 2 _ c2 rfl rfl
    obtain ⟨_, _, h3⟩ := hp 3 _ c3 rfl rfl
    obtain ⟨px, rfl, hl, hu⟩ := rd45 _ _ _ h0
    obtain ⟨a, b, rfl, ha, hb⟩ := rd146 _ _ _ h1
    obtain ⟨c, d, rfl, hc, hd⟩ := rd146 _ _ _ h2
    obtain ⟨g, rfl, hg⟩ := rd5 _ _ _ h3
    exact ⟨⟨px, a, b, c, d, g⟩, by simp, hl, hu, ha, hb, hc, hd, kb_u8 hg⟩
theorem rd66 : RD enc Try.prog W 66 fun cs => ∃ b : BtM, cs = b.cells ∧ b.ok := fun n cs x hx => by
  obtain ⟨css, rfl, hlen, _, hp⟩ := trod_parts Try.underlying66 (zs := [1, 1, 1, 1]) (by kernel_rfl) rfl (by kernel_rfl) hx
  match css, hlen with
  | [c0, c1, c2, c3], _ =>
    obtain ⟨_, _, h0⟩ := hp 0 _ c0 rfl rfl
    obtain ⟨_, _, h1⟩ := hp 1 _ c1 rfl rfl
    obtain ⟨_, _, h2⟩ := hp 2 _ c2 rfl rfl
    obtain ⟨_, _, h3⟩ := hp 3 _ c3 rfl rfl
    obtain ⟨a, rfl, ha⟩ := rd46 _ _ _ h0
    obtain ⟨b, rfl, hb⟩ := rd5 _ _ _ h1
    obtain ⟨c, rfl, hc⟩ := rd5 _ _ _ h2
    obtain ⟨d, rfl⟩ := rd4b _ _ _ h3
    exact ⟨⟨a, b, c, d⟩, rfl, kb_u16 ha, kb_u8 hb, kb_u8 hc⟩
theorem rd49 : RD enc Try.prog W 49 fun cs => ∃ (p : Option Addr) (cap : Nat) (l : List ClM), cs = [.slice p l.length cap] ∧ ClsM W p l := fun n cs x hx => by
  obtain ⟨p, cap, rows, rfl, h1, h2, h3⟩ := RD.slice Try.underlying49 K148 (by decide) rd148 _ _ _ hx
  obtain ⟨l, rfl, h5⟩ := rows_map (f := ClM.cells) (Q := ClM.ok) (fun r hr => by obtain ⟨x, h6, h7⟩ := (h3 r hr).2; exact ⟨x, h6, h7⟩)
  exact ⟨p, cap, l, by simp, h2, h5⟩
theorem rd50 : RD enc Try.prog W 50 fun cs => ∃ (p : Option Addr) (cap : Nat) (l : List BtM), cs = [.slice p l.length cap] ∧ BtsM W p l := fun n cs x hx => by
  obtain ⟨p, cap, rows, rfl, h1, h2, h3⟩ := RD.slice Try.underlying50 K66 (by decide) rd66 _ _ _ hx
  obtain ⟨l, rfl, h5⟩ := rows_map (f := BtM.cells) (Q := BtM.ok) (fun r hr => by obtain ⟨x, h6, h7⟩ := (h3 r hr).2; exact ⟨x, h6, h7⟩)
  exact ⟨p, cap, l, by simp, h2, h5⟩
end

end Go.Proofs.Ytdjflomhaljljaa
