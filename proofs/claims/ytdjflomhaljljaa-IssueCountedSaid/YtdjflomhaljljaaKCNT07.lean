/-
  Clouds by numbers, and beats.
  Drafts make valid services, and clouds by numbers are valid.
  Offices that have made their steps.
  What IssueNumbered rests on, in plain words.
  The steps of a draft: events and warnings, one by one.
  IssueThreats is walked.
  Frames of the laws about drafts.
  Notes, and what is refused.
  Logs.
  Entries are played.
  Logs are played.
  IssueFull is walked.
  Tallies of nothing.
  A new office of the document.
  What an office of the document answers before any step.
  Offices without a step answer alike.
  IssueChecks is walked.
  What a cloud does in truth, pixel by pixel: plain.
  What a cloud does in truth: the walk.
  Threats by their states, and levels at the times of steps: plain.
  More clouds, greater leads and holds, and turned orders: plain.
  IssueTruth is walked.
  IssueGreater is walked.
  Whether a region is hit.
-/
import Derived.Test.YtdjflomhaljljaaKCNT06

namespace Go.Proofs.Ytdjflomhaljljaa
open Go.SL Go.Proofs Go.Cast
set_option linter.unusedVariables false

theorem A148 : IsAgg Try.prog 148 25 := ⟨⟨_, Try.underlying148, rfl⟩, by kernel_rfl⟩
theorem N145 : (Try.prog.info? 145).map (·.size) = some 1 := by kernel_rfl
theorem O145 : IsOne Try.prog 145 := ⟨⟨_, Try.underlying145, rfl⟩, by kernel_rfl⟩
theorem F148_1 : FieldAt Try.prog 148 1 20 := ⟨_,_, Try.underlying148, rfl, rfl, 1, by kernel_rfl⟩
theorem A146 : IsAgg Try.prog 146 2 := ⟨⟨_, Try.underlying146, rfl⟩, by kernel_rfl⟩
theorem C76 : IsFn Try.prog 76 := ⟨_, Try.func76, by decide, rfl⟩
theorem F148_2 : FieldAt Try.prog 148 2 22 := ⟨_,_, Try.underlying148, rfl, rfl, 1, by kernel_rfl⟩
theorem F148_3 : FieldAt Try.prog 148 3 24 := ⟨_,_, Try.underlying148, rfl, rfl, 0, by kernel_rfl⟩
theorem F148_0 : FieldAt Try.prog 148 0 0 := ⟨_,_, Try.underlying148, rfl, rfl, 19, by kernel_rfl⟩
theorem S49 : IsSlice Try.prog 49 148 := Try.underlying49
theorem N148 : (Try.prog.info? 148).map (·.size) = some 25 := by kernel_rfl
theorem C52 : IsFn Try.prog 52 := ⟨_, Try.func52, by decide, rfl⟩
theorem F66_3 : FieldAt Try.prog 66 3 3 := ⟨_,_, Try.underlying66, rfl, rfl, 0, by kernel_rfl⟩
theorem F66_1 : FieldAt Try.prog 66 1 1 := ⟨_,_, Try.underlying66, rfl, rfl, 0, by kernel_rfl⟩
theorem F66_2 : FieldAt Try.prog 66 2 2 := ⟨_,_, Try.underlying66, rfl, rfl, 0, by kernel_rfl⟩


def spA (a b : Int) : Int := min (a.tmod 20001) (b.tmod 20001)
def spB (a b : Int) : Int := max (a.tmod 20001) (b.tmod 20001)
theorem tm2 (a : Int) : -20001 < a.tmod 20001 ∧ a.tmod 20001 < 20001 := ⟨Int.lt_tmod_of_pos a (by decide), Int.tmod_lt_of_pos a (by decide)⟩
/-- A cloud by numbers. -/
structure ClM where
  px : List Int
  xa : Int
  xb : Int
  ya : Int
  yb : Int
  gr : Int
abbrev ClM.cells (c : ClM) : List Value := c.px.map u8V ++ [.int .i16 c.xa, .int .i16 c.xb, .int .i16 c.ya, .int .i16 c.yb, .int .u8 c.gr]
def ClM.ok (c : ClM) : Prop := c.px.length = 20 ∧ (∀ n, n ∈ c.px → U8 n) ∧ I16 c.xa ∧ I16 c.xb ∧ I16 c.ya ∧ I16 c.yb ∧ U8 c.gr
theorem ClM.len {c : ClM} (h : c.ok) : c.cells.length = 25 := by
  show (c.px.map u8V ++ _).length = 25
  rw [List.length_append, List.length_map, h.1]; rfl
theorem ClM.at (c : ClM) (h : c.px.length = 20) (k : Nat) (vs : List Value) (hk : ∃ r, [.int .i16 c.xa, .int .i16 c.xb, .int .i16 c.ya, .int .i16 c.yb, .int .u8 c.gr].drop k = vs ++ r) : ∃ r, c.cells.toArray.toList.drop (20 + k) = vs ++ r := by
  show ∃ r, (c.px.map u8V ++ _).drop (20 + k) = _
  have h2 : (c.px.map u8V).length = 20 := by simpa using h
  rw [← h2, List.drop_length_add_append]
  exact hk
def pxF (px : List Int) (f : Int → Bool) (n : Nat) : List Int := ((List.range n).filter fun p => f (px.getD p 0)).map Int.ofNat
theorem pxF_y {px : List Int} {f : Int → Bool} {n : Nat} (h : f (px.getD n 0) = true) : pxF px f (n + 1) = pxF px f n ++ [(n : Int)] := by
  unfold pxF; rw [List.range_succ, List.filter_append, List.map_append]; simp only [List.filter_cons, h, if_true, List.filter_nil]; rfl
theorem pxF_n {px : List Int} {f : Int → Bool} {n : Nat} (h : f (px.getD n 0) = false) : pxF px f (n + 1) = pxF px f n := by
  unfold pxF; rw [List.range_succ, List.filter_append]; simp only [List.filter_cons, h, Bool.false_eq_true, if_false, List.filter_nil, List.append_nil]
theorem pxF_len {px : List Int} {f : Int → Bool} {n : Nat} : (pxF px f n).length ≤ n := by
  unfold pxF
  rw [List.length_map]
  have := List.length_filter_le (fun p => f (px.getD p 0)) (List.range n)
  simpa using this
def mayF (n : Int) : Bool := decide (0 < n.tmod 3)
def sureF (n : Int) : Bool := decide (n.tmod 3 = 1)
def clMk (c : ClM) : Cloud := ⟨pxF c.px sureF 20, pxF c.px mayF 20, ⟨spA c.xa c.xb, spB c.xa c.xb, spA c.ya c.yb, spB c.ya c.yb⟩, c.gr⟩
def clHas (c : ClM) : Bool := decide ((0 : Int) < ((pxF c.px mayF 20).length : Nat))
/-- All clouds that have pixels. -/
def allL : List ClM → Nat → List Cloud
  | _, 0 => []
  | l, n + 1 => match l[n]? with
    | none => allL l n
    | some c => if clHas c = true then allL l n ++ [clMk c] else allL l n
theorem allL_len {l : List ClM} : ∀ n, (allL l n).length ≤ n
  | 0 => Nat.le_refl _
  | n + 1 => by
    have := allL_len (l := l) n
    unfold allL
    split
    · omega
    · split
      · simp; omega
      · omega
theorem allL_y {l : List ClM} {n : Nat} {c : ClM} (hc : l[n]? = some c) (h : clHas c = true) : allL l (n + 1) = allL l n ++ [clMk c] := by
  conv => lhs; unfold allL
  simp [hc, h]
theorem allL_n {l : List ClM} {n : Nat} {c : ClM} (hc : l[n]? = some c) (h : clHas c = false) : allL l (n + 1) = allL l n := by
  conv => lhs; unfold allL
  simp [hc, h]
structure ClsM (w : World) (p : Option Addr) (l : List ClM) : Prop where
  rows : RO 25 ClM.cells w p l
  ok : ∀ c, c ∈ l → c.ok
/-- A beat. -/
structure BtM where
  la : Int
  a : Int
  b : Int
  no : Bool
abbrev BtM.cells (b : BtM) : List Value := [.int .u16 b.la, .int .u8 b.a, .int .u8 b.b, .bool b.no]
def BtM.ok (b : BtM) : Prop := U16 b.la ∧ U8 b.a ∧ U8 b.b
structure BtsM (w : World) (p : Option Addr) (l : List BtM) : Prop where
  rows : RO 4 BtM.cells w p l
  ok : ∀ c, c ∈ l → c.ok
def btIx (n : Nat) (a : Int) : Nat := (a.tmod (n : Int)).toNat
/-- The clouds of a beat. -/
def beatL (b : BtM) (l : List Cloud) : List Cloud := if (l.length : Int) = 0 ∨ b.no = true then [] else [l.getD (btIx l.length b.a) default, l.getD (btIx l.length b.b) default]
theorem btIx_lt {n : Nat} {a : Int} (ha : 0 ≤ a) (hn : 0 < n) : btIx n a < n ∧ (a.tmod (n : Int)) = (btIx n a : Nat) := by
  unfold btIx
  have := tm ha (show (0 : Int) < (n : Int) by omega)
  omega
theorem St.blkRows {β : Bs} {L : List Res} {w : World} (hw : St β L w) (i : Nat) {E z b : Nat} {C : Array Value} {rows : List (List Value)} (hi : L[i]? = some (blk b (.cells C E))) (hC : C.toList = rows.flatten) (hz : ∀ r, r ∈ rows → r.length = z) : St β (L.set i (own E z (some ⟨b, 0, none⟩) rows.length rows)) w :=
  hw.conv i hi (fun k hk => hk.2) ⟨Nat.le_refl _, hz, fun q => (by cases q), fun a ha => by
    cases ha
    exact ⟨rfl, rfl, C, [], hw.inv i _ hi, by rw [List.append_nil]; exact hC, by rw [← Array.length_toList, hC, flatten_len hz]⟩⟩

set_option maxRecDepth 20000 in
theorem span_c (a b : Int) (w : World) (ha : I16 a) (hb : I16 b) :
  Calls Try.prog 76 #[.agg #[.int .i16 a, .int .i16 b]] w fun e w' => e = .returned (.agg #[.int .i64 (spA a b), .int .i64 (spB a b)]) ∧ St (bs w) [] w' := by
  unfold I16 at ha hb
  refine enter (vs := [_]) (env := [(0,_)]) Try.func76 rfl rfl rfl rfl ?_
  refine VC.seq ?_
  refine VC.reg (VO.h rfl<|HO.box (C := #[_,_]) rfl rfl fun b1 => VO.h rfl<|HO.alloc (C := #[_,_]) Z76 rfl fun b2 => VO.nil ?_)
  refine VE.seqN ?_
  refine VC.seq ?_
  refine VC.draw mixed (LL.l (LO.ixa (j := 0) (r := 0) Try.underlying146 N145 (.r rfl) (.r rfl) rfl (by decide) rfl) rfl<|LL.l (LO.ld O145 (.r rfl) (fun _ hw => cells_at hw 1 rfl ⟨_, rfl⟩)) rfl<|LL.l (LO.cv ⟨_, Try.underlying145⟩ Try.underlying3 (.r rfl) (wi (by omega) (by omega))) rfl<|LL.l (LO.rem (.r rfl) (.r rfl) (by omega)) rfl<|LL.l (LO.ixa (j := 1) (r := 1) Try.underlying146 N145 (.r rfl) (.r rfl) rfl (by decide) rfl) rfl<|LL.l (LO.ld O145 (.r rfl) (fun _ hw => cells_at hw 1 rfl ⟨_, rfl⟩)) rfl<|LL.l (LO.cv ⟨_, Try.underlying145⟩ Try.underlying3 (.r rfl) (wi (by omega) (by omega))) rfl<|LL.l (LO.rem (.r rfl) (.r rfl) (by omega)) rfl<|LL.l (LO.as (.r rfl)) rfl<|LL.l (LO.as (.r rfl)) rfl<|LL.nil) (by kernel_rfl) ?_
  refine VE.seqN ?_
  refine VC.seq ?_
  refine VC.reg (VO.l (LO.mv (.r rfl)) rfl<|VO.l (LO.mv (.r rfl)) rfl<|VO.l (LO.min (.r rfl) (.r rfl)) rfl<|VO.l (LO.mv (.r rfl)) rfl<|VO.l (LO.mv (.r rfl)) rfl<|VO.l (LO.max (.r rfl) (.r rfl)) rfl<|VO.l (LO.bd (ps := [(_,_), (_,_)]) (vs := [(_,_), (_,_)]) (C := [_,_]) B76  ⟨(.r rfl), (.r rfl), trivial⟩ rfl ⟨_, [_], [_,_], rfl, rfl, rfl, rfl, ⟨_, [_], [_,_], rfl, rfl, rfl, rfl, rfl⟩⟩) rfl<|VO.h0<|HO.st 0 (vs := [_,_]) (C' := [_,_]) (L' := [_,_]) N76 rfl rfl rfl rfl rfl rfl rfl rfl<|VO.nil ?_)
  refine VE.seqN ?_
  refine VC.ret (VE.res (vs := [_]) rfl ⟨RV.agg (vs := [_,_]) A76 rfl (cells_blk 0 rfl ⟨_, rfl⟩) rfl, trivial⟩ (fun w hw => ?_))
  exact ⟨rfl, hw.nil⟩

set_option maxRecDepth 20000 in
theorem cmade_c (c : ClM) (w : World) (hc : c.ok) :
  Calls Try.prog 52 #[.agg c.cells.toArray] w fun e w' => ∃ y : CP, y.c = clMk c ∧ e = .returned (.tuple #[.agg y.cells.toArray, .bool (clHas c)]) ∧ St (bs w) [own 3 1 y.ps y.cs (y.c.sure.map iC), own 3 1 y.pm y.cm (y.c.may.map iC)] w' := by
  obtain ⟨hl20, hu8, h1, h2, h3, h4, h5⟩ := id hc
  unfold U8 at h5
  refine enter (vs := [_]) (env := [(0,_)]) Try.func52 rfl rfl rfl rfl ?_
  refine VC.seq ?_
  refine VC.reg (VO.h rfl<|HO.box (C := c.cells.toArray) rfl rfl fun b1 => VO.h rfl<|HO.alloc (C := #[_,_,_,_,_,_,_]) Z80 rfl fun b2 => VO.l (LO.as (.r rfl)) rfl<|VO.nil ?_)
  refine VE.seqN ?_
  refine VC.seq ?_
  refine VC.drawH [[0,1], [0,1], [0,1]] [some 1, some 1, some 1, some 1, some 1, some 1, some 1, some 1, some 1, some 1, some 1, none, none] mixed (by kernel_rfl) rfl (LX.l (fun _ hJ => LO.fa (r := 20) F148_1 (.r rfl) rfl) rfl<|LX.l (fun _ hJ => LO.lda (vs := [_,_]) A146 (.r rfl) (fun _ hw => cells_at (hJ _ hw) 1 rfl (c.at hl20 0 _ ⟨_, rfl⟩)) rfl) rfl<|LX.l (fun _ hJ => LO.call (xs := [_]) (vs := [_]) C76 ⟨(.r rfl), trivial⟩ (fun w _ => span_c c.xa c.xb w h1 h2)) rfl<|LX.l (fun _ hJ => LO.fa (r := 22) F148_2 (.r rfl) rfl) rfl<|LX.l (fun _ hJ => LO.lda (vs := [_,_]) A146 (.r rfl) (fun _ hw => cells_at (hJ _ hw) 1 rfl (c.at hl20 2 _ ⟨_, rfl⟩)) rfl) rfl<|LX.l (fun _ hJ => LO.call (xs := [_]) (vs := [_]) C76 ⟨(.r rfl), trivial⟩ (fun w _ => span_c c.ya c.yb w h3 h4)) rfl<|LX.l (fun _ hJ => LO.bd (ps := [(_,_), (_,_)]) (vs := [(_,_), (_,_)]) (C := [_,_,_,_]) B78  ⟨(.r rfl), (.r rfl), trivial⟩ rfl ⟨_, [_,_], [_,_,_,_], rfl, rfl, rfl, rfl, ⟨_, [_,_], [_,_,_,_], rfl, rfl, rfl, rfl, rfl⟩⟩) rfl<|LX.l (fun _ hJ => LO.fa (r := 24) F148_3 (.r rfl) rfl) rfl<|LX.l (fun _ hJ => LO.ld O5 (.r rfl) (fun _ hw => cells_at (hJ _ hw) 1 rfl (c.at hl20 4 _ ⟨_, rfl⟩))) rfl<|LX.l (fun _ hJ => LO.cv ⟨_, Try.underlying5⟩ Try.underlying3 (.r rfl) (wi (by omega) (by omega))) rfl<|LX.l (fun _ hJ => LO.bd (ps := [(_,_), (_,_)]) (vs := [(_,_), (_,_)]) (C := [_,_,_,_,_,_,_]) B80  ⟨(.r rfl), (.r rfl), trivial⟩ rfl ⟨_, [_,_,_,_], [_,_,_,_,_,_,_], rfl, rfl, rfl, rfl, ⟨_, [_], [_,_,_,_,_,_,_], rfl, rfl, rfl, rfl, rfl⟩⟩) rfl<|LX.s<|LX.s<|LX.nil) (HX.s<|HX.s<|HX.s<|HX.s<|HX.s<|HX.s<|HX.s<|HX.s<|HX.s<|HX.s<|HX.s<|HX.h rfl<|HO.alloc (C := #[_,_,_,_,_,_,_]) Z80 rfl fun b5 => ⟨fun _ hw => hw.sel [1,2] rfl, HX.h0<|HO.st 0 (vs := [_,_,_,_,_,_,_]) (C' := [_,_,_,_,_,_,_]) (L' := [_,_,_]) N80 rfl rfl rfl rfl rfl rfl rfl rfl<|⟨fun _ hw => hw.sel [1,2] rfl, HX.nil ?_⟩⟩)
  refine VE.seqN ?_
  refine VC.seq ?_
  refine VC.seq ?_
  refine VC.reg (VO.l (LO.as (.r rfl)) rfl<|VO.nil ?_)
  refine VE.seqN ?_
  refine VC.block ?_
  refine VC.loopK (α := Nat × (List Int) × (Option Addr) × Nat × (List Int) × (Option Addr) × Nat) 1 (fun gx => [(5, .int .i64 (gx.1 : Nat))]) [(1,_), (2,_), (4,_)] (fun gx => [blk b5 (.cells #[.slice gx.2.2.2.2.2.1 gx.2.2.2.2.1.length gx.2.2.2.2.2.2, .slice gx.2.2.1 gx.2.1.length gx.2.2.2.1, .int .i64 (spA c.xa c.xb), .int .i64 (spB c.xa c.xb), .int .i64 (spA c.ya c.yb), .int .i64 (spB c.ya c.yb), .int .i64 c.gr] 80), own 3 1 gx.2.2.2.2.2.1 gx.2.2.2.2.2.2 (gx.2.2.2.2.1.map iC), own 3 1 gx.2.2.1 gx.2.2.2.1 (gx.2.1.map iC)]) (fun gx => gx.1 ≤ 20 ∧ gx.2.1 = pxF c.px mayF gx.1 ∧ gx.2.2.2.2.1 = pxF c.px sureF gx.1) (fun gx => 20 - gx.1) (0, [], none, 0, [], none, 0) (by exact ⟨Nat.zero_le _, rfl, rfl⟩) (.cons rfl (.cons rfl (.cons rfl (.cons rfl .nil)))) (fun _ h => (((h.ownNil 3 1).ownNil 3 1)).sel [2,0,1,3,4] rfl) ?_
  rintro ⟨p, xs, qm_, dm_, ys, qs_, ds_⟩ ⟨hp, hx, hy⟩
  show VC _ _ _ _ _ ([(5, .int .i64 (p : Nat))] ++ _) ([blk b5 (.cells #[.slice qs_ ys.length ds_, .slice qm_ xs.length dm_, .int .i64 (spA c.xa c.xb), .int .i64 (spB c.xa c.xb), .int .i64 (spA c.ya c.yb), .int .i64 (spB c.ya c.yb), .int .i64 c.gr] 80), own 3 1 qs_ ds_ (ys.map iC), own 3 1 qm_ dm_ (xs.map iC)] ++ _) _ _
  dsimp only at hp hx hy
  have hxl : xs.length ≤ p := by rw [hx]; exact pxF_len
  have hyl : ys.length ≤ p := by rw [hy]; exact pxF_len
  refine VC.seq ?_
  refine VC.seq ?_
  refine VC.reg (VO.l (LO.mv (.r rfl)) rfl<|VO.l (LO.lt (.r rfl) (.r rfl)) rfl<|VO.nil ?_)
  refine VE.seqN ?_
  refine VC.cond rfl (fun h18 => ?_) (fun h18 => ?_)
  ·
    have hpx := u8_at hu8 (p := p) (by omega)
    refine VC.skip (VE.seqN ?_)
    refine VC.seq ?_
    refine VC.block ?_
    refine VC.seq ?_
    refine VC.seq ?_
    refine VC.reg (VO.l (LO.mv (.r rfl)) rfl<|VO.l (LO.fa (r := 0) F148_0 (.r rfl) rfl) rfl<|VO.l (LO.ixa (j := p) (r := p) Try.underlying45 N5 (.r rfl) (.r rfl) rfl (by omega) (by omega)) rfl<|VO.l (LO.ld O5 (.r rfl) (fun _ hw => cells_at hw 4 rfl (px_at (by omega)))) rfl<|VO.l (LO.rem (.r rfl) (.r rfl) (by decide)) rfl<|VO.l (LO.gt (.r rfl) (.r rfl)) rfl<|VO.nil ?_)
    refine VE.seqN ?_
    refine VC.cond rfl (fun h26 => ?_) (fun h26 => ?_)
    ·
      refine VC.reg (VO.l (LO.fa (r := 1) F80_1 (.r rfl) rfl) rfl<|VO.l (LO.ld O55 (.r rfl) (fun _ hw => cells_at hw 0 rfl ⟨_, rfl⟩)) rfl<|VO.l (LO.mv (.r rfl)) rfl<|VO.h rfl<|HO.bs (ps := [(_,_)]) (vs := [(_,_)]) (Z := [_]) (C := [_]) S55 Z3 N3 ⟨(.r rfl), trivial⟩ rfl rfl rfl rfl ⟨_, [_], [_], rfl, rfl, rfl, rfl, rfl⟩ fun b10 => VO.h rfl<|HO.appT (((p : Nat) : Int)) 3 0 (fun R => [_,_,_, R,_,_]) S55 S55 I3 (.r rfl) (.r rfl) rfl rfl rfl rfl rfl rfl rfl (fun _ => rfl) rfl (by omega) fun p4 c4 => VO.l (LO.fa (r := 1) F80_1 (.r rfl) rfl) rfl<|VO.h0<|HO.st 1 (vs := [_]) (C' := [_,_,_,_,_,_,_]) (L' := [_,_,_,_,_,_]) N55 rfl rfl rfl rfl rfl rfl rfl rfl<|VO.nil ?_)
      refine VE.seqN ?_
      refine VC.seq ?_
      refine VC.reg (VO.l (LO.mv (.r rfl)) rfl<|VO.l (LO.fa (r := 0) F148_0 (.r rfl) rfl) rfl<|VO.l (LO.ixa (j := p) (r := p) Try.underlying45 N5 (.r rfl) (.r rfl) rfl (by omega) (by omega)) rfl<|VO.l (LO.ld O5 (.r rfl) (fun _ hw => cells_at hw 5 rfl (px_at (by omega)))) rfl<|VO.l (LO.rem (.r rfl) (.r rfl) (by decide)) rfl<|VO.l (LO.eq (.r rfl) (.r rfl)) rfl<|VO.nil ?_)
      refine VE.seqN ?_
      refine VC.cond rfl (fun h38 => ?_) (fun h38 => ?_)
      ·
        refine VC.reg (VO.l (LO.fa (r := 0) F80_0 (.r rfl) rfl) rfl<|VO.l (LO.ld O55 (.r rfl) (fun _ hw => cells_at hw 1 rfl ⟨_, rfl⟩)) rfl<|VO.l (LO.mv (.r rfl)) rfl<|VO.h rfl<|HO.bs (ps := [(_,_)]) (vs := [(_,_)]) (Z := [_]) (C := [_]) S55 Z3 N3 ⟨(.r rfl), trivial⟩ rfl rfl rfl rfl ⟨_, [_], [_], rfl, rfl, rfl, rfl, rfl⟩ fun b12 => VO.h rfl<|HO.appT (((p : Nat) : Int)) 3 0 (fun R => [_,_,_, R,_,_,_]) S55 S55 I3 (.r rfl) (.r rfl) rfl rfl rfl rfl rfl rfl rfl (fun _ => rfl) rfl (by omega) fun p8 c8 => VO.l (LO.fa (r := 0) F80_0 (.r rfl) rfl) rfl<|VO.h0<|HO.st 2 (vs := [_]) (C' := [_,_,_,_,_,_,_]) (L' := [_,_,_,_,_,_,_]) N55 rfl rfl rfl rfl rfl rfl rfl rfl<|VO.nil ?_)
        refine VE.inN (VE.seqN ?_)
        refine VC.reg (VO.l (LO.mv (.r rfl)) rfl<|VO.l (LO.add (.r rfl) (.r rfl) (wi (by omega) (by omega))) rfl<|VO.l (LO.as (.r rfl)) rfl<|VO.nil ?_)
        refine VE.thenN fun a w ha hw => ⟨(p + 1, xs ++ [((p : Nat) : Int)], p4, c4, ys ++ [((p : Nat) : Int)], p8, c8), ⟨by dsimp only; omega, by dsimp only; rw [hx]; exact (pxF_y (by unfold mayF; exact decide_eq_true h26)).symm, by dsimp only; rw [hy]; exact (pxF_y (by unfold sureF; exact decide_eq_true h38)).symm⟩, (by dsimp only; omega), ha.sub (.cons rfl (.cons rfl (.cons rfl (.cons rfl .nil)))), hw.sel [2,3,4,5,6] rfl⟩
      ·
        refine VC.skip (VE.inN (VE.seqN ?_))
        refine VC.reg (VO.l (LO.mv (.r rfl)) rfl<|VO.l (LO.add (.r rfl) (.r rfl) (wi (by omega) (by omega))) rfl<|VO.l (LO.as (.r rfl)) rfl<|VO.nil ?_)
        refine VE.thenN fun a w ha hw => ⟨(p + 1, xs ++ [((p : Nat) : Int)], p4, c4, ys, qs_, ds_), ⟨by dsimp only; omega, by dsimp only; rw [hx]; exact (pxF_y (by unfold mayF; exact decide_eq_true h26)).symm, by dsimp only; rw [hy]; exact (pxF_n (by unfold sureF; exact decide_eq_false h38)).symm⟩, (by dsimp only; omega), ha.sub (.cons rfl (.cons rfl (.cons rfl (.cons rfl .nil)))), hw.sel [1,2,3,4,5] rfl⟩
    ·
      refine VC.skip (VE.seqN ?_)
      refine VC.seq ?_
      refine VC.reg (VO.l (LO.mv (.r rfl)) rfl<|VO.l (LO.fa (r := 0) F148_0 (.r rfl) rfl) rfl<|VO.l (LO.ixa (j := p) (r := p) Try.underlying45 N5 (.r rfl) (.r rfl) rfl (by omega) (by omega)) rfl<|VO.l (LO.ld O5 (.r rfl) (fun _ hw => cells_at hw 4 rfl (px_at (by omega)))) rfl<|VO.l (LO.rem (.r rfl) (.r rfl) (by decide)) rfl<|VO.l (LO.eq (.r rfl) (.r rfl)) rfl<|VO.nil ?_)
      refine VE.seqN ?_
      refine VC.cond rfl (fun h38 => ?_) (fun h38 => ?_)
      ·
        refine VC.reg (VO.l (LO.fa (r := 0) F80_0 (.r rfl) rfl) rfl<|VO.l (LO.ld O55 (.r rfl) (fun _ hw => cells_at hw 0 rfl ⟨_, rfl⟩)) rfl<|VO.l (LO.mv (.r rfl)) rfl<|VO.h rfl<|HO.bs (ps := [(_,_)]) (vs := [(_,_)]) (Z := [_]) (C := [_]) S55 Z3 N3 ⟨(.r rfl), trivial⟩ rfl rfl rfl rfl ⟨_, [_], [_], rfl, rfl, rfl, rfl, rfl⟩ fun b14 => VO.h rfl<|HO.appT (((p : Nat) : Int)) 2 0 (fun R => [_,_, R,_,_,_]) S55 S55 I3 (.r rfl) (.r rfl) rfl rfl rfl rfl rfl rfl rfl (fun _ => rfl) rfl (by omega) fun p8 c8 => VO.l (LO.fa (r := 0) F80_0 (.r rfl) rfl) rfl<|VO.h0<|HO.st 1 (vs := [_]) (C' := [_,_,_,_,_,_,_]) (L' := [_,_,_,_,_,_]) N55 rfl rfl rfl rfl rfl rfl rfl rfl<|VO.nil ?_)
        refine VE.inN (VE.seqN ?_)
        refine VC.reg (VO.l (LO.mv (.r rfl)) rfl<|VO.l (LO.add (.r rfl) (.r rfl) (wi (by omega) (by omega))) rfl<|VO.l (LO.as (.r rfl)) rfl<|VO.nil ?_)
        refine VE.thenN fun a w ha hw => ⟨(p + 1, xs, qm_, dm_, ys ++ [((p : Nat) : Int)], p8, c8), ⟨by dsimp only; omega, by dsimp only; rw [hx]; exact (pxF_n (by unfold mayF; exact decide_eq_false h26)).symm, by dsimp only; rw [hy]; exact (pxF_y (by unfold sureF; exact decide_eq_true h38)).symm⟩, (by dsimp only; omega), ha.sub (.cons rfl (.cons rfl (.cons rfl (.cons rfl .nil)))), hw.sel [1,2,3,4,5] rfl⟩
      ·
        refine VC.skip (VE.inN (VE.seqN ?_))
        refine VC.reg (VO.l (LO.mv (.r rfl)) rfl<|VO.l (LO.add (.r rfl) (.r rfl) (wi (by omega) (by omega))) rfl<|VO.l (LO.as (.r rfl)) rfl<|VO.nil ?_)
        refine VE.thenN fun a w ha hw => ⟨(p + 1, xs, qm_, dm_, ys, qs_, ds_), ⟨by dsimp only; omega, by dsimp only; rw [hx]; exact (pxF_n (by unfold mayF; exact decide_eq_false h26)).symm, by dsimp only; rw [hy]; exact (pxF_n (by unfold sureF; exact decide_eq_false h38)).symm⟩, (by dsimp only; omega), ha.sub (.cons rfl (.cons rfl (.cons rfl (.cons rfl .nil)))), hw⟩
  ·
    refine VC.exit (VE.thenX (VE.thenX (VE.inX (VE.seqN ?_))))
    refine VC.seq ?_
    refine VC.drawH [[0,1,2,3,4], [0,1,2,4]] [some 0, some 1, some 1, some 1, some 1, none, some 1] mixed (by kernel_rfl) rfl (LX.l (fun _ hJ => LO.lda (vs := [_,_,_,_,_,_,_]) A80 (.r rfl) (fun _ hw => cells_at (hJ _ hw) 0 rfl ⟨_, rfl⟩) rfl) rfl<|LX.l (fun _ hJ => LO.fa (r := 1) F80_1 (.r rfl) rfl) rfl<|LX.l (fun _ hJ => LO.ld O55 (.r rfl) (fun _ hw => cells_at (hJ _ hw) 0 rfl ⟨_, rfl⟩)) rfl<|LX.l (fun _ hJ => LO.len S55 (.r rfl) rfl) rfl<|LX.l (fun _ hJ => LO.gt (.r rfl) (.r rfl)) rfl<|LX.s<|LX.l (fun _ hJ => LO.as (.r rfl)) rfl<|LX.nil) (HX.s<|HX.s<|HX.s<|HX.s<|HX.s<|HX.h0<|HO.st 3 (vs := [_,_,_,_,_,_,_]) (C' := [_,_,_,_,_,_,_]) (L' := [_,_,_,_,_]) N80 rfl rfl rfl rfl rfl rfl rfl rfl<|⟨fun _ hw => hw.sel [0,1,2,4] rfl, HX.s<|HX.nil ?_⟩)
    refine VE.seqN ?_
    refine VC.ret (VE.res (vs := [_,_]) rfl ⟨RV.agg (vs := [_,_,_,_,_,_,_]) A80 rfl (cells_blk 3 rfl ⟨_, rfl⟩) rfl, rfl, trivial⟩ (fun w hw => ?_))
    have hp2 : p = 20 := by omega
    subst hp2
    exact ⟨⟨⟨ys, xs, ⟨spA c.xa c.xb, spB c.xa c.xb, spA c.ya c.yb, spB c.ya c.yb⟩, c.gr⟩, qs_, ds_, qm_, dm_⟩, by rw [hx, hy]; rfl, by rw [show clHas c = decide ((0 : Int) < (xs.length : Nat)) from by unfold clHas; rw [hx]]; rfl, selK (L1 := [_,_]) [1,2] rfl rfl _ hw⟩

set_option maxRecDepth 20000 in
theorem all_c (l : List ClM) (p : Option Addr) (c : Nat) (w : World) (hn : l.length < 1000000) (hl : ClsM w p l) :
  Calls Try.prog 20 #[.slice p l.length c] w fun e w' => ∃ x : (Option Addr × Nat) × List CP, x.2.map CP.c = allL l l.length ∧ e = .returned (.slice x.1.1 x.2.length x.1.2) ∧ St (bs w) [own 80 7 x.1.1 x.1.2 (x.2.map CP.cells), bagD (x.2.flatMap cpR)] w' := by
  refine enter (vs := [_]) (env := [(0,_)]) Try.func20 rfl rfl rfl rfl ?_
  refine VC.seq ?_
  refine VC.reg (VO.l (LO.as (.r rfl)) rfl<|VO.nil ?_)
  refine VE.seqN ?_
  refine VC.seq ?_
  refine VC.reg (VO.l (LO.as (.r rfl)) rfl<|VO.nil ?_)
  refine VE.seqN ?_
  refine VC.seq ?_
  refine VC.seq ?_
  refine VC.reg (VO.l (LO.as (.r rfl)) rfl<|VO.nil ?_)
  refine VE.seqN ?_
  refine VC.block ?_
  refine VC.loopK (α := Nat × (List CP) × (Option Addr) × Nat) 0 (fun gx => [(3, .slice gx.2.2.1 gx.2.1.length gx.2.2.2), (4, .int .i64 (gx.1 : Nat))]) [(0,_)] (fun gx => [own 80 7 gx.2.2.1 gx.2.2.2 (gx.2.1.map CP.cells), bagD (gx.2.1.flatMap cpR)]) (fun gx => gx.1 ≤ l.length ∧ gx.2.1.map CP.c = allL l gx.1) (fun gx => l.length - gx.1) (0, [], none, 0) (by exact ⟨Nat.zero_le _, rfl⟩) (.cons rfl (.cons rfl (.cons rfl .nil))) (fun _ h => ((St.bagD (Rs := []) h).ownNil 80 7)) ?_
  rintro ⟨j, xs, po_, co_⟩ ⟨hj, hX⟩
  show VC _ _ _ _ _ ([(3, .slice po_ xs.length co_), (4, .int .i64 (j : Nat))] ++ _) ([own 80 7 po_ co_ (xs.map CP.cells), bagD (xs.flatMap cpR)] ++ _) _ _
  dsimp only at hj hX
  have hxl : xs.length ≤ j := by rw [← List.length_map (f := CP.c), hX]; exact allL_len j
  refine VC.seq ?_
  refine VC.seq ?_
  refine VC.reg (VO.l (LO.mv (.r rfl)) rfl<|VO.l (LO.mv (.r rfl)) rfl<|VO.l (LO.len S49 (.r rfl) rfl) rfl<|VO.l (LO.lt (.r rfl) (.r rfl)) rfl<|VO.nil ?_)
  refine VE.seqN ?_
  refine VC.cond rfl (fun h10 => ?_) (fun h10 => ?_)
  ·
    obtain ⟨x, hx⟩ : ∃ x, l[j]? = some x := ⟨_, List.getElem?_eq_getElem (by omega)⟩
    have hxo := hl.ok x (List.mem_of_getElem? hx)
    refine VC.skip (VE.seqN ?_)
    refine VC.seq ?_
    refine VC.block ?_
    refine VC.seq ?_
    refine VC.reg (VO.l (LO.mv (.r rfl)) rfl<|VO.l (LO.mv (.r rfl)) rfl<|VO.l (LO.ixs S49 N148 hl.rows.sm (.r rfl) (.r rfl) rfl (by omega)) rfl<|VO.l (LO.lda (vs := x.cells) A148 (.r rfl) (fun w hw => (hl.rows.keep w hw).cells _ _ (by rw [List.getElem?_map, hx]; rfl)) (by rw [ClM.len hxo]; rfl)) rfl<|VO.h rfl<|HO.callx (xs := [_]) (vs := [_]) C52 ⟨(.r rfl), trivial⟩ (fun w hw => cmade_c x w hxo) fun y hy => VO.h rfl<|HO.lo (LO.mv (.r rfl))<|VO.h rfl<|HO.lo (LO.ex (.r rfl) rfl)<|VO.h rfl<|HO.lo (LO.ex (.r rfl) rfl)<|VO.h rfl<|HO.alloc (C := #[_,_,_,_,_,_,_]) Z80 rfl fun b5 => VO.h0<|HO.st 0 (vs := [_,_,_,_,_,_,_]) (C' := [_,_,_,_,_,_,_]) (L' := [_,_,_,_,_]) N80 rfl rfl rfl rfl rfl rfl rfl rfl<|VO.h rfl<|HO.lo (LO.as (.r rfl))<|VO.nil ?_)
    refine VE.seqN ?_
    refine VC.seq ?_
    refine VC.reg (VO.l (LO.mv (.r rfl)) rfl<|VO.nil ?_)
    refine VE.seqN ?_
    refine VC.cond rfl (fun h21 => ?_) (fun h21 => ?_)
    ·
      refine VC.reg (VO.l (LO.mv (.r rfl)) rfl<|VO.l (LO.lda (vs := [_,_,_,_,_,_,_]) A80 (.r rfl) (fun _ hw => cells_at hw 0 rfl ⟨_, rfl⟩) rfl) rfl<|VO.h rfl<|HO.bs (ps := [(_,_)]) (vs := [(_,_)]) (Z := [_,_,_,_,_,_,_]) (C := [_,_,_,_,_,_,_]) S29 Z80 N80 ⟨(.r rfl), trivial⟩ rfl rfl rfl rfl ⟨_, [_,_,_,_,_,_,_], [_,_,_,_,_,_,_], rfl, rfl, rfl, rfl, rfl⟩ fun b7 => VO.h rfl<|HO.appT (y) 4 0 (fun R => [_,_,_,_, R,_]) S29 S29 I80 (.r rfl) (.r rfl) rfl rfl rfl rfl rfl rfl rfl (fun _ => rfl) rfl (by omega) fun p3 c3 => VO.h rfl<|HO.lo (LO.as (.r rfl))<|VO.nil ?_)
      refine VE.inN (VE.seqN ?_)
      refine VC.reg (VO.l (LO.mv (.r rfl)) rfl<|VO.l (LO.add (.r rfl) (.r rfl) (wi (by omega) (by omega))) rfl<|VO.l (LO.as (.r rfl)) rfl<|VO.nil ?_)
      refine VE.thenN fun a w ha hw => ⟨(j + 1, xs ++ [y], p3, c3), ⟨by dsimp only; omega, by dsimp only; rw [List.map_append, hX, allL_y hx h21, ← hy]; rfl⟩, (by dsimp only; omega), ha.sub (.cons rfl (.cons rfl (.cons rfl .nil))), (by exact (St.bagCp (selK (L1 := [_,_,_,_]) [2,3,5,4] rfl rfl _ hw)).sel [1,0] rfl)⟩
    ·
      refine VC.skip (VE.inN (VE.seqN ?_))
      refine VC.reg (VO.l (LO.mv (.r rfl)) rfl<|VO.l (LO.add (.r rfl) (.r rfl) (wi (by omega) (by omega))) rfl<|VO.l (LO.as (.r rfl)) rfl<|VO.nil ?_)
      refine VE.thenN fun a w ha hw => ⟨(j + 1, xs, po_, co_), ⟨by dsimp only; omega, by dsimp only; rw [hX, allL_n hx (by simpa using h21)]⟩, (by dsimp only; omega), ha.sub (.cons rfl (.cons rfl (.cons rfl .nil))), (by exact selK (L1 := [_,_]) [3,4] rfl rfl _ hw)⟩
  ·
    refine VC.exit (VE.thenX (VE.thenX (VE.inX (VE.seqN ?_))))
    refine VC.seq ?_
    refine VC.reg (VO.l (LO.mv (.r rfl)) rfl<|VO.l (LO.as (.r rfl)) rfl<|VO.nil ?_)
    refine VE.seqN ?_
    refine VC.ret (VE.res (vs := [_]) rfl ⟨rfl, trivial⟩ (fun w hw => ?_))
    exact ⟨((po_, co_), xs), by rw [hX, show j = l.length by omega], rfl, hw.sel [0,1] rfl⟩

set_option maxRecDepth 20000 in
theorem beat_c (b : BtM) (l : List CP) (p : Option Addr) (c : Nat) (w : World) (hn : l.length < 1000000) (hb : b.ok) (hl : Clouds w p l) :
  Calls Try.prog 23 #[.agg b.cells.toArray, .slice p l.length c] w fun e w' => ∃ x : (Option Addr × Nat) × List CP, (x.2.map CP.c = beatL b (l.map CP.c) ∧ x.2.length ≤ 2 ∧ ∀ y, y ∈ x.2 → y ∈ l) ∧ e = .returned (.slice x.1.1 x.2.length x.1.2) ∧ St (bs w) [own 80 7 x.1.1 x.1.2 (x.2.map CP.cells)] w' := by
  obtain ⟨hb1, hb2, hb3⟩ := id hb
  unfold U8 at hb2 hb3
  refine enter (vs := [_,_]) (env := [(0,_), (1,_)]) Try.func23 rfl rfl rfl rfl ?_
  refine VC.seq ?_
  refine VC.reg (VO.h rfl<|HO.box (C := #[_,_,_,_]) rfl rfl fun b1 => VO.l (LO.as (.r rfl)) rfl<|VO.nil ?_)
  refine VE.seqN ?_
  refine VC.seq ?_
  refine VC.seq ?_
  refine VC.reg (VO.l (LO.mv (.r rfl)) rfl<|VO.l (LO.len S29 (.r rfl) rfl) rfl<|VO.l (LO.eq (.r rfl) (.r rfl)) rfl<|VO.l (LO.mv (.r rfl)) rfl<|VO.lg rfl rfl (GD.f _) (fun hg => LO.fa (r := 3) F66_3 (.r rfl) rfl) rfl<|VO.lg rfl rfl (GD.f _) (fun hg => LO.ld O4 (.g hg rfl) (fun _ hw => cells_at hw 0 rfl ⟨_, rfl⟩)) rfl<|VO.l (LO.pkO (.r rfl) (.r rfl) rfl rfl) rfl<|VO.nil ?_)
  refine VE.seqN ?_
  refine VC.cond rfl (fun h11 => ?_) (fun h11 => ?_)
  ·
    refine VC.seq ?_
    refine VC.reg (VO.l (LO.as (.r rfl)) rfl<|VO.nil ?_)
    refine VE.seqN ?_
    refine VC.ret (VE.thenR (VE.res (vs := [_]) rfl ⟨rfl, trivial⟩ (fun w hw => ?_)))
    first | exact ⟨((none, 0), []), ⟨by unfold beatL; rw [if_pos (by rw [List.length_map]; exact h11)]; rfl, Nat.zero_le _, fun y hy => by cases hy⟩, rfl, hw.nil.ownNil 80 7⟩ | exact ⟨((_,_), [x, x2]), ⟨by unfold beatL; rw [if_neg (by rw [List.length_map]; exact h11), List.length_map, getD_c hx, getD_c hx2]; rfl, Nat.le_refl _, fun y hy => by simp only [List.mem_cons, List.not_mem_nil, or_false] at hy; rcases hy with rfl | rfl; (· exact List.mem_of_getElem? hx); (· exact List.mem_of_getElem? hx2)⟩, rfl, (Go.Proofs.Ytdjflomhaljljaa.St.blkRows hw 0 (rows := [x, x2].map CP.cells) rfl rfl (fun r hr => by obtain ⟨q,_, e⟩ := List.mem_map.1 hr; rw [← e]; rfl)).sel [0] rfl⟩
  ·
    have hpos : 0 < l.length := by omega
    have hk1 := btIx_lt hb2.1 hpos
    have hk2 := btIx_lt hb3.1 hpos
    obtain ⟨x, hx⟩ : ∃ x, l[(btIx l.length b.a)]? = some x := ⟨_, List.getElem?_eq_getElem hk1.1⟩
    obtain ⟨x2, hx2⟩ : ∃ x, l[(btIx l.length b.b)]? = some x := ⟨_, List.getElem?_eq_getElem hk2.1⟩
    refine VC.skip (VE.seqN ?_)
    refine VC.seq ?_
    refine VC.drawH [[0], [0], [0]] [some 0, some 0, some 0, some 0, some 0, some 0, some 0, some 0, some 0, some 0, some 0, some 0, some 0, some 0, some 0, some 0, some 0, some 0, none, none] mixed (by kernel_rfl) rfl (LX.l (fun _ hJ => LO.mv (.r rfl)) rfl<|LX.l (fun _ hJ => LO.fa (r := 1) F66_1 (.r rfl) rfl) rfl<|LX.l (fun _ hJ => LO.ld O5 (.r rfl) (fun _ hw => cells_at (hJ _ hw) 0 rfl ⟨_, rfl⟩)) rfl<|LX.l (fun _ hJ => LO.cv ⟨_, Try.underlying5⟩ Try.underlying3 (.r rfl) (wi (by omega) (by omega))) rfl<|LX.l (fun _ hJ => LO.mv (.r rfl)) rfl<|LX.l (fun _ hJ => LO.len S29 (.r rfl) rfl) rfl<|LX.l (fun _ hJ => LO.rem (.r rfl) (.r rfl) (by omega)) rfl<|LX.l (fun _ hJ => LO.ixs S29 N80 hl.sl (.r rfl) (.r rfl) hk1.2 hk1.1) rfl<|LX.l (fun _ hJ => LO.lda (vs := [_,_,_,_,_,_,_]) A80 (.r rfl) (hl.at hx) rfl) rfl<|LX.l (fun _ hJ => LO.mv (.r rfl)) rfl<|LX.l (fun _ hJ => LO.fa (r := 2) F66_2 (.r rfl) rfl) rfl<|LX.l (fun _ hJ => LO.ld O5 (.r rfl) (fun _ hw => cells_at (hJ _ hw) 0 rfl ⟨_, rfl⟩)) rfl<|LX.l (fun _ hJ => LO.cv ⟨_, Try.underlying5⟩ Try.underlying3 (.r rfl) (wi (by omega) (by omega))) rfl<|LX.l (fun _ hJ => LO.mv (.r rfl)) rfl<|LX.l (fun _ hJ => LO.len S29 (.r rfl) rfl) rfl<|LX.l (fun _ hJ => LO.rem (.r rfl) (.r rfl) (by omega)) rfl<|LX.l (fun _ hJ => LO.ixs S29 N80 hl.sl (.r rfl) (.r rfl) hk2.2 hk2.1) rfl<|LX.l (fun _ hJ => LO.lda (vs := [_,_,_,_,_,_,_]) A80 (.r rfl) (hl.at hx2) rfl) rfl<|LX.s<|LX.s<|LX.nil) (HX.s<|HX.s<|HX.s<|HX.s<|HX.s<|HX.s<|HX.s<|HX.s<|HX.s<|HX.s<|HX.s<|HX.s<|HX.s<|HX.s<|HX.s<|HX.s<|HX.s<|HX.s<|HX.h rfl<|HO.bs (ps := [(_,_), (_,_)]) (vs := [(_,_), (_,_)]) (Z := [_,_,_,_,_,_,_,_,_,_,_,_,_,_]) (C := [_,_,_,_,_,_,_,_,_,_,_,_,_,_]) S29 Z80 N80 ⟨(.r rfl), (.r rfl), trivial⟩ rfl rfl rfl rfl ⟨_, [_,_,_,_,_,_,_], [_,_,_,_,_,_,_,_,_,_,_,_,_,_], rfl, rfl, rfl, rfl, ⟨_, [_,_,_,_,_,_,_], [_,_,_,_,_,_,_,_,_,_,_,_,_,_], rfl, rfl, rfl, rfl, rfl⟩⟩ fun b3 => ⟨fun _ hw => hw.sel [1] rfl, HX.h rfl<|HO.lo (LO.as (.r rfl))<|⟨fun _ hw => hw.sel [1] rfl, HX.nil ?_⟩⟩)
    refine VE.seqN ?_
    refine VC.ret (VE.res (vs := [_]) rfl ⟨rfl, trivial⟩ (fun w hw => ?_))
    first | exact ⟨((none, 0), []), ⟨by unfold beatL; rw [if_pos (by rw [List.length_map]; exact h11)]; rfl, Nat.zero_le _, fun y hy => by cases hy⟩, rfl, hw.nil.ownNil 80 7⟩ | exact ⟨((_,_), [x, x2]), ⟨by unfold beatL; rw [if_neg (by rw [List.length_map]; exact h11), List.length_map, getD_c hx, getD_c hx2]; rfl, Nat.le_refl _, fun y hy => by simp only [List.mem_cons, List.not_mem_nil, or_false] at hy; rcases hy with rfl | rfl; (· exact List.mem_of_getElem? hx); (· exact List.mem_of_getElem? hx2)⟩, rfl, (Go.Proofs.Ytdjflomhaljljaa.St.blkRows hw 0 (rows := [x, x2].map CP.cells) rfl rfl (fun r hr => by obtain ⟨q,_, e⟩ := List.mem_map.1 hr; rw [← e]; rfl)).sel [0] rfl⟩

end Go.Proofs.Ytdjflomhaljljaa

namespace Go.Proofs.Ytdjflomhaljljaa
open Go.SL Go.Proofs Go.Cast
set_option linter.unusedVariables false

/-- Numbers in order, below a bound. -/
def Asc (n : Nat) (l : List Int) : Prop := l.Pairwise (· < ·) ∧ ∀ v, v ∈ l → 0 ≤ v ∧ v < (n : Int)
theorem asc_filter {n : Nat} (f : Nat → Bool) : Asc n (((List.range n).filter f).map Int.ofNat) := by
  constructor
  · rw [List.pairwise_map]
    exact (List.Pairwise.filter f List.pairwise_lt_range).imp fun h => by exact Int.ofNat_lt.2 h
  · intro v hv
    obtain ⟨p, hp, e⟩ := List.mem_map.1 hv
    have := List.mem_range.1 (List.mem_filter.1 hp).1
    subst e
    constructor
    · exact Int.natCast_nonneg p
    · exact Int.ofNat_lt.2 this
theorem asc_px {px : List Int} {f : Int → Bool} {n : Nat} : Asc n (pxF px f n) := asc_filter _
theorem asc_dr {d : DrM} {i n : Nat} : Asc n (drPx d i n) := asc_filter _
theorem asc_lt {n : Nat} {l : List Int} (h : Asc n l) {i : Nat} (h0 : 0 < i) (hi : i < l.length) : l.getD (i - 1) 0 < l.getD i 0 := by
  have := List.pairwise_iff_getElem.1 h.1 (i - 1) i (by omega) hi (by omega)
  rw [List.getD_eq_getElem?_getD, List.getD_eq_getElem?_getD, List.getElem?_eq_getElem hi, List.getElem?_eq_getElem (by omega : i - 1 < l.length)]
  exact this
theorem mayE_asc {l : List Int} (h : Asc 20 l) : firstE (mayE gD l) l.length = 0 := firstE_zero fun k hk => by
  have h1 := h.2 _ (getD_mem (d := 0) hk)
  unfold mayE
  rw [if_neg (fun q => q ⟨h1.1, by show _ ≤ (5 : Int) * 4 - 1; omega⟩), if_neg]
  rintro ⟨h2, h3⟩
  have := asc_lt h (by omega) hk
  omega
theorem pxF_mem {px : List Int} {f : Int → Bool} {n : Nat} {v : Int} : v ∈ pxF px f n ↔ ∃ p : Nat, p < n ∧ v = (p : Int) ∧ f (px.getD p 0) = true := by
  unfold pxF
  simp only [List.mem_map, List.mem_filter, List.mem_range]
  constructor
  · rintro ⟨p, ⟨h1, h2⟩, h3⟩; exact ⟨p, h1, h3.symm, h2⟩
  · rintro ⟨p, h1, h2, h3⟩; exact ⟨p, ⟨h1, h3⟩, h2.symm⟩
theorem sureE_asc {px : List Int} : firstE (sureE (pxF px mayF 20) (pxF px sureF 20)) (pxF px sureF 20).length = 0 := firstE_zero fun k hk => by
  unfold sureE
  rw [if_neg, if_neg]
  · intro q
    refine q ?_
    obtain ⟨p, h1, h2, h3⟩ := pxF_mem.1 (getD_mem (d := 0) hk)
    rw [h2]
    refine pxF_mem.2 ⟨p, h1, rfl, ?_⟩
    unfold sureF at h3
    unfold mayF
    have := of_decide_eq_true h3
    rw [this]; rfl
  · rintro ⟨h2, h3⟩
    have := asc_lt (asc_px (px := px) (f := sureF)) (by omega) hk
    omega
theorem cloud_ok {c : ClM} (h : c.ok) (hh : clHas c = true) : cloudE gD (clMk c) = 0 := by
  obtain ⟨_,_, h1, h2, h3, h4, h5⟩ := h
  have e1 : (clMk c).may ≠ [] := fun q => by
    have : pxF c.px mayF 20 = [] := q
    unfold clHas at hh; rw [this] at hh; cases hh
  have a := tm2 c.xa; have b := tm2 c.xb; have d := tm2 c.ya; have e := tm2 c.yb
  unfold U8 at h5
  unfold cloudE
  rw [if_neg (fun q => q (by decide)), if_neg (fun q => q ⟨⟨by show -100000 ≤ spA c.xa c.xb; unfold spA; omega, by show spA c.xa c.xb ≤ spB c.xa c.xb; unfold spA spB; omega, by show spB c.xa c.xb ≤ 100000; unfold spB; omega⟩, by show -100000 ≤ spA c.ya c.yb; unfold spA; omega, by show spA c.ya c.yb ≤ spB c.ya c.yb; unfold spA spB; omega, by show spB c.ya c.yb ≤ 100000; unfold spB; omega⟩),
    if_neg (fun q => q ⟨by show 0 ≤ c.gr; omega, by show c.gr ≤ 10000; omega⟩), if_neg e1]
  rw [if_neg (fun q => q (mayE_asc asc_px))]
  exact sureE_asc
theorem allL_ok {l : List ClM} (h : ∀ c, c ∈ l → c.ok) : ∀ n x, x ∈ allL l n → ∃ c, c ∈ l ∧ x = clMk c ∧ clHas c = true
  | 0, x, hx => by cases hx
  | n + 1, x, hx => by
    unfold allL at hx
    split at hx
    · exact allL_ok h n x hx
    · rename_i c hc
      split at hx
      · rcases List.mem_append.1 hx with q | q
        · exact allL_ok h n x q
        · simp at q; subst q; exact ⟨c, List.mem_of_getElem? hc, rfl, by assumption⟩
      · exact allL_ok h n x hx
theorem look_ok {l : List Cloud} (hl : l.length ≤ 64) (h : ∀ x, x ∈ l → cloudE gD x = 0) : lookE gD l = 0 := by
  unfold lookE atE
  rw [if_neg (fun q => q (by decide)), if_neg (by omega), if_neg (fun q => q (firstE_zero fun k hk => h _ (getD_mem hk))), if_neg (by decide)]
theorem beat_mem {b : BtM} {l : List Cloud} (hb : b.ok) : ∀ x, x ∈ beatL b l → x ∈ l := fun x hx => by
  unfold beatL at hx
  split at hx
  · cases hx
  · rename_i q
    have hp : 0 < l.length := by omega
    simp only [List.mem_cons, List.not_mem_nil, or_false] at hx
    rcases hx with rfl | rfl
    · exact getD_mem (btIx_lt hb.2.1.1 hp).1
    · exact getD_mem (btIx_lt hb.2.2.1 hp).1
theorem beat_len {b : BtM} {l : List Cloud} : (beatL b l).length ≤ 2 := by unfold beatL; split <;> simp
/-- Clouds that a look takes. -/
def ClsOk (l : List Cloud) : Prop := ∀ x, x ∈ l → cloudE gD x = 0
theorem allL_cls {l : List ClM} (h : ∀ c, c ∈ l → c.ok) (n : Nat) : ClsOk (allL l n) := fun x hx => by
  obtain ⟨c, h1, rfl, h2⟩ := allL_ok h n x hx
  exact cloud_ok (h c h1) h2
theorem beat_look {b : BtM} {l : List Cloud} (hb : b.ok) (h : ClsOk l) : lookE gD (beatL b l) = 0 := look_ok (by have := beat_len (b := b) (l := l); omega) fun x hx => h x (beat_mem hb x hx)
theorem drRegs_mem {d : DrM} : ∀ {i : Nat} {r : Reg}, r ∈ drRegs d i → ∃ j, j < i ∧ r = ⟨nmS j, drPx d j 20⟩ ∧ drPx d j 20 ≠ []
  | 0, r, h => by cases h
  | i + 1, r, h => by
    unfold drRegs at h
    split at h
    · obtain ⟨j, h1, h2⟩ := drRegs_mem h; exact ⟨j, by omega, h2⟩
    · rename_i q
      rcases List.mem_append.1 h with z | z
      · obtain ⟨j, h1, h2⟩ := drRegs_mem z; exact ⟨j, by omega, h2⟩
      · simp at z; exact ⟨i, by omega, z, q⟩
theorem nmS_inj {i j : Nat} (hi : i < 3) (hj : j < 3) (h : nmS i = nmS j) : i = j := by
  have key : ∀ i j : Fin 3, nmS i.val = nmS j.val → i = j := by decide
  have := key ⟨i, hi⟩ ⟨j, hj⟩ h
  exact congrArg Fin.val this
theorem nmS_ok {i : Nat} (hi : i < 3) : nameB (nmS i) = true := by
  have key : ∀ i : Fin 3, nameB (nmS i.val) = true := by decide
  exact key ⟨i, hi⟩
theorem drRegs_pw {d : DrM} : ∀ {i : Nat}, i ≤ 3 → (drRegs d i).Pairwise (fun r s => r.name ≠ s.name)
  | 0,_ => List.Pairwise.nil
  | i + 1, hi => by
    unfold drRegs
    split
    · exact drRegs_pw (by omega)
    · rw [List.pairwise_append]
      refine ⟨drRegs_pw (by omega), by simp, fun r hr s hs => ?_⟩
      simp at hs; subst hs
      obtain ⟨j, h1, h2,_⟩ := drRegs_mem hr
      subst h2
      intro e
      have := nmS_inj (by omega) (by omega) e
      omega
theorem dr_spec {d : DrM} (h : d.ok) (hne : drRegs d 3 ≠ []) : specE (drSp d) = 0 := by
  have hb := dr_bd h
  have hlen := drRegs_len (d := d) 3
  unfold specE drSp
  dsimp only
  have hz : firstE (regE gD (drRegs d 3)) (drRegs d 3).length = 0 := by
    refine firstE_zero fun k hk => ?_
    obtain ⟨j, h1, h2, h3⟩ := drRegs_mem (getD_mem (d := default) hk)
    unfold regE
    rw [if_neg, if_neg, h2]
    · unfold pixE
      rw [if_neg h3]
      exact mayE_asc asc_dr
    · intro q
      unfold metB at q
      rw [List.any_eq_true] at q
      obtain ⟨r, hr, e⟩ := q
      obtain ⟨i, hi⟩ := List.mem_iff_getElem?.1 hr
      rw [List.getElem?_take] at hi
      split at hi
      · rename_i q
        obtain ⟨z1, z2⟩ := List.getElem?_eq_some_iff.1 hi
        have := List.pairwise_iff_getElem.1 (drRegs_pw (d := d) (Nat.le_refl 3)) i k z1 hk q
        rw [z2] at this
        have e2 : (drRegs d 3).getD k default = (drRegs d 3)[k] := by rw [List.getD_eq_getElem?_getD, List.getElem?_eq_getElem hk]; rfl
        exact this (by rw [← e2]; exact (of_decide_eq_true e).symm)
      · cases hi
    · intro q
      rw [h2] at q
      exact q (nmS_ok h1)
  rw [if_neg (fun q => q (by decide)), if_neg hne, if_neg (by omega), if_neg (fun q => q hz), if_neg (fun q => q ⟨⟨by dsimp only; omega, by dsimp only; omega⟩, ⟨by dsimp only; omega, by dsimp only; omega⟩, by dsimp only; omega, by dsimp only; omega⟩)]
/-- The time of a beat. -/
def tAt (bs : List BtM) : Nat → Int
  | 0 => 0
  | i + 1 => tAt bs i + (1 + (bs.getD i ⟨0,0,0, true⟩).la.tmod 500)
theorem tAt_bd {bs : List BtM} (h : ∀ b, b ∈ bs → b.ok) : ∀ i, i ≤ bs.length → 0 ≤ tAt bs i ∧ tAt bs i ≤ 500 * (i : Int)
  | 0,_ => ⟨Int.le_refl _, Int.le_refl _⟩
  | i + 1, hi => by
    have ih := tAt_bd h i (by omega)
    have hb := (h _ (getD_mem (d := ⟨0,0,0, true⟩) (by omega : i < bs.length))).1
    have := tm hb.1 (show (0 : Int) < 500 by decide)
    unfold tAt
    omega
theorem tAt_lt {bs : List BtM} (h : ∀ b, b ∈ bs → b.ok) {i : Nat} (hi : i < bs.length) : tAt bs i < tAt bs (i + 1) := by
  have hb := (h _ (getD_mem (d := ⟨0,0,0, true⟩) hi)).1
  have := tm hb.1 (show (0 : Int) < 500 by decide)
  conv => rhs; unfold tAt
  omega
/-- The threats of all regions. -/
def thsP (s : Sp) (l : List Cloud) : List Thr := s.regs.map fun r => thr (lookL s.g l s.lead s.step) r.pix s.step
theorem ths_eq {o : OfM} (h : WfO o) (l : List Cloud) : thsO o l = thsP o.sp l := by
  unfold thsO thsP OfM.sp
  refine List.ext_getElem? fun k => ?_
  simp only [List.getElem?_map]
  cases q : o.rc[k]? with
  | none =>
    have : o.rc.length ≤ k := by
      rcases Nat.lt_or_ge k o.rc.length with z | z
      · rw [List.getElem?_eq_getElem z] at q; cases q
      · exact z
    rw [List.getElem?_eq_none (by rw [← h.len]; exact this)]; rfl
  | some r => rw [(h.idx k r q).1]; rfl
/-- The steps of beats. -/
def stB (s : Sp) (l : List Cloud) (bs : List BtM) (n : Nat) : List Stp := (List.range n).map fun i => ⟨tAt bs (i + 1), thsP s (beatL (bs.getD i ⟨0,0,0, true⟩) l)⟩
theorem stB_snoc {s : Sp} {l : List Cloud} {bs : List BtM} {n : Nat} : stB s l bs (n + 1) = stB s l bs n ++ [⟨tAt bs (n + 1), thsP s (beatL (bs.getD n ⟨0,0,0, true⟩) l)⟩] := by
  unfold stB; rw [List.range_succ, List.map_append]; rfl
/-- The events of steps, step by step. -/
def evB (s : Sp) (l : List Cloud) (bs : List BtM) (n : Nat) : List (List Ev) := (List.range n).map fun i => evF s.hold s.regs.length (stB s l bs i) ⟨tAt bs (i + 1), thsP s (beatL (bs.getD i ⟨0,0,0, true⟩) l)⟩
theorem evB_snoc {s : Sp} {l : List Cloud} {bs : List BtM} {n : Nat} : evB s l bs (n + 1) = evB s l bs n ++ [evF s.hold s.regs.length (stB s l bs n) ⟨tAt bs (n + 1), thsP s (beatL (bs.getD n ⟨0,0,0, true⟩) l)⟩] := by
  unfold evB; rw [List.range_succ, List.map_append]; rfl
def tmB (bs : List BtM) (n : Nat) : List Int := (List.range n).map fun i => tAt bs (i + 1)
theorem tmB_snoc {bs : List BtM} {n : Nat} : tmB bs (n + 1) = tmB bs n ++ [tAt bs (n + 1)] := by unfold tmB; rw [List.range_succ, List.map_append]; rfl
theorem cs_nodup {o : OfM} {w : World} (h : (bagD (o.cs.map CsM.blk)).inv w) : (o.cs.map CsM.b).Nodup := by
  have := h.2
  rw [List.pairwise_map] at this
  unfold List.Nodup
  rw [List.pairwise_map]
  refine this.imp fun {a b} hab e => ?_
  exact hab a.b rfl (by show a.b = b.b; exact e)
/-- A step, and the plain words. -/
theorem Step_s (o : OfM) (st : List Stp) (T : Int) (m : List CP) (pm : Option Addr) (cm : Nat) (w : World) (hh : Has w (offR o)) (hcl : ∀ {L : List Res} {v : World}, St ⟨w, fpL (offR o)⟩ L v → Clouds v pm m) (hcn : m.length < 1000000000) (h : SimO o st) (hT1 : 0 ≤ T) (hT3 : T ≤ 4294967296) (hlate : o.ts = [] ∨ lastI o.ts < T) (hful : o.lg.length < 256) (hlk : lookE o.g (m.map CP.c) = 0) :
    Calls Try.prog 27 #[ptrN o.b, .int .i64 T, .slice pm m.length cm] w fun e w' => ∃ y : StepY, (StepP o T (m.map CP.c) y ∧ SimO (y.o o T) (st ++ [⟨T, thsP o.sp (m.map CP.c)⟩]) ∧ y.es = evF o.hold o.rc.length st ⟨T, thsP o.sp (m.map CP.c)⟩) ∧ e = .returned (.tuple #[.slice y.pe y.es.length y.ce, .int .i64 0]) ∧ St ⟨w, fpL (offR o)⟩ (own 62 7 y.pe y.ce (y.es.map evC) :: offR (y.o o T)) w' := by
  refine (Step_w o T m pm cm w hh hcl hcn h.wf hT1 hT3 hlate hful hlk).mono ?_
  rintro e w' ⟨y, hp, he, hs⟩
  have hnd : (y.cs.map CsM.b).Nodup := cs_nodup (o := y.o o T) (hs.inv 8 _ rfl)
  have := sim_step h hp hT1 hT3 hlate hnd
  rw [ths_eq h.wf] at this
  exact ⟨y, ⟨hp, this⟩, he, hs⟩
theorem n_eq {o : OfM} (h : WfO o) : o.rc.length = o.sp.regs.length := by unfold OfM.sp; rw [List.length_map]; exact h.len

end Go.Proofs.Ytdjflomhaljljaa

namespace Go.Proofs.Ytdjflomhaljljaa
open Go.SL Go.Proofs Go.Cast
set_option linter.unusedVariables false

theorem S50 : IsSlice Try.prog 50 66 := Try.underlying50
theorem N66 : (Try.prog.info? 66).map (·.size) = some 4 := by kernel_rfl
theorem F66_0 : FieldAt Try.prog 66 0 0 := ⟨_,_, Try.underlying66, rfl, rfl, 0, by kernel_rfl⟩
theorem A66 : IsAgg Try.prog 66 4 := ⟨⟨_, Try.underlying66, rfl⟩, by kernel_rfl⟩
theorem C23 : IsFn Try.prog 23 := ⟨_, Try.func23, by decide, rfl⟩
theorem S54 : IsSlice Try.prog 54 60 := Try.underlying54
theorem I60 : EInfo Try.prog 60 1 24 (.slice none 0 0) := ⟨by kernel_rfl, by kernel_rfl, by unfold ZeroOf; kernel_rfl, rfl, by decide⟩


/-- What stands in a log. -/
inductive Ent where
  | st (t : Int) (l : List Cloud)
  | nt (t : Int) (g : Grid) (vs : List Span) (lv : Int)
def LgM.ent : LgM → Ent
  | .st t _ _ l => .st t (l.map CP.c)
  | .nt t g _ _ vs lv => .nt t g vs lv
def lgB (l : List Cloud) (bs : List BtM) (n : Nat) : List Ent := (List.range n).map fun i => .st (tAt bs (i + 1)) (beatL (bs.getD i ⟨0,0,0, true⟩) l)
theorem lgB_snoc {l : List Cloud} {bs : List BtM} {n : Nat} : lgB l bs (n + 1) = lgB l bs n ++ [.st (tAt bs (n + 1)) (beatL (bs.getD n ⟨0,0,0, true⟩) l)] := by unfold lgB; rw [List.range_succ, List.map_append]; rfl
structure RnY where
  o : OfM
  evs : List (RowA Ev)
  pe : Option Addr
  ce : Nat
  ts : List Int
  pt : Option Addr
  ct : Nat
/-- What holds of an office behind some beats. -/
def RnA (s : Sp) (l : List Cloud) (bs : List BtM) (o : OfM) (evs : List (RowA Ev)) (ts : List Int) (n : Nat) : Prop :=
  SimO o (stB s l bs n) ∧ o.sp = s ∧ evs.map RowA.l = evB s l bs n ∧ ts = tmB bs n ∧ o.lg.map LgM.ent = lgB l bs n
def RnP (s : Sp) (l : List Cloud) (bs : List BtM) (y : RnY) : Prop := RnA s l bs y.o y.evs y.ts bs.length
theorem clouds_rest {R L : List Res} {w0 w v : World} {pl p : Option Addr} {c : Nat} {m l : List CP} (hl : Clouds w0 pl l) (hm : ∀ y, y ∈ m → y ∈ l) (h : St (bs w0) (R ++ [own 80 7 p c (m.map CP.cells)]) w) (hs : St ⟨w, fpL R⟩ L v) : Clouds v p m :=
  ⟨own_inv_rows (restInv h hs (.head _)), fun x hx => (hl.keep v (h.callG (fun k hk => hk) hs)).ok x (hm x hx)⟩
theorem tAt_s {bs : List BtM} {n : Nat} {x : BtM} (hx : bs[n]? = some x) : tAt bs (n + 1) = tAt bs n + (1 + x.la.tmod 500) := by
  have hxd : bs.getD n ⟨0,0,0, true⟩ = x := by rw [List.getD_eq_getElem?_getD, hx]; rfl
  conv => lhs; unfold tAt
  rw [hxd]
theorem late_stB {o : OfM} {s : Sp} {l : List Cloud} {bs : List BtM} {i : Nat} (h : o.ts = (stB s l bs i).map Stp.t) (hb : ∀ b, b ∈ bs → b.ok) (hi : i < bs.length) : o.ts = [] ∨ lastI o.ts < tAt bs (i + 1) := by
  cases i with
  | zero => exact .inl (by rw [h]; rfl)
  | succ k =>
    refine .inr ?_
    rw [h, stB_snoc, List.map_append]
    show lastI (_ ++ [_]) < _
    rw [lastI_snoc]
    exact tAt_lt hb hi
theorem rn_step {s : Sp} {l : List Cloud} {bs : List BtM} {o : OfM} {evs : List (RowA Ev)} {ts : List Int} {n : Nat} {y : StepY} {x : BtM} {m : List Cloud} (h : RnA s l bs o evs ts n) (hx : bs[n]? = some x) (hm : m = beatL x l)
    (hy : StepP o (tAt bs (n + 1)) m y ∧ SimO (y.o o (tAt bs (n + 1))) (stB s l bs n ++ [⟨tAt bs (n + 1), thsP o.sp m⟩]) ∧ y.es = evF o.hold o.rc.length (stB s l bs n) ⟨tAt bs (n + 1), thsP o.sp m⟩) :
    RnA s l bs (y.o o (tAt bs (n + 1))) (evs ++ [⟨y.pe, y.ce, y.es⟩]) (ts ++ [tAt bs (n + 1)]) (n + 1) := by
  obtain ⟨h1, h2, h3, h4, h5⟩ := h
  obtain ⟨k1, k2, k3⟩ := hy
  have hxd : bs.getD n ⟨0,0,0, true⟩ = x := by rw [List.getD_eq_getElem?_getD, hx]; rfl
  subst hm
  rw [h2] at k2 k3
  refine ⟨by rw [stB_snoc, hxd]; exact k2, h2, ?_, by rw [h4, tmB_snoc], ?_⟩
  · rw [List.map_append, h3, evB_snoc, hxd]
    congr 1
    show [y.es] = _
    rw [k3, n_eq h1.wf, h2]
    congr 3
    rw [← h2]; rfl
  · obtain ⟨_, p, c, q, e1, e2⟩ := k1
    show (o.lg ++ [y.lg]).map LgM.ent = _
    rw [List.map_append, h5, lgB_snoc, hxd, e1]
    show _ ++ [Ent.st _ (q.map CP.c)] = _
    rw [e2]

set_option maxRecDepth 20000 in
theorem run_c (g : Grid) (rgs : List RG) (pg : Option Addr) (cg : Nat) (a b d : Int) (s : Sp) (l : List CP) (pl : Option Addr) (cl : Nat) (bs : List BtM) (pb : Option Addr) (cb : Nat) (w : World) (hse : s = ⟨g, rgs.map RG.r, a, b, d⟩) (hs : specE s = 0) (hrl : rgs.length < 1000000000000) (hrg : Regs w pg rgs) (hll : l.length < 1000000) (hl : Clouds w pl l) (hbl : bs.length ≤ 200) (hb : BtsM w pb bs) (hlook : ∀ x, x ∈ bs → lookE s.g (beatL x (l.map CP.c)) = 0) :
  Calls Try.prog 21 #[specV g pg rgs.length cg a b d, .slice pl l.length cl, .slice pb bs.length cb] w fun e w' => ∃ y : RnY, RnP s (l.map CP.c) bs y ∧ e = .returned (.tuple #[ptrN y.o.b, .slice y.pe y.evs.length y.ce, .slice y.pt y.ts.length y.ct, .bool true]) ∧ St (Go.SL.bs w) (offR y.o ++ [own 60 1 y.pe y.ce (y.evs.map rowC), bagR 62 7 evC y.evs, own 3 1 y.pt y.ct (y.ts.map iC)]) w' := by
  have hbs := hb.ok
  have htb := tAt_bd hbs
  refine enter (vs := [_,_,_]) (env := [(0,_), (1,_), (2,_)]) Try.func21 rfl rfl rfl rfl ?_
  refine VC.seq ?_
  refine VC.reg (VO.h rfl<|HO.box (C := #[_,_,_,_,_,_,_,_,_]) rfl rfl fun b1 => VO.l (LO.as (.r rfl)) rfl<|VO.l (LO.as (.r rfl)) rfl<|VO.l (LO.as (.r rfl)) rfl<|VO.l (LO.as (.r rfl)) rfl<|VO.nil ?_)
  refine VE.seqN ?_
  refine VC.seq ?_
  refine VC.reg (VO.l (LO.lda (vs := [_,_,_,_,_,_,_,_,_]) A28 (.r rfl) (fun _ hw => cells_at hw 0 rfl ⟨_, rfl⟩) rfl) rfl<|VO.h rfl<|HO.callx (xs := [_]) (vs := [_]) C26 ⟨(.r rfl), trivial⟩ (fun w hw => New_c g rgs pg cg a b d w hrl (hrg.keep hw) (by rw [← hse]; exact hs)) fun o hn => VO.h rfl<|HO.lo (LO.mv (.r rfl))<|VO.h rfl<|HO.lo (LO.ex (.r rfl) rfl)<|VO.h rfl<|HO.lo (LO.ex (.r rfl) rfl)<|VO.h rfl<|HO.lo (LO.as (.r rfl))<|VO.h rfl<|HO.lo (LO.as (.r rfl))<|VO.nil ?_)
  refine VE.seqN ?_
  refine VC.seq ?_
  refine VC.seq ?_
  refine VC.reg (VO.l (LO.mv (.r rfl)) rfl<|VO.l (LO.ne (.r rfl) (.r rfl)) rfl<|VO.nil ?_)
  refine VE.seqN ?_
  refine VC.cond rfl (fun h24 => ?_) (fun h24 => ?_)
  ·
    (exfalso; exact h24 rfl)
  ·
    refine VC.skip (VE.seqN ?_)
    refine VC.seq ?_
    refine VC.reg (VO.l (LO.as (.r rfl)) rfl<|VO.nil ?_)
    refine VE.seqN ?_
    refine VC.seq ?_
    refine VC.reg (VO.l (LO.as (.r rfl)) rfl<|VO.nil ?_)
    refine VE.seqN ?_
    refine VC.seq ?_
    refine VC.reg (VO.l (LO.as (.r rfl)) rfl<|VO.nil ?_)
    refine VE.seqN ?_
    refine VC.seq ?_
    refine VC.seq ?_
    refine VC.reg (VO.l (LO.as (.r rfl)) rfl<|VO.nil ?_)
    refine VE.seqN ?_
    refine VC.block ?_
    refine VC.loopK (α := Nat × OfM × (List (RowA Ev)) × (Option Addr) × Nat × (List Int) × (Option Addr) × Nat) 10 (fun gx => [(12, .int .i64 (tAt bs gx.1)), (13, .slice gx.2.2.2.1 gx.2.2.1.length gx.2.2.2.2.1), (14, .slice gx.2.2.2.2.2.2.1 gx.2.2.2.2.2.1.length gx.2.2.2.2.2.2.2), (15, .int .i64 (gx.1 : Nat))]) [(1,_), (2,_), (10,_)] (fun gx => [OfM.blk gx.2.1, OfM.rgR gx.2.1, OfM.pxB gx.2.1, OfM.rcR gx.2.1, OfM.rcB gx.2.1, OfM.tsR gx.2.1, OfM.csR gx.2.1, OfM.csB gx.2.1, OfM.lgR gx.2.1, OfM.lgB gx.2.1, own 60 1 gx.2.2.2.1 gx.2.2.2.2.1 (gx.2.2.1.map rowC), bagR 62 7 evC gx.2.2.1, own 3 1 gx.2.2.2.2.2.2.1 gx.2.2.2.2.2.2.2 (gx.2.2.2.2.2.1.map iC)]) (fun gx => gx.1 ≤ bs.length ∧ gx.2.1.b = o.b ∧ RnA s (l.map CP.c) bs gx.2.1 gx.2.2.1 gx.2.2.2.2.2.1 gx.1) (fun gx => bs.length - gx.1) (0, o, [], none, 0, [], none, 0) (by exact ⟨Nat.zero_le _, rfl, sim_new hn (by rw [← hse]; exact hs) (fun x hx => (hrg.ok x hx).2), (by rw [hse]; obtain ⟨h1, h2, h3, h4,_,_,_,_, h8,_⟩ := hn; unfold OfM.sp; rw [h1, h2, h3, h4, h8]), rfl, rfl, (by obtain ⟨_,_,_,_,_,_, h7,_⟩ := hn; rw [h7]; rfl)⟩) (.cons rfl (.cons rfl (.cons rfl (.cons rfl (.cons rfl (.cons rfl (.cons rfl .nil))))))) (fun _ h => ((((h.ownNil 3 1).bagRNil 62 7 evC).ownNil 60 1)).sel [3,4,5,6,7,8,9,10,11,12,0,1,2,13] rfl) ?_
    rintro ⟨i, o_, evs, pe_, ce_, ts, pt_, ct_⟩ ⟨hi, hob, hR⟩
    show VC _ _ _ _ _ ([(12, .int .i64 (tAt bs i)), (13, .slice pe_ evs.length ce_), (14, .slice pt_ ts.length ct_), (15, .int .i64 (i : Nat))] ++ _) ([OfM.blk o_, OfM.rgR o_, OfM.pxB o_, OfM.rcR o_, OfM.rcB o_, OfM.tsR o_, OfM.csR o_, OfM.csB o_, OfM.lgR o_, OfM.lgB o_, own 60 1 pe_ ce_ (evs.map rowC), bagR 62 7 evC evs, own 3 1 pt_ ct_ (ts.map iC)] ++ _) _ _
    dsimp only at hi hob hR
    rw [← hob]
    have hel : evs.length = i := by rw [← List.length_map (f := RowA.l), hR.2.2.1]; simp [evB]
    have htl : ts.length = i := by rw [hR.2.2.2.1]; simp [tmB]
    refine VC.seq ?_
    refine VC.seq ?_
    refine VC.reg (VO.l (LO.mv (.r rfl)) rfl<|VO.l (LO.mv (.r rfl)) rfl<|VO.l (LO.len S50 (.r rfl) rfl) rfl<|VO.l (LO.lt (.r rfl) (.r rfl)) rfl<|VO.nil ?_)
    refine VE.seqN ?_
    refine VC.cond rfl (fun h28 => ?_) (fun h28 => ?_)
    ·
      obtain ⟨x, hx⟩ : ∃ x, bs[i]? = some x := ⟨_, List.getElem?_eq_getElem (by omega)⟩
      have hxm : x ∈ bs := List.mem_of_getElem? hx
      have hxo := hbs x hxm
      have hla : 0 ≤ x.la ∧ x.la ≤ 65535 := hxo.1
      have htm := tm hla.1 (show (0 : Int) < 500 by decide)
      have hT := tAt_s hx
      have htb1 := htb i (by omega)
      have htb2 := htb (i + 1) (by omega)
      refine VC.skip (VE.seqN ?_)
      refine VC.seq ?_
      refine VC.block ?_
      refine VC.seq ?_
      refine VC.reg (VO.l (LO.mv (.r rfl)) rfl<|VO.l (LO.mv (.r rfl)) rfl<|VO.l (LO.mv (.r rfl)) rfl<|VO.l (LO.ixs S50 N66 hb.rows.sm (.r rfl) (.r rfl) rfl (by omega)) rfl<|VO.l (LO.fa F66_0 (.r rfl) rfl) rfl<|VO.l (LO.ld O46 (.r rfl) (fun w hw => cells_part (off := 0) ((fun w2 hw2 => (hb.rows.keep w2 hw2).cells _ _ (by rw [List.getElem?_map, hx]; rfl)) w hw) ⟨_, rfl⟩)) rfl<|VO.l (LO.cv ⟨_, Try.underlying46⟩ Try.underlying3 (.r rfl) (wi (by omega) (by omega))) rfl<|VO.l (LO.rem (.r rfl) (.r rfl) (by decide)) rfl<|VO.l (LO.add (.r rfl) (.r rfl) (wi (by omega) (by omega))) rfl<|VO.l (LO.add (.r rfl) (.r rfl) ((wi (by omega) (by omega)).trans hT.symm)) rfl<|VO.l (LO.as (.r rfl)) rfl<|VO.nil ?_)
      refine VE.seqN ?_
      refine VC.seq ?_
      refine VC.reg (VO.l (LO.mv (.r rfl)) rfl<|VO.l (LO.mv (.r rfl)) rfl<|VO.l (LO.mv (.r rfl)) rfl<|VO.l (LO.mv (.r rfl)) rfl<|VO.l (LO.ixs S50 N66 hb.rows.sm (.r rfl) (.r rfl) rfl (by omega)) rfl<|VO.l (LO.lda (vs := [_,_,_,_]) A66 (.r rfl) (fun w hw => cells_part (off := 0) ((fun w2 hw2 => (hb.rows.keep w2 hw2).cells _ _ (by rw [List.getElem?_map, hx]; rfl)) w hw) ⟨_, rfl⟩) rfl) rfl<|VO.l (LO.mv (.r rfl)) rfl<|VO.h rfl<|HO.callx (xs := [_,_]) (vs := [_,_]) C23 ⟨(.r rfl), (.r rfl), trivial⟩ (fun w hw => beat_c x l pl cl w hll (hbs x hxm) (hl.keep w hw)) fun qb hqb => VO.h rfl<|HO.callP (first := []) (cap := []) (xs := [_,_,_]) (vs := [_,_,_]) [_,_,_,_,_,_,_,_,_,_] [_,_,_,_,_] (selK (L1 := [_,_,_,_,_,_,_,_,_,_] ++ [_,_,_,_,_]) [1,2,3,4,5,6,7,8,9,10,0,11,12,13,14] rfl rfl) (.r rfl) C27 ⟨(.r rfl), (.r rfl), (.r rfl), trivial⟩ (fun w hw hh => Step_s o_ _ (tAt bs (i + 1)) qb.2 qb.1.1 qb.1.2 w hh (fun hs => clouds_rest hl hqb.2.2 (selK (L1 := offR o_ ++ [_]) [1,2,3,4,5,6,7,8,9,10,0] rfl rfl w hw) hs) (by omega) hR.1 (by omega) (by omega) (late_stB hR.1.ts hbs (by omega)) (by rw [← List.length_map (f := LgM.ent), hR.2.2.2.2]; simp [lgB]; omega) (by rw [hqb.1, show o_.g = s.g from congrArg Sp.g hR.2.1]; exact hlook x hxm)) fun y hy => VO.h rfl<|HO.lo (LO.mv (.r rfl))<|VO.h rfl<|HO.lo (LO.ex (.r rfl) rfl)<|VO.h rfl<|HO.lo (LO.ex (.r rfl) rfl)<|VO.h rfl<|HO.lo (LO.as (.r rfl))<|VO.h rfl<|HO.lo (LO.as (.r rfl))<|VO.nil ?_)
      refine VE.seqN ?_
      refine VC.seq ?_
      refine VC.seq ?_
      refine VC.reg (VO.l (LO.mv (.r rfl)) rfl<|VO.l (LO.ne (.r rfl) (.r rfl)) rfl<|VO.nil ?_)
      refine VE.seqN ?_
      refine VC.cond rfl (fun h54 => ?_) (fun h54 => ?_)
      ·
        (exfalso; exact h54 rfl)
      ·
        refine VC.skip (VE.seqN ?_)
        refine VC.reg (VO.l (LO.mv (.r rfl)) rfl<|VO.l (LO.mv (.r rfl)) rfl<|VO.h rfl<|HO.bs (ps := [(_,_)]) (vs := [(_,_)]) (Z := [_]) (C := [_]) S54 Z60 N60 ⟨(.r rfl), trivial⟩ rfl rfl rfl rfl ⟨_, [_], [_], rfl, rfl, rfl, rfl, rfl⟩ fun b27 => VO.h rfl<|HO.appT ((⟨y.pe, y.ce, y.es⟩ : RowA Ev)) 13 0 (fun R => [_,_,_,_,_,_,_,_,_,_,_,_,_, R,_,_,_]) S54 S54 I60 (.r rfl) (.r rfl) rfl rfl rfl rfl rfl rfl rfl (fun _ => rfl) rfl (by omega) fun p3 c3 => VO.l (LO.mv (.r rfl)) rfl<|VO.l (LO.mv (.r rfl)) rfl<|VO.h rfl<|HO.bs (ps := [(_,_)]) (vs := [(_,_)]) (Z := [_]) (C := [_]) S55 Z3 N3 ⟨(.r rfl), trivial⟩ rfl rfl rfl rfl ⟨_, [_], [_], rfl, rfl, rfl, rfl, rfl⟩ fun b28 => VO.h rfl<|HO.appT ((tAt bs (i + 1))) 16 0 (fun R => [_,_,_,_,_,_,_,_,_,_,_,_,_,_,_,_, R,_]) S55 S55 I3 (.r rfl) (.r rfl) rfl rfl rfl rfl rfl rfl rfl (fun _ => rfl) rfl (by omega) fun p7 c7 => VO.h rfl<|HO.lo (LO.as (.r rfl))<|VO.h rfl<|HO.lo (LO.as (.r rfl))<|VO.nil ?_)
        refine VE.inN (VE.seqN ?_)
        refine VC.reg (VO.l (LO.mv (.r rfl)) rfl<|VO.l (LO.add (.r rfl) (.r rfl) (wi (by omega) (by omega))) rfl<|VO.l (LO.as (.r rfl)) rfl<|VO.nil ?_)
        refine VE.thenN fun a w ha hw => ⟨(i + 1, y.o o_ (tAt bs (i + 1)), evs ++ [(⟨y.pe, y.ce, y.es⟩ : RowA Ev)], p3, c3, ts ++ [tAt bs (i + 1)], p7, c7), ⟨by dsimp only; omega, rfl, rn_step hR hx hqb.1 hy⟩, (by dsimp only; omega), ha.sub (.cons rfl (.cons rfl (.cons rfl (.cons rfl (.cons rfl (.cons rfl (.cons rfl .nil))))))), (by exact selK (L1 := [_,_,_,_,_,_,_,_,_,_,_,_,_,_]) [1,2,3,4,5,6,7,8,9,10,11,0,12,13] rfl rfl _ (St.bagRIn (x := (⟨y.pe, y.ce, y.es⟩ : RowA Ev)) (selK (L1 := [_,_,_,_,_,_,_,_,_,_,_,_,_,_,_]) [2,15,3,4,5,6,7,8,9,10,11,12,14,16,17] rfl rfl _ hw)))⟩
    ·
      refine VC.exit (VE.thenX (VE.thenX (VE.inX (VE.seqN ?_))))
      refine VC.seq ?_
      refine VC.reg (VO.l (LO.mv (.r rfl)) rfl<|VO.l (LO.mv (.r rfl)) rfl<|VO.l (LO.mv (.r rfl)) rfl<|VO.l (LO.as (.r rfl)) rfl<|VO.l (LO.as (.r rfl)) rfl<|VO.l (LO.as (.r rfl)) rfl<|VO.l (LO.as (.r rfl)) rfl<|VO.nil ?_)
      refine VE.seqN ?_
      refine VC.ret (VE.res (vs := [_,_,_,_]) rfl ⟨rfl, rfl, rfl, rfl, trivial⟩ (fun w hw => ?_))
      have hi2 : i = bs.length := by omega
      subst hi2
      exact ⟨⟨o_, evs, pe_, ce_, ts, pt_, ct_⟩, hR, rfl, selK (L1 := offR o_ ++ [_,_,_]) [0,1,2,3,4,5,6,7,8,9,10,11,12] rfl rfl _ hw⟩

end Go.Proofs.Ytdjflomhaljljaa

namespace Go.Proofs.Ytdjflomhaljljaa
open Go.SL Go.Proofs Go.Cast
set_option linter.unusedVariables false

/-- What arrays of a law say of levels and open warnings. -/
structure NumI (n : Nat) (lv : Nat → Int) (cs : List Cs) (le nu pe be : List Int) : Prop where
  l1 : le.length = n
  l2 : nu.length = n
  l3 : pe.length = n
  l4 : be.length = n
  le : ∀ j, j < n → le.getD j 0 = lv j
  op : ∀ j, j < n → lv j ≠ 0 → ∃ (i : Nat) (c : Cs), cs[i]? = some c ∧ opn j c = true ∧ nu.getD j 0 = c.nm ∧ pe.getD j 0 = c.pk ∧ be.getD j 0 = c.bg
end Go.Proofs.Ytdjflomhaljljaa

namespace Go.Proofs.Ytdjflomhaljljaa
open Go.SL Go.Proofs Go.Cast
set_option linter.unusedVariables false

/-! ### The steps of a draft -/
section
variable (d : DrM) (lc : List Cloud) (bs : List BtM) (i : Nat)
end
section
variable {d : DrM} {lc : List Cloud} {bs : List BtM} {i : Nat}
end

end Go.Proofs.Ytdjflomhaljljaa

namespace Go.Proofs.Ytdjflomhaljljaa
open Go.SL Go.Proofs Go.Cast
set_option linter.unusedVariables false

end Go.Proofs.Ytdjflomhaljljaa

namespace Go.Proofs.Ytdjflomhaljljaa
open Go.SL Go.Proofs Go.Cast
set_option linter.unusedVariables false



theorem cp_read {w : World} {l : List CP} (h : (bagD (l.flatMap cpR)).inv w) {x : CP} (hx : x ∈ l) : Ints w x.ps x.c.sure ∧ Ints w x.pm x.c.may :=
  ⟨own_inv_rows (h.1 (own 3 1 x.ps x.cs (x.c.sure.map iC)) (List.mem_flatMap.2 ⟨x, hx, .head _⟩)), own_inv_rows (h.1 (own 3 1 x.pm x.cm (x.c.may.map iC)) (List.mem_flatMap.2 ⟨x, hx, .tail _ (.head _)⟩))⟩
theorem clouds_all {w : World} {p : Option Addr} {c n : Nat} {l : List CP} {cl : List ClM} (hX : l.map CP.c = allL cl n) (hok : ∀ c, c ∈ cl → c.ok) (h1 : (own 80 7 p c (l.map CP.cells)).inv w) (h2 : (bagD (l.flatMap cpR)).inv w) : Clouds w p l := by
  refine ⟨own_inv_rows h1, fun x hx => ?_⟩
  have h3 := cp_read h2 hx
  have h4 : x.c ∈ allL cl n := by rw [← hX]; exact List.mem_map_of_mem hx
  obtain ⟨k,_, e,_⟩ := allL_ok hok n _ h4
  have l1 : x.c.sure.length ≤ 20 := by rw [e]; exact pxF_len
  have l2 : x.c.may.length ≤ 20 := by rw [e]; exact pxF_len
  exact ⟨h3.1, h3.2, by omega, by omega⟩
theorem dr_pix {d : DrM} {r : Reg} (h : r ∈ drRegs d 3) : (∀ n, n ∈ r.pix → 0 ≤ n ∧ n < 20) ∧ r.pix.length ≤ 20 := by
  obtain ⟨j,_, rfl,_⟩ := drRegs_mem h
  exact ⟨fun n hn => asc_dr.2 n hn, drPx_len⟩
theorem regs_frame {w : World} {p : Option Addr} {c : Nat} {rgs : List RG} {d : DrM} (hX : rgs.map RG.r = drRegs d 3) (h1 : (own 74 2 p c (rgs.map RG.cells)).inv w) (h2 : (bagD (rgs.map pixR)).inv w) : Regs w p rgs := by
  refine ⟨own_inv_rows h1, fun x hx => ⟨pix_read h2 hx, ?_⟩⟩
  have h4 : x.r ∈ drRegs d 3 := by rw [← hX]; exact List.mem_map_of_mem hx
  have := (dr_pix h4).2
  omega
def zEv : Ev := ⟨0,0,0,0,0,0,0⟩
theorem getD_of {α : Type} {l : List α} {k : Nat} {x d : α} (h : l[k]? = some x) : l.getD k d = x := by rw [List.getD_eq_getElem?_getD, h]; rfl
theorem levels_sim {o : OfM} {st : List Stp} (h : SimO o st) : levelsL o = (List.range o.rc.length).map fun j => lvS o.hold j st := by
  unfold levelsL
  refine List.ext_getElem? fun j => ?_
  rw [List.getElem?_map, List.getElem?_map]
  rcases Nat.lt_or_ge j o.rc.length with q | q
  · rw [List.getElem?_range q, List.getElem?_eq_getElem q]
    have := (h.rcs j _ (List.getElem?_eq_getElem q)).2.1
    simp only [Option.map_some, this, lvL_last]
  · rw [List.getElem?_eq_none q, List.getElem?_eq_none (by simpa using q)]; rfl

theorem BtsM.keep {w0 w : World} {L : List Res} {p : Option Addr} {l : List BtM} (h : BtsM w0 p l) (hw : St (bs w0) L w) : BtsM w p l := ⟨h.rows.keep w hw, h.ok⟩
theorem DrM.len {d : DrM} (h : d.ok) : d.cells.length = 23 := by
  show (d.px.map u8V ++ _).length = 23
  rw [List.length_append, List.length_map, h.1]; rfl

end Go.Proofs.Ytdjflomhaljljaa

namespace Go.Proofs.Ytdjflomhaljljaa
open Go.SL Go.Proofs Go.Cast
set_option linter.unusedVariables false

theorem I76 : EInfo Try.prog 76 2 16 (.agg #[.int .i64 0, .int .i64 0]) := ⟨by kernel_rfl, by kernel_rfl, by unfold ZeroOf; kernel_rfl, rfl, by decide⟩
theorem C60 : IsFn Try.prog 60 := ⟨_, Try.func60, by decide, rfl⟩
theorem EA23 : FlatA Try.prog 23 5 := ⟨⟨_, Try.underlying23, rfl⟩, by kernel_rfl, by kernel_rfl⟩
theorem C61 : IsFn Try.prog 61 := ⟨_, Try.func61, by decide, rfl⟩
theorem N91 : (Try.prog.info? 91).map (·.size) = some 1 := by kernel_rfl
theorem B165 : Builds Try.prog 165 [(0,1), (1,6), (7,1)] [.int .i64 0, .int .i64 0, .int .i64 0, .int .i64 0, .int .i64 0, .int .i64 0, .slice none 0 0, .int .i64 0] := Builds.mk fun _ => by kernel_rfl


/-- What a note comes to. -/
def noteE (o : OfM) (T : Int) (f : Field) (lv : Int) : Int := if ¬ (0 ≤ T ∧ T ≤ 4294967296) then 3 else if 256 ≤ o.lg.length then 13 else if fieldE 1073741824 f ≠ 0 then fieldE 1073741824 f else if ¬ ([f.g.x, f.g.y, f.g.size, f.g.wide, f.g.high] = [o.g.x, o.g.y, o.g.size, o.g.wide, o.g.high]) then 11 else if ¬ (1 ≤ lv ∧ lv ≤ 1073741824) then 3 else 0
/-- What a step comes to. -/
def stpE (o : OfM) (T : Int) (l : List Cloud) : Int := if ¬ (0 ≤ T ∧ T ≤ 4294967296) then 3 else if 0 < o.ts.length ∧ T ≤ lastI o.ts then 17 else if 256 ≤ o.lg.length then 13 else lookE o.g l
theorem noteOk {o : OfM} {T lv : Int} {f : Field} (h : noteE o T f lv = 0) : (0 ≤ T ∧ T ≤ 4294967296) ∧ o.lg.length < 256 ∧ fieldE 1073741824 f = 0 ∧ [f.g.x, f.g.y, f.g.size, f.g.wide, f.g.high] = [o.g.x, o.g.y, o.g.size, o.g.wide, o.g.high] ∧ (1 ≤ lv ∧ lv ≤ 1073741824) := by
  unfold noteE at h
  split at h
  · omega
  · rename_i q1
    split at h
    · omega
    · split at h
      · rename_i q q2; exact absurd h q2
      · rename_i q2 q3
        split at h
        · omega
        · rename_i q4
          split at h
          · omega
          · rename_i q5
            exact ⟨Classical.not_not.1 q1, by omega, Classical.not_not.1 q3, Classical.not_not.1 q4, Classical.not_not.1 q5⟩
theorem stepOk {o : OfM} {T : Int} {l : List Cloud} (h : stpE o T l = 0) : (0 ≤ T ∧ T ≤ 4294967296) ∧ (o.ts = [] ∨ lastI o.ts < T) ∧ o.lg.length < 256 ∧ lookE o.g l = 0 := by
  unfold stpE at h
  split at h
  · omega
  · rename_i q1
    split at h
    · omega
    · rename_i q2
      split at h
      · omega
      · rename_i q3
        refine ⟨Classical.not_not.1 q1, ?_, by omega, h⟩
        rcases Nat.eq_zero_or_pos o.ts.length with z | z
        · exact .inl (List.eq_nil_of_length_eq_zero z)
        · exact .inr (by omega)
set_option maxRecDepth 20000 in
theorem CloneS_c (l : List Span) (p : Option Addr) (c : Nat) (w : World) (hn : l.length < 1000000000000) (hl : RO 2 Span.cells w p l) :
  Calls Try.prog 61 #[.slice p l.length c] w fun e w' => ∃ x : Option Addr × Nat, True ∧ e = .returned (.slice x.1 l.length x.2) ∧ St (bs w) [own 76 2 x.1 x.2 (l.map Span.cells)] w' := by
  refine enter (vs := [_]) (env := [(0,_)]) Try.func61 rfl rfl rfl rfl ?_
  refine VC.seq ?_
  refine VC.reg (VO.l (LO.as (.r rfl)) rfl<|VO.nil ?_)
  refine VE.seqN ?_
  refine VC.seq ?_
  refine VC.seq ?_
  refine VC.reg (VO.l (LO.mv (.r rfl)) rfl<|VO.l (LO.eqSn ⟨_, Try.underlying91⟩ (.r rfl) (.r rfl)) rfl<|VO.nil ?_)
  refine VE.seqN ?_
  refine VC.cond rfl (fun h4 => ?_) (fun h4 => ?_)
  ·
    have h0 := RO_none hl h4
    refine VC.seq ?_
    refine VC.reg (VO.l (LO.as (.r rfl)) rfl<|VO.nil ?_)
    refine VE.seqN ?_
    refine VC.ret (VE.thenR (VE.res (vs := [_]) rfl ⟨rfl, trivial⟩ (fun w hw => ?_)))
    first | exact ⟨(none, 0), trivial, by rw [h0]; rfl, by rw [h0]; exact hw.nil.ownNil 76 2⟩ | exact ⟨(p2, c2), trivial, rfl, hw.sel [0] rfl⟩
  ·
    refine VC.skip (VE.seqN ?_)
    refine VC.seq ?_
    refine VC.reg (VO.h rfl<|HO.bs0 S91 N76 fun b1 => VO.l (LO.mv (.r rfl)) rfl<|VO.h rfl<|HO.appN0 (f := Span.cells) (m := l) 0 (fun R => [R]) S91 S91 I76 (.r rfl) (.r rfl) rfl (fun w hw => hl.keep w hw) (fun _ => rfl) (fun _ => rfl) rfl rfl (fun _ => rfl) rfl (by omega) fun p2 c2 _ => VO.h rfl<|HO.lo (LO.as (.r rfl))<|VO.nil ?_)
    refine VE.seqN ?_
    refine VC.ret (VE.res (vs := [_]) rfl ⟨rfl, trivial⟩ (fun w hw => ?_))
    first | exact ⟨(none, 0), trivial, by rw [h0]; rfl, by rw [h0]; exact hw.nil.ownNil 76 2⟩ | exact ⟨(p2, c2), trivial, rfl, hw.sel [0] rfl⟩

set_option maxRecDepth 20000 in
theorem Note_c (o : OfM) (T : Int) (f : Field) (pv : Option Addr) (cv : Nat) (lv : Int) (w : World) (hn : 0 < o.rc.length ∧ o.rc.length < 1000000) (hh : Has w (offR o)) (hv : ∀ {L : List Res} {v : World}, St ⟨w, fpL (offR o)⟩ L v → Spans v pv f.vals) (hok : noteE o T f lv = 0) :
  Calls Try.prog 31 #[ptrN o.b, .int .i64 T, .agg #[.int .i64 f.g.x, .int .i64 f.g.y, .int .i64 f.g.size, .int .i64 f.g.wide, .int .i64 f.g.high, .slice pv f.vals.length cv], .int .i64 lv] w fun e w' => ∃ y : (Option Addr × Nat) × (Option Addr × Nat), True ∧ e = .returned (.int .i64 0) ∧ St ⟨w, fpL (offR o)⟩ (offR { o with lg := o.lg ++ [LgM.nt T f.g y.1.1 y.1.2 f.vals lv], pl := y.2.1, cl := y.2.2 }) w' := by
  obtain ⟨hk1, hk2, hk3, hk4, hk5⟩ := noteOk hok
  have har : f.vals.length ≤ 4096 := by unfold fieldE at hk3; split at hk3; (· omega); (· rename_i q; have z := area_bd (Classical.not_not.1 q); split at hk3; (· omega); (· omega))
  refine enterO (vs := [_,_,_,_]) (env := [(0,_), (1,_), (2,_), (3,_)]) hh.enter Try.func31 rfl rfl rfl rfl ?_
  refine VC.seq ?_
  refine VC.reg (VO.h rfl<|HO.box (C := #[_,_,_,_,_,_]) rfl rfl fun b11 => VO.l (LO.as (.r rfl)) rfl<|VO.nil ?_)
  refine VE.seqN ?_
  refine VC.seq ?_
  refine VC.block ?_
  refine VC.seq ?_
  refine VC.reg (VO.l (LO.mv (.r rfl)) rfl<|VO.l (LO.call (xs := [_]) (vs := [_]) C53 ⟨(.r rfl), trivial⟩ (fun w hw => nothing_c o w (by omega) (cells_at hw 1 rfl ⟨_, rfl⟩))) rfl<|VO.l (LO.as (.r rfl)) rfl<|VO.nil ?_)
  refine VE.seqN ?_
  refine VC.cond rfl (fun h10 => ?_) (fun h10 => ?_)
  ·
    (exfalso; omega)
  ·
    refine VC.seq ?_
    refine VC.reg (VO.l (LO.mv (.r rfl)) rfl<|VO.l (LO.call (xs := [_,_,_]) (vs := [_,_,_]) C45 ⟨(.r rfl), (.r rfl), (.r rfl), trivial⟩ (fun w _ => iwithin_c _ _ _ w)) rfl<|VO.l (LO.not (.r rfl)) rfl<|VO.l (LO.as (.r rfl)) rfl<|VO.nil ?_)
    refine VE.seqN ?_
    refine VC.cond rfl (fun h13 => ?_) (fun h13 => ?_)
    ·
      (exfalso; exact h13 hk1)
    ·
      refine VC.seq ?_
      refine VC.reg (VO.l (LO.mv (.r rfl)) rfl<|VO.l (LO.nc (.r rfl)) rfl<|VO.l (LO.fa (r := 12) F117_4 (.r rfl) rfl) rfl<|VO.l (LO.ld O115 (.r rfl) (fun _ hw => cells_at hw 1 rfl ⟨_, rfl⟩)) rfl<|VO.l (LO.len S115 (.r rfl) rfl) rfl<|VO.l (LO.ge (.r rfl) (.r rfl)) rfl<|VO.l (LO.as (.r rfl)) rfl<|VO.nil ?_)
      refine VE.seqN ?_
      refine VC.cond rfl (fun h17 => ?_) (fun h17 => ?_)
      ·
        (exfalso; omega)
      ·
        refine VC.skip (VE.inN (VE.seqN ?_))
        refine VC.seq ?_
        refine VC.seq ?_
        refine VC.reg (VO.l (LO.lda (vs := [_,_,_,_,_,_]) A93 (.r rfl) (fun _ hw => cells_at hw 0 rfl ⟨_, rfl⟩) rfl) rfl<|VO.l (LO.call (xs := [_]) (vs := [_]) C60 ⟨(.r rfl), trivial⟩ (fun w hw => bCheckField_c f pv cv w (hv hw))) rfl<|VO.l (LO.as (.r rfl)) rfl<|VO.nil ?_)
        refine VE.seqN ?_
        refine VC.seq ?_
        refine VC.reg (VO.l (LO.mv (.r rfl)) rfl<|VO.l (LO.ne (.r rfl) (.r rfl)) rfl<|VO.nil ?_)
        refine VE.seqN ?_
        refine VC.cond rfl (fun h27 => ?_) (fun h27 => ?_)
        ·
          (exfalso; exact h27 hk3)
        ·
          refine VC.skip (VE.seqN ?_)
          refine VC.seq ?_
          refine VC.block ?_
          refine VC.seq ?_
          refine VC.draw mixed (LL.l (LO.fa (r := 0) F93_0 (.r rfl) rfl) rfl<|LL.l (LO.lda (vs := [_,_,_,_,_]) A23 (.r rfl) (fun _ hw => cells_at hw 0 rfl ⟨_, rfl⟩) rfl) rfl<|LL.l (LO.mv (.r rfl)) rfl<|LL.l (LO.nc (.r rfl)) rfl<|LL.l (LO.fa (r := 0) F117_0 (.r rfl) rfl) rfl<|LL.l (LO.fa (r := 0) F28_0 (.r rfl) rfl) rfl<|LL.l (LO.lda (vs := [_,_,_,_,_]) A23 (.r rfl) (fun _ hw => cells_at hw 1 rfl ⟨_, rfl⟩) rfl) rfl<|LL.l (LO.neA («as» := [_,_,_,_,_]) (bs := [_,_,_,_,_]) EA23 (.r rfl) (.r rfl) rfl rfl) rfl<|LL.l (LO.as (.r rfl)) rfl<|LL.nil) (by kernel_rfl) ?_
          refine VE.seqN ?_
          refine VC.cond rfl (fun h29 => ?_) (fun h29 => ?_)
          ·
            (exfalso; exact h29 hk4)
          ·
            refine VC.seq ?_
            refine VC.reg (VO.l (LO.mv (.r rfl)) rfl<|VO.l (LO.call (xs := [_,_,_]) (vs := [_,_,_]) C45 ⟨(.r rfl), (.r rfl), (.r rfl), trivial⟩ (fun w _ => iwithin_c _ _ _ w)) rfl<|VO.l (LO.not (.r rfl)) rfl<|VO.l (LO.as (.r rfl)) rfl<|VO.nil ?_)
            refine VE.seqN ?_
            refine VC.cond rfl (fun h38 => ?_) (fun h38 => ?_)
            ·
              (exfalso; exact h38 hk5)
            ·
              refine VC.skip (VE.inN (VE.seqN ?_))
              refine VC.seq ?_
              refine VC.reg (VO.l (LO.fa (r := 5) F93_1 (.r rfl) rfl) rfl<|VO.l (LO.ld O91 (.r rfl) (fun _ hw => cells_at hw 0 rfl ⟨_, rfl⟩)) rfl<|VO.h rfl<|HO.callx (xs := [_]) (vs := [_]) C61 ⟨(.r rfl), trivial⟩ (fun w hw => CloneS_c f.vals pv cv w (by omega) (hv hw)) fun qv _ => VO.l (LO.fa (r := 5) F93_1 (.r rfl) rfl) rfl<|VO.h0<|HO.st 1 (vs := [_]) (C' := [_,_,_,_,_,_]) (L' := [_,_,_,_,_,_,_,_,_,_,_,_]) N91 rfl rfl rfl rfl rfl rfl rfl rfl<|VO.nil ?_)
              refine VE.seqN ?_
              refine VC.seq ?_
              refine VC.drawH [[0,1,2,3,4,5,6,7,8,9,10,11], [0,1,2,3,4,5,6,7,8,9,10,11], [0,1,2,3,4,5,6,7,8,9,11], [0,1,3,4,5,6,7,8,9,11]] [some 2, some 1, some 1, some 1, some 1, some 0, some 0, some 0, some 0, some 0, none, none, some 2, some 2, none] mixed (by kernel_rfl) rfl (LX.l (fun _ hJ => LO.mv (.r rfl)) rfl<|LX.l (fun _ hJ => LO.mv (.r rfl)) rfl<|LX.l (fun _ hJ => LO.nc (.r rfl)) rfl<|LX.l (fun _ hJ => LO.fa (r := 12) F117_4 (.r rfl) rfl) rfl<|LX.l (fun _ hJ => LO.ld O115 (.r rfl) (fun _ hw => cells_at (hJ _ hw) 2 rfl ⟨_, rfl⟩)) rfl<|LX.l (fun _ hJ => LO.mv (.r rfl)) rfl<|LX.l (fun _ hJ => LO.lda (vs := [_,_,_,_,_,_]) A93 (.r rfl) (fun _ hw => cells_at (hJ _ hw) 1 rfl ⟨_, rfl⟩) rfl) rfl<|LX.l (fun _ hJ => LO.mv (.r rfl)) rfl<|LX.l (fun _ hJ => LO.bd (ps := [(_,_), (_,_), (_,_)]) (vs := [(_,_), (_,_), (_,_)]) (C := [_,_,_,_,_,_,_,_]) B165  ⟨(.r rfl), (.r rfl), (.r rfl), trivial⟩ rfl ⟨_, [_], [_,_,_,_,_,_,_,_], rfl, rfl, rfl, rfl, ⟨_, [_,_,_,_,_,_], [_,_,_,_,_,_,_,_], rfl, rfl, rfl, rfl, ⟨_, [_], [_,_,_,_,_,_,_,_], rfl, rfl, rfl, rfl, rfl⟩⟩⟩) rfl<|LX.l (fun _ hJ => LO.mi ⟨_, Try.underlying165, rfl⟩ (.r rfl)) rfl<|LX.s<|LX.s<|LX.l (fun _ hJ => LO.nc (.r rfl)) rfl<|LX.l (fun _ hJ => LO.fa (r := 12) F117_4 (.r rfl) rfl) rfl<|LX.s<|LX.nil) (HX.s<|HX.s<|HX.s<|HX.s<|HX.s<|HX.s<|HX.s<|HX.s<|HX.s<|HX.s<|HX.h rfl<|HO.bs (ps := [(_,_)]) (vs := [(_,_)]) (Z := [_]) (C := [_]) S115 Z167 N167 ⟨(.r rfl), trivial⟩ rfl rfl rfl rfl ⟨_, [_], [_], rfl, rfl, rfl, rfl, rfl⟩ fun b16 => ⟨selJ (L1 := [_,_,_,_,_,_,_,_,_,_,_,_]) [1,2,3,4,5,6,7,8,9,10,11,12] rfl rfl rfl, HX.h rfl<|HO.appT ((LgM.nt T f.g qv.1 qv.2 f.vals lv)) 11 0 (fun R => [_,_,_,_,_,_,_,_,_,_,_, R,_]) S115 S115 I167 (.r rfl) (.r rfl) rfl rfl rfl rfl rfl rfl rfl (fun _ => rfl) rfl (by omega) fun p11 c11 => ⟨selJ (L1 := [_,_,_,_,_,_,_,_,_,_,_]) [1,2,3,4,5,6,7,8,9,10,12] rfl rfl rfl, HX.s<|HX.s<|HX.h0<|HO.st 3 (vs := [_]) (C' := [_,_,_,_,_,_,_,_,_,_,_,_,_]) (L' := [_,_,_,_,_,_,_,_,_,_,_,_,_]) N115 rfl rfl rfl rfl rfl rfl rfl rfl<|⟨selJ (L1 := [_,_,_,_,_,_,_,_,_,_]) [1,2,4,5,6,7,8,9,10,12] rfl rfl rfl, HX.nil ?_⟩⟩⟩)
              refine VE.seqN ?_
              refine VC.seq ?_
              refine VC.reg (VO.l (LO.as (.r rfl)) rfl<|VO.nil ?_)
              refine VE.seqN ?_
              refine VC.ret (VE.res (vs := [_]) rfl ⟨rfl, trivial⟩ (fun w hw => ?_))
              have e1 : o.lg.flatMap LgM.res ++ [own 76 2 qv.1 qv.2 (f.vals.map Span.cells)] = (o.lg ++ [LgM.nt T f.g qv.1 qv.2 f.vals lv]).flatMap LgM.res := by rw [List.flatMap_append]; rfl
              refine ⟨(qv, (p11, c11)), trivial, rfl, ?_⟩
              show St _ [_,_,_,_,_,_,_,_,_, bagD ((o.lg ++ [LgM.nt T f.g qv.1 qv.2 f.vals lv]).flatMap LgM.res)] _
              rw [← e1]
              exact (St.bagAdd (selK (L1 := [_,_,_,_,_,_,_,_,_,_,_]) [1,12,3,4,5,6,7,8,9,10,11] rfl rfl _ hw)).sel [1,2,3,4,5,6,7,8,9,0] rfl

end Go.Proofs.Ytdjflomhaljljaa

namespace Go.Proofs.Ytdjflomhaljljaa
open Go.SL Go.Proofs Go.Cast
set_option linter.unusedVariables false

theorem Z169 : ZeroOf Try.prog 169 (.agg #[.int .i64 0, .slice none 0 0, .int .i64 0, .int .i64 0, .int .i64 0, .int .i64 0, .int .i64 0, .slice none 0 0, .int .i64 0]) := by unfold ZeroOf; kernel_rfl
theorem F158_0 : FieldAt Try.prog 158 0 0 := ⟨_,_, Try.underlying158, rfl, rfl, 0, by kernel_rfl⟩
theorem F158_1 : FieldAt Try.prog 158 1 1 := ⟨_,_, Try.underlying158, rfl, rfl, 0, by kernel_rfl⟩
theorem O29 : IsOne Try.prog 29 := ⟨⟨_, Try.underlying29, rfl⟩, by kernel_rfl⟩
theorem B169 : Builds Try.prog 169 [(0,1), (1,1), (2,6), (8,1)] [.int .i64 0, .slice none 0 0, .int .i64 0, .int .i64 0, .int .i64 0, .int .i64 0, .int .i64 0, .slice none 0 0, .int .i64 0] := Builds.mk fun _ => by kernel_rfl
theorem N169 : (Try.prog.info? 169).map (·.size) = some 9 := by kernel_rfl
theorem A169 : IsAgg Try.prog 169 9 := ⟨⟨_, Try.underlying169, rfl⟩, by kernel_rfl⟩
theorem F165_0 : FieldAt Try.prog 165 0 0 := ⟨_,_, Try.underlying165, rfl, rfl, 0, by kernel_rfl⟩
theorem F165_1 : FieldAt Try.prog 165 1 1 := ⟨_,_, Try.underlying165, rfl, rfl, 5, by kernel_rfl⟩
theorem F165_2 : FieldAt Try.prog 165 2 7 := ⟨_,_, Try.underlying165, rfl, rfl, 0, by kernel_rfl⟩
theorem O167 : IsOne Try.prog 167 := ⟨⟨_, Try.underlying167, rfl⟩, by kernel_rfl⟩
theorem C134 : IsFn Try.prog 134 := ⟨_, Try.func134, by decide, rfl⟩
theorem I169 : EInfo Try.prog 169 9 104 (.agg #[.int .i64 0, .slice none 0 0, .int .i64 0, .int .i64 0, .int .i64 0, .int .i64 0, .int .i64 0, .slice none 0 0, .int .i64 0]) := ⟨by kernel_rfl, by kernel_rfl, by unfold ZeroOf; kernel_rfl, rfl, by decide⟩
theorem C136 : IsFn Try.prog 136 := ⟨_, Try.func136, by decide, rfl⟩


/-- An entry. -/
structure EnP where
  t : Int
  l : List Cloud
  g : Grid
  vs : List Span
  lv : Int
/-- An entry in memory. -/
structure EnM where
  t : Int
  l : List CP
  pc : Option Addr
  cc : Nat
  g : Grid
  vs : List Span
  pv : Option Addr
  cv : Nat
  lv : Int
def EnM.p (x : EnM) : EnP := ⟨x.t, x.l.map CP.c, x.g, x.vs, x.lv⟩
def EnM.cells (x : EnM) : List Value := [.int .i64 x.t, .slice x.pc x.l.length x.cc, .int .i64 x.g.x, .int .i64 x.g.y, .int .i64 x.g.size, .int .i64 x.g.wide, .int .i64 x.g.high, .slice x.pv x.vs.length x.cv, .int .i64 x.lv]
def EnM.res (x : EnM) : List Res := [own 80 7 x.pc x.cc (x.l.map CP.cells), bagD (x.l.flatMap cpR), own 76 2 x.pv x.cv (x.vs.map Span.cells)]
def gZ : Grid := ⟨0,0,0,0,0⟩
def LgM.enp : LgM → EnP
  | .st t _ _ l => ⟨t, l.map CP.c, gZ, [], 0⟩
  | .nt t g _ _ vs lv => ⟨t, [], g, vs, lv⟩
/-- An entry of a log is not too long. -/
def EnP.bd (x : EnP) : Prop := x.l.length < 1000000000 ∧ (∀ c, c ∈ x.l → c.sure.length < 1000000000000 ∧ c.may.length < 1000000000000) ∧ x.vs.length ≤ 4096
def LgOk (o : OfM) : Prop := ∀ x, x ∈ o.lg → (LgM.enp x).bd
theorem lg_st {w : World} {o : OfM} (hh : Has w (offR o)) {t : Int} {p : Option Addr} {c : Nat} {l : List CP} (hx : LgM.st t p c l ∈ o.lg) (hb : (LgM.enp (.st t p c l)).bd) : Clouds w p l ∧ l.length < 1000000000 := by
  have h1 := (St.inv hh 9 _ rfl).1
  have m1 : own 80 7 p c (l.map CP.cells) ∈ o.lg.flatMap LgM.res := List.mem_flatMap.2 ⟨_, hx, .head _⟩
  have m2 : bagD (l.flatMap cpR) ∈ o.lg.flatMap LgM.res := List.mem_flatMap.2 ⟨_, hx, .tail _ (.head _)⟩
  have hb1 : l.length < 1000000000 := by have := hb.1; simpa [LgM.enp] using this
  refine ⟨⟨own_inv_rows (h1 _ m1), fun x hx => ?_⟩, hb1⟩
  have := cp_read (h1 _ m2) hx
  have hb2 := hb.2.1 x.c (List.mem_map_of_mem hx)
  exact ⟨this.1, this.2, hb2.1, hb2.2⟩
theorem lg_nt {w : World} {o : OfM} (hh : Has w (offR o)) {t lv : Int} {g : Grid} {p : Option Addr} {c : Nat} {vs : List Span} (hx : LgM.nt t g p c vs lv ∈ o.lg) (hb : (LgM.enp (.nt t g p c vs lv)).bd) : RO 2 Span.cells w p vs ∧ vs.length ≤ 4096 :=
  ⟨own_inv_rows ((St.inv hh 9 _ rfl).1 _ (List.mem_flatMap.2 ⟨_, hx, .head _⟩)), hb.2.2⟩
theorem St.bagEn {β : Bs} {L : List Res} {xs : List EnM} {x : EnM} {w : World} (h : St β (own 80 7 x.pc x.cc (x.l.map CP.cells) :: bagD (x.l.flatMap cpR) :: own 76 2 x.pv x.cv (x.vs.map Span.cells) :: bagD (xs.flatMap EnM.res) :: L) w) : St β (bagD ((xs ++ [x]).flatMap EnM.res) :: L) w := by
  rw [List.flatMap_append]
  have e : [x].flatMap EnM.res = [own 80 7 x.pc x.cc (x.l.map CP.cells)] ++ [bagD (x.l.flatMap cpR), own 76 2 x.pv x.cv (x.vs.map Span.cells)] := rfl
  rw [e, ← List.append_assoc]
  refine St.bagAdd2 (r := bagD (x.l.flatMap cpR)) (s := own 76 2 x.pv x.cv (x.vs.map Span.cells)) ?_
  have h1 := h.perm (L' := own 80 7 x.pc x.cc (x.l.map CP.cells) :: bagD (xs.flatMap EnM.res) :: (bagD (x.l.flatMap cpR) :: own 76 2 x.pv x.cv (x.vs.map Span.cells) :: L)) (List.Perm.cons _ (by
    exact (List.perm_middle (l₁ := [bagD (x.l.flatMap cpR), own 76 2 x.pv x.cv (x.vs.map Span.cells)]))))
  have h2 := St.bagAdd h1
  exact h2.perm ((List.perm_middle (l₁ := [bagD (x.l.flatMap cpR), own 76 2 x.pv x.cv (x.vs.map Span.cells)])).symm)

set_option maxRecDepth 20000 in
theorem entry_st (T : Int) (l : List CP) (p : Option Addr) (c : Nat) (w : World) (hn : l.length < 1000000000) (hl : Clouds w p l) :
  Calls Try.prog 134 #[.agg #[.int .i64 T, .slice p l.length c]] w fun e w' => ∃ y : EnM, y.p = ⟨T, l.map CP.c, gZ, [], 0⟩ ∧ e = .returned (.agg y.cells.toArray) ∧ St (bs w) y.res w' := by
  refine enter (vs := [_]) (env := [(0,_)]) Try.func134 rfl rfl rfl rfl ?_
  refine VC.seq ?_
  refine VC.reg (VO.h rfl<|HO.box (C := #[_,_]) rfl rfl fun b1 => VO.h rfl<|HO.alloc (C := #[_,_,_,_,_,_,_,_,_]) Z169 rfl fun b2 => VO.nil ?_)
  refine VE.seqN ?_
  refine VC.seq ?_
  refine VC.drawH [[0,1], [0,1], [0,1], [1]] [some 1, some 1, some 0, some 0, none, none, none] mixed (by kernel_rfl) rfl (LX.l (fun _ hJ => LO.fa (r := 0) F158_0 (.r rfl) rfl) rfl<|LX.l (fun _ hJ => LO.ld O3 (.r rfl) (fun _ hw => cells_at (hJ _ hw) 1 rfl ⟨_, rfl⟩)) rfl<|LX.l (fun _ hJ => LO.fa (r := 1) F158_1 (.r rfl) rfl) rfl<|LX.l (fun _ hJ => LO.ld O29 (.r rfl) (fun _ hw => cells_at (hJ _ hw) 1 rfl ⟨_, rfl⟩)) rfl<|LX.s<|LX.s<|LX.s<|LX.nil) (HX.s<|HX.s<|HX.s<|HX.s<|HX.h rfl<|HO.callx (xs := [_]) (vs := [_]) C56 ⟨(.r rfl), trivial⟩ (fun w hw => own_c l p c w hn (hl.keep w hw)) fun q hq => ⟨fun _ hw => hw.sel [2,3] rfl, HX.h rfl<|HO.lo (LO.bd (ps := [(_,_), (_,_)]) (vs := [(_,_), (_,_)]) (C := [_,_,_,_,_,_,_,_,_]) B169  ⟨(.r rfl), (.r rfl), trivial⟩ rfl ⟨_, [_], [_,_,_,_,_,_,_,_,_], rfl, rfl, rfl, rfl, ⟨_, [_], [_,_,_,_,_,_,_,_,_], rfl, rfl, rfl, rfl, rfl⟩⟩)<|⟨fun _ hw => hw.sel [2,3] rfl, HX.h0<|HO.st 2 (vs := [_,_,_,_,_,_,_,_,_]) (C' := [_,_,_,_,_,_,_,_,_]) (L' := [_,_,_,_]) N169 rfl rfl rfl rfl rfl rfl rfl rfl<|⟨fun _ hw => hw.sel [3] rfl, HX.nil ?_⟩⟩⟩)
  refine VE.seqN ?_
  refine VC.ret (VE.res (vs := [_]) rfl ⟨RV.agg (vs := [_,_,_,_,_,_,_,_,_]) A169 rfl (cells_blk 2 rfl ⟨_, rfl⟩) rfl, trivial⟩ (fun w hw => ?_))
  exact ⟨⟨T, q.2, q.1.1, q.1.2, gZ, [], none, 0,0⟩, by unfold EnM.p; rw [hq], rfl, (St.ownNil (selK (L1 := [_,_]) [0,1] rfl rfl _ hw) 76 2).sel [1,2,0] rfl⟩

set_option maxRecDepth 20000 in
theorem entry_nt (T : Int) (gg : Grid) (p : Option Addr) (c : Nat) (vs : List Span) (lv : Int) (w : World) (hn : vs.length ≤ 4096) (hl : RO 2 Span.cells w p vs) :
  Calls Try.prog 136 #[.agg #[.int .i64 T, .int .i64 gg.x, .int .i64 gg.y, .int .i64 gg.size, .int .i64 gg.wide, .int .i64 gg.high, .slice p vs.length c, .int .i64 lv]] w fun e w' => ∃ y : EnM, y.p = ⟨T, [], gg, vs, lv⟩ ∧ e = .returned (.agg y.cells.toArray) ∧ St (bs w) y.res w' := by
  refine enter (vs := [_]) (env := [(0,_)]) Try.func136 rfl rfl rfl rfl ?_
  refine VC.seq ?_
  refine VC.reg (VO.h rfl<|HO.box (C := #[_,_,_,_,_,_,_,_]) rfl rfl fun b1 => VO.h rfl<|HO.alloc (C := #[_,_,_,_,_,_,_,_,_]) Z169 rfl fun b2 => VO.nil ?_)
  refine VE.seqN ?_
  refine VC.seq ?_
  refine VC.drawH [[0,1], [0,1], [0,1], [0,1], [1]] [some 2, some 2, some 1, some 1, some 1, some 0, some 0, some 0, none, none, some 2, some 2, none, none] mixed (by kernel_rfl) rfl (LX.l (fun _ hJ => LO.fa (r := 0) F165_0 (.r rfl) rfl) rfl<|LX.l (fun _ hJ => LO.ld O3 (.r rfl) (fun _ hw => cells_at (hJ _ hw) 1 rfl ⟨_, rfl⟩)) rfl<|LX.l (fun _ hJ => LO.fa (r := 1) F165_1 (.r rfl) rfl) rfl<|LX.l (fun _ hJ => LO.fa (r := 1) F93_0 (.r rfl) rfl) rfl<|LX.l (fun _ hJ => LO.lda (vs := [_,_,_,_,_]) A23 (.r rfl) (fun _ hw => cells_at (hJ _ hw) 1 rfl ⟨_, rfl⟩) rfl) rfl<|LX.l (fun _ hJ => LO.fa (r := 1) F165_1 (.r rfl) rfl) rfl<|LX.l (fun _ hJ => LO.fa (r := 6) F93_1 (.r rfl) rfl) rfl<|LX.l (fun _ hJ => LO.ld O91 (.r rfl) (fun _ hw => cells_at (hJ _ hw) 1 rfl ⟨_, rfl⟩)) rfl<|LX.s<|LX.s<|LX.l (fun _ hJ => LO.fa (r := 7) F165_2 (.r rfl) rfl) rfl<|LX.l (fun _ hJ => LO.ld O3 (.r rfl) (fun _ hw => cells_at (hJ _ hw) 1 rfl ⟨_, rfl⟩)) rfl<|LX.s<|LX.s<|LX.nil) (HX.s<|HX.s<|HX.s<|HX.s<|HX.s<|HX.s<|HX.s<|HX.s<|HX.h rfl<|HO.callx (xs := [_]) (vs := [_]) C61 ⟨(.r rfl), trivial⟩ (fun w hw => CloneS_c vs p c w (by omega) (hl.keep w hw)) fun q _ => ⟨fun _ hw => hw.sel [1,2] rfl, HX.h rfl<|HO.lo (LO.bd (ps := [(_,_), (_,_)]) (vs := [(_,_), (_,_)]) (C := [_,_,_,_,_,_]) B93  ⟨(.r rfl), (.r rfl), trivial⟩ rfl ⟨_, [_,_,_,_,_], [_,_,_,_,_,_], rfl, rfl, rfl, rfl, ⟨_, [_], [_,_,_,_,_,_], rfl, rfl, rfl, rfl, rfl⟩⟩)<|⟨fun _ hw => hw.sel [1,2] rfl, HX.s<|HX.s<|HX.h rfl<|HO.lo (LO.bd (ps := [(_,_), (_,_), (_,_)]) (vs := [(_,_), (_,_), (_,_)]) (C := [_,_,_,_,_,_,_,_,_]) B169  ⟨(.r rfl), (.r rfl), (.r rfl), trivial⟩ rfl ⟨_, [_], [_,_,_,_,_,_,_,_,_], rfl, rfl, rfl, rfl, ⟨_, [_,_,_,_,_,_], [_,_,_,_,_,_,_,_,_], rfl, rfl, rfl, rfl, ⟨_, [_], [_,_,_,_,_,_,_,_,_], rfl, rfl, rfl, rfl, rfl⟩⟩⟩)<|⟨fun _ hw => hw.sel [1,2] rfl, HX.h0<|HO.st 1 (vs := [_,_,_,_,_,_,_,_,_]) (C' := [_,_,_,_,_,_,_,_,_]) (L' := [_,_,_]) N169 rfl rfl rfl rfl rfl rfl rfl rfl<|⟨fun _ hw => hw.sel [2] rfl, HX.nil ?_⟩⟩⟩⟩)
  refine VE.seqN ?_
  refine VC.ret (VE.res (vs := [_]) rfl ⟨RV.agg (vs := [_,_,_,_,_,_,_,_,_]) A169 rfl (cells_blk 1 rfl ⟨_, rfl⟩) rfl, trivial⟩ (fun w hw => ?_))
  exact ⟨⟨T, [], none, 0, gg, vs, q.1, q.2, lv⟩, rfl, rfl, (St.ownNil (St.bagD (Rs := []) (selK (L1 := [_]) [0] rfl rfl _ hw)) 80 7).sel [0,1,2] rfl⟩

set_option maxRecDepth 20000 in
theorem Log_c (o : OfM) (w : World) (hn : o.rc.length < 1000000) (hp : 0 < o.rc.length) (hlg : o.lg.length ≤ 256) (hok : LgOk o) (hh : Has w (offR o)) :
  Calls Try.prog 32 #[ptrN o.b] w fun e w' => ∃ x : (Option Addr × Nat) × List EnM, x.2.map EnM.p = o.lg.map LgM.enp ∧ e = .returned (.slice x.1.1 x.2.length x.1.2) ∧ St (bs w) [own 169 9 x.1.1 x.1.2 (x.2.map EnM.cells), bagD (x.2.flatMap EnM.res)] w' := by
  have hlr : RO 1 LgM.val w o.pl o.lg := RO.of_own hh 8 rfl
  refine enter (vs := [_]) (env := [(0,_)]) Try.func32 rfl rfl rfl rfl ?_
  refine VC.seq ?_
  refine VC.reg (VO.l (LO.as (.r rfl)) rfl<|VO.nil ?_)
  refine VE.seqN ?_
  refine VC.seq ?_
  refine VC.seq ?_
  refine VC.reg (VO.l (LO.mv (.r rfl)) rfl<|VO.l (LO.call (xs := [_]) (vs := [_]) C53 ⟨(.r rfl), trivial⟩ (fun w hw => nothing_c o w (by omega) (off_cells (hh.keep hw)))) rfl<|VO.nil ?_)
  refine VE.seqN ?_
  refine VC.cond rfl (fun h7 => ?_) (fun h7 => ?_)
  ·
    (exfalso; omega)
  ·
    refine VC.skip (VE.seqN ?_)
    refine VC.seq ?_
    refine VC.reg (VO.l (LO.as (.r rfl)) rfl<|VO.nil ?_)
    refine VE.seqN ?_
    refine VC.seq ?_
    refine VC.seq ?_
    refine VC.reg (VO.l (LO.mv (.r rfl)) rfl<|VO.l (LO.nc (.r rfl)) rfl<|VO.l (LO.fa (r := 12) F117_4 (.r rfl) rfl) rfl<|VO.l (LO.ld O115 (.r rfl) (cells_keep (sub_cells (off := 12) (off_cells hh) ⟨_, rfl⟩))) rfl<|VO.l (LO.len S115 (.r rfl) rfl) rfl<|VO.l (LO.mv (.r rfl)) rfl<|VO.nil ?_)
    refine VE.seqN ?_
    refine VC.block ?_
    refine VC.loopK (α := Nat × (List EnM) × (Option Addr) × Nat) 0 (fun gx => [(3, .slice gx.2.2.1 gx.2.1.length gx.2.2.2), (13, .int .i64 (gx.1 : Nat))]) [(11,_), (12,_)] (fun gx => [own 169 9 gx.2.2.1 gx.2.2.2 (gx.2.1.map EnM.cells), bagD (gx.2.1.flatMap EnM.res)]) (fun gx => gx.1 ≤ o.lg.length ∧ gx.2.1.map EnM.p = (o.lg.take gx.1).map LgM.enp) (fun gx => o.lg.length - gx.1) (0, [], none, 0) (by exact ⟨Nat.zero_le _, rfl⟩) (.cons rfl (.cons rfl (.cons rfl (.cons rfl .nil)))) (fun _ h => ((St.bagD (Rs := []) h).ownNil 169 9)) ?_
    rintro ⟨j, xs, px_, cx_⟩ ⟨hj, hX⟩
    show VC _ _ _ _ _ ([(3, .slice px_ xs.length cx_), (13, .int .i64 (j : Nat))] ++ _) ([own 169 9 px_ cx_ (xs.map EnM.cells), bagD (xs.flatMap EnM.res)] ++ _) _ _
    dsimp only at hj hX
    have hxl : xs.length = j := by rw [← List.length_map (f := EnM.p), hX]; simp; omega
    refine VC.seq ?_
    refine VC.reg (VO.l (LO.lt (.r rfl) (.r rfl)) rfl<|VO.nil ?_)
    refine VE.seqN ?_
    refine VC.seq ?_
    refine VC.cond rfl (fun h14 => ?_) (fun h14 => ?_)
    ·
      obtain ⟨x, hr⟩ : ∃ x, o.lg[j]? = some x := ⟨_, List.getElem?_eq_getElem (by omega)⟩
      have hrm : x ∈ o.lg := List.mem_of_getElem? hr
      have htk : o.lg.take (j + 1) = o.lg.take j ++ [x] := by rw [List.take_add_one, hr]; rfl
      refine VC.skip (VE.seqN ?_)
      refine VC.seq ?_
      refine VC.block ?_
      refine VC.seq ?_
      rcases x with ⟨T, pc, cc, l⟩ | ⟨T, gg, pv, cv, vs, lv⟩
      ·
        have hb := hok _ hrm
        have hrd := fun {L : List Res} {v : World} (hv : St (bs w) L v) => lg_st (hh.keep hv) hrm hb
        refine VC.reg (VO.l (LO.ixs S115 N167 hlr.sm (.r rfl) (.r rfl) rfl (by omega)) rfl<|VO.l (LO.ld (v := .iface 158 (.agg #[.int .i64 T, .slice pc l.length cc])) O167 (.r rfl) (fun w hw => cells_part (off := 0) ((fun w2 hw2 => (hlr.keep w2 hw2).cells _ _ (by rw [List.getElem?_map, hr]; rfl)) w hw) ⟨_, rfl⟩)) rfl<|VO.l (LO.as (.r rfl)) rfl<|VO.nil ?_)
        refine VE.seqN ?_
        refine VC.reg (VO.l (LO.mv (.r rfl)) rfl<|VO.l (LO.mv (.r rfl)) rfl<|VO.h rfl<|HO.invx (xs := []) (vs := []) (.r rfl) (fun _ => by kernel_rfl) C134 trivial (fun w hw => entry_st T l pc cc w (hrd hw).2 (hrd hw).1) fun y hy => VO.h rfl<|HO.bs (ps := [(_,_)]) (vs := [(_,_)]) (Z := [_,_,_,_,_,_,_,_,_]) (C := [_,_,_,_,_,_,_,_,_]) S95 Z169 N169 ⟨(.r rfl), trivial⟩ rfl rfl rfl rfl ⟨_, [_,_,_,_,_,_,_,_,_], [_,_,_,_,_,_,_,_,_], rfl, rfl, rfl, rfl, rfl⟩ fun b6 => VO.h rfl<|HO.appT (y) 4 0 (fun R => [_,_,_,_, R,_]) S95 S95 I169 (.r rfl) (.r rfl) rfl rfl rfl rfl rfl rfl rfl (fun _ => rfl) rfl (by omega) fun p4 c4 => VO.h rfl<|HO.lo (LO.as (.r rfl))<|VO.nil ?_)
        refine VE.inN (VE.seqN ?_)
        refine VC.reg (VO.l (LO.add (.r rfl) (.r rfl) (wi (by omega) (by omega))) rfl<|VO.l (LO.mv (.r rfl)) rfl<|VO.nil ?_)
        refine VE.thenN fun a w ha hw => ⟨(j + 1, xs ++ [y], p4, c4), ⟨by dsimp only; omega, by dsimp only; rw [htk, List.map_append, List.map_append, hX]; show _ ++ [y.p] = _; rw [hy]; rfl⟩, (by dsimp only; omega), ha.sub (.cons rfl (.cons rfl (.cons rfl (.cons rfl .nil)))), (by exact (St.bagEn (x := y) (selK (L1 := [_,_,_,_,_]) [1,2,3,5,4] rfl rfl _ hw)).sel [1,0] rfl)⟩
      ·
        have hb := hok _ hrm
        have hrd := fun {L : List Res} {v : World} (hv : St (bs w) L v) => lg_nt (hh.keep hv) hrm hb
        refine VC.reg (VO.l (LO.ixs S115 N167 hlr.sm (.r rfl) (.r rfl) rfl (by omega)) rfl<|VO.l (LO.ld (v := .iface 165 (.agg #[.int .i64 T, .int .i64 gg.x, .int .i64 gg.y, .int .i64 gg.size, .int .i64 gg.wide, .int .i64 gg.high, .slice pv vs.length cv, .int .i64 lv])) O167 (.r rfl) (fun w hw => cells_part (off := 0) ((fun w2 hw2 => (hlr.keep w2 hw2).cells _ _ (by rw [List.getElem?_map, hr]; rfl)) w hw) ⟨_, rfl⟩)) rfl<|VO.l (LO.as (.r rfl)) rfl<|VO.nil ?_)
        refine VE.seqN ?_
        refine VC.reg (VO.l (LO.mv (.r rfl)) rfl<|VO.l (LO.mv (.r rfl)) rfl<|VO.h rfl<|HO.invx (xs := []) (vs := []) (.r rfl) (fun _ => by kernel_rfl) C136 trivial (fun w hw => entry_nt T gg pv cv vs lv w (hrd hw).2 (hrd hw).1) fun y hy => VO.h rfl<|HO.bs (ps := [(_,_)]) (vs := [(_,_)]) (Z := [_,_,_,_,_,_,_,_,_]) (C := [_,_,_,_,_,_,_,_,_]) S95 Z169 N169 ⟨(.r rfl), trivial⟩ rfl rfl rfl rfl ⟨_, [_,_,_,_,_,_,_,_,_], [_,_,_,_,_,_,_,_,_], rfl, rfl, rfl, rfl, rfl⟩ fun b10 => VO.h rfl<|HO.appT (y) 4 0 (fun R => [_,_,_,_, R,_]) S95 S95 I169 (.r rfl) (.r rfl) rfl rfl rfl rfl rfl rfl rfl (fun _ => rfl) rfl (by omega) fun p4 c4 => VO.h rfl<|HO.lo (LO.as (.r rfl))<|VO.nil ?_)
        refine VE.inN (VE.seqN ?_)
        refine VC.reg (VO.l (LO.add (.r rfl) (.r rfl) (wi (by omega) (by omega))) rfl<|VO.l (LO.mv (.r rfl)) rfl<|VO.nil ?_)
        refine VE.thenN fun a w ha hw => ⟨(j + 1, xs ++ [y], p4, c4), ⟨by dsimp only; omega, by dsimp only; rw [htk, List.map_append, List.map_append, hX]; show _ ++ [y.p] = _; rw [hy]; rfl⟩, (by dsimp only; omega), ha.sub (.cons rfl (.cons rfl (.cons rfl (.cons rfl .nil)))), (by exact (St.bagEn (x := y) (selK (L1 := [_,_,_,_,_]) [1,2,3,5,4] rfl rfl _ hw)).sel [1,0] rfl)⟩
    ·
      refine VC.exit (VE.thenX (VE.thenX (VE.inX (VE.seqN ?_))))
      refine VC.seq ?_
      refine VC.reg (VO.l (LO.mv (.r rfl)) rfl<|VO.l (LO.as (.r rfl)) rfl<|VO.nil ?_)
      refine VE.seqN ?_
      refine VC.ret (VE.res (vs := [_]) rfl ⟨rfl, trivial⟩ (fun w hw => ?_))
      have hj2 : j = o.lg.length := by omega
      exact ⟨((px_, cx_), xs), by rw [hX, hj2, List.take_length], rfl, hw.sel [0,1] rfl⟩

end Go.Proofs.Ytdjflomhaljljaa

namespace Go.Proofs.Ytdjflomhaljljaa
open Go.SL Go.Proofs Go.Cast
set_option linter.unusedVariables false



def zEn : EnP := ⟨0, [], gZ, [], 0⟩
def isSt (x : EnP) : Bool := decide (x.lv = 0)
def stP (s : Sp) (l : List EnP) : List Stp := (l.filter isSt).map fun x => ⟨x.t, thsP s x.l⟩
def tsP (l : List EnP) : List Int := (l.filter isSt).map EnP.t
/-- What an entry comes to behind others. -/
def enE (s : Sp) (pre : List EnP) (x : EnP) : Int :=
  if x.lv = 0 then (if ¬ (0 ≤ x.t ∧ x.t ≤ 4294967296) then 3 else if 0 < (tsP pre).length ∧ x.t ≤ lastI (tsP pre) then 17 else if 256 ≤ pre.length then 13 else lookE s.g x.l)
  else (if ¬ (0 ≤ x.t ∧ x.t ≤ 4294967296) then 3 else if 256 ≤ pre.length then 13 else if fieldE 1073741824 ⟨x.g, x.vs⟩ ≠ 0 then fieldE 1073741824 ⟨x.g, x.vs⟩ else if ¬ ([x.g.x, x.g.y, x.g.size, x.g.wide, x.g.high] = [s.g.x, s.g.y, s.g.size, s.g.wide, s.g.high]) then 11 else if ¬ (1 ≤ x.lv ∧ x.lv ≤ 1073741824) then 3 else 0)
def enEv (s : Sp) (pre : List EnP) (x : EnP) : List Ev := if x.lv = 0 then evF s.hold s.regs.length (stP s pre) ⟨x.t, thsP s x.l⟩ else []
/-- The events of entries. -/
def evP (s : Sp) (l : List EnP) : Nat → List Ev
  | 0 => []
  | k + 1 => evP s l k ++ enEv s (l.take k) (l.getD k zEn)
def EnP.canon (x : EnP) : EnP := if x.lv = 0 then ⟨x.t, x.l, gZ, [], 0⟩ else ⟨x.t, [], x.g, x.vs, x.lv⟩
/-- What holds of an office in which entries were played. -/
structure PlA (s : Sp) (l : List EnP) (o : OfM) (n : Nat) : Prop where
  sim : SimO o (stP s (l.take n))
  sp : o.sp = s
  lg : o.lg.map LgM.enp = (l.take n).map EnP.canon
  ok : LgOk o
theorem stP_y {s : Sp} {l : List EnP} {x : EnP} (h : x.lv = 0) : stP s (l ++ [x]) = stP s l ++ [⟨x.t, thsP s x.l⟩] := by
  unfold stP; rw [List.filter_append, List.map_append]; simp [isSt, h]
theorem stP_n {s : Sp} {l : List EnP} {x : EnP} (h : ¬ x.lv = 0) : stP s (l ++ [x]) = stP s l := by
  unfold stP; rw [List.filter_append]; simp [isSt, h]
theorem PlA.ts {s : Sp} {l : List EnP} {o : OfM} {n : Nat} (h : PlA s l o n) : o.ts = tsP (l.take n) := by
  rw [h.sim.ts]; unfold stP tsP; rw [List.map_map]; rfl
theorem PlA.len {s : Sp} {l : List EnP} {o : OfM} {n : Nat} (h : PlA s l o n) : o.lg.length = (l.take n).length := by
  have := congrArg List.length h.lg
  simpa using this
theorem PlA.g {s : Sp} {l : List EnP} {o : OfM} {n : Nat} (h : PlA s l o n) : o.g = s.g := congrArg Sp.g h.sp
theorem PlA.st {s : Sp} {l : List EnP} {o : OfM} {n : Nat} {x : EnP} (h : PlA s l o n) (hx : x.lv = 0) : stpE o x.t x.l = enE s (l.take n) x := by
  unfold stpE enE
  rw [if_pos hx, h.ts, h.len, h.g]
theorem PlA.nt {s : Sp} {l : List EnP} {o : OfM} {n : Nat} {x : EnP} (h : PlA s l o n) (hx : ¬ x.lv = 0) : noteE o x.t ⟨x.g, x.vs⟩ x.lv = enE s (l.take n) x := by
  unfold noteE enE
  rw [if_neg hx, h.len, h.g]
theorem take_en {l : List EnP} {n : Nat} {x : EnP} (hx : l[n]? = some x) : l.take (n + 1) = l.take n ++ [x] := by rw [List.take_add_one, hx]; rfl
theorem note_sim {o : OfM} {st : List Stp} {x : LgM} {p : Option Addr} {c : Nat} (h : SimO o st) : SimO { o with lg := o.lg ++ [x], pl := p, cl := c } st := by
  refine ⟨⟨h.wf.spec, h.wf.len, h.wf.idx, h.wf.pix, h.wf.rcb, h.wf.lvb, h.wf.op, h.wf.cs, ?_⟩, h.ts, h.inc, h.tb, h.rcs, h.cs⟩
  have := h.wf.ts
  show o.ts.length ≤ (o.lg ++ [x]).length
  rw [List.length_append]; simp; omega
theorem PlA.note {s : Sp} {l : List EnP} {o : OfM} {n : Nat} {x : EnP} {p q : Option Addr} {c d : Nat} (h : PlA s l o n) (hx : l[n]? = some x) (hlv : ¬ x.lv = 0) (hb : x.vs.length ≤ 4096) : PlA s l { o with lg := o.lg ++ [LgM.nt x.t x.g p c x.vs x.lv], pl := q, cl := d } (n + 1) := by
  refine ⟨by rw [take_en hx, stP_n hlv]; exact note_sim h.sim, h.sp, ?_, ?_⟩
  · show (o.lg ++ [_]).map LgM.enp = _
    rw [List.map_append, h.lg, take_en hx, List.map_append]
    congr 1
    show [_] = [x.canon]
    unfold EnP.canon
    rw [if_neg hlv]; rfl
  · intro y hy
    rcases List.mem_append.1 hy with z | z
    · exact h.ok y z
    · simp at z; subst z
      exact ⟨by simp [LgM.enp], fun c hc => by simp [LgM.enp] at hc, hb⟩
theorem PlA.step {s : Sp} {l : List EnP} {o : OfM} {n : Nat} {x : EnP} {y : StepY} (h : PlA s l o n) (hx : l[n]? = some x) (hlv : x.lv = 0) (hb : x.l.length < 1000000000 ∧ ∀ c, c ∈ x.l → c.sure.length < 1000000000000 ∧ c.may.length < 1000000000000) (hp : StepP o x.t x.l y) (hs : SimO (y.o o x.t) (stP s (l.take n) ++ [⟨x.t, thsP o.sp x.l⟩])) : PlA s l (y.o o x.t) (n + 1) := by
  obtain ⟨_, p, c, m, e1, e2⟩ := hp
  refine ⟨by rw [take_en hx, stP_y hlv, ← h.sp]; have := hs; rw [h.sp] at this ⊢; exact this, h.sp, ?_, ?_⟩
  · show (o.lg ++ [y.lg]).map LgM.enp = _
    rw [List.map_append, h.lg, take_en hx, List.map_append, e1]
    congr 1
    show [EnP.mk x.t (m.map CP.c) gZ [] 0] = [x.canon]
    unfold EnP.canon
    rw [if_pos hlv, e2]
  · intro z hz
    rcases List.mem_append.1 hz with q | q
    · exact h.ok z q
    · simp at q; subst q
      rw [e1]
      refine ⟨?_, ?_, Nat.zero_le _⟩
      · show (m.map CP.c).length < _; rw [e2]; exact hb.1
      · intro c hc
        exact hb.2 c (by rw [← e2]; exact hc)
/-- A log that is read. -/
structure LogM (w : World) (p : Option Addr) (l : List EnM) : Prop where
  rows : RO 9 EnM.cells w p l
  ok : ∀ x, x ∈ l → Clouds w x.pc x.l ∧ Spans w x.pv x.vs ∧ x.l.length < 1000000000
theorem LogM.keep {w0 w : World} {L : List Res} {p : Option Addr} {l : List EnM} (h : LogM w0 p l) (hw : St (bs w0) L w) : LogM w p l := ⟨h.rows.keep w hw, fun x hx => ⟨(h.ok x hx).1.keep w hw, (h.ok x hx).2.1.keep w hw, (h.ok x hx).2.2⟩⟩
theorem old_in {R L rest : List Res} {w0 w v : World} (h : St (bs w0) (R ++ rest) w) (hs : St ⟨w, fpL R⟩ L v) : St (bs w0) (L ++ rest) v := h.callG (fun k hk => hk) hs
theorem field_len {g : Grid} {vs : List Span} (h : fieldE 1073741824 ⟨g, vs⟩ = 0) : vs.length ≤ 4096 := by
  unfold fieldE at h
  split at h
  · omega
  · rename_i q
    have z := area_bd (Classical.not_not.1 q)
    split at h
    · omega
    · rename_i q2
      have q3 := Classical.not_not.1 q2
      dsimp only at q3 z
      omega
structure PlY where
  o : OfM
  es : List Ev
  pe : Option Addr
  ce : Nat
theorem add_cl {o : OfM} {y : StepY} {T : Int} {l : List Cloud} (h : StepP o T l y) : y.es.length ≤ o.rc.length := (run_keep h.1).2.2.1

set_option maxRecDepth 20000 in
theorem play_st (o : OfM) (st : List Stp) (T : Int) (m : List CP) (pm : Option Addr) (cm : Nat) (w : World) (hh : Has w (offR o)) (hcl : ∀ {L : List Res} {v : World}, St ⟨w, fpL (offR o)⟩ L v → Clouds v pm m) (hcn : m.length < 1000000000) (h : SimO o st) (hok : stpE o T (m.map CP.c) = 0) :
  Calls Try.prog 135 #[.agg #[.int .i64 T, .slice pm m.length cm], ptrN o.b] w fun e w' => ∃ y : StepY, (StepP o T (m.map CP.c) y ∧ SimO (y.o o T) (st ++ [⟨T, thsP o.sp (m.map CP.c)⟩]) ∧ y.es = evF o.hold o.rc.length st ⟨T, thsP o.sp (m.map CP.c)⟩) ∧ e = .returned (.tuple #[.slice y.pe y.es.length y.ce, .int .i64 0]) ∧ St ⟨w, fpL (offR o)⟩ (own 62 7 y.pe y.ce (y.es.map evC) :: offR (y.o o T)) w' := by
  obtain ⟨hk1, hk2, hk3, hk4⟩ := stepOk hok
  refine enterO (vs := [_,_]) (env := [(0,_), (1,_)]) hh.enter Try.func135 rfl rfl rfl rfl ?_
  refine VC.seq ?_
  refine VC.reg (VO.h rfl<|HO.box (C := #[_,_]) rfl rfl fun b11 => VO.l (LO.as (.r rfl)) rfl<|VO.l (LO.as (.r rfl)) rfl<|VO.nil ?_)
  refine VE.seqN ?_
  refine VC.seq ?_
  refine VC.reg (VO.l (LO.mv (.r rfl)) rfl<|VO.l (LO.fa (r := 0) F158_0 (.r rfl) rfl) rfl<|VO.l (LO.ld O3 (.r rfl) (fun _ hw => cells_at hw 0 rfl ⟨_, rfl⟩)) rfl<|VO.l (LO.fa (r := 1) F158_1 (.r rfl) rfl) rfl<|VO.l (LO.ld O29 (.r rfl) (fun _ hw => cells_at hw 0 rfl ⟨_, rfl⟩)) rfl<|VO.h rfl<|HO.callP (first := []) (cap := []) (xs := [_,_,_]) (vs := [_,_,_]) [_,_,_,_,_,_,_,_,_,_] [_] (selK (L1 := [_,_,_,_,_,_,_,_,_,_] ++ [_]) [1,2,3,4,5,6,7,8,9,10,0] rfl rfl) (.r rfl) C27 ⟨(.r rfl), (.r rfl), (.r rfl), trivial⟩ (fun w2 hw hh2 => Step_s o st T m pm cm w2 hh2 (fun hs => hcl (St.callG (L2 := [_]) (selK (L1 := offR o ++ [_]) [1,2,3,4,5,6,7,8,9,10,0] rfl rfl _ hw) (fun k hk => hk) hs)) hcn h hk1.1 hk1.2 hk2 hk3 hk4) fun y hy => VO.h rfl<|HO.lo (LO.ex (.r rfl) rfl)<|VO.h rfl<|HO.lo (LO.ex (.r rfl) rfl)<|VO.h rfl<|HO.lo (LO.as (.r rfl))<|VO.h rfl<|HO.lo (LO.as (.r rfl))<|VO.nil ?_)
  refine VE.seqN ?_
  refine VC.ret (VE.res (vs := [_,_]) rfl ⟨rfl, rfl, trivial⟩ (fun w hw => ?_))
  exact ⟨y, hy, rfl, selK (L1 := _ :: offR (y.o o T)) [0,1,2,3,4,5,6,7,8,9,10] rfl rfl _ hw⟩

set_option maxRecDepth 20000 in
theorem play_nt (o : OfM) (T : Int) (f : Field) (pv : Option Addr) (cv : Nat) (lv : Int) (w : World) (hn : 0 < o.rc.length ∧ o.rc.length < 1000000) (hh : Has w (offR o)) (hv : ∀ {L : List Res} {v : World}, St ⟨w, fpL (offR o)⟩ L v → Spans v pv f.vals) (hok : noteE o T f lv = 0) :
  Calls Try.prog 137 #[.agg #[.int .i64 T, .int .i64 f.g.x, .int .i64 f.g.y, .int .i64 f.g.size, .int .i64 f.g.wide, .int .i64 f.g.high, .slice pv f.vals.length cv, .int .i64 lv], ptrN o.b] w fun e w' => ∃ y : (Option Addr × Nat) × (Option Addr × Nat), True ∧ e = .returned (.tuple #[.slice none 0 0, .int .i64 0]) ∧ St ⟨w, fpL (offR o)⟩ (offR { o with lg := o.lg ++ [LgM.nt T f.g y.1.1 y.1.2 f.vals lv], pl := y.2.1, cl := y.2.2 }) w' := by
  refine enterO (vs := [_,_]) (env := [(0,_), (1,_)]) hh.enter Try.func137 rfl rfl rfl rfl ?_
  refine VC.seq ?_
  refine VC.reg (VO.h rfl<|HO.box (C := #[_,_,_,_,_,_,_,_]) rfl rfl fun b11 => VO.l (LO.as (.r rfl)) rfl<|VO.l (LO.as (.r rfl)) rfl<|VO.nil ?_)
  refine VE.seqN ?_
  refine VC.seq ?_
  refine VC.reg (VO.l (LO.mv (.r rfl)) rfl<|VO.l (LO.fa (r := 0) F165_0 (.r rfl) rfl) rfl<|VO.l (LO.ld O3 (.r rfl) (fun _ hw => cells_at hw 0 rfl ⟨_, rfl⟩)) rfl<|VO.l (LO.fa (r := 1) F165_1 (.r rfl) rfl) rfl<|VO.l (LO.lda (vs := [_,_,_,_,_,_]) A93 (.r rfl) (fun _ hw => cells_at hw 0 rfl ⟨_, rfl⟩) rfl) rfl<|VO.l (LO.fa (r := 7) F165_2 (.r rfl) rfl) rfl<|VO.l (LO.ld O3 (.r rfl) (fun _ hw => cells_at hw 0 rfl ⟨_, rfl⟩)) rfl<|VO.h rfl<|HO.callP (first := []) (cap := []) (xs := [_,_,_,_]) (vs := [_,_,_,_]) [_,_,_,_,_,_,_,_,_,_] [_] (selK (L1 := [_,_,_,_,_,_,_,_,_,_] ++ [_]) [1,2,3,4,5,6,7,8,9,10,0] rfl rfl) (.r rfl) C31 ⟨(.r rfl), (.r rfl), (.r rfl), (.r rfl), trivial⟩ (fun w2 hw hh2 => Note_c o T f pv cv lv w2 hn hh2 (fun hs => hv (St.callG (L2 := [_]) (selK (L1 := offR o ++ [_]) [1,2,3,4,5,6,7,8,9,10,0] rfl rfl _ hw) (fun k hk => hk) hs)) hok) fun y _ => VO.l (LO.as (.r rfl)) rfl<|VO.h rfl<|HO.lo (LO.as (.r rfl))<|VO.nil ?_)
  refine VE.seqN ?_
  refine VC.ret (VE.res (vs := [_,_]) rfl ⟨rfl, rfl, trivial⟩ (fun w hw => ?_))
  exact ⟨y, trivial, rfl, selK (L1 := [_,_,_,_,_,_,_,_,_,_]) [0,1,2,3,4,5,6,7,8,9] rfl rfl _ hw⟩

end Go.Proofs.Ytdjflomhaljljaa

namespace Go.Proofs.Ytdjflomhaljljaa
open Go.SL Go.Proofs Go.Cast
set_option linter.unusedVariables false

theorem F169_0 : FieldAt Try.prog 169 0 0 := ⟨_,_, Try.underlying169, rfl, rfl, 0, by kernel_rfl⟩
theorem F169_2 : FieldAt Try.prog 169 2 2 := ⟨_,_, Try.underlying169, rfl, rfl, 5, by kernel_rfl⟩
theorem F169_3 : FieldAt Try.prog 169 3 8 := ⟨_,_, Try.underlying169, rfl, rfl, 0, by kernel_rfl⟩
theorem F169_1 : FieldAt Try.prog 169 1 1 := ⟨_,_, Try.underlying169, rfl, rfl, 0, by kernel_rfl⟩
theorem C135 : IsFn Try.prog 135 := ⟨_, Try.func135, by decide, rfl⟩
theorem C137 : IsFn Try.prog 137 := ⟨_, Try.func137, by decide, rfl⟩


theorem spec_new {g : Grid} {rgs : List RG} {a b d : Int} {s : Sp} {o : OfM} {l : List EnP} (hn : NewP g rgs a b d o) (hse : s = ⟨g, rgs.map RG.r, a, b, d⟩) (hs : specE s = 0) (hp : ∀ x, x ∈ rgs → x.r.pix.length < 1000000000000) : PlA s l o 0 := by
  have h1 := sim_new hn (by rw [← hse]; exact hs) hp
  obtain ⟨e1, e2, e3, e4, e5, e6, e7,_, e8,_⟩ := hn
  exact ⟨h1, by rw [hse]; unfold OfM.sp; rw [e1, e2, e3, e4, e8], by rw [e7]; rfl, fun x hx => by rw [e7] at hx; cases hx⟩
theorem RO.nilE {α : Type} {z : Nat} {f : α → List Value} {w : World} : Go.SL.Rows w z none (([] : List α).map f) := ⟨fun j r h => by simp at h, fun _ => rfl, fun _ a ha => by cases ha⟩

theorem en_bd {w : World} {x : EnM} {s : Sp} {pre : List EnP} (h : Clouds w x.pc x.l ∧ Spans w x.pv x.vs ∧ x.l.length < 1000000000) (he : enE s pre x.p = 0) : x.lv = 0 ∨ x.vs.length ≤ 4096 := by
  by_cases q : x.lv = 0
  · exact .inl q
  · right
    unfold enE EnM.p at he
    dsimp only at he
    rw [if_neg q] at he
    split at he
    · omega
    · split at he
      · omega
      · split at he
        · rename_i z; exact absurd he z
        · rename_i z; exact field_len (Classical.not_not.1 z)

theorem cl_bd {w : World} {x : EnM} (h : Clouds w x.pc x.l ∧ Spans w x.pv x.vs ∧ x.l.length < 1000000000) : x.p.l.length < 1000000000 ∧ ∀ c, c ∈ x.p.l → c.sure.length < 1000000000000 ∧ c.may.length < 1000000000000 := by
  refine ⟨by show (x.l.map CP.c).length < _; rw [List.length_map]; exact h.2.2, fun c hc => ?_⟩
  obtain ⟨y, hy, e⟩ := List.mem_map.1 (show c ∈ x.l.map CP.c from hc)
  have := (h.1.ok y hy).2.2
  rw [← e]; exact this
theorem evP_st {s : Sp} {l : List EnP} {o : OfM} {n : Nat} {x : EnP} (h : PlA s l o n) (hx : l[n]? = some x) (hlv : x.lv = 0) : evP s l (n + 1) = evP s l n ++ evF o.hold o.rc.length (stP s (l.take n)) ⟨x.t, thsP o.sp x.l⟩ := by
  show evP s l n ++ enEv s (l.take n) (l.getD n zEn) = _
  rw [getD_of hx]
  unfold enEv
  rw [if_pos hlv, n_eq h.sim.wf, h.sp]
  congr 3
  rw [← h.sp]; rfl
theorem evP_nt {s : Sp} {l : List EnP} {n : Nat} {x : EnP} (hx : l[n]? = some x) (hlv : ¬ x.lv = 0) : evP s l (n + 1) = evP s l n ++ [] := by
  show evP s l n ++ enEv s (l.take n) (l.getD n zEn) = _
  rw [getD_of hx]
  unfold enEv
  rw [if_neg hlv]

end Go.Proofs.Ytdjflomhaljljaa

namespace Go.Proofs.Ytdjflomhaljljaa
open Go.SL Go.Proofs Go.Cast
set_option linter.unusedVariables false

theorem Z93 : ZeroOf Try.prog 93 (.agg #[.int .i64 0, .int .i64 0, .int .i64 0, .int .i64 0, .int .i64 0, .slice none 0 0]) := by unfold ZeroOf; kernel_rfl
theorem N93 : (Try.prog.info? 93).map (·.size) = some 6 := by kernel_rfl
theorem C33 : IsFn Try.prog 33 := ⟨_, Try.func33, by decide, rfl⟩


theorem log_frame {w : World} {p : Option Addr} {c : Nat} {l : List EnM} {o : OfM} (hp : l.map EnM.p = o.lg.map LgM.enp) (hok : LgOk o) (h1 : (own 169 9 p c (l.map EnM.cells)).inv w) (h2 : (bagD (l.flatMap EnM.res)).inv w) : LogM w p l := by
  refine ⟨own_inv_rows h1, fun x hx => ?_⟩
  have hb : x.p.bd := by
    have : x.p ∈ o.lg.map LgM.enp := by rw [← hp]; exact List.mem_map_of_mem hx
    obtain ⟨y, hy, e⟩ := List.mem_map.1 this
    rw [← e]; exact hok y hy
  have m1 := h2.1 (own 80 7 x.pc x.cc (x.l.map CP.cells)) (List.mem_flatMap.2 ⟨x, hx, .head _⟩)
  have m2 := h2.1 (bagD (x.l.flatMap cpR)) (List.mem_flatMap.2 ⟨x, hx, .tail _ (.head _)⟩)
  have m3 := h2.1 (own 76 2 x.pv x.cv (x.vs.map Span.cells)) (List.mem_flatMap.2 ⟨x, hx, .tail _ (.tail _ (.head _))⟩)
  have hb1 : x.l.length < 1000000000 := by have := hb.1; simpa [EnM.p] using this
  refine ⟨⟨own_inv_rows m1, fun y hy => ?_⟩, own_inv_rows m3, hb1⟩
  have := cp_read m2 hy
  have hb2 := hb.2.1 y.c (List.mem_map_of_mem hy)
  exact ⟨this.1, this.2, hb2.1, hb2.2⟩
end Go.Proofs.Ytdjflomhaljljaa

namespace Go.Proofs.Ytdjflomhaljljaa
open Go.SL Go.Proofs Go.Cast
set_option linter.unusedVariables false

theorem Z112 : ZeroOf Try.prog 112 (.agg #[.int .i64 0, .int .i64 0, .int .i64 0, .int .i64 0, .int .i64 0, .int .i64 0, .int .i64 0]) := by unfold ZeroOf; kernel_rfl
theorem S185 : IsSlice Try.prog 185 165 := Try.underlying185
theorem A112 : IsAgg Try.prog 112 7 := ⟨⟨_, Try.underlying112, rfl⟩, by kernel_rfl⟩
theorem N112 : (Try.prog.info? 112).map (·.size) = some 7 := by kernel_rfl
theorem C71 : IsFn Try.prog 71 := ⟨_, Try.func71, by decide, rfl⟩
theorem I112 : EInfo Try.prog 112 7 56 (.agg #[.int .i64 0, .int .i64 0, .int .i64 0, .int .i64 0, .int .i64 0, .int .i64 0, .int .i64 0]) := ⟨by kernel_rfl, by kernel_rfl, by unfold ZeroOf; kernel_rfl, rfl, by decide⟩


end Go.Proofs.Ytdjflomhaljljaa

namespace Go.Proofs.Ytdjflomhaljljaa
open Go.SL Go.Proofs Go.Cast
set_option linter.unusedVariables false

end Go.Proofs.Ytdjflomhaljljaa

namespace Go.Proofs.Ytdjflomhaljljaa
open Go.SL Go.Proofs Go.Cast
set_option linter.unusedVariables false

end Go.Proofs.Ytdjflomhaljljaa

namespace Go.Proofs.Ytdjflomhaljljaa
open Go.SL Go.Proofs Go.Cast
set_option linter.unusedVariables false

end Go.Proofs.Ytdjflomhaljljaa

namespace Go.Proofs.Ytdjflomhaljljaa
open Go.SL Go.Proofs Go.Cast
set_option linter.unusedVariables false

end Go.Proofs.Ytdjflomhaljljaa

namespace Go.Proofs.Ytdjflomhaljljaa
open Go.SL Go.Proofs Go.Cast
set_option linter.unusedVariables false

section
variable {g : Grid} {c : Cloud} {p t : Int}
end
section
variable {g : Grid} {c : Cloud} {p t vx vy u v e : Int}
end
end Go.Proofs.Ytdjflomhaljljaa

namespace Go.Proofs.Ytdjflomhaljljaa
open Go.SL Go.Proofs Go.Cast
set_option linter.unusedVariables false

end Go.Proofs.Ytdjflomhaljljaa

namespace Go.Proofs.Ytdjflomhaljljaa
open Go.SL Go.Proofs Go.Cast
set_option linter.unusedVariables false

section
variable {l : List Cloud} {a b : Int} {m : Nat}
end
section
variable {l : List Cloud} {a b : Int} {pix : List Int} {m j : Nat} {c : Cloud}
end
end Go.Proofs.Ytdjflomhaljljaa

namespace Go.Proofs.Ytdjflomhaljljaa
open Go.SL Go.Proofs Go.Cast
set_option linter.unusedVariables false

section
variable {l l' : List Cloud} {a a' b : Int} {pix : List Int}
end
/-- The steps of a service, whatever the clouds. -/
def stG (s : Sp) (f : Nat → List Cloud) (bs : List BtM) (n : Nat) : List Stp := (List.range n).map fun i => ⟨tAt bs (i + 1), thsP s (f i)⟩
section
variable {s s' : Sp} {f f' : Nat → List Cloud} {bs : List BtM} {n : Nat}
end
section
variable {s s' : Sp} {f f' : Nat → List Cloud} {bs : List BtM} {o : OfM} {n : Nat}
end
def fA (bs : List BtM) (l : List Cloud) (i : Nat) : List Cloud := beatL (bs.getD i ⟨0,0,0, true⟩) l
section
variable {d : DrM} {l : List Cloud} {bs : List BtM} {mo lo ho : Int} {i k : Nat}
theorem fA_mem (hb : ∀ b, b ∈ bs → b.ok) (hi : i < bs.length) {c : Cloud} (h : c ∈ fA bs l i) : c ∈ l := beat_mem (hb _ (getD_mem hi)) c h
theorem fA_look (hb : ∀ b, b ∈ bs → b.ok) (hi : i < bs.length) (hl : ClsOk l) : lookE gD (fA bs l i) = 0 := beat_look (hb _ (getD_mem hi)) hl
theorem dr_pixd (hk : k < (drRegs d 3).length) : ∀ n, n ∈ ((drRegs d 3).getD k default).pix → 0 ≤ n ∧ n < 20 := (dr_pix (getD_mem hk)).1
end
section
variable {s s' : Sp} {f f' : Nat → List Cloud} {bs : List BtM} {N n : Nat} {H : Int}
end
end Go.Proofs.Ytdjflomhaljljaa

namespace Go.Proofs.Ytdjflomhaljljaa
open Go.SL Go.Proofs Go.Cast
set_option linter.unusedVariables false

theorem A48 : IsAgg Try.prog 48 23 := ⟨⟨_, Try.underlying48, rfl⟩, by kernel_rfl⟩
theorem C19 : IsFn Try.prog 19 := ⟨_, Try.func19, by decide, rfl⟩
theorem C20 : IsFn Try.prog 20 := ⟨_, Try.func20, by decide, rfl⟩
theorem C21 : IsFn Try.prog 21 := ⟨_, Try.func21, by decide, rfl⟩
/-- A fact that is kept out of sight. -/
structure Hw (p : Prop) : Prop where
  out : p
theorem cl_len {cl : List ClM} {n : Nat} (hok : ∀ c, c ∈ cl → c.ok) {c : Cloud} (h : c ∈ allL cl n) : c.sure.length < 1000000 ∧ c.may.length < 1000000 := by
  obtain ⟨k,_, e,_⟩ := allL_ok hok n _ h
  have h1 : c.sure.length ≤ 20 := by rw [e]; exact pxF_len
  have h2 : c.may.length ≤ 20 := by rw [e]; exact pxF_len
  omega

end Go.Proofs.Ytdjflomhaljljaa

namespace Go.Proofs.Ytdjflomhaljljaa
open Go.SL Go.Proofs Go.Cast
set_option linter.unusedVariables false

theorem F64_1 : FieldAt Try.prog 64 1 1 := ⟨_,_, Try.underlying64, rfl, rfl, 0, by kernel_rfl⟩
theorem F64_2 : FieldAt Try.prog 64 2 2 := ⟨_,_, Try.underlying64, rfl, rfl, 0, by kernel_rfl⟩


end Go.Proofs.Ytdjflomhaljljaa

namespace Go.Proofs.Ytdjflomhaljljaa
open Go.SL Go.Proofs Go.Cast
set_option linter.unusedVariables false

theorem A165 : IsAgg Try.prog 165 8 := ⟨⟨_, Try.underlying165, rfl⟩, by kernel_rfl⟩
theorem IM208 : IsMapI Try.prog 208 := ⟨3,3, .i64, Try.underlying208, Try.underlying3, by unfold ZeroOf; kernel_rfl⟩


set_option maxRecDepth 20000 in
theorem hit_c (n : NtM) (x : RG) (w : World) (hv : Spans w n.p n.vs) (hx : Ints w x.px x.r.pix) (hl : x.r.pix.length < 1000000000000) (hp : ∀ p, p ∈ x.r.pix → 0 ≤ p ∧ p < (n.vs.length : Int)) :
  Calls Try.prog 88 #[.agg n.cells.toArray, .agg #[.string x.r.name, .slice x.px x.r.pix.length x.cx]] w fun e w' => e = .returned (.tuple #[.bool (hitB x.r.pix n.vs n.lv), .bool (canB x.r.pix n.vs n.lv)]) ∧ St (bs w) [] w' := by
  refine enter (vs := [_,_]) (env := [(0,_), (1,_)]) Try.func88 rfl rfl rfl rfl ?_
  refine VC.seq ?_
  refine VC.reg (VO.h rfl<|HO.box (C := #[_,_,_,_,_,_,_,_]) rfl rfl fun b1 => VO.h rfl<|HO.box (C := #[_,_]) rfl rfl fun b2 => VO.l (LO.as (.r rfl)) rfl<|VO.l (LO.as (.r rfl)) rfl<|VO.nil ?_)
  refine VE.seqN ?_
  refine VC.seq ?_
  refine VC.seq ?_
  refine VC.reg (VO.l (LO.fa (r := 1) F74_1 (.r rfl) rfl) rfl<|VO.l (LO.ld O55 (.r rfl) (fun _ hw => cells_at hw 0 rfl ⟨_, rfl⟩)) rfl<|VO.l (LO.len S55 (.r rfl) rfl) rfl<|VO.l (LO.mv (.r rfl)) rfl<|VO.nil ?_)
  refine VE.seqN ?_
  refine VC.block ?_
  refine VC.loopK (α := Nat) 0 (fun gx => [(4, .bool (hitB (x.r.pix.take gx) n.vs n.lv)), (5, .bool (canB (x.r.pix.take gx) n.vs n.lv)), (11, .int .i64 (gx : Nat))]) [(2,_), (9,_), (10,_)] (fun gx => []) (fun gx => gx ≤ x.r.pix.length) (fun gx => x.r.pix.length - gx) 0 (by exact Nat.zero_le _) (.cons rfl (.cons rfl (.cons rfl (.cons rfl (.cons rfl (.cons rfl .nil)))))) (fun _ h => h) ?_
  rintro j hj
  refine VC.seq ?_
  refine VC.reg (VO.l (LO.lt (.r rfl) (.r rfl)) rfl<|VO.nil ?_)
  refine VE.seqN ?_
  refine VC.seq ?_
  refine VC.cond rfl (fun h12 => ?_) (fun h12 => ?_)
  ·
    obtain ⟨q, hq⟩ : ∃ q, x.r.pix[j]? = some q := ⟨_, List.getElem?_eq_getElem (by omega)⟩
    have hqb := hp q (List.mem_of_getElem? hq)
    refine VC.skip (VE.seqN ?_)
    refine VC.seq ?_
    refine VC.block ?_
    refine VC.seq ?_
    refine VC.reg (VO.l (LO.ixs S55 N3 (Go.SL.Rows.some (n := x.r.pix.length) hx (by simp)) (.r rfl) (.r rfl) rfl (by omega)) rfl<|VO.l (LO.ld O3 (.r rfl) (fun w hw => cells_part (off := 0) ((fun w2 hw2 => (Go.SL.Rows.keep hx w2 hw2).cells _ _ (by rw [List.getElem?_map, hq]; rfl)) w hw) ⟨_, rfl⟩)) rfl<|VO.l (LO.as (.r rfl)) rfl<|VO.nil ?_)
    refine VE.seqN ?_
    refine VC.seq ?_
    refine VC.draw mixed (LL.l (LO.mv (.r rfl)) rfl<|LL.l (LO.mv (.r rfl)) rfl<|LL.lg rfl rfl (GD.f _) (fun hg => LO.fa (r := 1) F165_1 (.r rfl) rfl) rfl<|LL.lg rfl rfl (GD.f _) (fun hg => LO.fa (r := 6) F93_1 (.g hg rfl) rfl) rfl<|LL.lg rfl rfl (GD.f _) (fun hg => LO.ld O91 (.g hg rfl) (fun _ hw => cells_at hw 1 rfl ⟨_, rfl⟩)) rfl<|LL.lg rfl rfl (GD.f _) (fun hg => LO.mv (.r rfl)) rfl<|LL.lg rfl rfl (GD.f _) (fun hg => LO.ixs S91 N76 hv.some (.g hg rfl) (.g hg rfl) (j := q.toNat) (by omega) (by omega)) rfl<|LL.lg rfl rfl (GD.f _) (fun hg => LO.fa F76_0 (.g hg rfl) rfl) rfl<|LL.lg rfl rfl (GD.f _) (fun hg => LO.ld O3 (.g hg rfl) (fun w hw => cells_part (off := 0) (hv.at (j := q.toNat) (by omega) w hw) ⟨_, rfl⟩)) rfl<|LL.lg rfl rfl (GD.f _) (fun hg => LO.fa (r := 7) F165_2 (.r rfl) rfl) rfl<|LL.lg rfl rfl (GD.f _) (fun hg => LO.ld O3 (.g hg rfl) (fun _ hw => cells_at hw 1 rfl ⟨_, rfl⟩)) rfl<|LL.lg rfl rfl (GD.f _) (fun hg => LO.ge (.g hg rfl) (.g hg rfl)) rfl<|LL.l (LO.pkO (.r rfl) (.r rfl) rfl rfl) rfl<|LL.l (LO.as (.r rfl)) rfl<|LL.nil) (by kernel_rfl) ?_
    refine VE.seqN ?_
    refine VC.draw mixed (LL.l (LO.mv (.r rfl)) rfl<|LL.l (LO.mv (.r rfl)) rfl<|LL.lg rfl rfl (GD.f _) (fun hg => LO.fa (r := 1) F165_1 (.r rfl) rfl) rfl<|LL.lg rfl rfl (GD.f _) (fun hg => LO.fa (r := 6) F93_1 (.g hg rfl) rfl) rfl<|LL.lg rfl rfl (GD.f _) (fun hg => LO.ld O91 (.g hg rfl) (fun _ hw => cells_at hw 1 rfl ⟨_, rfl⟩)) rfl<|LL.lg rfl rfl (GD.f _) (fun hg => LO.mv (.r rfl)) rfl<|LL.lg rfl rfl (GD.f _) (fun hg => LO.ixs S91 N76 hv.some (.g hg rfl) (.g hg rfl) (j := q.toNat) (by omega) (by omega)) rfl<|LL.lg rfl rfl (GD.f _) (fun hg => LO.fa F76_1 (.g hg rfl) rfl) rfl<|LL.lg rfl rfl (GD.f _) (fun hg => LO.ld O3 (.g hg rfl) (fun w hw => cells_part (off := 1) (hv.at (j := q.toNat) (by omega) w hw) ⟨_, rfl⟩)) rfl<|LL.lg rfl rfl (GD.f _) (fun hg => LO.fa (r := 7) F165_2 (.r rfl) rfl) rfl<|LL.lg rfl rfl (GD.f _) (fun hg => LO.ld O3 (.g hg rfl) (fun _ hw => cells_at hw 1 rfl ⟨_, rfl⟩)) rfl<|LL.lg rfl rfl (GD.f _) (fun hg => LO.ge (.g hg rfl) (.g hg rfl)) rfl<|LL.l (LO.pkO (.r rfl) (.r rfl) rfl rfl) rfl<|LL.l (LO.as (.r rfl)) rfl<|LL.nil) (by kernel_rfl) ?_
    refine VE.inN (VE.seqN ?_)
    refine VC.reg (VO.l (LO.add (.r rfl) (.r rfl) (wi (by omega) (by omega))) rfl<|VO.l (LO.mv (.r rfl)) rfl<|VO.nil ?_)
    refine VE.thenN fun a w ha hw => ⟨j + 1, (by omega), (by omega), ha.sub (.cons (congrArg (fun z => some (Value.bool z)) (any_take hq).symm) (.cons (congrArg (fun z => some (Value.bool z)) (any_take hq).symm) (.cons rfl (.cons rfl (.cons rfl (.cons rfl .nil)))))), hw⟩
  ·
    refine VC.exit (VE.thenX (VE.thenX (VE.inX (VE.seqN ?_))))
    refine VC.seq ?_
    refine VC.reg (VO.l (LO.mv (.r rfl)) rfl<|VO.l (LO.mv (.r rfl)) rfl<|VO.l (LO.as (.r rfl)) rfl<|VO.l (LO.as (.r rfl)) rfl<|VO.nil ?_)
    refine VE.seqN ?_
    refine VC.ret (VE.res (vs := [_,_]) rfl ⟨rfl, rfl, trivial⟩ (fun w hw => ?_))
    rw [List.take_of_length_le (by omega)]
    exact ⟨rfl, hw.nil⟩

end Go.Proofs.Ytdjflomhaljljaa
