/-
  Clouds by numbers.
-/
import Derived.Test.YtdcjeoamhjplmaaWF
namespace Go.Proofs.Ytdcjeoamhjplmaa
open Go.SL Go.Proofs Go.Cast
set_option linter.unusedVariables false

theorem N21 : (Try.prog.info? 21).map (·.size) = some 1 := by kernel_rfl
theorem O21 : IsOne Try.prog 21 := ⟨⟨_, Try.underlying21, rfl⟩, by kernel_rfl⟩
theorem F49_0 : FieldAt Try.prog 49 0 0 := ⟨_, _, Try.underlying49, rfl, rfl, 0, by kernel_rfl⟩
theorem O5 : IsOne Try.prog 5 := ⟨⟨_, Try.underlying5, rfl⟩, by kernel_rfl⟩
theorem F49_1 : FieldAt Try.prog 49 1 1 := ⟨_, _, Try.underlying49, rfl, rfl, 0, by kernel_rfl⟩
theorem F49_3 : FieldAt Try.prog 49 3 3 := ⟨_, _, Try.underlying49, rfl, rfl, 1, by kernel_rfl⟩
theorem A46 : IsAgg Try.prog 46 2 := ⟨⟨_, Try.underlying46, rfl⟩, by kernel_rfl⟩
theorem C59 : IsFn Try.prog 59 := ⟨_, Try.func59, by decide, rfl⟩
theorem F49_4 : FieldAt Try.prog 49 4 5 := ⟨_, _, Try.underlying49, rfl, rfl, 1, by kernel_rfl⟩
theorem F49_5 : FieldAt Try.prog 49 5 7 := ⟨_, _, Try.underlying49, rfl, rfl, 0, by kernel_rfl⟩
theorem O47 : IsOne Try.prog 47 := ⟨⟨_, Try.underlying47, rfl⟩, by kernel_rfl⟩
theorem F49_2 : FieldAt Try.prog 49 2 2 := ⟨_, _, Try.underlying49, rfl, rfl, 0, by kernel_rfl⟩
theorem O45 : IsOne Try.prog 45 := ⟨⟨_, Try.underlying45, rfl⟩, by kernel_rfl⟩
theorem S45 : IsSlice Try.prog 45 5 := Try.underlying45
theorem N5 : (Try.prog.info? 5).map (·.size) = some 1 := by kernel_rfl
theorem N28 : (Try.prog.info? 28).map (·.size) = some 1 := by kernel_rfl


structure Draft where
  wide : Int
  high : Int
  pix : List Int
  x0 : Int
  x1 : Int
  y0 : Int
  y1 : Int
  grow : Int
def Byts (w : World) (p : Option Addr) (l : List Int) : Prop := Go.SL.Rows w 1 p (l.map fun n => [.int .u8 n])
theorem Byts.some {w : World} {p : Option Addr} {l : List Int} (h : Byts w p l) : SlSome p l.length := Go.SL.Rows.some h (by simp)
theorem Byts.keep {w0 : World} {p : Option Addr} {l : List Int} (h : Byts w0 p l) {L : List Res} : ∀ w, St (bs w0) L w → Byts w p l := Go.SL.Rows.keep h
theorem Byts.at {w0 : World} {p : Option Addr} {l : List Int} (h : Byts w0 p l) {L : List Res} {j : Nat} (hj : j < l.length) : ∀ w, St (bs w0) L w → Cells w ⟨pb p, po p + j * 1, none⟩ [.int .u8 (l.getD j 0)] :=
  fun w hw => (h.keep w hw).cells j _ (by simp [List.getElem?_eq_getElem hj, List.getD])
def dOk (d : Draft) : Prop := (0 ≤ d.wide ∧ d.wide ≤ 255) ∧ (0 ≤ d.high ∧ d.high ≤ 255) ∧ (-2147483648 ≤ d.x0 ∧ d.x0 ≤ 2147483647) ∧ (-2147483648 ≤ d.x1 ∧ d.x1 ≤ 2147483647) ∧ (-2147483648 ≤ d.y0 ∧ d.y0 ≤ 2147483647) ∧ (-2147483648 ≤ d.y1 ∧ d.y1 ≤ 2147483647) ∧ 0 ≤ d.grow ∧ d.grow ≤ 65535
def dW (d : Draft) : Int := 1 + d.wide.tmod 8
def dH (d : Draft) : Int := 1 + d.high.tmod 8
def dN (d : Draft) : Nat := min (dW d * dH d).toNat d.pix.length
def sureTo (d : Draft) : Nat → List Int
  | 0 => []
  | k + 1 => if (d.pix.getD k 0).tmod 3 = 1 then sureTo d k ++ [(k : Int)] else sureTo d k
def mayTo (d : Draft) : Nat → List Int
  | 0 => []
  | k + 1 => if 0 < (d.pix.getD k 0).tmod 3 then mayTo d k ++ [(k : Int)] else mayTo d k
def dG (d : Draft) : Grid := ⟨0, 0, 1000, dW d, dH d⟩
def dF (d : Draft) : Flow := ⟨min (d.x0.tmod 100001) (d.x1.tmod 100001), max (d.x0.tmod 100001) (d.x1.tmod 100001), min (d.y0.tmod 100001) (d.y1.tmod 100001), max (d.y0.tmod 100001) (d.y1.tmod 100001)⟩
def dC (d : Draft) : Cloud := ⟨sureTo d (dN d), mayTo d (dN d), dF d, d.grow.tmod 10001⟩
section
variable {d : Draft} {k : Nat}
theorem tmod_pos {a n : Int} (h : 0 ≤ a) (hn : 0 < n) : 0 ≤ a.tmod n ∧ a.tmod n < n := by
  rw [Int.tmod_eq_emod_of_nonneg h]; exact ⟨Int.emod_nonneg _ (by omega), Int.emod_lt_of_pos _ hn⟩
theorem dW_bd (h : 0 ≤ d.wide) : 1 ≤ dW d ∧ dW d ≤ 8 := by have := tmod_pos h (n := 8) (by decide); unfold dW; omega
theorem dH_bd (h : 0 ≤ d.high) : 1 ≤ dH d ∧ dH d ≤ 8 := by have := tmod_pos h (n := 8) (by decide); unfold dH; omega
theorem mul8 {a b : Int} (h1 : 1 ≤ a) (h2 : a ≤ 8) (h3 : 1 ≤ b) (h4 : b ≤ 8) : 1 ≤ a * b ∧ a * b ≤ 64 := by
  constructor
  · have := Int.mul_le_mul h1 h3 (by omega) (by omega); omega
  · have := Int.mul_le_mul h2 h4 (by omega) (by omega); omega
theorem dN_le (d : Draft) : dN d ≤ d.pix.length := Nat.min_le_right _ _
theorem dN_le2 (d : Draft) (h1 : 1 ≤ dW d) (h2 : 1 ≤ dH d) : (dN d : Int) ≤ dW d * dH d := by
  have : dN d ≤ (dW d * dH d).toNat := Nat.min_le_left _ _
  have h3 : 0 ≤ dW d * dH d := Int.mul_nonneg (by omega) (by omega)
  omega
theorem dN_lt (h1 : (k : Int) < dW d * dH d) (h2 : k < d.pix.length) : k < dN d := by unfold dN; omega
theorem dN_eq (h1 : ¬ ((k : Int) < dW d * dH d ∧ (k : Int) < d.pix.length)) (h2 : k ≤ dN d) (h3 : 1 ≤ dW d * dH d) : k = dN d := by unfold dN at h2 ⊢; omega
end

set_option maxRecDepth 20000 in
theorem span_c (a b : Int) (w : World) (ha : -2147483648 ≤ a) (ha2 : a ≤ 2147483647) (hb : -2147483648 ≤ b) (hb2 : b ≤ 2147483647) :
  Calls Try.prog 59 #[.agg #[.int .i32 a, .int .i32 b]] w fun e w' => e = .returned (.agg #[.int .i64 (min (a.tmod 100001) (b.tmod 100001)), .int .i64 (max (a.tmod 100001) (b.tmod 100001))]) ∧ St (bs w) [] w' := by
  refine enter (vs := [_]) (env := [(0, _)]) Try.func59 rfl rfl rfl rfl ?_
  refine VC.seq ?_
  refine VC.reg (VO.h rfl <| HO.box (C := #[_, _]) rfl rfl fun b1 => VO.h rfl <| HO.alloc (C := #[_, _]) Z30 rfl fun b2 => VO.nil ?_)
  refine VE.seqN ?_
  refine VC.seq ?_
  refine VC.draw mixed (LL.l (LO.ixa (j := 0) (r := 0) Try.underlying46 N21 (.r rfl) (.r rfl) rfl (by decide) rfl) rfl <| LL.l (LO.ld O21 (.r rfl) (fun _ hw => cells_at hw 1 rfl ⟨_, rfl⟩)) rfl <| LL.l (LO.cv ⟨_, Try.underlying21⟩ Try.underlying3 (.r rfl) (wi (by omega) (by omega))) rfl <| LL.l (LO.rem (.r rfl) (.r rfl) (by omega)) rfl <| LL.l (LO.ixa (j := 1) (r := 1) Try.underlying46 N21 (.r rfl) (.r rfl) rfl (by decide) rfl) rfl <| LL.l (LO.ld O21 (.r rfl) (fun _ hw => cells_at hw 1 rfl ⟨_, rfl⟩)) rfl <| LL.l (LO.cv ⟨_, Try.underlying21⟩ Try.underlying3 (.r rfl) (wi (by omega) (by omega))) rfl <| LL.l (LO.rem (.r rfl) (.r rfl) (by omega)) rfl <| LL.l (LO.as (.r rfl)) rfl <| LL.l (LO.as (.r rfl)) rfl <| LL.nil) (by kernel_rfl) ?_
  refine VE.seqN ?_
  refine VC.seq ?_
  refine VC.reg (VO.l (LO.mv (.r rfl)) rfl <| VO.l (LO.mv (.r rfl)) rfl <| VO.l (LO.min (.r rfl) (.r rfl)) rfl <| VO.l (LO.mv (.r rfl)) rfl <| VO.l (LO.mv (.r rfl)) rfl <| VO.l (LO.max (.r rfl) (.r rfl)) rfl <| VO.l (LO.bd (ps := [(_, _), (_, _)]) (vs := [(_, _), (_, _)]) (C := [_, _]) B30 ⟨(.r rfl), (.r rfl), trivial⟩ rfl ⟨_, [_], [_, _], rfl, rfl, rfl, rfl, ⟨_, [_], [_, _], rfl, rfl, rfl, rfl, rfl⟩⟩) rfl <| VO.h0 <| HO.st 0 (vs := [_, _]) (C' := [_, _]) (L' := [_, _]) N30 rfl rfl rfl rfl rfl rfl rfl rfl <| VO.nil ?_)
  refine VE.seqN ?_
  refine VC.ret (VE.res (vs := [_]) rfl ⟨RV.agg (vs := [_, _]) A30 rfl (cells_blk 0 rfl ⟨_, rfl⟩) rfl, trivial⟩ (fun w hw => ?_))
  exact ⟨rfl, hw.nil⟩

set_option maxRecDepth 20000 in
theorem made_c (d : Draft) (pp : Option Addr) (cp : Nat) (w : World) (hd : dOk d) (hp : Byts w pp d.pix) :
  Calls Try.prog 20 #[.agg #[.int .u8 d.wide, .int .u8 d.high, .slice pp d.pix.length cp, .int .i32 d.x0, .int .i32 d.x1, .int .i32 d.y0, .int .i32 d.y1, .int .u16 d.grow]] w fun e w' => ∃ x : (Option Addr × Nat) × Option Addr × Nat, True ∧ e = .returned (.tuple #[gridV (dG d), cloudV x.1.1 x.1.2 x.2.1 x.2.2 (dC d), .bool (decide (0 < ((dC d).may.length : Int)))]) ∧ St (bs w) [own 3 1 x.1.1 x.1.2 ((dC d).sure.map fun n => [.int .i64 n]), own 3 1 x.2.1 x.2.2 ((dC d).may.map fun n => [.int .i64 n])] w' := by
  obtain ⟨⟨hd1, hd2⟩, ⟨hd3, hd4⟩, ⟨hd5, hd6⟩, ⟨hd7, hd8⟩, ⟨hd9, hd10⟩, ⟨hd11, hd12⟩, hd13, hd14⟩ := hd
  have hw8 : 1 ≤ dW d ∧ dW d ≤ 8 := dW_bd hd1
  have hh8 : 1 ≤ dH d ∧ dH d ≤ 8 := dH_bd hd3
  have har := mul8 hw8.1 hw8.2 hh8.1 hh8.2
  have hnd := dN_le d
  have hnd2 := dN_le2 d hw8.1 hh8.1
  refine enter (vs := [_]) (env := [(0, _)]) Try.func20 rfl rfl rfl rfl ?_
  refine VC.seq ?_
  refine VC.reg (VO.h rfl <| HO.box (C := #[_, _, _, _, _, _, _, _]) rfl rfl fun b1 => VO.h rfl <| HO.alloc (C := #[_, _, _, _, _]) Z23 rfl fun b2 => VO.h rfl <| HO.alloc (C := #[_, _, _, _, _, _, _]) Z34 rfl fun b3 => VO.l (LO.as (.r rfl)) rfl <| VO.nil ?_)
  refine VE.seqN ?_
  refine VC.seq ?_
  refine VC.reg (VO.l (LO.fa (r := 0) F49_0 (.r rfl) rfl) rfl <| VO.l (LO.ld O5 (.r rfl) (fun _ hw => cells_at hw 2 rfl ⟨_, rfl⟩)) rfl <| VO.l (LO.cv ⟨_, Try.underlying5⟩ Try.underlying3 (.r rfl) (wi (by omega) (by omega))) rfl <| VO.l (LO.rem (.r rfl) (.r rfl) (by omega)) rfl <| VO.l (LO.add (.r rfl) (.r rfl) (wi (e := dW d) (by omega) (by omega))) rfl <| VO.l (LO.fa (r := 1) F49_1 (.r rfl) rfl) rfl <| VO.l (LO.ld O5 (.r rfl) (fun _ hw => cells_at hw 2 rfl ⟨_, rfl⟩)) rfl <| VO.l (LO.cv ⟨_, Try.underlying5⟩ Try.underlying3 (.r rfl) (wi (by omega) (by omega))) rfl <| VO.l (LO.rem (.r rfl) (.r rfl) (by omega)) rfl <| VO.l (LO.add (.r rfl) (.r rfl) (wi (e := dH d) (by omega) (by omega))) rfl <| VO.l (LO.bd (ps := [(_, _), (_, _), (_, _)]) (vs := [(_, _), (_, _), (_, _)]) (C := [_, _, _, _, _]) B23 ⟨(.r rfl), (.r rfl), (.r rfl), trivial⟩ rfl ⟨_, [_], [_, _, _, _, _], rfl, rfl, rfl, rfl, ⟨_, [_], [_, _, _, _, _], rfl, rfl, rfl, rfl, ⟨_, [_], [_, _, _, _, _], rfl, rfl, rfl, rfl, rfl⟩⟩⟩) rfl <| VO.h rfl <| HO.alloc (C := #[_, _, _, _, _]) Z23 rfl fun b4 => VO.h0 <| HO.st 0 (vs := [_, _, _, _, _]) (C' := [_, _, _, _, _]) (L' := [_, _, _, _]) N23 rfl rfl rfl rfl rfl rfl rfl rfl <| VO.nil ?_)
  refine VE.seqN ?_
  refine VC.seq ?_
  refine VC.drawH [[0, 1, 2, 3], [0, 1, 2, 3], [0, 1, 2, 3]] [some 1, some 1, some 1, some 1, some 1, some 1, some 1, some 1, some 1, some 1, some 1, some 1, none, none] mixed (by kernel_rfl) rfl (LX.l (fun _ hJ => LO.fa (r := 3) F49_3 (.r rfl) rfl) rfl <| LX.l (fun _ hJ => LO.lda (vs := [_, _]) A46 (.r rfl) (fun _ hw => cells_at (hJ _ hw) 3 rfl ⟨_, rfl⟩) rfl) rfl <| LX.l (fun _ hJ => LO.call (xs := [_]) (vs := [_]) C59 ⟨(.r rfl), trivial⟩ (fun w _ => span_c _ _ w (by omega) (by omega) (by omega) (by omega))) rfl <| LX.l (fun _ hJ => LO.fa (r := 5) F49_4 (.r rfl) rfl) rfl <| LX.l (fun _ hJ => LO.lda (vs := [_, _]) A46 (.r rfl) (fun _ hw => cells_at (hJ _ hw) 3 rfl ⟨_, rfl⟩) rfl) rfl <| LX.l (fun _ hJ => LO.call (xs := [_]) (vs := [_]) C59 ⟨(.r rfl), trivial⟩ (fun w _ => span_c _ _ w (by omega) (by omega) (by omega) (by omega))) rfl <| LX.l (fun _ hJ => LO.bd (ps := [(_, _), (_, _)]) (vs := [(_, _), (_, _)]) (C := [_, _, _, _]) B32 ⟨(.r rfl), (.r rfl), trivial⟩ rfl ⟨_, [_, _], [_, _, _, _], rfl, rfl, rfl, rfl, ⟨_, [_, _], [_, _, _, _], rfl, rfl, rfl, rfl, rfl⟩⟩) rfl <| LX.l (fun _ hJ => LO.fa (r := 7) F49_5 (.r rfl) rfl) rfl <| LX.l (fun _ hJ => LO.ld O47 (.r rfl) (fun _ hw => cells_at (hJ _ hw) 3 rfl ⟨_, rfl⟩)) rfl <| LX.l (fun _ hJ => LO.cv ⟨_, Try.underlying47⟩ Try.underlying3 (.r rfl) (wi (by omega) (by omega))) rfl <| LX.l (fun _ hJ => LO.rem (.r rfl) (.r rfl) (by omega)) rfl <| LX.l (fun _ hJ => LO.bd (ps := [(_, _), (_, _)]) (vs := [(_, _), (_, _)]) (C := [_, _, _, _, _, _, _]) B34 ⟨(.r rfl), (.r rfl), trivial⟩ rfl ⟨_, [_, _, _, _], [_, _, _, _, _, _, _], rfl, rfl, rfl, rfl, ⟨_, [_], [_, _, _, _, _, _, _], rfl, rfl, rfl, rfl, rfl⟩⟩) rfl <| LX.s <| LX.s <| LX.nil) (HX.s <| HX.s <| HX.s <| HX.s <| HX.s <| HX.s <| HX.s <| HX.s <| HX.s <| HX.s <| HX.s <| HX.s <| HX.h rfl <| HO.alloc (C := #[_, _, _, _, _, _, _]) Z34 rfl fun b8 => ⟨fun _ hw => hw.sel [1, 2, 3, 4] rfl, HX.h0 <| HO.st 0 (vs := [_, _, _, _, _, _, _]) (C' := [_, _, _, _, _, _, _]) (L' := [_, _, _, _, _]) N34 rfl rfl rfl rfl rfl rfl rfl rfl <| ⟨fun _ hw => hw.sel [1, 2, 3, 4] rfl, HX.nil ?_⟩⟩)
  refine VE.seqN ?_
  refine VC.seq ?_
  refine VC.seq ?_
  refine VC.reg (VO.l (LO.as (.r rfl)) rfl <| VO.nil ?_)
  refine VE.seqN ?_
  refine VC.block ?_
  refine VC.loopK (α := Nat × (List Int) × (List Int) × (Option Addr) × Nat × (Option Addr) × Nat) 1 (fun gx => [(7, .int .i64 (gx.1 : Nat))]) [(1, _), (2, _), (3, _), (5, _), (6, _)] (fun gx => [blk b8 (.cells #[.slice gx.2.2.2.1 gx.2.1.length gx.2.2.2.2.1, .slice gx.2.2.2.2.2.1 gx.2.2.1.length gx.2.2.2.2.2.2, .int .i64 (dC d).flow.a, .int .i64 (dC d).flow.b, .int .i64 (dC d).flow.c, .int .i64 (dC d).flow.d, .int .i64 (dC d).grow] 34), own 3 1 gx.2.2.2.1 gx.2.2.2.2.1 (gx.2.1.map fun n => [.int .i64 n]), own 3 1 gx.2.2.2.2.2.1 gx.2.2.2.2.2.2 (gx.2.2.1.map fun n => [.int .i64 n])]) (fun gx => (gx.1 ≤ dN d ∧ gx.2.1.length ≤ gx.1 ∧ gx.2.2.1.length ≤ gx.1) ∧ gx.2.1 = sureTo d gx.1 ∧ gx.2.2.1 = mayTo d gx.1) (fun gx => dN d - gx.1) (0, [], [], none, 0, none, 0) (by exact ⟨⟨Nat.zero_le _, Nat.le_refl _, Nat.le_refl _⟩, rfl, rfl⟩) (.cons rfl (.cons rfl (.cons rfl (.cons rfl (.cons rfl (.cons rfl .nil)))))) (fun _ h => (((h.ownNil 3 1).ownNil 3 1)).sel [2, 0, 1, 3, 4, 5, 6] rfl) ?_
  rintro ⟨k, ls, lm, ps, cs, pm, cm⟩ ⟨hk0, hls, hlm⟩
  show VC _ _ _ _ _ ([(7, .int .i64 (k : Nat))] ++ _) ([blk b8 (.cells #[.slice ps ls.length cs, .slice pm lm.length cm, .int .i64 (dC d).flow.a, .int .i64 (dC d).flow.b, .int .i64 (dC d).flow.c, .int .i64 (dC d).flow.d, .int .i64 (dC d).grow] 34), own 3 1 ps cs (ls.map fun n => [.int .i64 n]), own 3 1 pm cm (lm.map fun n => [.int .i64 n])] ++ _) _ _
  obtain ⟨hk, hl1, hl2⟩ : k ≤ dN d ∧ ls.length ≤ k ∧ lm.length ≤ k := hk0
  have hls : ls = sureTo d k := hls
  have hlm : lm = mayTo d k := hlm
  refine VC.seq ?_
  refine VC.seq ?_
  refine VC.reg (VO.l (LO.mv (.r rfl)) rfl <| VO.l (LO.fa (r := 3) F23_3 (.r rfl) rfl) rfl <| VO.l (LO.ld O3 (.r rfl) (fun _ hw => cells_at hw 3 rfl ⟨_, rfl⟩)) rfl <| VO.l (LO.fa (r := 4) F23_4 (.r rfl) rfl) rfl <| VO.l (LO.ld O3 (.r rfl) (fun _ hw => cells_at hw 3 rfl ⟨_, rfl⟩)) rfl <| VO.l (LO.mul (.r rfl) (.r rfl) (wi (by omega) (by omega))) rfl <| VO.l (LO.lt (.r rfl) (.r rfl)) rfl <| VO.l (LO.mv (.r rfl)) rfl <| VO.lg rfl rfl (GD.t _) (fun hg => LO.mv (.r rfl)) rfl <| VO.lg rfl rfl (GD.t _) (fun hg => LO.fa (r := 2) F49_2 (.r rfl) rfl) rfl <| VO.lg rfl rfl (GD.t _) (fun hg => LO.ld O45 (.g hg rfl) (fun _ hw => cells_at hw 6 rfl ⟨_, rfl⟩)) rfl <| VO.lg rfl rfl (GD.t _) (fun hg => LO.len S45 (.g hg rfl) rfl) rfl <| VO.lg rfl rfl (GD.t _) (fun hg => LO.lt (.g hg rfl) (.g hg rfl)) rfl <| VO.l (LO.pkA (.r rfl) rfl rfl (.r rfl)) rfl <| VO.nil ?_)
  refine VE.seqN ?_
  refine VC.cond rfl (fun h1 => ?_) (fun h1 => ?_)
  ·
    have hkn : k < dN d := dN_lt (by omega) (by omega)
    refine VC.skip (VE.seqN ?_)
    refine VC.seq ?_
    refine VC.block ?_
    refine VC.seq ?_
    refine VC.seq ?_
    refine VC.reg (VO.l (LO.fa (r := 2) F49_2 (.r rfl) rfl) rfl <| VO.l (LO.ld O45 (.r rfl) (fun _ hw => cells_at hw 6 rfl ⟨_, rfl⟩)) rfl <| VO.l (LO.mv (.r rfl)) rfl <| VO.l (LO.ixs S45 N5 hp.some (.r rfl) (.r rfl) rfl (by omega)) rfl <| VO.l (LO.ld O5 (.r rfl) (fun w hw => cells_part (off := 0) ((hp.at (j := k) (by omega)) w hw) ⟨_, rfl⟩)) rfl <| VO.l (LO.rem (.r rfl) (.r rfl) (by omega)) rfl <| VO.l (LO.gt (.r rfl) (.r rfl)) rfl <| VO.nil ?_)
    refine VE.seqN ?_
    refine VC.cond rfl (fun h2 => ?_) (fun h2 => ?_)
    ·
      refine VC.reg (VO.l (LO.fa (r := 1) F34_1 (.r rfl) rfl) rfl <| VO.l (LO.ld O28 (.r rfl) (fun _ hw => cells_at hw 0 rfl ⟨_, rfl⟩)) rfl <| VO.l (LO.mv (.r rfl)) rfl <| VO.h rfl <| HO.bs (ps := [(_, _)]) (vs := [(_, _)]) (Z := [_]) (C := [_]) S28 Z3 N3 ⟨(.r rfl), trivial⟩ rfl rfl rfl rfl ⟨_, [_], [_], rfl, rfl, rfl, rfl, rfl⟩ fun b13 => VO.h rfl <| HO.appT ((k : Int)) 3 0 (fun R => [_, _, _, R, _, _, _, _]) S28 S28 I3 (.r rfl) (.r rfl) rfl rfl rfl rfl rfl rfl rfl (fun _ => rfl) rfl (by omega) fun p4 c4 => VO.l (LO.fa (r := 1) F34_1 (.r rfl) rfl) rfl <| VO.h0 <| HO.st 1 (vs := [_]) (C' := [_, _, _, _, _, _, _]) (L' := [_, _, _, _, _, _, _, _]) N28 rfl rfl rfl rfl rfl rfl rfl rfl <| VO.nil ?_)
      refine VE.seqN ?_
      refine VC.seq ?_
      refine VC.reg (VO.l (LO.fa (r := 2) F49_2 (.r rfl) rfl) rfl <| VO.l (LO.ld O45 (.r rfl) (fun _ hw => cells_at hw 7 rfl ⟨_, rfl⟩)) rfl <| VO.l (LO.mv (.r rfl)) rfl <| VO.l (LO.ixs S45 N5 hp.some (.r rfl) (.r rfl) rfl (by omega)) rfl <| VO.l (LO.ld O5 (.r rfl) (fun w hw => cells_part (off := 0) ((hp.at (j := k) (by omega)) w hw) ⟨_, rfl⟩)) rfl <| VO.l (LO.rem (.r rfl) (.r rfl) (by omega)) rfl <| VO.l (LO.eq (.r rfl) (.r rfl)) rfl <| VO.nil ?_)
      refine VE.seqN ?_
      refine VC.cond rfl (fun h3 => ?_) (fun h3 => ?_)
      ·
        refine VC.reg (VO.l (LO.fa (r := 0) F34_0 (.r rfl) rfl) rfl <| VO.l (LO.ld O28 (.r rfl) (fun _ hw => cells_at hw 1 rfl ⟨_, rfl⟩)) rfl <| VO.l (LO.mv (.r rfl)) rfl <| VO.h rfl <| HO.bs (ps := [(_, _)]) (vs := [(_, _)]) (Z := [_]) (C := [_]) S28 Z3 N3 ⟨(.r rfl), trivial⟩ rfl rfl rfl rfl ⟨_, [_], [_], rfl, rfl, rfl, rfl, rfl⟩ fun b15 => VO.h rfl <| HO.appT ((k : Int)) 3 0 (fun R => [_, _, _, R, _, _, _, _, _]) S28 S28 I3 (.r rfl) (.r rfl) rfl rfl rfl rfl rfl rfl rfl (fun _ => rfl) rfl (by omega) fun p4 c4 => VO.l (LO.fa (r := 0) F34_0 (.r rfl) rfl) rfl <| VO.h0 <| HO.st 2 (vs := [_]) (C' := [_, _, _, _, _, _, _]) (L' := [_, _, _, _, _, _, _, _, _]) N28 rfl rfl rfl rfl rfl rfl rfl rfl <| VO.nil ?_)
        refine VE.inN (VE.seqN ?_)
        refine VC.reg (VO.l (LO.mv (.r rfl)) rfl <| VO.l (LO.add (.r rfl) (.r rfl) (wi (by omega) (by omega))) rfl <| VO.l (LO.as (.r rfl)) rfl <| VO.nil ?_)
        refine VE.thenN fun a w ha hw => ⟨(k + 1, ls ++ [(k : Int)], lm ++ [(k : Int)], _, _, _, _), ⟨by simp <;> omega, by rw [hls, sureTo]; first | rw [if_pos h3] | rw [if_neg h3], by rw [hlm, mayTo]; first | rw [if_pos h2] | rw [if_neg h2]⟩, (by dsimp only; omega), ha.sub (.cons rfl (.cons rfl (.cons rfl (.cons rfl (.cons rfl (.cons rfl .nil)))))), hw.sel [2, 3, 4, 5, 6, 7, 8] rfl⟩
      ·
        refine VC.skip (VE.inN (VE.seqN ?_))
        refine VC.reg (VO.l (LO.mv (.r rfl)) rfl <| VO.l (LO.add (.r rfl) (.r rfl) (wi (by omega) (by omega))) rfl <| VO.l (LO.as (.r rfl)) rfl <| VO.nil ?_)
        refine VE.thenN fun a w ha hw => ⟨(k + 1, ls, lm ++ [(k : Int)], _, _, _, _), ⟨by simp <;> omega, by rw [hls, sureTo]; first | rw [if_pos h3] | rw [if_neg h3], by rw [hlm, mayTo]; first | rw [if_pos h2] | rw [if_neg h2]⟩, (by dsimp only; omega), ha.sub (.cons rfl (.cons rfl (.cons rfl (.cons rfl (.cons rfl (.cons rfl .nil)))))), hw.sel [1, 2, 3, 4, 5, 6, 7] rfl⟩
    ·
      refine VC.skip (VE.seqN ?_)
      refine VC.seq ?_
      refine VC.reg (VO.l (LO.fa (r := 2) F49_2 (.r rfl) rfl) rfl <| VO.l (LO.ld O45 (.r rfl) (fun _ hw => cells_at hw 6 rfl ⟨_, rfl⟩)) rfl <| VO.l (LO.mv (.r rfl)) rfl <| VO.l (LO.ixs S45 N5 hp.some (.r rfl) (.r rfl) rfl (by omega)) rfl <| VO.l (LO.ld O5 (.r rfl) (fun w hw => cells_part (off := 0) ((hp.at (j := k) (by omega)) w hw) ⟨_, rfl⟩)) rfl <| VO.l (LO.rem (.r rfl) (.r rfl) (by omega)) rfl <| VO.l (LO.eq (.r rfl) (.r rfl)) rfl <| VO.nil ?_)
      refine VE.seqN ?_
      refine VC.cond rfl (fun h3 => ?_) (fun h3 => ?_)
      ·
        refine VC.reg (VO.l (LO.fa (r := 0) F34_0 (.r rfl) rfl) rfl <| VO.l (LO.ld O28 (.r rfl) (fun _ hw => cells_at hw 0 rfl ⟨_, rfl⟩)) rfl <| VO.l (LO.mv (.r rfl)) rfl <| VO.h rfl <| HO.bs (ps := [(_, _)]) (vs := [(_, _)]) (Z := [_]) (C := [_]) S28 Z3 N3 ⟨(.r rfl), trivial⟩ rfl rfl rfl rfl ⟨_, [_], [_], rfl, rfl, rfl, rfl, rfl⟩ fun b17 => VO.h rfl <| HO.appT ((k : Int)) 2 0 (fun R => [_, _, R, _, _, _, _, _]) S28 S28 I3 (.r rfl) (.r rfl) rfl rfl rfl rfl rfl rfl rfl (fun _ => rfl) rfl (by omega) fun p4 c4 => VO.l (LO.fa (r := 0) F34_0 (.r rfl) rfl) rfl <| VO.h0 <| HO.st 1 (vs := [_]) (C' := [_, _, _, _, _, _, _]) (L' := [_, _, _, _, _, _, _, _]) N28 rfl rfl rfl rfl rfl rfl rfl rfl <| VO.nil ?_)
        refine VE.inN (VE.seqN ?_)
        refine VC.reg (VO.l (LO.mv (.r rfl)) rfl <| VO.l (LO.add (.r rfl) (.r rfl) (wi (by omega) (by omega))) rfl <| VO.l (LO.as (.r rfl)) rfl <| VO.nil ?_)
        refine VE.thenN fun a w ha hw => ⟨(k + 1, ls ++ [(k : Int)], lm, _, _, _, _), ⟨by simp <;> omega, by rw [hls, sureTo]; first | rw [if_pos h3] | rw [if_neg h3], by rw [hlm, mayTo]; first | rw [if_pos h2] | rw [if_neg h2]⟩, (by dsimp only; omega), ha.sub (.cons rfl (.cons rfl (.cons rfl (.cons rfl (.cons rfl (.cons rfl .nil)))))), hw.sel [1, 2, 3, 4, 5, 6, 7] rfl⟩
      ·
        refine VC.skip (VE.inN (VE.seqN ?_))
        refine VC.reg (VO.l (LO.mv (.r rfl)) rfl <| VO.l (LO.add (.r rfl) (.r rfl) (wi (by omega) (by omega))) rfl <| VO.l (LO.as (.r rfl)) rfl <| VO.nil ?_)
        refine VE.thenN fun a w ha hw => ⟨(k + 1, ls, lm, _, _, _, _), ⟨by simp <;> omega, by rw [hls, sureTo]; first | rw [if_pos h3] | rw [if_neg h3], by rw [hlm, mayTo]; first | rw [if_pos h2] | rw [if_neg h2]⟩, (by dsimp only; omega), ha.sub (.cons rfl (.cons rfl (.cons rfl (.cons rfl (.cons rfl (.cons rfl .nil)))))), hw⟩
  ·
    have hkn : k = dN d := dN_eq (by omega) hk (by omega)
    refine VC.exit (VE.thenX (VE.thenX (VE.inX (VE.seqN ?_))))
    refine VC.seq ?_
    refine VC.drawH [[0, 1, 2, 3, 4, 5, 6], [0, 1, 2, 3, 4, 6], [0, 1, 2, 3, 6]] [some 0, some 1, some 2, some 2, some 2, some 2, none, none, some 2] mixed (by kernel_rfl) rfl (LX.l (fun _ hJ => LO.lda (vs := [_, _, _, _, _]) A23 (.r rfl) (fun _ hw => cells_at (hJ _ hw) 3 rfl ⟨_, rfl⟩) rfl) rfl <| LX.l (fun _ hJ => LO.lda (vs := [_, _, _, _, _, _, _]) A34 (.r rfl) (fun _ hw => cells_at (hJ _ hw) 0 rfl ⟨_, rfl⟩) rfl) rfl <| LX.l (fun _ hJ => LO.fa (r := 1) F34_1 (.r rfl) rfl) rfl <| LX.l (fun _ hJ => LO.ld O28 (.r rfl) (fun _ hw => cells_at (hJ _ hw) 0 rfl ⟨_, rfl⟩)) rfl <| LX.l (fun _ hJ => LO.len S28 (.r rfl) rfl) rfl <| LX.l (fun _ hJ => LO.gt (.r rfl) (.r rfl)) rfl <| LX.s <| LX.s <| LX.l (fun _ hJ => LO.as (.r rfl)) rfl <| LX.nil) (HX.s <| HX.s <| HX.s <| HX.s <| HX.s <| HX.s <| HX.h0 <| HO.st 5 (vs := [_, _, _, _, _]) (C' := [_, _, _, _, _]) (L' := [_, _, _, _, _, _, _]) N23 rfl rfl rfl rfl rfl rfl rfl rfl <| ⟨fun _ hw => hw.sel [0, 1, 2, 3, 4, 6] rfl, HX.h0 <| HO.st 4 (vs := [_, _, _, _, _, _, _]) (C' := [_, _, _, _, _, _, _]) (L' := [_, _, _, _, _, _, _]) N34 rfl rfl rfl rfl rfl rfl rfl rfl <| ⟨fun _ hw => hw.sel [0, 1, 2, 3, 6] rfl, HX.s <| HX.nil ?_⟩⟩)
    refine VE.seqN ?_
    refine VC.ret (VE.res (vs := [_, _, _]) rfl ⟨RV.agg (vs := [_, _, _, _, _]) A23 rfl (cells_blk 5 rfl ⟨_, rfl⟩) rfl, RV.agg (vs := [_, _, _, _, _, _, _]) A34 rfl (cells_blk 4 rfl ⟨_, rfl⟩) rfl, rfl, trivial⟩ (fun w hw => ?_))
    subst hkn
    exact ⟨((ps, cs), pm, cm), trivial, by rw [hls, hlm]; rfl, by rw [hls, hlm] at hw; exact hw.sel [1, 2] rfl⟩

end Go.Proofs.Ytdcjeoamhjplmaa
