/-
  cast.Of.
-/
import Derived.Test.YtdcjeoamhjplmaaWW
import Derived.Test.YtdcjeoamhjplmaaSI
import Derived.Test.YtdcjeoamhjplmaaSY
namespace Go.Proofs.Ytdcjeoamhjplmaa
open Go.SL Go.Proofs Go.Cast
set_option linter.unusedVariables false

theorem Z113 : ZeroOf Try.prog 113 (.agg #[.slice none 0 0, .slice none 0 0, .int .i64 0, .int .i64 0, .int .i64 0, .int .i64 0, .int .i64 0, .int .i64 0]) := by unfold ZeroOf; kernel_rfl
theorem F106_0 : FieldAt Try.prog 106 0 0 := ⟨_, _, Try.underlying106, rfl, rfl, 0, by kernel_rfl⟩
theorem F106_1 : FieldAt Try.prog 106 1 1 := ⟨_, _, Try.underlying106, rfl, rfl, 0, by kernel_rfl⟩
theorem O104 : IsOne Try.prog 104 := ⟨⟨_, Try.underlying104, rfl⟩, by kernel_rfl⟩
theorem F106_2 : FieldAt Try.prog 106 2 2 := ⟨_, _, Try.underlying106, rfl, rfl, 1, by kernel_rfl⟩
theorem F106_3 : FieldAt Try.prog 106 3 4 := ⟨_, _, Try.underlying106, rfl, rfl, 1, by kernel_rfl⟩
theorem F106_4 : FieldAt Try.prog 106 4 6 := ⟨_, _, Try.underlying106, rfl, rfl, 1, by kernel_rfl⟩
theorem B113 : Builds Try.prog 113 [(0, 1), (1, 1), (2, 2), (4, 2), (6, 2)] [.slice none 0 0, .slice none 0 0, .int .i64 0, .int .i64 0, .int .i64 0, .int .i64 0, .int .i64 0, .int .i64 0] := Builds.mk fun _ => by kernel_rfl
theorem N113 : (Try.prog.info? 113).map (·.size) = some 8 := by kernel_rfl
theorem A113 : IsAgg Try.prog 113 8 := ⟨⟨_, Try.underlying113, rfl⟩, by kernel_rfl⟩
theorem C80 : IsFn Try.prog 80 := ⟨_, Try.func80, by decide, rfl⟩
theorem C79 : IsFn Try.prog 79 := ⟨_, Try.func79, by decide, rfl⟩
theorem C78 : IsFn Try.prog 78 := ⟨_, Try.func78, by decide, rfl⟩
theorem C81 : IsFn Try.prog 81 := ⟨_, Try.func81, by decide, rfl⟩


structure Six where
  a : Int
  b : Int
  c : Int
  d : Int
  e : Int
  f : Int
abbrev areaV (x y : Value) (q : Six) : Value := .agg #[x, y, .int .i64 q.a, .int .i64 q.b, .int .i64 q.c, .int .i64 q.d, .int .i64 q.e, .int .i64 q.f]
structure OfX where
  ps : Option Addr
  cs : Nat
  pm : Option Addr
  cm : Nat
  s : List Int
def ofC (g : Grid) (c : Cloud) : Cloud := if cloudE g c = 0 then c else ⟨[], [], ⟨0, 0, 0, 0⟩, 0⟩
section
variable {g : Grid} {l m s : List Int} {f : Flow} {grow : Int} {β : Bs} {L : List Res} {w' : World}
theorem of_err (h : ¬ cloudE g ⟨s, l, f, grow⟩ = 0) (hs : AscOf (memB m) s ∧ s.length ≤ m.length) (hw : St β L w') : ∃ x : OfX, (AscOf (memB m) x.s ∧ x.s.length ≤ m.length) ∧ Ending.returned (.tuple #[.agg #[.slice none 0 0, .slice none 0 0, .int .i64 0, .int .i64 0, .int .i64 0, .int .i64 0, .int .i64 0], .int .i64 (cloudE g ⟨s, l, f, grow⟩)]) = .returned (.tuple #[cloudV x.ps x.cs x.pm x.cm (ofC g ⟨x.s, l, f, grow⟩), .int .i64 (cloudE g ⟨x.s, l, f, grow⟩)]) ∧ St β [own 3 1 x.ps x.cs ((ofC g ⟨x.s, l, f, grow⟩).sure.map intC), own 3 1 x.pm x.cm ((ofC g ⟨x.s, l, f, grow⟩).may.map intC)] w' := by
  have e : ofC g ⟨s, l, f, grow⟩ = ⟨[], [], ⟨0, 0, 0, 0⟩, 0⟩ := if_neg h
  refine ⟨⟨none, 0, none, 0, s⟩, hs, ?_, ?_⟩
  · dsimp only; rw [e]; rfl
  · dsimp only; rw [e]; exact (hw.nil.ownNil 3 1).ownNil 3 1
theorem of_ok {ps pm : Option Addr} {cs cm : Nat} (h : ¬ ¬ cloudE g ⟨s, l, f, grow⟩ = 0) (hs : AscOf (memB m) s ∧ s.length ≤ m.length) (hw : St β [own 3 1 ps cs (s.map intC), own 3 1 pm cm (l.map intC)] w') : ∃ x : OfX, (AscOf (memB m) x.s ∧ x.s.length ≤ m.length) ∧ Ending.returned (.tuple #[cloudV ps cs pm cm ⟨s, l, f, grow⟩, .int .i64 0]) = .returned (.tuple #[cloudV x.ps x.cs x.pm x.cm (ofC g ⟨x.s, l, f, grow⟩), .int .i64 (cloudE g ⟨x.s, l, f, grow⟩)]) ∧ St β [own 3 1 x.ps x.cs ((ofC g ⟨x.s, l, f, grow⟩).sure.map intC), own 3 1 x.pm x.cm ((ofC g ⟨x.s, l, f, grow⟩).may.map intC)] w' := by
  have h0 := Classical.not_not.1 h
  have e : ofC g ⟨s, l, f, grow⟩ = ⟨s, l, f, grow⟩ := if_pos h0
  refine ⟨⟨ps, cs, pm, cm, s⟩, hs, ?_, ?_⟩
  · dsimp only; rw [e, h0]
  · dsimp only; rw [e]; exact hw
end

set_option maxRecDepth 20000 in
theorem area_c (pp : Option Addr) (np cp : Nat) (pk : Option Addr) (nk ck : Nat) (q : Six) (w : World) :
  Calls Try.prog 49 #[areaV (.slice pp np cp) (.slice pk nk ck) q] w fun e w' => e = .returned (areaV (.slice pp np cp) (.slice pk nk ck) q) ∧ St (bs w) [] w' := by
  refine enter (vs := [_]) (env := [(0, _)]) Try.func49 rfl rfl rfl rfl ?_
  refine VC.seq ?_
  refine VC.reg (VO.h rfl <| HO.box (C := #[_, _, _, _, _, _, _, _]) rfl rfl fun b1 => VO.h rfl <| HO.alloc (C := #[_, _, _, _, _, _, _, _]) Z113 rfl fun b2 => VO.nil ?_)
  refine VE.seqN ?_
  refine VC.seq ?_
  refine VC.reg (VO.l (LO.fa (r := 0) F106_0 (.r rfl) rfl) rfl <| VO.l (LO.ld O28 (.r rfl) (fun _ hw => cells_at hw 1 rfl ⟨_, rfl⟩)) rfl <| VO.l (LO.fa (r := 1) F106_1 (.r rfl) rfl) rfl <| VO.l (LO.ld O104 (.r rfl) (fun _ hw => cells_at hw 1 rfl ⟨_, rfl⟩)) rfl <| VO.l (LO.fa (r := 2) F106_2 (.r rfl) rfl) rfl <| VO.l (LO.lda (vs := [_, _]) A30 (.r rfl) (fun _ hw => cells_at hw 1 rfl ⟨_, rfl⟩) rfl) rfl <| VO.l (LO.fa (r := 4) F106_3 (.r rfl) rfl) rfl <| VO.l (LO.lda (vs := [_, _]) A30 (.r rfl) (fun _ hw => cells_at hw 1 rfl ⟨_, rfl⟩) rfl) rfl <| VO.l (LO.fa (r := 6) F106_4 (.r rfl) rfl) rfl <| VO.l (LO.lda (vs := [_, _]) A30 (.r rfl) (fun _ hw => cells_at hw 1 rfl ⟨_, rfl⟩) rfl) rfl <| VO.l (LO.bd (ps := [(_, _), (_, _), (_, _), (_, _), (_, _)]) (vs := [(_, _), (_, _), (_, _), (_, _), (_, _)]) (C := [_, _, _, _, _, _, _, _]) B113  ⟨(.r rfl), (.r rfl), (.r rfl), (.r rfl), (.r rfl), trivial⟩ rfl ⟨_, [_], [_, _, _, _, _, _, _, _], rfl, rfl, rfl, rfl, ⟨_, [_], [_, _, _, _, _, _, _, _], rfl, rfl, rfl, rfl, ⟨_, [_, _], [_, _, _, _, _, _, _, _], rfl, rfl, rfl, rfl, ⟨_, [_, _], [_, _, _, _, _, _, _, _], rfl, rfl, rfl, rfl, ⟨_, [_, _], [_, _, _, _, _, _, _, _], rfl, rfl, rfl, rfl, rfl⟩⟩⟩⟩⟩) rfl <| VO.h0 <| HO.st 0 (vs := [_, _, _, _, _, _, _, _]) (C' := [_, _, _, _, _, _, _, _]) (L' := [_, _]) N113 rfl rfl rfl rfl rfl rfl rfl rfl <| VO.nil ?_)
  refine VE.seqN ?_
  refine VC.ret (VE.res (vs := [_]) rfl ⟨RV.agg (vs := [_, _, _, _, _, _, _, _]) A113 rfl (cells_blk 0 rfl ⟨_, rfl⟩) rfl, trivial⟩ (fun w hw => ?_))
  exact ⟨rfl, hw.nil⟩

set_option maxRecDepth 20000 in
theorem Of_c (g : Grid) (q : Six) (l : List Int) (pp : Option Addr) (cp : Nat) (rs : List IRow) (pk : Option Addr) (ck : Nat) (f : Flow) (grow : Int) (w : World) (hln : l.length ≤ 200) (hn : rs.length ≤ 50) (hb : ∀ x ∈ rs, x.l.length ≤ 50) (hr : ∀ n, n ∈ catI rs → -9223372036854775808 ≤ n ∧ n ≤ 9223372036854775807) (hl : Ints w pp l) (hk : IRows w pk rs) :
  Calls Try.prog 47 #[gridV g, areaV (.slice pp l.length cp) (.slice pk rs.length ck) q, flowV f, .int .i64 grow] w fun e w' => ∃ x : OfX, (AscOf (memB (catI rs)) x.s ∧ x.s.length ≤ (catI rs).length) ∧ e = .returned (.tuple #[cloudV x.ps x.cs x.pm x.cm (ofC g ⟨x.s, l, f, grow⟩), .int .i64 (cloudE g ⟨x.s, l, f, grow⟩)]) ∧ St (bs w) [own 3 1 x.ps x.cs ((ofC g ⟨x.s, l, f, grow⟩).sure.map intC), own 3 1 x.pm x.cm ((ofC g ⟨x.s, l, f, grow⟩).may.map intC)] w' := by
  have hcl := catI_len hb
  refine enter (vs := [_, _, _, _]) (env := [(0, _), (1, _), (2, _), (3, _)]) Try.func47 rfl rfl rfl rfl ?_
  refine VC.seq ?_
  refine VC.reg (VO.h rfl <| HO.box (C := #[_, _, _, _, _]) rfl rfl fun b1 => VO.h rfl <| HO.box (C := #[_, _, _, _, _, _, _, _]) rfl rfl fun b2 => VO.h rfl <| HO.box (C := #[_, _, _, _]) rfl rfl fun b3 => VO.h rfl <| HO.alloc (C := #[_, _, _, _, _, _, _]) Z34 rfl fun b4 => VO.l (LO.as (.r rfl)) rfl <| VO.nil ?_)
  refine VE.seqN ?_
  refine VC.seq ?_
  refine VC.drawB [⟨12, 10, fun b => .pointer (some ⟨b, 0, none⟩), 34, #[.slice none 0 0, .slice none 0 0, .int .i64 0, .int .i64 0, .int .i64 0, .int .i64 0, .int .i64 0]⟩] [[0, 1, 2, 3], [0, 1, 2, 3], [0, 1, 2, 3], [0, 1, 2, 3], [0, 1, 2, 3], [0, 1, 2, 3], [0, 1, 2, 3], [0, 1, 2, 3], [0, 1, 2, 3]] [some 7, some 7, none, none, none, none, some 7, some 7, none, some 7, some 7, none, none, none] mixed (by kernel_rfl) rfl (LX.l (fun _ hJ => LO.fa (r := 1) F106_1 (.r rfl) rfl) rfl <| LX.l (fun _ hJ => LO.ld O104 (.r rfl) (fun _ hw => cells_at (hJ _ hw) 2 rfl ⟨_, rfl⟩)) rfl <| LX.s <| LX.s <| LX.s <| LX.s <| LX.l (fun _ hJ => LO.fa (r := 0) F106_0 (.r rfl) rfl) rfl <| LX.l (fun _ hJ => LO.ld O28 (.r rfl) (fun _ hw => cells_at (hJ _ hw) 2 rfl ⟨_, rfl⟩)) rfl <| LX.s <| LX.l (fun _ hJ => LO.lda (vs := [_, _, _, _]) A32 (.r rfl) (fun _ hw => cells_at (hJ _ hw) 1 rfl ⟨_, rfl⟩) rfl) rfl <| LX.l (fun _ hJ => LO.mv (.r rfl)) rfl <| LX.s <| LX.s <| LX.s <| LX.nil) (⟨⟨rfl, _, rfl, FO.alloc Z34 rfl⟩, trivial⟩) (HY.s <| HY.s <| HY.h rfl rfl fun X => HO.callx (xs := [_]) (vs := [_]) C80 ⟨(.r rfl), trivial⟩ (fun w hw => Concat_c rs pk ck w hn hb (hk.keep w hw)) fun q2 _ => ⟨[_, _, _, _, _], rfl, selJ (L1 := [_, _, _, _]) [1, 2, 3, 4] rfl rfl rfl, HY.h rfl rfl fun X => HO.callx (xs := [_]) (vs := [_]) C76 ⟨(.r rfl), trivial⟩ (fun w hw => set_c _ (catI rs) _ w (by omega) (own_rows hw 0 rfl)) fun b3 _ => ⟨[_, _, _, _, _, _], rfl, selJ (L1 := [_, _, _, _]) [2, 3, 4, 5] rfl rfl rfl, HY.h rfl rfl fun X => HO.callx (xs := [_]) (vs := [_]) C79 ⟨(.r rfl), trivial⟩ (fun w _ => Keys_h _ w) fun k4 _ => ⟨[_, _, _, _, _, _, _], rfl, selJ (L1 := [_, _, _, _]) [3, 4, 5, 6] rfl rfl rfl, HY.h rfl rfl fun X => HO.callx (xs := [_]) (vs := [_]) C78 ⟨(.r rfl), trivial⟩ (fun w hw => Sorted_h k4 b3 (catI rs) w (hw.inv 0 _ rfl) (hw.inv 1 _ rfl) hr (by omega)) fun s5 hs5 => ⟨[_, _, _, _, _, _, _, _], rfl, selJ (L1 := [_, _, _, _]) [4, 5, 6, 7] rfl rfl rfl, HY.s <| HY.s <| HY.h rfl rfl fun X => HO.callx (xs := [_]) (vs := [_]) C81 ⟨(.r rfl), trivial⟩ (fun w hw => Clone_h pp l cp w (by omega) (hl.keep w hw)) fun m8 _ => ⟨[_, _, _, _, _, _, _, _, _], rfl, selJ (L1 := [_, _, _, _]) [5, 6, 7, 8] rfl rfl rfl, HY.s <| HY.s <| HY.h rfl rfl fun X => HO.lo (LO.bd (ps := [(_, _), (_, _), (_, _), (_, _)]) (vs := [(_, _), (_, _), (_, _), (_, _)]) (C := [_, _, _, _, _, _, _]) B34  ⟨(.r rfl), (.r rfl), (.r rfl), (.r rfl), trivial⟩ rfl ⟨_, [_], [_, _, _, _, _, _, _], rfl, rfl, rfl, rfl, ⟨_, [_], [_, _, _, _, _, _, _], rfl, rfl, rfl, rfl, ⟨_, [_, _, _, _], [_, _, _, _, _, _, _], rfl, rfl, rfl, rfl, ⟨_, [_], [_, _, _, _, _, _, _], rfl, rfl, rfl, rfl, rfl⟩⟩⟩⟩) <| ⟨[_, _, _, _, _, _, _, _, _], rfl, selJ (L1 := [_, _, _, _]) [5, 6, 7, 8] rfl rfl rfl, HY.f rfl fun b17 => ⟨selJ (L1 := [_, _, _, _]) [6, 7, 8, 9] rfl rfl rfl, HY.h0 rfl fun X => HO.st 0 (vs := [_, _, _, _, _, _, _]) (C' := [_, _, _, _, _, _, _]) (L' := [_, _, _, _, _, _, _, _, _, _] ++ X) N34 rfl rfl rfl rfl rfl rfl rfl rfl <| ⟨[_, _, _, _, _, _, _, _, _, _], rfl, selJ (L1 := [_, _, _, _]) [6, 7, 8, 9] rfl rfl rfl, HY.nil ?_⟩⟩⟩⟩⟩⟩⟩⟩)
  refine VE.seqN ?_
  refine VC.seq ?_
  refine VC.seq ?_
  refine VC.reg (VO.l (LO.lda (vs := [_, _, _, _, _]) A23 (.r rfl) (fun _ hw => cells_at hw 9 rfl ⟨_, rfl⟩) rfl) rfl <| VO.l (LO.lda (vs := [_, _, _, _, _, _, _]) A34 (.r rfl) (fun _ hw => cells_at hw 0 rfl ⟨_, rfl⟩) rfl) rfl <| VO.l (LO.call (xs := [_, _]) (vs := [_, _]) C45 ⟨(.r rfl), (.r rfl), trivial⟩ (fun w hw => checkCloud_c g ⟨s5.2.2, l, f, grow⟩ _ _ _ _ w (show s5.2.2.length < _ by omega) (show l.length < _ by omega) (own_rows hw 2 rfl) (own_rows hw 1 rfl))) rfl <| VO.l (LO.as (.r rfl)) rfl <| VO.nil ?_)
  refine VE.seqN ?_
  refine VC.seq ?_
  refine VC.reg (VO.l (LO.mv (.r rfl)) rfl <| VO.l (LO.ne (.r rfl) (.r rfl)) rfl <| VO.nil ?_)
  refine VE.seqN ?_
  refine VC.cond rfl (fun h28 => ?_) (fun h28 => ?_)
  ·
    refine VC.seq ?_
    refine VC.reg (VO.l (LO.bd (ps := []) (vs := []) (C := [_, _, _, _, _, _, _]) B34  trivial rfl rfl) rfl <| VO.l (LO.mv (.r rfl)) rfl <| VO.h0 <| HO.st 6 (vs := [_, _, _, _, _, _, _]) (C' := [_, _, _, _, _, _, _]) (L' := [_, _, _, _, _, _, _, _, _, _]) N34 rfl rfl rfl rfl rfl rfl rfl rfl <| VO.l (LO.as (.r rfl)) rfl <| VO.nil ?_)
    refine VE.seqN ?_
    refine VC.ret (VE.thenR (VE.res (vs := [_, _]) rfl ⟨RV.agg (vs := [_, _, _, _, _, _, _]) A34 rfl (cells_blk 6 rfl ⟨_, rfl⟩) rfl, rfl, trivial⟩ (fun w hw => ?_)))
    first | exact of_err h28 hs5 hw | exact of_ok h28 hs5 (hw.sel [2, 1] rfl)
  ·
    refine VC.skip (VE.seqN ?_)
    refine VC.seq ?_
    refine VC.reg (VO.l (LO.lda (vs := [_, _, _, _, _, _, _]) A34 (.r rfl) (fun _ hw => cells_at hw 0 rfl ⟨_, rfl⟩) rfl) rfl <| VO.h0 <| HO.st 6 (vs := [_, _, _, _, _, _, _]) (C' := [_, _, _, _, _, _, _]) (L' := [_, _, _, _, _, _, _, _, _, _]) N34 rfl rfl rfl rfl rfl rfl rfl rfl <| VO.l (LO.as (.r rfl)) rfl <| VO.nil ?_)
    refine VE.seqN ?_
    refine VC.ret (VE.res (vs := [_, _]) rfl ⟨RV.agg (vs := [_, _, _, _, _, _, _]) A34 rfl (cells_blk 6 rfl ⟨_, rfl⟩) rfl, rfl, trivial⟩ (fun w hw => ?_))
    first | exact of_err h28 hs5 hw | exact of_ok h28 hs5 (hw.sel [2, 1] rfl)

end Go.Proofs.Ytdcjeoamhjplmaa
