/-
  The document's Of.
-/
import Derived.Test.YtdcjeoamhjplmaaWX
namespace Go.Proofs.Ytdcjeoamhjplmaa
open Go.SL Go.Proofs Go.Cast
set_option linter.unusedVariables false

theorem F113_1 : FieldAt Try.prog 113 1 1 := ⟨_, _, Try.underlying113, rfl, rfl, 0, by kernel_rfl⟩
theorem C82 : IsFn Try.prog 82 := ⟨_, Try.func82, by decide, rfl⟩
theorem F113_0 : FieldAt Try.prog 113 0 0 := ⟨_, _, Try.underlying113, rfl, rfl, 0, by kernel_rfl⟩


set_option maxRecDepth 20000 in
theorem rOf_c (g : Grid) (q : Six) (l : List Int) (pp : Option Addr) (cp : Nat) (rs : List IRow) (pk : Option Addr) (ck : Nat) (f : Flow) (grow : Int) (w : World) (hln : l.length ≤ 200) (hn : rs.length ≤ 50) (hb : ∀ x ∈ rs, x.l.length ≤ 50) (hr : ∀ n, n ∈ catI rs → -9223372036854775808 ≤ n ∧ n ≤ 9223372036854775807) (hl : Ints w pp l) (hk : IRows w pk rs) :
  Calls Try.prog 48 #[gridV g, areaV (.slice pp l.length cp) (.slice pk rs.length ck) q, flowV f, .int .i64 grow] w fun e w' => ∃ x : OfX, (AscOf (memB (catI rs)) x.s ∧ x.s.length ≤ (catI rs).length) ∧ e = .returned (.tuple #[cloudV x.ps x.cs x.pm x.cm (ofC g ⟨x.s, l, f, grow⟩), .int .i64 (cloudE g ⟨x.s, l, f, grow⟩)]) ∧ St (bs w) [own 3 1 x.ps x.cs ((ofC g ⟨x.s, l, f, grow⟩).sure.map intC), own 3 1 x.pm x.cm ((ofC g ⟨x.s, l, f, grow⟩).may.map intC)] w' := by
  have hcl := catI_len hb
  refine enter (vs := [_, _, _, _]) (env := [(0, _), (1, _), (2, _), (3, _)]) Try.func48 rfl rfl rfl rfl ?_
  refine VC.seq ?_
  refine VC.reg (VO.h rfl <| HO.box (C := #[_, _, _, _, _]) rfl rfl fun b1 => VO.h rfl <| HO.box (C := #[_, _, _, _, _, _, _, _]) rfl rfl fun b2 => VO.h rfl <| HO.box (C := #[_, _, _, _]) rfl rfl fun b3 => VO.h rfl <| HO.alloc (C := #[_, _, _, _, _, _, _]) Z37 rfl fun b4 => VO.l (LO.as (.r rfl)) rfl <| VO.nil ?_)
  refine VE.seqN ?_
  refine VC.seq ?_
  refine VC.drawB [⟨3, 15, fun b => .slice (some ⟨b, 0, none⟩) 0 0, 3, #[]⟩, ⟨10, 10, fun b => .pointer (some ⟨b, 0, none⟩), 37, #[.slice none 0 0, .slice none 0 0, .int .i64 0, .int .i64 0, .int .i64 0, .int .i64 0, .int .i64 0]⟩] [[0, 1, 2, 3], [0, 1, 2, 3], [0, 1, 2, 3], [0, 1, 2, 3], [0, 1, 2, 3], [0, 1, 2, 3], [0, 1, 2, 3]] [some 5, some 5, none, none, some 5, some 5, none, some 5, some 5, none, none, none] mixed (by kernel_rfl) rfl (LX.l (fun _ hJ => LO.fa (r := 1) F113_1 (.r rfl) rfl) rfl <| LX.l (fun _ hJ => LO.ld O104 (.r rfl) (fun _ hw => cells_at (hJ _ hw) 2 rfl ⟨_, rfl⟩)) rfl <| LX.s <| LX.s <| LX.l (fun _ hJ => LO.fa (r := 0) F113_0 (.r rfl) rfl) rfl <| LX.l (fun _ hJ => LO.ld O28 (.r rfl) (fun _ hw => cells_at (hJ _ hw) 2 rfl ⟨_, rfl⟩)) rfl <| LX.s <| LX.l (fun _ hJ => LO.lda (vs := [_, _, _, _]) A35 (.r rfl) (fun _ hw => cells_at (hJ _ hw) 1 rfl ⟨_, rfl⟩) rfl) rfl <| LX.l (fun _ hJ => LO.mv (.r rfl)) rfl <| LX.s <| LX.s <| LX.s <| LX.nil) (⟨⟨rfl, _, rfl, FO.bs0 S28 N3⟩, ⟨⟨rfl, _, rfl, FO.alloc Z37 rfl⟩, trivial⟩⟩) (HY.s <| HY.s <| HY.h rfl rfl fun X => HO.callx (xs := [_]) (vs := [_]) C82 ⟨(.r rfl), trivial⟩ (fun w hw => rsorted_c rs pk ck w hn hb (hk.keep w hw)) fun s5 hs5 => ⟨[_, _, _, _, _], rfl, selJ (L1 := [_, _, _, _]) [1, 2, 3, 4] rfl rfl rfl, HY.f rfl fun b10 => ⟨selJ (L1 := [_, _, _, _]) [2, 3, 4, 5] rfl rfl rfl, HY.s <| HY.s <| HY.h rfl rfl fun X => HO.pre (fun w hw => hw.blkOwn 0 1 rfl) <| HO.appN0 (f := intC) (m := l) 0 (fun R => [R, _, _, _, _, _] ++ X) S28 S28 I3 (.r rfl) (.r rfl) rfl (fun w hw => hl.keep w hw) (fun _ => rfl) (fun _ => rfl) rfl rfl (fun _ => rfl) rfl (by omega) fun p6 c6 _ => ⟨[_, _, _, _, _, _], rfl, selJ (L1 := [_, _, _, _]) [2, 3, 4, 5] rfl rfl rfl, HY.s <| HY.s <| HY.h rfl rfl fun X => HO.lo (LO.bd (ps := [(_, _), (_, _), (_, _), (_, _)]) (vs := [(_, _), (_, _), (_, _), (_, _)]) (C := [_, _, _, _, _, _, _]) B37  ⟨(.r rfl), (.r rfl), (.r rfl), (.r rfl), trivial⟩ rfl ⟨_, [_], [_, _, _, _, _, _, _], rfl, rfl, rfl, rfl, ⟨_, [_], [_, _, _, _, _, _, _], rfl, rfl, rfl, rfl, ⟨_, [_, _, _, _], [_, _, _, _, _, _, _], rfl, rfl, rfl, rfl, ⟨_, [_], [_, _, _, _, _, _, _], rfl, rfl, rfl, rfl, rfl⟩⟩⟩⟩) <| ⟨[_, _, _, _, _, _], rfl, selJ (L1 := [_, _, _, _]) [2, 3, 4, 5] rfl rfl rfl, HY.f rfl fun b11 => ⟨selJ (L1 := [_, _, _, _]) [3, 4, 5, 6] rfl rfl rfl, HY.h0 rfl fun X => HO.st 0 (vs := [_, _, _, _, _, _, _]) (C' := [_, _, _, _, _, _, _]) (L' := [_, _, _, _, _, _, _] ++ X) N37 rfl rfl rfl rfl rfl rfl rfl rfl <| ⟨[_, _, _, _, _, _, _], rfl, selJ (L1 := [_, _, _, _]) [3, 4, 5, 6] rfl rfl rfl, HY.nil ?_⟩⟩⟩⟩⟩⟩)
  refine VE.seqN ?_
  refine VC.seq ?_
  refine VC.reg (VO.l (LO.lda (vs := [_, _, _, _, _]) A23 (.r rfl) (fun _ hw => cells_at hw 6 rfl ⟨_, rfl⟩) rfl) rfl <| VO.l (LO.lda (vs := [_, _, _, _, _, _, _]) A37 (.r rfl) (fun _ hw => cells_at hw 0 rfl ⟨_, rfl⟩) rfl) rfl <| VO.l (LO.call (xs := [_, _]) (vs := [_, _]) C46 ⟨(.r rfl), (.r rfl), trivial⟩ (fun w hw => rCheckCloud_c g ⟨s5.2.2, l, f, grow⟩ _ _ _ _ w (show s5.2.2.length < _ by omega) (show l.length < _ by omega) (own_rows hw 2 rfl) (own_rows hw 1 rfl))) rfl <| VO.l (LO.as (.r rfl)) rfl <| VO.nil ?_)
  refine VE.seqN ?_
  refine VC.seq ?_
  refine VC.seq ?_
  refine VC.reg (VO.l (LO.mv (.r rfl)) rfl <| VO.l (LO.ne (.r rfl) (.r rfl)) rfl <| VO.nil ?_)
  refine VE.seqN ?_
  refine VC.cond rfl (fun h26 => ?_) (fun h26 => ?_)
  ·
    refine VC.seq ?_
    refine VC.reg (VO.l (LO.bd (ps := []) (vs := []) (C := [_, _, _, _, _, _, _]) B37  trivial rfl rfl) rfl <| VO.l (LO.mv (.r rfl)) rfl <| VO.h0 <| HO.st 3 (vs := [_, _, _, _, _, _, _]) (C' := [_, _, _, _, _, _, _]) (L' := [_, _, _, _, _, _, _]) N37 rfl rfl rfl rfl rfl rfl rfl rfl <| VO.l (LO.as (.r rfl)) rfl <| VO.nil ?_)
    refine VE.seqN ?_
    refine VC.ret (VE.thenR (VE.res (vs := [_, _]) rfl ⟨RV.agg (vs := [_, _, _, _, _, _, _]) A37 rfl (cells_blk 3 rfl ⟨_, rfl⟩) rfl, rfl, trivial⟩ (fun w hw => ?_)))
    first | exact of_err h26 hs5 hw | exact of_ok h26 hs5 (hw.sel [2, 1] rfl)
  ·
    refine VC.skip (VE.seqN ?_)
    refine VC.seq ?_
    refine VC.reg (VO.l (LO.lda (vs := [_, _, _, _, _, _, _]) A37 (.r rfl) (fun _ hw => cells_at hw 0 rfl ⟨_, rfl⟩) rfl) rfl <| VO.h0 <| HO.st 3 (vs := [_, _, _, _, _, _, _]) (C' := [_, _, _, _, _, _, _]) (L' := [_, _, _, _, _, _, _]) N37 rfl rfl rfl rfl rfl rfl rfl rfl <| VO.l (LO.as (.r rfl)) rfl <| VO.nil ?_)
    refine VE.seqN ?_
    refine VC.ret (VE.res (vs := [_, _]) rfl ⟨RV.agg (vs := [_, _, _, _, _, _, _]) A37 rfl (cells_blk 3 rfl ⟨_, rfl⟩) rfl, rfl, trivial⟩ (fun w hw => ?_))
    first | exact of_err h26 hs5 hw | exact of_ok h26 hs5 (hw.sel [2, 1] rfl)

end Go.Proofs.Ytdcjeoamhjplmaa
