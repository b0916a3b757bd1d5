/-
  Flows as stated.
-/
import Derived.Test.YtdcjeoamhjplmaaWQ
import Derived.Test.YtdcjeoamhjplmaaSE
namespace Go.Proofs.Ytdcjeoamhjplmaa
open Go.SL Go.Proofs Go.Cast
set_option linter.unusedVariables false

theorem E35 : Flat Try.prog 35 4 := ⟨⟨_, Try.underlying35⟩, by kernel_rfl, by kernel_rfl⟩
theorem C32 : IsFn Try.prog 32 := ⟨_, Try.func32, by decide, rfl⟩
theorem I35 : EInfo Try.prog 35 4 32 (.agg #[.int .i64 0, .int .i64 0, .int .i64 0, .int .i64 0]) := ⟨by kernel_rfl, by kernel_rfl, by unfold ZeroOf; kernel_rfl, rfl, by decide⟩
theorem C36 : IsFn Try.prog 36 := ⟨_, Try.func36, by decide, rfl⟩
theorem C37 : IsFn Try.prog 37 := ⟨_, Try.func37, by decide, rfl⟩
theorem C38 : IsFn Try.prog 38 := ⟨_, Try.func38, by decide, rfl⟩
theorem C39 : IsFn Try.prog 39 := ⟨_, Try.func39, by decide, rfl⟩
theorem AR91 : Arr2 Try.prog 91 3 := ⟨Try.underlying91, O3, Option.isSome_iff_exists.1 (by kernel_rfl), by kernel_rfl, by kernel_rfl, Try.underlying3⟩
theorem C40 : IsFn Try.prog 40 := ⟨_, Try.func40, by decide, rfl⟩
theorem C41 : IsFn Try.prog 41 := ⟨_, Try.func41, by decide, rfl⟩


def fI (f : Flow) : List Int := [f.a, f.b, f.c, f.d]
theorem take_f {l m : List Flow} {i : Nat} (h : i < l.length) (hm : m = l.take i) : m ++ [l.getD i zF] = l.take (i + 1) := by
  have e : l.getD i zF = l[i] := by rw [List.getD_eq_getElem?_getD, List.getElem?_eq_getElem h]; rfl
  rw [List.take_add_one, hm, e, List.getElem?_eq_getElem h]; rfl

set_option maxRecDepth 20000 in
theorem CastFlows_c (a1 a2 e1 e2 sec sl : Int) (p : Option Addr) (l : List Flow) (c : Nat) (ch : Int) (w : World) (hl : Flows w p l) (hc : l.length ≤ c) :
  Calls Try.prog 10 #[.agg #[.int .i64 a1, .int .i64 a2], .agg #[.int .i64 e1, .int .i64 e2], .int .i64 sec, .int .i64 sl, .slice p l.length c, .int .i64 ch] w fun e w' => e = .returned (.bool true) ∧ St (bs w) [] w' := by
  refine enter (vs := [_, _, _, _, _, _]) (env := [(0, _), (1, _), (2, _), (3, _), (4, _), (5, _)]) Try.func10 rfl rfl rfl rfl ?_
  refine VC.seq ?_
  refine VC.reg (VO.h rfl <| HO.box (C := #[_, _]) rfl rfl fun b1 => VO.h rfl <| HO.box (C := #[_, _]) rfl rfl fun b2 => VO.l (LO.as (.r rfl)) rfl <| VO.nil ?_)
  refine VE.seqN ?_
  refine VC.seq ?_
  refine VC.seq ?_
  refine VC.reg (VO.l (LO.mv (.r rfl)) rfl <| VO.l (LO.len S80 (.r rfl) rfl) rfl <| VO.l (LO.gt (.r rfl) (.r rfl)) rfl <| VO.l (LO.mv (.r rfl)) rfl <| VO.lg rfl rfl (GD.t _) (fun hg => LO.mv (.r rfl)) rfl <| VO.lg rfl rfl (GD.t _) (fun hg => LO.len S80 (.g hg rfl) rfl) rfl <| VO.lg rfl rfl (GD.t _) (fun hg => LO.le (.g hg rfl) (.r rfl)) rfl <| VO.l (LO.pkA (.r rfl) rfl rfl (.r rfl)) rfl <| VO.l (LO.mv (.r rfl)) rfl <| VO.lg rfl rfl (GD.f _) (fun hg => LO.mv (.r rfl)) rfl <| VO.lg rfl rfl (GD.f _) (fun hg => LO.len S80 (.g hg rfl) rfl) rfl <| VO.lg rfl rfl (GD.f _) (fun hg => LO.gt (.g hg rfl) (.r rfl)) rfl <| VO.l (LO.pkO (.r rfl) (.r rfl) rfl rfl) rfl <| VO.nil ?_)
  refine VE.seqN ?_
  refine VC.cond rfl (fun h1 => ?_) (fun h1 => ?_)
  ·
    refine VC.seq ?_
    refine VC.reg (VO.l (LO.call (xs := []) (vs := []) C14 trivial (fun w _ => works_c w)) rfl <| VO.l (LO.as (.r rfl)) rfl <| VO.nil ?_)
    refine VE.seqN ?_
    refine VC.ret (VE.thenR (VE.res (vs := [_]) rfl ⟨rfl, trivial⟩ (fun w hw => ?_)))
    first | exact ⟨rfl, hw.nil⟩ | exact ⟨by simp [resV], hw.nil⟩
  ·
    refine VC.skip (VE.seqN ?_)
    refine VC.seq ?_
    refine VC.reg (VO.l (LO.lda (vs := [_, _]) A30 (.r rfl) (fun _ hw => cells_at hw 1 rfl ⟨_, rfl⟩) rfl) rfl <| VO.l (LO.lda (vs := [_, _]) A30 (.r rfl) (fun _ hw => cells_at hw 0 rfl ⟨_, rfl⟩) rfl) rfl <| VO.l (LO.mv (.r rfl)) rfl <| VO.l (LO.mv (.r rfl)) rfl <| VO.l (LO.call (xs := [_, _, _, _]) (vs := [_, _, _, _]) C31 ⟨(.r rfl), (.r rfl), (.r rfl), (.r rfl), trivial⟩ (fun w _ => Fit_c a1 a2 e1 e2 sec sl w)) rfl <| VO.l (LO.mv (.r rfl)) rfl <| VO.l (LO.ex (.r rfl) rfl) rfl <| VO.l (LO.ex (.r rfl) rfl) rfl <| VO.h rfl <| HO.alloc (C := #[_, _, _, _]) Z32 rfl fun b3 => VO.h0 <| HO.st 0 (vs := [_, _, _, _]) (C' := [_, _, _, _]) (L' := [_, _, _]) N32 rfl rfl rfl rfl rfl rfl rfl rfl <| VO.l (LO.as (.r rfl)) rfl <| VO.nil ?_)
    refine VE.seqN ?_
    refine VC.seq ?_
    refine VC.reg (VO.l (LO.lda (vs := [_, _]) A30 (.r rfl) (fun _ hw => cells_at hw 2 rfl ⟨_, rfl⟩) rfl) rfl <| VO.l (LO.lda (vs := [_, _]) A30 (.r rfl) (fun _ hw => cells_at hw 1 rfl ⟨_, rfl⟩) rfl) rfl <| VO.l (LO.mv (.r rfl)) rfl <| VO.l (LO.mv (.r rfl)) rfl <| VO.l (LO.call (xs := [_, _, _, _]) (vs := [_, _, _, _]) C32 ⟨(.r rfl), (.r rfl), (.r rfl), (.r rfl), trivial⟩ (fun w _ => rFit_c a1 a2 e1 e2 sec sl w)) rfl <| VO.l (LO.mv (.r rfl)) rfl <| VO.l (LO.ex (.r rfl) rfl) rfl <| VO.l (LO.ex (.r rfl) rfl) rfl <| VO.h rfl <| HO.alloc (C := #[_, _, _, _]) Z35 rfl fun b5 => VO.h0 <| HO.st 0 (vs := [_, _, _, _]) (C' := [_, _, _, _]) (L' := [_, _, _, _]) N35 rfl rfl rfl rfl rfl rfl rfl rfl <| VO.l (LO.as (.r rfl)) rfl <| VO.nil ?_)
    refine VE.seqN ?_
    refine VC.seq ?_
    refine VC.seq ?_
    refine VC.draw mixed (LL.l (LO.lda (vs := [_, _, _, _]) A32 (.r rfl) (fun _ hw => cells_at hw 1 rfl ⟨_, rfl⟩) rfl) rfl <| LL.l (LO.call (xs := [_]) (vs := [_]) C33 ⟨(.r rfl), trivial⟩ (fun w _ => flow_c ⟨_, _, _, _⟩ w)) rfl <| LL.l (LO.lda (vs := [_, _, _, _]) A35 (.r rfl) (fun _ hw => cells_at hw 0 rfl ⟨_, rfl⟩) rfl) rfl <| LL.l (LO.nes («as» := fI (fitR a1 a2 e1 e2 sec sl)) (bs := fI (fitR a1 a2 e1 e2 sec sl)) E35 (.r rfl) (.r rfl) rfl rfl) rfl <| LL.l (LO.mv (.r rfl)) rfl <| LL.lg rfl rfl (GD.f _) (fun hg => LO.mv (.r rfl)) rfl <| LL.lg rfl rfl (GD.f _) (fun hg => LO.mv (.r rfl)) rfl <| LL.lg rfl rfl (GD.f _) (fun hg => LO.ne (.g hg rfl) (.g hg rfl)) rfl <| LL.l (LO.pkO (.r rfl) (.r rfl) rfl rfl) rfl <| LL.nil) (by kernel_rfl) ?_
    refine VE.seqN ?_
    refine VC.weak (env' := [(2, _), (4, _), (5, _), (13, _), (15, _), (59, _)]) (.cons rfl (.cons rfl (.cons rfl (.cons rfl (.cons rfl (.cons rfl .nil)))))) (fun _ h => h) ?_
    refine VC.cond rfl (fun h2 => ?_) (fun h2 => ?_)
    ·
      (exfalso; (rcases h2 with q | q <;> exact q rfl))
    ·
      refine VC.skip (VE.seqN ?_)
      refine VC.seq ?_
      refine VC.reg (VO.l (LO.as (.r rfl)) rfl <| VO.nil ?_)
      refine VE.seqN ?_
      refine VC.seq ?_
      refine VC.seq ?_
      refine VC.reg (VO.l (LO.as (.r rfl)) rfl <| VO.nil ?_)
      refine VE.seqN ?_
      refine VC.block ?_
      refine VC.perm [1, 0, 2, 3] rfl ?_
      refine VC.loopK (α := Nat × (List Flow) × (Option Addr) × Nat × Flow × Flow) 2 (fun gx => [(17, .slice gx.2.2.1 gx.2.1.length gx.2.2.2.1), (18, .int .i64 (gx.1 : Nat))]) [(2, _), (4, _), (5, _), (13, _), (15, _)] (fun gx => [own 35 4 gx.2.2.1 gx.2.2.2.1 (gx.2.1.map Flow.cells), blk b3 (.cells #[.int .i64 gx.2.2.2.2.1.a, .int .i64 gx.2.2.2.2.1.b, .int .i64 gx.2.2.2.2.1.c, .int .i64 gx.2.2.2.2.1.d] 32), blk b5 (.cells #[.int .i64 gx.2.2.2.2.2.a, .int .i64 gx.2.2.2.2.2.b, .int .i64 gx.2.2.2.2.2.c, .int .i64 gx.2.2.2.2.2.d] 35)]) (fun gx => gx.1 ≤ l.length ∧ gx.2.1 = l.take gx.1) (fun gx => l.length - gx.1) (0, [], none, 0, fitR a1 a2 e1 e2 sec sl, fitR a1 a2 e1 e2 sec sl) (by exact ⟨Nat.zero_le _, rfl⟩) (.cons rfl (.cons rfl (.cons rfl (.cons rfl (.cons rfl (.cons rfl (.cons rfl .nil))))))) (fun _ h => (h.ownNil 35 4)) ?_
      rintro ⟨i, m, pm, cm, u, v⟩ ⟨hi, hm⟩
      show VC _ _ _ _ _ ([(17, .slice pm m.length cm), (18, .int .i64 (i : Nat))] ++ _) ([own 35 4 pm cm (m.map Flow.cells), blk b3 (.cells #[.int .i64 u.a, .int .i64 u.b, .int .i64 u.c, .int .i64 u.d] 32), blk b5 (.cells #[.int .i64 v.a, .int .i64 v.b, .int .i64 v.c, .int .i64 v.d] 35)] ++ _) _ _
      have hi : i ≤ l.length := hi
      have hm : m = l.take i := hm
      have hmn : m.length = i := by rw [hm, List.length_take]; omega
      refine VC.seq ?_
      refine VC.seq ?_
      refine VC.reg (VO.l (LO.mv (.r rfl)) rfl <| VO.l (LO.mv (.r rfl)) rfl <| VO.l (LO.len S80 (.r rfl) rfl) rfl <| VO.l (LO.lt (.r rfl) (.r rfl)) rfl <| VO.nil ?_)
      refine VE.seqN ?_
      refine VC.cond rfl (fun h3 => ?_) (fun h3 => ?_)
      ·
        refine VC.skip (VE.seqN ?_)
        refine VC.seq ?_
        refine VC.block ?_
        refine VC.seq ?_
        refine VC.reg (VO.l (LO.mv (.r rfl)) rfl <| VO.l (LO.mv (.r rfl)) rfl <| VO.l (LO.mv (.r rfl)) rfl <| VO.l (LO.ixs S80 N32 hl.some (.r rfl) (.r rfl) rfl (by omega)) rfl <| VO.l (LO.lda (vs := [_, _, _, _]) A32 (.r rfl) (hl.at (j := i) (by omega)) rfl) rfl <| VO.l (LO.call (xs := [_]) (vs := [_]) C33 ⟨(.r rfl), trivial⟩ (fun w _ => flow_c (l.getD i zF) w)) rfl <| VO.h rfl <| HO.bs (ps := [(_, _)]) (vs := [(_, _)]) (Z := [_, _, _, _]) (C := [_, _, _, _]) S86 Z35 N35 ⟨(.r rfl), trivial⟩ rfl rfl rfl rfl ⟨_, [_, _, _, _], [_, _, _, _], rfl, rfl, rfl, rfl, rfl⟩ fun b8 => VO.h rfl <| HO.appT (l.getD i zF) 1 0 (fun R => [_, R, _, _, _, _]) S86 S86 I35 (.r rfl) (.r rfl) rfl rfl rfl rfl rfl rfl rfl (fun _ => rfl) rfl (by omega) fun p7 c7 => VO.h rfl <| HO.lo (LO.as (.r rfl)) <| VO.nil ?_)
        have hmi : (m ++ [l.getD i zF])[i]? = some (l.getD i zF) := by rw [List.getElem?_append_right (by omega), hmn]; simp
        have him := (List.getElem?_eq_some_iff.1 hmi).1
        refine VE.seqN ?_
        refine VC.seq ?_
        refine VC.seq ?_
        refine VC.draw mixed (LL.l (LO.mv (.r rfl)) rfl <| LL.l (LO.mv (.r rfl)) rfl <| LL.l (LO.ixs S80 N32 hl.some (.r rfl) (.r rfl) rfl (by omega)) rfl <| LL.l (LO.lda (vs := [_, _, _, _]) A32 (.r rfl) (hl.at (j := i) (by omega)) rfl) rfl <| LL.l (LO.call (xs := [_]) (vs := [_]) C34 ⟨(.r rfl), trivial⟩ (fun w _ => checkFlow_c (l.getD i zF) w)) rfl <| LL.l (LO.mv (.r rfl)) rfl <| LL.l (LO.mv (.r rfl)) rfl <| LL.l (LO.ixo S86 N35 (fun _ hw => (own_rows hw 1 rfl).some (by simp)) (.r rfl) (.r rfl) rfl him) rfl <| LL.l (LO.lda (vs := [_, _, _, _]) A35 (.r rfl) (fun w hw => cells_part (off := 0) (own_cell hw 1 rfl hmi) ⟨_, rfl⟩) rfl) rfl <| LL.l (LO.call (xs := [_]) (vs := [_]) C35 ⟨(.r rfl), trivial⟩ (fun w _ => rCheckFlow_c (l.getD i zF) w)) rfl <| LL.l (LO.ne (.r rfl) (.r rfl)) rfl <| LL.nil) (by kernel_rfl) ?_
        refine VE.seqN ?_
        refine VC.cond rfl (fun h4 => ?_) (fun h4 => ?_)
        ·
          (exfalso; (exact h4 rfl))
        ·
          refine VC.skip (VE.seqN ?_)
          refine VC.seq ?_
          refine VC.reg (VO.l (LO.mv (.r rfl)) rfl <| VO.l (LO.mv (.r rfl)) rfl <| VO.l (LO.ixs S80 N32 hl.some (.r rfl) (.r rfl) rfl (by omega)) rfl <| VO.l (LO.lda (vs := [_, _, _, _]) A32 (.r rfl) (hl.at (j := i) (by omega)) rfl) rfl <| VO.l (LO.mv (.r rfl)) rfl <| VO.l (LO.mv (.r rfl)) rfl <| VO.l (LO.call (xs := [_, _, _]) (vs := [_, _, _]) C36 ⟨(.r rfl), (.r rfl), (.r rfl), trivial⟩ (fun w _ => Widen_c (l.getD i zF) ch sec w)) rfl <| VO.l (LO.mv (.r rfl)) rfl <| VO.l (LO.ex (.r rfl) rfl) rfl <| VO.l (LO.ex (.r rfl) rfl) rfl <| VO.h0 <| HO.st 2 (vs := [_, _, _, _]) (C' := [_, _, _, _]) (L' := [_, _, _, _, _, _]) N32 rfl rfl rfl rfl rfl rfl rfl rfl <| VO.l (LO.as (.r rfl)) rfl <| VO.nil ?_)
          refine VE.seqN ?_
          refine VC.weak (env' := [(2, _), (4, _), (5, _), (13, _), (14, _), (15, _), (17, _), (18, _)]) (.cons rfl (.cons rfl (.cons rfl (.cons rfl (.cons rfl (.cons rfl (.cons rfl (.cons rfl .nil)))))))) (fun _ h => h) ?_
          refine VC.seq ?_
          refine VC.reg (VO.l (LO.mv (.r rfl)) rfl <| VO.l (LO.mv (.r rfl)) rfl <| VO.l (LO.ixo S86 N35 (fun _ hw => (own_rows hw 1 rfl).some (by simp)) (.r rfl) (.r rfl) rfl him) rfl <| VO.l (LO.lda (vs := [_, _, _, _]) A35 (.r rfl) (fun w hw => cells_part (off := 0) (own_cell hw 1 rfl hmi) ⟨_, rfl⟩) rfl) rfl <| VO.l (LO.mv (.r rfl)) rfl <| VO.l (LO.mv (.r rfl)) rfl <| VO.l (LO.call (xs := [_, _, _]) (vs := [_, _, _]) C37 ⟨(.r rfl), (.r rfl), (.r rfl), trivial⟩ (fun w _ => rWiden_c (l.getD i zF) ch sec w)) rfl <| VO.l (LO.mv (.r rfl)) rfl <| VO.l (LO.ex (.r rfl) rfl) rfl <| VO.l (LO.ex (.r rfl) rfl) rfl <| VO.h0 <| HO.st 3 (vs := [_, _, _, _]) (C' := [_, _, _, _]) (L' := [_, _, _, _, _, _]) N35 rfl rfl rfl rfl rfl rfl rfl rfl <| VO.l (LO.as (.r rfl)) rfl <| VO.nil ?_)
          refine VE.seqN ?_
          refine VC.seq ?_
          refine VC.draw mixed (LL.l (LO.lda (vs := [_, _, _, _]) A32 (.r rfl) (fun _ hw => cells_at hw 2 rfl ⟨_, rfl⟩) rfl) rfl <| LL.l (LO.call (xs := [_]) (vs := [_]) C33 ⟨(.r rfl), trivial⟩ (fun w _ => flow_c ⟨_, _, _, _⟩ w)) rfl <| LL.l (LO.lda (vs := [_, _, _, _]) A35 (.r rfl) (fun _ hw => cells_at hw 3 rfl ⟨_, rfl⟩) rfl) rfl <| LL.l (LO.nes («as» := fI (widR (l.getD i zF) ch sec)) (bs := fI (widR (l.getD i zF) ch sec)) E35 (.r rfl) (.r rfl) rfl rfl) rfl <| LL.l (LO.mv (.r rfl)) rfl <| LL.lg rfl rfl (GD.f _) (fun hg => LO.mv (.r rfl)) rfl <| LL.lg rfl rfl (GD.f _) (fun hg => LO.mv (.r rfl)) rfl <| LL.lg rfl rfl (GD.f _) (fun hg => LO.ne (.g hg rfl) (.g hg rfl)) rfl <| LL.l (LO.pkO (.r rfl) (.r rfl) rfl rfl) rfl <| LL.nil) (by kernel_rfl) ?_
          refine VE.seqN ?_
          refine VC.cond rfl (fun h5 => ?_) (fun h5 => ?_)
          ·
            (exfalso; (rcases h5 with q | q <;> exact q rfl))
          ·
            refine VC.skip (VE.inN (VE.seqN ?_))
            refine VC.reg (VO.l (LO.mv (.r rfl)) rfl <| VO.l (LO.add (.r rfl) (.r rfl) (wi (by omega) (by omega))) rfl <| VO.l (LO.as (.r rfl)) rfl <| VO.nil ?_)
            refine VE.thenN fun a w ha hw => ⟨(i + 1, m ++ [l.getD i zF], _, _, widR (l.getD i zF) ch sec, widR (l.getD i zF) ch sec), ⟨by dsimp only; omega, take_f (by omega) hm⟩, (by dsimp only; omega), ha.sub (.cons rfl (.cons rfl (.cons rfl (.cons rfl (.cons rfl (.cons rfl (.cons rfl .nil))))))), hw.sel [1, 2, 3, 4, 5] rfl⟩
      ·
        have hil : l = m := by rw [hm, List.take_of_length_le (by omega)]
        subst hil
        refine VC.exit (VE.thenX (VE.thenX (VE.inX (VE.seqN ?_))))
        refine VC.seq ?_
        refine VC.reg (VO.l (LO.mv (.r rfl)) rfl <| VO.l (LO.call (xs := [_]) (vs := [_]) C38 ⟨(.r rfl), trivial⟩ (fun w hw => Meet_c p l c w (hl.keep w hw) hc)) rfl <| VO.l (LO.mv (.r rfl)) rfl <| VO.l (LO.ex (.r rfl) rfl) rfl <| VO.l (LO.ex (.r rfl) rfl) rfl <| VO.l (LO.ex (.r rfl) rfl) rfl <| VO.h rfl <| HO.alloc (C := #[_, _]) Z91 rfl fun b11 => VO.h0 <| HO.st 2 (vs := [_, _, _, _]) (C' := [_, _, _, _]) (L' := [_, _, _, _, _, _]) N32 rfl rfl rfl rfl rfl rfl rfl rfl <| VO.h0 <| HO.st 0 (vs := [_, _]) (C' := [_, _]) (L' := [_, _, _, _, _, _]) N91 rfl rfl rfl rfl rfl rfl rfl rfl <| VO.l (LO.as (.r rfl)) rfl <| VO.nil ?_)
        refine VE.seqN ?_
        refine VC.seq ?_
        refine VC.reg (VO.l (LO.mv (.r rfl)) rfl <| VO.l (LO.call (xs := [_]) (vs := [_]) C39 ⟨(.r rfl), trivial⟩ (fun w hw => rMeet_c pm l cm w (own_rows hw 1 rfl))) rfl <| VO.l (LO.mv (.r rfl)) rfl <| VO.l (LO.ex (.r rfl) rfl) rfl <| VO.l (LO.ex (.r rfl) rfl) rfl <| VO.l (LO.ex (.r rfl) rfl) rfl <| VO.h rfl <| HO.alloc (C := #[_, _]) Z91 rfl fun b14 => VO.h0 <| HO.st 4 (vs := [_, _, _, _]) (C' := [_, _, _, _]) (L' := [_, _, _, _, _, _, _]) N35 rfl rfl rfl rfl rfl rfl rfl rfl <| VO.h0 <| HO.st 0 (vs := [_, _]) (C' := [_, _]) (L' := [_, _, _, _, _, _, _]) N91 rfl rfl rfl rfl rfl rfl rfl rfl <| VO.l (LO.as (.r rfl)) rfl <| VO.nil ?_)
        refine VE.seqN ?_
        refine VC.seq ?_
        refine VC.seq ?_
        refine VC.draw mixed (LL.l (LO.lda (vs := [_, _, _, _]) A32 (.r rfl) (fun _ hw => cells_at hw 3 rfl ⟨_, rfl⟩) rfl) rfl <| LL.l (LO.call (xs := [_]) (vs := [_]) C33 ⟨(.r rfl), trivial⟩ (fun w _ => flow_c ⟨_, _, _, _⟩ w)) rfl <| LL.l (LO.lda (vs := [_, _, _, _]) A35 (.r rfl) (fun _ hw => cells_at hw 4 rfl ⟨_, rfl⟩) rfl) rfl <| LL.l (LO.nes («as» := fI (meetV l)) (bs := fI (meetV l)) E35 (.r rfl) (.r rfl) rfl rfl) rfl <| LL.l (LO.mv (.r rfl)) rfl <| LL.lg rfl rfl (GD.f _) (fun hg => LO.lda (vs := [_, _]) A91 (.r rfl) (fun _ hw => cells_at hw 1 rfl ⟨_, rfl⟩) rfl) rfl <| LL.lg rfl rfl (GD.f _) (fun hg => LO.lda (vs := [_, _]) A91 (.r rfl) (fun _ hw => cells_at hw 0 rfl ⟨_, rfl⟩) rfl) rfl <| LL.lg rfl rfl (GD.f _) (fun hg => LO.nea2 AR91 (.g hg rfl) (.g hg rfl)) rfl <| LL.l (LO.pkO (.r rfl) (.r rfl) rfl rfl) rfl <| LL.l (LO.mv (.r rfl)) rfl <| LL.lg rfl rfl (GD.f _) (fun hg => LO.mv (.r rfl)) rfl <| LL.lg rfl rfl (GD.f _) (fun hg => LO.mv (.r rfl)) rfl <| LL.lg rfl rfl (GD.f _) (fun hg => LO.ne (.g hg rfl) (.g hg rfl)) rfl <| LL.l (LO.pkO (.r rfl) (.r rfl) rfl rfl) rfl <| LL.nil) (by kernel_rfl) ?_
        refine VE.seqN ?_
        refine VC.weak (env' := [(4, _), (13, _), (15, _), (17, _), (139, _)]) (.cons rfl (.cons rfl (.cons rfl (.cons rfl (.cons rfl .nil))))) (fun _ h => h) ?_
        refine VC.cond rfl (fun h6 => ?_) (fun h6 => ?_)
        ·
          (exfalso; (rcases h6 with (q | q) | q <;> exact q rfl))
        ·
          refine VC.skip (VE.seqN ?_)
          refine VC.seq ?_
          refine VC.reg (VO.l (LO.mv (.r rfl)) rfl <| VO.l (LO.call (xs := [_]) (vs := [_]) C40 ⟨(.r rfl), trivial⟩ (fun w hw => Hull_c p l c w (hl.keep w hw) hc)) rfl <| VO.l (LO.mv (.r rfl)) rfl <| VO.l (LO.ex (.r rfl) rfl) rfl <| VO.l (LO.ex (.r rfl) rfl) rfl <| VO.h0 <| HO.st 3 (vs := [_, _, _, _]) (C' := [_, _, _, _]) (L' := [_, _, _, _, _, _, _]) N32 rfl rfl rfl rfl rfl rfl rfl rfl <| VO.l (LO.as (.r rfl)) rfl <| VO.nil ?_)
          refine VE.seqN ?_
          refine VC.seq ?_
          refine VC.reg (VO.l (LO.mv (.r rfl)) rfl <| VO.l (LO.call (xs := [_]) (vs := [_]) C41 ⟨(.r rfl), trivial⟩ (fun w hw => rHull_c pm l cm w (own_rows hw 2 rfl))) rfl <| VO.l (LO.mv (.r rfl)) rfl <| VO.l (LO.ex (.r rfl) rfl) rfl <| VO.l (LO.ex (.r rfl) rfl) rfl <| VO.h0 <| HO.st 4 (vs := [_, _, _, _]) (C' := [_, _, _, _]) (L' := [_, _, _, _, _, _, _]) N35 rfl rfl rfl rfl rfl rfl rfl rfl <| VO.l (LO.as (.r rfl)) rfl <| VO.nil ?_)
          refine VE.seqN ?_
          refine VC.seq ?_
          refine VC.draw mixed (LL.l (LO.lda (vs := [_, _, _, _]) A32 (.r rfl) (fun _ hw => cells_at hw 3 rfl ⟨_, rfl⟩) rfl) rfl <| LL.l (LO.call (xs := [_]) (vs := [_]) C33 ⟨(.r rfl), trivial⟩ (fun w _ => flow_c ⟨_, _, _, _⟩ w)) rfl <| LL.l (LO.lda (vs := [_, _, _, _]) A35 (.r rfl) (fun _ hw => cells_at hw 4 rfl ⟨_, rfl⟩) rfl) rfl <| LL.l (LO.eqs («as» := fI (hullR l)) (bs := fI (hullR l)) E35 (.r rfl) (.r rfl) rfl rfl) rfl <| LL.l (LO.mv (.r rfl)) rfl <| LL.lg rfl rfl (GD.t _) (fun hg => LO.mv (.r rfl)) rfl <| LL.lg rfl rfl (GD.t _) (fun hg => LO.mv (.r rfl)) rfl <| LL.lg rfl rfl (GD.t _) (fun hg => LO.eq (.g hg rfl) (.g hg rfl)) rfl <| LL.l (LO.pkA (.r rfl) rfl rfl (.r rfl)) rfl <| LL.l (LO.mv (.r rfl)) rfl <| LL.lg rfl rfl (GD.t _) (fun hg => LO.call (xs := []) (vs := []) C14 trivial (fun w _ => works_c w)) rfl <| LL.l (LO.pkA (.r rfl) rfl rfl (.r rfl)) rfl <| LL.l (LO.as (.r rfl)) rfl <| LL.nil) (by kernel_rfl) ?_
          refine VE.seqN ?_
          refine VC.ret (VE.res (vs := [_]) rfl ⟨rfl, trivial⟩ (fun w hw => ?_))
          first | exact ⟨rfl, hw.nil⟩ | exact ⟨by simp [resV], hw.nil⟩

end Go.Proofs.Ytdcjeoamhjplmaa
