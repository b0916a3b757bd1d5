/-
  Logs are played.
  IssueFull is walked.
-/
import Derived.Test.YtdjflomhaljljaaKFL05

namespace Go.Proofs.Ytdjflomhaljljaa
open Go.SL Go.Proofs Go.Cast
set_option linter.unusedVariables false

theorem F169_0 : FieldAt Try.prog 169 0 0 := ⟨_, _, Try.underlying169, rfl, rfl, 0, by kernel_rfl⟩
theorem F169_2 : FieldAt Try.prog 169 2 2 := ⟨_, _, Try.underlying169, rfl, rfl, 5, by kernel_rfl⟩
theorem F169_3 : FieldAt Try.prog 169 3 8 := ⟨_, _, Try.underlying169, rfl, rfl, 0, by kernel_rfl⟩
theorem F169_1 : FieldAt Try.prog 169 1 1 := ⟨_, _, Try.underlying169, rfl, rfl, 0, by kernel_rfl⟩
theorem C135 : IsFn Try.prog 135 := ⟨_, Try.func135, by decide, rfl⟩
theorem C137 : IsFn Try.prog 137 := ⟨_, Try.func137, by decide, rfl⟩


theorem spec_new {g : Grid} {rgs : List RG} {a b d : Int} {s : Sp} {o : OfM} {l : List EnP} (hn : NewP g rgs a b d o) (hse : s = ⟨g, rgs.map RG.r, a, b, d⟩) (hs : specE s = 0) (hp : ∀ x, x ∈ rgs → x.r.pix.length < 1000000000000) : PlA s l o 0 := by
  have h1 := sim_new hn (by rw [← hse]; exact hs) hp
  obtain ⟨e1, e2, e3, e4, e5, e6, e7, _, e8, _⟩ := hn
  exact ⟨h1, by rw [hse]; unfold OfM.sp; rw [e1, e2, e3, e4, e8], by rw [e7]; rfl, fun x hx => by rw [e7] at hx; cases hx⟩
theorem RO.nilE {α : Type} {z : Nat} {f : α → List Value} {w : World} : Go.SL.Rows w z none (([] : List α).map f) := ⟨fun j r h => by simp at h, fun _ => rfl, fun _ a ha => by cases ha⟩

theorem en_bd {w : World} {x : EnM} {s : Sp} {pre : List EnP} (h : Clouds w x.pc x.l ∧ Spans w x.pv x.vs ∧ x.l.length < 1000000000) (he : enE s pre x.p = 0) : x.lv = 0 ∨ x.vs.length ≤ 4096 := by
  by_cases q : x.lv = 0
  · exact .inl q
  · right
    unfold enE EnM.p at he
    dsimp only at he
    rw [if_neg q] at he
    split at he
    · omega
    · split at he
      · omega
      · split at he
        · rename_i z; exact absurd he z
        · rename_i z; exact field_len (Classical.not_not.1 z)

theorem cl_bd {w : World} {x : EnM} (h : Clouds w x.pc x.l ∧ Spans w x.pv x.vs ∧ x.l.length < 1000000000) : x.p.l.length < 1000000000 ∧ ∀ c, c ∈ x.p.l → c.sure.length < 1000000000000 ∧ c.may.length < 1000000000000 := by
  refine ⟨by show (x.l.map CP.c).length < _; rw [List.length_map]; exact h.2.2, fun c hc => ?_⟩
  obtain ⟨y, hy, e⟩ := List.mem_map.1 (show c ∈ x.l.map CP.c from hc)
  have := (h.1.ok y hy).2.2
  rw [← e]; exact this
theorem evP_st {s : Sp} {l : List EnP} {o : OfM} {n : Nat} {x : EnP} (h : PlA s l o n) (hx : l[n]? = some x) (hlv : x.lv = 0) : evP s l (n + 1) = evP s l n ++ evF o.hold o.rc.length (stP s (l.take n)) ⟨x.t, thsP o.sp x.l⟩ := by
  show evP s l n ++ enEv s (l.take n) (l.getD n zEn) = _
  rw [getD_of hx]
  unfold enEv
  rw [if_pos hlv, n_eq h.sim.wf, h.sp]
  congr 3
  rw [← h.sp]; rfl
theorem evP_nt {s : Sp} {l : List EnP} {n : Nat} {x : EnP} (hx : l[n]? = some x) (hlv : ¬ x.lv = 0) : evP s l (n + 1) = evP s l n ++ [] := by
  show evP s l n ++ enEv s (l.take n) (l.getD n zEn) = _
  rw [getD_of hx]
  unfold enEv
  rw [if_neg hlv]

set_option maxRecDepth 20000 in
theorem Play_ok (g : Grid) (rgs : List RG) (pg : Option Addr) (cg : Nat) (a b d : Int) (s : Sp) (log : List EnM) (pl : Option Addr) (cl : Nat) (w : World) (hse : s = ⟨g, rgs.map RG.r, a, b, d⟩) (hs : specE s = 0) (hrl : rgs.length < 1000000000000) (hrg : Regs w pg rgs) (hll : log.length ≤ 256) (hl : LogM w pl log) (hall : ∀ (k : Nat) (x : EnM), log[k]? = some x → enE s ((log.map EnM.p).take k) x.p = 0) :
  Calls Try.prog 33 #[specV g pg rgs.length cg a b d, .slice pl log.length cl] w fun e w' => ∃ y : PlY, (PlA s (log.map EnM.p) y.o log.length ∧ y.es = evP s (log.map EnM.p) log.length) ∧ e = .returned (.tuple #[ptrN y.o.b, .slice y.pe y.es.length y.ce, .int .i64 0]) ∧ St (bs w) (offR y.o ++ [own 62 7 y.pe y.ce (y.es.map evC)]) w' := by
  refine enter (vs := [_, _]) (env := [(0, _), (1, _)]) Try.func33 rfl rfl rfl rfl ?_
  refine VC.seq ?_
  refine VC.reg (VO.h rfl <| HO.box (C := #[_, _, _, _, _, _, _, _, _]) rfl rfl fun b1 => VO.l (LO.as (.r rfl)) rfl <| VO.l (LO.as (.r rfl)) rfl <| VO.l (LO.as (.r rfl)) rfl <| VO.nil ?_)
  refine VE.seqN ?_
  refine VC.seq ?_
  refine VC.reg (VO.l (LO.lda (vs := [_, _, _, _, _, _, _, _, _]) A28 (.r rfl) (fun _ hw => cells_at hw 0 rfl ⟨_, rfl⟩) rfl) rfl <| VO.h rfl <| HO.callx (xs := [_]) (vs := [_]) C26 ⟨(.r rfl), trivial⟩ (fun w hw => New_c g rgs pg cg a b d w hrl (hrg.keep hw) (by rw [← hse]; exact hs)) fun o hn => VO.h rfl <| HO.lo (LO.mv (.r rfl)) <| VO.h rfl <| HO.lo (LO.ex (.r rfl) rfl) <| VO.h rfl <| HO.lo (LO.ex (.r rfl) rfl) <| VO.h rfl <| HO.lo (LO.as (.r rfl)) <| VO.h rfl <| HO.lo (LO.as (.r rfl)) <| VO.nil ?_)
  refine VE.seqN ?_
  refine VC.seq ?_
  refine VC.seq ?_
  refine VC.reg (VO.l (LO.mv (.r rfl)) rfl <| VO.l (LO.ne (.r rfl) (.r rfl)) rfl <| VO.nil ?_)
  refine VE.seqN ?_
  refine VC.cond rfl (fun h21 => ?_) (fun h21 => ?_)
  ·
    (exfalso; exact h21 rfl)
  ·
    refine VC.skip (VE.seqN ?_)
    refine VC.seq ?_
    refine VC.seq ?_
    refine VC.reg (VO.l (LO.mv (.r rfl)) rfl <| VO.l (LO.len S95 (.r rfl) rfl) rfl <| VO.l (LO.gt (.r rfl) (.r rfl)) rfl <| VO.nil ?_)
    refine VE.seqN ?_
    refine VC.cond rfl (fun h25 => ?_) (fun h25 => ?_)
    ·
      (exfalso; omega)
    ·
      refine VC.skip (VE.seqN ?_)
      refine VC.seq ?_
      refine VC.reg (VO.l (LO.as (.r rfl)) rfl <| VO.nil ?_)
      refine VE.seqN ?_
      refine VC.seq ?_
      refine VC.seq ?_
      refine VC.reg (VO.l (LO.mv (.r rfl)) rfl <| VO.l (LO.len S95 (.r rfl) rfl) rfl <| VO.l (LO.mv (.r rfl)) rfl <| VO.nil ?_)
      refine VE.seqN ?_
      refine VC.block ?_
      refine VC.loopK (α := Nat × OfM × (List Ev) × (Option Addr) × Nat) 10 (fun gx => [(9, .slice gx.2.2.2.1 gx.2.2.1.length gx.2.2.2.2), (28, .int .i64 (gx.1 : Nat))]) [(7, _), (26, _), (27, _)] (fun gx => [OfM.blk gx.2.1, OfM.rgR gx.2.1, OfM.pxB gx.2.1, OfM.rcR gx.2.1, OfM.rcB gx.2.1, OfM.tsR gx.2.1, OfM.csR gx.2.1, OfM.csB gx.2.1, OfM.lgR gx.2.1, OfM.lgB gx.2.1, own 62 7 gx.2.2.2.1 gx.2.2.2.2 (gx.2.2.1.map evC)]) (fun gx => gx.1 ≤ log.length ∧ gx.2.1.b = o.b ∧ PlA s (log.map EnM.p) gx.2.1 gx.1 ∧ gx.2.2.1 = evP s (log.map EnM.p) gx.1 ∧ gx.2.2.1.length ≤ 32 * gx.1) (fun gx => log.length - gx.1) (0, o, [], none, 0) (by exact ⟨Nat.zero_le _, rfl, spec_new hn hse hs (fun x hx => (hrg.ok x hx).2), rfl, Nat.zero_le _⟩) (.cons rfl (.cons rfl (.cons rfl (.cons rfl (.cons rfl .nil))))) (fun _ h => ((h.ownNil 62 7)).sel [1, 2, 3, 4, 5, 6, 7, 8, 9, 10, 0, 11] rfl) ?_
      rintro ⟨i, o_, es_, pe_, ce_⟩ ⟨hi, hob, hR, hE, hel⟩
      show VC _ _ _ _ _ ([(9, .slice pe_ es_.length ce_), (28, .int .i64 (i : Nat))] ++ _) ([OfM.blk o_, OfM.rgR o_, OfM.pxB o_, OfM.rcR o_, OfM.rcB o_, OfM.tsR o_, OfM.csR o_, OfM.csB o_, OfM.lgR o_, OfM.lgB o_, own 62 7 pe_ ce_ (es_.map evC)] ++ _) _ _
      dsimp only at hi hob hR hE hel
      rw [← hob]
      have hrn := hR.sim.wf.n
      refine VC.seq ?_
      refine VC.reg (VO.l (LO.lt (.r rfl) (.r rfl)) rfl <| VO.nil ?_)
      refine VE.seqN ?_
      refine VC.seq ?_
      refine VC.cond rfl (fun h29 => ?_) (fun h29 => ?_)
      ·
        obtain ⟨x, hx⟩ : ∃ x, log[i]? = some x := ⟨_, List.getElem?_eq_getElem (by omega)⟩
        have hxo := hl.ok x (List.mem_of_getElem? hx)
        have hex := hall i x hx
        have hxp : (log.map EnM.p)[i]? = some x.p := by rw [List.getElem?_map, hx]; rfl
        have hxb := en_bd hxo hex
        refine VC.skip (VE.seqN ?_)
        refine VC.seq ?_
        refine VC.block ?_
        refine VC.seq ?_
        refine VC.reg (VO.l (LO.ixs S95 N169 hl.rows.sm (.r rfl) (.r rfl) rfl (by omega)) rfl <| VO.l (LO.lda (vs := [_, _, _, _, _, _, _, _, _]) A169 (.r rfl) (fun w hw => cells_part (off := 0) ((fun w2 hw2 => (hl.rows.keep w2 hw2).cells _ _ (by rw [List.getElem?_map, hx]; rfl)) w hw) ⟨_, rfl⟩) rfl) rfl <| VO.h rfl <| HO.alloc (C := #[_, _, _, _, _, _, _, _, _]) Z169 rfl fun b13 => VO.h0 <| HO.st 0 (vs := [_, _, _, _, _, _, _, _, _]) (C' := [_, _, _, _, _, _, _, _, _]) (L' := [_, _, _, _, _, _, _, _, _, _, _, _, _]) N169 rfl rfl rfl rfl rfl rfl rfl rfl <| VO.nil ?_)
        refine VE.seqN ?_
        refine VC.seq ?_
        refine VC.reg (VO.l (LO.fa (r := 0) F169_0 (.r rfl) rfl) rfl <| VO.l (LO.ld O3 (.r rfl) (fun _ hw => cells_at hw 0 rfl ⟨_, rfl⟩)) rfl <| VO.l (LO.fa (r := 2) F169_2 (.r rfl) rfl) rfl <| VO.l (LO.lda (vs := [_, _, _, _, _, _]) A93 (.r rfl) (fun _ hw => cells_at hw 0 rfl ⟨_, rfl⟩) rfl) rfl <| VO.l (LO.fa (r := 8) F169_3 (.r rfl) rfl) rfl <| VO.l (LO.ld O3 (.r rfl) (fun _ hw => cells_at hw 0 rfl ⟨_, rfl⟩)) rfl <| VO.l (LO.bd (ps := [(_, _), (_, _), (_, _)]) (vs := [(_, _), (_, _), (_, _)]) (C := [_, _, _, _, _, _, _, _]) B165  ⟨(.r rfl), (.r rfl), (.r rfl), trivial⟩ rfl ⟨_, [_], [_, _, _, _, _, _, _, _], rfl, rfl, rfl, rfl, ⟨_, [_, _, _, _, _, _], [_, _, _, _, _, _, _, _], rfl, rfl, rfl, rfl, ⟨_, [_], [_, _, _, _, _, _, _, _], rfl, rfl, rfl, rfl, rfl⟩⟩⟩) rfl <| VO.l (LO.mi ⟨_, Try.underlying165, rfl⟩ (.r rfl)) rfl <| VO.l (LO.as (.r rfl)) rfl <| VO.nil ?_)
        refine VE.seqN ?_
        refine VC.seq ?_
        refine VC.seq ?_
        refine VC.reg (VO.l (LO.fa (r := 8) F169_3 (.r rfl) rfl) rfl <| VO.l (LO.ld O3 (.r rfl) (fun _ hw => cells_at hw 0 rfl ⟨_, rfl⟩)) rfl <| VO.l (LO.eq (.r rfl) (.r rfl)) rfl <| VO.nil ?_)
        refine VE.seqN ?_
        refine VC.cond rfl (fun h42 => ?_) (fun h42 => ?_)
        ·
          refine VC.reg (VO.l (LO.fa (r := 0) F169_0 (.r rfl) rfl) rfl <| VO.l (LO.ld O3 (.r rfl) (fun _ hw => cells_at hw 0 rfl ⟨_, rfl⟩)) rfl <| VO.l (LO.fa (r := 1) F169_1 (.r rfl) rfl) rfl <| VO.l (LO.ld O29 (.r rfl) (fun _ hw => cells_at hw 0 rfl ⟨_, rfl⟩)) rfl <| VO.l (LO.bd (ps := [(_, _), (_, _)]) (vs := [(_, _), (_, _)]) (C := [_, _]) B158  ⟨(.r rfl), (.r rfl), trivial⟩ rfl ⟨_, [_], [_, _], rfl, rfl, rfl, rfl, ⟨_, [_], [_, _], rfl, rfl, rfl, rfl, rfl⟩⟩) rfl <| VO.l (LO.mi ⟨_, Try.underlying158, rfl⟩ (.r rfl)) rfl <| VO.l (LO.as (.r rfl)) rfl <| VO.nil ?_)
          refine VE.seqN ?_
          refine VC.seq ?_
          refine VC.reg (VO.l (LO.mv (.r rfl)) rfl <| VO.l (LO.mv (.r rfl)) rfl <| VO.h rfl <| HO.inv (xs := [_]) (vs := [_]) [_, _, _, _, _, _, _, _, _, _] [_, _, _] (selK (L1 := [_, _, _, _, _, _, _, _, _, _] ++ [_, _, _]) [1, 2, 3, 4, 5, 6, 7, 8, 9, 10, 0, 11, 12] rfl rfl) (.r rfl) (fun _ => by kernel_rfl) C135 ⟨(.r rfl), trivial⟩ (fun w hw hh => play_st o_ _ x.t x.l x.pc x.cc w hh (fun hs => hxo.1.keep _ (old_in (selK (L1 := offR o_ ++ [_, _, _]) [1, 2, 3, 4, 5, 6, 7, 8, 9, 10, 0, 11, 12] rfl rfl w hw) hs)) hxo.2.2 hR.sim (by rw [show stpE o_ x.t (x.l.map CP.c) = _ from hR.st (x := x.p) h42]; exact hex)) fun y hy => VO.h rfl <| HO.lo (LO.mv (.r rfl)) <| VO.h rfl <| HO.lo (LO.ex (.r rfl) rfl) <| VO.h rfl <| HO.lo (LO.ex (.r rfl) rfl) <| VO.h rfl <| HO.lo (LO.as (.r rfl)) <| VO.h rfl <| HO.lo (LO.as (.r rfl)) <| VO.nil ?_)
          refine VE.seqN ?_
          refine VC.seq ?_
          refine VC.seq ?_
          refine VC.reg (VO.l (LO.mv (.r rfl)) rfl <| VO.l (LO.ne (.r rfl) (.r rfl)) rfl <| VO.nil ?_)
          refine VE.seqN ?_
          refine VC.cond rfl (fun h56 => ?_) (fun h56 => ?_)
          ·
            (exfalso; exact h56 rfl)
          ·
            refine VC.skip (VE.seqN ?_)
            refine VC.reg (VO.l (LO.mv (.r rfl)) rfl <| VO.l (LO.mv (.r rfl)) rfl <| VO.h rfl <| HO.appN (f := evC) (l := es_) (m := y.es) 12 (fun R => [_, _, _, _, _, _, _, _, _, _, _, _, R, _]) S60 S60 I62 (.r rfl) (.r rfl) rfl (fun w hw => own_rows hw 0 rfl) (fun _ => rfl) (fun _ => rfl) rfl rfl (fun _ => rfl) rfl rfl (by have := add_cl hy.1; omega) fun p2 c2 _ => VO.h rfl <| HO.lo (LO.as (.r rfl)) <| VO.nil ?_)
            refine VE.inN (VE.seqN ?_)
            refine VC.reg (VO.l (LO.add (.r rfl) (.r rfl) (wi (by omega) (by omega))) rfl <| VO.l (LO.mv (.r rfl)) rfl <| VO.nil ?_)
            refine VE.thenN fun a w ha hw => ⟨(i + 1, y.o o_ x.t, es_ ++ y.es, p2, c2), ⟨by dsimp only; omega, rfl, hR.step hxp h42 (cl_bd hxo) hy.1 hy.2.1, by dsimp only; rw [hE, hy.2.2, evP_st hR hxp h42]; rfl, by dsimp only; have := add_cl hy.1; rw [List.length_append]; omega⟩, (by dsimp only; omega), ha.sub (.cons (congrArg (fun n => some (Value.slice p2 n c2)) (by rw [List.length_append]; try rfl)) (.cons rfl (.cons rfl (.cons rfl (.cons rfl .nil))))), (by exact selK (L1 := [_, _, _, _, _, _, _, _, _, _, _, _]) [1, 2, 3, 4, 5, 6, 7, 8, 9, 10, 12, 13] rfl rfl _ hw)⟩
        ·
          refine VC.skip (VE.seqN ?_)
          refine VC.seq ?_
          refine VC.reg (VO.l (LO.mv (.r rfl)) rfl <| VO.l (LO.mv (.r rfl)) rfl <| VO.h rfl <| HO.inv (xs := [_]) (vs := [_]) [_, _, _, _, _, _, _, _, _, _] [_, _, _] (selK (L1 := [_, _, _, _, _, _, _, _, _, _] ++ [_, _, _]) [1, 2, 3, 4, 5, 6, 7, 8, 9, 10, 0, 11, 12] rfl rfl) (.r rfl) (fun _ => by kernel_rfl) C137 ⟨(.r rfl), trivial⟩ (fun w hw hh => play_nt o_ x.t ⟨x.g, x.vs⟩ x.pv x.cv x.lv w (by have := hR.sim.wf.n; omega) hh (fun hs => hxo.2.1.keep _ (old_in (selK (L1 := offR o_ ++ [_, _, _]) [1, 2, 3, 4, 5, 6, 7, 8, 9, 10, 0, 11, 12] rfl rfl w hw) hs)) (by rw [show noteE o_ x.t ⟨x.g, x.vs⟩ x.lv = _ from hR.nt (x := x.p) h42]; exact hex)) fun y _ => VO.h rfl <| HO.lo (LO.mv (.r rfl)) <| VO.h rfl <| HO.lo (LO.ex (.r rfl) rfl) <| VO.h rfl <| HO.lo (LO.ex (.r rfl) rfl) <| VO.h rfl <| HO.lo (LO.as (.r rfl)) <| VO.h rfl <| HO.lo (LO.as (.r rfl)) <| VO.nil ?_)
          refine VE.seqN ?_
          refine VC.seq ?_
          refine VC.seq ?_
          refine VC.reg (VO.l (LO.mv (.r rfl)) rfl <| VO.l (LO.ne (.r rfl) (.r rfl)) rfl <| VO.nil ?_)
          refine VE.seqN ?_
          refine VC.cond rfl (fun h56 => ?_) (fun h56 => ?_)
          ·
            (exfalso; exact h56 rfl)
          ·
            refine VC.skip (VE.seqN ?_)
            refine VC.reg (VO.l (LO.mv (.r rfl)) rfl <| VO.l (LO.mv (.r rfl)) rfl <| VO.h rfl <| HO.appN (f := evC) (l := es_) (m := ([] : List Ev)) 11 (fun R => [_, _, _, _, _, _, _, _, _, _, _, R, _]) S60 S60 I62 (.r rfl) (.r rfl) rfl (fun w hw => RO.nilE) (fun _ => rfl) (fun _ => rfl) rfl rfl (fun _ => rfl) rfl rfl (by omega) fun p2 c2 _ => VO.h rfl <| HO.lo (LO.as (.r rfl)) <| VO.nil ?_)
            refine VE.inN (VE.seqN ?_)
            refine VC.reg (VO.l (LO.add (.r rfl) (.r rfl) (wi (by omega) (by omega))) rfl <| VO.l (LO.mv (.r rfl)) rfl <| VO.nil ?_)
            refine VE.thenN fun a w ha hw => ⟨(i + 1, { o_ with lg := o_.lg ++ [LgM.nt x.t x.g y.1.1 y.1.2 x.vs x.lv], pl := y.2.1, cl := y.2.2 }, es_ ++ [], p2, c2), ⟨by dsimp only; omega, rfl, hR.note hxp h42 (hxb.resolve_left h42), by dsimp only; rw [hE, evP_nt hxp h42], by dsimp only; rw [List.append_nil]; omega⟩, (by dsimp only; omega), ha.sub (.cons (congrArg (fun n => some (Value.slice p2 n c2)) (by rw [List.length_append]; try rfl)) (.cons rfl (.cons rfl (.cons rfl (.cons rfl .nil))))), (by exact selK (L1 := [_, _, _, _, _, _, _, _, _, _, _, _]) [0, 1, 2, 3, 4, 5, 6, 7, 8, 9, 11, 12] rfl rfl _ hw)⟩
      ·
        refine VC.exit (VE.thenX (VE.thenX (VE.inX (VE.seqN ?_))))
        refine VC.seq ?_
        refine VC.reg (VO.l (LO.mv (.r rfl)) rfl <| VO.l (LO.mv (.r rfl)) rfl <| VO.l (LO.as (.r rfl)) rfl <| VO.l (LO.as (.r rfl)) rfl <| VO.l (LO.as (.r rfl)) rfl <| VO.nil ?_)
        refine VE.seqN ?_
        refine VC.ret (VE.res (vs := [_, _, _]) rfl ⟨rfl, rfl, rfl, trivial⟩ (fun w hw => ?_))
        have hi2 : i = log.length := by omega
        subst hi2
        exact ⟨⟨o_, es_, pe_, ce_⟩, ⟨hR, hE⟩, rfl, selK (L1 := offR o_ ++ [_]) [0, 1, 2, 3, 4, 5, 6, 7, 8, 9, 10] rfl rfl _ hw⟩

set_option maxRecDepth 20000 in
theorem Play_many (g : Grid) (rgs : List RG) (pg : Option Addr) (cg : Nat) (a b d : Int) (s : Sp) (log : List EnM) (pl : Option Addr) (cl : Nat) (w : World) (hse : s = ⟨g, rgs.map RG.r, a, b, d⟩) (hs : specE s = 0) (hrl : rgs.length < 1000000000000) (hrg : Regs w pg rgs) (hll : 256 < log.length) :
  Calls Try.prog 33 #[specV g pg rgs.length cg a b d, .slice pl log.length cl] w fun e w' => e = .returned (.tuple #[.pointer none, .slice none 0 0, .int .i64 9]) ∧ St (bs w) [] w' := by
  refine enter (vs := [_, _]) (env := [(0, _), (1, _)]) Try.func33 rfl rfl rfl rfl ?_
  refine VC.seq ?_
  refine VC.reg (VO.h rfl <| HO.box (C := #[_, _, _, _, _, _, _, _, _]) rfl rfl fun b1 => VO.l (LO.as (.r rfl)) rfl <| VO.l (LO.as (.r rfl)) rfl <| VO.l (LO.as (.r rfl)) rfl <| VO.nil ?_)
  refine VE.seqN ?_
  refine VC.seq ?_
  refine VC.reg (VO.l (LO.lda (vs := [_, _, _, _, _, _, _, _, _]) A28 (.r rfl) (fun _ hw => cells_at hw 0 rfl ⟨_, rfl⟩) rfl) rfl <| VO.h rfl <| HO.callx (xs := [_]) (vs := [_]) C26 ⟨(.r rfl), trivial⟩ (fun w hw => New_c g rgs pg cg a b d w hrl (hrg.keep hw) (by rw [← hse]; exact hs)) fun o hn => VO.h rfl <| HO.lo (LO.mv (.r rfl)) <| VO.h rfl <| HO.lo (LO.ex (.r rfl) rfl) <| VO.h rfl <| HO.lo (LO.ex (.r rfl) rfl) <| VO.h rfl <| HO.lo (LO.as (.r rfl)) <| VO.h rfl <| HO.lo (LO.as (.r rfl)) <| VO.nil ?_)
  refine VE.seqN ?_
  refine VC.seq ?_
  refine VC.seq ?_
  refine VC.reg (VO.l (LO.mv (.r rfl)) rfl <| VO.l (LO.ne (.r rfl) (.r rfl)) rfl <| VO.nil ?_)
  refine VE.seqN ?_
  refine VC.cond rfl (fun h21 => ?_) (fun h21 => ?_)
  ·
    (exfalso; exact h21 rfl)
  ·
    refine VC.skip (VE.seqN ?_)
    refine VC.seq ?_
    refine VC.seq ?_
    refine VC.reg (VO.l (LO.mv (.r rfl)) rfl <| VO.l (LO.len S95 (.r rfl) rfl) rfl <| VO.l (LO.gt (.r rfl) (.r rfl)) rfl <| VO.nil ?_)
    refine VE.seqN ?_
    refine VC.cond rfl (fun h25 => ?_) (fun h25 => ?_)
    ·
      refine VC.seq ?_
      refine VC.reg (VO.l (LO.as (.r rfl)) rfl <| VO.l (LO.as (.r rfl)) rfl <| VO.l (LO.as (.r rfl)) rfl <| VO.nil ?_)
      refine VE.seqN ?_
      refine VC.ret (VE.thenR (VE.res (vs := [_, _, _]) rfl ⟨rfl, rfl, rfl, trivial⟩ (fun w hw => ?_)))
      exact ⟨rfl, hw.nil⟩
    ·
      (exfalso; omega)

end Go.Proofs.Ytdjflomhaljljaa

namespace Go.Proofs.Ytdjflomhaljljaa
open Go.SL Go.Proofs Go.Cast
set_option linter.unusedVariables false

theorem Z93 : ZeroOf Try.prog 93 (.agg #[.int .i64 0, .int .i64 0, .int .i64 0, .int .i64 0, .int .i64 0, .slice none 0 0]) := by unfold ZeroOf; kernel_rfl
theorem N93 : (Try.prog.info? 93).map (·.size) = some 6 := by kernel_rfl
theorem C33 : IsFn Try.prog 33 := ⟨_, Try.func33, by decide, rfl⟩


def sF : Sp := ⟨gG, rgS, 1000, 500, 600⟩
def zS18 : List Span := List.replicate 18 ⟨0, 0⟩
/-- The entry that the law makes at a turn. -/
def enF (tn : Int) (i : Nat) : EnP := if ((i : Nat) : Int).tmod (2 + tn.tmod 5) = 0 then ⟨i, [], gZ, [], 0⟩ else ⟨i, [], gG, zS18, 5⟩
def lF (tn : Int) : List EnP := (List.range 301).map (enF tn)
theorem lF_len {tn : Int} : (lF tn).length = 301 := by simp [lF]
theorem lF_get {tn : Int} {i : Nat} (h : i < 301) : (lF tn)[i]? = some (enF tn i) := by unfold lF; rw [List.getElem?_map, List.getElem?_range h]; rfl
theorem enF_canon {tn : Int} {i : Nat} : (enF tn i).canon = enF tn i := by
  unfold enF
  split
  · rfl
  · rfl
theorem enF_t {tn : Int} {i : Nat} : (enF tn i).t = i := by unfold enF; split <;> rfl
theorem lF_canon {tn : Int} {n : Nat} : ((lF tn).take n).map EnP.canon = (lF tn).take n := by
  rw [List.map_congr_left (g := id), List.map_id]
  intro x hx
  obtain ⟨i, _, rfl⟩ := List.mem_map.1 (List.mem_of_mem_take hx)
  exact enF_canon
theorem tsF_lt {tn : Int} {n : Nat} : ∀ t, t ∈ tsP ((lF tn).take n) → t < (n : Int) := fun t ht => by
  unfold tsP at ht
  obtain ⟨x, hx, rfl⟩ := List.mem_map.1 ht
  have hx2 := (List.mem_filter.1 hx).1
  obtain ⟨k, hk⟩ := List.mem_iff_getElem?.1 hx2
  rw [List.getElem?_take] at hk
  split at hk
  · rename_i q
    have hk3 : k < 301 := by
      rcases Nat.lt_or_ge k 301 with z | z
      · exact z
      · rw [List.getElem?_eq_none (by rw [lF_len]; exact z)] at hk; cases hk
    rw [lF_get hk3] at hk
    cases hk
    rw [enF_t]; omega
  · cases hk
theorem lastI_mem {l : List Int} (h : 0 < l.length) : lastI l ∈ l := by unfold lastI; exact getD_mem (by omega)
theorem okF {tn : Int} {i : Nat} (hi : i < 256) : enE sF ((lF tn).take i) (enF tn i) = 0 := by
  have hl : ((lF tn).take i).length = i := by rw [List.length_take, lF_len]; omega
  unfold enE
  have ht := enF_t (tn := tn) (i := i)
  by_cases q : ((i : Nat) : Int).tmod (2 + tn.tmod 5) = 0
  · have e : enF tn i = ⟨i, [], gZ, [], 0⟩ := if_pos q
    rw [e]
    dsimp only
    rw [if_pos rfl, if_neg (by omega), if_neg, if_neg (by omega)]
    · decide
    · rintro ⟨h1, h2⟩
      have := tsF_lt _ (lastI_mem h1)
      omega
  · have e : enF tn i = ⟨i, [], gG, zS18, 5⟩ := if_neg q
    rw [e]
    dsimp only
    rw [if_neg (by decide), if_neg (by omega), if_neg (by omega), if_neg (fun q => q (by decide +kernel)), if_neg (fun q => q rfl), if_neg (by decide)]
theorem lateF {tn : Int} {o : OfM} {i k : Nat} (h : PlA sF (lF tn) o k) (hk : k ≤ i) : ¬ (0 < o.ts.length ∧ (i : Int) ≤ lastI o.ts) := by
  rintro ⟨h1, h2⟩
  have := lastI_mem h1
  rw [h.ts] at this h2
  have := tsF_lt _ this
  omega
theorem stF {tn : Int} {o : OfM} {i : Nat} (h : PlA sF (lF tn) o 256) (hi : 256 ≤ i) (h2 : i < 301) : stpE o i [] = 13 := by
  have hl := h.len
  rw [List.length_take, lF_len] at hl
  unfold stpE
  rw [if_neg (by omega), if_neg (lateF h hi), if_pos (by omega)]
theorem ntF {tn lv : Int} {o : OfM} {f : Field} {i : Nat} (h : PlA sF (lF tn) o 256) (hi : 256 ≤ i) (h2 : i < 301) : noteE o i f lv = 13 := by
  have hl := h.len
  rw [List.length_take, lF_len] at hl
  unfold noteE
  rw [if_neg (by omega), if_pos (by omega)]
theorem fl1 {i : Nat} (hf : i < 256) (h : ¬ (decide ((0 : Int) = 0) = decide ((i : Int) < 256)) ∨ (¬ (0 : Int) = 0 ∧ ¬ (0 : Int) = 13)) : False := by
  rcases h with h | h
  · exact h (by rw [decide_eq_true (by omega : (i : Int) < 256)]; rfl)
  · exact h.1 rfl
theorem fl2 {i : Nat} (hf : ¬ i < 256) (h : ¬ (decide ((13 : Int) = 0) = decide ((i : Int) < 256)) ∨ (¬ (13 : Int) = 0 ∧ ¬ (13 : Int) = 13)) : False := by
  rcases h with h | h
  · exact h (by rw [decide_eq_false (by omega : ¬ (i : Int) < 256)]; rfl)
  · exact h.2 rfl
theorem clNil {w : World} : Clouds w none [] := ⟨RO.nilE, fun x hx => by cases hx⟩
theorem log_frame {w : World} {p : Option Addr} {c : Nat} {l : List EnM} {o : OfM} (hp : l.map EnM.p = o.lg.map LgM.enp) (hok : LgOk o) (h1 : (own 169 9 p c (l.map EnM.cells)).inv w) (h2 : (bagD (l.flatMap EnM.res)).inv w) : LogM w p l := by
  refine ⟨own_inv_rows h1, fun x hx => ?_⟩
  have hb : x.p.bd := by
    have : x.p ∈ o.lg.map LgM.enp := by rw [← hp]; exact List.mem_map_of_mem hx
    obtain ⟨y, hy, e⟩ := List.mem_map.1 this
    rw [← e]; exact hok y hy
  have m1 := h2.1 (own 80 7 x.pc x.cc (x.l.map CP.cells)) (List.mem_flatMap.2 ⟨x, hx, .head _⟩)
  have m2 := h2.1 (bagD (x.l.flatMap cpR)) (List.mem_flatMap.2 ⟨x, hx, .tail _ (.head _)⟩)
  have m3 := h2.1 (own 76 2 x.pv x.cv (x.vs.map Span.cells)) (List.mem_flatMap.2 ⟨x, hx, .tail _ (.tail _ (.head _))⟩)
  have hb1 : x.l.length < 1000000000 := by have := hb.1; simpa [EnM.p] using this
  refine ⟨⟨own_inv_rows m1, fun y hy => ?_⟩, own_inv_rows m3, hb1⟩
  have := cp_read m2 hy
  have hb2 := hb.2.1 y.c (List.mem_map_of_mem hy)
  exact ⟨this.1, this.2, hb2.1, hb2.2⟩
theorem lS_len (q : Nat × Nat × Nat) : ∀ x, x ∈ lS q → x.r.pix.length < 1000000000000 := fun x hx => by
  simp only [lS, List.mem_cons, List.not_mem_nil, or_false] at hx
  rcases hx with rfl | rfl
  · exact show (4 : Nat) < 1000000000000 by decide
  · exact show (3 : Nat) < 1000000000000 by decide

set_option maxRecDepth 20000 in
set_option maxHeartbeats 4000000 in
theorem IssueFull_c (cn tn : Int) (w : World) (hc : U16 cn) (ht : U8 tn) :
  Calls Try.prog 7 #[.int .u16 cn, .int .u8 tn] w fun e w' => e = .returned (.bool true) ∧ St (bs w) [] w' := by
  unfold U16 at hc
  unfold U8 at ht
  have hcm := tm hc.1 (show (0 : Int) < 301 by decide)
  have htm := tm ht.1 (show (0 : Int) < 5 by decide)
  refine enter (vs := [_, _]) (env := [(0, _), (1, _)]) Try.func7 rfl rfl rfl rfl ?_
  refine VC.seq ?_
  refine VC.reg (VO.l (LO.as (.r rfl)) rfl <| VO.nil ?_)
  refine VE.seqN ?_
  refine VC.seq ?_
  refine VC.reg (VO.h rfl <| HO.callx (xs := []) (vs := []) C30 trivial (fun w _ => S_c w) fun q _ => VO.h rfl <| HO.callx (xs := [_]) (vs := [_]) C26 ⟨(.r rfl), trivial⟩ (fun w hw => New_c gG (lS q) _ 2 1000 500 600 w (show (2 : Nat) < 1000000000000 by decide) (regsS (St.inv hw 0 _ rfl) (St.inv hw 1 _ rfl) (St.inv hw 2 _ rfl)) specS) fun o hn => VO.h rfl <| HO.lo (LO.mv (.r rfl)) <| VO.h rfl <| HO.lo (LO.ex (.r rfl) rfl) <| VO.h rfl <| HO.lo (LO.ex (.r rfl) rfl) <| VO.h rfl <| HO.lo (LO.as (.r rfl)) <| VO.h rfl <| HO.lo (LO.as (.r rfl)) <| VO.nil ?_)
  refine VE.seqN ?_
  refine VC.seq ?_
  refine VC.seq ?_
  refine VC.reg (VO.l (LO.mv (.r rfl)) rfl <| VO.l (LO.ne (.r rfl) (.r rfl)) rfl <| VO.nil ?_)
  refine VE.seqN ?_
  refine VC.cond rfl (fun h18 => ?_) (fun h18 => ?_)
  ·
    (exfalso; exact h18 rfl)
  ·
    refine VC.skip (VE.seqN ?_)
    refine VC.seq ?_
    refine VC.drawB [⟨2, 21, fun b => .slice (some ⟨b, 0, none⟩) 18 18, 76, (List.replicate 18 [.int .i64 0, .int .i64 0]).flatten.toArray⟩, ⟨4, 7, fun b => .pointer (some ⟨b, 0, none⟩), 93, #[.int .i64 0, .int .i64 0, .int .i64 0, .int .i64 0, .int .i64 0, .slice none 0 0]⟩] [[0, 1, 2, 3, 4, 5, 6, 7, 8, 9, 10, 11, 12], [0, 1, 2, 3, 4, 5, 6, 7, 8, 9, 10, 11, 12], [0, 1, 2, 3, 4, 5, 6, 7, 8, 9, 10, 11, 12], [0, 1, 2, 3, 4, 5, 6, 7, 8, 9, 10, 11, 12], [0, 1, 2, 3, 4, 5, 6, 7, 8, 9, 10, 11, 12], [0, 1, 2, 3, 4, 5, 6, 7, 8, 9, 10, 11, 12], [0, 1, 2, 3, 4, 5, 6, 7, 8, 9, 10, 11, 12]] [none, none, none, none, none, none] mixed (by kernel_rfl) rfl (LX.s <| LX.s <| LX.s <| LX.s <| LX.s <| LX.s <| LX.nil) (⟨⟨rfl, _, rfl, FO.mks (n := 18) S91 I76 (.r rfl) (.r rfl) rfl (by decide) (by decide) (by decide)⟩, ⟨⟨rfl, _, rfl, FO.alloc Z93 rfl⟩, trivial⟩⟩) (HY.h rfl rfl fun X => HO.callx (xs := []) (vs := []) C30 trivial (fun w _ => S_c w) fun qb _ => ⟨[_, _, _, _, _, _, _, _, _, _, _, _, _, _, _, _], rfl, selJ (L1 := [_, _, _, _, _, _, _, _, _, _, _, _, _]) [3, 4, 5, 6, 7, 8, 9, 10, 11, 12, 13, 14, 15] rfl rfl rfl, HY.h rfl rfl fun X => HO.lo (LO.fd (vs := [_, _, _, _, _]) Try.underlying28 rfl rfl A23 (.r rfl) rfl) <| ⟨[_, _, _, _, _, _, _, _, _, _, _, _, _, _, _, _], rfl, selJ (L1 := [_, _, _, _, _, _, _, _, _, _, _, _, _]) [3, 4, 5, 6, 7, 8, 9, 10, 11, 12, 13, 14, 15] rfl rfl rfl, HY.f rfl fun b23 => ⟨selJ (L1 := [_, _, _, _, _, _, _, _, _, _, _, _, _]) [4, 5, 6, 7, 8, 9, 10, 11, 12, 13, 14, 15, 16] rfl rfl rfl, HY.h rfl rfl fun X => HO.lo (LO.bd (ps := [(_, _), (_, _)]) (vs := [(_, _), (_, _)]) (C := [_, _, _, _, _, _]) B93  ⟨(.r rfl), (.r rfl), trivial⟩ rfl ⟨_, [_, _, _, _, _], [_, _, _, _, _, _], rfl, rfl, rfl, rfl, ⟨_, [_], [_, _, _, _, _, _], rfl, rfl, rfl, rfl, rfl⟩⟩) <| ⟨[_, _, _, _, _, _, _, _, _, _, _, _, _, _, _, _, _], rfl, selJ (L1 := [_, _, _, _, _, _, _, _, _, _, _, _, _]) [4, 5, 6, 7, 8, 9, 10, 11, 12, 13, 14, 15, 16] rfl rfl rfl, HY.f rfl fun b24 => ⟨selJ (L1 := [_, _, _, _, _, _, _, _, _, _, _, _, _]) [5, 6, 7, 8, 9, 10, 11, 12, 13, 14, 15, 16, 17] rfl rfl rfl, HY.h0 rfl fun X => HO.st 0 (vs := [_, _, _, _, _, _]) (C' := [_, _, _, _, _, _]) (L' := [_, _, _, _, _, _, _, _, _, _, _, _, _, _, _, _, _, _] ++ X) N93 rfl rfl rfl rfl rfl rfl rfl rfl <| ⟨[_, _, _, _, _, _, _, _, _, _, _, _, _, _, _, _, _, _], rfl, selJ (L1 := [_, _, _, _, _, _, _, _, _, _, _, _, _]) [5, 6, 7, 8, 9, 10, 11, 12, 13, 14, 15, 16, 17] rfl rfl rfl, HY.nil ?_⟩⟩⟩⟩⟩⟩)
    refine VE.resL (L' := [_, own 76 2 (some ⟨b23, 0, none⟩) 18 (zS18.map Span.cells), _, _, _, _, _, _, _, _, _, _, _, _, _, _, _, _]) (fun w hw => Go.Proofs.Ytdjflomhaljljaa.St.blkRows hw 1 (rows := zS18.map Span.cells) rfl rfl (fun r hr => by obtain ⟨x, _, e⟩ := List.mem_map.1 hr; rw [← e]; rfl)) ?_
    refine VE.seqN ?_
    refine VC.seq ?_
    refine VC.seq ?_
    refine VC.reg (VO.l (LO.as (.r rfl)) rfl <| VO.nil ?_)
    refine VE.seqN ?_
    refine VC.block ?_
    refine VC.perm [5, 6, 7, 8, 9, 10, 11, 12, 13, 14, 0, 1, 2, 3, 4, 15, 16, 17] rfl ?_
    refine VC.loopK (α := Nat × OfM) 10 (fun gx => [(8, .int .i64 (gx.1 : Nat))]) [(0, _), (1, _), (5, _), (7, _)] (fun gx => [OfM.blk gx.2, OfM.rgR gx.2, OfM.pxB gx.2, OfM.rcR gx.2, OfM.rcB gx.2, OfM.tsR gx.2, OfM.csR gx.2, OfM.csB gx.2, OfM.lgR gx.2, OfM.lgB gx.2]) (fun gx => (gx.1 : Int) ≤ cn.tmod 301 ∧ gx.2.b = o.b ∧ PlA sF (lF tn) gx.2 (min gx.1 256)) (fun gx => (cn.tmod 301).toNat - gx.1) (0, o) (by exact ⟨by omega, rfl, spec_new hn rfl specS (lS_len q)⟩) (.cons rfl (.cons rfl (.cons rfl (.cons rfl (.cons rfl .nil))))) (fun _ h => h) ?_
    rintro ⟨i, o_⟩ ⟨hi, hob, hR⟩
    show VC _ _ _ _ _ ([(8, .int .i64 (i : Nat))] ++ _) ([OfM.blk o_, OfM.rgR o_, OfM.pxB o_, OfM.rcR o_, OfM.rcB o_, OfM.tsR o_, OfM.csR o_, OfM.csB o_, OfM.lgR o_, OfM.lgB o_] ++ _) _ _
    dsimp only at hi hob hR
    rw [← hob]
    have hrn := hR.sim.wf.n
    refine VC.seq ?_
    refine VC.seq ?_
    refine VC.reg (VO.l (LO.mv (.r rfl)) rfl <| VO.l (LO.mv (.r rfl)) rfl <| VO.l (LO.cv ⟨_, Try.underlying46⟩ Try.underlying3 (.r rfl) (wi (by omega) (by omega))) rfl <| VO.l (LO.rem (.r rfl) (.r rfl) (by decide)) rfl <| VO.l (LO.lt (.r rfl) (.r rfl)) rfl <| VO.nil ?_)
    refine VE.seqN ?_
    refine VC.cond rfl (fun h27 => ?_) (fun h27 => ?_)
    ·
      have hi1 : i < 301 := by omega
      refine VC.skip (VE.seqN ?_)
      refine VC.seq ?_
      refine VC.block ?_
      refine VC.seq ?_
      refine VC.reg (VO.l (LO.as (.r rfl)) rfl <| VO.nil ?_)
      refine VE.seqN ?_
      refine VC.seq ?_
      refine VC.seq ?_
      refine VC.reg (VO.l (LO.mv (.r rfl)) rfl <| VO.l (LO.mv (.r rfl)) rfl <| VO.l (LO.cv ⟨_, Try.underlying5⟩ Try.underlying3 (.r rfl) (wi (by omega) (by omega))) rfl <| VO.l (LO.rem (.r rfl) (.r rfl) (by decide)) rfl <| VO.l (LO.add (.r rfl) (.r rfl) (wi (by omega) (by omega))) rfl <| VO.l (LO.rem (.r rfl) (.r rfl) (by omega)) rfl <| VO.l (LO.eq (.r rfl) (.r rfl)) rfl <| VO.nil ?_)
      refine VE.seqN ?_
      refine VC.cond rfl (fun h36 => ?_) (fun h36 => ?_)
      ·
        have he36 : enF tn i = ⟨i, [], gZ, [], 0⟩ := if_pos h36
        by_cases hf : i < 256
        ·
          have hlate : o_.ts = [] ∨ lastI o_.ts < ((i : Nat) : Int) := by rcases Nat.eq_zero_or_pos o_.ts.length with z | z; (· exact .inl (List.eq_nil_of_length_eq_zero z)); (· exact .inr (by have := lateF (i := i) hR (by omega); omega))
          refine VC.reg (VO.l (LO.mv (.r rfl)) rfl <| VO.l (LO.mv (.r rfl)) rfl <| VO.h rfl <| HO.callP (first := []) (cap := []) (xs := [_, _, _]) (vs := [_, _, _]) [_, _, _, _, _, _, _, _, _, _] [_, _, _, _, _, _, _, _] (selK (L1 := [_, _, _, _, _, _, _, _, _, _] ++ [_, _, _, _, _, _, _, _]) [0, 1, 2, 3, 4, 5, 6, 7, 8, 9, 10, 11, 12, 13, 14, 15, 16, 17] rfl rfl) (.r rfl) C27 ⟨(.r rfl), (.r rfl), (.r rfl), trivial⟩ (fun w hw hh => Step_s o_ _ ((i : Nat) : Int) [] none 0 w hh (fun _ => clNil) (by decide) hR.sim (by omega) (by omega) hlate (by have h2 := hR.len; rw [List.length_take, lF_len] at h2; omega) (by rw [hR.g]; decide +kernel)) fun y hy => VO.h rfl <| HO.lo (LO.mv (.r rfl)) <| VO.h rfl <| HO.lo (LO.ex (.r rfl) rfl) <| VO.h rfl <| HO.lo (LO.ex (.r rfl) rfl) <| VO.h rfl <| HO.lo (LO.as (.r rfl)) <| VO.nil ?_)
          refine VE.seqN ?_
          refine VC.seq ?_
          refine VC.reg (VO.l (LO.mv (.r rfl)) rfl <| VO.l (LO.eq (.r rfl) (.r rfl)) rfl <| VO.l (LO.mv (.r rfl)) rfl <| VO.l (LO.lt (.r rfl) (.r rfl)) rfl <| VO.l (LO.neB Try.underlying4 (.r rfl) (.r rfl)) rfl <| VO.l (LO.mv (.r rfl)) rfl <| VO.lg rfl rfl (GD.f _) (fun hg => LO.mv (.r rfl)) rfl <| VO.lg rfl rfl (GD.f _) (fun hg => LO.ne (.g hg rfl) (.r rfl)) rfl <| VO.lg rfl rfl (GD.f _) (fun hg => LO.mv (.g hg rfl)) rfl <| VO.lg rfl rfl (GD.nt _ _) (fun hg => LO.mv (.r rfl)) rfl <| VO.lg rfl rfl (GD.nt _ _) (fun hg => LO.ne (.g hg rfl) (.r rfl)) rfl <| VO.lg rfl rfl (GD.f _) (fun hg => LO.pkA (.g hg rfl) rfl (and_e hg) (.r rfl)) rfl <| VO.l (LO.pkO (.r rfl) (.r rfl) rfl rfl) rfl <| VO.nil ?_)
          refine VE.seqN ?_
          refine VC.cond rfl (fun h59 => ?_) (fun h59 => ?_)
          ·
            (exfalso; first | exact fl1 hf h59 | exact fl2 hf h59)
          ·
            refine VC.skip (VE.inN (VE.seqN ?_))
            refine VC.reg (VO.l (LO.mv (.r rfl)) rfl <| VO.l (LO.add (.r rfl) (.r rfl) (wi (by omega) (by omega))) rfl <| VO.l (LO.as (.r rfl)) rfl <| VO.nil ?_)
            refine VE.thenN fun a w ha hw => ⟨(i + 1, y.o o_ ((i : Nat) : Int)), ⟨by dsimp only; omega, rfl, by dsimp only; rw [show min i 256 = i by omega] at hR hy; rw [show min (i + 1) 256 = i + 1 by omega]; exact hR.step (x := ⟨i, [], gZ, [], 0⟩) (by rw [← he36]; exact lF_get (by omega)) rfl ⟨show (0 : Nat) < 1000000000 by decide, fun c hc => by cases hc⟩ hy.1 hy.2.1⟩, (by dsimp only; omega), ha.sub (.cons rfl (.cons rfl (.cons rfl (.cons rfl (.cons rfl .nil))))), (by exact selK (L1 := [_, _, _, _, _, _, _, _, _, _, _, _, _, _, _, _, _, _]) [1, 2, 3, 4, 5, 6, 7, 8, 9, 10, 11, 12, 13, 14, 15, 16, 17, 18] rfl rfl _ hw)⟩
        ·
          refine VC.reg (VO.l (LO.mv (.r rfl)) rfl <| VO.l (LO.mv (.r rfl)) rfl <| VO.l (LO.call (xs := [_, _, _]) (vs := [_, _, _]) C27 ⟨(.r rfl), (.r rfl), (.r rfl), trivial⟩ (fun w hw => by have z := Step_e o_ ((i : Nat) : Int) [] none 0 w (by omega) (by have h1 := hR.sim.wf.ts; have h2 := hR.len; rw [List.length_take, lF_len] at h2; omega) hR.sim.wf.spec ((selK (L1 := offR o_) [0, 1, 2, 3, 4, 5, 6, 7, 8, 9] rfl rfl w hw).has (List.Sublist.refl _)) (by decide) clNil (by rw [show stpE o_ ((i : Nat) : Int) (List.map CP.c []) = 13 from stF (by rw [show min i 256 = 256 by omega] at hR; exact hR) (by omega) (by omega)]; decide); rw [show stpE o_ ((i : Nat) : Int) (List.map CP.c []) = 13 from stF (by rw [show min i 256 = 256 by omega] at hR; exact hR) (by omega) (by omega)] at z; exact z)) rfl <| VO.l (LO.mv (.r rfl)) rfl <| VO.l (LO.ex (.r rfl) rfl) rfl <| VO.l (LO.ex (.r rfl) rfl) rfl <| VO.l (LO.as (.r rfl)) rfl <| VO.nil ?_)
          refine VE.seqN ?_
          refine VC.seq ?_
          refine VC.reg (VO.l (LO.mv (.r rfl)) rfl <| VO.l (LO.eq (.r rfl) (.r rfl)) rfl <| VO.l (LO.mv (.r rfl)) rfl <| VO.l (LO.lt (.r rfl) (.r rfl)) rfl <| VO.l (LO.neB Try.underlying4 (.r rfl) (.r rfl)) rfl <| VO.l (LO.mv (.r rfl)) rfl <| VO.lg rfl rfl (GD.f _) (fun hg => LO.mv (.r rfl)) rfl <| VO.lg rfl rfl (GD.f _) (fun hg => LO.ne (.g hg rfl) (.r rfl)) rfl <| VO.lg rfl rfl (GD.f _) (fun hg => LO.mv (.g hg rfl)) rfl <| VO.lg rfl rfl (GD.nt _ _) (fun hg => LO.mv (.r rfl)) rfl <| VO.lg rfl rfl (GD.nt _ _) (fun hg => LO.ne (.g hg rfl) (.r rfl)) rfl <| VO.lg rfl rfl (GD.f _) (fun hg => LO.pkA (.g hg rfl) rfl (and_e hg) (.r rfl)) rfl <| VO.l (LO.pkO (.r rfl) (.r rfl) rfl rfl) rfl <| VO.nil ?_)
          refine VE.seqN ?_
          refine VC.cond rfl (fun h59 => ?_) (fun h59 => ?_)
          ·
            (exfalso; first | exact fl1 hf h59 | exact fl2 hf h59)
          ·
            refine VC.skip (VE.inN (VE.seqN ?_))
            refine VC.reg (VO.l (LO.mv (.r rfl)) rfl <| VO.l (LO.add (.r rfl) (.r rfl) (wi (by omega) (by omega))) rfl <| VO.l (LO.as (.r rfl)) rfl <| VO.nil ?_)
            refine VE.thenN fun a w ha hw => ⟨(i + 1, o_), ⟨by dsimp only; omega, rfl, by dsimp only; rw [show min (i + 1) 256 = min i 256 by omega]; exact hR⟩, (by dsimp only; omega), ha.sub (.cons rfl (.cons rfl (.cons rfl (.cons rfl (.cons rfl .nil))))), (by exact selK (L1 := [_, _, _, _, _, _, _, _, _, _, _, _, _, _, _, _, _, _]) [0, 1, 2, 3, 4, 5, 6, 7, 8, 9, 10, 11, 12, 13, 14, 15, 16, 17] rfl rfl _ hw)⟩
      ·
        have he36 : enF tn i = ⟨i, [], gG, zS18, 5⟩ := if_neg h36
        by_cases hf : i < 256
        ·
          refine VC.reg (VO.l (LO.mv (.r rfl)) rfl <| VO.l (LO.mv (.r rfl)) rfl <| VO.l (LO.lda (vs := [_, _, _, _, _, _]) A93 (.r rfl) (fun _ hw => cells_at hw 10 rfl ⟨_, rfl⟩) rfl) rfl <| VO.h rfl <| HO.callP (first := []) (cap := []) (xs := [_, _, _, _]) (vs := [_, _, _, _]) [_, _, _, _, _, _, _, _, _, _] [_, _, _, _, _, _, _, _] (selK (L1 := [_, _, _, _, _, _, _, _, _, _] ++ [_, _, _, _, _, _, _, _]) [0, 1, 2, 3, 4, 5, 6, 7, 8, 9, 10, 11, 12, 13, 14, 15, 16, 17] rfl rfl) (.r rfl) C31 ⟨(.r rfl), (.r rfl), (.r rfl), (.r rfl), trivial⟩ (fun w hw hh => Note_c o_ ((i : Nat) : Int) ⟨gG, zS18⟩ (some ⟨b23, 0, none⟩) 18 5 w (by omega) hh (fun hs => own_inv_rows (restInv (selK (L1 := offR o_ ++ [_]) [0, 1, 2, 3, 4, 5, 6, 7, 8, 9, 11] rfl rfl w hw) hs (.head _))) (by have z := hR.nt (x := enF tn i) (by rw [he36]; exact show ¬ (5 : Int) = 0 by decide); rw [he36] at z; rw [z, ← he36, show min i 256 = i by omega]; exact okF hf)) fun y _ => VO.h rfl <| HO.lo (LO.as (.r rfl)) <| VO.nil ?_)
          refine VE.seqN ?_
          refine VC.seq ?_
          refine VC.reg (VO.l (LO.mv (.r rfl)) rfl <| VO.l (LO.eq (.r rfl) (.r rfl)) rfl <| VO.l (LO.mv (.r rfl)) rfl <| VO.l (LO.lt (.r rfl) (.r rfl)) rfl <| VO.l (LO.neB Try.underlying4 (.r rfl) (.r rfl)) rfl <| VO.l (LO.mv (.r rfl)) rfl <| VO.lg rfl rfl (GD.f _) (fun hg => LO.mv (.r rfl)) rfl <| VO.lg rfl rfl (GD.f _) (fun hg => LO.ne (.g hg rfl) (.r rfl)) rfl <| VO.lg rfl rfl (GD.f _) (fun hg => LO.mv (.g hg rfl)) rfl <| VO.lg rfl rfl (GD.nt _ _) (fun hg => LO.mv (.r rfl)) rfl <| VO.lg rfl rfl (GD.nt _ _) (fun hg => LO.ne (.g hg rfl) (.r rfl)) rfl <| VO.lg rfl rfl (GD.f _) (fun hg => LO.pkA (.g hg rfl) rfl (and_e hg) (.r rfl)) rfl <| VO.l (LO.pkO (.r rfl) (.r rfl) rfl rfl) rfl <| VO.nil ?_)
          refine VE.seqN ?_
          refine VC.cond rfl (fun h59 => ?_) (fun h59 => ?_)
          ·
            (exfalso; first | exact fl1 hf h59 | exact fl2 hf h59)
          ·
            refine VC.skip (VE.inN (VE.seqN ?_))
            refine VC.reg (VO.l (LO.mv (.r rfl)) rfl <| VO.l (LO.add (.r rfl) (.r rfl) (wi (by omega) (by omega))) rfl <| VO.l (LO.as (.r rfl)) rfl <| VO.nil ?_)
            refine VE.thenN fun a w ha hw => ⟨(i + 1, { o_ with lg := o_.lg ++ [LgM.nt ((i : Nat) : Int) gG y.1.1 y.1.2 zS18 5], pl := y.2.1, cl := y.2.2 }), ⟨by dsimp only; omega, rfl, by dsimp only; rw [show min i 256 = i by omega] at hR; rw [show min (i + 1) 256 = i + 1 by omega]; exact hR.note (x := ⟨i, [], gG, zS18, 5⟩) (by rw [← he36]; exact lF_get (by omega)) (show ¬ (5 : Int) = 0 by decide) (show zS18.length ≤ 4096 by decide)⟩, (by dsimp only; omega), ha.sub (.cons rfl (.cons rfl (.cons rfl (.cons rfl (.cons rfl .nil))))), (by exact selK (L1 := [_, _, _, _, _, _, _, _, _, _, _, _, _, _, _, _, _, _]) [0, 1, 2, 3, 4, 5, 6, 7, 8, 9, 10, 11, 12, 13, 14, 15, 16, 17] rfl rfl _ hw)⟩
        ·
          refine VC.reg (VO.l (LO.mv (.r rfl)) rfl <| VO.l (LO.mv (.r rfl)) rfl <| VO.l (LO.lda (vs := [_, _, _, _, _, _]) A93 (.r rfl) (fun _ hw => cells_at hw 10 rfl ⟨_, rfl⟩) rfl) rfl <| VO.l (LO.call (xs := [_, _, _, _]) (vs := [_, _, _, _]) C31 ⟨(.r rfl), (.r rfl), (.r rfl), (.r rfl), trivial⟩ (fun w hw => by have z := Note_e o_ ((i : Nat) : Int) ⟨gG, zS18⟩ (some ⟨b23, 0, none⟩) 18 5 w (by omega) ((selK (L1 := offR o_) [0, 1, 2, 3, 4, 5, 6, 7, 8, 9] rfl rfl w hw).has (List.Sublist.refl _)) (own_rows hw 11 rfl) (by rw [ntF (by rw [show min i 256 = 256 by omega] at hR; exact hR) (by omega) (by omega)]; decide); rw [ntF (by rw [show min i 256 = 256 by omega] at hR; exact hR) (by omega) (by omega)] at z; exact z)) rfl <| VO.l (LO.as (.r rfl)) rfl <| VO.nil ?_)
          refine VE.seqN ?_
          refine VC.seq ?_
          refine VC.reg (VO.l (LO.mv (.r rfl)) rfl <| VO.l (LO.eq (.r rfl) (.r rfl)) rfl <| VO.l (LO.mv (.r rfl)) rfl <| VO.l (LO.lt (.r rfl) (.r rfl)) rfl <| VO.l (LO.neB Try.underlying4 (.r rfl) (.r rfl)) rfl <| VO.l (LO.mv (.r rfl)) rfl <| VO.lg rfl rfl (GD.f _) (fun hg => LO.mv (.r rfl)) rfl <| VO.lg rfl rfl (GD.f _) (fun hg => LO.ne (.g hg rfl) (.r rfl)) rfl <| VO.lg rfl rfl (GD.f _) (fun hg => LO.mv (.g hg rfl)) rfl <| VO.lg rfl rfl (GD.nt _ _) (fun hg => LO.mv (.r rfl)) rfl <| VO.lg rfl rfl (GD.nt _ _) (fun hg => LO.ne (.g hg rfl) (.r rfl)) rfl <| VO.lg rfl rfl (GD.f _) (fun hg => LO.pkA (.g hg rfl) rfl (and_e hg) (.r rfl)) rfl <| VO.l (LO.pkO (.r rfl) (.r rfl) rfl rfl) rfl <| VO.nil ?_)
          refine VE.seqN ?_
          refine VC.cond rfl (fun h59 => ?_) (fun h59 => ?_)
          ·
            (exfalso; first | exact fl1 hf h59 | exact fl2 hf h59)
          ·
            refine VC.skip (VE.inN (VE.seqN ?_))
            refine VC.reg (VO.l (LO.mv (.r rfl)) rfl <| VO.l (LO.add (.r rfl) (.r rfl) (wi (by omega) (by omega))) rfl <| VO.l (LO.as (.r rfl)) rfl <| VO.nil ?_)
            refine VE.thenN fun a w ha hw => ⟨(i + 1, o_), ⟨by dsimp only; omega, rfl, by dsimp only; rw [show min (i + 1) 256 = min i 256 by omega]; exact hR⟩, (by dsimp only; omega), ha.sub (.cons rfl (.cons rfl (.cons rfl (.cons rfl (.cons rfl .nil))))), (by exact selK (L1 := [_, _, _, _, _, _, _, _, _, _, _, _, _, _, _, _, _, _]) [0, 1, 2, 3, 4, 5, 6, 7, 8, 9, 10, 11, 12, 13, 14, 15, 16, 17] rfl rfl _ hw)⟩
    ·
      have hxl : (o_.lg.map LgM.enp).length = min i 256 := by rw [List.length_map, hR.len, List.length_take, lF_len]; omega
      refine VC.exit (VE.thenX (VE.thenX (VE.inX (VE.seqN ?_))))
      refine VC.seq ?_
      refine VC.reg (VO.l (LO.mv (.r rfl)) rfl <| VO.h rfl <| HO.callx (xs := [_]) (vs := [_]) C32 ⟨(.r rfl), trivial⟩ (fun w hw => Log_c o_ w (by omega) (by omega) (by have h2 := hR.len; rw [List.length_take, lF_len] at h2; omega) hR.ok ((selK (L1 := offR o_) [0, 1, 2, 3, 4, 5, 6, 7, 8, 9] rfl rfl w hw).has (List.Sublist.refl _))) fun x hx => VO.h rfl <| HO.lo (LO.as (.r rfl)) <| VO.nil ?_)
      refine VE.seqN ?_
      refine VC.seq ?_
      refine VC.seq ?_
      have hx2 : x.2.length = min i 256 := by rw [← List.length_map (f := EnM.p), hx]; exact hxl
      refine VC.reg (VO.l (LO.mv (.r rfl)) rfl <| VO.l (LO.len S95 (.r rfl) rfl) rfl <| VO.l (LO.mv (.r rfl)) rfl <| VO.l (LO.cv ⟨_, Try.underlying46⟩ Try.underlying3 (.r rfl) (wi (by omega) (by omega))) rfl <| VO.l (LO.rem (.r rfl) (.r rfl) (by decide)) rfl <| VO.l (LO.min (.r rfl) (.r rfl)) rfl <| VO.l (LO.ne (.r rfl) (.r rfl)) rfl <| VO.nil ?_)
      refine VE.seqN ?_
      refine VC.cond rfl (fun h68 => ?_) (fun h68 => ?_)
      ·
        (exfalso; omega)
      ·
        have hall : ∀ (k : Nat) (y : EnM), x.2[k]? = some y → enE sF ((x.2.map EnM.p).take k) y.p = 0 := fun k y hk => by have h1 : (x.2.map EnM.p)[k]? = some y.p := (by rw [List.getElem?_map, hk]; rfl); rw [hx, hR.lg, lF_canon] at h1 ⊢; rw [List.getElem?_take] at h1; split at h1; (· rename_i hk2; rw [lF_get (by omega)] at h1; rw [← Option.some.inj h1, List.take_take, show min k (min i 256) = k by omega]; exact okF (by omega)); (· cases h1)
        refine VC.skip (VE.seqN ?_)
        refine VC.seq ?_
        refine VC.reg (VO.h rfl <| HO.callx (xs := []) (vs := []) C30 trivial (fun w _ => S_c w) fun qc _ => VO.l (LO.mv (.r rfl)) rfl <| VO.h rfl <| HO.callx (xs := [_, _]) (vs := [_, _]) C33 ⟨(.r rfl), (.r rfl), trivial⟩ (fun w hw => Play_ok gG (lS qc) _ 2 1000 500 600 sF x.2 x.1.1 x.1.2 w rfl specS (show (2 : Nat) < 1000000000000 by decide) (regsS (St.inv hw 0 _ rfl) (St.inv hw 1 _ rfl) (St.inv hw 2 _ rfl)) (by omega) (log_frame hx hR.ok (St.inv hw 3 _ rfl) (St.inv hw 4 _ rfl)) hall) fun y hy => VO.h rfl <| HO.lo (LO.mv (.r rfl)) <| VO.h rfl <| HO.lo (LO.ex (.r rfl) rfl) <| VO.h rfl <| HO.lo (LO.ex (.r rfl) rfl) <| VO.h rfl <| HO.lo (LO.ex (.r rfl) rfl) <| VO.h rfl <| HO.lo (LO.as (.r rfl)) <| VO.h rfl <| HO.lo (LO.as (.r rfl)) <| VO.h rfl <| HO.lo (LO.as (.r rfl)) <| VO.nil ?_)
        refine VE.seqN ?_
        refine VC.seq ?_
        refine VC.seq ?_
        refine VC.reg (VO.l (LO.mv (.r rfl)) rfl <| VO.l (LO.ne (.r rfl) (.r rfl)) rfl <| VO.l (LO.mv (.r rfl)) rfl <| VO.lg rfl rfl (GD.f _) (fun hg => LO.mv (.r rfl)) rfl <| VO.lg rfl rfl (GD.f _) (fun hg => LO.eqPn ⟨_, Try.underlying53⟩ (.g hg rfl) (.r rfl)) rfl <| VO.l (LO.pkO (.r rfl) (.r rfl) rfl rfl) rfl <| VO.l (LO.mv (.r rfl)) rfl <| VO.lg rfl rfl (GD.f _) (fun hg => LO.mv (.r rfl)) rfl <| VO.bc (x := 82) rfl (fun hg18_6 => (by exfalso; exact absurd hg18_6 (by decide))) (fun hg18_6 => VO.gT rfl rfl (congrArg Value.bool hg18_6) rfl <| HO.callx (xs := [_]) (vs := [_]) C32 ⟨(.g (by rw [hg18_6]; rfl) rfl), trivial⟩ (fun w hw => Log_c y.o w (by have := hy.1.sim.wf.n; omega) (by have := hy.1.sim.wf.n; omega) (by have h2 := hy.1.len; rw [List.length_take, List.length_map] at h2; omega) hy.1.ok ((selK (L1 := offR y.o) [0, 1, 2, 3, 4, 5, 6, 7, 8, 9] rfl rfl w hw).has (List.Sublist.refl _))) fun z hz => VO.gT rfl rfl (congrArg Value.bool hg18_6) rfl <| HO.lo (LO.len S95 (.r rfl) rfl) <| VO.gT rfl rfl (congrArg Value.bool hg18_6) rfl <| HO.lo (LO.mv (.r rfl)) <| VO.gT rfl rfl (congrArg Value.bool hg18_6) rfl <| HO.lo (LO.len S95 (.r rfl) rfl) <| VO.gT rfl rfl (congrArg Value.bool hg18_6) rfl <| HO.lo (LO.ne (.r rfl) (.r rfl)) <| VO.h rfl <| HO.lo (LO.pkF (.r rfl) hg18_6 (.r rfl)) <| VO.nil ?_))
        refine VE.seqN ?_
        refine VC.cond rfl (fun h89 => ?_) (fun h89 => ?_)
        ·
          have hz2 : z.2.length = x.2.length := by rw [← List.length_map (f := EnM.p), hz, List.length_map, hy.1.len, List.length_take, List.length_map]; omega
          (exfalso; exact h89 (congrArg Nat.cast hz2))
        ·
          refine VC.skip (VE.seqN ?_)
          refine VC.seq ?_
          refine VC.drawD [⟨1, 92, fun b => .slice (some ⟨b, 0, none⟩) 257 257, 169, (List.replicate 257 [.int .i64 0, .slice none 0 0, .int .i64 0, .int .i64 0, .int .i64 0, .int .i64 0, .int .i64 0, .slice none 0 0, .int .i64 0]).flatten.toArray⟩] [2] [[0, 1, 2, 3, 4, 5, 6, 7, 8, 9, 10, 11, 12, 13, 14, 15, 16, 17, 18, 19, 20, 21, 22, 23, 24, 25, 26, 27, 28, 29, 30, 31, 32, 33, 34, 35], [0, 1, 2, 3, 4, 5, 6, 7, 8, 9, 10, 11, 12, 13, 14, 15, 16, 17, 18, 19, 20, 21, 22, 23, 24, 25, 26, 27, 28, 29, 30, 31, 32, 33, 34, 35], [0, 1, 2, 3, 4, 5, 6, 7, 8, 9, 10, 11, 12, 13, 14, 15, 16, 17, 18, 19, 20, 21, 22, 23, 24, 25, 26, 27, 28, 29, 30, 31, 32, 33, 34, 35], [0, 1, 2, 3, 4, 5, 6, 7, 8, 9, 10, 11, 12, 13, 14, 15, 16, 17, 18, 19, 20, 21, 22, 23, 24, 25, 26, 27, 28, 29, 30, 31, 32, 33, 34, 35]] [none, none, none, some 3, some 3, some 3, some 3, some 3] mixed (by kernel_rfl) rfl (LXD.s rfl <| LXD.s rfl <| LXD.d ((.tuple #[.pointer none, .slice none 0 0, .int .i64 9])) rfl <| LXD.l (fun _ hJ => LO.mv (.r rfl)) rfl <| LXD.l (fun _ hJ => LO.ex (.r rfl) rfl) rfl <| LXD.l (fun _ hJ => LO.ex (.r rfl) rfl) rfl <| LXD.l (fun _ hJ => LO.ex (.r rfl) rfl) rfl <| LXD.l (fun _ hJ => LO.as (.r rfl)) rfl <| LXD.nil) (⟨⟨rfl, _, rfl, FO.mks (n := 257) S95 I169 (.r rfl) (.r rfl) rfl (by decide) (by decide) (by decide)⟩, trivial⟩) (HYD.h rfl rfl rfl fun X => HO.callx (xs := []) (vs := []) C30 trivial (fun w _ => S_c w) fun qd _ => ⟨[_, _, _, _, _, _, _, _, _, _, _, _, _, _, _, _, _, _, _, _, _, _, _, _, _, _, _, _, _, _, _, _, _, _, _, _, _, _, _], rfl, selJ (L1 := [_, _, _, _, _, _, _, _, _, _, _, _, _, _, _, _, _, _, _, _, _, _, _, _, _, _, _, _, _, _, _, _, _, _, _, _]) [3, 4, 5, 6, 7, 8, 9, 10, 11, 12, 13, 14, 15, 16, 17, 18, 19, 20, 21, 22, 23, 24, 25, 26, 27, 28, 29, 30, 31, 32, 33, 34, 35, 36, 37, 38] rfl rfl rfl, HYD.f rfl fun b72 => ⟨selJ (L1 := [_, _, _, _, _, _, _, _, _, _, _, _, _, _, _, _, _, _, _, _, _, _, _, _, _, _, _, _, _, _, _, _, _, _, _, _]) [4, 5, 6, 7, 8, 9, 10, 11, 12, 13, 14, 15, 16, 17, 18, 19, 20, 21, 22, 23, 24, 25, 26, 27, 28, 29, 30, 31, 32, 33, 34, 35, 36, 37, 38, 39] rfl rfl rfl, HYD.d rfl rfl fun X => HO.lo (LO.call (xs := [_, _]) (vs := [_, _]) C33 ⟨(.r rfl), (.r rfl), trivial⟩ (fun w hw => Play_many gG (lS qd) _ 2 1000 500 600 sF (List.replicate 257 ⟨0, [], none, 0, gZ, [], none, 0, 0⟩) _ _ w rfl specS (show (2 : Nat) < 1000000000000 by decide) (regsS (St.inv hw 1 _ rfl) (St.inv hw 2 _ rfl) (St.inv hw 3 _ rfl)) (by decide))) <| ⟨rfl, [_, _, _, _, _, _, _, _, _, _, _, _, _, _, _, _, _, _, _, _, _, _, _, _, _, _, _, _, _, _, _, _, _, _, _, _, _, _, _, _], rfl, selJ (L1 := [_, _, _, _, _, _, _, _, _, _, _, _, _, _, _, _, _, _, _, _, _, _, _, _, _, _, _, _, _, _, _, _, _, _, _, _]) [4, 5, 6, 7, 8, 9, 10, 11, 12, 13, 14, 15, 16, 17, 18, 19, 20, 21, 22, 23, 24, 25, 26, 27, 28, 29, 30, 31, 32, 33, 34, 35, 36, 37, 38, 39] rfl rfl rfl, HYD.s <| HYD.s <| HYD.s <| HYD.s <| HYD.s <| HYD.nil ?_⟩⟩⟩)
          refine VE.seqN ?_
          refine VC.seq ?_
          refine VC.reg (VO.l (LO.mv (.r rfl)) rfl <| VO.l (LO.eq (.r rfl) (.r rfl)) rfl <| VO.l (LO.mv (.r rfl)) rfl <| VO.lg rfl rfl (GD.t _) (fun hg => LO.call (xs := []) (vs := []) C14 trivial (fun w _ => works_c w)) rfl <| VO.l (LO.pkA (.r rfl) rfl rfl (.r rfl)) rfl <| VO.l (LO.as (.r rfl)) rfl <| VO.nil ?_)
          refine VE.seqN ?_
          refine VC.ret (VE.res (vs := [_]) rfl ⟨rfl, trivial⟩ (fun w hw => ?_))
          refine ⟨?_, hw.nil⟩
          first | rfl | (simp only [resV]; rfl)

end Go.Proofs.Ytdjflomhaljljaa
