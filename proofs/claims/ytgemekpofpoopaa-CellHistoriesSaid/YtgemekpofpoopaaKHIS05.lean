/-
  Tree, by the program.
  Pairs of maps, spreads, kinds.
  What follows what, by the program.
  Moves, by the program.
  Moves, by the program.
  Groups, by the program.
  Which event has an area, by the program.
  Events, by the program.
  Match, by the program.
  Books, and new ones.
  A book's begin.
-/
import Derived.Test.YtgemekpofpoopaaKHIS04

set_option linter.unusedSimpArgs false
namespace Go.Proofs.Ytgemekpofpoopaa
open Go.SL Go.Proofs Go.Cast Go.Cell
set_option linter.unusedVariables false

theorem F73_0 : FieldAt Try.prog 73 0 0 := ⟨_,_, Try.underlying73, rfl, rfl, 0, by kernel_rfl⟩


def lvlE (ls : List Int) (i : Nat) : Int := if ls.getD i 0 < 1 ∨ 1073741824 < ls.getD i 0 then 3 else if 0 < i ∧ ls.getD i 0 ≤ ls.getD (i - 1) 0 then 12 else 0
def treeE (g : Grid) (vs : List Span) (ls : List Int) : Int := if fieldE 1073741824 ⟨g, vs⟩ ≠ 0 then fieldE 1073741824 ⟨g, vs⟩ else if ls.length < 1 ∨ 16 < ls.length then 3 else firstE (lvlE ls) ls.length
/-- The parts at the level before. -/
def prevP (W H : Nat) (vs : List Span) (ls : List Int) (i : Nat) : List (List Nat) := if i = 0 then [] else partsL W H (mayB vs (ls.getD (i - 1) 0))
def treeAt (W H : Nat) (vs : List Span) (ls : List Int) (i : Nat) : List Int := (partsL W H (mayB vs (ls.getD i 0))).map fun l => idxL (prevP W H vs ls i) (l.headD 0)
def treeM (W H : Nat) (vs : List Span) (ls : List Int) : List (List Int) := (List.range ls.length).map (treeAt W H vs ls)
def ofP (n : Nat) (ps : List (List Nat)) : List Int := (List.range n).map (idxL ps)
theorem ofP_get {n q : Nat} {ps : List (List Nat)} (h : q < n) : (ofP n ps)[q]? = some (idxL ps q) := by unfold ofP; rw [List.getElem?_map, List.getElem?_range h]; rfl
theorem ofP_len {n : Nat} {ps : List (List Nat)} : (ofP n ps).length = n := by unfold ofP; simp
theorem ofP_nil {n : Nat} : List.replicate n (-1 : Int) = ofP n [] := by
  refine List.ext_getElem? fun q => ?_
  by_cases h : q < n
  · rw [ofP_get h, List.getElem?_replicate, if_pos h]; rfl
  · rw [List.getElem?_eq_none (by simpa using h), List.getElem?_eq_none (by rw [ofP_len]; omega)]
theorem treeOk {g : Grid} {vs : List Span} {ls : List Int} (h : treeE g vs ls = 0) : fieldE 1073741824 ⟨g, vs⟩ = 0 ∧ 1 ≤ ls.length ∧ ls.length ≤ 16 ∧ ∀ i, i < ls.length → lvlE ls i = 0 := by
  unfold treeE at h
  split at h
  · rename_i q; exact absurd h q
  · rename_i q
    split at h
    · omega
    · rename_i z
      exact ⟨Classical.not_not.1 q, by omega, by omega, fun i hi => firstE_eq h i hi⟩
theorem field_open {g : Grid} {vs : List Span} {lv : Int} (h : fieldE 1073741824 ⟨g, vs⟩ = 0) (h1 : 1 ≤ lv) (h2 : lv ≤ 1073741824) : openE g vs lv = 0 := by unfold openE; rw [if_neg (fun z => z h), if_neg (by omega)]
theorem lvl_ok {ls : List Int} {i : Nat} (h : lvlE ls i = 0) : 1 ≤ ls.getD i 0 ∧ ls.getD i 0 ≤ 1073741824 := by
  unfold lvlE at h
  split at h
  · omega
  · omega
/-- The rows of which the first ones are there. -/
def trRows (n : Nat) (rs : List (RowA Int)) (c : RowA Int) : List (RowA Int) := rs ++ c :: List.replicate (n - rs.length - 1) RowA.z
theorem tr_start {n : Nat} {rs : List (RowA Int)} (h : rs.length < n) : rs ++ List.replicate (n - rs.length) RowA.z = trRows n rs RowA.z := by
  unfold trRows; rw [show n - rs.length = (n - rs.length - 1) + 1 by omega, List.replicate_succ]; rfl
theorem tr_end {n : Nat} {rs : List (RowA Int)} {c : RowA Int} : trRows n rs c = (rs ++ [c]) ++ List.replicate (n - (rs ++ [c]).length) RowA.z := by
  unfold trRows; rw [List.append_assoc, List.length_append, List.length_singleton, Nat.sub_sub]; rfl
theorem tr_get {n : Nat} {rs : List (RowA Int)} {c : RowA Int} : (trRows n rs c)[rs.length]? = some c := by unfold trRows; rw [List.getElem?_append_right (Nat.le_refl _), Nat.sub_self]; rfl
theorem tr_set {n : Nat} {rs : List (RowA Int)} {c d : RowA Int} : (trRows n rs c).set rs.length d = trRows n rs d := by unfold trRows; rw [List.set_append_right _ _ (Nat.le_refl _), Nat.sub_self]; rfl
theorem tr_len {n : Nat} {rs : List (RowA Int)} {c : RowA Int} (h : rs.length < n) : (trRows n rs c).length = n := by unfold trRows; simp; omega
theorem parent_get {W H : Nat} {vs : List Span} {lv : Int} {y : ArY} {j : Nat} {a : AreaR} (h : ArP W H vs lv y) (ha : y.l[j]? = some a) : ∃ r, y.rs[j]? = some r ∧ a.px = r ∧ (partsL W H (mayB vs lv))[j]? = some a.px.l ∧ 0 < a.px.l.length ∧ a.px.l.getD 0 0 = a.px.l.headD 0 ∧ a.px.l.headD 0 < W * H := by
  have h1 : y.rs[j]? = some a.px := by rw [← h.px, List.getElem?_map, ha]; rfl
  have h2 : (partsL W H (mayB vs lv))[j]? = some a.px.l := by
    have h3 : (areasM W H vs lv)[j]? = some a.m := by rw [← h.m, List.getElem?_map, ha]; rfl
    unfold areasM at h3
    rw [List.getElem?_map] at h3
    cases hq : (partsL W H (mayB vs lv))[j]? with
    | none => rw [hq] at h3; cases h3
    | some l =>
      rw [hq] at h3
      have h4 : areaM W H vs lv l = a.m := Option.some.inj h3
      have : l = a.px.l := congrArg AreaM.px h4
      rw [this]
  obtain ⟨p, hp,_, e⟩ := mem_partsTo (p := W * H) (List.mem_of_getElem? h2)
  have hne : a.px.l ≠ [] := by rw [e]; exact compL_ne hp
  have hm := headD_mem hne
  refine ⟨a.px, h1, rfl, h2, ?_, ?_, ?_⟩
  · cases hq : a.px.l with | nil => exact absurd hq hne | cons b l => simp
  · cases a.px.l <;> rfl
  · rw [e] at hm ⊢; exact compL_lt hp hm

structure TrY where
  rs : List (RowA Int)
  p : Option Addr
  c : Nat

theorem ar_len {W H : Nat} {vs : List Span} {lv : Int} {y : ArY} (h : ArP W H vs lv y) : (partsL W H (mayB vs lv)).length = y.l.length := by
  have := congrArg List.length h.m
  unfold areasM at this
  rw [List.length_map, List.length_map] at this
  exact this.symm

set_option maxRecDepth 20000 in
set_option maxHeartbeats 8000000 in
theorem Tree_ok (g : Grid) (vs : List Span) (pv : Option Addr) (cv : Nat) (ls : List Int) (pl : Option Addr) (cl : Nat) (w : World) (hv : Spans w pv vs) (hl : Ints w pl ls) (hok : treeE g vs ls = 0) :
  Calls Try.prog 24 #[fieldV g pv vs.length cv, .slice pl ls.length cl] w fun e w' => ∃ y : TrY, y.rs.map RowA.l = treeM (gW g) (gH g) vs ls ∧ e = .returned (.tuple #[.slice y.p y.rs.length y.c, .int .i64 0]) ∧ St (bs w) [own 40 1 y.p y.c (y.rs.map rowC), bagR 3 1 iC y.rs] w' := by
  obtain ⟨hfd, hl1_, hl2_, hlv⟩ := treeOk hok
  obtain ⟨hg, hlen, hok2,_,_⟩ := openOk (field_open (lv := 1) hfd (by omega) (by omega))
  have hvl : vs.length = gW g * gH g := len_n hg hlen
  have har := area_le hg
  refine enter (vs := [_,_]) (env := [(0,_), (1,_)]) Try.func24 rfl rfl rfl rfl ?_
  refine VC.seq ?_
  refine VC.reg (VO.h rfl<|HO.box (C := #[_,_,_,_,_,_]) rfl rfl fun b1 => VO.l (LO.as (.r rfl)) rfl<|VO.l (LO.as (.r rfl)) rfl<|VO.nil ?_)
  refine VE.seqN ?_
  refine VC.seq ?_
  refine VC.seq ?_
  refine VC.reg (VO.l (LO.lda (vs := [_,_,_,_,_,_]) A26 (.r rfl) (fun _ hw => cells_at hw 0 rfl ⟨_, rfl⟩) rfl) rfl<|VO.l (LO.call (xs := [_]) (vs := [_]) C73 ⟨(.r rfl), trivial⟩ (fun w hw => bCheckField_c ⟨g, vs⟩ pv cv w (hv.keep w hw))) rfl<|VO.l (LO.as (.r rfl)) rfl<|VO.nil ?_)
  refine VE.seqN ?_
  refine VC.seq ?_
  refine VC.reg (VO.l (LO.mv (.r rfl)) rfl<|VO.l (LO.ne (.r rfl) (.r rfl)) rfl<|VO.nil ?_)
  refine VE.seqN ?_
  refine VC.cond rfl (fun h20 => ?_) (fun h20 => ?_)
  ·
    (exfalso; exact h20 hfd)
  ·
    refine VC.skip (VE.seqN ?_)
    refine VC.seq ?_
    refine VC.seq ?_
    refine VC.reg (VO.l (LO.mv (.r rfl)) rfl<|VO.l (LO.len S40 (.r rfl) rfl) rfl<|VO.l (LO.lt (.r rfl) (.r rfl)) rfl<|VO.l (LO.mv (.r rfl)) rfl<|VO.lg rfl rfl (GD.f _) (fun hg => LO.mv (.r rfl)) rfl<|VO.lg rfl rfl (GD.f _) (fun hg => LO.len S40 (.g hg rfl) rfl) rfl<|VO.lg rfl rfl (GD.f _) (fun hg => LO.gt (.g hg rfl) (.r rfl)) rfl<|VO.l (LO.pkO (.r rfl) (.r rfl) rfl rfl) rfl<|VO.nil ?_)
    refine VE.seqN ?_
    refine VC.cond rfl (fun h29 => ?_) (fun h29 => ?_)
    ·
      (exfalso; omega)
    ·
      refine VC.skip (VE.seqN ?_)
      refine VC.seq ?_
      refine VC.seq ?_
      refine VC.reg (VO.l (LO.mv (.r rfl)) rfl<|VO.l (LO.len S40 (.r rfl) rfl) rfl<|VO.l (LO.mv (.r rfl)) rfl<|VO.nil ?_)
      refine VE.seqN ?_
      refine VC.block ?_
      refine VC.loopK (α := Nat) 0 (fun gx => [(32, .int .i64 (gx : Nat))]) [(1,_), (2,_), (30,_), (31,_)] (fun gx => []) (fun gx => gx ≤ ls.length) (fun gx => ls.length - gx) 0 (by exact Nat.zero_le _) (.cons rfl (.cons rfl (.cons rfl (.cons rfl (.cons rfl .nil))))) (fun _ h => h) ?_
      rintro i hi
      refine VC.seq ?_
      refine VC.reg (VO.l (LO.lt (.r rfl) (.r rfl)) rfl<|VO.nil ?_)
      refine VE.seqN ?_
      refine VC.seq ?_
      refine VC.cond rfl (fun h33 => ?_) (fun h33 => ?_)
      ·
        have hli := hl.at (j := i) (L := []) (by omega)
        have hlz := hlv i (by omega)
        unfold lvlE at hlz
        refine VC.skip (VE.seqN ?_)
        refine VC.seq ?_
        refine VC.block ?_
        refine VC.seq ?_
        refine VC.reg (VO.l (LO.mv (.r rfl)) rfl<|VO.l (LO.ixs S40 N3 hl.some (.r rfl) (.r rfl) rfl (by omega)) rfl<|VO.l (LO.ld O3 (.r rfl) (fun w hw => cells_part (off := 0) ((hl.at (j := i) (by first | omega | (have := of_decide_eq_true hg; omega))) w hw) ⟨_, rfl⟩)) rfl<|VO.l (LO.as (.r rfl)) rfl<|VO.l (LO.as (.r rfl)) rfl<|VO.nil ?_)
        refine VE.seqN ?_
        refine VC.block ?_
        refine VC.seq ?_
        refine VC.reg (VO.l (LO.mv (.r rfl)) rfl<|VO.l (LO.lt (.r rfl) (.r rfl)) rfl<|VO.l (LO.mv (.r rfl)) rfl<|VO.lg rfl rfl (GD.f _) (fun hg => LO.mv (.r rfl)) rfl<|VO.lg rfl rfl (GD.f _) (fun hg => LO.gt (.g hg rfl) (.r rfl)) rfl<|VO.l (LO.pkO (.r rfl) (.r rfl) rfl rfl) rfl<|VO.l (LO.as (.r rfl)) rfl<|VO.nil ?_)
        refine VE.seqN ?_
        refine VC.cond rfl (fun h37 => ?_) (fun h37 => ?_)
        ·
          (exfalso; (rw [if_pos h37] at hlz; omega))
        ·
          refine VC.seq ?_
          refine VC.reg (VO.l (LO.mv (.r rfl)) rfl<|VO.l (LO.gt (.r rfl) (.r rfl)) rfl<|VO.l (LO.mv (.r rfl)) rfl<|VO.lg rfl rfl (GD.t _) (fun hg => LO.mv (.r rfl)) rfl<|VO.lg rfl rfl (GD.t _) (fun hg => LO.mv (.r rfl)) rfl<|VO.lg rfl rfl (GD.t _) (fun hg => LO.mv (.r rfl)) rfl<|VO.lg rfl rfl (GD.t _) (fun hg => LO.sub (.g hg rfl) (.r rfl) (wi (by omega) (by omega))) rfl<|VO.lg rfl rfl (GD.t _) (fun hg => LO.ixs S40 N3 hl.some (.g hg rfl) (.g hg rfl) (by have := of_decide_eq_true hg; omega) (by have := of_decide_eq_true hg; omega)) rfl<|VO.lg rfl rfl (GD.t _) (fun hg => LO.ld O3 (.g hg rfl) (fun w hw => cells_part (off := 0) ((hl.at (j := (i - 1)) (by first | omega | (have := of_decide_eq_true hg; omega))) w hw) ⟨_, rfl⟩)) rfl<|VO.lg rfl rfl (GD.t _) (fun hg => LO.le (.g hg rfl) (.g hg rfl)) rfl<|VO.l (LO.pkA (.r rfl) rfl rfl (.r rfl)) rfl<|VO.l (LO.as (.r rfl)) rfl<|VO.nil ?_)
          refine VE.seqN ?_
          refine VC.cond rfl (fun h44 => ?_) (fun h44 => ?_)
          ·
            (exfalso; (rw [if_neg h37, if_pos (by omega)] at hlz; omega))
          ·
            refine VC.skip (VE.inN (VE.inN (VE.seqN ?_)))
            refine VC.reg (VO.l (LO.add (.r rfl) (.r rfl) (wi (by omega) (by omega))) rfl<|VO.l (LO.mv (.r rfl)) rfl<|VO.nil ?_)
            refine VE.thenN fun a w ha hw => ⟨i + 1, (by omega), (by omega), ha.sub (.cons rfl (.cons rfl (.cons rfl (.cons rfl (.cons rfl .nil))))), hw⟩
      ·
        refine VC.exit (VE.thenX (VE.thenX (VE.inX (VE.seqN ?_))))
        refine VC.seq ?_
        refine VC.rebase fun w1 hst1 => ?_
        have hfl : Cells w1 ⟨b1,0, none⟩ [.int .i64 g.x, .int .i64 g.y, .int .i64 g.size, .int .i64 g.wide, .int .i64 g.high, .slice pv vs.length cv] := cells_inv (hst1.inv 0 _ rfl)
        have hv1 := hv.keep w1 hst1
        have hl1 := hl.keep w1 hst1
        refine VC.reg (VO.l (LO.mv (.r rfl)) rfl<|VO.l (LO.len S40 (.r rfl) rfl) rfl<|VO.h rfl<|HO.mksM (f := rowC) (z0 := (RowA.z : RowA Int)) (n := ls.length) rfl S41 I40 (.r rfl) (.r rfl) rfl (by decide) (by omega) (by omega) fun b2 => VO.h rfl<|HO.lo (LO.as (.r rfl))<|VO.nil ?_)
        refine VE.seqN ?_
        refine VC.seq ?_
        refine VC.reg (VO.h rfl<|HO.bs (ps := [(_,_)]) (vs := [(_,_)]) (Z := [_]) (C := [_]) S40 Z3 N3 ⟨(.r rfl), trivial⟩ rfl rfl rfl rfl ⟨_, [_], [_], rfl, rfl, rfl, rfl, rfl⟩ fun b3 => VO.l (LO.fa (r := 5) F26_1 (.r rfl) rfl) rfl<|VO.l (LO.ld O24 (.r rfl) (cells_keep (sub_cells (off := 5) hfl ⟨_, rfl⟩))) rfl<|VO.l (LO.len S24 (.r rfl) rfl) rfl<|VO.h rfl<|HO.callx (xs := [_,_]) (vs := [_,_]) C69 ⟨(.r rfl), (.r rfl), trivial⟩ (fun w hw => Repeat_c (-1) _ 1 vs.length w (ints_blk 0 hw rfl) (by omega)) fun x _ => VO.h rfl<|HO.lo (LO.as (.r rfl))<|VO.nil ?_)
        rw [show List.replicate vs.length (-1 : Int) = ofP (gW g * gH g) (prevP (gW g) (gH g) vs ls 0) from by rw [hvl, ofP_nil]; rfl]
        refine VE.seqN ?_
        refine VC.seq ?_
        refine VC.seq ?_
        refine VC.reg (VO.l (LO.mv (.r rfl)) rfl<|VO.l (LO.len S40 (.r rfl) rfl) rfl<|VO.l (LO.mv (.r rfl)) rfl<|VO.nil ?_)
        refine VE.seqN ?_
        refine VC.block ?_
        refine VC.perm [2,0,1] rfl ?_
        refine VC.loopK (α := Nat × (List (RowA Int)) × (Option Addr) × Nat) 2 (fun gx => [(10, .slice gx.2.2.1 (gW g * gH g) gx.2.2.2), (67, .int .i64 (gx.1 : Nat))]) [(2,_), (9,_), (65,_), (66,_)] (fun gx => [own 40 1 (some ⟨b2,0, none⟩) ls.length ((gx.2.1 ++ List.replicate (ls.length - gx.2.1.length) (RowA.z : RowA Int)).map rowC), bagR 3 1 iC gx.2.1, own 3 1 gx.2.2.1 gx.2.2.2 ((ofP (gW g * gH g) (prevP (gW g) (gH g) vs ls gx.1)).map iC)]) (fun gx => gx.1 ≤ ls.length ∧ gx.2.1.map RowA.l = (List.range gx.1).map (treeAt (gW g) (gH g) vs ls)) (fun gx => ls.length - gx.1) (0, ([] : List (RowA Int)), x.1, x.2) (by exact ⟨Nat.zero_le _, rfl⟩) (.cons (congrArg (fun n => some (Value.slice x.1 n x.2)) hvl) (.cons rfl (.cons rfl (.cons rfl (.cons rfl (.cons rfl .nil)))))) (fun _ h => ((h.bagRNil 3 1 iC)).sel [1,0,2,3] rfl) ?_
        rintro ⟨i, rs, bp, bc⟩ ⟨hi, hrs⟩
        show VC _ _ _ _ _ ([(10, .slice bp (gW g * gH g) bc), (67, .int .i64 (i : Nat))] ++ _) ([own 40 1 (some ⟨b2,0, none⟩) ls.length ((rs ++ List.replicate (ls.length - rs.length) (RowA.z : RowA Int)).map rowC), bagR 3 1 iC rs, own 3 1 bp bc ((ofP (gW g * gH g) (prevP (gW g) (gH g) vs ls i)).map iC)] ++ _) _ _
        dsimp only at hi hrs
        have hrl : rs.length = i := by rw [← List.length_map (f := RowA.l), hrs, List.length_map, List.length_range]
        refine VC.seq ?_
        refine VC.reg (VO.l (LO.lt (.r rfl) (.r rfl)) rfl<|VO.nil ?_)
        refine VE.seqN ?_
        refine VC.seq ?_
        refine VC.cond rfl (fun h68 => ?_) (fun h68 => ?_)
        ·
          have hlo := lvl_ok (hlv i (by omega))
          refine VC.skip (VE.seqN ?_)
          refine VC.seq ?_
          refine VC.block ?_
          refine VC.seq ?_
          refine VC.reg (VO.l (LO.mv (.r rfl)) rfl<|VO.l (LO.ixs S40 N3 hl1.some (.r rfl) (.r rfl) rfl (by omega)) rfl<|VO.l (LO.ld O3 (.r rfl) (fun w hw => cells_part (off := 0) ((hl1.at (j := i) (by omega)) w hw) ⟨_, rfl⟩)) rfl<|VO.l (LO.as (.r rfl)) rfl<|VO.l (LO.as (.r rfl)) rfl<|VO.nil ?_)
          refine VE.seqN ?_
          refine VC.seq ?_
          refine VC.reg (VO.l (LO.lda (vs := [_,_,_,_,_,_]) A26 (.r rfl) (cells_keep (sub_cells (off := 0) hfl ⟨_, rfl⟩)) rfl) rfl<|VO.l (LO.mv (.r rfl)) rfl<|VO.l (LO.bd (ps := [(_,_), (_,_)]) (vs := [(_,_), (_,_)]) (C := [_,_,_,_,_,_,_]) B128  ⟨(.r rfl), (.r rfl), trivial⟩ rfl ⟨_, [_,_,_,_,_,_], [_,_,_,_,_,_,_], rfl, rfl, rfl, rfl, ⟨_, [_], [_,_,_,_,_,_,_], rfl, rfl, rfl, rfl, rfl⟩⟩) rfl<|VO.h rfl<|HO.callx (xs := [_]) (vs := [_]) C58 ⟨(.r rfl), trivial⟩ (fun w hw => areas_c g vs pv cv (ls.getD i 0) w hg hlen hok2 (hv1.keep w hw)) fun y hy => VO.h rfl<|HO.lo (LO.mv (.r rfl))<|VO.h rfl<|HO.lo (LO.ex (.r rfl) rfl)<|VO.h rfl<|HO.lo (LO.ex (.r rfl) rfl)<|VO.h rfl<|HO.lo (LO.as (.r rfl))<|VO.h rfl<|HO.lo (LO.as (.r rfl))<|VO.nil ?_)
          refine VE.seqN ?_
          refine VC.seq ?_
          refine VC.seq ?_
          rw [tr_start (by omega)]
          refine VC.res (L' := [own 40 1 (some ⟨b2,0, none⟩) ls.length ((trRows ls.length rs (RowA.z : RowA Int)).map rowC)] ++ [_,_,_,_,_,_,_,_,_,_,_]) (selK [8,0,1,2,3,4,5,6,7,9,10,11] rfl rfl) ?_
          refine VC.rebaseO fun w2 hst2 => ?_
          have hkA : ∀ {L : List Res} {w3 : World}, St ⟨w2, fpL [own 40 1 (some ⟨b2,0, none⟩) ls.length ((trRows ls.length rs (RowA.z : RowA Int)).map rowC)]⟩ L w3 → RO 8 AreaR.cells w3 y.p y.l ∧ RR 1 nC w3 y.pr y.rs ∧ RO 1 iC w3 bp (ofP (gW g * gH g) (prevP (gW g) (gH g) vs ls i)) := fun h => have z := St.rightOf (St.fz hst2 h); ⟨RO.of_own z 0 rfl, RR.of_own z 5 6 rfl rfl, RO.of_own z 9 rfl⟩
          have hz2 := St.rightOf hst2
          have hA2 : RO 8 AreaR.cells w2 y.p y.l := RO.of_own hz2 0 rfl
          have hR2 : RR 1 nC w2 y.pr y.rs := RR.of_own hz2 5 6 rfl rfl
          have hB2 : SlSome bp (gW g * gH g) := by have z := RO.sm (RO.of_own hz2 9 rfl : RO 1 iC w2 bp (ofP (gW g * gH g) (prevP (gW g) (gH g) vs ls i))); rw [ofP_len] at z; exact z
          refine VC.res (fun w hw => hw.ownNil 3 1) ?_
          show VC _ _ _ _ _ _ [own 3 1 none 0 (([] : List Int).map iC), own 40 1 (some ⟨b2,0, none⟩) ls.length ((trRows ls.length rs (RowA.z : RowA Int)).map rowC)] _ _
          refine VC.reg (VO.l (LO.mv (.r rfl)) rfl<|VO.l (LO.len S29 (.r rfl) rfl) rfl<|VO.l (LO.mv (.r rfl)) rfl<|VO.nil ?_)
          refine VE.seqN ?_
          refine VC.block ?_
          refine VC.loopK (α := Nat × (List Int) × (Option Addr) × Nat) 2 (fun gx => [(81, .int .i64 (gx.1 : Nat))]) [(2,_), (9,_), (10,_), (11,_), (14,_), (65,_), (66,_), (67,_), (79,_), (80,_)] (fun gx => [own 3 1 gx.2.2.1 gx.2.2.2 (gx.2.1.map iC), own 40 1 (some ⟨b2,0, none⟩) ls.length ((trRows ls.length rs ⟨gx.2.2.1, gx.2.2.2, gx.2.1⟩).map rowC)]) (fun gx => gx.1 ≤ y.l.length ∧ gx.2.1 = ((partsL (gW g) (gH g) (mayB vs (ls.getD i 0))).take gx.1).map fun l => idxL (prevP (gW g) (gH g) vs ls i) (l.headD 0)) (fun gx => y.l.length - gx.1) (0, [], none, 0) (by exact ⟨Nat.zero_le _, rfl⟩) (.cons rfl (.cons rfl (.cons rfl (.cons rfl (.cons rfl (.cons rfl (.cons rfl (.cons rfl (.cons rfl (.cons rfl (.cons rfl .nil))))))))))) (fun _ h => h) ?_
          rintro ⟨j, cur, cp, cc⟩ ⟨hj, hcur⟩
          show VC _ _ _ _ _ ([(81, .int .i64 (j : Nat))] ++ _) ([own 3 1 cp cc (cur.map iC), own 40 1 (some ⟨b2,0, none⟩) ls.length ((trRows ls.length rs ⟨cp, cc, cur⟩).map rowC)] ++ _) _ _
          dsimp only at hj hcur
          have hyl := ar_len hy
          have hcl : cur.length ≤ j := by rw [hcur, List.length_map, List.length_take]; omega
          have hpl : (partsL (gW g) (gH g) (mayB vs (ls.getD i 0))).length ≤ gW g * gH g := parts_len
          refine VC.seq ?_
          refine VC.reg (VO.l (LO.lt (.r rfl) (.r rfl)) rfl<|VO.nil ?_)
          refine VE.seqN ?_
          refine VC.seq ?_
          refine VC.cond rfl (fun h82 => ?_) (fun h82 => ?_)
          ·
            obtain ⟨aa, haa⟩ : ∃ a, y.l[j]? = some a := ⟨_, List.getElem?_eq_getElem (by omega)⟩
            obtain ⟨rj, hrj, erj, hpj, ha1, ha2, ha3⟩ := parent_get hy haa
            subst erj
            have ha0 : aa.px.l[0]? = some (aa.px.l.getD 0 0) := by rw [List.getD_eq_getElem?_getD, List.getElem?_eq_getElem ha1]; rfl
            refine VC.skip (VE.seqN ?_)
            refine VC.seq ?_
            refine VC.block ?_
            refine VC.seq ?_
            refine VC.reg (VO.l (LO.ixs S29 N73 hA2.sm (.r rfl) (.r rfl) rfl (by omega)) rfl<|VO.l (LO.lda (vs := [_,_,_,_,_,_,_,_]) A73 (.r rfl) (fun w hw => cells_part (off := 0) ((fun w3 h3 => RO.cel (hkA h3).1 haa) w hw) ⟨_, rfl⟩) rfl) rfl<|VO.h rfl<|HO.alloc (C := #[_,_,_,_,_,_,_,_]) Z73 rfl fun b15 => VO.h0<|HO.st 0 (vs := [_,_,_,_,_,_,_,_]) (C' := [_,_,_,_,_,_,_,_]) (L' := [_,_,_]) N73 rfl rfl rfl rfl rfl rfl rfl rfl<|VO.nil ?_)
            refine VE.seqN ?_
            refine VC.drawH [[0,1,2], [0,1,2], [0,2], [0]] [some 2, some 2, some 1, some 1, some 1, some 1, some 0, some 0, some 0, some 0, some 0, some 0, some 0, none, none, some 2, none] mixed (by kernel_rfl) rfl (LX.l (fun _ hJ => LO.mv (.r rfl)) rfl<|LX.l (fun _ hJ => LO.mv (.r rfl)) rfl<|LX.l (fun _ hJ => LO.mv (.r rfl)) rfl<|LX.l (fun _ hJ => LO.mv (.r rfl)) rfl<|LX.l (fun _ hJ => LO.ixo S41 N40 (fun _ hw => (own_rows (hJ _ hw) 2 rfl).some (by rw [List.length_map, tr_len (by omega)])) (.r rfl) (.r rfl) (j := rs.length) (by omega) (by omega)) rfl<|LX.l (fun _ hJ => LO.ld O40 (.r rfl) (fun w hw => cells_part (off := 0) (own_cell (hJ _ hw) 2 rfl tr_get) ⟨_, rfl⟩)) rfl<|LX.l (fun _ hJ => LO.mv (.r rfl)) rfl<|LX.l (fun _ hJ => LO.fa (r := 0) F73_0 (.r rfl) rfl) rfl<|LX.l (fun _ hJ => LO.ld O40 (.r rfl) (fun _ hw => cells_at (hJ _ hw) 0 rfl ⟨_, rfl⟩)) rfl<|LX.l (fun _ hJ => LO.ixs S40 N3 (RR.row hR2 hrj).sm (.r rfl) (.r rfl) (j := 0) rfl ha1) rfl<|LX.l (fun _ hJ => LO.ld O3 (.r rfl) (fun w hw => cells_part (off := 0) ((fun w3 h3 => RO.cel (RR.row (hkA h3).2.1 hrj) ha0) w (hJ _ hw)) ⟨_, rfl⟩)) rfl<|LX.l (fun _ hJ => LO.ixs S40 N3 hB2 (.r rfl) (.r rfl) rfl (by omega)) rfl<|LX.l (fun _ hJ => LO.ld O3 (.r rfl) (fun w hw => cells_part (off := 0) ((fun w3 h3 => RO.cel (hkA h3).2.2 (ofP_get (q := aa.px.l.getD 0 0) (by omega))) w (hJ _ hw)) ⟨_, rfl⟩)) rfl<|LX.s<|LX.s<|LX.l (fun _ hJ => LO.ixo S41 N40 (fun _ hw => (own_rows (hJ _ hw) 1 rfl).some (by rw [List.length_map, tr_len (by omega)])) (.r rfl) (.r rfl) (j := rs.length) (by omega) (by omega)) rfl<|LX.s<|LX.nil) (HX.s<|HX.s<|HX.s<|HX.s<|HX.s<|HX.s<|HX.s<|HX.s<|HX.s<|HX.s<|HX.s<|HX.s<|HX.s<|HX.h rfl<|HO.bs (ps := [(_,_)]) (vs := [(_,_)]) (Z := [_]) (C := [_]) S40 Z3 N3 ⟨(.r rfl), trivial⟩ rfl rfl rfl rfl ⟨_, [_], [_], rfl, rfl, rfl, rfl, rfl⟩ fun b18 => ⟨fun _ hw => hw.sel [1,2,3] rfl, HX.h rfl<|HO.appT ((idxL (prevP (gW g) (gH g) vs ls i) (aa.px.l.getD 0 0))) 2 0 (fun R => [_,_, R,_]) S40 S40 I3 (.r rfl) (.r rfl) rfl rfl rfl rfl rfl rfl rfl (fun _ => rfl) rfl (by omega) fun p14 c14 => ⟨fun _ hw => hw.sel [1,3] rfl, HX.s<|HX.h0<|HO.stm 3 (fun R => [_,_,_, R]) ((⟨p14, c14, cur ++ [idxL (prevP (gW g) (gH g) vs ls i) (aa.px.l.getD 0 0)]⟩ : RowA Int)) (vs := [_]) N40 (.r rfl) (.r rfl) rfl (by rw [tr_len (by omega)]; omega) rfl rfl rfl rfl rfl (fun _ => rfl)<|⟨fun _ hw => hw.sel [1] rfl, HX.nil ?_⟩⟩⟩)
            rw [tr_set]
            refine VE.inN (VE.seqN ?_)
            refine VC.reg (VO.l (LO.add (.r rfl) (.r rfl) (wi (by omega) (by omega))) rfl<|VO.l (LO.mv (.r rfl)) rfl<|VO.nil ?_)
            refine VE.thenN fun a w ha hw => ⟨(j + 1, cur ++ [idxL (prevP (gW g) (gH g) vs ls i) (aa.px.l.getD 0 0)], p14, c14), ⟨by dsimp only; omega, by dsimp only; rw [List.take_add_one, hpj, List.map_append, ← hcur, ha2]; rfl⟩, (by dsimp only; omega), ha.sub (.cons rfl (.cons rfl (.cons rfl (.cons rfl (.cons rfl (.cons rfl (.cons rfl (.cons rfl (.cons rfl (.cons rfl (.cons rfl .nil))))))))))), hw.sel [2,3] rfl⟩
          ·
            have hje : j = y.l.length := by omega
            subst hje
            have hcu : cur = treeAt (gW g) (gH g) vs ls i := by rw [hcur]; unfold treeAt; rw [List.take_of_length_le]; rw [ar_len hy]; exact Nat.le_refl _
            subst hcu
            refine VC.exit (VE.thenX (VE.thenX (VE.inX (VE.seqN ?_))))
            refine VC.reg (VO.l (LO.mv (.r rfl)) rfl<|VO.l (LO.as (.r rfl)) rfl<|VO.nil ?_)
            refine VE.inN (VE.seqN ?_)
            refine VC.reg (VO.l (LO.add (.r rfl) (.r rfl) (wi (by omega) (by omega))) rfl<|VO.l (LO.mv (.r rfl)) rfl<|VO.nil ?_)
            refine VE.thenN fun a w ha hw => ⟨(i + 1, rs ++ [⟨cp, cc, treeAt (gW g) (gH g) vs ls i⟩], y.po, y.co), ⟨by dsimp only; omega, by dsimp only; rw [List.map_append, hrs, List.range_succ, List.map_append]; rfl⟩, (by dsimp only; omega), ha.sub (.cons rfl (.cons rfl (.cons rfl (.cons rfl (.cons rfl (.cons rfl .nil)))))), (by exact selK (L1 := [_,_,_,_]) [1,0,2,3] rfl rfl _ (by have z := St.bagRIn (E := 3) (z := 1) (f := iC) (x := ⟨cp, cc, treeAt (gW g) (gH g) vs ls i⟩) (L := [_,_,_]) (selK (L1 := [_,_,_,_,_]) [1,10,0,9,12] rfl rfl _ (St.fz hst2 (selK (L1 := [_,_]) [1,0] rfl rfl _ hw))); rw [tr_end] at z; exact z))⟩
        ·
          refine VC.exit (VE.thenX (VE.thenX (VE.inX (VE.seqN ?_))))
          refine VC.seq ?_
          refine VC.reg (VO.l (LO.mv (.r rfl)) rfl<|VO.l (LO.as (.r rfl)) rfl<|VO.l (LO.as (.r rfl)) rfl<|VO.nil ?_)
          refine VE.seqN ?_
          refine VC.ret (VE.res (vs := [_,_]) rfl ⟨rfl, rfl, trivial⟩ (fun w hw => ?_))
          have hie : i = ls.length := by omega
          subst hie
          have hrl2 : rs.length = ls.length := by rw [← List.length_map (f := RowA.l), hrs, List.length_map, List.length_range]
          rw [show ls.length - rs.length = 0 by omega, List.replicate_zero, List.append_nil] at hw
          have hf := hst1.call (selK (L1 := [_,_]) [0,1] rfl rfl _ hw)
          exact ⟨⟨rs, some ⟨b2,0, none⟩, ls.length⟩, hrs, by rw [hrl2]; rfl, selK [0,1] rfl rfl _ hf⟩

end Go.Proofs.Ytgemekpofpoopaa

namespace Go.Proofs.Ytgemekpofpoopaa
open Go.SL Go.Proofs Go.Cast Go.Cell
set_option linter.unusedVariables false

theorem S185 : IsSlice Try.prog 185 26 := Try.underlying185
theorem Z26 : ZeroOf Try.prog 26 (.agg #[.int .i64 0, .int .i64 0, .int .i64 0, .int .i64 0, .int .i64 0, .slice none 0 0]) := by unfold ZeroOf; kernel_rfl
theorem N26 : (Try.prog.info? 26).map (·.size) = some 6 := by kernel_rfl
theorem EA23 : FlatA Try.prog 23 5 := ⟨⟨_, Try.underlying23, rfl⟩, by kernel_rfl, by kernel_rfl⟩
theorem Z154 : ZeroOf Try.prog 154 (.agg #[.int .i64 0, .int .i64 0, .int .i64 0, .int .i64 0, .int .i64 0, .slice none 0 0, .slice none 0 0]) := by unfold ZeroOf; kernel_rfl
theorem B154 : Builds Try.prog 154 [(0,5), (5,1), (6,1)] [.int .i64 0, .int .i64 0, .int .i64 0, .int .i64 0, .int .i64 0, .slice none 0 0, .slice none 0 0] := Builds.mk fun _ => by kernel_rfl
theorem N154 : (Try.prog.info? 154).map (·.size) = some 7 := by kernel_rfl
theorem A154 : IsAgg Try.prog 154 7 := ⟨⟨_, Try.underlying154, rfl⟩, by kernel_rfl⟩
theorem B220 : BuildsA Try.prog 220 [(0,1), (1,1), (2,1)] [.int .i64 0, .int .i64 0, .int .i64 0] := BuildsA.mk (z := 1) (n := 3) (fun _ => by kernel_rfl) rfl
theorem B221 : BuildsA Try.prog 221 [(0,3), (3,3), (6,3)] [.int .i64 0, .int .i64 0, .int .i64 0, .int .i64 0, .int .i64 0, .int .i64 0, .int .i64 0, .int .i64 0, .int .i64 0] := BuildsA.mk (z := 3) (n := 3) (fun _ => by kernel_rfl) rfl
theorem A220 : IsAgg Try.prog 220 3 := ⟨⟨_, Try.underlying220, rfl⟩, by kernel_rfl⟩


theorem _root_.Go.SL.LO.ixg {P : Program} {β : Bs} {env : Env} {L : List Res} {d : Option Nat} {ty : TypeId} {pos : String} {aft : Array Edge} {g : Option (Nat × Bool)} {x i : Operand} {T E n z : Nat} {C : Array Value} {j : Nat} {k : IntKind} {e : Int} {vs : List Value} (hT : P.underlying T = some (.array n E)) (hE : IsAgg P E z) (hx : OV env x (.agg C)) (hi : OV env i (.int k e)) (he : e = (j : Int)) (hj : j < n) (hv : (C.extract (j * z) (j * z + z)).toList = vs) :
    LO P β env L ⟨d, .index T x i, ty, pos, aft, g⟩ (.agg vs.toArray) :=
  .of_run fun a w h hw => ⟨w, by
    subst he
    have he' : C.extract (j * z) (j * z + z) = vs.toArray := by rw [← hv]
    simp [execOp, h x (by simp [Op.operands]) _ hx, h i (by simp [Op.operands]) _ hi, Instr.index, asIntOf, run_underlying hT, run_size hE.2, hj, part, run_isAgg hE, he'], hw⟩
def gridL (g : Grid) : List Int := [g.x, g.y, g.size, g.wide, g.high]
def pairE (g1 : Grid) (v1 : List Span) (g2 : Grid) (v2 : List Span) (lv reach : Int) : Int :=
  if fieldE 1073741824 ⟨g1, v1⟩ ≠ 0 then fieldE 1073741824 ⟨g1, v1⟩ else if fieldE 1073741824 ⟨g2, v2⟩ ≠ 0 then fieldE 1073741824 ⟨g2, v2⟩ else if ¬ gridL g1 = gridL g2 then 11 else if lv < 1 ∨ 1073741824 < lv ∨ reach < 0 ∨ 8 < reach then 3 else 0
def fld2 (g1 : Grid) (v1 : List Span) (g2 : Grid) (v2 : List Span) (k : Nat) : Int := if k = 0 then fieldE 1073741824 ⟨g1, v1⟩ else fieldE 1073741824 ⟨g2, v2⟩
section
variable {g1 g2 : Grid} {v1 v2 : List Span} {lv reach : Int}
theorem pr1 (h : fieldE 1073741824 ⟨g1, v1⟩ ≠ 0) : fieldE 1073741824 ⟨g1, v1⟩ = pairE g1 v1 g2 v2 lv reach := (if_pos h).symm
theorem pr2 (h : ¬ fieldE 1073741824 ⟨g1, v1⟩ ≠ 0) (k : fieldE 1073741824 ⟨g2, v2⟩ ≠ 0) : fieldE 1073741824 ⟨g2, v2⟩ = pairE g1 v1 g2 v2 lv reach := by unfold pairE; rw [if_neg h, if_pos k]
theorem pr3 (h : ¬ fieldE 1073741824 ⟨g1, v1⟩ ≠ 0) (k : ¬ fieldE 1073741824 ⟨g2, v2⟩ ≠ 0) (j : ¬ [g1.x, g1.y, g1.size, g1.wide, g1.high] = [g2.x, g2.y, g2.size, g2.wide, g2.high]) : 11 = pairE g1 v1 g2 v2 lv reach := by unfold pairE gridL; rw [if_neg h, if_neg k, if_pos j]
theorem pr4 (h : ¬ fieldE 1073741824 ⟨g1, v1⟩ ≠ 0) (k : ¬ fieldE 1073741824 ⟨g2, v2⟩ ≠ 0) (j : ¬ ¬ [g1.x, g1.y, g1.size, g1.wide, g1.high] = [g2.x, g2.y, g2.size, g2.wide, g2.high]) (i : lv < 1 ∨ 1073741824 < lv ∨ reach < 0 ∨ 8 < reach) : 3 = pairE g1 v1 g2 v2 lv reach := by unfold pairE gridL; rw [if_neg h, if_neg k, if_neg j, if_pos i]
theorem pr5 (h : ¬ fieldE 1073741824 ⟨g1, v1⟩ ≠ 0) (k : ¬ fieldE 1073741824 ⟨g2, v2⟩ ≠ 0) (j : ¬ ¬ [g1.x, g1.y, g1.size, g1.wide, g1.high] = [g2.x, g2.y, g2.size, g2.wide, g2.high]) (i : ¬ (lv < 1 ∨ 1073741824 < lv ∨ reach < 0 ∨ 8 < reach)) : 0 = pairE g1 v1 g2 v2 lv reach := by unfold pairE gridL; rw [if_neg h, if_neg k, if_neg j, if_neg i]
theorem pairOk (h : pairE g1 v1 g2 v2 lv reach = 0) : fieldE 1073741824 ⟨g1, v1⟩ = 0 ∧ fieldE 1073741824 ⟨g2, v2⟩ = 0 ∧ g1 = g2 ∧ 1 ≤ lv ∧ lv ≤ 1073741824 ∧ 0 ≤ reach ∧ reach ≤ 8 := by
  unfold pairE at h
  split at h
  · rename_i q; exact absurd h q
  · rename_i q
    split at h
    · rename_i r; exact absurd h r
    · rename_i r
      split at h
      · omega
      · rename_i s
        split at h
        · omega
        · refine ⟨Classical.not_not.1 q, Classical.not_not.1 r, ?_, by omega, by omega, by omega, by omega⟩
          have e := Classical.not_not.1 s
          cases g1; cases g2
          simp only [gridL, List.cons.injEq] at e
          obtain ⟨rfl, rfl, rfl, rfl, rfl,_⟩ := e
          rfl
end
/-- A map's areas. -/
abbrev spV (g : Grid) (y : ArY) : Value := .agg #[.int .i64 g.x, .int .i64 g.y, .int .i64 g.size, .int .i64 g.wide, .int .i64 g.high, .slice y.p y.l.length y.c, .slice y.po (gW g * gH g) y.co]
theorem min2 (a : Nat) : (a = 0 ∧ min (a : Int) 2 = 0) ∨ (a = 1 ∧ min (a : Int) 2 = 1) ∨ (2 ≤ a ∧ min (a : Int) 2 = 2) := by omega
/-- What is read of areas. -/
structure SpI (w : World) (y : ArY) (of : List Int) : Prop where
  ar : RO 8 AreaR.cells w y.p y.l
  kr : ∀ a, a ∈ y.l → RR 1 nC w a.kp a.kr
  of : RO 1 iC w y.po of
theorem SpI.keep {w0 : World} {y : ArY} {of : List Int} {L : List Res} (h : SpI w0 y of) : ∀ w, St (bs w0) L w → SpI w y of := fun w hw => ⟨h.ar.keep w hw, fun a ha => (h.kr a ha).keep w hw, h.of.keep w hw⟩
/-- Where a pixel comes to, by a move. -/
def goodB (W H : Nat) (of : List Int) (j x y : Int) (p : Nat) : Bool :=
  decide (((p % W : Nat) : Int) + x < 0 ∨ (W : Int) ≤ ((p % W : Nat) : Int) + x ∨ ((p / W : Nat) : Int) + y < 0 ∨ (H : Int) ≤ ((p / W : Nat) : Int) + y) || decide (of.getD ((((p / W : Nat) : Int) + y) * W + (((p % W : Nat) : Int) + x)).toNat (-1) = j)
def followsB (W H : Nat) (ks : List (List Nat)) (of : List Int) (j x y : Int) : Bool := ks.all fun k => k.all (goodB W H of j x y)
theorem all_step {α : Type} {l : List α} {f : α → Bool} {k : Nat} {r : α} (hz : ∀ i a, i < k → l[i]? = some a → f a = true) (hr : l[k]? = some r) (hf : f r = true) : ∀ i a, i < k + 1 → l[i]? = some a → f a = true := fun i a hi ha => by
  rcases Nat.lt_succ_iff_lt_or_eq.1 hi with q | rfl
  · exact hz i a q ha
  · rw [hr] at ha; cases ha; exact hf
theorem all_end {α : Type} {l : List α} {f : α → Bool} {k : Nat} (hz : ∀ i a, i < k → l[i]? = some a → f a = true) (hk : l.length ≤ k) : l.all f = true := by
  refine List.all_eq_true.2 fun a ha => ?_
  obtain ⟨i, hi, rfl⟩ := List.mem_iff_getElem.1 ha
  exact hz i _ (by omega) (List.getElem?_eq_getElem hi)
theorem all_no {α : Type} {l : List α} {f : α → Bool} {k : Nat} {r : α} (hr : l[k]? = some r) (hf : ¬ f r = true) : l.all f = false := Bool.eq_false_iff.2 fun h => hf (List.all_eq_true.1 h r (List.mem_of_getElem? hr))
theorem target {g : Grid} (h : gridOk g) {x y : Int} (hx : ¬ (x < 0 ∨ g.wide ≤ x ∨ y < 0 ∨ g.high ≤ y)) : ∃ q : Nat, y * g.wide + x = q ∧ q < gW g * gH g ∧ (y * (gW g : Int) + x).toNat = q := by
  obtain ⟨e1, e2, w1, w2, h1, h2⟩ := gWi h
  obtain ⟨u, rfl⟩ : ∃ u : Nat, x = u := ⟨x.toNat, by omega⟩
  obtain ⟨v, rfl⟩ : ∃ v : Nat, y = v := ⟨y.toNat, by omega⟩
  have hu : u < gW g := by omega
  have hv : v < gH g := by omega
  refine ⟨v * gW g + u, by rw [← e1]; push_cast; rfl, ?_, ?_⟩
  · have : (v + 1) * gW g ≤ gH g * gW g := Nat.mul_le_mul_right _ hv
    rw [Nat.add_mul, Nat.one_mul] at this
    rw [Nat.mul_comm (gW g)]
    omega
  · have : ((v : Int) * (gW g : Int) + (u : Int)) = ((v * gW g + u : Nat) : Int) := by push_cast; rfl
    rw [this]; rfl
structure Mv where
  x : Int
  y : Int
def Mv.cells (m : Mv) : List Value := [.int .i64 m.x, .int .i64 m.y]
def Mv.neg (m : Mv) : Mv := ⟨-m.x, -m.y⟩
def mvAt (r n : Nat) : Mv := ⟨((n % (2 * r + 1) : Nat) : Int) - r, ((n / (2 * r + 1) : Nat) : Int) - r⟩
def moveOk (W H : Nat) (ka kb : List (List Nat)) (ofa ofb : List Int) (i j : Nat) (m : Mv) : Bool := followsB W H ka ofb j m.x m.y && followsB W H kb ofa i m.neg.x m.neg.y
def movesTo (W H : Nat) (ka kb : List (List Nat)) (ofa ofb : List Int) (i j r n : Nat) : List Mv := ((List.range n).map (mvAt r)).filter (moveOk W H ka kb ofa ofb i j)
def movesM (W H : Nat) (ka kb : List (List Nat)) (ofa ofb : List Int) (i j r : Nat) : List Mv := movesTo W H ka kb ofa ofb i j r ((2 * r + 1) * (2 * r + 1))
section
variable {W H i j r n : Nat} {ka kb : List (List Nat)} {ofa ofb : List Int}
theorem movesTo_t (h : moveOk W H ka kb ofa ofb i j (mvAt r n) = true) : movesTo W H ka kb ofa ofb i j r (n + 1) = movesTo W H ka kb ofa ofb i j r n ++ [mvAt r n] := by unfold movesTo; rw [List.range_succ, List.map_append, List.filter_append]; simp [h]
theorem movesTo_f (h : ¬ moveOk W H ka kb ofa ofb i j (mvAt r n) = true) : movesTo W H ka kb ofa ofb i j r (n + 1) = movesTo W H ka kb ofa ofb i j r n := by unfold movesTo; rw [List.range_succ, List.map_append, List.filter_append]; simp [h]
theorem movesTo_len : (movesTo W H ka kb ofa ofb i j r n).length ≤ n := by unfold movesTo; refine Nat.le_trans (List.length_filter_le _ _) ?_; simp
end
theorem mv_mod (n r : Nat) : ((n : Int)).tmod (2 * (r : Int) + 1) = ((n % (2 * r + 1) : Nat) : Int) := by
  rw [show (2 * (r : Int) + 1) = ((2 * r + 1 : Nat) : Int) by push_cast; rfl]; rfl
theorem mv_div (n r : Nat) : ((n : Int)).tdiv (2 * (r : Int) + 1) = ((n / (2 * r + 1) : Nat) : Int) := by
  rw [show (2 * (r : Int) + 1) = ((2 * r + 1 : Nat) : Int) by push_cast; rfl]; rfl
theorem mv_bd {n r : Nat} (h : n < (2 * r + 1) * (2 * r + 1)) : n % (2 * r + 1) ≤ 2 * r ∧ n / (2 * r + 1) ≤ 2 * r := ⟨by have := Nat.mod_lt n (show 0 < 2 * r + 1 by omega); omega, by have := Nat.div_lt_of_lt_mul h; omega⟩

set_option maxRecDepth 20000 in
set_option maxHeartbeats 4000000 in
theorem paired_c (g1 : Grid) (v1 : List Span) (p1 : Option Addr) (c1 : Nat) (g2 : Grid) (v2 : List Span) (p2 : Option Addr) (c2 : Nat) (lv reach : Int) (w : World) (hv1 : Spans w p1 v1) (hv2 : Spans w p2 v2) :
  Calls Try.prog 76 #[fieldV g1 p1 v1.length c1, fieldV g2 p2 v2.length c2, .int .i64 lv, .int .i64 reach] w fun e w' => e = .returned (.int .i64 (pairE g1 v1 g2 v2 lv reach)) ∧ St (bs w) [] w' := by
  refine enter (vs := [_,_,_,_]) (env := [(0,_), (1,_), (2,_), (3,_)]) Try.func76 rfl rfl rfl rfl ?_
  refine VC.seq ?_
  refine VC.reg (VO.h rfl<|HO.box (C := #[_,_,_,_,_,_]) rfl rfl fun b1 => VO.h rfl<|HO.box (C := #[_,_,_,_,_,_]) rfl rfl fun b2 => VO.l (LO.as (.r rfl)) rfl<|VO.nil ?_)
  refine VE.seqN ?_
  refine VC.seq ?_
  refine VC.seq ?_
  refine VC.reg (VO.l (LO.lda (vs := [_,_,_,_,_,_]) A26 (.r rfl) (fun _ hw => cells_at hw 1 rfl ⟨_, rfl⟩) rfl) rfl<|VO.l (LO.lda (vs := [_,_,_,_,_,_]) A26 (.r rfl) (fun _ hw => cells_at hw 0 rfl ⟨_, rfl⟩) rfl) rfl<|VO.h rfl<|HO.bs (ps := [(_,_), (_,_)]) (vs := [(_,_), (_,_)]) (Z := [_,_,_,_,_,_,_,_,_,_,_,_]) (C := [_,_,_,_,_,_,_,_,_,_,_,_]) S185 Z26 N26 ⟨(.r rfl), (.r rfl), trivial⟩ rfl rfl rfl rfl ⟨_, [_,_,_,_,_,_], [_,_,_,_,_,_,_,_,_,_,_,_], rfl, rfl, rfl, rfl, ⟨_, [_,_,_,_,_,_], [_,_,_,_,_,_,_,_,_,_,_,_], rfl, rfl, rfl, rfl, rfl⟩⟩ fun b3 => VO.h rfl<|HO.lo (LO.len S185 (.r rfl) rfl)<|VO.l (LO.mv (.r rfl)) rfl<|VO.nil ?_)
  refine VE.seqN ?_
  refine VC.block ?_
  refine VC.loopK (α := Nat) 0 (fun gx => [(16, .int .i64 (gx : Nat))]) [(2,_), (3,_), (4,_), (5,_), (14,_), (15,_)] (fun gx => []) (fun gx => gx ≤ 2 ∧ ∀ k, k < gx → fld2 g1 v1 g2 v2 k = 0) (fun gx => 2 - gx) 0 (by exact ⟨Nat.zero_le _, fun k hk => absurd hk (Nat.not_lt_zero _)⟩) (.cons rfl (.cons rfl (.cons rfl (.cons rfl (.cons rfl (.cons rfl (.cons rfl .nil))))))) (fun _ h => h) ?_
  rintro i ⟨hi, hz⟩
  refine VC.seq ?_
  refine VC.reg (VO.l (LO.lt (.r rfl) (.r rfl)) rfl<|VO.nil ?_)
  refine VE.seqN ?_
  refine VC.seq ?_
  refine VC.cond rfl (fun h17 => ?_) (fun h17 => ?_)
  ·
    refine VC.skip (VE.seqN ?_)
    refine VC.seq ?_
    refine VC.block ?_
    refine VC.seq ?_
    rcases (by omega : i = 0 ∨ i = 1) with rfl | rfl
    ·
      refine VC.reg (VO.l (LO.ix (j := 0) S185 N26 (.r rfl) (.r rfl) (by decide)) rfl<|VO.l (LO.lda (vs := [_,_,_,_,_,_]) A26 (.r rfl) (fun _ hw => cells_at hw 0 rfl ⟨_, rfl⟩) rfl) rfl<|VO.h rfl<|HO.alloc (C := #[_,_,_,_,_,_]) Z26 rfl fun b4 => VO.h0<|HO.st 0 (vs := [_,_,_,_,_,_]) (C' := [_,_,_,_,_,_]) (L' := [_,_,_,_]) N26 rfl rfl rfl rfl rfl rfl rfl rfl<|VO.nil ?_)
      refine VE.seqN ?_
      refine VC.seq ?_
      refine VC.reg (VO.l (LO.lda (vs := [_,_,_,_,_,_]) A26 (.r rfl) (fun _ hw => cells_at hw 0 rfl ⟨_, rfl⟩) rfl) rfl<|VO.l (LO.call (xs := [_]) (vs := [_]) C73 ⟨(.r rfl), trivial⟩ (fun w hw => bCheckField_c ⟨g1, v1⟩ p1 c1 w (hv1.keep w hw))) rfl<|VO.l (LO.as (.r rfl)) rfl<|VO.nil ?_)
      refine VE.seqN ?_
      refine VC.seq ?_
      refine VC.reg (VO.l (LO.mv (.r rfl)) rfl<|VO.l (LO.ne (.r rfl) (.r rfl)) rfl<|VO.nil ?_)
      refine VE.seqN ?_
      refine VC.cond rfl (fun h23 => ?_) (fun h23 => ?_)
      ·
        refine VC.seq ?_
        refine VC.reg (VO.l (LO.mv (.r rfl)) rfl<|VO.l (LO.as (.r rfl)) rfl<|VO.nil ?_)
        refine VE.seqN ?_
        refine VC.ret (VE.inR (VE.thenR (VE.thenR (VE.inR (VE.thenR (VE.res (vs := [_]) rfl ⟨rfl, trivial⟩ (fun w hw => ?_)))))))
        refine ⟨?_, hw.nil⟩
        refine congrArg (fun z => Ending.returned (.int .i64 z)) ?_
        first | exact pr1 h23 | exact pr2 (by simpa [fld2] using hz1) h23 | exact pr3 (fun z => z hz1) (fun z => z hz2) h26 | exact pr4 (lv := lv) (reach := reach) (fun z => z hz1) (fun z => z hz2) h26 (by omega) | exact pr5 (lv := lv) (reach := reach) (fun z => z hz1) (fun z => z hz2) h26 (by omega)
      ·
        refine VC.skip (VE.inN (VE.seqN ?_))
        refine VC.reg (VO.l (LO.add (.r rfl) (.r rfl) (wi (by omega) (by omega))) rfl<|VO.l (LO.mv (.r rfl)) rfl<|VO.nil ?_)
        refine VE.thenN fun a w ha hw => ⟨_ + 1, ⟨by omega, step_zero hz (by first | exact Classical.not_not.1 h23)⟩, (by omega), ha.sub (.cons rfl (.cons rfl (.cons rfl (.cons rfl (.cons rfl (.cons rfl (.cons rfl .nil))))))), hw.sel [1,2,3] rfl⟩
    ·
      have hz1 := hz 0 (by omega)
      refine VC.reg (VO.l (LO.ix (j := 1) S185 N26 (.r rfl) (.r rfl) (by decide)) rfl<|VO.l (LO.lda (vs := [_,_,_,_,_,_]) A26 (.r rfl) (fun _ hw => cells_at hw 0 rfl ⟨_, rfl⟩) rfl) rfl<|VO.h rfl<|HO.alloc (C := #[_,_,_,_,_,_]) Z26 rfl fun b6 => VO.h0<|HO.st 0 (vs := [_,_,_,_,_,_]) (C' := [_,_,_,_,_,_]) (L' := [_,_,_,_]) N26 rfl rfl rfl rfl rfl rfl rfl rfl<|VO.nil ?_)
      refine VE.seqN ?_
      refine VC.seq ?_
      refine VC.reg (VO.l (LO.lda (vs := [_,_,_,_,_,_]) A26 (.r rfl) (fun _ hw => cells_at hw 0 rfl ⟨_, rfl⟩) rfl) rfl<|VO.l (LO.call (xs := [_]) (vs := [_]) C73 ⟨(.r rfl), trivial⟩ (fun w hw => bCheckField_c ⟨g2, v2⟩ p2 c2 w (hv2.keep w hw))) rfl<|VO.l (LO.as (.r rfl)) rfl<|VO.nil ?_)
      refine VE.seqN ?_
      refine VC.seq ?_
      refine VC.reg (VO.l (LO.mv (.r rfl)) rfl<|VO.l (LO.ne (.r rfl) (.r rfl)) rfl<|VO.nil ?_)
      refine VE.seqN ?_
      refine VC.cond rfl (fun h23 => ?_) (fun h23 => ?_)
      ·
        refine VC.seq ?_
        refine VC.reg (VO.l (LO.mv (.r rfl)) rfl<|VO.l (LO.as (.r rfl)) rfl<|VO.nil ?_)
        refine VE.seqN ?_
        refine VC.ret (VE.inR (VE.thenR (VE.thenR (VE.inR (VE.thenR (VE.res (vs := [_]) rfl ⟨rfl, trivial⟩ (fun w hw => ?_)))))))
        refine ⟨?_, hw.nil⟩
        refine congrArg (fun z => Ending.returned (.int .i64 z)) ?_
        first | exact pr1 h23 | exact pr2 (by simpa [fld2] using hz1) h23 | exact pr3 (fun z => z hz1) (fun z => z hz2) h26 | exact pr4 (lv := lv) (reach := reach) (fun z => z hz1) (fun z => z hz2) h26 (by omega) | exact pr5 (lv := lv) (reach := reach) (fun z => z hz1) (fun z => z hz2) h26 (by omega)
      ·
        refine VC.skip (VE.inN (VE.seqN ?_))
        refine VC.reg (VO.l (LO.add (.r rfl) (.r rfl) (wi (by omega) (by omega))) rfl<|VO.l (LO.mv (.r rfl)) rfl<|VO.nil ?_)
        refine VE.thenN fun a w ha hw => ⟨_ + 1, ⟨by omega, step_zero hz (by first | exact Classical.not_not.1 h23)⟩, (by omega), ha.sub (.cons rfl (.cons rfl (.cons rfl (.cons rfl (.cons rfl (.cons rfl (.cons rfl .nil))))))), hw.sel [1,2,3] rfl⟩
  ·
    have hz1 := hz 0 (by omega)
    have hz2 := hz 1 (by omega)
    unfold fld2 at hz1 hz2
    simp only [if_true, if_false] at hz1 hz2
    refine VC.exit (VE.thenX (VE.thenX (VE.inX (VE.seqN ?_))))
    refine VC.seq ?_
    refine VC.block ?_
    refine VC.seq ?_
    refine VC.reg (VO.l (LO.fa (r := 0) F26_0 (.r rfl) rfl) rfl<|VO.l (LO.lda (vs := [_,_,_,_,_]) A23 (.r rfl) (fun _ hw => cells_at hw 2 rfl ⟨_, rfl⟩) rfl) rfl<|VO.l (LO.fa (r := 0) F26_0 (.r rfl) rfl) rfl<|VO.l (LO.lda (vs := [_,_,_,_,_]) A23 (.r rfl) (fun _ hw => cells_at hw 1 rfl ⟨_, rfl⟩) rfl) rfl<|VO.l (LO.neA («as» := [_,_,_,_,_]) (bs := [_,_,_,_,_]) EA23 (.r rfl) (.r rfl) rfl rfl) rfl<|VO.l (LO.as (.r rfl)) rfl<|VO.nil ?_)
    refine VE.seqN ?_
    refine VC.cond rfl (fun h26 => ?_) (fun h26 => ?_)
    ·
      refine VC.seq ?_
      refine VC.reg (VO.l (LO.as (.r rfl)) rfl<|VO.nil ?_)
      refine VE.seqN ?_
      refine VC.ret (VE.inR (VE.thenR (VE.res (vs := [_]) rfl ⟨rfl, trivial⟩ (fun w hw => ?_))))
      refine ⟨?_, hw.nil⟩
      refine congrArg (fun z => Ending.returned (.int .i64 z)) ?_
      first | exact pr1 h23 | exact pr2 (by simpa [fld2] using hz1) h23 | exact pr3 (fun z => z hz1) (fun z => z hz2) h26 | exact pr4 (lv := lv) (reach := reach) (fun z => z hz1) (fun z => z hz2) h26 (by omega) | exact pr5 (lv := lv) (reach := reach) (fun z => z hz1) (fun z => z hz2) h26 (by omega)
    ·
      refine VC.seq ?_
      refine VC.reg (VO.l (LO.mv (.r rfl)) rfl<|VO.l (LO.lt (.r rfl) (.r rfl)) rfl<|VO.l (LO.mv (.r rfl)) rfl<|VO.lg rfl rfl (GD.f _) (fun hg => LO.mv (.r rfl)) rfl<|VO.lg rfl rfl (GD.f _) (fun hg => LO.gt (.g hg rfl) (.r rfl)) rfl<|VO.l (LO.pkO (.r rfl) (.r rfl) rfl rfl) rfl<|VO.l (LO.mv (.r rfl)) rfl<|VO.lg rfl rfl (GD.f _) (fun hg => LO.mv (.r rfl)) rfl<|VO.lg rfl rfl (GD.f _) (fun hg => LO.lt (.g hg rfl) (.r rfl)) rfl<|VO.l (LO.pkO (.r rfl) (.r rfl) rfl rfl) rfl<|VO.l (LO.mv (.r rfl)) rfl<|VO.lg rfl rfl (GD.f _) (fun hg => LO.mv (.r rfl)) rfl<|VO.lg rfl rfl (GD.f _) (fun hg => LO.gt (.g hg rfl) (.r rfl)) rfl<|VO.l (LO.pkO (.r rfl) (.r rfl) rfl rfl) rfl<|VO.l (LO.as (.r rfl)) rfl<|VO.nil ?_)
      refine VE.seqN ?_
      refine VC.cond rfl (fun h32 => ?_) (fun h32 => ?_)
      ·
        refine VC.seq ?_
        refine VC.reg (VO.l (LO.as (.r rfl)) rfl<|VO.nil ?_)
        refine VE.seqN ?_
        refine VC.ret (VE.inR (VE.thenR (VE.res (vs := [_]) rfl ⟨rfl, trivial⟩ (fun w hw => ?_))))
        refine ⟨?_, hw.nil⟩
        refine congrArg (fun z => Ending.returned (.int .i64 z)) ?_
        first | exact pr1 h23 | exact pr2 (by simpa [fld2] using hz1) h23 | exact pr3 (fun z => z hz1) (fun z => z hz2) h26 | exact pr4 (lv := lv) (reach := reach) (fun z => z hz1) (fun z => z hz2) h26 (by omega) | exact pr5 (lv := lv) (reach := reach) (fun z => z hz1) (fun z => z hz2) h26 (by omega)
      ·
        refine VC.skip (VE.inN (VE.seqN ?_))
        refine VC.seq ?_
        refine VC.reg (VO.l (LO.as (.r rfl)) rfl<|VO.nil ?_)
        refine VE.seqN ?_
        refine VC.ret (VE.res (vs := [_]) rfl ⟨rfl, trivial⟩ (fun w hw => ?_))
        refine ⟨?_, hw.nil⟩
        refine congrArg (fun z => Ending.returned (.int .i64 z)) ?_
        first | exact pr1 h23 | exact pr2 (by simpa [fld2] using hz1) h23 | exact pr3 (fun z => z hz1) (fun z => z hz2) h26 | exact pr4 (lv := lv) (reach := reach) (fun z => z hz1) (fun z => z hz2) h26 (by omega) | exact pr5 (lv := lv) (reach := reach) (fun z => z hz1) (fun z => z hz2) h26 (by omega)

set_option maxRecDepth 20000 in
theorem spreadOf_c (g : Grid) (vs : List Span) (pv : Option Addr) (cv : Nat) (lv : Int) (w : World) (hg : gridOk g) (hlen : (vs.length : Int) = g.wide * g.high) (hok : ∀ j, j < vs.length → spanOk 1073741824 (vs.getD j ⟨0,0⟩)) (hv : Spans w pv vs) :
  Calls Try.prog 78 #[fieldV g pv vs.length cv, .int .i64 lv] w fun e w' => ∃ y : ArY, ArP (gW g) (gH g) vs lv y ∧ e = .returned (spV g y) ∧ St (bs w) (y.R (ofL (gW g) (gH g) (mayB vs lv))) w' := by
  refine enter (vs := [_,_]) (env := [(0,_), (1,_)]) Try.func78 rfl rfl rfl rfl ?_
  refine VC.seq ?_
  refine VC.reg (VO.h rfl<|HO.box (C := #[_,_,_,_,_,_]) rfl rfl fun b1 => VO.h rfl<|HO.alloc (C := #[_,_,_,_,_,_,_]) Z154 rfl fun b2 => VO.nil ?_)
  refine VE.seqN ?_
  refine VC.seq ?_
  refine VC.reg (VO.l (LO.lda (vs := [_,_,_,_,_,_]) A26 (.r rfl) (fun _ hw => cells_at hw 1 rfl ⟨_, rfl⟩) rfl) rfl<|VO.l (LO.mv (.r rfl)) rfl<|VO.l (LO.bd (ps := [(_,_), (_,_)]) (vs := [(_,_), (_,_)]) (C := [_,_,_,_,_,_,_]) B128  ⟨(.r rfl), (.r rfl), trivial⟩ rfl ⟨_, [_,_,_,_,_,_], [_,_,_,_,_,_,_], rfl, rfl, rfl, rfl, ⟨_, [_], [_,_,_,_,_,_,_], rfl, rfl, rfl, rfl, rfl⟩⟩) rfl<|VO.h rfl<|HO.callx (xs := [_]) (vs := [_]) C58 ⟨(.r rfl), trivial⟩ (fun w hw => areas_c g vs pv cv lv w hg hlen hok (hv.keep w hw)) fun y hy => VO.h rfl<|HO.lo (LO.mv (.r rfl))<|VO.h rfl<|HO.lo (LO.ex (.r rfl) rfl)<|VO.h rfl<|HO.lo (LO.ex (.r rfl) rfl)<|VO.h rfl<|HO.lo (LO.as (.r rfl))<|VO.h rfl<|HO.lo (LO.as (.r rfl))<|VO.nil ?_)
  refine VE.seqN ?_
  refine VC.seq ?_
  refine VC.reg (VO.l (LO.fa (r := 0) F26_0 (.r rfl) rfl) rfl<|VO.l (LO.lda (vs := [_,_,_,_,_]) A23 (.r rfl) (fun _ hw => cells_at hw 9 rfl ⟨_, rfl⟩) rfl) rfl<|VO.l (LO.mv (.r rfl)) rfl<|VO.l (LO.mv (.r rfl)) rfl<|VO.l (LO.bd (ps := [(_,_), (_,_), (_,_)]) (vs := [(_,_), (_,_), (_,_)]) (C := [_,_,_,_,_,_,_]) B154  ⟨(.r rfl), (.r rfl), (.r rfl), trivial⟩ rfl ⟨_, [_,_,_,_,_], [_,_,_,_,_,_,_], rfl, rfl, rfl, rfl, ⟨_, [_], [_,_,_,_,_,_,_], rfl, rfl, rfl, rfl, ⟨_, [_], [_,_,_,_,_,_,_], rfl, rfl, rfl, rfl, rfl⟩⟩⟩) rfl<|VO.h0<|HO.st 8 (vs := [_,_,_,_,_,_,_]) (C' := [_,_,_,_,_,_,_]) (L' := [_,_,_,_,_,_,_,_,_,_]) N154 rfl rfl rfl rfl rfl rfl rfl rfl<|VO.nil ?_)
  refine VE.seqN ?_
  refine VC.ret (VE.res (vs := [_]) rfl ⟨RV.agg (vs := [_,_,_,_,_,_,_]) A154 rfl (cells_blk 8 rfl ⟨_, rfl⟩) rfl, trivial⟩ (fun w hw => ?_))
  exact ⟨y, hy, rfl, selK [0,1,2,3,4,5,6,7] rfl rfl _ hw⟩

set_option maxRecDepth 20000 in
theorem kind_c (a b : Nat) (w : World) (ha : a < 1000000) (hb : b < 1000000) (hab : 0 < a + b) :
  Calls Try.prog 113 #[.int .i64 (a : Int), .int .i64 (b : Int)] w fun e w' => e = .returned (.int .i64 (kindM a b)) ∧ St (bs w) [] w' := by
  refine enter (vs := [_,_]) (env := [(0,_), (1,_)]) Try.func113 rfl rfl rfl rfl ?_
  refine VC.seq ?_
  refine VC.reg (VO.l (LO.as (.r rfl)) rfl<|VO.nil ?_)
  refine VE.seqN ?_
  refine VC.seq ?_
  rcases min2 a with ⟨ea, ma⟩ | ⟨ea, ma⟩ | ⟨ea, ma⟩ <;> rcases min2 b with ⟨eb, mb⟩ | ⟨eb, mb⟩ | ⟨eb, mb⟩
  ·
    subst ea
    subst eb
    refine VC.reg (VO.l (LO.bda (ps := [(_,_), (_,_), (_,_)]) (vs := [(_,_), (_,_), (_,_)]) (C := [_,_,_]) B220 rfl ⟨(.r rfl), (.r rfl), (.r rfl), trivial⟩ rfl ⟨_, [_], [_,_,_], rfl, rfl, rfl, rfl, ⟨_, [_], [_,_,_], rfl, rfl, rfl, rfl, ⟨_, [_], [_,_,_], rfl, rfl, rfl, rfl, rfl⟩⟩⟩) rfl<|VO.l (LO.bda (ps := [(_,_), (_,_), (_,_)]) (vs := [(_,_), (_,_), (_,_)]) (C := [_,_,_]) B220 rfl ⟨(.r rfl), (.r rfl), (.r rfl), trivial⟩ rfl ⟨_, [_], [_,_,_], rfl, rfl, rfl, rfl, ⟨_, [_], [_,_,_], rfl, rfl, rfl, rfl, ⟨_, [_], [_,_,_], rfl, rfl, rfl, rfl, rfl⟩⟩⟩) rfl<|VO.l (LO.bda (ps := [(_,_), (_,_), (_,_)]) (vs := [(_,_), (_,_), (_,_)]) (C := [_,_,_]) B220 rfl ⟨(.r rfl), (.r rfl), (.r rfl), trivial⟩ rfl ⟨_, [_], [_,_,_], rfl, rfl, rfl, rfl, ⟨_, [_], [_,_,_], rfl, rfl, rfl, rfl, ⟨_, [_], [_,_,_], rfl, rfl, rfl, rfl, rfl⟩⟩⟩) rfl<|VO.l (LO.bda (ps := [(_,_), (_,_), (_,_)]) (vs := [(_,_), (_,_), (_,_)]) (C := [_,_,_,_,_,_,_,_,_]) B221 rfl ⟨(.r rfl), (.r rfl), (.r rfl), trivial⟩ rfl ⟨_, [_,_,_], [_,_,_,_,_,_,_,_,_], rfl, rfl, rfl, rfl, ⟨_, [_,_,_], [_,_,_,_,_,_,_,_,_], rfl, rfl, rfl, rfl, ⟨_, [_,_,_], [_,_,_,_,_,_,_,_,_], rfl, rfl, rfl, rfl, rfl⟩⟩⟩) rfl<|VO.l (LO.mv (.r rfl)) rfl<|VO.l (LO.min (.r rfl) (.r rfl)) rfl<|VO.l (LO.ixg (j := 0) (vs := [_,_,_]) Try.underlying221 A220 (.r rfl) (.r rfl) ma (by decide) rfl) rfl<|VO.l (LO.mv (.r rfl)) rfl<|VO.l (LO.min (.r rfl) (.r rfl)) rfl<|VO.l (LO.ixv (j := 0) Try.underlying220 O3 (.r rfl) (.r rfl) mb (by decide) rfl) rfl<|VO.l (LO.as (.r rfl)) rfl<|VO.nil ?_)
    refine VE.seqN ?_
    refine VC.ret (VE.res (vs := [_]) rfl ⟨rfl, trivial⟩ (fun w hw => ?_))
    refine ⟨?_, hw.nil⟩
    refine congrArg (fun z => Ending.returned (.int .i64 z)) ?_
    unfold kindM
    first | (exfalso; omega) | (simp [ea, eb]; done) | (rw [if_neg (by omega), if_neg (by omega)]; first | rw [if_pos (by omega), if_pos (by omega)] | rw [if_pos (by omega), if_neg (by omega)] | rw [if_neg (by omega), if_pos (by omega)] | rw [if_neg (by omega), if_neg (by omega)]) | (rw [if_pos (by omega)]) | (rw [if_neg (by omega), if_pos (by omega)])
  ·
    refine VC.reg (VO.l (LO.bda (ps := [(_,_), (_,_), (_,_)]) (vs := [(_,_), (_,_), (_,_)]) (C := [_,_,_]) B220 rfl ⟨(.r rfl), (.r rfl), (.r rfl), trivial⟩ rfl ⟨_, [_], [_,_,_], rfl, rfl, rfl, rfl, ⟨_, [_], [_,_,_], rfl, rfl, rfl, rfl, ⟨_, [_], [_,_,_], rfl, rfl, rfl, rfl, rfl⟩⟩⟩) rfl<|VO.l (LO.bda (ps := [(_,_), (_,_), (_,_)]) (vs := [(_,_), (_,_), (_,_)]) (C := [_,_,_]) B220 rfl ⟨(.r rfl), (.r rfl), (.r rfl), trivial⟩ rfl ⟨_, [_], [_,_,_], rfl, rfl, rfl, rfl, ⟨_, [_], [_,_,_], rfl, rfl, rfl, rfl, ⟨_, [_], [_,_,_], rfl, rfl, rfl, rfl, rfl⟩⟩⟩) rfl<|VO.l (LO.bda (ps := [(_,_), (_,_), (_,_)]) (vs := [(_,_), (_,_), (_,_)]) (C := [_,_,_]) B220 rfl ⟨(.r rfl), (.r rfl), (.r rfl), trivial⟩ rfl ⟨_, [_], [_,_,_], rfl, rfl, rfl, rfl, ⟨_, [_], [_,_,_], rfl, rfl, rfl, rfl, ⟨_, [_], [_,_,_], rfl, rfl, rfl, rfl, rfl⟩⟩⟩) rfl<|VO.l (LO.bda (ps := [(_,_), (_,_), (_,_)]) (vs := [(_,_), (_,_), (_,_)]) (C := [_,_,_,_,_,_,_,_,_]) B221 rfl ⟨(.r rfl), (.r rfl), (.r rfl), trivial⟩ rfl ⟨_, [_,_,_], [_,_,_,_,_,_,_,_,_], rfl, rfl, rfl, rfl, ⟨_, [_,_,_], [_,_,_,_,_,_,_,_,_], rfl, rfl, rfl, rfl, ⟨_, [_,_,_], [_,_,_,_,_,_,_,_,_], rfl, rfl, rfl, rfl, rfl⟩⟩⟩) rfl<|VO.l (LO.mv (.r rfl)) rfl<|VO.l (LO.min (.r rfl) (.r rfl)) rfl<|VO.l (LO.ixg (j := 0) (vs := [_,_,_]) Try.underlying221 A220 (.r rfl) (.r rfl) ma (by decide) rfl) rfl<|VO.l (LO.mv (.r rfl)) rfl<|VO.l (LO.min (.r rfl) (.r rfl)) rfl<|VO.l (LO.ixv (j := 1) Try.underlying220 O3 (.r rfl) (.r rfl) mb (by decide) rfl) rfl<|VO.l (LO.as (.r rfl)) rfl<|VO.nil ?_)
    refine VE.seqN ?_
    refine VC.ret (VE.res (vs := [_]) rfl ⟨rfl, trivial⟩ (fun w hw => ?_))
    refine ⟨?_, hw.nil⟩
    refine congrArg (fun z => Ending.returned (.int .i64 z)) ?_
    unfold kindM
    first | (exfalso; omega) | (simp [ea, eb]; done) | (rw [if_neg (by omega), if_neg (by omega)]; first | rw [if_pos (by omega), if_pos (by omega)] | rw [if_pos (by omega), if_neg (by omega)] | rw [if_neg (by omega), if_pos (by omega)] | rw [if_neg (by omega), if_neg (by omega)]) | (rw [if_pos (by omega)]) | (rw [if_neg (by omega), if_pos (by omega)])
  ·
    refine VC.reg (VO.l (LO.bda (ps := [(_,_), (_,_), (_,_)]) (vs := [(_,_), (_,_), (_,_)]) (C := [_,_,_]) B220 rfl ⟨(.r rfl), (.r rfl), (.r rfl), trivial⟩ rfl ⟨_, [_], [_,_,_], rfl, rfl, rfl, rfl, ⟨_, [_], [_,_,_], rfl, rfl, rfl, rfl, ⟨_, [_], [_,_,_], rfl, rfl, rfl, rfl, rfl⟩⟩⟩) rfl<|VO.l (LO.bda (ps := [(_,_), (_,_), (_,_)]) (vs := [(_,_), (_,_), (_,_)]) (C := [_,_,_]) B220 rfl ⟨(.r rfl), (.r rfl), (.r rfl), trivial⟩ rfl ⟨_, [_], [_,_,_], rfl, rfl, rfl, rfl, ⟨_, [_], [_,_,_], rfl, rfl, rfl, rfl, ⟨_, [_], [_,_,_], rfl, rfl, rfl, rfl, rfl⟩⟩⟩) rfl<|VO.l (LO.bda (ps := [(_,_), (_,_), (_,_)]) (vs := [(_,_), (_,_), (_,_)]) (C := [_,_,_]) B220 rfl ⟨(.r rfl), (.r rfl), (.r rfl), trivial⟩ rfl ⟨_, [_], [_,_,_], rfl, rfl, rfl, rfl, ⟨_, [_], [_,_,_], rfl, rfl, rfl, rfl, ⟨_, [_], [_,_,_], rfl, rfl, rfl, rfl, rfl⟩⟩⟩) rfl<|VO.l (LO.bda (ps := [(_,_), (_,_), (_,_)]) (vs := [(_,_), (_,_), (_,_)]) (C := [_,_,_,_,_,_,_,_,_]) B221 rfl ⟨(.r rfl), (.r rfl), (.r rfl), trivial⟩ rfl ⟨_, [_,_,_], [_,_,_,_,_,_,_,_,_], rfl, rfl, rfl, rfl, ⟨_, [_,_,_], [_,_,_,_,_,_,_,_,_], rfl, rfl, rfl, rfl, ⟨_, [_,_,_], [_,_,_,_,_,_,_,_,_], rfl, rfl, rfl, rfl, rfl⟩⟩⟩) rfl<|VO.l (LO.mv (.r rfl)) rfl<|VO.l (LO.min (.r rfl) (.r rfl)) rfl<|VO.l (LO.ixg (j := 0) (vs := [_,_,_]) Try.underlying221 A220 (.r rfl) (.r rfl) ma (by decide) rfl) rfl<|VO.l (LO.mv (.r rfl)) rfl<|VO.l (LO.min (.r rfl) (.r rfl)) rfl<|VO.l (LO.ixv (j := 2) Try.underlying220 O3 (.r rfl) (.r rfl) mb (by decide) rfl) rfl<|VO.l (LO.as (.r rfl)) rfl<|VO.nil ?_)
    refine VE.seqN ?_
    refine VC.ret (VE.res (vs := [_]) rfl ⟨rfl, trivial⟩ (fun w hw => ?_))
    refine ⟨?_, hw.nil⟩
    refine congrArg (fun z => Ending.returned (.int .i64 z)) ?_
    unfold kindM
    first | (exfalso; omega) | (simp [ea, eb]; done) | (rw [if_neg (by omega), if_neg (by omega)]; first | rw [if_pos (by omega), if_pos (by omega)] | rw [if_pos (by omega), if_neg (by omega)] | rw [if_neg (by omega), if_pos (by omega)] | rw [if_neg (by omega), if_neg (by omega)]) | (rw [if_pos (by omega)]) | (rw [if_neg (by omega), if_pos (by omega)])
  ·
    refine VC.reg (VO.l (LO.bda (ps := [(_,_), (_,_), (_,_)]) (vs := [(_,_), (_,_), (_,_)]) (C := [_,_,_]) B220 rfl ⟨(.r rfl), (.r rfl), (.r rfl), trivial⟩ rfl ⟨_, [_], [_,_,_], rfl, rfl, rfl, rfl, ⟨_, [_], [_,_,_], rfl, rfl, rfl, rfl, ⟨_, [_], [_,_,_], rfl, rfl, rfl, rfl, rfl⟩⟩⟩) rfl<|VO.l (LO.bda (ps := [(_,_), (_,_), (_,_)]) (vs := [(_,_), (_,_), (_,_)]) (C := [_,_,_]) B220 rfl ⟨(.r rfl), (.r rfl), (.r rfl), trivial⟩ rfl ⟨_, [_], [_,_,_], rfl, rfl, rfl, rfl, ⟨_, [_], [_,_,_], rfl, rfl, rfl, rfl, ⟨_, [_], [_,_,_], rfl, rfl, rfl, rfl, rfl⟩⟩⟩) rfl<|VO.l (LO.bda (ps := [(_,_), (_,_), (_,_)]) (vs := [(_,_), (_,_), (_,_)]) (C := [_,_,_]) B220 rfl ⟨(.r rfl), (.r rfl), (.r rfl), trivial⟩ rfl ⟨_, [_], [_,_,_], rfl, rfl, rfl, rfl, ⟨_, [_], [_,_,_], rfl, rfl, rfl, rfl, ⟨_, [_], [_,_,_], rfl, rfl, rfl, rfl, rfl⟩⟩⟩) rfl<|VO.l (LO.bda (ps := [(_,_), (_,_), (_,_)]) (vs := [(_,_), (_,_), (_,_)]) (C := [_,_,_,_,_,_,_,_,_]) B221 rfl ⟨(.r rfl), (.r rfl), (.r rfl), trivial⟩ rfl ⟨_, [_,_,_], [_,_,_,_,_,_,_,_,_], rfl, rfl, rfl, rfl, ⟨_, [_,_,_], [_,_,_,_,_,_,_,_,_], rfl, rfl, rfl, rfl, ⟨_, [_,_,_], [_,_,_,_,_,_,_,_,_], rfl, rfl, rfl, rfl, rfl⟩⟩⟩) rfl<|VO.l (LO.mv (.r rfl)) rfl<|VO.l (LO.min (.r rfl) (.r rfl)) rfl<|VO.l (LO.ixg (j := 1) (vs := [_,_,_]) Try.underlying221 A220 (.r rfl) (.r rfl) ma (by decide) rfl) rfl<|VO.l (LO.mv (.r rfl)) rfl<|VO.l (LO.min (.r rfl) (.r rfl)) rfl<|VO.l (LO.ixv (j := 0) Try.underlying220 O3 (.r rfl) (.r rfl) mb (by decide) rfl) rfl<|VO.l (LO.as (.r rfl)) rfl<|VO.nil ?_)
    refine VE.seqN ?_
    refine VC.ret (VE.res (vs := [_]) rfl ⟨rfl, trivial⟩ (fun w hw => ?_))
    refine ⟨?_, hw.nil⟩
    refine congrArg (fun z => Ending.returned (.int .i64 z)) ?_
    unfold kindM
    first | (exfalso; omega) | (simp [ea, eb]; done) | (rw [if_neg (by omega), if_neg (by omega)]; first | rw [if_pos (by omega), if_pos (by omega)] | rw [if_pos (by omega), if_neg (by omega)] | rw [if_neg (by omega), if_pos (by omega)] | rw [if_neg (by omega), if_neg (by omega)]) | (rw [if_pos (by omega)]) | (rw [if_neg (by omega), if_pos (by omega)])
  ·
    refine VC.reg (VO.l (LO.bda (ps := [(_,_), (_,_), (_,_)]) (vs := [(_,_), (_,_), (_,_)]) (C := [_,_,_]) B220 rfl ⟨(.r rfl), (.r rfl), (.r rfl), trivial⟩ rfl ⟨_, [_], [_,_,_], rfl, rfl, rfl, rfl, ⟨_, [_], [_,_,_], rfl, rfl, rfl, rfl, ⟨_, [_], [_,_,_], rfl, rfl, rfl, rfl, rfl⟩⟩⟩) rfl<|VO.l (LO.bda (ps := [(_,_), (_,_), (_,_)]) (vs := [(_,_), (_,_), (_,_)]) (C := [_,_,_]) B220 rfl ⟨(.r rfl), (.r rfl), (.r rfl), trivial⟩ rfl ⟨_, [_], [_,_,_], rfl, rfl, rfl, rfl, ⟨_, [_], [_,_,_], rfl, rfl, rfl, rfl, ⟨_, [_], [_,_,_], rfl, rfl, rfl, rfl, rfl⟩⟩⟩) rfl<|VO.l (LO.bda (ps := [(_,_), (_,_), (_,_)]) (vs := [(_,_), (_,_), (_,_)]) (C := [_,_,_]) B220 rfl ⟨(.r rfl), (.r rfl), (.r rfl), trivial⟩ rfl ⟨_, [_], [_,_,_], rfl, rfl, rfl, rfl, ⟨_, [_], [_,_,_], rfl, rfl, rfl, rfl, ⟨_, [_], [_,_,_], rfl, rfl, rfl, rfl, rfl⟩⟩⟩) rfl<|VO.l (LO.bda (ps := [(_,_), (_,_), (_,_)]) (vs := [(_,_), (_,_), (_,_)]) (C := [_,_,_,_,_,_,_,_,_]) B221 rfl ⟨(.r rfl), (.r rfl), (.r rfl), trivial⟩ rfl ⟨_, [_,_,_], [_,_,_,_,_,_,_,_,_], rfl, rfl, rfl, rfl, ⟨_, [_,_,_], [_,_,_,_,_,_,_,_,_], rfl, rfl, rfl, rfl, ⟨_, [_,_,_], [_,_,_,_,_,_,_,_,_], rfl, rfl, rfl, rfl, rfl⟩⟩⟩) rfl<|VO.l (LO.mv (.r rfl)) rfl<|VO.l (LO.min (.r rfl) (.r rfl)) rfl<|VO.l (LO.ixg (j := 1) (vs := [_,_,_]) Try.underlying221 A220 (.r rfl) (.r rfl) ma (by decide) rfl) rfl<|VO.l (LO.mv (.r rfl)) rfl<|VO.l (LO.min (.r rfl) (.r rfl)) rfl<|VO.l (LO.ixv (j := 1) Try.underlying220 O3 (.r rfl) (.r rfl) mb (by decide) rfl) rfl<|VO.l (LO.as (.r rfl)) rfl<|VO.nil ?_)
    refine VE.seqN ?_
    refine VC.ret (VE.res (vs := [_]) rfl ⟨rfl, trivial⟩ (fun w hw => ?_))
    refine ⟨?_, hw.nil⟩
    refine congrArg (fun z => Ending.returned (.int .i64 z)) ?_
    unfold kindM
    first | (exfalso; omega) | (simp [ea, eb]; done) | (rw [if_neg (by omega), if_neg (by omega)]; first | rw [if_pos (by omega), if_pos (by omega)] | rw [if_pos (by omega), if_neg (by omega)] | rw [if_neg (by omega), if_pos (by omega)] | rw [if_neg (by omega), if_neg (by omega)]) | (rw [if_pos (by omega)]) | (rw [if_neg (by omega), if_pos (by omega)])
  ·
    refine VC.reg (VO.l (LO.bda (ps := [(_,_), (_,_), (_,_)]) (vs := [(_,_), (_,_), (_,_)]) (C := [_,_,_]) B220 rfl ⟨(.r rfl), (.r rfl), (.r rfl), trivial⟩ rfl ⟨_, [_], [_,_,_], rfl, rfl, rfl, rfl, ⟨_, [_], [_,_,_], rfl, rfl, rfl, rfl, ⟨_, [_], [_,_,_], rfl, rfl, rfl, rfl, rfl⟩⟩⟩) rfl<|VO.l (LO.bda (ps := [(_,_), (_,_), (_,_)]) (vs := [(_,_), (_,_), (_,_)]) (C := [_,_,_]) B220 rfl ⟨(.r rfl), (.r rfl), (.r rfl), trivial⟩ rfl ⟨_, [_], [_,_,_], rfl, rfl, rfl, rfl, ⟨_, [_], [_,_,_], rfl, rfl, rfl, rfl, ⟨_, [_], [_,_,_], rfl, rfl, rfl, rfl, rfl⟩⟩⟩) rfl<|VO.l (LO.bda (ps := [(_,_), (_,_), (_,_)]) (vs := [(_,_), (_,_), (_,_)]) (C := [_,_,_]) B220 rfl ⟨(.r rfl), (.r rfl), (.r rfl), trivial⟩ rfl ⟨_, [_], [_,_,_], rfl, rfl, rfl, rfl, ⟨_, [_], [_,_,_], rfl, rfl, rfl, rfl, ⟨_, [_], [_,_,_], rfl, rfl, rfl, rfl, rfl⟩⟩⟩) rfl<|VO.l (LO.bda (ps := [(_,_), (_,_), (_,_)]) (vs := [(_,_), (_,_), (_,_)]) (C := [_,_,_,_,_,_,_,_,_]) B221 rfl ⟨(.r rfl), (.r rfl), (.r rfl), trivial⟩ rfl ⟨_, [_,_,_], [_,_,_,_,_,_,_,_,_], rfl, rfl, rfl, rfl, ⟨_, [_,_,_], [_,_,_,_,_,_,_,_,_], rfl, rfl, rfl, rfl, ⟨_, [_,_,_], [_,_,_,_,_,_,_,_,_], rfl, rfl, rfl, rfl, rfl⟩⟩⟩) rfl<|VO.l (LO.mv (.r rfl)) rfl<|VO.l (LO.min (.r rfl) (.r rfl)) rfl<|VO.l (LO.ixg (j := 1) (vs := [_,_,_]) Try.underlying221 A220 (.r rfl) (.r rfl) ma (by decide) rfl) rfl<|VO.l (LO.mv (.r rfl)) rfl<|VO.l (LO.min (.r rfl) (.r rfl)) rfl<|VO.l (LO.ixv (j := 2) Try.underlying220 O3 (.r rfl) (.r rfl) mb (by decide) rfl) rfl<|VO.l (LO.as (.r rfl)) rfl<|VO.nil ?_)
    refine VE.seqN ?_
    refine VC.ret (VE.res (vs := [_]) rfl ⟨rfl, trivial⟩ (fun w hw => ?_))
    refine ⟨?_, hw.nil⟩
    refine congrArg (fun z => Ending.returned (.int .i64 z)) ?_
    unfold kindM
    first | (exfalso; omega) | (simp [ea, eb]; done) | (rw [if_neg (by omega), if_neg (by omega)]; first | rw [if_pos (by omega), if_pos (by omega)] | rw [if_pos (by omega), if_neg (by omega)] | rw [if_neg (by omega), if_pos (by omega)] | rw [if_neg (by omega), if_neg (by omega)]) | (rw [if_pos (by omega)]) | (rw [if_neg (by omega), if_pos (by omega)])
  ·
    refine VC.reg (VO.l (LO.bda (ps := [(_,_), (_,_), (_,_)]) (vs := [(_,_), (_,_), (_,_)]) (C := [_,_,_]) B220 rfl ⟨(.r rfl), (.r rfl), (.r rfl), trivial⟩ rfl ⟨_, [_], [_,_,_], rfl, rfl, rfl, rfl, ⟨_, [_], [_,_,_], rfl, rfl, rfl, rfl, ⟨_, [_], [_,_,_], rfl, rfl, rfl, rfl, rfl⟩⟩⟩) rfl<|VO.l (LO.bda (ps := [(_,_), (_,_), (_,_)]) (vs := [(_,_), (_,_), (_,_)]) (C := [_,_,_]) B220 rfl ⟨(.r rfl), (.r rfl), (.r rfl), trivial⟩ rfl ⟨_, [_], [_,_,_], rfl, rfl, rfl, rfl, ⟨_, [_], [_,_,_], rfl, rfl, rfl, rfl, ⟨_, [_], [_,_,_], rfl, rfl, rfl, rfl, rfl⟩⟩⟩) rfl<|VO.l (LO.bda (ps := [(_,_), (_,_), (_,_)]) (vs := [(_,_), (_,_), (_,_)]) (C := [_,_,_]) B220 rfl ⟨(.r rfl), (.r rfl), (.r rfl), trivial⟩ rfl ⟨_, [_], [_,_,_], rfl, rfl, rfl, rfl, ⟨_, [_], [_,_,_], rfl, rfl, rfl, rfl, ⟨_, [_], [_,_,_], rfl, rfl, rfl, rfl, rfl⟩⟩⟩) rfl<|VO.l (LO.bda (ps := [(_,_), (_,_), (_,_)]) (vs := [(_,_), (_,_), (_,_)]) (C := [_,_,_,_,_,_,_,_,_]) B221 rfl ⟨(.r rfl), (.r rfl), (.r rfl), trivial⟩ rfl ⟨_, [_,_,_], [_,_,_,_,_,_,_,_,_], rfl, rfl, rfl, rfl, ⟨_, [_,_,_], [_,_,_,_,_,_,_,_,_], rfl, rfl, rfl, rfl, ⟨_, [_,_,_], [_,_,_,_,_,_,_,_,_], rfl, rfl, rfl, rfl, rfl⟩⟩⟩) rfl<|VO.l (LO.mv (.r rfl)) rfl<|VO.l (LO.min (.r rfl) (.r rfl)) rfl<|VO.l (LO.ixg (j := 2) (vs := [_,_,_]) Try.underlying221 A220 (.r rfl) (.r rfl) ma (by decide) rfl) rfl<|VO.l (LO.mv (.r rfl)) rfl<|VO.l (LO.min (.r rfl) (.r rfl)) rfl<|VO.l (LO.ixv (j := 0) Try.underlying220 O3 (.r rfl) (.r rfl) mb (by decide) rfl) rfl<|VO.l (LO.as (.r rfl)) rfl<|VO.nil ?_)
    refine VE.seqN ?_
    refine VC.ret (VE.res (vs := [_]) rfl ⟨rfl, trivial⟩ (fun w hw => ?_))
    refine ⟨?_, hw.nil⟩
    refine congrArg (fun z => Ending.returned (.int .i64 z)) ?_
    unfold kindM
    first | (exfalso; omega) | (simp [ea, eb]; done) | (rw [if_neg (by omega), if_neg (by omega)]; first | rw [if_pos (by omega), if_pos (by omega)] | rw [if_pos (by omega), if_neg (by omega)] | rw [if_neg (by omega), if_pos (by omega)] | rw [if_neg (by omega), if_neg (by omega)]) | (rw [if_pos (by omega)]) | (rw [if_neg (by omega), if_pos (by omega)])
  ·
    refine VC.reg (VO.l (LO.bda (ps := [(_,_), (_,_), (_,_)]) (vs := [(_,_), (_,_), (_,_)]) (C := [_,_,_]) B220 rfl ⟨(.r rfl), (.r rfl), (.r rfl), trivial⟩ rfl ⟨_, [_], [_,_,_], rfl, rfl, rfl, rfl, ⟨_, [_], [_,_,_], rfl, rfl, rfl, rfl, ⟨_, [_], [_,_,_], rfl, rfl, rfl, rfl, rfl⟩⟩⟩) rfl<|VO.l (LO.bda (ps := [(_,_), (_,_), (_,_)]) (vs := [(_,_), (_,_), (_,_)]) (C := [_,_,_]) B220 rfl ⟨(.r rfl), (.r rfl), (.r rfl), trivial⟩ rfl ⟨_, [_], [_,_,_], rfl, rfl, rfl, rfl, ⟨_, [_], [_,_,_], rfl, rfl, rfl, rfl, ⟨_, [_], [_,_,_], rfl, rfl, rfl, rfl, rfl⟩⟩⟩) rfl<|VO.l (LO.bda (ps := [(_,_), (_,_), (_,_)]) (vs := [(_,_), (_,_), (_,_)]) (C := [_,_,_]) B220 rfl ⟨(.r rfl), (.r rfl), (.r rfl), trivial⟩ rfl ⟨_, [_], [_,_,_], rfl, rfl, rfl, rfl, ⟨_, [_], [_,_,_], rfl, rfl, rfl, rfl, ⟨_, [_], [_,_,_], rfl, rfl, rfl, rfl, rfl⟩⟩⟩) rfl<|VO.l (LO.bda (ps := [(_,_), (_,_), (_,_)]) (vs := [(_,_), (_,_), (_,_)]) (C := [_,_,_,_,_,_,_,_,_]) B221 rfl ⟨(.r rfl), (.r rfl), (.r rfl), trivial⟩ rfl ⟨_, [_,_,_], [_,_,_,_,_,_,_,_,_], rfl, rfl, rfl, rfl, ⟨_, [_,_,_], [_,_,_,_,_,_,_,_,_], rfl, rfl, rfl, rfl, ⟨_, [_,_,_], [_,_,_,_,_,_,_,_,_], rfl, rfl, rfl, rfl, rfl⟩⟩⟩) rfl<|VO.l (LO.mv (.r rfl)) rfl<|VO.l (LO.min (.r rfl) (.r rfl)) rfl<|VO.l (LO.ixg (j := 2) (vs := [_,_,_]) Try.underlying221 A220 (.r rfl) (.r rfl) ma (by decide) rfl) rfl<|VO.l (LO.mv (.r rfl)) rfl<|VO.l (LO.min (.r rfl) (.r rfl)) rfl<|VO.l (LO.ixv (j := 1) Try.underlying220 O3 (.r rfl) (.r rfl) mb (by decide) rfl) rfl<|VO.l (LO.as (.r rfl)) rfl<|VO.nil ?_)
    refine VE.seqN ?_
    refine VC.ret (VE.res (vs := [_]) rfl ⟨rfl, trivial⟩ (fun w hw => ?_))
    refine ⟨?_, hw.nil⟩
    refine congrArg (fun z => Ending.returned (.int .i64 z)) ?_
    unfold kindM
    first | (exfalso; omega) | (simp [ea, eb]; done) | (rw [if_neg (by omega), if_neg (by omega)]; first | rw [if_pos (by omega), if_pos (by omega)] | rw [if_pos (by omega), if_neg (by omega)] | rw [if_neg (by omega), if_pos (by omega)] | rw [if_neg (by omega), if_neg (by omega)]) | (rw [if_pos (by omega)]) | (rw [if_neg (by omega), if_pos (by omega)])
  ·
    refine VC.reg (VO.l (LO.bda (ps := [(_,_), (_,_), (_,_)]) (vs := [(_,_), (_,_), (_,_)]) (C := [_,_,_]) B220 rfl ⟨(.r rfl), (.r rfl), (.r rfl), trivial⟩ rfl ⟨_, [_], [_,_,_], rfl, rfl, rfl, rfl, ⟨_, [_], [_,_,_], rfl, rfl, rfl, rfl, ⟨_, [_], [_,_,_], rfl, rfl, rfl, rfl, rfl⟩⟩⟩) rfl<|VO.l (LO.bda (ps := [(_,_), (_,_), (_,_)]) (vs := [(_,_), (_,_), (_,_)]) (C := [_,_,_]) B220 rfl ⟨(.r rfl), (.r rfl), (.r rfl), trivial⟩ rfl ⟨_, [_], [_,_,_], rfl, rfl, rfl, rfl, ⟨_, [_], [_,_,_], rfl, rfl, rfl, rfl, ⟨_, [_], [_,_,_], rfl, rfl, rfl, rfl, rfl⟩⟩⟩) rfl<|VO.l (LO.bda (ps := [(_,_), (_,_), (_,_)]) (vs := [(_,_), (_,_), (_,_)]) (C := [_,_,_]) B220 rfl ⟨(.r rfl), (.r rfl), (.r rfl), trivial⟩ rfl ⟨_, [_], [_,_,_], rfl, rfl, rfl, rfl, ⟨_, [_], [_,_,_], rfl, rfl, rfl, rfl, ⟨_, [_], [_,_,_], rfl, rfl, rfl, rfl, rfl⟩⟩⟩) rfl<|VO.l (LO.bda (ps := [(_,_), (_,_), (_,_)]) (vs := [(_,_), (_,_), (_,_)]) (C := [_,_,_,_,_,_,_,_,_]) B221 rfl ⟨(.r rfl), (.r rfl), (.r rfl), trivial⟩ rfl ⟨_, [_,_,_], [_,_,_,_,_,_,_,_,_], rfl, rfl, rfl, rfl, ⟨_, [_,_,_], [_,_,_,_,_,_,_,_,_], rfl, rfl, rfl, rfl, ⟨_, [_,_,_], [_,_,_,_,_,_,_,_,_], rfl, rfl, rfl, rfl, rfl⟩⟩⟩) rfl<|VO.l (LO.mv (.r rfl)) rfl<|VO.l (LO.min (.r rfl) (.r rfl)) rfl<|VO.l (LO.ixg (j := 2) (vs := [_,_,_]) Try.underlying221 A220 (.r rfl) (.r rfl) ma (by decide) rfl) rfl<|VO.l (LO.mv (.r rfl)) rfl<|VO.l (LO.min (.r rfl) (.r rfl)) rfl<|VO.l (LO.ixv (j := 2) Try.underlying220 O3 (.r rfl) (.r rfl) mb (by decide) rfl) rfl<|VO.l (LO.as (.r rfl)) rfl<|VO.nil ?_)
    refine VE.seqN ?_
    refine VC.ret (VE.res (vs := [_]) rfl ⟨rfl, trivial⟩ (fun w hw => ?_))
    refine ⟨?_, hw.nil⟩
    refine congrArg (fun z => Ending.returned (.int .i64 z)) ?_
    unfold kindM
    first | (exfalso; omega) | (simp [ea, eb]; done) | (rw [if_neg (by omega), if_neg (by omega)]; first | rw [if_pos (by omega), if_pos (by omega)] | rw [if_pos (by omega), if_neg (by omega)] | rw [if_neg (by omega), if_pos (by omega)] | rw [if_neg (by omega), if_neg (by omega)]) | (rw [if_pos (by omega)]) | (rw [if_neg (by omega), if_pos (by omega)])

end Go.Proofs.Ytgemekpofpoopaa

namespace Go.Proofs.Ytgemekpofpoopaa
open Go.SL Go.Proofs Go.Cast Go.Cell
set_option linter.unusedVariables false

theorem F154_1 : FieldAt Try.prog 154 1 5 := ⟨_,_, Try.underlying154, rfl, rfl, 0, by kernel_rfl⟩
theorem O29 : IsOne Try.prog 29 := ⟨⟨_, Try.underlying29, rfl⟩, by kernel_rfl⟩
theorem F154_0 : FieldAt Try.prog 154 0 0 := ⟨_,_, Try.underlying154, rfl, rfl, 4, by kernel_rfl⟩
theorem F85_0 : FieldAt Try.prog 85 0 0 := ⟨_,_, Try.underlying85, rfl, rfl, 0, by kernel_rfl⟩
theorem F85_1 : FieldAt Try.prog 85 1 1 := ⟨_,_, Try.underlying85, rfl, rfl, 0, by kernel_rfl⟩
theorem F154_2 : FieldAt Try.prog 154 2 6 := ⟨_,_, Try.underlying154, rfl, rfl, 0, by kernel_rfl⟩


/-- Lists of pixels of a grid, none too long. -/
def KrOk (W H : Nat) (ks : List (List Nat)) : Prop := ks.length ≤ W * H ∧ ∀ l, l ∈ ks → l.length ≤ W * H ∧ ∀ p, p ∈ l → p < W * H
theorem krOk_parts {W H : Nat} {S : Nat → Bool} : KrOk W H (partsL W H S) := ⟨parts_len, fun l hl => by
  obtain ⟨p, hp, hs, e⟩ := mem_partsTo (p := W * H) hl
  have hall : ∀ q, q ∈ l → q < W * H := fun q hq => by rw [e] at hq; exact compL_lt hp hq
  refine ⟨?_, hall⟩
  have hn : l.Nodup := by rw [e]; exact (compL_sorted hp).imp fun h => Nat.ne_of_lt h
  have := length_le_of_subset (m := List.range (W * H)) hn (fun x hx => List.mem_range.2 (hall x hx))
  simpa using this⟩
theorem krOk_filter {W H : Nat} {ks : List (List Nat)} {f : List Nat → Bool} (h : KrOk W H ks) : KrOk W H (ks.filter f) := ⟨Nat.le_trans (List.length_filter_le _ _) h.1, fun l hl => h.2 l (List.mem_filter.1 hl).1⟩
theorem krOk_area {W H : Nat} {vs : List Span} {lv : Int} {y : ArY} (h : ArP W H vs lv y) {a : AreaR} (ha : a ∈ y.l) : KrOk W H (a.kr.map RowA.l) := by
  have h1 : a.m ∈ areasM W H vs lv := by rw [← h.m]; exact List.mem_map_of_mem ha
  obtain ⟨l,_, e⟩ := List.mem_map.1 h1
  have h2 : a.kr.map RowA.l = (areaM W H vs lv l).ks := (congrArg AreaM.ks e).symm
  rw [h2]
  exact krOk_filter krOk_parts
section
variable {g : Grid} {of : List Int} {j x y : Int} {p : Nat}
theorem good_out (hg : gridOk g) (h : ((p % gW g : Nat) : Int) + x < 0 ∨ g.wide ≤ ((p % gW g : Nat) : Int) + x ∨ ((p / gW g : Nat) : Int) + y < 0 ∨ g.high ≤ ((p / gW g : Nat) : Int) + y) : goodB (gW g) (gH g) of j x y p = true := by
  obtain ⟨e1, e2,_⟩ := gWi hg
  unfold goodB
  rw [e1, e2, decide_eq_true h]; rfl
theorem good_in (hg : gridOk g) (h : ¬ (((p % gW g : Nat) : Int) + x < 0 ∨ g.wide ≤ ((p % gW g : Nat) : Int) + x ∨ ((p / gW g : Nat) : Int) + y < 0 ∨ g.high ≤ ((p / gW g : Nat) : Int) + y)) {q : Nat} (hq : ((((p / gW g : Nat) : Int) + y) * (gW g : Int) + (((p % gW g : Nat) : Int) + x)).toNat = q) : goodB (gW g) (gH g) of j x y p = decide (of.getD q (-1) = j) := by
  obtain ⟨e1, e2,_⟩ := gWi hg
  unfold goodB
  rw [hq, e1, e2, decide_eq_false h]; rfl
end
theorem fol_no {W H : Nat} {ks : List (RowA Nat)} {of : List Int} {j x y : Int} {n : Nat} {k : RowA Nat} (hk : ks[n]? = some k) (h : k.l.all (goodB W H of j x y) = false) : followsB W H (ks.map RowA.l) of j x y = false := by
  unfold followsB; rw [List.all_map]; exact all_no hk (by show ¬ (k.l.all _) = true; rw [h]; decide)
theorem fol_end {W H : Nat} {ks : List (RowA Nat)} {of : List Int} {j x y : Int} {n : Nat} (hz : ∀ i k, i < n → ks[i]? = some k → k.l.all (goodB W H of j x y) = true) (h : ks.length ≤ n) : followsB W H (ks.map RowA.l) of j x y = true := by
  unfold followsB; rw [List.all_map]; exact all_end hz h
theorem get_ex {α : Type} {l : List α} {n : Nat} (h : n < l.length) : ∃ a, l[n]? = some a := ⟨_, List.getElem?_eq_getElem h⟩
theorem getD_m1 {l : List Int} {n : Nat} (h : n < l.length) : l[n]? = some (l.getD n (-1)) := by rw [List.getD_eq_getElem?_getD, List.getElem?_eq_getElem h]; rfl

set_option maxRecDepth 20000 in
set_option maxHeartbeats 4000000 in
theorem follows_c (g : Grid) (mx my : Int) (ya yb : ArY) (ofa ofb : List Int) (i j : Nat) (a : AreaR) (hia : ya.l[i]? = some a) (w : World) (hg : gridOk g) (ha : SpI w ya ofa) (hb : SpI w yb ofb) (hlb : ofb.length = gW g * gH g) (hks : KrOk (gW g) (gH g) (a.kr.map RowA.l)) (hx : -8 ≤ mx ∧ mx ≤ 8) (hy : -8 ≤ my ∧ my ≤ 8) :
  Calls Try.prog 116 #[spV g ya, .int .i64 (i : Int), spV g yb, .int .i64 (j : Int), .agg #[.int .i64 mx, .int .i64 my]] w fun e w' => e = .returned (.bool (followsB (gW g) (gH g) (a.kr.map RowA.l) ofb j mx my)) ∧ St (bs w) [] w' := by
  have har := area_le hg
  have hkn := hks.1
  rw [List.length_map] at hkn
  obtain ⟨hW, hH, hW1, hW2, hH1, hH2⟩ := gWi hg
  have hkr := ha.kr a (List.mem_of_getElem? hia)
  have hil : i < ya.l.length := (List.getElem?_eq_some_iff.1 hia).1
  have hofs : SlSome yb.po (gW g * gH g) := by have z := hb.of.sm; rw [hlb] at z; exact z
  refine enter (vs := [_,_,_,_,_]) (env := [(0,_), (1,_), (2,_), (3,_), (4,_)]) Try.func116 rfl rfl rfl rfl ?_
  refine VC.seq ?_
  refine VC.reg (VO.h rfl<|HO.box (C := #[_,_,_,_,_,_,_]) rfl rfl fun b1 => VO.h rfl<|HO.box (C := #[_,_,_,_,_,_,_]) rfl rfl fun b2 => VO.h rfl<|HO.box (C := #[_,_]) rfl rfl fun b3 => VO.l (LO.as (.r rfl)) rfl<|VO.nil ?_)
  refine VE.seqN ?_
  refine VC.seq ?_
  refine VC.seq ?_
  refine VC.reg (VO.l (LO.fa (r := 5) F154_1 (.r rfl) rfl) rfl<|VO.l (LO.ld O29 (.r rfl) (fun _ hw => cells_at hw 2 rfl ⟨_, rfl⟩)) rfl<|VO.l (LO.mv (.r rfl)) rfl<|VO.l (LO.ixs S29 N73 ha.ar.sm (.r rfl) (.r rfl) rfl (by omega)) rfl<|VO.l (LO.fa F73_1 (.r rfl) rfl) rfl<|VO.l (LO.ld O41 (.r rfl) (fun w hw => cells_part (off := 1) ((fun w3 h3 => RO.cel (ha.ar.keep w3 h3) hia) w hw) ⟨_, rfl⟩)) rfl<|VO.l (LO.len S41 (.r rfl) rfl) rfl<|VO.l (LO.mv (.r rfl)) rfl<|VO.nil ?_)
  refine VE.seqN ?_
  refine VC.block ?_
  refine VC.loopK (α := Nat) 0 (fun gx => [(24, .int .i64 (gx : Nat))]) [(3,_), (5,_), (7,_), (9,_), (22,_), (23,_)] (fun gx => []) (fun gx => gx ≤ a.kr.length ∧ ∀ i k, i < gx → a.kr[i]? = some k → k.l.all (goodB (gW g) (gH g) ofb j mx my) = true) (fun gx => a.kr.length - gx) 0 (by exact ⟨Nat.zero_le _, fun i k h => absurd h (Nat.not_lt_zero _)⟩) (.cons rfl (.cons rfl (.cons rfl (.cons rfl (.cons rfl (.cons rfl (.cons rfl .nil))))))) (fun _ h => h) ?_
  rintro n ⟨hn, hz⟩
  refine VC.seq ?_
  refine VC.reg (VO.l (LO.lt (.r rfl) (.r rfl)) rfl<|VO.nil ?_)
  refine VE.seqN ?_
  refine VC.seq ?_
  refine VC.cond rfl (fun h25 => ?_) (fun h25 => ?_)
  ·
    obtain ⟨k, hk⟩ := get_ex (l := a.kr) (n := n) (by omega)
    obtain ⟨hkl, hkm⟩ := hks.2 k.l (List.mem_map_of_mem (List.mem_of_getElem? hk))
    refine VC.skip (VE.seqN ?_)
    refine VC.seq ?_
    refine VC.block ?_
    refine VC.seq ?_
    refine VC.reg (VO.l (LO.ixs S41 N40 hkr.1.sm (.r rfl) (.r rfl) rfl (by omega)) rfl<|VO.l (LO.ld O40 (.r rfl) (fun w hw => cells_part (off := 0) ((fun w3 h3 => RR.cell (RR.keep hkr w3 h3) hk) w hw) ⟨_, rfl⟩)) rfl<|VO.l (LO.as (.r rfl)) rfl<|VO.nil ?_)
    refine VE.seqN ?_
    refine VC.seq ?_
    refine VC.reg (VO.l (LO.mv (.r rfl)) rfl<|VO.l (LO.len S40 (.r rfl) rfl) rfl<|VO.l (LO.mv (.r rfl)) rfl<|VO.nil ?_)
    refine VE.seqN ?_
    refine VC.block ?_
    refine VC.loopK (α := Nat) 0 (fun gx => [(30, .int .i64 (gx : Nat))]) [(3,_), (5,_), (7,_), (9,_), (22,_), (23,_), (24,_), (28,_), (29,_)] (fun gx => []) (fun gx => gx ≤ k.l.length ∧ ∀ i p, i < gx → k.l[i]? = some p → goodB (gW g) (gH g) ofb j mx my p = true) (fun gx => k.l.length - gx) 0 (by exact ⟨Nat.zero_le _, fun i k h => absurd h (Nat.not_lt_zero _)⟩) (.cons rfl (.cons rfl (.cons rfl (.cons rfl (.cons rfl (.cons rfl (.cons rfl (.cons rfl (.cons rfl (.cons rfl .nil)))))))))) (fun _ h => h) ?_
    rintro m ⟨hm, hzm⟩
    refine VC.seq ?_
    refine VC.reg (VO.l (LO.lt (.r rfl) (.r rfl)) rfl<|VO.nil ?_)
    refine VE.seqN ?_
    refine VC.seq ?_
    refine VC.cond rfl (fun h31 => ?_) (fun h31 => ?_)
    ·
      obtain ⟨p, hp⟩ := get_ex (l := k.l) (n := m) (by omega)
      have hpm := hkm p (List.mem_of_getElem? hp)
      have hpd := divb hg hpm
      have hpr : p % gW g < gW g := Nat.mod_lt _ (by omega)
      refine VC.skip (VE.seqN ?_)
      refine VC.seq ?_
      refine VC.block ?_
      refine VC.seq ?_
      refine VC.reg (VO.l (LO.ixs S40 N3 (RR.row hkr hk).sm (.r rfl) (.r rfl) rfl (by omega)) rfl<|VO.l (LO.ld O3 (.r rfl) (fun w hw => cells_part (off := 0) ((fun w3 h3 => RO.cel (RR.row (RR.keep hkr w3 h3) hk) hp) w hw) ⟨_, rfl⟩)) rfl<|VO.l (LO.as (.r rfl)) rfl<|VO.nil ?_)
      refine VE.seqN ?_
      refine VC.seq ?_
      refine VC.draw mixed (LL.l (LO.mv (.r rfl)) rfl<|LL.l (LO.fa (r := 0) F154_0 (.r rfl) rfl) rfl<|LL.l (LO.fa (r := 3) F23_3 (.r rfl) rfl) rfl<|LL.l (LO.ld O3 (.r rfl) (fun _ hw => cells_at hw 2 rfl ⟨_, rfl⟩)) rfl<|LL.l (LO.eqv (LO.rem (.r rfl) (.r rfl) (by omega)) (congrArg (Value.int .i64) (mod_n hg p))) rfl<|LL.l (LO.fa (r := 0) F85_0 (.r rfl) rfl) rfl<|LL.l (LO.ld O3 (.r rfl) (fun _ hw => cells_at hw 0 rfl ⟨_, rfl⟩)) rfl<|LL.l (LO.add (.r rfl) (.r rfl) (wi (by omega) (by omega))) rfl<|LL.l (LO.mv (.r rfl)) rfl<|LL.l (LO.fa (r := 0) F154_0 (.r rfl) rfl) rfl<|LL.l (LO.fa (r := 3) F23_3 (.r rfl) rfl) rfl<|LL.l (LO.ld O3 (.r rfl) (fun _ hw => cells_at hw 2 rfl ⟨_, rfl⟩)) rfl<|LL.l (LO.eqv (LO.quo (.r rfl) (.r rfl) (by omega) (wi (by rw [div_n hg]; have := divb hg (p := p) (by omega); omega) (by rw [div_n hg]; have := divb hg (p := p) (by omega); omega))) (congrArg (Value.int .i64) (div_n hg p))) rfl<|LL.l (LO.fa (r := 1) F85_1 (.r rfl) rfl) rfl<|LL.l (LO.ld O3 (.r rfl) (fun _ hw => cells_at hw 0 rfl ⟨_, rfl⟩)) rfl<|LL.l (LO.add (.r rfl) (.r rfl) (wi (by omega) (by omega))) rfl<|LL.l (LO.as (.r rfl)) rfl<|LL.l (LO.as (.r rfl)) rfl<|LL.nil) (by kernel_rfl) ?_
      refine VE.seqN ?_
      refine VC.seq ?_
      refine VC.seq ?_
      refine VC.reg (VO.l (LO.mv (.r rfl)) rfl<|VO.l (LO.lt (.r rfl) (.r rfl)) rfl<|VO.l (LO.mv (.r rfl)) rfl<|VO.lg rfl rfl (GD.f _) (fun hg => LO.mv (.r rfl)) rfl<|VO.lg rfl rfl (GD.f _) (fun hg => LO.fa (r := 0) F154_0 (.r rfl) rfl) rfl<|VO.lg rfl rfl (GD.f _) (fun hg => LO.fa (r := 3) F23_3 (.g hg rfl) rfl) rfl<|VO.lg rfl rfl (GD.f _) (fun hg => LO.ld O3 (.g hg rfl) (fun _ hw => cells_at hw 2 rfl ⟨_, rfl⟩)) rfl<|VO.lg rfl rfl (GD.f _) (fun hg => LO.ge (.g hg rfl) (.g hg rfl)) rfl<|VO.l (LO.pkO (.r rfl) (.r rfl) rfl rfl) rfl<|VO.l (LO.mv (.r rfl)) rfl<|VO.lg rfl rfl (GD.f _) (fun hg => LO.mv (.r rfl)) rfl<|VO.lg rfl rfl (GD.f _) (fun hg => LO.lt (.g hg rfl) (.r rfl)) rfl<|VO.l (LO.pkO (.r rfl) (.r rfl) rfl rfl) rfl<|VO.l (LO.mv (.r rfl)) rfl<|VO.lg rfl rfl (GD.f _) (fun hg => LO.mv (.r rfl)) rfl<|VO.lg rfl rfl (GD.f _) (fun hg => LO.fa (r := 0) F154_0 (.r rfl) rfl) rfl<|VO.lg rfl rfl (GD.f _) (fun hg => LO.fa (r := 4) F23_4 (.g hg rfl) rfl) rfl<|VO.lg rfl rfl (GD.f _) (fun hg => LO.ld O3 (.g hg rfl) (fun _ hw => cells_at hw 2 rfl ⟨_, rfl⟩)) rfl<|VO.lg rfl rfl (GD.f _) (fun hg => LO.ge (.g hg rfl) (.g hg rfl)) rfl<|VO.l (LO.pkO (.r rfl) (.r rfl) rfl rfl) rfl<|VO.nil ?_)
      refine VE.seqN ?_
      refine VC.cond rfl (fun h69 => ?_) (fun h69 => ?_)
      ·
        refine VC.exit (VE.thenX (VE.inX (VE.seqN ?_)))
        refine VC.reg (VO.l (LO.add (.r rfl) (.r rfl) (wi (by omega) (by omega))) rfl<|VO.l (LO.mv (.r rfl)) rfl<|VO.nil ?_)
        refine VE.thenN fun a w ha hw => ⟨m + 1, ⟨by omega, all_step hzm hp (by first | exact good_out hg (by omega) | (rw [good_in hg (by omega) hq3]; simpa using h82))⟩, (by omega), ha.sub (.cons rfl (.cons rfl (.cons rfl (.cons rfl (.cons rfl (.cons rfl (.cons rfl (.cons rfl (.cons rfl (.cons rfl .nil)))))))))), hw⟩
      ·
        obtain ⟨q, hq1, hq2, hq3⟩ := target hg (x := ((p % gW g : Nat) : Int) + mx) (y := ((p / gW g : Nat) : Int) + my) (by omega)
        refine VC.skip (VE.seqN ?_)
        refine VC.seq ?_
        refine VC.reg (VO.l (LO.fa (r := 6) F154_2 (.r rfl) rfl) rfl<|VO.l (LO.ld O40 (.r rfl) (fun _ hw => cells_at hw 1 rfl ⟨_, rfl⟩)) rfl<|VO.l (LO.mv (.r rfl)) rfl<|VO.l (LO.fa (r := 0) F154_0 (.r rfl) rfl) rfl<|VO.l (LO.fa (r := 3) F23_3 (.r rfl) rfl) rfl<|VO.l (LO.ld O3 (.r rfl) (fun _ hw => cells_at hw 2 rfl ⟨_, rfl⟩)) rfl<|VO.l (LO.mul (.r rfl) (.r rfl) (wi (by omega) (by omega))) rfl<|VO.l (LO.mv (.r rfl)) rfl<|VO.l (LO.add (.r rfl) (.r rfl) (wi (by omega) (by omega))) rfl<|VO.l (LO.ixs S40 N3 hofs (.r rfl) (.r rfl) hq1 hq2) rfl<|VO.l (LO.ld O3 (.r rfl) (fun w hw => cells_part (off := 0) ((fun w3 h3 => RO.cel (hb.of.keep w3 h3) (getD_m1 (n := q) (by omega))) w hw) ⟨_, rfl⟩)) rfl<|VO.l (LO.mv (.r rfl)) rfl<|VO.l (LO.ne (.r rfl) (.r rfl)) rfl<|VO.nil ?_)
        refine VE.seqN ?_
        refine VC.cond rfl (fun h82 => ?_) (fun h82 => ?_)
        ·
          refine VC.seq ?_
          refine VC.reg (VO.l (LO.as (.r rfl)) rfl<|VO.nil ?_)
          refine VE.seqN ?_
          refine VC.ret (VE.inR (VE.thenR (VE.thenR (VE.inR (VE.inR (VE.thenR (VE.thenR (VE.inR (VE.thenR (VE.res (vs := [_]) rfl ⟨rfl, trivial⟩ (fun w hw => ?_)))))))))))
          refine ⟨?_, hw.nil⟩
          refine congrArg (fun z => Ending.returned (.bool z)) ?_
          first | exact (fol_end hz (by omega)).symm | exact (fol_no hk (all_no hp (by rw [good_in hg (by omega) hq3]; simpa using h82))).symm
        ·
          refine VC.skip (VE.inN (VE.seqN ?_))
          refine VC.reg (VO.l (LO.add (.r rfl) (.r rfl) (wi (by omega) (by omega))) rfl<|VO.l (LO.mv (.r rfl)) rfl<|VO.nil ?_)
          refine VE.thenN fun a w ha hw => ⟨m + 1, ⟨by omega, all_step hzm hp (by first | exact good_out hg (by omega) | (rw [good_in hg (by omega) hq3]; simpa using h82))⟩, (by omega), ha.sub (.cons rfl (.cons rfl (.cons rfl (.cons rfl (.cons rfl (.cons rfl (.cons rfl (.cons rfl (.cons rfl (.cons rfl .nil)))))))))), hw⟩
    ·
      refine VC.exit (VE.thenX (VE.thenX (VE.inX (VE.inN (VE.seqN ?_)))))
      refine VC.reg (VO.l (LO.add (.r rfl) (.r rfl) (wi (by omega) (by omega))) rfl<|VO.l (LO.mv (.r rfl)) rfl<|VO.nil ?_)
      refine VE.thenN fun a w ha hw => ⟨n + 1, ⟨by omega, all_step hz hk (all_end hzm (by omega))⟩, (by omega), ha.sub (.cons rfl (.cons rfl (.cons rfl (.cons rfl (.cons rfl (.cons rfl (.cons rfl .nil))))))), hw⟩
  ·
    refine VC.exit (VE.thenX (VE.thenX (VE.inX (VE.seqN ?_))))
    refine VC.seq ?_
    refine VC.reg (VO.l (LO.as (.r rfl)) rfl<|VO.nil ?_)
    refine VE.seqN ?_
    refine VC.ret (VE.res (vs := [_]) rfl ⟨rfl, trivial⟩ (fun w hw => ?_))
    refine ⟨?_, hw.nil⟩
    refine congrArg (fun z => Ending.returned (.bool z)) ?_
    first | exact (fol_end hz (by omega)).symm | exact (fol_no hk (all_no hp (by rw [good_in hg (by omega) hq3]; simpa using h82))).symm

end Go.Proofs.Ytgemekpofpoopaa

namespace Go.Proofs.Ytgemekpofpoopaa
open Go.SL Go.Proofs Go.Cast Go.Cell
set_option linter.unusedVariables false

theorem B85 : Builds Try.prog 85 [(0,1), (1,1)] [.int .i64 0, .int .i64 0] := Builds.mk fun _ => by kernel_rfl
theorem Z85 : ZeroOf Try.prog 85 (.agg #[.int .i64 0, .int .i64 0]) := by unfold ZeroOf; kernel_rfl
theorem N85 : (Try.prog.info? 85).map (·.size) = some 2 := by kernel_rfl
theorem A85 : IsAgg Try.prog 85 2 := ⟨⟨_, Try.underlying85, rfl⟩, by kernel_rfl⟩
theorem C116 : IsFn Try.prog 116 := ⟨_, Try.func116, by decide, rfl⟩
theorem S53 : IsSlice Try.prog 53 85 := Try.underlying53
theorem I85 : EInfo Try.prog 85 2 16 (.agg #[.int .i64 0, .int .i64 0]) := ⟨by kernel_rfl, by kernel_rfl, by unfold ZeroOf; kernel_rfl, rfl, by decide⟩


theorem mv_sq (r : Nat) : (2 * (r : Int) + 1) * (2 * (r : Int) + 1) = (((2 * r + 1) * (2 * r + 1) : Nat) : Int) := by push_cast; rfl
theorem mv_le {r : Nat} (h : r ≤ 8) : (2 * r + 1) * (2 * r + 1) ≤ 289 := by have := Nat.mul_le_mul (show 2 * r + 1 ≤ 17 by omega) (show 2 * r + 1 ≤ 17 by omega); omega
structure SlY where
  p : Option Addr
  c : Nat

set_option maxRecDepth 20000 in
set_option maxHeartbeats 4000000 in
theorem moves_c (g : Grid) (ya yb : ArY) (ofa ofb : List Int) (i j r : Nat) (aa b : AreaR) (hia : ya.l[i]? = some aa) (hjb : yb.l[j]? = some b) (w : World) (hg : gridOk g) (ha : SpI w ya ofa) (hb : SpI w yb ofb) (hla : ofa.length = gW g * gH g) (hlb : ofb.length = gW g * gH g) (hka : KrOk (gW g) (gH g) (aa.kr.map RowA.l)) (hkb : KrOk (gW g) (gH g) (b.kr.map RowA.l)) (hr : r ≤ 8) :
  Calls Try.prog 81 #[spV g ya, .int .i64 (i : Int), spV g yb, .int .i64 (j : Int), .int .i64 (r : Int)] w fun e w' => ∃ y : SlY, True ∧ e = .returned (.slice y.p (movesM (gW g) (gH g) (aa.kr.map RowA.l) (b.kr.map RowA.l) ofa ofb i j r).length y.c) ∧ St (bs w) [own 85 2 y.p y.c ((movesM (gW g) (gH g) (aa.kr.map RowA.l) (b.kr.map RowA.l) ofa ofb i j r).map Mv.cells)] w' := by
  have hgr := hg
  have hN := mv_le hr
  have hln := fun n => movesTo_len (W := gW g) (H := gH g) (ka := aa.kr.map RowA.l) (kb := b.kr.map RowA.l) (ofa := ofa) (ofb := ofb) (i := i) (j := j) (r := r) (n := n)
  refine enter (vs := [_,_,_,_,_]) (env := [(0,_), (1,_), (2,_), (3,_), (4,_)]) Try.func81 rfl rfl rfl rfl ?_
  refine VC.seq ?_
  refine VC.reg (VO.h rfl<|HO.box (C := #[_,_,_,_,_,_,_]) rfl rfl fun b1 => VO.h rfl<|HO.box (C := #[_,_,_,_,_,_,_]) rfl rfl fun b2 => VO.l (LO.as (.r rfl)) rfl<|VO.nil ?_)
  refine VE.seqN ?_
  refine VC.seq ?_
  refine VC.reg (VO.l (LO.as (.r rfl)) rfl<|VO.nil ?_)
  refine VE.seqN ?_
  refine VC.seq ?_
  refine VC.seq ?_
  refine VC.reg (VO.l (LO.mv (.r rfl)) rfl<|VO.l (LO.mul (.r rfl) (.r rfl) (wi (by omega) (by omega))) rfl<|VO.l (LO.add (.r rfl) (.r rfl) (wi (by omega) (by omega))) rfl<|VO.l (LO.mv (.r rfl)) rfl<|VO.l (LO.mul (.r rfl) (.r rfl) (wi (by omega) (by omega))) rfl<|VO.l (LO.add (.r rfl) (.r rfl) (wi (by omega) (by omega))) rfl<|VO.l (LO.eqv (LO.mul (.r rfl) (.r rfl) (wi (by rw [mv_sq]; omega) (by rw [mv_sq]; omega))) (congrArg (Value.int .i64) (mv_sq r))) rfl<|VO.l (LO.mv (.r rfl)) rfl<|VO.nil ?_)
  refine VE.seqN ?_
  refine VC.block ?_
  refine VC.loopK (α := Nat × (Option Addr) × Nat) 0 (fun gx => [(11, .slice gx.2.1 (movesTo (gW g) (gH g) (aa.kr.map RowA.l) (b.kr.map RowA.l) ofa ofb i j r gx.1).length gx.2.2), (21, .int .i64 (gx.1 : Nat))]) [(1,_), (3,_), (4,_), (5,_), (7,_), (20,_)] (fun gx => [own 85 2 gx.2.1 gx.2.2 ((movesTo (gW g) (gH g) (aa.kr.map RowA.l) (b.kr.map RowA.l) ofa ofb i j r gx.1).map Mv.cells)]) (fun gx => gx.1 ≤ (2 * r + 1) * (2 * r + 1)) (fun gx => (2 * r + 1) * (2 * r + 1) - gx.1) (0, none, 0) (by exact Nat.zero_le _) (.cons rfl (.cons rfl (.cons rfl (.cons rfl (.cons rfl (.cons rfl (.cons rfl (.cons rfl .nil)))))))) (fun _ h => (h.ownNil 85 2)) ?_
  rintro ⟨n, po, co⟩ hn
  show VC _ _ _ _ _ ([(11, .slice po (movesTo (gW g) (gH g) (aa.kr.map RowA.l) (b.kr.map RowA.l) ofa ofb i j r n).length co), (21, .int .i64 (n : Nat))] ++ _) ([own 85 2 po co ((movesTo (gW g) (gH g) (aa.kr.map RowA.l) (b.kr.map RowA.l) ofa ofb i j r n).map Mv.cells)] ++ _) _ _
  dsimp only at hn
  refine VC.seq ?_
  refine VC.reg (VO.l (LO.lt (.r rfl) (.r rfl)) rfl<|VO.nil ?_)
  refine VE.seqN ?_
  refine VC.seq ?_
  refine VC.cond rfl (fun h22 => ?_) (fun h22 => ?_)
  ·
    obtain ⟨hm1, hm2⟩ := mv_bd (n := n) (r := r) (by omega)
    have hm3 : (0 : Int) ≤ ((n / (2 * r + 1) : Nat) : Int) := Int.natCast_nonneg _
    have hm4 : (0 : Int) ≤ ((n % (2 * r + 1) : Nat) : Int) := Int.natCast_nonneg _
    refine VC.skip (VE.seqN ?_)
    refine VC.seq ?_
    refine VC.block ?_
    refine VC.seq ?_
    refine VC.reg (VO.l (LO.mv (.r rfl)) rfl<|VO.l (LO.as (.r rfl)) rfl<|VO.nil ?_)
    refine VE.seqN ?_
    refine VC.seq ?_
    refine VC.drawH [[0,1,2], [0,1,2], [0,1,2]] [some 1, some 1, some 1, some 1, some 1, some 1, some 1, some 1, some 1, some 1, some 1, some 1, some 1, some 1, some 1, none, none] mixed (by kernel_rfl) rfl (LX.l (fun _ hJ => LO.mv (.r rfl)) rfl<|LX.l (fun _ hJ => LO.mv (.r rfl)) rfl<|LX.l (fun _ hJ => LO.mul (.r rfl) (.r rfl) (wi (by omega) (by omega))) rfl<|LX.l (fun _ hJ => LO.add (.r rfl) (.r rfl) (wi (by omega) (by omega))) rfl<|LX.l (fun _ hJ => LO.eqv (LO.rem (.r rfl) (.r rfl) (by omega)) (congrArg (Value.int .i64) (mv_mod n r))) rfl<|LX.l (fun _ hJ => LO.mv (.r rfl)) rfl<|LX.l (fun _ hJ => LO.sub (.r rfl) (.r rfl) (wi (by omega) (by omega))) rfl<|LX.l (fun _ hJ => LO.mv (.r rfl)) rfl<|LX.l (fun _ hJ => LO.mv (.r rfl)) rfl<|LX.l (fun _ hJ => LO.mul (.r rfl) (.r rfl) (wi (by omega) (by omega))) rfl<|LX.l (fun _ hJ => LO.add (.r rfl) (.r rfl) (wi (by omega) (by omega))) rfl<|LX.l (fun _ hJ => LO.eqv (LO.quo (.r rfl) (.r rfl) (by omega) (wi (by rw [mv_div]; omega) (by rw [mv_div]; omega))) (congrArg (Value.int .i64) (mv_div n r))) rfl<|LX.l (fun _ hJ => LO.mv (.r rfl)) rfl<|LX.l (fun _ hJ => LO.sub (.r rfl) (.r rfl) (wi (by omega) (by omega))) rfl<|LX.l (fun _ hJ => LO.bd (ps := [(_,_), (_,_)]) (vs := [(_,_), (_,_)]) (C := [_,_]) B85  ⟨(.r rfl), (.r rfl), trivial⟩ rfl ⟨_, [_], [_,_], rfl, rfl, rfl, rfl, ⟨_, [_], [_,_], rfl, rfl, rfl, rfl, rfl⟩⟩) rfl<|LX.s<|LX.s<|LX.nil) (HX.s<|HX.s<|HX.s<|HX.s<|HX.s<|HX.s<|HX.s<|HX.s<|HX.s<|HX.s<|HX.s<|HX.s<|HX.s<|HX.s<|HX.s<|HX.h rfl<|HO.alloc (C := #[_,_]) Z85 rfl fun b6 => ⟨fun _ hw => hw.sel [1,2,3] rfl, HX.h0<|HO.st 0 (vs := [_,_]) (C' := [_,_]) (L' := [_,_,_,_]) N85 rfl rfl rfl rfl rfl rfl rfl rfl<|⟨fun _ hw => hw.sel [1,2,3] rfl, HX.nil ?_⟩⟩)
    refine VE.seqN ?_
    refine VC.seq ?_
    refine VC.reg (VO.l (LO.lda (vs := [_,_,_,_,_,_,_]) A154 (.r rfl) (fun _ hw => cells_at hw 3 rfl ⟨_, rfl⟩) rfl) rfl<|VO.l (LO.mv (.r rfl)) rfl<|VO.l (LO.lda (vs := [_,_,_,_,_,_,_]) A154 (.r rfl) (fun _ hw => cells_at hw 2 rfl ⟨_, rfl⟩) rfl) rfl<|VO.l (LO.mv (.r rfl)) rfl<|VO.l (LO.lda (vs := [_,_]) A85 (.r rfl) (fun _ hw => cells_at hw 0 rfl ⟨_, rfl⟩) rfl) rfl<|VO.l (LO.call (xs := [_,_,_,_,_]) (vs := [_,_,_,_,_]) C116 ⟨(.r rfl), (.r rfl), (.r rfl), (.r rfl), (.r rfl), trivial⟩ (fun w2 hw => follows_c g _ _ ya yb ofa ofb i j aa hia w2 hgr (ha.keep w2 hw) (hb.keep w2 hw) hlb hka (by omega) (by omega))) rfl<|VO.l (LO.mv (.r rfl)) rfl<|VO.lg rfl rfl (GD.t _) (fun hg => LO.lda (vs := [_,_,_,_,_,_,_]) A154 (.r rfl) (fun _ hw => cells_at hw 2 rfl ⟨_, rfl⟩) rfl) rfl<|VO.lg rfl rfl (GD.t _) (fun hg => LO.mv (.r rfl)) rfl<|VO.lg rfl rfl (GD.t _) (fun hg => LO.lda (vs := [_,_,_,_,_,_,_]) A154 (.r rfl) (fun _ hw => cells_at hw 3 rfl ⟨_, rfl⟩) rfl) rfl<|VO.lg rfl rfl (GD.t _) (fun hg => LO.mv (.r rfl)) rfl<|VO.lg rfl rfl (GD.t _) (fun hg => LO.fa (r := 0) F85_0 (.r rfl) rfl) rfl<|VO.lg rfl rfl (GD.t _) (fun hg => LO.ld O3 (.g hg rfl) (fun _ hw => cells_at hw 0 rfl ⟨_, rfl⟩)) rfl<|VO.lg rfl rfl (GD.t _) (fun hg => LO.neg (.g hg rfl) (wi (by omega) (by omega))) rfl<|VO.lg rfl rfl (GD.t _) (fun hg => LO.fa (r := 1) F85_1 (.r rfl) rfl) rfl<|VO.lg rfl rfl (GD.t _) (fun hg => LO.ld O3 (.g hg rfl) (fun _ hw => cells_at hw 0 rfl ⟨_, rfl⟩)) rfl<|VO.lg rfl rfl (GD.t _) (fun hg => LO.neg (.g hg rfl) (wi (by omega) (by omega))) rfl<|VO.lg rfl rfl (GD.t _) (fun hg => LO.bd (ps := [(_,_), (_,_)]) (vs := [(_,_), (_,_)]) (C := [_,_]) B85  ⟨(.g hg rfl), (.g hg rfl), trivial⟩ rfl ⟨_, [_], [_,_], rfl, rfl, rfl, rfl, ⟨_, [_], [_,_], rfl, rfl, rfl, rfl, rfl⟩⟩) rfl<|VO.lg rfl rfl (GD.t _) (fun hg => LO.call (xs := [_,_,_,_,_]) (vs := [_,_,_,_,_]) C116 ⟨(.g hg rfl), (.g hg rfl), (.g hg rfl), (.g hg rfl), (.g hg rfl), trivial⟩ (fun w2 hw => follows_c g _ _ yb ya ofb ofa j i b hjb w2 hgr (hb.keep w2 hw) (ha.keep w2 hw) hla hkb (by omega) (by omega))) rfl<|VO.l (LO.pkA (.r rfl) rfl rfl (.r rfl)) rfl<|VO.nil ?_)
    refine VE.seqN ?_
    refine VC.cond rfl (fun h58 => ?_) (fun h58 => ?_)
    ·
      refine VC.reg (VO.l (LO.mv (.r rfl)) rfl<|VO.l (LO.lda (vs := [_,_]) A85 (.r rfl) (fun _ hw => cells_at hw 0 rfl ⟨_, rfl⟩) rfl) rfl<|VO.h rfl<|HO.bs (ps := [(_,_)]) (vs := [(_,_)]) (Z := [_,_]) (C := [_,_]) S53 Z85 N85 ⟨(.r rfl), trivial⟩ rfl rfl rfl rfl ⟨_, [_,_], [_,_], rfl, rfl, rfl, rfl, rfl⟩ fun b8 => VO.h rfl<|HO.appT (mvAt r n) (f := Mv.cells) 2 0 (fun R => [_,_, R,_,_]) S53 S53 I85 (.r rfl) (.r rfl) rfl rfl rfl rfl rfl rfl rfl (fun _ => rfl) rfl (by have := hln n; omega) fun p3 c3 => VO.h rfl<|HO.lo (LO.as (.r rfl))<|VO.nil ?_)
      refine VE.inN (VE.seqN ?_)
      refine VC.reg (VO.l (LO.add (.r rfl) (.r rfl) (wi (by omega) (by omega))) rfl<|VO.l (LO.mv (.r rfl)) rfl<|VO.nil ?_)
      have hmt := movesTo_t (by show (_ && _) = true; rw [Bool.and_eq_true]; exact h58)
      refine VE.thenN fun a w ha hw => ⟨(n + 1, p3, c3), (by dsimp only; omega), (by dsimp only; omega), ha.sub (.cons (congrArg (fun l : List Mv => some (Value.slice _ l.length _)) hmt.symm) (.cons rfl (.cons rfl (.cons rfl (.cons rfl (.cons rfl (.cons rfl (.cons rfl .nil)))))))), (by rw [hmt]; exact hw.sel [2,3,4] rfl)⟩
    ·
      refine VC.skip (VE.inN (VE.seqN ?_))
      refine VC.reg (VO.l (LO.add (.r rfl) (.r rfl) (wi (by omega) (by omega))) rfl<|VO.l (LO.mv (.r rfl)) rfl<|VO.nil ?_)
      have hmt := movesTo_f (by show ¬ (_ && _) = true; rw [Bool.and_eq_true]; exact h58)
      refine VE.thenN fun a w ha hw => ⟨(n + 1, po, co), (by dsimp only; omega), (by dsimp only; omega), ha.sub (.cons (congrArg (fun l : List Mv => some (Value.slice _ l.length _)) hmt.symm) (.cons rfl (.cons rfl (.cons rfl (.cons rfl (.cons rfl (.cons rfl (.cons rfl .nil)))))))), (by rw [hmt]; exact hw.sel [1,2,3] rfl)⟩
  ·
    have hne : n = (2 * r + 1) * (2 * r + 1) := by omega
    subst hne
    refine VC.exit (VE.thenX (VE.thenX (VE.inX (VE.seqN ?_))))
    refine VC.seq ?_
    refine VC.reg (VO.l (LO.mv (.r rfl)) rfl<|VO.l (LO.as (.r rfl)) rfl<|VO.nil ?_)
    refine VE.seqN ?_
    refine VC.ret (VE.res (vs := [_]) rfl ⟨rfl, trivial⟩ (fun w hw => ?_))
    exact ⟨⟨po, co⟩, trivial, rfl, selK [0] rfl rfl _ hw⟩

end Go.Proofs.Ytgemekpofpoopaa

namespace Go.Proofs.Ytgemekpofpoopaa
open Go.SL Go.Proofs Go.Cast Go.Cell
set_option linter.unusedVariables false

theorem C76 : IsFn Try.prog 76 := ⟨_, Try.func76, by decide, rfl⟩
theorem C78 : IsFn Try.prog 78 := ⟨_, Try.func78, by decide, rfl⟩
theorem C81 : IsFn Try.prog 81 := ⟨_, Try.func81, by decide, rfl⟩


def nP (g : Grid) (vs : List Span) (lv : Int) : Nat := (partsL (gW g) (gH g) (mayB vs lv)).length
def moveE (g1 : Grid) (v1 : List Span) (g2 : Grid) (v2 : List Span) (lv reach i j : Int) : Int :=
  if pairE g1 v1 g2 v2 lv reach ≠ 0 then pairE g1 v1 g2 v2 lv reach else if min i j < 0 ∨ (nP g1 v1 lv : Int) ≤ i ∨ (nP g2 v2 lv : Int) ≤ j then 4 else 0
def ksAt (W H : Nat) (vs : List Span) (lv : Int) (i : Nat) : List (List Nat) := (((areasM W H vs lv)[i]?).map AreaM.ks).getD []
def movesP (g : Grid) (v1 v2 : List Span) (lv : Int) (i j r : Nat) : List Mv := movesM (gW g) (gH g) (ksAt (gW g) (gH g) v1 lv i) (ksAt (gW g) (gH g) v2 lv j) (ofL (gW g) (gH g) (mayB v1 lv)) (ofL (gW g) (gH g) (mayB v2 lv)) i j r
theorem ksAt_of {W H : Nat} {vs : List Span} {lv : Int} {y : ArY} (h : ArP W H vs lv y) {i : Nat} {a : AreaR} (ha : y.l[i]? = some a) : ksAt W H vs lv i = a.kr.map RowA.l := by
  unfold ksAt; rw [← h.m, List.getElem?_map, ha]; rfl
theorem SpI.of_res {β : Bs} {L : List Res} {w : World} {y : ArY} {of : List Int} {W H : Nat} {vs : List Span} {lv : Int} (hw : St β L w) (hp : ArP W H vs lv y) (i0 i1 i3 i7 : Nat) (h0 : L[i0]? = some (own 73 8 y.p y.c (y.l.map AreaR.cells))) (h1 : L[i1]? = some (bagD (y.l.map AreaR.kR))) (h3 : L[i3]? = some (bagR 3 1 nC y.ks)) (h7 : L[i7]? = some (own 3 1 y.po y.co (of.map iC))) : SpI w y of :=
  ⟨RO.of_own hw i0 h0, fun a ha => ⟨own_inv_rows ((hw.inv i1 _ h1).1 _ (List.mem_map_of_mem (f := AreaR.kR) ha)), fun x hx => by
    have h := hw.inv i3 _ h3 _ (List.mem_map_of_mem (f := fun x : RowA Nat => own 3 1 x.p x.c (x.l.map nC)) (hp.kr a ha x hx))
    refine ⟨?_, own_inv_rows h⟩
    have := h.1
    rwa [List.length_map] at this⟩, RO.of_own hw i7 h7⟩
section
variable {g1 g2 : Grid} {v1 v2 : List Span} {lv reach i j : Int}
theorem moveOk0 (h : moveE g1 v1 g2 v2 lv reach i j = 0) : pairE g1 v1 g2 v2 lv reach = 0 ∧ ∃ a b : Nat, i = a ∧ j = b ∧ a < nP g1 v1 lv ∧ b < nP g2 v2 lv := by
  unfold moveE at h
  split at h
  · rename_i z; exact absurd h z
  · rename_i z
    split at h
    · omega
    · exact ⟨Classical.not_not.1 z, i.toNat, j.toNat, by omega, by omega, by omega, by omega⟩
end

set_option maxRecDepth 20000 in
set_option maxHeartbeats 8000000 in
theorem Moves_ok (g1 : Grid) (v1 : List Span) (p1 : Option Addr) (c1 : Nat) (g2 : Grid) (v2 : List Span) (p2 : Option Addr) (c2 : Nat) (lv : Int) (i j r : Nat) (w : World) (hv1 : Spans w p1 v1) (hv2 : Spans w p2 v2) (hmo : moveE g1 v1 g2 v2 lv r i j = 0) :
  Calls Try.prog 30 #[fieldV g1 p1 v1.length c1, fieldV g2 p2 v2.length c2, .int .i64 lv, .int .i64 (r : Int), .int .i64 (i : Int), .int .i64 (j : Int)] w fun e w' => ∃ y : SlY, True ∧ e = .returned (.tuple #[.slice y.p (movesP g1 v1 v2 lv i j r).length y.c, .int .i64 0]) ∧ St (bs w) [own 85 2 y.p y.c ((movesP g1 v1 v2 lv i j r).map Mv.cells)] w' := by
  obtain ⟨hpr, i_, j_, ei, ej, hi, hj⟩ := moveOk0 hmo
  obtain ⟨hf1, hf2, rfl, hl1, hl2, hr1, hr2⟩ := pairOk hpr
  obtain ⟨hg, hlen1, hok1,_,_⟩ := openOk (field_open (lv := lv) hf1 hl1 hl2)
  obtain ⟨_, hlen2, hok2,_,_⟩ := openOk (field_open (lv := lv) hf2 hl1 hl2)
  have har := area_le hg
  refine enter (vs := [_,_,_,_,_,_]) (env := [(0,_), (1,_), (2,_), (3,_), (4,_), (5,_)]) Try.func30 rfl rfl rfl rfl ?_
  refine VC.seq ?_
  refine VC.reg (VO.h rfl<|HO.box (C := #[_,_,_,_,_,_]) rfl rfl fun b1 => VO.h rfl<|HO.box (C := #[_,_,_,_,_,_]) rfl rfl fun b2 => VO.l (LO.as (.r rfl)) rfl<|VO.l (LO.as (.r rfl)) rfl<|VO.nil ?_)
  refine VE.seqN ?_
  refine VC.seq ?_
  refine VC.seq ?_
  refine VC.reg (VO.l (LO.lda (vs := [_,_,_,_,_,_]) A26 (.r rfl) (fun _ hw => cells_at hw 1 rfl ⟨_, rfl⟩) rfl) rfl<|VO.l (LO.lda (vs := [_,_,_,_,_,_]) A26 (.r rfl) (fun _ hw => cells_at hw 0 rfl ⟨_, rfl⟩) rfl) rfl<|VO.l (LO.mv (.r rfl)) rfl<|VO.l (LO.mv (.r rfl)) rfl<|VO.l (LO.call (xs := [_,_,_,_]) (vs := [_,_,_,_]) C76 ⟨(.r rfl), (.r rfl), (.r rfl), (.r rfl), trivial⟩ (fun w hw => paired_c g1 v1 p1 c1 _ v2 p2 c2 lv (r : Int) w (hv1.keep w hw) (hv2.keep w hw))) rfl<|VO.l (LO.as (.r rfl)) rfl<|VO.nil ?_)
  refine VE.seqN ?_
  refine VC.seq ?_
  refine VC.reg (VO.l (LO.mv (.r rfl)) rfl<|VO.l (LO.ne (.r rfl) (.r rfl)) rfl<|VO.nil ?_)
  refine VE.seqN ?_
  refine VC.cond rfl (fun h23 => ?_) (fun h23 => ?_)
  ·
    (exfalso; exact h23 hpr)
  ·
    refine VC.skip (VE.seqN ?_)
    refine VC.seq ?_
    refine VC.drawB [⟨6,15, fun b => .pointer (some ⟨b, 0, none⟩), 154, #[.int .i64 0, .int .i64 0, .int .i64 0, .int .i64 0, .int .i64 0, .slice none 0 0, .slice none 0 0]⟩, ⟨7,16, fun b => .pointer (some ⟨b, 0, none⟩), 154, #[.int .i64 0, .int .i64 0, .int .i64 0, .int .i64 0, .int .i64 0, .slice none 0 0, .slice none 0 0]⟩] [[0,1], [0,1], [0,1], [0,1], [0,1], [0,1], [0,1]] [some 4, some 4, none, some 4, some 4, none, none, none, none, none] mixed (by kernel_rfl) rfl (LX.l (fun _ hJ => LO.lda (vs := [_,_,_,_,_,_]) A26 (.r rfl) (fun _ hw => cells_at (hJ _ hw) 1 rfl ⟨_, rfl⟩) rfl) rfl<|LX.l (fun _ hJ => LO.mv (.r rfl)) rfl<|LX.s<|LX.l (fun _ hJ => LO.lda (vs := [_,_,_,_,_,_]) A26 (.r rfl) (fun _ hw => cells_at (hJ _ hw) 0 rfl ⟨_, rfl⟩) rfl) rfl<|LX.l (fun _ hJ => LO.mv (.r rfl)) rfl<|LX.s<|LX.s<|LX.s<|LX.s<|LX.s<|LX.nil) (⟨⟨rfl,_, rfl, FO.alloc Z154 rfl⟩, ⟨⟨rfl,_, rfl, FO.alloc Z154 rfl⟩, trivial⟩⟩) (HY.s<|HY.s<|HY.h rfl rfl fun X => HO.callx (xs := [_,_]) (vs := [_,_]) C78 ⟨(.r rfl), (.r rfl), trivial⟩ (fun w hw => spreadOf_c g1 v1 p1 c1 lv w hg hlen1 hok1 (hv1.keep w hw)) fun y1 hy1 => ⟨[_,_,_,_,_,_,_,_,_,_], rfl, selJ (L1 := [_,_]) [8,9] rfl rfl rfl, HY.s<|HY.s<|HY.h rfl rfl fun X => HO.callx (xs := [_,_]) (vs := [_,_]) C78 ⟨(.r rfl), (.r rfl), trivial⟩ (fun w hw => spreadOf_c g1 v2 p2 c2 lv w hg hlen2 hok2 (hv2.keep w hw)) fun y2 hy2 => ⟨[_,_,_,_,_,_,_,_,_,_,_,_,_,_,_,_,_,_], rfl, selJ (L1 := [_,_]) [16,17] rfl rfl rfl, HY.f rfl fun b39 => ⟨selJ (L1 := [_,_]) [17,18] rfl rfl rfl, HY.f rfl fun b40 => ⟨selJ (L1 := [_,_]) [18,19] rfl rfl rfl, HY.h0 rfl fun X => HO.st 1 (vs := [_,_,_,_,_,_,_]) (C' := [_,_,_,_,_,_,_]) (L' := [_,_,_,_,_,_,_,_,_,_,_,_,_,_,_,_,_,_,_,_] ++ X) N154 rfl rfl rfl rfl rfl rfl rfl rfl<|⟨[_,_,_,_,_,_,_,_,_,_,_,_,_,_,_,_,_,_,_,_], rfl, selJ (L1 := [_,_]) [18,19] rfl rfl rfl, HY.h0 rfl fun X => HO.st 0 (vs := [_,_,_,_,_,_,_]) (C' := [_,_,_,_,_,_,_]) (L' := [_,_,_,_,_,_,_,_,_,_,_,_,_,_,_,_,_,_,_,_] ++ X) N154 rfl rfl rfl rfl rfl rfl rfl rfl<|⟨[_,_,_,_,_,_,_,_,_,_,_,_,_,_,_,_,_,_,_,_], rfl, selJ (L1 := [_,_]) [18,19] rfl rfl rfl, HY.nil ?_⟩⟩⟩⟩⟩⟩)
    refine VE.seqN ?_
    refine VC.seq ?_
    refine VC.seq ?_
    refine VC.rebase fun w1 hst1 => ?_
    have hxa : Cells w1 ⟨b39,0, none⟩ [.int .i64 g1.x, .int .i64 g1.y, .int .i64 g1.size, .int .i64 g1.wide, .int .i64 g1.high, .slice y1.p y1.l.length y1.c, .slice y1.po (gW g1 * gH g1) y1.co] := cells_inv (hst1.inv 1 _ rfl)
    have hS1 : SpI w1 y1 (ofL (gW g1) (gH g1) (mayB v1 lv)) := SpI.of_res hst1 hy1 10 11 13 17 rfl rfl rfl rfl
    have hN1 := ar_len hy1
    have hxb : Cells w1 ⟨b40,0, none⟩ [.int .i64 g1.x, .int .i64 g1.y, .int .i64 g1.size, .int .i64 g1.wide, .int .i64 g1.high, .slice y2.p y2.l.length y2.c, .slice y2.po (gW g1 * gH g1) y2.co] := cells_inv (hst1.inv 0 _ rfl)
    have hS2 : SpI w1 y2 (ofL (gW g1) (gH g1) (mayB v2 lv)) := SpI.of_res hst1 hy2 2 3 5 9 rfl rfl rfl rfl
    have hN2 := ar_len hy2
    refine VC.reg (VO.l (LO.mv (.r rfl)) rfl<|VO.l (LO.mv (.r rfl)) rfl<|VO.l (LO.min (.r rfl) (.r rfl)) rfl<|VO.l (LO.lt (.r rfl) (.r rfl)) rfl<|VO.l (LO.mv (.r rfl)) rfl<|VO.lg rfl rfl (GD.f _) (fun hg => LO.mv (.r rfl)) rfl<|VO.lg rfl rfl (GD.f _) (fun hg => LO.fa (r := 5) F154_1 (.r rfl) rfl) rfl<|VO.lg rfl rfl (GD.f _) (fun hg => LO.ld O29 (.g hg rfl) (cells_keep (sub_cells (off := 5) hxa ⟨_, rfl⟩))) rfl<|VO.lg rfl rfl (GD.f _) (fun hg => LO.len S29 (.g hg rfl) rfl) rfl<|VO.lg rfl rfl (GD.f _) (fun hg => LO.ge (.g hg rfl) (.g hg rfl)) rfl<|VO.l (LO.pkO (.r rfl) (.r rfl) rfl rfl) rfl<|VO.l (LO.mv (.r rfl)) rfl<|VO.lg rfl rfl (GD.f _) (fun hg => LO.mv (.r rfl)) rfl<|VO.lg rfl rfl (GD.f _) (fun hg => LO.fa (r := 5) F154_1 (.r rfl) rfl) rfl<|VO.lg rfl rfl (GD.f _) (fun hg => LO.ld O29 (.g hg rfl) (cells_keep (sub_cells (off := 5) hxb ⟨_, rfl⟩))) rfl<|VO.lg rfl rfl (GD.f _) (fun hg => LO.len S29 (.g hg rfl) rfl) rfl<|VO.lg rfl rfl (GD.f _) (fun hg => LO.ge (.g hg rfl) (.g hg rfl)) rfl<|VO.l (LO.pkO (.r rfl) (.r rfl) rfl rfl) rfl<|VO.nil ?_)
    refine VE.seqN ?_
    refine VC.cond rfl (fun h48 => ?_) (fun h48 => ?_)
    ·
      (exfalso; (unfold nP at hi hj; omega))
    ·
      unfold nP at hi hj
      obtain ⟨aa, haa⟩ := get_ex (l := y1.l) (n := i) (by omega)
      obtain ⟨bb, hbb⟩ := get_ex (l := y2.l) (n := j) (by omega)
      refine VC.skip (VE.seqN ?_)
      refine VC.seq ?_
      refine VC.reg (VO.l (LO.lda (vs := [_,_,_,_,_,_,_]) A154 (.r rfl) (cells_keep (sub_cells (off := 0) hxa ⟨_, rfl⟩)) rfl) rfl<|VO.l (LO.mv (.r rfl)) rfl<|VO.l (LO.lda (vs := [_,_,_,_,_,_,_]) A154 (.r rfl) (cells_keep (sub_cells (off := 0) hxb ⟨_, rfl⟩)) rfl) rfl<|VO.l (LO.mv (.r rfl)) rfl<|VO.l (LO.mv (.r rfl)) rfl<|VO.h rfl<|HO.callx (xs := [_,_,_,_,_]) (vs := [_,_,_,_,_]) C81 ⟨(.r rfl), (.r rfl), (.r rfl), (.r rfl), (.r rfl), trivial⟩ (fun w hw => moves_c g1 y1 y2 _ _ i j r aa bb haa hbb w hg (hS1.keep w hw) (hS2.keep w hw) ofL_len ofL_len (krOk_area hy1 (List.mem_of_getElem? haa)) (krOk_area hy2 (List.mem_of_getElem? hbb)) (by omega)) fun y _ => VO.h rfl<|HO.lo (LO.as (.r rfl))<|VO.l (LO.as (.r rfl)) rfl<|VO.nil ?_)
      refine VE.seqN ?_
      refine VC.ret (VE.res (vs := [_,_]) rfl ⟨rfl, rfl, trivial⟩ (fun w hw => ?_))
      have hf := hst1.call hw
      have em : movesP g1 v1 v2 lv i j r = movesM (gW g1) (gH g1) (aa.kr.map RowA.l) (bb.kr.map RowA.l) (ofL (gW g1) (gH g1) (mayB v1 lv)) (ofL (gW g1) (gH g1) (mayB v2 lv)) i j r := by unfold movesP; rw [ksAt_of hy1 haa, ksAt_of hy2 hbb]
      rw [← em] at hf
      exact ⟨y, trivial, by rw [em]; rfl, selK [0] rfl rfl _ hf⟩

end Go.Proofs.Ytgemekpofpoopaa

namespace Go.Proofs.Ytgemekpofpoopaa
open Go.SL Go.Proofs Go.Cast Go.Cell
set_option linter.unusedVariables false

theorem O4 : IsOne Try.prog 4 := ⟨⟨_, Try.underlying4, rfl⟩, by kernel_rfl⟩
theorem Z191 : ZeroOf Try.prog 191 (.agg #[.bool false, .int .i64 0]) := by unfold ZeroOf; kernel_rfl
theorem F188_0 : FieldAt Try.prog 188 0 0 := ⟨_,_, Try.underlying188, rfl, rfl, 0, by kernel_rfl⟩
theorem O186 : IsOne Try.prog 186 := ⟨⟨_, Try.underlying186, rfl⟩, by kernel_rfl⟩
theorem A191 : IsAgg Try.prog 191 2 := ⟨⟨_, Try.underlying191, rfl⟩, by kernel_rfl⟩
theorem N191 : (Try.prog.info? 191).map (·.size) = some 2 := by kernel_rfl
theorem A188 : IsAgg Try.prog 188 1 := ⟨⟨_, Try.underlying188, rfl⟩, by kernel_rfl⟩
theorem C112 : IsFn Try.prog 112 := ⟨_, Try.func112, by decide, rfl⟩


abbrev Nd := Bool × Int
abbrev nV : Nd → Value := pairV Value.bool intV
abbrev niV (n : Nat) : Value := .int .i64 (n : Int)
theorem KN : KeyE Try.prog (191) nV := key_pair (cell1_bool Try.underlying4 O4) (cell1_int Try.underlying3 O3) ⟨_,_, Try.underlying191, by decide, by decide, rfl, rfl, rfl, rfl, by kernel_rfl⟩
theorem S191 : IsS2 Try.prog (191) 4 3 := ⟨_,_, Try.underlying191, by decide, by decide, rfl, rfl, rfl, rfl, by kernel_rfl⟩
theorem G191 : Try.prog.eqGuardType Try.prog.depth 191 = false := by kernel_rfl
theorem M186 : IsMapG Try.prog (186) nV nV (false, 0) := ⟨191,191, Try.underlying186, KN, Z191⟩
theorem M192 : IsMapG Try.prog (192) nV niV 0 := ⟨191,3, Try.underlying192, KN, Z3⟩
theorem mapR_keep {α δ : Type} {kE : α → Value} {vE : δ → Value} {b : Nat} {M : α → Option δ} {w0 : World} {L : List Res} (h : (mapR kE vE b M).inv w0) : ∀ w, St (bs w0) L w → (mapR kE vE b M).inv w := fun w hw => by
  obtain ⟨es, c, h1, h2⟩ := h
  refine ⟨es, c, ?_, h2⟩
  have hb : b < w0.heap.size := by
    rcases Nat.lt_or_ge b w0.heap.size with q | q
    · exact q
    · rw [Array.getElem?_eq_none q] at h1; cases h1
  exact (hw.fr b hb (fun f => f)).trans h1
/-- An event, with the places of its lists. -/
structure EvR where
  kd : Int
  fp : Option Addr
  fc : Nat
  f : List Nat
  tp : Option Addr
  tc : Nat
  t : List Nat
def EvR.z : EvR := ⟨0, none, 0, [], none, 0, []⟩
def EvR.cells (e : EvR) : List Value := [.int .i64 e.kd, .slice e.fp e.f.length e.fc, .slice e.tp e.t.length e.tc]
def EvR.fR (e : EvR) : Res := own 3 1 e.fp e.fc (e.f.map nC)
def EvR.tR (e : EvR) : Res := own 3 1 e.tp e.tc (e.t.map nC)
def EvR.m (e : EvR) : EvM := ⟨e.kd, e.f, e.t⟩
def findL {α : Type} (A : α → Option Nat) (q : α) (l : List EvR) : List EvR := if (A q).isSome = true then l else l ++ [EvR.z]
theorem joinM_ne {α : Type} [DecidableEq α] {M : α → Option α} {ld : α → α} {x y : α} (h : ¬ ld x = ld y) : updG M (ld y) (ld x) = joinM M ld x y := (if_neg h).symm
theorem joinM_eq {α : Type} [DecidableEq α] {M : α → Option α} {ld : α → α} {x y : α} (h : ld x = ld y) : M = joinM M ld x y := (if_pos h).symm

set_option maxRecDepth 20000 in
theorem lead_c (M : Nd → Option Nd) (ld : Nd → Nd) (x : Nd) (b : Nat) (w : World) (hM : (mapR nV nV b M).inv w) (hF : Frs M ld) :
  Calls Try.prog 112 #[.agg #[.map (some b)], nV x] w fun e w' => e = .returned (nV (ld x)) ∧ St (bs w) [] w' := by
  obtain ⟨r, hr⟩ := hF.rank
  refine enter (vs := [_,_]) (env := [(0,_), (1,_)]) Try.func112 rfl rfl rfl rfl ?_
  refine VC.seq ?_
  refine VC.reg (VO.h rfl<|HO.box (C := #[_]) rfl rfl fun b1 => VO.h rfl<|HO.box (C := #[_,_]) rfl rfl fun b2 => VO.h rfl<|HO.alloc (C := #[_,_]) Z191 rfl fun b3 => VO.nil ?_)
  refine VE.seqN ?_
  refine VC.block ?_
  refine VC.perm [1,0,2] rfl ?_
  refine VC.loopK (α := Nd) 1 (fun gx => []) [(2,_), (3,_), (4,_)] (fun gx => [blk b2 (.cells #[.bool gx.1, .int .i64 gx.2] 191)]) (fun gx => ld gx = ld x) (fun gx => r gx) x (by rfl) (.cons rfl (.cons rfl (.cons rfl .nil))) (fun _ h => h) ?_
  rintro y hI
  refine VC.block ?_
  refine VC.seq ?_
  refine VC.reg (VO.l (LO.fa (r := 0) F188_0 (.r rfl) rfl) rfl<|VO.l (LO.ld O186 (.r rfl) (fun _ hw => cells_at hw 2 rfl ⟨_, rfl⟩)) rfl<|VO.l (LO.lda (vs := [_,_]) A191 (.r rfl) (fun _ hw => cells_at hw 0 rfl ⟨_, rfl⟩) rfl) rfl<|VO.l (LO.lkG (n := y) M186 (.r rfl) (.r rfl) (mapR_keep hM)) rfl<|VO.l (LO.mv (.r rfl)) rfl<|VO.l (LO.ex (.r rfl) rfl) rfl<|VO.l (LO.ex (.r rfl) rfl) rfl<|VO.h rfl<|HO.alloc (C := #[_,_]) Z191 rfl fun b4 => VO.h0<|HO.st 0 (vs := [_,_]) (C' := [_,_]) (L' := [_,_,_,_]) N191 rfl rfl rfl rfl rfl rfl rfl rfl<|VO.l (LO.as (.r rfl)) rfl<|VO.nil ?_)
  refine VE.seqN ?_
  refine VC.seq ?_
  refine VC.seq ?_
  refine VC.reg (VO.l (LO.mv (.r rfl)) rfl<|VO.l (LO.not (.r rfl)) rfl<|VO.nil ?_)
  refine VE.seqN ?_
  refine VC.cond rfl (fun h15 => ?_) (fun h15 => ?_)
  ·
    refine VC.seq ?_
    refine VC.reg (VO.l (LO.lda (vs := [_,_]) A191 (.r rfl) (fun _ hw => cells_at hw 1 rfl ⟨_, rfl⟩) rfl) rfl<|VO.h0<|HO.st 2 (vs := [_,_]) (C' := [_,_]) (L' := [_,_,_,_]) N191 rfl rfl rfl rfl rfl rfl rfl rfl<|VO.nil ?_)
    refine VE.seqN ?_
    refine VC.ret (VE.thenR (VE.inR (VE.thenR (VE.inR (VE.res (vs := [_]) rfl ⟨RV.agg (vs := [_,_]) A191 rfl (cells_blk 2 rfl ⟨_, rfl⟩) rfl, trivial⟩ (fun w hw => ?_))))))
    have hy : ld x = y := by rw [← hI]; exact hF.stay y (by simpa using h15)
    exact ⟨by rw [hy]; rfl, hw.nil⟩
  ·
    obtain ⟨v, hv⟩ : ∃ v, M y = some v := Option.ne_none_iff_exists'.1 (by simpa using h15)
    refine VC.skip (VE.seqN ?_)
    refine VC.reg (VO.l (LO.lda (vs := [_,_]) A191 (.r rfl) (fun _ hw => cells_at hw 0 rfl ⟨_, rfl⟩) rfl) rfl<|VO.h0<|HO.st 1 (vs := [_,_]) (C' := [_,_]) (L' := [_,_,_,_]) N191 rfl rfl rfl rfl rfl rfl rfl rfl<|VO.nil ?_)
    refine VE.inN ?_
    refine VE.thenN fun a w ha hw => ⟨((M y).getD (false, 0)), (by rw [hv, Option.getD_some, hF.go y v hv]; exact hI), (by rw [hv, Option.getD_some]; exact hr y v hv), ha.sub (.cons rfl (.cons rfl (.cons rfl .nil))), hw.sel [1,2,3] rfl⟩

set_option maxRecDepth 20000 in
theorem join_c (M : Nd → Option Nd) (ld : Nd → Nd) (x y : Nd) (b : Nat) (w : World) (hh : Has w [mapR nV nV b M]) (hF : Frs M ld) :
  Calls Try.prog 110 #[.agg #[.map (some b)], nV x, nV y] w fun e w' => e = .returned (.tuple #[]) ∧ St ⟨w, fpL [mapR nV nV b M]⟩ [mapR nV nV b (joinM M ld x y)] w' := by
  refine enterO (vs := [_,_,_]) (env := [(0,_), (1,_), (2,_)]) hh.enter Try.func110 rfl rfl rfl rfl ?_
  refine VC.seq ?_
  refine VC.reg (VO.h rfl<|HO.box (C := #[_]) rfl rfl fun b2 => VO.h rfl<|HO.box (C := #[_,_]) rfl rfl fun b3 => VO.h rfl<|HO.box (C := #[_,_]) rfl rfl fun b4 => VO.nil ?_)
  refine VE.seqN ?_
  refine VC.seq ?_
  refine VC.drawH [[0,1,2,3], [0,2,3], [2,3]] [some 0, some 0, some 0, some 0, some 0, some 0, none, none] mixed (by kernel_rfl) rfl (LX.l (fun _ hJ => LO.lda (vs := [_]) A188 (.r rfl) (fun _ hw => cells_at (hJ _ hw) 2 rfl ⟨_, rfl⟩) rfl) rfl<|LX.l (fun _ hJ => LO.lda (vs := [_,_]) A191 (.r rfl) (fun _ hw => cells_at (hJ _ hw) 1 rfl ⟨_, rfl⟩) rfl) rfl<|LX.l (fun _ hJ => LO.call (xs := [_,_]) (vs := [_,_]) C112 ⟨(.r rfl), (.r rfl), trivial⟩ (fun w2 hw => lead_c M ld x b w2 ((hJ _ hw).inv 3 _ rfl) hF)) rfl<|LX.l (fun _ hJ => LO.lda (vs := [_]) A188 (.r rfl) (fun _ hw => cells_at (hJ _ hw) 2 rfl ⟨_, rfl⟩) rfl) rfl<|LX.l (fun _ hJ => LO.lda (vs := [_,_]) A191 (.r rfl) (fun _ hw => cells_at (hJ _ hw) 0 rfl ⟨_, rfl⟩) rfl) rfl<|LX.l (fun _ hJ => LO.call (xs := [_,_]) (vs := [_,_]) C112 ⟨(.r rfl), (.r rfl), trivial⟩ (fun w2 hw => lead_c M ld y b w2 ((hJ _ hw).inv 3 _ rfl) hF)) rfl<|LX.s<|LX.s<|LX.nil) (HX.s<|HX.s<|HX.s<|HX.s<|HX.s<|HX.s<|HX.h0<|HO.st 1 (vs := [_,_]) (C' := [_,_]) (L' := [_,_,_,_]) N191 rfl rfl rfl rfl rfl rfl rfl rfl<|⟨fun _ hw => hw.sel [0,2,3] rfl, HX.h0<|HO.st 0 (vs := [_,_]) (C' := [_,_]) (L' := [_,_,_,_]) N191 rfl rfl rfl rfl rfl rfl rfl rfl<|⟨fun _ hw => hw.sel [2,3] rfl, HX.nil ?_⟩⟩)
  refine VE.seqN ?_
  refine VC.seq ?_
  refine VC.reg (VO.l (LO.lda (vs := [_,_]) A191 (.r rfl) (fun _ hw => cells_at hw 1 rfl ⟨_, rfl⟩) rfl) rfl<|VO.l (LO.lda (vs := [_,_]) A191 (.r rfl) (fun _ hw => cells_at hw 0 rfl ⟨_, rfl⟩) rfl) rfl<|VO.l (LO.neP (a := ld x) (b := ld y) (cell1_bool Try.underlying4 O4) (cell1_int Try.underlying3 O3) S191 G191 (.r rfl) (.r rfl)) rfl<|VO.nil ?_)
  refine VE.seqN ?_
  refine VC.cond rfl (fun h14 => ?_) (fun h14 => ?_)
  ·
    refine VC.reg (VO.l (LO.fa (r := 0) F188_0 (.r rfl) rfl) rfl<|VO.l (LO.ld O186 (.r rfl) (fun _ hw => cells_at hw 2 rfl ⟨_, rfl⟩)) rfl<|VO.l (LO.lda (vs := [_,_]) A191 (.r rfl) (fun _ hw => cells_at hw 0 rfl ⟨_, rfl⟩) rfl) rfl<|VO.l (LO.lda (vs := [_,_]) A191 (.r rfl) (fun _ hw => cells_at hw 1 rfl ⟨_, rfl⟩) rfl) rfl<|VO.h0<|HO.mupG 3 (fun R => [_,_,_, R]) (ld y) (ld x) M186 (.r rfl) (.r rfl) (.r rfl) rfl (fun _ => rfl)<|VO.nil ?_)
    refine VE.resN (vs := []) rfl trivial (fun w hw => ?_)
    have hs := selK [3] rfl rfl _ hw
    refine ⟨rfl, ?_⟩
    first | (rw [← joinM_ne (by simpa using h14)]; exact hs) | (rw [← joinM_eq (by simpa using h14)]; exact hs)
  ·
    refine VC.skip (VE.resN (vs := []) rfl trivial (fun w hw => ?_))
    have hs := selK [3] rfl rfl _ hw
    refine ⟨rfl, ?_⟩
    first | (rw [← joinM_ne (by simpa using h14)]; exact hs) | (rw [← joinM_eq (by simpa using h14)]; exact hs)

end Go.Proofs.Ytgemekpofpoopaa

namespace Go.Proofs.Ytgemekpofpoopaa
open Go.SL Go.Proofs Go.Cast Go.Cell
set_option linter.unusedVariables false

theorem C111 : IsFn Try.prog 111 := ⟨_, Try.func111, by decide, rfl⟩
theorem O192 : IsOne Try.prog 192 := ⟨⟨_, Try.underlying192, rfl⟩, by kernel_rfl⟩
theorem O46 : IsOne Try.prog 46 := ⟨⟨_, Try.underlying46, rfl⟩, by kernel_rfl⟩
theorem S46 : IsSlice Try.prog 46 81 := Try.underlying46
theorem B81 : Builds Try.prog 81 [(0,1), (1,1), (2,1)] [.int .i64 0, .slice none 0 0, .slice none 0 0] := Builds.mk fun _ => by kernel_rfl
theorem Z81 : ZeroOf Try.prog 81 (.agg #[.int .i64 0, .slice none 0 0, .slice none 0 0]) := by unfold ZeroOf; kernel_rfl
theorem N81 : (Try.prog.info? 81).map (·.size) = some 3 := by kernel_rfl
theorem I81 : EInfo Try.prog 81 3 56 (.agg #[.int .i64 0, .slice none 0 0, .slice none 0 0]) := ⟨by kernel_rfl, by kernel_rfl, by unfold ZeroOf; kernel_rfl, rfl, by decide⟩
theorem N46 : (Try.prog.info? 46).map (·.size) = some 1 := by kernel_rfl


abbrev findR (ba : Nat) (A : Nd → Option Nat) (bo : Nat) (po : Option Addr) (co : Nat) (l : List EvR) : List Res := [mapR nV niV ba A, blk bo (.cells #[.slice po l.length co] 46), own 81 3 po co (l.map EvR.cells)]
theorem find_t {A : Nd → Option Nat} {q : Nd} {l : List EvR} (h : A q = none) : updG A q l.length = findA A q l.length ∧ l ++ [EvR.z] = findL A q l ∧ findK A q l.length = l.length := by unfold findA findL findK; rw [h]; exact ⟨rfl, rfl, rfl⟩
theorem find_f {A : Nd → Option Nat} {q : Nd} {l : List EvR} (h : ¬ A q = none) : A = findA A q l.length ∧ l = findL A q l ∧ findK A q l.length = (A q).getD 0 := by
  unfold findA findL findK
  obtain ⟨p, hp⟩ := Option.ne_none_iff_exists'.1 h
  rw [hp]; exact ⟨rfl, rfl, rfl⟩

set_option maxRecDepth 20000 in
set_option maxHeartbeats 4000000 in
theorem find_c (M : Nd → Option Nd) (ld : Nd → Nd) (x : Nd) (bm bg ba bt bo : Nat) (A : Nd → Option Nat) (l : List EvR) (po : Option Addr) (co : Nat) (w : World) (hh : Has w (findR ba A bo po co l)) (hcap : ∀ {L : List Res} {v : World}, St ⟨w, fpL (findR ba A bo po co l)⟩ L v → Cells v ⟨bg, 0, none⟩ [.map (some bm)] ∧ (mapR nV nV bm M).inv v ∧ Cells v ⟨bt, 0, none⟩ [.map (some ba)]) (hF : Frs M ld) (hA : ∀ p, A (ld x) = some p → p < l.length) (hl : l.length ≤ 1000000) :
  Calls Try.prog 111 #[nV x, .pointer (some ⟨bg, 0, none⟩), .pointer (some ⟨bt, 0, none⟩), .pointer (some ⟨bo, 0, none⟩)] w fun e w' => ∃ y : SlY, True ∧ e = .returned (.pointer (some ⟨pb y.p, Go.SL.po y.p + findK A (ld x) l.length * 3, none⟩)) ∧ St ⟨w, fpL (findR ba A bo po co l)⟩ (findR ba (findA A (ld x) l.length) bo y.p y.c (findL A (ld x) l)) w' := by
  refine enterO (vs := [_,_,_,_]) (env := [(0,_), (1,_), (2,_), (3,_)]) hh.enter Try.func111 rfl rfl rfl rfl ?_
  refine VC.seq ?_
  refine VC.reg (VO.h rfl<|HO.box (C := #[_,_]) rfl rfl fun b4 => VO.l (LO.as (.r rfl)) rfl<|VO.nil ?_)
  refine VE.seqN ?_
  refine VC.seq ?_
  refine VC.reg (VO.l (LO.lda (vs := [_]) A188 (.r rfl) (fun _ hw => sub_cells (off := 0) (hcap hw).1 ⟨_, rfl⟩) rfl) rfl<|VO.l (LO.lda (vs := [_,_]) A191 (.r rfl) (fun _ hw => cells_at hw 0 rfl ⟨_, rfl⟩) rfl) rfl<|VO.l (LO.call (xs := [_,_]) (vs := [_,_]) C112 ⟨(.r rfl), (.r rfl), trivial⟩ (fun w2 hw => lead_c M ld x bm w2 (hcap hw).2.1 hF)) rfl<|VO.h rfl<|HO.alloc (C := #[_,_]) Z191 rfl fun b5 => VO.h0<|HO.st 0 (vs := [_,_]) (C' := [_,_]) (L' := [_,_,_,_,_]) N191 rfl rfl rfl rfl rfl rfl rfl rfl<|VO.nil ?_)
  refine VE.seqN ?_
  refine VC.seq ?_
  refine VC.reg (VO.l (LO.ld O192 (.r rfl) (fun _ hw => sub_cells (off := 0) (hcap hw).2.2 ⟨_, rfl⟩)) rfl<|VO.l (LO.lda (vs := [_,_]) A191 (.r rfl) (fun _ hw => cells_at hw 0 rfl ⟨_, rfl⟩) rfl) rfl<|VO.l (LO.lkG (n := (ld x)) M192 (.r rfl) (.r rfl) (fun _ hw => hw.inv 2 _ rfl)) rfl<|VO.l (LO.mv (.r rfl)) rfl<|VO.l (LO.ex (.r rfl) rfl) rfl<|VO.l (LO.ex (.r rfl) rfl) rfl<|VO.l (LO.as (.r rfl)) rfl<|VO.l (LO.as (.r rfl)) rfl<|VO.nil ?_)
  refine VE.seqN ?_
  refine VC.seq ?_
  refine VC.seq ?_
  refine VC.reg (VO.l (LO.mv (.r rfl)) rfl<|VO.l (LO.not (.r rfl)) rfl<|VO.nil ?_)
  refine VE.seqN ?_
  refine VC.cond rfl (fun h19 => ?_) (fun h19 => ?_)
  ·
    obtain ⟨e1, e2, e3⟩ := find_t (l := l) (q := ld x) (A := A) (by simpa using h19)
    have hkl : l.length < (l ++ [EvR.z]).length := by simp
    refine VC.seq ?_
    refine VC.reg (VO.l (LO.ld O46 (.r rfl) (fun _ hw => cells_at hw 3 rfl ⟨_, rfl⟩)) rfl<|VO.l (LO.len S46 (.r rfl) rfl) rfl<|VO.l (LO.as (.r rfl)) rfl<|VO.nil ?_)
    refine VE.seqN ?_
    refine VC.seq ?_
    refine VC.reg (VO.l (LO.ld O192 (.r rfl) (fun _ hw => sub_cells (off := 0) (hcap hw).2.2 ⟨_, rfl⟩)) rfl<|VO.l (LO.lda (vs := [_,_]) A191 (.r rfl) (fun _ hw => cells_at hw 0 rfl ⟨_, rfl⟩) rfl) rfl<|VO.l (LO.mv (.r rfl)) rfl<|VO.h0<|HO.mupG 2 (fun R => [_,_, R,_,_]) (ld x) l.length M192 (.r rfl) (.r rfl) (.r rfl) rfl (fun _ => rfl)<|VO.nil ?_)
    refine VE.seqN ?_
    refine VC.reg (VO.l (LO.ld O46 (.r rfl) (fun _ hw => cells_at hw 3 rfl ⟨_, rfl⟩)) rfl<|VO.l (LO.bd (ps := []) (vs := []) (C := [_,_,_]) B81  trivial rfl rfl) rfl<|VO.h rfl<|HO.bs (ps := [(_,_)]) (vs := [(_,_)]) (Z := [_,_,_]) (C := [_,_,_]) S46 Z81 N81 ⟨(.r rfl), trivial⟩ rfl rfl rfl rfl ⟨_, [_,_,_], [_,_,_], rfl, rfl, rfl, rfl, rfl⟩ fun b7 => VO.h rfl<|HO.appT (EvR.z) 5 0 (fun R => [_,_,_,_,_, R]) S46 S46 I81 (.r rfl) (.r rfl) rfl rfl rfl rfl rfl rfl rfl (fun _ => rfl) rfl (by omega) fun p3 c3 => VO.h0<|HO.st 4 (vs := [_]) (C' := [_]) (L' := [_,_,_,_,_,_]) N46 rfl rfl rfl rfl rfl rfl rfl rfl<|VO.nil ?_)
    refine VE.seqN ?_
    refine VC.seq ?_
    refine VC.reg (VO.l (LO.ld O46 (.r rfl) (fun _ hw => cells_at hw 4 rfl ⟨_, rfl⟩)) rfl<|VO.l (LO.mv (.r rfl)) rfl<|VO.l (LO.ixo S46 N81 (fun _ hw => (own_rows hw 5 rfl).some (by rw [List.length_map])) (.r rfl) (.r rfl) (j := findK A (ld x) l.length) (by rw [e3]) (by rw [e3]; omega)) rfl<|VO.l (LO.as (.r rfl)) rfl<|VO.nil ?_)
    refine VE.seqN ?_
    refine VC.ret (VE.res (vs := [_]) rfl ⟨rfl, trivial⟩ (fun w hw => ?_))
    have hs := selK [3,4,5] rfl rfl _ hw
    refine ⟨⟨p3, c3⟩, trivial, ?_, ?_⟩
    · rw [e3]; rfl
    · rw [← e1, ← e2]; exact hs
  ·
    obtain ⟨e1, e2, e3⟩ := find_f (l := l) (q := ld x) (A := A) (by simpa using h19)
    obtain ⟨pk, hpk⟩ := Option.ne_none_iff_exists'.1 (show ¬ A (ld x) = none by simpa using h19)
    have hkl := hA pk hpk
    rw [show pk = (A (ld x)).getD 0 by rw [hpk]; rfl] at hkl
    refine VC.skip (VE.seqN ?_)
    refine VC.seq ?_
    refine VC.reg (VO.l (LO.ld O46 (.r rfl) (fun _ hw => cells_at hw 3 rfl ⟨_, rfl⟩)) rfl<|VO.l (LO.mv (.r rfl)) rfl<|VO.l (LO.ixo S46 N81 (fun _ hw => (own_rows hw 4 rfl).some (by rw [List.length_map])) (.r rfl) (.r rfl) (j := findK A (ld x) l.length) (by rw [e3]) (by rw [e3]; omega)) rfl<|VO.l (LO.as (.r rfl)) rfl<|VO.nil ?_)
    refine VE.seqN ?_
    refine VC.ret (VE.res (vs := [_]) rfl ⟨rfl, trivial⟩ (fun w hw => ?_))
    have hs := selK [2,3,4] rfl rfl _ hw
    refine ⟨⟨po, co⟩, trivial, ?_, ?_⟩
    · rw [e3]; rfl
    · rw [← e1, ← e2]; exact hs

end Go.Proofs.Ytgemekpofpoopaa

namespace Go.Proofs.Ytgemekpofpoopaa
open Go.SL Go.Proofs Go.Cast Go.Cell
set_option linter.unusedVariables false

theorem C110 : IsFn Try.prog 110 := ⟨_, Try.func110, by decide, rfl⟩
theorem B188 : Builds Try.prog 188 [(0,1)] [.map none] := Builds.mk fun _ => by kernel_rfl
theorem Z188 : ZeroOf Try.prog 188 (.agg #[.map none]) := by unfold ZeroOf; kernel_rfl
theorem N188 : (Try.prog.info? 188).map (·.size) = some 1 := by kernel_rfl
theorem B191 : Builds Try.prog 191 [(0,1), (1,1)] [.bool false, .int .i64 0] := Builds.mk fun _ => by kernel_rfl
theorem Z192 : ZeroOf Try.prog 192 (.map none) := by unfold ZeroOf; kernel_rfl
theorem N192 : (Try.prog.info? 192).map (·.size) = some 1 := by kernel_rfl
theorem Z46 : ZeroOf Try.prog 46 (.slice none 0 0) := by unfold ZeroOf; kernel_rfl
theorem F81_1 : FieldAt Try.prog 81 1 1 := ⟨_,_, Try.underlying81, rfl, rfl, 0, by kernel_rfl⟩
theorem F81_2 : FieldAt Try.prog 81 2 2 := ⟨_,_, Try.underlying81, rfl, rfl, 0, by kernel_rfl⟩
theorem A81 : IsAgg Try.prog 81 3 := ⟨⟨_, Try.underlying81, rfl⟩, by kernel_rfl⟩
theorem C113 : IsFn Try.prog 113 := ⟨_, Try.func113, by decide, rfl⟩
theorem F81_0 : FieldAt Try.prog 81 0 0 := ⟨_,_, Try.underlying81, rfl, rfl, 0, by kernel_rfl⟩


theorem findL_m {A : Nd → Option Nat} {q : Nd} {l : List EvR} : (findL A q l).map EvR.m = if (A q).isSome = true then l.map EvR.m else l.map EvR.m ++ [⟨0, [], []⟩] := by unfold findL; split <;> simp [EvR.z, EvR.m]
theorem findL_get {A : Nd → Option Nat} {q : Nd} {l : List EvR} (h : ∀ p, A q = some p → p < l.length) : ∃ e, (findL A q l)[findK A q l.length]? = some e := by
  unfold findL findK
  cases hq : A q with
  | some p => simp only [Option.isSome_some, if_true, Option.getD_some]; exact ⟨_, List.getElem?_eq_getElem (h p hq)⟩
  | none => simp only [Option.isSome_none, Bool.false_eq_true, if_false, Option.getD_none]; exact ⟨EvR.z, by simp⟩
theorem set_mod {l : List EvR} {k n t : Nat} {e e' : EvR} (h : l[k]? = some e) (he : e'.m = addEv n t e.m) : (l.set k e').map EvR.m = (l.map EvR.m).modify k (addEv n t) := by
  refine List.ext_getElem? fun i => ?_
  rw [List.getElem?_map, List.getElem?_modify, List.getElem?_map, List.getElem?_set]
  by_cases q : k = i
  · subst q
    obtain ⟨hl,_⟩ := List.getElem?_eq_some_iff.1 h
    rw [if_pos rfl, if_pos hl, h]
    simp [he]
  · rw [if_neg q]; cases l[i]? <;> simp [q]
theorem ev_step {κ : Nat → Nd} {n t : Nat} {A : Nd → Option Nat} {l : List EvR} {e e' : EvR} (h : KI κ n t A (l.map EvR.m)) (hg : (findL A (κ t) l)[findK A (κ t) l.length]? = some e) (he : e'.m = addEv n t e.m) :
    KI κ n (t + 1) (findA A (κ t) l.length) (((findL A (κ t) l).set (findK A (κ t) l.length) e').map EvR.m) := by
  rw [set_mod hg he, findL_m]
  have := h.step
  rw [List.length_map] at this
  exact this
theorem firsts_len {κ : Nat → Nd} {t : Nat} : (firsts κ t).length ≤ t := by unfold firsts; refine Nat.le_trans (List.length_filter_le _ _) ?_; simp
theorem ki_len {κ : Nat → Nd} {n t : Nat} {A : Nd → Option Nat} {l : List EvR} (h : KI κ n t A (l.map EvR.m)) : l.length ≤ t := by
  have := congrArg List.length h.l
  rw [List.length_map] at this
  rw [this]; unfold evT; rw [List.length_map]; exact firsts_len
theorem ki_at {κ : Nat → Nd} {n t : Nat} {A : Nd → Option Nat} {l : List EvR} (h : KI κ n t A (l.map EvR.m)) {q : Nd} {p : Nat} (hp : A q = some p) : p < l.length := by have := h.lt hp; rwa [List.length_map] at this
theorem evt_len {κ : Nat → Nd} {n t k : Nat} : (evF κ n t k).f.length ≤ t ∧ (evF κ n t k).t.length ≤ t := by
  unfold evF; constructor
  · refine Nat.le_trans (List.length_filter_le _ _) ?_; simp; omega
  · refine Nat.le_trans (List.length_filter_le _ _) ?_; simp
theorem ki_mem {κ : Nat → Nd} {n t : Nat} {A : Nd → Option Nat} {l : List EvR} (h : KI κ n t A (l.map EvR.m)) {q : Nd} {k : Nat} {e : EvR} (he : (findL A q l)[k]? = some e) : e.f.length ≤ t ∧ e.t.length ≤ t := by
  have key : ∀ e, e ∈ l → e.f.length ≤ t ∧ e.t.length ≤ t := fun e he => by
    have h1 : e.m ∈ evT κ n t := by rw [← h.l]; exact List.mem_map_of_mem he
    obtain ⟨k,_, hk⟩ := List.mem_map.1 h1
    have h2 := evt_len (κ := κ) (n := n) (t := t) (k := k)
    rw [hk] at h2; exact h2
  have h1 := List.mem_of_getElem? he
  unfold findL at h1
  split at h1
  · exact key e h1
  · rcases List.mem_append.1 h1 with g | g
    · exact key e g
    · have := List.mem_singleton.1 g; subst this; simp [EvR.z]
theorem bag_z {β : Bs} {L : List Res} {w : World} {f : EvR → Res} (hf : f EvR.z = own 3 1 none 0 []) (A : Nd → Option Nat) (q : Nd) (l : List EvR) (h : St β (bagD (l.map f) :: L) w) : St β (bagD ((findL A q l).map f) :: L) w := by
  unfold findL
  split
  · exact h
  · refine St.bagD ?_
    rw [List.map_append, List.map_singleton, hf]
    refine ((St.unbagD h).ownNil 3 1).perm ?_
    rw [List.append_assoc]
    exact (List.perm_middle (l₁ := l.map f) (l₂ := L) (a := own 3 1 none 0 [])).symm
def setK (e : EvR) : EvR := { e with kd := kindM e.f.length e.t.length }
def setTo (l : List EvR) (k : Nat) : List EvR := (l.take k).map setK ++ l.drop k
theorem setTo_all {l : List EvR} : setTo l l.length = l.map setK := by unfold setTo; simp
theorem setTo_len {l : List EvR} {k : Nat} : (setTo l k).length = l.length := by unfold setTo; simp; omega
theorem setTo_set {l : List EvR} {k : Nat} {e : EvR} (h : l[k]? = some e) : (setTo l k).set k (setK e) = setTo l (k + 1) := by
  obtain ⟨hk, rfl⟩ := List.getElem?_eq_some_iff.1 h
  unfold setTo
  rw [List.set_append, if_neg (by simp; omega), List.take_succ_eq_append_getElem hk, List.map_append, List.append_assoc]
  congr 1
  rw [List.drop_eq_getElem_cons hk, show k - (List.map setK (List.take k l)).length = 0 by simp; omega]
  rfl
theorem setTo_get {l : List EvR} {k : Nat} {e : EvR} (h : l[k]? = some e) : (setTo l k)[k]? = some e := by
  obtain ⟨hk, rfl⟩ := List.getElem?_eq_some_iff.1 h
  unfold setTo
  rw [List.getElem?_append_right (by simp; omega)]
  simp [Nat.min_eq_left (Nat.le_of_lt hk)]
theorem setTo_f {l : List EvR} {k : Nat} {f : EvR → Res} (hf : ∀ e, f (setK e) = f e) : (setTo l k).map f = l.map f := by
  unfold setTo
  rw [List.map_append, List.map_map]
  have : (f ∘ setK) = f := funext hf
  rw [this, ← List.map_append, List.take_append_drop]
theorem evs_done {κ : Nat → Nd} {n m : Nat} {A : Nd → Option Nat} {l : List EvR} (h : KI κ n (n + m) A (l.map EvR.m)) : (l.map setK).map EvR.m = evsM κ n m := by
  unfold evsM
  rw [← h.l, List.map_map, List.map_map]
  rfl
theorem ev_pos {κ : Nat → Nd} {n m : Nat} {A : Nd → Option Nat} {l : List EvR} (h : KI κ n (n + m) A (l.map EvR.m)) {e : EvR} (he : e ∈ l) : 0 < e.f.length + e.t.length := by
  have h1 : e.m ∈ evT κ n (n + m) := by rw [← h.l]; exact List.mem_map_of_mem he
  obtain ⟨k, hk, hk2⟩ := List.mem_map.1 h1
  have hk := (mem_firsts.1 hk).1
  have e1 : e.f = (evF κ n (n + m) k).f := congrArg EvM.f hk2.symm
  have e2 : e.t = (evF κ n (n + m) k).t := congrArg EvM.t hk2.symm
  by_cases q : k < n
  · have : k ∈ e.f := by rw [e1]; unfold evF; exact List.mem_filter.2 ⟨List.mem_range.2 (by omega), by simp⟩
    have := List.length_pos_of_mem this; omega
  · have : k - n ∈ e.t := by rw [e2]; unfold evF; exact List.mem_filter.2 ⟨List.mem_range.2 (by omega), by simp [show n + (k - n) = k by omega]⟩
    have := List.length_pos_of_mem this; omega

theorem bag_zz {β : Bs} {L : List Res} {w : World} {f1 f2 : EvR → Res} (h1 : f1 EvR.z = own 3 1 none 0 []) (h2 : f2 EvR.z = own 3 1 none 0 []) (A : Nd → Option Nat) (q : Nd) (l : List EvR) (h : St β (bagD (l.map f1) :: bagD (l.map f2) :: L) w) : St β (bagD ((findL A q l).map f1) :: bagD ((findL A q l).map f2) :: L) w :=
  (bag_z h2 A q l ((bag_z h1 A q l h).perm (List.Perm.swap _ _ _))).perm (List.Perm.swap _ _ _)
theorem ev_setF {l : List EvR} {ix c : Nat} {p : Option Addr} {e : EvR} {t : Nat} : (l.map EvR.cells).set ix ((EvR.cells e).take 1 ++ [.slice p (e.f ++ [t]).length c] ++ (EvR.cells e).drop (1 + [Value.slice p (e.f ++ [t]).length c].length)) = (l.set ix { e with fp := p, fc := c, f := e.f ++ [t] }).map EvR.cells := by
  rw [List.map_set]
  rfl
theorem ev_setT {l : List EvR} {ix c : Nat} {p : Option Addr} {e : EvR} {t : Nat} : (l.map EvR.cells).set ix ((EvR.cells e).take 2 ++ [.slice p (e.t ++ [t]).length c] ++ (EvR.cells e).drop (2 + [Value.slice p (e.t ++ [t]).length c].length)) = (l.set ix { e with tp := p, tc := c, t := e.t ++ [t] }).map EvR.cells := by
  rw [List.map_set]
  rfl
theorem ev_setK {l : List EvR} {ix : Nat} {e : EvR} : (l.map EvR.cells).set ix ((EvR.cells e).take 0 ++ [.int .i64 (kindM e.f.length e.t.length)] ++ (EvR.cells e).drop (0 + [Value.int .i64 (kindM e.f.length e.t.length)].length)) = (l.set ix (setK e)).map EvR.cells := by
  rw [List.map_set]
  rfl
theorem set_bagT {l : List EvR} {ix c : Nat} {p : Option Addr} {e : EvR} {f : List Nat} (h : l[ix]? = some e) : (l.set ix { e with fp := p, fc := c, f := f }).map EvR.tR = l.map EvR.tR := by
  refine List.ext_getElem? fun i => ?_
  rw [List.getElem?_map, List.getElem?_set, List.getElem?_map]
  by_cases q : ix = i
  · subst q; rw [if_pos rfl, if_pos (List.getElem?_eq_some_iff.1 h).1, h]; rfl
  · rw [if_neg q]
theorem set_bagF {l : List EvR} {ix c : Nat} {p : Option Addr} {e : EvR} {t : List Nat} (h : l[ix]? = some e) : (l.set ix { e with tp := p, tc := c, t := t }).map EvR.fR = l.map EvR.fR := by
  refine List.ext_getElem? fun i => ?_
  rw [List.getElem?_map, List.getElem?_set, List.getElem?_map]
  by_cases q : ix = i
  · subst q; rw [if_pos rfl, if_pos (List.getElem?_eq_some_iff.1 h).1, h]; rfl
  · rw [if_neg q]
theorem join_x (M : Nd → Option Nd) (ld : Nd → Nd) (x y : Nd) (b : Nat) (w : World) (hh : Has w [mapR nV nV b M]) (hF : Frs M ld) :
  Calls Try.prog (110) #[.agg #[.map (some b)], nV x, nV y] w fun e w' => ∃ u : Unit, True ∧ e = .returned (.tuple #[]) ∧ St ⟨w, fpL [mapR nV nV b M]⟩ [mapR nV nV b (joinM M ld x y)] w' := (join_c M ld x y b w hh hF).mono fun e w' h => ⟨(), trivial, h⟩
theorem vu {g : Grid} (hg : gridOk g) {v u : Nat} (hv : v < gH g) (hu : u < gW g) : ∃ q : Nat, (v : Int) * g.wide + (u : Int) = q ∧ q < gW g * gH g ∧ v * gW g + u = q := by
  obtain ⟨e1, e2,_⟩ := gWi hg
  refine ⟨v * gW g + u, by rw [← e1]; push_cast; rfl, ?_, rfl⟩
  have := pix_lt hu hv
  rw [Nat.mul_comm] at this; exact this
structure EvY where
  l : List EvR
  p : Option Addr
  c : Nat
def EvY.R (y : EvY) : List Res := [own 81 3 y.p y.c (y.l.map EvR.cells), bagD (y.l.map EvR.fR), bagD (y.l.map EvR.tR)]

set_option maxRecDepth 20000 in
set_option maxHeartbeats 16000000 in
theorem events_c (g : Grid) (ya yb : ArY) (ofa ofb : List Int) (r : Nat) (w : World) (hg : gridOk g) (ha : SpI w ya ofa) (hb : SpI w yb ofb) (hla : ofa.length = gW g * gH g) (hlb : ofb.length = gW g * gH g) (hna : ya.l.length ≤ gW g * gH g) (hnb : yb.l.length ≤ gW g * gH g) (hr : r ≤ 8) :
  Calls Try.prog 77 #[spV g ya, spV g yb, .int .i64 (r : Int)] w fun e w' => ∃ y : EvY, EvP (gW g) (gH g) r ofa ofb ya.l.length yb.l.length (y.l.map EvR.m) ∧ e = .returned (.slice y.p y.l.length y.c) ∧ St (bs w) y.R w' := by
  have har := area_le hg
  obtain ⟨hW, hH, hW1, hW2, hH1, hH2⟩ := gWi hg
  have hsa : SlSome ya.po (gW g * gH g) := by have z := ha.of.sm; rw [hla] at z; exact z
  have hsb : SlSome yb.po (gW g * gH g) := by have z := hb.of.sm; rw [hlb] at z; exact z
  obtain ⟨n_, hn_⟩ : ∃ n, n = ya.l.length := ⟨_, rfl⟩
  obtain ⟨m_, hm_⟩ : ∃ n, n = yb.l.length := ⟨_, rfl⟩
  refine enter (vs := [_,_,_]) (env := [(0,_), (1,_), (2,_)]) Try.func77 rfl rfl rfl rfl ?_
  refine VC.seq ?_
  refine VC.reg (VO.h rfl<|HO.box (C := #[_,_,_,_,_,_,_]) rfl rfl fun b1 => VO.h rfl<|HO.box (C := #[_,_,_,_,_,_,_]) rfl rfl fun b2 => VO.l (LO.as (.r rfl)) rfl<|VO.nil ?_)
  refine VE.seqN ?_
  refine VC.seq ?_
  refine VC.reg (VO.h rfl<|HO.mkmapG nV nV fun b3 => VO.h rfl<|HO.lo (LO.bd (ps := [(_,_)]) (vs := [(_,_)]) (C := [_]) B188  ⟨(.r rfl), trivial⟩ rfl ⟨_, [_], [_], rfl, rfl, rfl, rfl, rfl⟩)<|VO.h rfl<|HO.alloc (C := #[_]) Z188 rfl fun b4 => VO.h0<|HO.st 0 (vs := [_]) (C' := [_]) (L' := [_,_,_,_]) N188 rfl rfl rfl rfl rfl rfl rfl rfl<|VO.nil ?_)
  refine VE.seqN ?_
  refine VC.seq ?_
  refine VC.seq ?_
  refine VC.reg (VO.l (LO.fa (r := 6) F154_2 (.r rfl) rfl) rfl<|VO.l (LO.ld O40 (.r rfl) (fun _ hw => cells_at hw 3 rfl ⟨_, rfl⟩)) rfl<|VO.l (LO.len S40 (.r rfl) rfl) rfl<|VO.l (LO.mv (.r rfl)) rfl<|VO.nil ?_)
  refine VE.seqN ?_
  refine VC.block ?_
  refine VC.perm [1,0,2,3] rfl ?_
  refine VC.loopK (α := Nat × (Nd → Option Nd)) 1 (fun gx => [(29, .int .i64 (gx.1 : Nat))]) [(2,_), (3,_), (4,_), (7,_), (27,_), (28,_)] (fun gx => [mapR nV nV b3 gx.2]) (fun gx => gx.1 ≤ gW g * gH g ∧ GInv (Jw (gW g) (gH g) r ofa ofb gx.1 0 0) gx.2) (fun gx => gW g * gH g - gx.1) (0, (fun _ => none)) (by exact ⟨Nat.zero_le _, GInv.zero⟩) (.cons rfl (.cons rfl (.cons rfl (.cons rfl (.cons rfl (.cons rfl (.cons rfl .nil))))))) (fun _ h => h) ?_
  rintro ⟨p, M⟩ ⟨hp, hG⟩
  show VC _ _ _ _ _ ([(29, .int .i64 (p : Nat))] ++ _) ([mapR nV nV b3 M] ++ _) _ _
  dsimp only at hp hG
  refine VC.seq ?_
  refine VC.reg (VO.l (LO.lt (.r rfl) (.r rfl)) rfl<|VO.nil ?_)
  refine VE.seqN ?_
  refine VC.seq ?_
  refine VC.cond rfl (fun h30 => ?_) (fun h30 => ?_)
  ·
    refine VC.skip (VE.seqN ?_)
    refine VC.seq ?_
    refine VC.block ?_
    refine VC.seq ?_
    refine VC.reg (VO.l (LO.mv (.r rfl)) rfl<|VO.l (LO.ixs S40 N3 hsa (.r rfl) (.r rfl) rfl (by omega)) rfl<|VO.l (LO.ld O3 (.r rfl) (fun w hw => cells_part (off := 0) ((fun w3 h3 => RO.cel (ha.of.keep w3 h3) (getD_m1 (n := p) (by omega))) w hw) ⟨_, rfl⟩)) rfl<|VO.l (LO.as (.r rfl)) rfl<|VO.l (LO.as (.r rfl)) rfl<|VO.nil ?_)
    refine VE.seqN ?_
    refine VC.seq ?_
    refine VC.seq ?_
    refine VC.reg (VO.l (LO.mv (.r rfl)) rfl<|VO.l (LO.lt (.r rfl) (.r rfl)) rfl<|VO.nil ?_)
    refine VE.seqN ?_
    refine VC.cond rfl (fun h35 => ?_) (fun h35 => ?_)
    ·
      refine VC.exit (VE.thenX (VE.inX (VE.seqN ?_)))
      refine VC.reg (VO.l (LO.add (.r rfl) (.r rfl) (wi (by omega) (by omega))) rfl<|VO.l (LO.mv (.r rfl)) rfl<|VO.nil ?_)
      refine VE.thenN fun a w ha hw => ⟨(p + 1, M), ⟨by dsimp only; omega, hG.skip h35⟩, (by dsimp only; omega), ha.sub (.cons rfl (.cons rfl (.cons rfl (.cons rfl (.cons rfl (.cons rfl (.cons rfl .nil))))))), hw⟩
    ·
      have hpd := divb hg (p := p) (by omega)
      have hpr : p % gW g < gW g := Nat.mod_lt _ (by omega)
      have hpy : p / gW g < gH g := row_lt (by omega)
      refine VC.skip (VE.seqN ?_)
      refine VC.seq ?_
      refine VC.draw mixed (LL.l (LO.mv (.r rfl)) rfl<|LL.l (LO.fa (r := 0) F154_0 (.r rfl) rfl) rfl<|LL.l (LO.fa (r := 3) F23_3 (.r rfl) rfl) rfl<|LL.l (LO.ld O3 (.r rfl) (fun _ hw => cells_at hw 3 rfl ⟨_, rfl⟩)) rfl<|LL.l (LO.eqv (LO.rem (.r rfl) (.r rfl) (by omega)) (congrArg (Value.int .i64) (mod_n hg p))) rfl<|LL.l (LO.mv (.r rfl)) rfl<|LL.l (LO.fa (r := 0) F154_0 (.r rfl) rfl) rfl<|LL.l (LO.fa (r := 3) F23_3 (.r rfl) rfl) rfl<|LL.l (LO.ld O3 (.r rfl) (fun _ hw => cells_at hw 3 rfl ⟨_, rfl⟩)) rfl<|LL.l (LO.eqv (LO.quo (.r rfl) (.r rfl) (by omega) (wi (by rw [div_n hg]; have := divb hg (p := p) (by omega); omega) (by rw [div_n hg]; have := divb hg (p := p) (by omega); omega))) (congrArg (Value.int .i64) (div_n hg p))) rfl<|LL.l (LO.as (.r rfl)) rfl<|LL.l (LO.as (.r rfl)) rfl<|LL.nil) (by kernel_rfl) ?_
      refine VE.seqN ?_
      refine VC.seq ?_
      refine VC.reg (VO.l (LO.mv (.r rfl)) rfl<|VO.l (LO.mv (.r rfl)) rfl<|VO.l (LO.sub (.r rfl) (.r rfl) (wi (by omega) (by omega))) rfl<|VO.l (LO.max (.r rfl) (.r rfl)) rfl<|VO.l (LO.as (.r rfl)) rfl<|VO.nil ?_)
      refine VE.seqN ?_
      refine VC.block ?_
      refine VC.loopK (α := Nat × (Nd → Option Nd)) 1 (fun gx => [(12, .int .i64 (gx.1 : Nat))]) [(2,_), (3,_), (4,_), (7,_), (9,_), (10,_), (11,_), (27,_), (28,_), (29,_)] (fun gx => [mapR nV nV b3 gx.2]) (fun gx => p / gW g - r ≤ gx.1 ∧ GInv (Jw (gW g) (gH g) r ofa ofb p gx.1 0) gx.2) (fun gx => gH g - gx.1) ((p / gW g - r), M) (by exact ⟨Nat.le_refl _, hG.row⟩) (.cons (congrArg (fun z : Int => some (Value.int .i64 z)) (show max (0 : Int) (((p / gW g : Nat) : Int) - (r : Int)) = ((p / gW g - r : Nat) : Int) by omega)) (.cons rfl (.cons rfl (.cons rfl (.cons rfl (.cons rfl (.cons rfl (.cons rfl (.cons rfl (.cons rfl (.cons rfl .nil))))))))))) (fun _ h => h) ?_
      rintro ⟨v, M2⟩ ⟨hv, hG2⟩
      show VC _ _ _ _ _ ([(12, .int .i64 (v : Nat))] ++ _) ([mapR nV nV b3 M2] ++ _) _ _
      dsimp only at hv hG2
      refine VC.seq ?_
      refine VC.seq ?_
      refine VC.reg (VO.l (LO.mv (.r rfl)) rfl<|VO.l (LO.fa (r := 0) F154_0 (.r rfl) rfl) rfl<|VO.l (LO.fa (r := 4) F23_4 (.r rfl) rfl) rfl<|VO.l (LO.ld O3 (.r rfl) (fun _ hw => cells_at hw 3 rfl ⟨_, rfl⟩)) rfl<|VO.l (LO.sub (.r rfl) (.r rfl) (wi (by omega) (by omega))) rfl<|VO.l (LO.mv (.r rfl)) rfl<|VO.l (LO.mv (.r rfl)) rfl<|VO.l (LO.add (.r rfl) (.r rfl) (wi (by omega) (by omega))) rfl<|VO.l (LO.min (.r rfl) (.r rfl)) rfl<|VO.l (LO.le (.r rfl) (.r rfl)) rfl<|VO.nil ?_)
      refine VE.seqN ?_
      refine VC.cond rfl (fun h59 => ?_) (fun h59 => ?_)
      ·
        refine VC.skip (VE.seqN ?_)
        refine VC.seq ?_
        refine VC.block ?_
        refine VC.seq ?_
        refine VC.reg (VO.l (LO.mv (.r rfl)) rfl<|VO.l (LO.mv (.r rfl)) rfl<|VO.l (LO.sub (.r rfl) (.r rfl) (wi (by omega) (by omega))) rfl<|VO.l (LO.max (.r rfl) (.r rfl)) rfl<|VO.l (LO.as (.r rfl)) rfl<|VO.nil ?_)
        refine VE.seqN ?_
        refine VC.block ?_
        refine VC.loopK (α := Nat × (Nd → Option Nd)) 1 (fun gx => [(13, .int .i64 (gx.1 : Nat))]) [(2,_), (3,_), (4,_), (7,_), (9,_), (10,_), (11,_), (12,_), (27,_), (28,_), (29,_)] (fun gx => [mapR nV nV b3 gx.2]) (fun gx => p % gW g - r ≤ gx.1 ∧ GInv (Jw (gW g) (gH g) r ofa ofb p v gx.1) gx.2) (fun gx => gW g - gx.1) ((p % gW g - r), M2) (by exact ⟨Nat.le_refl _, hG2.col⟩) (.cons (congrArg (fun z : Int => some (Value.int .i64 z)) (show max (0 : Int) (((p % gW g : Nat) : Int) - (r : Int)) = ((p % gW g - r : Nat) : Int) by omega)) (.cons rfl (.cons rfl (.cons rfl (.cons rfl (.cons rfl (.cons rfl (.cons rfl (.cons rfl (.cons rfl (.cons rfl (.cons rfl .nil)))))))))))) (fun _ h => h) ?_
        rintro ⟨u, M3⟩ ⟨hu, hG3⟩
        show VC _ _ _ _ _ ([(13, .int .i64 (u : Nat))] ++ _) ([mapR nV nV b3 M3] ++ _) _ _
        dsimp only at hu hG3
        refine VC.seq ?_
        refine VC.seq ?_
        refine VC.reg (VO.l (LO.mv (.r rfl)) rfl<|VO.l (LO.fa (r := 0) F154_0 (.r rfl) rfl) rfl<|VO.l (LO.fa (r := 3) F23_3 (.r rfl) rfl) rfl<|VO.l (LO.ld O3 (.r rfl) (fun _ hw => cells_at hw 3 rfl ⟨_, rfl⟩)) rfl<|VO.l (LO.sub (.r rfl) (.r rfl) (wi (by omega) (by omega))) rfl<|VO.l (LO.mv (.r rfl)) rfl<|VO.l (LO.mv (.r rfl)) rfl<|VO.l (LO.add (.r rfl) (.r rfl) (wi (by omega) (by omega))) rfl<|VO.l (LO.min (.r rfl) (.r rfl)) rfl<|VO.l (LO.le (.r rfl) (.r rfl)) rfl<|VO.nil ?_)
        refine VE.seqN ?_
        refine VC.cond rfl (fun h75 => ?_) (fun h75 => ?_)
        ·
          obtain ⟨q, hq1, hq2, hq3⟩ := vu hg (v := v) (u := u) (by omega) (by omega)
          subst hq3
          refine VC.skip (VE.seqN ?_)
          refine VC.seq ?_
          refine VC.block ?_
          refine VC.seq ?_
          refine VC.reg (VO.l (LO.fa (r := 6) F154_2 (.r rfl) rfl) rfl<|VO.l (LO.ld O40 (.r rfl) (fun _ hw => cells_at hw 2 rfl ⟨_, rfl⟩)) rfl<|VO.l (LO.mv (.r rfl)) rfl<|VO.l (LO.fa (r := 0) F154_0 (.r rfl) rfl) rfl<|VO.l (LO.fa (r := 3) F23_3 (.r rfl) rfl) rfl<|VO.l (LO.ld O3 (.r rfl) (fun _ hw => cells_at hw 3 rfl ⟨_, rfl⟩)) rfl<|VO.l (LO.mul (.r rfl) (.r rfl) (wi (by omega) (by omega))) rfl<|VO.l (LO.mv (.r rfl)) rfl<|VO.l (LO.eqv (LO.add (.r rfl) (.r rfl) (wi (by omega) (by omega))) (congrArg (Value.int .i64) hq1)) rfl<|VO.l (LO.ixs S40 N3 hsb (.r rfl) (.r rfl) rfl hq2) rfl<|VO.l (LO.ld O3 (.r rfl) (fun w hw => cells_part (off := 0) ((fun w3 h3 => RO.cel (hb.of.keep w3 h3) (getD_m1 (n := v * gW g + u) (by omega))) w hw) ⟨_, rfl⟩)) rfl<|VO.l (LO.as (.r rfl)) rfl<|VO.nil ?_)
          refine VE.seqN ?_
          refine VC.seq ?_
          refine VC.reg (VO.l (LO.mv (.r rfl)) rfl<|VO.l (LO.ge (.r rfl) (.r rfl)) rfl<|VO.nil ?_)
          refine VE.seqN ?_
          refine VC.cond rfl (fun h90 => ?_) (fun h90 => ?_)
          ·
            obtain ⟨ld, hF, hld⟩ := hG3.ex
            refine VC.reg (VO.l (LO.lda (vs := [_]) A188 (.r rfl) (fun _ hw => cells_at hw 1 rfl ⟨_, rfl⟩) rfl) rfl<|VO.l (LO.mv (.r rfl)) rfl<|VO.l (LO.bd (ps := [(_,_), (_,_)]) (vs := [(_,_), (_,_)]) (C := [_,_]) B191  ⟨(.r rfl), (.r rfl), trivial⟩ rfl ⟨_, [_], [_,_], rfl, rfl, rfl, rfl, ⟨_, [_], [_,_], rfl, rfl, rfl, rfl, rfl⟩⟩) rfl<|VO.l (LO.mv (.r rfl)) rfl<|VO.l (LO.bd (ps := [(_,_), (_,_)]) (vs := [(_,_), (_,_)]) (C := [_,_]) B191  ⟨(.r rfl), (.r rfl), trivial⟩ rfl ⟨_, [_], [_,_], rfl, rfl, rfl, rfl, ⟨_, [_], [_,_], rfl, rfl, rfl, rfl, rfl⟩⟩) rfl<|VO.h rfl<|HO.callP (first := []) (cap := []) (xs := [_,_,_]) (vs := [_,_,_]) [_] [_,_,_] (selK (L1 := [_] ++ [_,_,_]) [0,1,2,3] rfl rfl) (.r rfl) C110 ⟨(.r rfl), (.r rfl), (.r rfl), trivial⟩ (fun w hw hh => join_x M3 ld (false, ofa.getD p (-1)) (true, ofb.getD (v * gW g + u) (-1)) _ w hh hF) fun _u _ => VO.nil ?_)
            refine VE.inN (VE.seqN ?_)
            refine VC.reg (VO.l (LO.mv (.r rfl)) rfl<|VO.l (LO.add (.r rfl) (.r rfl) (wi (by omega) (by omega))) rfl<|VO.l (LO.as (.r rfl)) rfl<|VO.nil ?_)
            refine VE.thenN fun a w ha hw => ⟨(u + 1, joinM M3 ld (false, ofa.getD p (-1)) (true, ofb.getD (v * gW g + u) (-1))), ⟨by dsimp only; omega, GInv.join hF hld (by omega) (by omega) (by omega) (by omega) (by omega)⟩, (by dsimp only; omega), ha.sub (.cons rfl (.cons rfl (.cons rfl (.cons rfl (.cons rfl (.cons rfl (.cons rfl (.cons rfl (.cons rfl (.cons rfl (.cons rfl (.cons rfl .nil)))))))))))), hw⟩
          ·
            refine VC.skip (VE.inN (VE.seqN ?_))
            refine VC.reg (VO.l (LO.mv (.r rfl)) rfl<|VO.l (LO.add (.r rfl) (.r rfl) (wi (by omega) (by omega))) rfl<|VO.l (LO.as (.r rfl)) rfl<|VO.nil ?_)
            refine VE.thenN fun a w ha hw => ⟨(u + 1, M3), ⟨by dsimp only; omega, hG3.none_ (by omega)⟩, (by dsimp only; omega), ha.sub (.cons rfl (.cons rfl (.cons rfl (.cons rfl (.cons rfl (.cons rfl (.cons rfl (.cons rfl (.cons rfl (.cons rfl (.cons rfl (.cons rfl .nil)))))))))))), hw⟩
        ·
          refine VC.exit (VE.thenX (VE.thenX (VE.inX (VE.inN (VE.seqN ?_)))))
          refine VC.reg (VO.l (LO.mv (.r rfl)) rfl<|VO.l (LO.add (.r rfl) (.r rfl) (wi (by omega) (by omega))) rfl<|VO.l (LO.as (.r rfl)) rfl<|VO.nil ?_)
          refine VE.thenN fun a w ha hw => ⟨(v + 1, M3), ⟨by dsimp only; omega, hG3.colEnd (by omega)⟩, (by dsimp only; omega), ha.sub (.cons rfl (.cons rfl (.cons rfl (.cons rfl (.cons rfl (.cons rfl (.cons rfl (.cons rfl (.cons rfl (.cons rfl (.cons rfl .nil))))))))))), hw⟩
      ·
        refine VC.exit (VE.thenX (VE.thenX (VE.inX (VE.inN (VE.seqN ?_)))))
        refine VC.reg (VO.l (LO.add (.r rfl) (.r rfl) (wi (by omega) (by omega))) rfl<|VO.l (LO.mv (.r rfl)) rfl<|VO.nil ?_)
        refine VE.thenN fun a w ha hw => ⟨(p + 1, M2), ⟨by dsimp only; omega, hG2.rowEnd (by omega)⟩, (by dsimp only; omega), ha.sub (.cons rfl (.cons rfl (.cons rfl (.cons rfl (.cons rfl (.cons rfl (.cons rfl .nil))))))), hw⟩
  ·
    have hpe : p = gW g * gH g := by omega
    subst hpe
    refine VC.exit (VE.thenX (VE.thenX (VE.inX (VE.seqN ?_))))
    refine VC.seq ?_
    obtain ⟨ld, hF, hld⟩ := hG.all.ex
    refine VC.rebase fun w1 hst1 => ?_
    have hxa : Cells w1 ⟨b1,0, none⟩ [.int .i64 g.x, .int .i64 g.y, .int .i64 g.size, .int .i64 g.wide, .int .i64 g.high, .slice ya.p ya.l.length ya.c, .slice ya.po (gW g * gH g) ya.co] := cells_inv (hst1.inv 3 _ rfl)
    have hxb : Cells w1 ⟨b2,0, none⟩ [.int .i64 g.x, .int .i64 g.y, .int .i64 g.size, .int .i64 g.wide, .int .i64 g.high, .slice yb.p yb.l.length yb.c, .slice yb.po (gW g * gH g) yb.co] := cells_inv (hst1.inv 2 _ rfl)
    have hgb : Cells w1 ⟨b4,0, none⟩ [.map (some b3)] := cells_inv (hst1.inv 1 _ rfl)
    have hGM : (mapR nV nV b3 M).inv w1 := hst1.inv 0 _ rfl
    refine VC.reg (VO.h rfl<|HO.mkmapG nV niV fun b7 => VO.h rfl<|HO.alloc (C := #[_]) Z192 rfl fun b8 => VO.h0<|HO.st 0 (vs := [_]) (C' := [_]) (L' := [_,_]) N192 rfl rfl rfl rfl rfl rfl rfl rfl<|VO.nil ?_)
    refine VE.seqN ?_
    refine VC.seq ?_
    refine VC.reg (VO.h rfl<|HO.alloc (C := #[_]) Z46 rfl fun b10 => VO.nil ?_)
    refine VE.seqN ?_
    refine VC.seq ?_
    refine VC.reg (VO.h rfl<|HO.lo (LO.mf (cap := [_,_,_]) ⟨(.r rfl), (.r rfl), (.r rfl), trivial⟩)<|VO.h rfl<|HO.lo (LO.as (.r rfl))<|VO.nil ?_)
    refine VE.seqN ?_
    refine VC.seq ?_
    refine VC.seq ?_
    refine VC.reg (VO.l (LO.fa (r := 5) F154_1 (.r rfl) rfl) rfl<|VO.l (LO.ld O29 (.r rfl) (cells_keep (sub_cells (off := 5) hxa ⟨_, rfl⟩))) rfl<|VO.l (LO.len S29 (.r rfl) rfl) rfl<|VO.l (LO.mv (.r rfl)) rfl<|VO.nil ?_)
    refine VE.seqN ?_
    refine VC.block ?_
    refine VC.perm [2,0,1] rfl ?_
    refine VC.loopK (α := Nat × (Nd → Option Nat) × (List EvR) × (Option Addr) × Nat) 2 (fun gx => [(103, .int .i64 (gx.1 : Nat))]) [(4,_), (16,_), (17,_), (102,_)] (fun gx => [mapR nV niV b7 gx.2.1, blk b10 (.cells #[.slice gx.2.2.2.1 gx.2.2.1.length gx.2.2.2.2] 46), own 81 3 gx.2.2.2.1 gx.2.2.2.2 (gx.2.2.1.map EvR.cells), bagD (gx.2.2.1.map EvR.fR), bagD (gx.2.2.1.map EvR.tR)]) (fun gx => gx.1 ≤ n_ ∧ KI (fun t => ld (ndx n_ t)) n_ gx.1 gx.2.1 (gx.2.2.1.map EvR.m)) (fun gx => n_ - gx.1) (0, (fun _ => none), [], none, 0) (by exact ⟨Nat.zero_le _, KI.zero⟩) (.cons rfl (.cons rfl (.cons rfl (.cons rfl (.cons rfl .nil))))) (fun _ h => (((St.bagD (Rs := []) (St.bagD (Rs := []) h)).ownNil 81 3)).sel [3,4,0,1,2,5] rfl) ?_
    rintro ⟨i, A, l, po, co⟩ ⟨hi, hK⟩
    show VC _ _ _ _ _ ([(103, .int .i64 (i : Nat))] ++ _) ([mapR nV niV b7 A, blk b10 (.cells #[.slice po l.length co] 46), own 81 3 po co (l.map EvR.cells), bagD (l.map EvR.fR), bagD (l.map EvR.tR)] ++ _) _ _
    dsimp only at hi hK
    refine VC.seq ?_
    refine VC.reg (VO.l (LO.lt (.r rfl) (.r rfl)) rfl<|VO.nil ?_)
    refine VE.seqN ?_
    refine VC.seq ?_
    refine VC.cond rfl (fun h104 => ?_) (fun h104 => ?_)
    ·
      have hin : i < n_ := by omega
      have hki := ki_len hK
      refine VC.skip (VE.seqN ?_)
      refine VC.seq ?_
      refine VC.block ?_
      refine VC.seq ?_
      refine VC.reg (VO.l (LO.mv (.r rfl)) rfl<|VO.l (LO.as (.r rfl)) rfl<|VO.nil ?_)
      refine VE.seqN ?_
      refine VC.seq ?_
      refine VC.reg (VO.l (LO.mv (.r rfl)) rfl<|VO.l (LO.mv (.r rfl)) rfl<|VO.l (LO.bd (ps := [(_,_), (_,_)]) (vs := [(_,_), (_,_)]) (C := [_,_]) B191  ⟨(.r rfl), (.r rfl), trivial⟩ rfl ⟨_, [_], [_,_], rfl, rfl, rfl, rfl, ⟨_, [_], [_,_], rfl, rfl, rfl, rfl, rfl⟩⟩) rfl<|VO.h rfl<|HO.callP (first := []) (cap := [_,_,_]) (xs := [_]) (vs := [_]) [_,_,_] [_,_,_] (selK (L1 := [_,_,_] ++ [_,_,_]) [0,1,2,3,4,5] rfl rfl) (.r rfl) C111 ⟨(.r rfl), trivial⟩ (fun w hw hh => find_c M ld (false, (i : Int)) b3 b4 b7 b8 b10 A l po co w hh (fun hs => ⟨cells_keep hgb _ (St.fz (R := findR b7 A b10 po co l) (rest := [_,_,_]) (selK [0,1,2,3,4,5] rfl rfl _ hw) hs), mapR_keep hGM _ (St.fz (R := findR b7 A b10 po co l) (rest := [_,_,_]) (selK [0,1,2,3,4,5] rfl rfl _ hw) hs), cells_inv (St.inv (St.rightOf (St.fz (R := findR b7 A b10 po co l) (rest := [_,_,_]) (selK [0,1,2,3,4,5] rfl rfl _ hw) hs)) 2 _ rfl)⟩) hF (fun p hp => ki_at hK hp) (by omega)) fun y1 _ => VO.h rfl<|HO.lo (LO.as (.r rfl))<|VO.nil ?_)
      rw [← ndx_lt hin]
      obtain ⟨e, heg⟩ := findL_get (A := A) (q := ld (ndx n_ i)) (l := l) (fun p hp => ki_at hK hp)
      refine VE.seqN ?_
      refine VC.res (L' := EvR.fR e :: bagD (((findL A (ld (ndx n_ (i))) l).eraseIdx (findK A (ld (ndx n_ (i))) l.length)).map EvR.fR) :: bagD ((findL A (ld (ndx n_ (i))) l).map EvR.tR) :: [_,_,_,_]) (fun w hw => St.focusAt (f := EvR.fR) (bag_zz rfl rfl A (ld (ndx n_ (i))) l (selK [3,4,0,1,2,5] rfl rfl w hw)) heg) ?_
      show VC _ _ _ _ _ _ (own 3 1 e.fp e.fc (e.f.map nC) :: _) _ _
      refine VC.reg (VO.l (LO.mv (.r rfl)) rfl<|VO.l (LO.mv (.r rfl)) rfl<|VO.l (LO.nc (.r rfl)) rfl<|VO.l (LO.fa F81_1 (.r rfl) rfl) rfl<|VO.l (LO.ld O40 (.r rfl) (fun w hw => cells_part (off := 1) (own_cell hw 5 rfl heg) ⟨_, rfl⟩)) rfl<|VO.l (LO.mv (.r rfl)) rfl<|VO.h rfl<|HO.bs (ps := [(_,_)]) (vs := [(_,_)]) (Z := [_]) (C := [_]) S40 Z3 N3 ⟨(.r rfl), trivial⟩ rfl rfl rfl rfl ⟨_, [_], [_], rfl, rfl, rfl, rfl, rfl⟩ fun b19 => VO.h rfl<|HO.appT (i) 1 0 (fun R => [_, R,_,_,_,_,_,_]) S40 S40 I3 (.r rfl) (.r rfl) rfl rfl rfl rfl rfl rfl rfl (fun _ => rfl) rfl (by have := ki_mem hK heg; omega) fun p7 c7 => VO.l (LO.nc (.r rfl)) rfl<|VO.l (LO.fa F81_1 (.r rfl) rfl) rfl<|VO.h0<|HO.sto 6 (fun R => [_,_,_,_,_,_, R,_]) (o := 1) (vs := [_]) N40 (.r rfl) (.r rfl) rfl (map_get heg) rfl rfl (Nat.le_of_ble_eq_true rfl) rfl (fun _ => rfl)<|VO.nil ?_)
      rw [ev_setF]
      refine VE.inN (VE.seqN ?_)
      refine VC.reg (VO.l (LO.add (.r rfl) (.r rfl) (wi (by omega) (by omega))) rfl<|VO.l (LO.mv (.r rfl)) rfl<|VO.nil ?_)
      refine VE.thenN fun a w ha hw => ⟨(i + 1, findA A (ld (ndx n_ (i))) l.length, (findL A (ld (ndx n_ (i))) l).set (findK A (ld (ndx n_ (i))) l.length) { e with fp := p7, fc := c7, f := e.f ++ [i] }, y1.p, y1.c), ⟨by dsimp only; omega, ev_step hK heg (by unfold addEv; rw [if_pos hin]; rfl)⟩, (by dsimp only; omega), ha.sub (.cons rfl (.cons rfl (.cons rfl (.cons rfl (.cons rfl .nil))))), (by dsimp only; rw [List.length_set, set_bagT heg]; exact selK (L1 := [_,_,_,_,_,_]) [1,2,3,0,4,5] rfl rfl _ (St.unfocusAt (f := EvR.fR) (a := { e with fp := p7, fc := c7, f := e.f ++ [i] }) (i := (findK A (ld (ndx n_ (i))) l.length)) (selK (L1 := EvR.fR ({ e with fp := p7, fc := c7, f := e.f ++ [i] }) :: [_,_,_,_,_,_]) [1,2,4,5,6,3,7] rfl rfl _ hw) (List.getElem?_eq_some_iff.1 heg).1))⟩
    ·
      have hie : i = n_ := by omega
      rw [hie] at hK
      refine VC.exit (VE.thenX (VE.thenX (VE.inX (VE.seqN ?_))))
      refine VC.seq ?_
      refine VC.seq ?_
      refine VC.reg (VO.l (LO.fa (r := 5) F154_1 (.r rfl) rfl) rfl<|VO.l (LO.ld O29 (.r rfl) (cells_keep (sub_cells (off := 5) hxb ⟨_, rfl⟩))) rfl<|VO.l (LO.len S29 (.r rfl) rfl) rfl<|VO.l (LO.mv (.r rfl)) rfl<|VO.nil ?_)
      refine VE.seqN ?_
      refine VC.block ?_
      refine VC.loopK (α := Nat × (Nd → Option Nat) × (List EvR) × (Option Addr) × Nat) 5 (fun gx => [(124, .int .i64 (gx.1 : Nat))]) [(16,_), (17,_), (123,_)] (fun gx => [mapR nV niV b7 gx.2.1, blk b10 (.cells #[.slice gx.2.2.2.1 gx.2.2.1.length gx.2.2.2.2] 46), own 81 3 gx.2.2.2.1 gx.2.2.2.2 (gx.2.2.1.map EvR.cells), bagD (gx.2.2.1.map EvR.fR), bagD (gx.2.2.1.map EvR.tR)]) (fun gx => gx.1 ≤ m_ ∧ KI (fun t => ld (ndx n_ t)) n_ (n_ + gx.1) gx.2.1 (gx.2.2.1.map EvR.m)) (fun gx => m_ - gx.1) (0, A, l, po, co) (by exact ⟨Nat.zero_le _, hK⟩) (.cons rfl (.cons rfl (.cons rfl (.cons rfl .nil)))) (fun _ h => h) ?_
      rintro ⟨j, A, l, po, co⟩ ⟨hj, hK⟩
      show VC _ _ _ _ _ ([(124, .int .i64 (j : Nat))] ++ _) ([mapR nV niV b7 A, blk b10 (.cells #[.slice po l.length co] 46), own 81 3 po co (l.map EvR.cells), bagD (l.map EvR.fR), bagD (l.map EvR.tR)] ++ _) _ _
      dsimp only at hj hK
      refine VC.seq ?_
      refine VC.reg (VO.l (LO.lt (.r rfl) (.r rfl)) rfl<|VO.nil ?_)
      refine VE.seqN ?_
      refine VC.seq ?_
      refine VC.cond rfl (fun h125 => ?_) (fun h125 => ?_)
      ·
        have hki := ki_len hK
        refine VC.skip (VE.seqN ?_)
        refine VC.seq ?_
        refine VC.block ?_
        refine VC.seq ?_
        refine VC.reg (VO.l (LO.mv (.r rfl)) rfl<|VO.l (LO.as (.r rfl)) rfl<|VO.nil ?_)
        refine VE.seqN ?_
        refine VC.seq ?_
        refine VC.reg (VO.l (LO.mv (.r rfl)) rfl<|VO.l (LO.mv (.r rfl)) rfl<|VO.l (LO.bd (ps := [(_,_), (_,_)]) (vs := [(_,_), (_,_)]) (C := [_,_]) B191  ⟨(.r rfl), (.r rfl), trivial⟩ rfl ⟨_, [_], [_,_], rfl, rfl, rfl, rfl, ⟨_, [_], [_,_], rfl, rfl, rfl, rfl, rfl⟩⟩) rfl<|VO.h rfl<|HO.callP (first := []) (cap := [_,_,_]) (xs := [_]) (vs := [_]) [_,_,_] [_,_,_] (selK (L1 := [_,_,_] ++ [_,_,_]) [0,1,2,3,4,5] rfl rfl) (.r rfl) C111 ⟨(.r rfl), trivial⟩ (fun w hw hh => find_c M ld (true, (j : Int)) b3 b4 b7 b8 b10 A l po co w hh (fun hs => ⟨cells_keep hgb _ (St.fz (R := findR b7 A b10 po co l) (rest := [_,_,_]) (selK [0,1,2,3,4,5] rfl rfl _ hw) hs), mapR_keep hGM _ (St.fz (R := findR b7 A b10 po co l) (rest := [_,_,_]) (selK [0,1,2,3,4,5] rfl rfl _ hw) hs), cells_inv (St.inv (St.rightOf (St.fz (R := findR b7 A b10 po co l) (rest := [_,_,_]) (selK [0,1,2,3,4,5] rfl rfl _ hw) hs)) 2 _ rfl)⟩) hF (fun p hp => ki_at hK hp) (by omega)) fun y1 _ => VO.h rfl<|HO.lo (LO.as (.r rfl))<|VO.nil ?_)
        rw [← ndx_ge (n := n_)]
        obtain ⟨e, heg⟩ := findL_get (A := A) (q := ld (ndx n_ (n_ + j))) (l := l) (fun p hp => ki_at hK hp)
        refine VE.seqN ?_
        refine VC.res (L' := EvR.tR e :: bagD (((findL A (ld (ndx n_ (n_ + j))) l).eraseIdx (findK A (ld (ndx n_ (n_ + j))) l.length)).map EvR.tR) :: bagD ((findL A (ld (ndx n_ (n_ + j))) l).map EvR.fR) :: [_,_,_,_]) (fun w hw => St.focusAt (f := EvR.tR) (bag_zz rfl rfl A (ld (ndx n_ (n_ + j))) l (selK [4,3,0,1,2,5] rfl rfl w hw)) heg) ?_
        show VC _ _ _ _ _ _ (own 3 1 e.tp e.tc (e.t.map nC) :: _) _ _
        refine VC.reg (VO.l (LO.mv (.r rfl)) rfl<|VO.l (LO.mv (.r rfl)) rfl<|VO.l (LO.nc (.r rfl)) rfl<|VO.l (LO.fa F81_2 (.r rfl) rfl) rfl<|VO.l (LO.ld O40 (.r rfl) (fun w hw => cells_part (off := 2) (own_cell hw 5 rfl heg) ⟨_, rfl⟩)) rfl<|VO.l (LO.mv (.r rfl)) rfl<|VO.h rfl<|HO.bs (ps := [(_,_)]) (vs := [(_,_)]) (Z := [_]) (C := [_]) S40 Z3 N3 ⟨(.r rfl), trivial⟩ rfl rfl rfl rfl ⟨_, [_], [_], rfl, rfl, rfl, rfl, rfl⟩ fun b25 => VO.h rfl<|HO.appT (j) 1 0 (fun R => [_, R,_,_,_,_,_,_]) S40 S40 I3 (.r rfl) (.r rfl) rfl rfl rfl rfl rfl rfl rfl (fun _ => rfl) rfl (by have := ki_mem hK heg; omega) fun p7 c7 => VO.l (LO.nc (.r rfl)) rfl<|VO.l (LO.fa F81_2 (.r rfl) rfl) rfl<|VO.h0<|HO.sto 6 (fun R => [_,_,_,_,_,_, R,_]) (o := 2) (vs := [_]) N40 (.r rfl) (.r rfl) rfl (map_get heg) rfl rfl (Nat.le_of_ble_eq_true rfl) rfl (fun _ => rfl)<|VO.nil ?_)
        rw [ev_setT]
        refine VE.inN (VE.seqN ?_)
        refine VC.reg (VO.l (LO.add (.r rfl) (.r rfl) (wi (by omega) (by omega))) rfl<|VO.l (LO.mv (.r rfl)) rfl<|VO.nil ?_)
        refine VE.thenN fun a w ha hw => ⟨(j + 1, findA A (ld (ndx n_ (n_ + j))) l.length, (findL A (ld (ndx n_ (n_ + j))) l).set (findK A (ld (ndx n_ (n_ + j))) l.length) { e with tp := p7, tc := c7, t := e.t ++ [j] }, y1.p, y1.c), ⟨by dsimp only; omega, ev_step (t := n_ + j) hK heg (by unfold addEv; rw [if_neg (by omega), show n_ + j - n_ = j by omega]; rfl)⟩, (by dsimp only; omega), ha.sub (.cons rfl (.cons rfl (.cons rfl (.cons rfl .nil)))), (by dsimp only; rw [List.length_set, set_bagF heg]; exact selK (L1 := [_,_,_,_,_,_]) [1,2,3,4,0,5] rfl rfl _ (St.unfocusAt (f := EvR.tR) (a := { e with tp := p7, tc := c7, t := e.t ++ [j] }) (i := (findK A (ld (ndx n_ (n_ + j))) l.length)) (selK (L1 := EvR.tR ({ e with tp := p7, tc := c7, t := e.t ++ [j] }) :: [_,_,_,_,_,_]) [1,2,4,5,6,3,7] rfl rfl _ hw) (List.getElem?_eq_some_iff.1 heg).1))⟩
      ·
        have hje : j = m_ := by omega
        rw [hje] at hK
        have hkl := ki_len hK
        refine VC.exit (VE.thenX (VE.thenX (VE.inX (VE.seqN ?_))))
        refine VC.seq ?_
        refine VC.seq ?_
        refine VC.reg (VO.l (LO.ld O46 (.r rfl) (fun _ hw => cells_at hw 1 rfl ⟨_, rfl⟩)) rfl<|VO.l (LO.len S46 (.r rfl) rfl) rfl<|VO.l (LO.mv (.r rfl)) rfl<|VO.nil ?_)
        refine VE.seqN ?_
        refine VC.block ?_
        refine VC.perm [2,0,1,3,4,5] rfl ?_
        refine VC.loopK (α := Nat) 1 (fun gx => [(144, .int .i64 (gx : Nat))]) [(16,_), (142,_), (143,_)] (fun gx => [own 81 3 po co ((setTo l gx).map EvR.cells)]) (fun gx => gx ≤ l.length) (fun gx => l.length - gx) 0 (by exact Nat.zero_le _) (.cons rfl (.cons rfl (.cons rfl (.cons rfl .nil)))) (fun _ h => h) ?_
        rintro k hk
        refine VC.seq ?_
        refine VC.reg (VO.l (LO.lt (.r rfl) (.r rfl)) rfl<|VO.nil ?_)
        refine VE.seqN ?_
        refine VC.seq ?_
        refine VC.cond rfl (fun h145 => ?_) (fun h145 => ?_)
        ·
          obtain ⟨e, hek⟩ := get_ex (l := l) (n := k) (by omega)
          have hepos := ev_pos hK (List.mem_of_getElem? hek)
          have hkm := ki_mem (q := ld (ndx n_ 0)) (k := k) hK (by unfold findL; split; exact hek; rw [List.getElem?_append_left (by omega)]; exact hek)
          refine VC.skip (VE.seqN ?_)
          refine VC.seq ?_
          refine VC.block ?_
          refine VC.seq ?_
          refine VC.reg (VO.l (LO.mv (.r rfl)) rfl<|VO.l (LO.ixo S46 N81 (fun _ hw => (own_rows hw 0 rfl).some (by rw [List.length_map, setTo_len])) (.r rfl) (.r rfl) rfl (by omega)) rfl<|VO.l (LO.lda (vs := [_,_,_]) A81 (.r rfl) (fun w hw => cells_part (off := 0) (own_cell hw 0 rfl (setTo_get hek)) ⟨_, rfl⟩) rfl) rfl<|VO.h rfl<|HO.alloc (C := #[_,_,_]) Z81 rfl fun b26 => VO.l (LO.as (.r rfl)) rfl<|VO.h0<|HO.st 0 (vs := [_,_,_]) (C' := [_,_,_]) (L' := [_,_,_,_,_,_,_]) N81 rfl rfl rfl rfl rfl rfl rfl rfl<|VO.nil ?_)
          refine VE.seqN ?_
          refine VC.drawH [[0,1,2,3,4,5,6], [0,2,3,4,5,6]] [some 0, some 0, some 0, some 0, some 0, some 0, some 0, some 0, some 0, some 0, some 0, none] mixed (by kernel_rfl) rfl (LX.l (fun _ hJ => LO.ld O46 (.r rfl) (fun _ hw => cells_at (hJ _ hw) 3 rfl ⟨_, rfl⟩)) rfl<|LX.l (fun _ hJ => LO.mv (.r rfl)) rfl<|LX.l (fun _ hJ => LO.fa (r := 1) F81_1 (.r rfl) rfl) rfl<|LX.l (fun _ hJ => LO.ld O40 (.r rfl) (fun _ hw => cells_at (hJ _ hw) 0 rfl ⟨_, rfl⟩)) rfl<|LX.l (fun _ hJ => LO.len S40 (.r rfl) rfl) rfl<|LX.l (fun _ hJ => LO.fa (r := 2) F81_2 (.r rfl) rfl) rfl<|LX.l (fun _ hJ => LO.ld O40 (.r rfl) (fun _ hw => cells_at (hJ _ hw) 0 rfl ⟨_, rfl⟩)) rfl<|LX.l (fun _ hJ => LO.len S40 (.r rfl) rfl) rfl<|LX.l (fun _ hJ => LO.call (xs := [_,_]) (vs := [_,_]) C113 ⟨(.r rfl), (.r rfl), trivial⟩ (fun w hw => kind_c e.f.length e.t.length w (by omega) (by omega) hepos)) rfl<|LX.l (fun _ hJ => LO.ixo S46 N81 (fun _ hw => (own_rows (hJ _ hw) 1 rfl).some (by rw [List.length_map, setTo_len])) (.r rfl) (.r rfl) rfl (by omega)) rfl<|LX.l (fun _ hJ => LO.fa F81_0 (.r rfl) rfl) rfl<|LX.s<|LX.nil) (HX.s<|HX.s<|HX.s<|HX.s<|HX.s<|HX.s<|HX.s<|HX.s<|HX.s<|HX.s<|HX.s<|HX.h0<|HO.sto 1 (fun R => [_, R,_,_,_,_,_]) (o := 0) (vs := [_]) N3 (.r rfl) (.r rfl) rfl (map_get (setTo_get hek)) rfl rfl (Nat.le_of_ble_eq_true rfl) rfl (fun _ => rfl)<|⟨fun _ hw => hw.sel [0,2,3,4,5,6] rfl, HX.nil ?_⟩)
          rw [ev_setK, setTo_set hek]
          refine VE.inN (VE.seqN ?_)
          refine VC.reg (VO.l (LO.add (.r rfl) (.r rfl) (wi (by omega) (by omega))) rfl<|VO.l (LO.mv (.r rfl)) rfl<|VO.nil ?_)
          refine VE.thenN fun a w ha hw => ⟨k + 1, (by omega), (by omega), ha.sub (.cons rfl (.cons rfl (.cons rfl (.cons rfl .nil)))), hw.sel [1,2,3,4,5,6] rfl⟩
        ·
          refine VC.exit (VE.thenX (VE.thenX (VE.inX (VE.seqN ?_))))
          refine VC.seq ?_
          refine VC.reg (VO.l (LO.ld O46 (.r rfl) (fun _ hw => cells_at hw 2 rfl ⟨_, rfl⟩)) rfl<|VO.l (LO.as (.r rfl)) rfl<|VO.nil ?_)
          refine VE.seqN ?_
          refine VC.ret (VE.res (vs := [_]) rfl ⟨rfl, trivial⟩ (fun w hw => ?_))
          have hke : k = l.length := by omega
          subst hke
          rw [setTo_all, ← setTo_f (l := l) (k := l.length) (f := EvR.fR) (fun _ => rfl), ← setTo_f (l := l) (k := l.length) (f := EvR.tR) (fun _ => rfl), setTo_all] at hw
          have hf := hst1.call (selK (L1 := [_,_,_]) [0,3,4] rfl rfl _ hw)
          exact ⟨⟨l.map setK, po, co⟩, ⟨ld, hld, by subst hn_; subst hm_; exact evs_done hK⟩, by rw [List.length_map]; rfl, selK [0,1,2] rfl rfl _ hf⟩

end Go.Proofs.Ytgemekpofpoopaa

namespace Go.Proofs.Ytgemekpofpoopaa
open Go.SL Go.Proofs Go.Cast Go.Cell
set_option linter.unusedVariables false

theorem C77 : IsFn Try.prog 77 := ⟨_, Try.func77, by decide, rfl⟩


theorem ar_le {W H : Nat} {vs : List Span} {lv : Int} {y : ArY} (h : ArP W H vs lv y) : y.l.length ≤ W * H := by rw [← ar_len h]; exact parts_len

set_option maxRecDepth 20000 in
set_option maxHeartbeats 8000000 in
theorem Match_e (g1 : Grid) (v1 : List Span) (p1 : Option Addr) (c1 : Nat) (g2 : Grid) (v2 : List Span) (p2 : Option Addr) (c2 : Nat) (lv reach : Int) (w : World) (hv1 : Spans w p1 v1) (hv2 : Spans w p2 v2) (hne : pairE g1 v1 g2 v2 lv reach ≠ 0) :
  Calls Try.prog 27 #[fieldV g1 p1 v1.length c1, fieldV g2 p2 v2.length c2, .int .i64 lv, .int .i64 reach] w fun e w' => e = .returned (.tuple #[.slice none 0 0, .int .i64 (pairE g1 v1 g2 v2 lv reach)]) ∧ St (bs w) [] w' := by
  refine enter (vs := [_,_,_,_]) (env := [(0,_), (1,_), (2,_), (3,_)]) Try.func27 rfl rfl rfl rfl ?_
  refine VC.seq ?_
  refine VC.reg (VO.h rfl<|HO.box (C := #[_,_,_,_,_,_]) rfl rfl fun b1 => VO.h rfl<|HO.box (C := #[_,_,_,_,_,_]) rfl rfl fun b2 => VO.l (LO.as (.r rfl)) rfl<|VO.l (LO.as (.r rfl)) rfl<|VO.nil ?_)
  refine VE.seqN ?_
  refine VC.seq ?_
  refine VC.seq ?_
  refine VC.reg (VO.l (LO.lda (vs := [_,_,_,_,_,_]) A26 (.r rfl) (fun _ hw => cells_at hw 1 rfl ⟨_, rfl⟩) rfl) rfl<|VO.l (LO.lda (vs := [_,_,_,_,_,_]) A26 (.r rfl) (fun _ hw => cells_at hw 0 rfl ⟨_, rfl⟩) rfl) rfl<|VO.l (LO.mv (.r rfl)) rfl<|VO.l (LO.mv (.r rfl)) rfl<|VO.l (LO.call (xs := [_,_,_,_]) (vs := [_,_,_,_]) C76 ⟨(.r rfl), (.r rfl), (.r rfl), (.r rfl), trivial⟩ (fun w hw => paired_c g1 v1 p1 c1 _ v2 p2 c2 lv reach w (hv1.keep w hw) (hv2.keep w hw))) rfl<|VO.l (LO.as (.r rfl)) rfl<|VO.nil ?_)
  refine VE.seqN ?_
  refine VC.seq ?_
  refine VC.reg (VO.l (LO.mv (.r rfl)) rfl<|VO.l (LO.ne (.r rfl) (.r rfl)) rfl<|VO.nil ?_)
  refine VE.seqN ?_
  refine VC.cond rfl (fun h17 => ?_) (fun h17 => ?_)
  ·
    refine VC.seq ?_
    refine VC.reg (VO.l (LO.mv (.r rfl)) rfl<|VO.l (LO.as (.r rfl)) rfl<|VO.l (LO.as (.r rfl)) rfl<|VO.nil ?_)
    refine VE.seqN ?_
    refine VC.ret (VE.thenR (VE.res (vs := [_,_]) rfl ⟨rfl, rfl, trivial⟩ (fun w hw => ?_)))
    exact ⟨rfl, hw.nil⟩
  ·
    (exfalso; exact hne (Classical.not_not.1 h17))

set_option maxRecDepth 20000 in
set_option maxHeartbeats 8000000 in
theorem Match_ok (g1 : Grid) (v1 : List Span) (p1 : Option Addr) (c1 : Nat) (g2 : Grid) (v2 : List Span) (p2 : Option Addr) (c2 : Nat) (lv : Int) (r : Nat) (w : World) (hv1 : Spans w p1 v1) (hv2 : Spans w p2 v2) (hpr : pairE g1 v1 g2 v2 lv r = 0) :
  Calls Try.prog 27 #[fieldV g1 p1 v1.length c1, fieldV g2 p2 v2.length c2, .int .i64 lv, .int .i64 (r : Int)] w fun e w' => ∃ y : EvY, EvP (gW g1) (gH g1) r (ofL (gW g1) (gH g1) (mayB v1 lv)) (ofL (gW g1) (gH g1) (mayB v2 lv)) (nP g1 v1 lv) (nP g1 v2 lv) (y.l.map EvR.m) ∧ e = .returned (.tuple #[.slice y.p y.l.length y.c, .int .i64 0]) ∧ St (bs w) y.R w' := by
  obtain ⟨hf1, hf2, rfl, hl1, hl2, hr1, hr2⟩ := pairOk hpr
  obtain ⟨hg, hlen1, hok1,_,_⟩ := openOk (field_open (lv := lv) hf1 hl1 hl2)
  obtain ⟨_, hlen2, hok2,_,_⟩ := openOk (field_open (lv := lv) hf2 hl1 hl2)
  have har := area_le hg
  refine enter (vs := [_,_,_,_]) (env := [(0,_), (1,_), (2,_), (3,_)]) Try.func27 rfl rfl rfl rfl ?_
  refine VC.seq ?_
  refine VC.reg (VO.h rfl<|HO.box (C := #[_,_,_,_,_,_]) rfl rfl fun b1 => VO.h rfl<|HO.box (C := #[_,_,_,_,_,_]) rfl rfl fun b2 => VO.l (LO.as (.r rfl)) rfl<|VO.l (LO.as (.r rfl)) rfl<|VO.nil ?_)
  refine VE.seqN ?_
  refine VC.seq ?_
  refine VC.seq ?_
  refine VC.reg (VO.l (LO.lda (vs := [_,_,_,_,_,_]) A26 (.r rfl) (fun _ hw => cells_at hw 1 rfl ⟨_, rfl⟩) rfl) rfl<|VO.l (LO.lda (vs := [_,_,_,_,_,_]) A26 (.r rfl) (fun _ hw => cells_at hw 0 rfl ⟨_, rfl⟩) rfl) rfl<|VO.l (LO.mv (.r rfl)) rfl<|VO.l (LO.mv (.r rfl)) rfl<|VO.l (LO.call (xs := [_,_,_,_]) (vs := [_,_,_,_]) C76 ⟨(.r rfl), (.r rfl), (.r rfl), (.r rfl), trivial⟩ (fun w hw => paired_c g1 v1 p1 c1 _ v2 p2 c2 lv (r : Int) w (hv1.keep w hw) (hv2.keep w hw))) rfl<|VO.l (LO.as (.r rfl)) rfl<|VO.nil ?_)
  refine VE.seqN ?_
  refine VC.seq ?_
  refine VC.reg (VO.l (LO.mv (.r rfl)) rfl<|VO.l (LO.ne (.r rfl) (.r rfl)) rfl<|VO.nil ?_)
  refine VE.seqN ?_
  refine VC.cond rfl (fun h17 => ?_) (fun h17 => ?_)
  ·
    (exfalso; exact h17 hpr)
  ·
    refine VC.skip (VE.seqN ?_)
    refine VC.seq ?_
    refine VC.drawH [[0,1], [0,1], [0,1], [0,1], [0,1]] [some 0, some 0, none, some 1, some 1, none, some 2, none, none, some 4] mixed (by kernel_rfl) rfl (LX.l (fun _ hJ => LO.lda (vs := [_,_,_,_,_,_]) A26 (.r rfl) (fun _ hw => cells_at (hJ _ hw) 1 rfl ⟨_, rfl⟩) rfl) rfl<|LX.l (fun _ hJ => LO.mv (.r rfl)) rfl<|LX.s<|LX.l (fun _ hJ => LO.lda (vs := [_,_,_,_,_,_]) A26 (.r rfl) (fun _ hw => cells_at (hJ _ hw) 0 rfl ⟨_, rfl⟩) rfl) rfl<|LX.l (fun _ hJ => LO.mv (.r rfl)) rfl<|LX.s<|LX.l (fun _ hJ => LO.mv (.r rfl)) rfl<|LX.s<|LX.s<|LX.l (fun _ hJ => LO.as (.r rfl)) rfl<|LX.nil) (HX.s<|HX.s<|HX.h rfl<|HO.callx (xs := [_,_]) (vs := [_,_]) C78 ⟨(.r rfl), (.r rfl), trivial⟩ (fun w hw => spreadOf_c g1 v1 p1 c1 lv w hg hlen1 hok1 (hv1.keep w hw)) fun y1 hy1 => ⟨selJ (L1 := [_,_]) [8,9] rfl rfl rfl, HX.s<|HX.s<|HX.h rfl<|HO.callx (xs := [_,_]) (vs := [_,_]) C78 ⟨(.r rfl), (.r rfl), trivial⟩ (fun w hw => spreadOf_c g1 v2 p2 c2 lv w hg hlen2 hok2 (hv2.keep w hw)) fun y2 hy2 => ⟨selJ (L1 := [_,_]) [16,17] rfl rfl rfl, HX.s<|HX.h rfl<|HO.callx (xs := [_,_,_]) (vs := [_,_,_]) C77 ⟨(.r rfl), (.r rfl), (.r rfl), trivial⟩ (fun w hw => events_c g1 y1 y2 _ _ r w hg (SpI.of_res hw hy1 8 9 11 15 rfl rfl rfl rfl) (SpI.of_res hw hy2 0 1 3 7 rfl rfl rfl rfl) ofL_len ofL_len (ar_le hy1) (ar_le hy2) (by omega)) fun y hy => ⟨selJ (L1 := [_,_]) [19,20] rfl rfl rfl, HX.h rfl<|HO.lo (LO.as (.r rfl))<|⟨selJ (L1 := [_,_]) [19,20] rfl rfl rfl, HX.s<|HX.nil ?_⟩⟩⟩⟩)
    refine VE.seqN ?_
    refine VC.ret (VE.res (vs := [_,_]) rfl ⟨rfl, rfl, trivial⟩ (fun w hw => ?_))
    refine ⟨y, ?_, rfl, selK [0,1,2] rfl rfl _ hw⟩
    unfold nP; rw [ar_len hy1, ar_len hy2]; exact hy

end Go.Proofs.Ytgemekpofpoopaa

namespace Go.Proofs.Ytgemekpofpoopaa
open Go.SL Go.Proofs Go.Cast Go.Cell
set_option linter.unusedVariables false

theorem F119_6 : FieldAt Try.prog 119 6 10 := ⟨_,_, Try.underlying119, rfl, rfl, 0, by kernel_rfl⟩
theorem O116 : IsOne Try.prog 116 := ⟨⟨_, Try.underlying116, rfl⟩, by kernel_rfl⟩
theorem B119 : Builds Try.prog 119 [(0,5), (5,1), (6,1), (7,1), (8,1), (9,1), (10,1), (11,8)] [.int .i64 0, .int .i64 0, .int .i64 0, .int .i64 0, .int .i64 0, .int .i64 0, .int .i64 0, .int .i64 0, .slice none 0 0, .slice none 0 0, .map none, .int .i64 0, .int .i64 0, .int .i64 0, .int .i64 0, .int .i64 0, .int .i64 0, .int .i64 0, .int .i64 0] := Builds.mk fun _ => by kernel_rfl


abbrev plV : Int × Int → Value := pairV intV intV
theorem S169 : IsS2 Try.prog (169) 3 3 := ⟨_,_, Try.underlying169, by decide, by decide, rfl, rfl, rfl, rfl, by kernel_rfl⟩
theorem KP : KeyE Try.prog (169) plV := key_pair (cell1_int Try.underlying3 O3) (cell1_int Try.underlying3 O3) S169
theorem M116 : IsMapG Try.prog (116) plV niV 0 := ⟨169,3, Try.underlying116, KP, Z3⟩
/-- What in a book's memory stays as it was made. -/
structure BkH where
  g : Grid
  lv : Int
  rc : Int
  bm : Nat
/-- Where its maps lie. -/
structure BkQ where
  pm : Option Addr
  nm : Nat
  cm : Nat
abbrev bkC (h : BkH) (la : Int) (q : BkQ) (pt : Option Addr) (nt ct : Nat) (kd : Nat → Int) : List Value := [.int .i64 h.g.x, .int .i64 h.g.y, .int .i64 h.g.size, .int .i64 h.g.wide, .int .i64 h.g.high, .int .i64 h.lv, .int .i64 h.rc, .int .i64 la, .slice q.pm q.nm q.cm, .slice pt nt ct, .map (some h.bm), .int .i64 (kd 0), .int .i64 (kd 1), .int .i64 (kd 2), .int .i64 (kd 3), .int .i64 (kd 4), .int .i64 (kd 5), .int .i64 (kd 6), .int .i64 (kd 7)]
def kdU (kd : Nat → Int) (j : Nat) : Nat → Int := fun i => if i = j then kd i + 1 else kd i
theorem kd_get {h : BkH} {la : Int} {q : BkQ} {pt : Option Addr} {nt ct : Nat} {kd : Nat → Int} {j : Nat} (hj : j < 8) : ∃ r, (bkC h la q pt nt ct kd).drop (11 + j) = [.int .i64 (kd j)] ++ r := by
  match j, hj with
  | 0,_ => exact ⟨_, rfl⟩
  | 1,_ => exact ⟨_, rfl⟩
  | 2,_ => exact ⟨_, rfl⟩
  | 3,_ => exact ⟨_, rfl⟩
  | 4,_ => exact ⟨_, rfl⟩
  | 5,_ => exact ⟨_, rfl⟩
  | 6,_ => exact ⟨_, rfl⟩
  | 7,_ => exact ⟨_, rfl⟩
theorem kd_set {h : BkH} {la : Int} {q : BkQ} {pt : Option Addr} {nt ct : Nat} {kd : Nat → Int} {j : Nat} (hj : j < 8) : (bkC h la q pt nt ct kd).take (11 + j) ++ [.int .i64 (kd j + 1)] ++ (bkC h la q pt nt ct kd).drop (11 + j + 1) = bkC h la q pt nt ct (kdU kd j) := by
  match j, hj with
  | 0,_ => rfl
  | 1,_ => rfl
  | 2,_ => rfl
  | 3,_ => rfl
  | 4,_ => rfl
  | 5,_ => rfl
  | 6,_ => rfl
  | 7,_ => rfl
/-- A history, with the places of its lists. -/
structure TkR where
  bg : Int
  fr : Nat
  ap : Option Addr
  ac : Nat
  ar : List Nat
  en : Int
  pp : Option Addr
  pc : Nat
  pa : List Nat
  cp : Option Addr
  cc : Nat
  ch : List Nat
def TkR.cells (t : TkR) : List Value := [.int .i64 t.bg, .int .i64 (t.fr : Int), .slice t.ap t.ar.length t.ac, .int .i64 t.en, .slice t.pp t.pa.length t.pc, .slice t.cp t.ch.length t.cc]
def TkR.m (t : TkR) : TkM := ⟨t.bg, t.fr, t.ar, t.en, t.pa, t.ch⟩
def TkR.aR (t : TkR) : Res := own 3 1 t.ap t.ac (t.ar.map nC)
def TkR.pR (t : TkR) : Res := own 3 1 t.pp t.pc (t.pa.map nC)
def TkR.cR (t : TkR) : Res := own 3 1 t.cp t.cc (t.ch.map nC)
def ofI (of : Nat × Nat → Option Nat) (x : Int × Int) : Option Nat := if 0 ≤ x.1 ∧ 0 ≤ x.2 then of (x.1.toNat, x.2.toNat) else none
theorem ofI_nat {of : Nat × Nat → Option Nat} {n i : Nat} : ofI of ((n : Int), (i : Int)) = of (n, i) := by unfold ofI; rw [if_pos ⟨Int.natCast_nonneg _, Int.natCast_nonneg _⟩]; rfl
theorem ofI_upd {of : Nat × Nat → Option Nat} {n i k : Nat} : updG (ofI of) ((n : Int), (i : Int)) k = ofI (updG of (n, i) k) := by
  funext ⟨a, b⟩
  unfold updG ofI
  by_cases h : 0 ≤ a ∧ 0 ≤ b
  · simp only [if_pos h]
    by_cases e : (a, b) = ((n : Int), (i : Int))
    · have e1 : a = n := congrArg Prod.fst e
      have e2 : b = i := congrArg Prod.snd e
      subst e1; subst e2
      simp
    · have e' : ¬ (a.toNat, b.toNat) = (n, i) := fun z => e (by
        have h1 : a.toNat = n := congrArg Prod.fst z
        have h2 : b.toNat = i := congrArg Prod.snd z
        have h3 : a = n := by omega
        have h4 : b = i := by omega
        rw [h3, h4])
      rw [if_neg e, if_neg e']
  · simp only [if_neg h]
    rw [if_neg fun z => h (by
      have e1 : a = n := congrArg Prod.fst z
      have e2 : b = i := congrArg Prod.snd z
      omega)]
theorem ofI_none : ofI (fun _ => none) = fun _ => none := by funext x; unfold ofI; split <;> rfl
def bookE (g : Grid) (lv rc : Int) : Int := if gridE g ≠ 0 then gridE g else if lv < 1 ∨ 1073741824 < lv ∨ rc < 0 ∨ 8 < rc then 3 else 0
theorem bE3 {g : Grid} {lv rc : Int} (h : ¬ gridE g ≠ 0) (k : ¬ (lv < 1 ∨ 1073741824 < lv ∨ rc < 0 ∨ 8 < rc)) : bookE g lv rc = 0 := by unfold bookE; rw [if_neg h, if_neg k]
theorem bookOk {g : Grid} {lv rc : Int} (h : bookE g lv rc = 0) : gridOk g ∧ 1 ≤ lv ∧ lv ≤ 1073741824 ∧ 0 ≤ rc ∧ rc ≤ 8 := by
  unfold bookE at h
  split at h
  · rename_i q; exact absurd h q
  · rename_i q
    split at h
    · omega
    · refine ⟨?_, by omega, by omega, by omega, by omega⟩
      have q := Classical.not_not.1 q
      unfold gridE at q
      split at q
      · assumption
      · omega

set_option maxRecDepth 20000 in
theorem valid_y (b : Nat) (h : BkH) (la : Int) (q : BkQ) (pt : Option Addr) (nt ct : Nat) (kd : Nat → Int) (w : World) (hb : Cells w ⟨b, 0, none⟩ (bkC h la q pt nt ct kd)) :
  Calls Try.prog 91 #[.pointer (some ⟨b, 0, none⟩)] w fun e w' => e = .returned (.bool true) ∧ St (bs w) [] w' := by
  refine enter (vs := [_]) (env := [(0,_)]) Try.func91 rfl rfl rfl rfl ?_
  refine VC.seq ?_
  refine VC.reg (VO.l (LO.as (.r rfl)) rfl<|VO.nil ?_)
  refine VE.seqN ?_
  refine VC.seq ?_
  refine VC.reg (VO.l (LO.mv (.r rfl)) rfl<|VO.l (LO.neP1 ⟨_, Try.underlying98⟩ (.r rfl) (.r rfl)) rfl<|VO.l (LO.mv (.r rfl)) rfl<|VO.lg rfl rfl (GD.t _) (fun hg => LO.mv (.r rfl)) rfl<|VO.lg rfl rfl (GD.t _) (fun hg => LO.nc (.g hg rfl)) rfl<|VO.lg rfl rfl (GD.t _) (fun hg => LO.fa (r := 10) F119_6 (.g hg rfl) rfl) rfl<|VO.lg rfl rfl (GD.t _) (fun hg => LO.ld O116 (.g hg rfl) (cells_keep (sub_cells (off := 10) hb ⟨_, rfl⟩))) rfl<|VO.lg rfl rfl (GD.t _) (fun hg => LO.neM ⟨_,_, Try.underlying116⟩ (.g hg rfl) (.r rfl)) rfl<|VO.l (LO.pkA (.r rfl) rfl rfl (.r rfl)) rfl<|VO.l (LO.as (.r rfl)) rfl<|VO.nil ?_)
  refine VE.seqN ?_
  refine VC.ret (VE.res (vs := [_]) rfl ⟨rfl, trivial⟩ (fun w hw => ?_))
  exact ⟨rfl, hw.nil⟩

set_option maxRecDepth 20000 in
theorem NewBook_ok (g : Grid) (lv rc : Int) (w : World) (hok : bookE g lv rc = 0) :
  Calls Try.prog 47 #[gridV g, .int .i64 lv, .int .i64 rc] w fun e w' => ∃ y : Nat × Nat, True ∧ e = .returned (.tuple #[.pointer (some ⟨y.1,0, none⟩), .int .i64 0]) ∧ St (bs w) [blk y.1 (.cells (bkC ⟨g, lv, rc, y.2⟩ (-1) ⟨none, 0,0⟩ none 0 0 (fun _ => 0)).toArray 119), mapR plV niV y.2 (ofI fun _ => none)] w' := by
  refine enter (vs := [_,_,_]) (env := [(0,_), (1,_), (2,_)]) Try.func47 rfl rfl rfl rfl ?_
  refine VC.seq ?_
  refine VC.reg (VO.h rfl<|HO.box (C := #[_,_,_,_,_]) rfl rfl fun b1 => VO.l (LO.as (.r rfl)) rfl<|VO.l (LO.as (.r rfl)) rfl<|VO.nil ?_)
  refine VE.seqN ?_
  refine VC.seq ?_
  refine VC.seq ?_
  refine VC.reg (VO.l (LO.lda (vs := [_,_,_,_,_]) A23 (.r rfl) (fun _ hw => cells_at hw 0 rfl ⟨_, rfl⟩) rfl) rfl<|VO.l (LO.call (xs := [_]) (vs := [_]) C90 ⟨(.r rfl), trivial⟩ (fun w _ => checkGrid_c g w)) rfl<|VO.l (LO.as (.r rfl)) rfl<|VO.nil ?_)
  refine VE.seqN ?_
  refine VC.seq ?_
  refine VC.reg (VO.l (LO.mv (.r rfl)) rfl<|VO.l (LO.ne (.r rfl) (.r rfl)) rfl<|VO.nil ?_)
  refine VE.seqN ?_
  refine VC.cond rfl (fun h12 => ?_) (fun h12 => ?_)
  ·
    (exfalso; exact h12 (by have z := bookOk hok; unfold gridE; rw [if_pos z.1]))
  ·
    refine VC.skip (VE.seqN ?_)
    refine VC.seq ?_
    refine VC.seq ?_
    refine VC.reg (VO.l (LO.mv (.r rfl)) rfl<|VO.l (LO.lt (.r rfl) (.r rfl)) rfl<|VO.l (LO.mv (.r rfl)) rfl<|VO.lg rfl rfl (GD.f _) (fun hg => LO.mv (.r rfl)) rfl<|VO.lg rfl rfl (GD.f _) (fun hg => LO.gt (.g hg rfl) (.r rfl)) rfl<|VO.l (LO.pkO (.r rfl) (.r rfl) rfl rfl) rfl<|VO.l (LO.mv (.r rfl)) rfl<|VO.lg rfl rfl (GD.f _) (fun hg => LO.mv (.r rfl)) rfl<|VO.lg rfl rfl (GD.f _) (fun hg => LO.lt (.g hg rfl) (.r rfl)) rfl<|VO.l (LO.pkO (.r rfl) (.r rfl) rfl rfl) rfl<|VO.l (LO.mv (.r rfl)) rfl<|VO.lg rfl rfl (GD.f _) (fun hg => LO.mv (.r rfl)) rfl<|VO.lg rfl rfl (GD.f _) (fun hg => LO.gt (.g hg rfl) (.r rfl)) rfl<|VO.l (LO.pkO (.r rfl) (.r rfl) rfl rfl) rfl<|VO.nil ?_)
    refine VE.seqN ?_
    refine VC.cond rfl (fun h27 => ?_) (fun h27 => ?_)
    ·
      (exfalso; have z := bookOk hok; first | omega | (simp at h27; omega))
    ·
      refine VC.skip (VE.seqN ?_)
      refine VC.seq ?_
      refine VC.reg (VO.l (LO.lda (vs := [_,_,_,_,_]) A23 (.r rfl) (fun _ hw => cells_at hw 0 rfl ⟨_, rfl⟩) rfl) rfl<|VO.l (LO.mv (.r rfl)) rfl<|VO.l (LO.mv (.r rfl)) rfl<|VO.h rfl<|HO.mkmapG plV niV fun b2 => VO.h rfl<|HO.lo (LO.bd (ps := [(_,_), (_,_), (_,_), (_,_), (_,_)]) (vs := [(_,_), (_,_), (_,_), (_,_), (_,_)]) (C := [_,_,_,_,_,_,_,_,_,_,_,_,_,_,_,_,_,_,_]) B119  ⟨(.r rfl), (.r rfl), (.r rfl), (.r rfl), (.r rfl), trivial⟩ rfl ⟨_, [_,_,_,_,_], [_,_,_,_,_,_,_,_,_,_,_,_,_,_,_,_,_,_,_], rfl, rfl, rfl, rfl, ⟨_, [_], [_,_,_,_,_,_,_,_,_,_,_,_,_,_,_,_,_,_,_], rfl, rfl, rfl, rfl, ⟨_, [_], [_,_,_,_,_,_,_,_,_,_,_,_,_,_,_,_,_,_,_], rfl, rfl, rfl, rfl, ⟨_, [_], [_,_,_,_,_,_,_,_,_,_,_,_,_,_,_,_,_,_,_], rfl, rfl, rfl, rfl, ⟨_, [_], [_,_,_,_,_,_,_,_,_,_,_,_,_,_,_,_,_,_,_], rfl, rfl, rfl, rfl, rfl⟩⟩⟩⟩⟩)<|VO.h rfl<|HO.box (C := #[_,_,_,_,_,_,_,_,_,_,_,_,_,_,_,_,_,_,_]) rfl rfl fun b3 => VO.h rfl<|HO.lo (LO.as (.r rfl))<|VO.l (LO.as (.r rfl)) rfl<|VO.nil ?_)
      refine VE.seqN ?_
      refine VC.ret (VE.res (vs := [_,_]) rfl ⟨rfl, rfl, trivial⟩ (fun w hw => ?_))
      rw [ofI_none]
      exact ⟨(b3, b2), trivial, rfl, selK [0,1] rfl rfl _ hw⟩

end Go.Proofs.Ytgemekpofpoopaa

namespace Go.Proofs.Ytgemekpofpoopaa
open Go.SL Go.Proofs Go.Cast Go.Cell
set_option linter.unusedVariables false

theorem F119_5 : FieldAt Try.prog 119 5 9 := ⟨_,_, Try.underlying119, rfl, rfl, 0, by kernel_rfl⟩
theorem O102 : IsOne Try.prog 102 := ⟨⟨_, Try.underlying102, rfl⟩, by kernel_rfl⟩
theorem S102 : IsSlice Try.prog 102 109 := Try.underlying102
theorem F169_0 : FieldAt Try.prog 169 0 0 := ⟨_,_, Try.underlying169, rfl, rfl, 0, by kernel_rfl⟩
theorem F169_1 : FieldAt Try.prog 169 1 1 := ⟨_,_, Try.underlying169, rfl, rfl, 0, by kernel_rfl⟩
theorem B109 : Builds Try.prog 109 [(0,1), (1,1), (2,1), (3,1), (4,1), (5,1)] [.int .i64 0, .int .i64 0, .slice none 0 0, .int .i64 0, .slice none 0 0, .slice none 0 0] := Builds.mk fun _ => by kernel_rfl
theorem Z109 : ZeroOf Try.prog 109 (.agg #[.int .i64 0, .int .i64 0, .slice none 0 0, .int .i64 0, .slice none 0 0, .slice none 0 0]) := by unfold ZeroOf; kernel_rfl
theorem N109 : (Try.prog.info? 109).map (·.size) = some 6 := by kernel_rfl
theorem I109 : EInfo Try.prog 109 6 96 (.agg #[.int .i64 0, .int .i64 0, .slice none 0 0, .int .i64 0, .slice none 0 0, .slice none 0 0]) := ⟨by kernel_rfl, by kernel_rfl, by unfold ZeroOf; kernel_rfl, rfl, by decide⟩
theorem N102 : (Try.prog.info? 102).map (·.size) = some 1 := by kernel_rfl
theorem A169 : IsAgg Try.prog 169 2 := ⟨⟨_, Try.underlying169, rfl⟩, by kernel_rfl⟩


abbrev bkR (b : Nat) (h : BkH) (la : Int) (q : BkQ) (pt : Option Addr) (ct : Nat) (kd : Nat → Int) (tk : List TkR) (of : Nat × Nat → Option Nat) : List Res :=
  [blk b (.cells (bkC h la q pt tk.length ct kd).toArray 119), own 109 6 pt ct (tk.map TkR.cells), bagD (tk.map TkR.aR), mapR plV niV h.bm (ofI of)]
structure BgY where
  pt : Option Addr
  ct : Nat
  ap : Option Addr
  ac : Nat
def newT (kind : Int) (N j : Nat) (ap : Option Addr) (ac : Nat) (pp : Option Addr) (pc : Nat) (pa : List Nat) : TkR := ⟨kind, N, ap, ac, [j], 0, pp, pc, pa, none, 0, []⟩
theorem bag_new {β : Bs} {L : List Res} {tk : List TkR} {kind : Int} {N j b pc : Nat} {pp : Option Addr} {pa : List Nat} {w : World} (h : St β (own 3 1 (some ⟨b, 0, none⟩) 1 [nC j] :: bagD (tk.map TkR.aR) :: L) w) : St β (bagD ((tk ++ [newT kind N j (some ⟨b, 0, none⟩) 1 pp pc pa]).map TkR.aR) :: L) w := by
  rw [List.map_append]; exact St.bagAdd h
set_option maxRecDepth 20000 in
set_option maxHeartbeats 4000000 in
theorem begin_c (b : Nat) (h : BkH) (la : Int) (q : BkQ) (pt : Option Addr) (ct : Nat) (kd : Nat → Int) (tk : List TkR) (of : Nat × Nat → Option Nat) (kind : Int) (N j : Nat) (pp : Option Addr) (pc : Nat) (pa : List Nat) (w : World) (hh : Has w (bkR b h la q pt ct kd tk of)) (hl : tk.length ≤ 1000000) :
  Calls Try.prog 119 #[.pointer (some ⟨b, 0, none⟩), .int .i64 kind, .agg #[.int .i64 (N : Int), .int .i64 (j : Int)], .slice pp pa.length pc] w fun e w' => ∃ y : BgY, True ∧ e = .returned (.int .i64 (tk.length : Int)) ∧ St ⟨w, fpL (bkR b h la q pt ct kd tk of)⟩ (bkR b h la q y.pt y.ct kd (tk ++ [newT kind N j y.ap y.ac pp pc pa]) (updG of (N, j) tk.length)) w' := by
  refine enterO (vs := [_,_,_,_]) (env := [(0,_), (1,_), (2,_), (3,_)]) hh.enter Try.func119 rfl rfl rfl rfl ?_
  refine VC.seq ?_
  refine VC.reg (VO.h rfl<|HO.box (C := #[_,_]) rfl rfl fun b5 => VO.l (LO.as (.r rfl)) rfl<|VO.nil ?_)
  refine VE.seqN ?_
  refine VC.seq ?_
  refine VC.reg (VO.l (LO.mv (.r rfl)) rfl<|VO.l (LO.nc (.r rfl)) rfl<|VO.l (LO.fa (r := 9) F119_5 (.r rfl) rfl) rfl<|VO.l (LO.ld O102 (.r rfl) (fun _ hw => cells_at hw 1 rfl ⟨_, rfl⟩)) rfl<|VO.l (LO.len S102 (.r rfl) rfl) rfl<|VO.l (LO.as (.r rfl)) rfl<|VO.nil ?_)
  refine VE.seqN ?_
  refine VC.seq ?_
  refine VC.drawH [[0,1,2,3,4], [0,1,2,3,4], [0,1,2,3,4], [0,1,2,3,4], [0,1,3,4], [0,3,4]] [some 4, some 3, some 3, some 3, some 3, some 1, some 1, some 1, some 0, some 0, none, some 1, none, none, none, some 4, some 4, none] mixed (by kernel_rfl) rfl (LX.l (fun _ hJ => LO.mv (.r rfl)) rfl<|LX.l (fun _ hJ => LO.mv (.r rfl)) rfl<|LX.l (fun _ hJ => LO.nc (.r rfl)) rfl<|LX.l (fun _ hJ => LO.fa (r := 9) F119_5 (.r rfl) rfl) rfl<|LX.l (fun _ hJ => LO.ld O102 (.r rfl) (fun _ hw => cells_at (hJ _ hw) 1 rfl ⟨_, rfl⟩)) rfl<|LX.l (fun _ hJ => LO.mv (.r rfl)) rfl<|LX.l (fun _ hJ => LO.fa (r := 0) F169_0 (.r rfl) rfl) rfl<|LX.l (fun _ hJ => LO.ld O3 (.r rfl) (fun _ hw => cells_at (hJ _ hw) 0 rfl ⟨_, rfl⟩)) rfl<|LX.l (fun _ hJ => LO.fa (r := 1) F169_1 (.r rfl) rfl) rfl<|LX.l (fun _ hJ => LO.ld O3 (.r rfl) (fun _ hw => cells_at (hJ _ hw) 0 rfl ⟨_, rfl⟩)) rfl<|LX.s<|LX.l (fun _ hJ => LO.mv (.r rfl)) rfl<|LX.s<|LX.s<|LX.s<|LX.l (fun _ hJ => LO.nc (.r rfl)) rfl<|LX.l (fun _ hJ => LO.fa (r := 9) F119_5 (.r rfl) rfl) rfl<|LX.s<|LX.nil) (HX.s<|HX.s<|HX.s<|HX.s<|HX.s<|HX.s<|HX.s<|HX.s<|HX.s<|HX.s<|HX.h rfl<|HO.bs (ps := [(_,_)]) (vs := [(_,_)]) (Z := [_]) (C := [_]) S40 Z3 N3 ⟨(.r rfl), trivial⟩ rfl rfl rfl rfl ⟨_, [_], [_], rfl, rfl, rfl, rfl, rfl⟩ fun b9 => ⟨fun _ hw => hw.sel [1,2,3,4,5] rfl, HX.s<|HX.h rfl<|HO.lo (LO.bd (ps := [(_,_), (_,_), (_,_), (_,_)]) (vs := [(_,_), (_,_), (_,_), (_,_)]) (C := [_,_,_,_,_,_]) B109  ⟨(.r rfl), (.r rfl), (.r rfl), (.r rfl), trivial⟩ rfl ⟨_, [_], [_,_,_,_,_,_], rfl, rfl, rfl, rfl, ⟨_, [_], [_,_,_,_,_,_], rfl, rfl, rfl, rfl, ⟨_, [_], [_,_,_,_,_,_], rfl, rfl, rfl, rfl, ⟨_, [_], [_,_,_,_,_,_], rfl, rfl, rfl, rfl, rfl⟩⟩⟩⟩)<|⟨fun _ hw => hw.sel [1,2,3,4,5] rfl, HX.h rfl<|HO.bs (ps := [(_,_)]) (vs := [(_,_)]) (Z := [_,_,_,_,_,_]) (C := [_,_,_,_,_,_]) S102 Z109 N109 ⟨(.r rfl), trivial⟩ rfl rfl rfl rfl ⟨_, [_,_,_,_,_,_], [_,_,_,_,_,_], rfl, rfl, rfl, rfl, rfl⟩ fun b10 => ⟨fun _ hw => hw.sel [2,3,4,5,6] rfl, HX.h rfl<|HO.appT (newT kind N j (some ⟨b9,0, none⟩) 1 pp pc pa) 4 0 (fun R => [_,_,_,_, R,_,_]) S102 S102 I109 (.r rfl) (.r rfl) rfl rfl rfl rfl rfl rfl rfl (fun _ => rfl) rfl (by omega) fun p14 c14 => ⟨fun _ hw => hw.sel [2,3,5,6] rfl, HX.s<|HX.s<|HX.h0<|HO.st 3 (vs := [_]) (C' := [_,_,_,_,_,_,_,_,_,_,_,_,_,_,_,_,_,_,_]) (L' := [_,_,_,_,_,_,_]) N102 rfl rfl rfl rfl rfl rfl rfl rfl<|⟨fun _ hw => hw.sel [2,5,6] rfl, HX.nil ?_⟩⟩⟩⟩⟩)
  refine VE.seqN ?_
  refine VC.seq ?_
  refine VC.res (fun w hw => bag_new (kind := kind) (N := N) (pp := pp) (pc := pc) (pa := pa) (St.blkOwn1 (v := nC j) (z := 1) 0 rfl rfl (selK (L1 := [_,_,_,_,_,_,_]) [1,5,0,2,3,4,6] rfl rfl _ hw))) ?_
  show VC _ _ _ _ _ _ [bagD ((tk ++ [newT kind N j (some ⟨b9,0, none⟩) 1 pp pc pa]).map TkR.aR),_,_,_,_,_] _ _
  refine VC.drawH [[0,1,2,3,4,5], [0,1,2,3,4]] [some 0, some 0, some 0, some 0, some 0, some 0, none] mixed (by kernel_rfl) rfl (LX.l (fun _ hJ => LO.mv (.r rfl)) rfl<|LX.l (fun _ hJ => LO.nc (.r rfl)) rfl<|LX.l (fun _ hJ => LO.fa (r := 10) F119_6 (.r rfl) rfl) rfl<|LX.l (fun _ hJ => LO.ld O116 (.r rfl) (fun _ hw => cells_at (hJ _ hw) 3 rfl ⟨_, rfl⟩)) rfl<|LX.l (fun _ hJ => LO.lda (vs := [_,_]) A169 (.r rfl) (fun _ hw => cells_at (hJ _ hw) 2 rfl ⟨_, rfl⟩) rfl) rfl<|LX.l (fun _ hJ => LO.mv (.r rfl)) rfl<|LX.s<|LX.nil) (HX.s<|HX.s<|HX.s<|HX.s<|HX.s<|HX.s<|HX.h0<|HO.mupG 5 (fun R => [_,_,_,_,_, R]) ((N : Int), (j : Int)) tk.length M116 (.r rfl) (.r rfl) (.r rfl) rfl (fun _ => rfl)<|⟨fun _ hw => hw.sel [0,1,2,3,4] rfl, HX.nil ?_⟩)
  rw [ofI_upd]
  refine VE.seqN ?_
  refine VC.seq ?_
  refine VC.reg (VO.l (LO.mv (.r rfl)) rfl<|VO.l (LO.as (.r rfl)) rfl<|VO.nil ?_)
  refine VE.seqN ?_
  refine VC.ret (VE.res (vs := [_]) rfl ⟨rfl, trivial⟩ (fun w hw => ?_))
  exact ⟨⟨p14, c14, some ⟨b9,0, none⟩, 1⟩, trivial, rfl, selK [3,4,0,5] rfl rfl _ hw⟩

end Go.Proofs.Ytgemekpofpoopaa
