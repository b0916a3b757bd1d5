/-
  Areas, by the program.
  Areas and Joined, by the program.
  Walks of package beam: heights of a network.
  Walks of package beam: rays and gates of a network.
  Walks of package beam: gates, places, views of a network.
  Walks of package mosaic: what a radar sees is looked up.
  Walks of package mosaic: what a node hears at a time.
  Walks of package mosaic: what is asked of a node.
-/
import Derived.Test.YtffbohecdocajaaGreatKNT09

set_option linter.unusedSimpArgs false
namespace Go.Proofs.YtffbohecdocajaaGreat
open Go.SL Go.Proofs Go.Cast Go.Cell
set_option linter.unusedVariables false

theorem C175 : IsFn Tryz.prog 175 := ⟨_, Tryz.func175, by decide, rfl⟩
theorem C177 : IsFn Tryz.prog 177 := ⟨_, Tryz.func177, by decide, rfl⟩
theorem Z88 : ZeroOf Tryz.prog 88 (.agg #[.int .i64 0, .int .i64 0, .int .i64 0, .int .i64 0, .int .i64 0]) := by unfold ZeroOf; kernel_rfl
theorem N88 : (Tryz.prog.info? 88).map (·.size) = some 5 := by kernel_rfl
theorem C174 : IsFn Tryz.prog 174 := ⟨_, Tryz.func174, by decide, rfl⟩
theorem S155 : IsSlice Tryz.prog 155 160 := Tryz.underlying155
theorem I160 : EInfo Tryz.prog 160 8 96 (.agg #[.slice none 0 0, .slice none 0 0, .int .i64 0, .int .i64 0, .int .i64 0, .int .i64 0, .int .i64 0, .int .i64 0]) := ⟨by kernel_rfl, by kernel_rfl, by unfold ZeroOf; kernel_rfl, rfl, by decide⟩
theorem B160 : Builds Tryz.prog 160 [(0,1), (1,1), (2,2), (4,2), (6,2)] [.slice none 0 0, .slice none 0 0, .int .i64 0, .int .i64 0, .int .i64 0, .int .i64 0, .int .i64 0, .int .i64 0] := Builds.mk fun _ => by kernel_rfl
theorem Z160 : ZeroOf Tryz.prog 160 (.agg #[.slice none 0 0, .slice none 0 0, .int .i64 0, .int .i64 0, .int .i64 0, .int .i64 0, .int .i64 0, .int .i64 0]) := by unfold ZeroOf; kernel_rfl
theorem N160 : (Tryz.prog.info? 160).map (·.size) = some 8 := by kernel_rfl
theorem F160_2 : FieldAt Tryz.prog 160 2 2 := ⟨_,_, Tryz.underlying160, rfl, rfl, 1, by kernel_rfl⟩
theorem C176 : IsFn Tryz.prog 176 := ⟨_, Tryz.func176, by decide, rfl⟩
theorem F160_3 : FieldAt Tryz.prog 160 3 4 := ⟨_,_, Tryz.underlying160, rfl, rfl, 1, by kernel_rfl⟩
theorem F160_4 : FieldAt Tryz.prog 160 4 6 := ⟨_,_, Tryz.underlying160, rfl, rfl, 1, by kernel_rfl⟩
theorem A160 : IsAgg Tryz.prog 160 8 := ⟨⟨_, Tryz.underlying160, rfl⟩, by kernel_rfl⟩
theorem F160_1 : FieldAt Tryz.prog 160 1 1 := ⟨_,_, Tryz.underlying160, rfl, rfl, 0, by kernel_rfl⟩
theorem O158 : IsOne Tryz.prog 158 := ⟨⟨_, Tryz.underlying158, rfl⟩, by kernel_rfl⟩
theorem N158 : (Tryz.prog.info? 158).map (·.size) = some 1 := by kernel_rfl


structure ArY where
  l : List AreaR
  p : Option Addr
  c : Nat
  rs : List (RowA Nat)
  pr : Option Addr
  cr : Nat
  ks : List (RowA Nat)
  pk : Option Addr
  ck : Nat
  po : Option Addr
  co : Nat
  o2 : List Int
  p2 : Option Addr
  c2 : Nat
/-- What areas own. -/
def ArY.R (y : ArY) (of : List Int) : List Res := [own 160 8 y.p y.c (y.l.map AreaR.cells), bagD (y.l.map AreaR.kR), own 112 1 y.pk y.ck (y.ks.map rowC), bagR 3 1 nC y.ks, own 3 1 y.p2 y.c2 (y.o2.map iC), own 112 1 y.pr y.cr (y.rs.map rowC), bagR 3 1 nC y.rs, own 3 1 y.po y.co (of.map iC)]
structure ArP (W H : Nat) (vs : List Spanv) (lv : Int) (y : ArY) : Prop where
  m : y.l.map AreaR.m = areasM W H vs lv
  px : y.l.map AreaR.px = y.rs
  kr : ∀ a, a ∈ y.l → ∀ k, k ∈ a.kr → k ∈ y.ks
theorem RR.row {α : Type} {z : Nat} {f : α → List Value} {w : World} {p : Option Addr} {rs : List (RowA α)} {i : Nat} {r : RowA α} (h : RR z f w p rs) (hr : rs[i]? = some r) : RO z f w r.p r.l := (h.2 r (List.mem_of_getElem? hr)).2
theorem RR.cell {α : Type} {z : Nat} {f : α → List Value} {w : World} {p : Option Addr} {rs : List (RowA α)} {i : Nat} {r : RowA α} (h : RR z f w p rs) (hr : rs[i]? = some r) : Cells w ⟨pb p, po p + i * 1, none⟩ (rowC r) := h.1.cells i _ (by rw [List.getElem?_map, hr]; rfl)
theorem RO.cel {α : Type} {z : Nat} {f : α → List Value} {w : World} {p : Option Addr} {l : List α} {i : Nat} {r : α} (h : RO z f w p l) (hr : l[i]? = some r) : Cells w ⟨pb p, po p + i * z, none⟩ (f r) := h.cells i _ (by rw [List.getElem?_map, hr]; rfl)

theorem ofL_len {W H : Nat} {S : Nat → Bool} : (ofL W H S).length = W * H := by unfold ofL; simp
theorem map_get {α β : Type} {f : α → β} {l : List α} {i : Nat} {a : α} (h : l[i]? = some a) : (l.map f)[i]? = some (f a) := by rw [List.getElem?_map, h]; rfl
theorem bag_none {β : Bs} {L : List Res} {w : World} {W : Nat} {vs : List Spanv} {lv : Int} {rs : List (RowA Nat)} (h : St β L w) : St β (bagD ((rs.map (areaOf W vs lv)).map AreaR.kR) :: L) w := by
  have key : ∀ r, r ∈ (rs.map (areaOf W vs lv)).map AreaR.kR → (∀ k, ¬ r.fp k) ∧ r.inv w := fun r hr => by
    obtain ⟨a, ha, rfl⟩ := List.mem_map.1 hr
    obtain ⟨x,_, rfl⟩ := List.mem_map.1 ha
    exact ⟨fun k hk => hk.1 rfl, ⟨by simp [areaOf], fun r hr => by simp [areaOf] at hr, fun _ => ⟨by simp [areaOf], rfl⟩, fun a ha => by cases ha⟩⟩
  refine St.bagD (st_mk h.os h.tape h.output h.size h.fr (fun r hr => ?_) (fun r hr k hk => ?_) ?_)
  · rcases List.mem_append.1 hr with q | q
    · exact (key r q).2
    · exact h.mem q
  · rcases List.mem_append.1 hr with q | q
    · exact absurd hk ((key r q).1 k)
    · exact h.rngM q k hk
  · refine List.pairwise_append.2 ⟨?_, h.pw, fun r hr s hs k hk => absurd hk ((key r hr).1 k)⟩
    have : ∀ r, r ∈ (rs.map (areaOf W vs lv)).map AreaR.kR → ∀ k, ¬ r.fp k := fun r hr => (key r hr).1
    exact List.pairwise_iff_getElem.2 fun i j hi hj _ k hk => absurd hk (this _ (List.getElem_mem hi) k)
theorem divb {g : Grid} (h : gridOk g) {p : Nat} (hp : p < gW g * gH g) : (0 : Int) ≤ ((p / gW g : Nat) : Int) ∧ ((p / gW g : Nat) : Int) ≤ 64 := by
  have h1 := row_lt hp
  have h2 := (gWi h).2.2.2.2.2
  exact ⟨Int.natCast_nonneg _, by have : p / gW g ≤ 64 := by omega
                                  exact_mod_cast this⟩

/-- A part that was found has pixels, all of the grid. -/
theorem part_facts {W H : Nat} {S : Nat → Bool} {rs : List (RowA Nat)} {i : Nat} {r : RowA Nat} (h : rs.map RowA.l = partsL W H S) (hr : rs[i]? = some r) : ∃ p0, r.l[0]? = some p0 ∧ p0 < W * H ∧ (0 < r.l.length ∧ r.l.length ≤ W * H ∧ r.l.headD 0 = p0) ∧ ∀ p, p ∈ r.l → p < W * H := by
  have h1 : r.l ∈ partsL W H S := by rw [← h]; exact List.mem_map_of_mem (List.mem_of_getElem? hr)
  obtain ⟨p, hp, hs, e⟩ := mem_partsTo (p := W * H) h1
  have hne : r.l ≠ [] := by rw [e]; exact compL_ne hp
  have hall : ∀ q, q ∈ r.l → q < W * H := fun q hq => by rw [e] at hq; exact compL_lt hp hq
  have hlen : r.l.length ≤ W * H := by
    have hn : r.l.Nodup := by rw [e]; exact (compL_sorted hp).imp fun h => Nat.ne_of_lt h
    have := length_le_of_subset (m := List.range (W * H)) hn (fun x hx => List.mem_range.2 (hall x hx))
    simpa using this
  cases hq : r.l with
  | nil => exact absurd hq hne
  | cons a l =>
    rw [hq] at hall hlen
    exact ⟨a, rfl, hall a (by simp), ⟨by simp, hlen, rfl⟩, hall⟩

set_option maxRecDepth 20000 in
set_option maxHeartbeats 8000000 in
theorem areas_c (g : Grid) (vs : List Spanv) (pv : Option Addr) (cv : Nat) (lv : Int) (w : World) (hg : gridOk g) (hlen : (vs.length : Int) = g.wide * g.high) (hok : ∀ j, j < vs.length → spanOk 1073741824 (vs.getD j ⟨0,0⟩)) (hv : Spansv w pv vs) :
  Calls Tryz.prog 110 #[sheetV g pv vs.length cv lv] w fun e w' => ∃ y : ArY, ArP (gW g) (gH g) vs lv y ∧ e = .returned (.tuple #[.slice y.p y.l.length y.c, .slice y.po (gW g * gH g) y.co]) ∧ St (bs w) (y.R (ofL (gW g) (gH g) (mayB vs lv))) w' := by
  have har := area_le hg
  obtain ⟨hW, hH, hW1, hW2, hH1, hH2⟩ := gWi hg
  have hvl : vs.length = gW g * gH g := len_n hg hlen
  refine enter (vs := [_]) (env := [(0,_)]) Tryz.func110 rfl rfl rfl rfl ?_
  refine VC.seq ?_
  refine VC.reg (VO.h rfl<|HO.box (C := #[_,_,_,_,_,_,_]) rfl rfl fun b1 => VO.l (LO.as (.r rfl)) rfl<|VO.l (LO.as (.r rfl)) rfl<|VO.nil ?_)
  refine VE.seqN ?_
  refine VC.seq ?_
  refine VC.reg (VO.l (LO.fa (r := 0) F304_0 (.r rfl) rfl) rfl<|VO.l (LO.fa (r := 0) F108_0 (.r rfl) rfl) rfl<|VO.l (LO.lda (vs := [_,_,_,_,_]) A88v (.r rfl) (fun _ hw => cells_at hw 0 rfl ⟨_, rfl⟩) rfl) rfl<|VO.h rfl<|HO.alloc (C := #[_,_,_,_,_]) Z88 rfl fun b2 => VO.h0<|HO.st 0 (vs := [_,_,_,_,_]) (C' := [_,_,_,_,_]) (L' := [_,_]) N88 rfl rfl rfl rfl rfl rfl rfl rfl<|VO.nil ?_)
  refine VE.seqN ?_
  refine VC.seq ?_
  refine VC.reg (VO.l (LO.lda (vs := [_,_,_,_,_]) A88v (.r rfl) (fun _ hw => cells_at hw 0 rfl ⟨_, rfl⟩) rfl) rfl<|VO.l (LO.lda (vs := [_,_,_,_,_,_,_]) A304 (.r rfl) (fun _ hw => cells_at hw 1 rfl ⟨_, rfl⟩) rfl) rfl<|VO.l (LO.mf2 (first := [_]) (cap := []) ⟨(.r rfl), trivial⟩ trivial) rfl<|VO.h rfl<|HO.callx (xs := [_,_]) (vs := [_,_]) C174 ⟨(.r rfl), (.r rfl), trivial⟩ (fun w hw => parts_c g 175 [sheetV g pv vs.length cv lv] (mayB vs lv) w hg C175 (fun w2 p hp hw2 => may_c g vs pv cv lv p w2 ((hv.keep w hw).keep w2 hw2) (by omega))) fun y1 hy1 => VO.h rfl<|HO.lo (LO.mv (.r rfl))<|VO.h rfl<|HO.lo (LO.ex (.r rfl) rfl)<|VO.h rfl<|HO.lo (LO.ex (.r rfl) rfl)<|VO.h rfl<|HO.lo (LO.as (.r rfl))<|VO.h rfl<|HO.lo (LO.as (.r rfl))<|VO.nil ?_)
  obtain ⟨hyl, hyc⟩ : y1.rs.length ≤ gW g * gH g ∧ True := ⟨by have := congrArg List.length hy1; rw [List.length_map] at this; rw [this]; exact parts_len, trivial⟩
  refine VE.seqN ?_
  refine VC.seq ?_
  refine VC.rebase fun w1 hst1 => ?_
  have hRR : RR 1 nC w1 y1.p y1.rs := RR.of_own hst1 0 1 rfl rfl
  have hOF : RO 1 iC w1 y1.po (ofL (gW g) (gH g) (mayB vs lv)) := RO.of_own hst1 2 rfl
  have hsh : Cells w1 ⟨b1,0, none⟩ [.int .i64 g.x, .int .i64 g.y, .int .i64 g.size, .int .i64 g.wide, .int .i64 g.high, .slice pv vs.length cv, .int .i64 lv] := cells_invv (hst1.inv 4 _ rfl)
  have hgr : Cells w1 ⟨b2,0, none⟩ (gridC g) := cells_invv (hst1.inv 3 _ rfl)
  have hv1 := hv.keep w1 hst1
  have hofs : SlSome y1.po (gW g * gH g) := by have z := RO.sm hOF; rw [ofL_len] at z; exact z
  refine VC.reg (VO.l (LO.mv (.r rfl)) rfl<|VO.l (LO.len S158 (.r rfl) rfl) rfl<|VO.h rfl<|HO.mksM (f := AreaR.cells) (z0 := arZ) (n := y1.rs.length) rfl S155 I160 (.r rfl) (.r rfl) rfl (by decide) (by omega) (by omega) fun b7 => VO.h rfl<|HO.lo (LO.as (.r rfl))<|VO.nil ?_)
  rw [arsTo_zero (W := gW g) (vs := vs) (lv := lv)]
  refine VE.seqN ?_
  refine VC.seq ?_
  refine VC.seq ?_
  refine VC.reg (VO.l (LO.mv (.r rfl)) rfl<|VO.l (LO.len S158 (.r rfl) rfl) rfl<|VO.l (LO.mv (.r rfl)) rfl<|VO.nil ?_)
  refine VE.seqN ?_
  refine VC.block ?_
  refine VC.loopK (α := Nat) 1 (fun gx => [(35, .int .i64 (gx : Nat))]) [(1,_), (4,_), (6,_), (7,_), (33,_), (34,_)] (fun gx => [own 160 8 (some ⟨b7,0, none⟩) y1.rs.length ((arsTo (gW g) vs lv y1.rs gx).map AreaR.cells)]) (fun gx => gx ≤ y1.rs.length) (fun gx => y1.rs.length - gx) 0 (by exact Nat.zero_le _) (.cons rfl (.cons rfl (.cons rfl (.cons rfl (.cons rfl (.cons rfl (.cons rfl .nil))))))) (fun _ h => h) ?_
  rintro i hi
  refine VC.seq ?_
  refine VC.reg (VO.l (LO.lt (.r rfl) (.r rfl)) rfl<|VO.nil ?_)
  refine VE.seqN ?_
  refine VC.seq ?_
  refine VC.cond rfl (fun h36 => ?_) (fun h36 => ?_)
  ·
    obtain ⟨r, hr⟩ : ∃ r, y1.rs[i]? = some r := ⟨_, List.getElem?_eq_getElem (by omega)⟩
    have hpx := RR.row hRR hr
    obtain ⟨p0, hp0, hp0l, ⟨hrl1, hrl2, rfl⟩, hrm⟩ := part_facts hy1 hr
    refine VC.skip (VE.seqN ?_)
    refine VC.seq ?_
    refine VC.block ?_
    refine VC.seq ?_
    refine VC.reg (VO.l (LO.mv (.r rfl)) rfl<|VO.l (LO.ixs S158 N112v hRR.1.sm (.r rfl) (.r rfl) rfl (by omega)) rfl<|VO.l (LO.ld O112v (.r rfl) (fun w hw => cells_part (off := 0) ((fun w3 h3 => RR.cell (RR.keep hRR w3 h3) hr) w hw) ⟨_, rfl⟩)) rfl<|VO.l (LO.as (.r rfl)) rfl<|VO.l (LO.as (.r rfl)) rfl<|VO.nil ?_)
    refine VE.seqN ?_
    refine VC.seq ?_
    refine VC.draw mixedv (LL.l (LO.mv (.r rfl)) rfl<|LL.l (LO.ixs S112v N3v hpx.sm (.r rfl) (.r rfl) (j := 0) rfl (by omega)) rfl<|LL.l (LO.ld O3v (.r rfl) (fun w hw => cells_part (off := 0) ((fun w3 h3 => RO.cel (RO.keep hpx w3 h3) hp0) w hw) ⟨_, rfl⟩)) rfl<|LL.l (LO.fa (r := 3) F88_3v (.r rfl) rfl) rfl<|LL.l (LO.ld O3v (.r rfl) (cells_keep (sub_cells (off := 3) hgr ⟨_, rfl⟩))) rfl<|LL.l (LO.eqv (LO.rem (.r rfl) (.r rfl) (by omega)) (congrArg (Value.int .i64) (mod_n hg _))) rfl<|LL.l (LO.mv (.r rfl)) rfl<|LL.l (LO.ixs S112v N3v hpx.sm (.r rfl) (.r rfl) (j := 0) rfl (by omega)) rfl<|LL.l (LO.ld O3v (.r rfl) (fun w hw => cells_part (off := 0) ((fun w3 h3 => RO.cel (RO.keep hpx w3 h3) hp0) w hw) ⟨_, rfl⟩)) rfl<|LL.l (LO.fa (r := 3) F88_3v (.r rfl) rfl) rfl<|LL.l (LO.ld O3v (.r rfl) (cells_keep (sub_cells (off := 3) hgr ⟨_, rfl⟩))) rfl<|LL.l (LO.eqv (LO.quo (.r rfl) (.r rfl) (by omega) (wi (by rw [div_n hg]; have := divb hg (p := (r.l.headD 0)) (by omega); omega) (by rw [div_n hg]; have := divb hg (p := (r.l.headD 0)) (by omega); omega))) (congrArg (Value.int .i64) (div_n hg (r.l.headD 0)))) rfl<|LL.l (LO.as (.r rfl)) rfl<|LL.l (LO.as (.r rfl)) rfl<|LL.nil) (by kernel_rfl) ?_
    refine VE.seqN ?_
    refine VC.seq ?_
    refine VC.reg (VO.l (LO.mv (.r rfl)) rfl<|VO.l (LO.mv (.r rfl)) rfl<|VO.l (LO.mv (.r rfl)) rfl<|VO.l (LO.bd (ps := [(_,_), (_,_)]) (vs := [(_,_), (_,_)]) (C := [_,_]) B25v  ⟨(.r rfl), (.r rfl), trivial⟩ rfl ⟨_, [_], [_,_], rfl, rfl, rfl, rfl, ⟨_, [_], [_,_], rfl, rfl, rfl, rfl, rfl⟩⟩) rfl<|VO.l (LO.mv (.r rfl)) rfl<|VO.l (LO.mv (.r rfl)) rfl<|VO.l (LO.bd (ps := [(_,_), (_,_)]) (vs := [(_,_), (_,_)]) (C := [_,_]) B25v  ⟨(.r rfl), (.r rfl), trivial⟩ rfl ⟨_, [_], [_,_], rfl, rfl, rfl, rfl, ⟨_, [_], [_,_], rfl, rfl, rfl, rfl, rfl⟩⟩) rfl<|VO.l (LO.bd (ps := [(_,_), (_,_), (_,_)]) (vs := [(_,_), (_,_), (_,_)]) (C := [_,_,_,_,_,_,_,_]) B160  ⟨(.r rfl), (.r rfl), (.r rfl), trivial⟩ rfl ⟨_, [_], [_,_,_,_,_,_,_,_], rfl, rfl, rfl, rfl, ⟨_, [_,_], [_,_,_,_,_,_,_,_], rfl, rfl, rfl, rfl, ⟨_, [_,_], [_,_,_,_,_,_,_,_], rfl, rfl, rfl, rfl, rfl⟩⟩⟩) rfl<|VO.h rfl<|HO.alloc (C := #[_,_,_,_,_,_,_,_]) Z160 rfl fun b8 => VO.h0<|HO.st 0 (vs := [_,_,_,_,_,_,_,_]) (C' := [_,_,_,_,_,_,_,_]) (L' := [_,_]) N160 rfl rfl rfl rfl rfl rfl rfl rfl<|VO.nil ?_)
    refine VE.seqN ?_
    refine VC.seq ?_
    refine VC.seq ?_
    refine VC.reg (VO.l (LO.mv (.r rfl)) rfl<|VO.l (LO.len S112v (.r rfl) rfl) rfl<|VO.l (LO.mv (.r rfl)) rfl<|VO.nil ?_)
    refine VE.seqN ?_
    refine VC.block ?_
    refine VC.loopK (α := Nat) 1 (fun gx => [(62, .int .i64 (gx : Nat))]) [(1,_), (4,_), (6,_), (7,_), (8,_), (12,_), (33,_), (34,_), (35,_), (60,_), (61,_)] (fun gx => [blk b8 (.cells #[.slice r.p r.l.length r.c, .slice none 0 0, .int .i64 (sumTo (gW g) vs lv r.l gx).xl, .int .i64 (sumTo (gW g) vs lv r.l gx).xh, .int .i64 (sumTo (gW g) vs lv r.l gx).yl, .int .i64 (sumTo (gW g) vs lv r.l gx).yh, .int .i64 (sumTo (gW g) vs lv r.l gx).sl, .int .i64 (sumTo (gW g) vs lv r.l gx).sh] 160)]) (fun gx => gx ≤ r.l.length) (fun gx => r.l.length - gx) 0 (by exact Nat.zero_le _) (.cons rfl (.cons rfl (.cons rfl (.cons rfl (.cons rfl (.cons rfl (.cons rfl (.cons rfl (.cons rfl (.cons rfl (.cons rfl (.cons rfl .nil)))))))))))) (fun _ h => h) ?_
    rintro k hk
    refine VC.seq ?_
    refine VC.reg (VO.l (LO.lt (.r rfl) (.r rfl)) rfl<|VO.nil ?_)
    refine VE.seqN ?_
    refine VC.seq ?_
    refine VC.cond rfl (fun h63 => ?_) (fun h63 => ?_)
    ·
      obtain ⟨p, hpk⟩ : ∃ p, r.l[k]? = some p := ⟨_, List.getElem?_eq_getElem (by omega)⟩
      have hpm := hrm p (List.mem_of_getElem? hpk)
      have hspn := hok p (by omega)
      unfold spanOk at hspn
      have hbd := sumTo_bd (W := gW g) (vs := vs) (lv := lv) (l := r.l) hok (fun q hq => by have := hrm q hq; omega) k (by omega)
      refine VC.skip (VE.seqN ?_)
      refine VC.seq ?_
      refine VC.block ?_
      refine VC.seq ?_
      refine VC.reg (VO.l (LO.ixs S112v N3v hpx.sm (.r rfl) (.r rfl) rfl (by omega)) rfl<|VO.l (LO.ld O3v (.r rfl) (fun w hw => cells_part (off := 0) ((fun w3 h3 => RO.cel (RO.keep hpx w3 h3) hpk) w hw) ⟨_, rfl⟩)) rfl<|VO.l (LO.as (.r rfl)) rfl<|VO.nil ?_)
      refine VE.seqN ?_
      refine VC.seq ?_
      refine VC.drawH [[0,1], [1], [1]] [some 0, some 0, some 0, some 0, some 0, some 0, some 0, some 0, some 0, some 0, some 0, some 0, some 0, some 0, some 0, none, some 1, none] mixedv (by kernel_rfl) rfl (LX.l (fun _ hJ => LO.fa (r := 2) F160_2 (.r rfl) rfl) rfl<|LX.l (fun _ hJ => LO.lda (vs := [_,_]) A25v (.r rfl) (fun _ hw => cells_at (hJ _ hw) 0 rfl ⟨_, rfl⟩) rfl) rfl<|LX.l (fun _ hJ => LO.mv (.r rfl)) rfl<|LX.l (fun _ hJ => LO.fa (r := 3) F88_3v (.r rfl) rfl) rfl<|LX.l (fun _ hJ => LO.ld O3v (.r rfl) (cells_keep (sub_cells (off := 3) hgr ⟨_, rfl⟩))) rfl<|LX.l (fun _ hJ => LO.eqv (LO.rem (.r rfl) (.r rfl) (by omega)) (congrArg (Value.int .i64) (mod_n hg p))) rfl<|LX.l (fun _ hJ => LO.call (xs := [_,_]) (vs := [_,_]) C176 ⟨(.r rfl), (.r rfl), trivial⟩ (fun w _ => hull_c _ _ _ w)) rfl<|LX.l (fun _ hJ => LO.fa (r := 4) F160_3 (.r rfl) rfl) rfl<|LX.l (fun _ hJ => LO.lda (vs := [_,_]) A25v (.r rfl) (fun _ hw => cells_at (hJ _ hw) 0 rfl ⟨_, rfl⟩) rfl) rfl<|LX.l (fun _ hJ => LO.mv (.r rfl)) rfl<|LX.l (fun _ hJ => LO.fa (r := 3) F88_3v (.r rfl) rfl) rfl<|LX.l (fun _ hJ => LO.ld O3v (.r rfl) (cells_keep (sub_cells (off := 3) hgr ⟨_, rfl⟩))) rfl<|LX.l (fun _ hJ => LO.eqv (LO.quo (.r rfl) (.r rfl) (by omega) (wi (by rw [div_n hg]; have := divb hg (p := p) (by omega); omega) (by rw [div_n hg]; have := divb hg (p := p) (by omega); omega))) (congrArg (Value.int .i64) (div_n hg p))) rfl<|LX.l (fun _ hJ => LO.call (xs := [_,_]) (vs := [_,_]) C176 ⟨(.r rfl), (.r rfl), trivial⟩ (fun w _ => hull_c _ _ _ w)) rfl<|LX.l (fun _ hJ => LO.fa (r := 2) F160_2 (.r rfl) rfl) rfl<|LX.s<|LX.l (fun _ hJ => LO.fa (r := 4) F160_3 (.r rfl) rfl) rfl<|LX.s<|LX.nil) (HX.s<|HX.s<|HX.s<|HX.s<|HX.s<|HX.s<|HX.s<|HX.s<|HX.s<|HX.s<|HX.s<|HX.s<|HX.s<|HX.s<|HX.s<|HX.h0<|HO.st 0 (vs := [_,_]) (C' := [_,_,_,_,_,_,_,_]) (L' := [_,_]) N25v rfl rfl rfl rfl rfl rfl rfl rfl<|⟨fun _ hw => hw.sel [1] rfl, HX.s<|HX.h0<|HO.st 0 (vs := [_,_]) (C' := [_,_,_,_,_,_,_,_]) (L' := [_,_]) N25v rfl rfl rfl rfl rfl rfl rfl rfl<|⟨fun _ hw => hw.sel [1] rfl, HX.nil ?_⟩⟩)
      refine VE.seqN ?_
      refine VC.seq ?_
      refine VC.drawH [[0,1], [1]] [some 0, some 0, some 0, some 0, some 0, some 0, some 0, some 0, some 0, some 0, some 0, some 0, some 0, none] mixedv (by kernel_rfl) rfl (LX.l (fun _ hJ => LO.fa (r := 6) F160_4 (.r rfl) rfl) rfl<|LX.l (fun _ hJ => LO.fa (r := 7) F25_1v (.r rfl) rfl) rfl<|LX.l (fun _ hJ => LO.ld O3v (.r rfl) (fun _ hw => cells_at (hJ _ hw) 0 rfl ⟨_, rfl⟩)) rfl<|LX.l (fun _ hJ => LO.fa (r := 0) F304_0 (.r rfl) rfl) rfl<|LX.l (fun _ hJ => LO.fa (r := 5) F108_1 (.r rfl) rfl) rfl<|LX.l (fun _ hJ => LO.ld O45v (.r rfl) (cells_keep (sub_cells (off := 5) hsh ⟨_, rfl⟩))) rfl<|LX.l (fun _ hJ => LO.mv (.r rfl)) rfl<|LX.l (fun _ hJ => LO.ixs S45v N25v hv1.some (.r rfl) (.r rfl) rfl (by omega)) rfl<|LX.l (fun _ hJ => LO.fa F25_1v (.r rfl) rfl) rfl<|LX.l (fun _ hJ => LO.ld O3v (.r rfl) (fun w hw => cells_part (off := 1) ((hv1.at (j := p) (by omega)) w (hJ _ hw)) ⟨_, rfl⟩)) rfl<|LX.l (fun _ hJ => LO.add (.r rfl) (.r rfl) (wi (by omega) (by omega))) rfl<|LX.l (fun _ hJ => LO.fa (r := 6) F160_4 (.r rfl) rfl) rfl<|LX.l (fun _ hJ => LO.fa (r := 7) F25_1v (.r rfl) rfl) rfl<|LX.s<|LX.nil) (HX.s<|HX.s<|HX.s<|HX.s<|HX.s<|HX.s<|HX.s<|HX.s<|HX.s<|HX.s<|HX.s<|HX.s<|HX.s<|HX.h0<|HO.st 0 (vs := [_]) (C' := [_,_,_,_,_,_,_,_]) (L' := [_,_]) N3v rfl rfl rfl rfl rfl rfl rfl rfl<|⟨fun _ hw => hw.sel [1] rfl, HX.nil ?_⟩)
      refine VE.seqN ?_
      refine VC.seq ?_
      refine VC.reg (VO.l (LO.lda (vs := [_,_,_,_,_,_,_]) A304 (.r rfl) (cells_keep (sub_cells (off := 0) hsh ⟨_, rfl⟩)) rfl) rfl<|VO.l (LO.mv (.r rfl)) rfl<|VO.l (LO.call (xs := [_,_]) (vs := [_,_]) C177 ⟨(.r rfl), (.r rfl), trivial⟩ (fun w hw => in_c g vs pv cv lv p w (hv1.keep w hw) (by omega))) rfl<|VO.nil ?_)
      refine VE.seqN ?_
      refine VC.cond rfl (fun h97 => ?_) (fun h97 => ?_)
      ·
        refine VC.drawH [[0,1], [1]] [some 0, some 0, some 0, some 0, some 0, some 0, some 0, some 0, some 0, some 0, some 0, some 0, some 0, none] mixedv (by kernel_rfl) rfl (LX.l (fun _ hJ => LO.fa (r := 6) F160_4 (.r rfl) rfl) rfl<|LX.l (fun _ hJ => LO.fa (r := 6) F25_0v (.r rfl) rfl) rfl<|LX.l (fun _ hJ => LO.ld O3v (.r rfl) (fun _ hw => cells_at (hJ _ hw) 0 rfl ⟨_, rfl⟩)) rfl<|LX.l (fun _ hJ => LO.fa (r := 0) F304_0 (.r rfl) rfl) rfl<|LX.l (fun _ hJ => LO.fa (r := 5) F108_1 (.r rfl) rfl) rfl<|LX.l (fun _ hJ => LO.ld O45v (.r rfl) (cells_keep (sub_cells (off := 5) hsh ⟨_, rfl⟩))) rfl<|LX.l (fun _ hJ => LO.mv (.r rfl)) rfl<|LX.l (fun _ hJ => LO.ixs S45v N25v hv1.some (.r rfl) (.r rfl) rfl (by omega)) rfl<|LX.l (fun _ hJ => LO.fa F25_0v (.r rfl) rfl) rfl<|LX.l (fun _ hJ => LO.ld O3v (.r rfl) (fun w hw => cells_part (off := 0) ((hv1.at (j := p) (by omega)) w (hJ _ hw)) ⟨_, rfl⟩)) rfl<|LX.l (fun _ hJ => LO.add (.r rfl) (.r rfl) (wi (by omega) (by omega))) rfl<|LX.l (fun _ hJ => LO.fa (r := 6) F160_4 (.r rfl) rfl) rfl<|LX.l (fun _ hJ => LO.fa (r := 6) F25_0v (.r rfl) rfl) rfl<|LX.s<|LX.nil) (HX.s<|HX.s<|HX.s<|HX.s<|HX.s<|HX.s<|HX.s<|HX.s<|HX.s<|HX.s<|HX.s<|HX.s<|HX.s<|HX.h0<|HO.st 0 (vs := [_]) (C' := [_,_,_,_,_,_,_,_]) (L' := [_,_]) N3v rfl rfl rfl rfl rfl rfl rfl rfl<|⟨fun _ hw => hw.sel [1] rfl, HX.nil ?_⟩)
        refine VE.inN (VE.seqN ?_)
        refine VC.reg (VO.l (LO.add (.r rfl) (.r rfl) (wi (by omega) (by omega))) rfl<|VO.l (LO.mv (.r rfl)) rfl<|VO.nil ?_)
        have hsc := sumTo_succ (W := gW g) (vs := vs) (lv := lv) hpk
        refine VE.thenN fun a w ha hw => ⟨k + 1, (by omega), (by omega), ha.sub (.cons rfl (.cons rfl (.cons rfl (.cons rfl (.cons rfl (.cons rfl (.cons rfl (.cons rfl (.cons rfl (.cons rfl (.cons rfl (.cons rfl .nil)))))))))))), (by rw [hsc]; first | exact hw | (unfold stepS; dsimp only; rw [if_pos h97]; exact hw) | (unfold stepS; dsimp only; rw [if_neg h97]; exact hw))⟩
      ·
        refine VC.skip (VE.inN (VE.seqN ?_))
        refine VC.reg (VO.l (LO.add (.r rfl) (.r rfl) (wi (by omega) (by omega))) rfl<|VO.l (LO.mv (.r rfl)) rfl<|VO.nil ?_)
        have hsc := sumTo_succ (W := gW g) (vs := vs) (lv := lv) hpk
        refine VE.thenN fun a w ha hw => ⟨k + 1, (by omega), (by omega), ha.sub (.cons rfl (.cons rfl (.cons rfl (.cons rfl (.cons rfl (.cons rfl (.cons rfl (.cons rfl (.cons rfl (.cons rfl (.cons rfl (.cons rfl .nil)))))))))))), (by rw [hsc]; first | exact hw | (unfold stepS; dsimp only; rw [if_pos h97]; exact hw) | (unfold stepS; dsimp only; rw [if_neg h97]; exact hw))⟩
    ·
      have hke : k = r.l.length := by omega
      subst hke
      rw [sumTo_all]
      refine VC.exit (VE.thenX (VE.thenX (VE.inX (VE.seqN ?_))))
      refine VC.reg (VO.l (LO.mv (.r rfl)) rfl<|VO.l (LO.mv (.r rfl)) rfl<|VO.l (LO.lda (vs := [_,_,_,_,_,_,_,_]) A160 (.r rfl) (fun _ hw => cells_at hw 0 rfl ⟨_, rfl⟩) rfl) rfl<|VO.l (LO.ixo S155 N160 (fun _ hw => (own_rows hw 1 rfl).some (by rw [List.length_map]; first | (rw [arsTo_len (by omega)]) | (exact hki.len.symm))) (.r rfl) (.r rfl) rfl (by omega)) rfl<|VO.h0<|HO.stm 1 (fun R => [_, R]) ((areaOf (gW g) vs lv r)) (vs := [_,_,_,_,_,_,_,_]) N160 (.r rfl) (.r rfl) rfl (by rw [arsTo_len (by omega)]; omega) rfl rfl rfl rfl rfl (fun _ => rfl)<|VO.nil ?_)
      rw [arsTo_set hr]
      refine VE.inN (VE.seqN ?_)
      refine VC.reg (VO.l (LO.add (.r rfl) (.r rfl) (wi (by omega) (by omega))) rfl<|VO.l (LO.mv (.r rfl)) rfl<|VO.nil ?_)
      refine VE.thenN fun a w ha hw => ⟨i + 1, (by omega), (by omega), ha.sub (.cons rfl (.cons rfl (.cons rfl (.cons rfl (.cons rfl (.cons rfl (.cons rfl .nil))))))), hw.sel [1] rfl⟩
  ·
    have hie : i = y1.rs.length := by omega
    subst hie
    rw [arsTo_all]
    refine VC.exit (VE.thenX (VE.thenX (VE.inX (VE.seqN ?_))))
    refine VC.seq ?_
    refine VC.reg (VO.l (LO.lda (vs := [_,_,_,_,_]) A88v (.r rfl) (cells_keep (sub_cells (off := 0) hgr ⟨_, rfl⟩)) rfl) rfl<|VO.l (LO.lda (vs := [_,_,_,_,_,_,_]) A304 (.r rfl) (cells_keep (sub_cells (off := 0) hsh ⟨_, rfl⟩)) rfl) rfl<|VO.l (LO.mf2 (first := [_]) (cap := []) ⟨(.r rfl), trivial⟩ trivial) rfl<|VO.h rfl<|HO.callx (xs := [_,_]) (vs := [_,_]) C174 ⟨(.r rfl), (.r rfl), trivial⟩ (fun w hw => parts_c g 177 [sheetV g pv vs.length cv lv] (inBv vs lv) w hg C177 (fun w2 p hp hw2 => in_c g vs pv cv lv p w2 ((hv1.keep w hw).keep w2 hw2) (by omega))) fun y2 hy2 => VO.h rfl<|HO.lo (LO.mv (.r rfl))<|VO.h rfl<|HO.lo (LO.ex (.r rfl) rfl)<|VO.h rfl<|HO.lo (LO.ex (.r rfl) rfl)<|VO.h rfl<|HO.lo (LO.as (.r rfl))<|VO.h rfl<|HO.lo (LO.as (.r rfl))<|VO.nil ?_)
    have hyl2 : y2.rs.length ≤ gW g * gH g := by have := congrArg List.length hy2; rw [List.length_map] at this; rw [this]; exact parts_len
    refine VE.seqN ?_
    refine VC.seq ?_
    refine VC.seq ?_
    refine VC.res (L' := [own 160 8 (some ⟨b7,0, none⟩) y1.rs.length ((y1.rs.map (areaOf (gW g) vs lv)).map AreaR.cells)] ++ [_,_,_]) (selK [3,0,1,2] rfl rfl) ?_
    refine VC.rebaseO fun w2 hst2 => ?_
    have hofk : ∀ {L : List Res} {w3 : World}, St ⟨w2, fpL [own 160 8 (some ⟨b7,0, none⟩) y1.rs.length ((y1.rs.map (areaOf (gW g) vs lv)).map AreaR.cells)]⟩ L w3 → RO 1 iC w3 y1.po (ofL (gW g) (gH g) (mayB vs lv)) := fun h => RO.keep hOF _ (St.fz hst2 h)
    have hkk : ∀ {L : List Res} {w3 : World}, St ⟨w2, fpL [own 160 8 (some ⟨b7,0, none⟩) y1.rs.length ((y1.rs.map (areaOf (gW g) vs lv)).map AreaR.cells)]⟩ L w3 → RR 1 nC w3 y2.p y2.rs := fun h => RR.of_own (St.rightOf (St.fz hst2 h)) 0 1 rfl rfl
    have hks : RR 1 nC w2 y2.p y2.rs := RR.of_own (St.rightOf hst2) 0 1 rfl rfl
    refine VC.res (fun w hw => bag_none (W := gW g) (vs := vs) (lv := lv) (rs := y1.rs) hw) ?_
    show VC _ _ _ _ _ _ [bagD ((y1.rs.map (areaOf (gW g) vs lv)).map AreaR.kR), own 160 8 (some ⟨b7,0, none⟩) y1.rs.length ((y1.rs.map (areaOf (gW g) vs lv)).map AreaR.cells)] _ _
    refine VC.reg (VO.l (LO.mv (.r rfl)) rfl<|VO.l (LO.len S158 (.r rfl) rfl) rfl<|VO.l (LO.mv (.r rfl)) rfl<|VO.nil ?_)
    refine VE.seqN ?_
    refine VC.block ?_
    refine VC.perm [1,0] rfl ?_
    refine VC.loopK (α := Nat × (List AreaR)) 2 (fun gx => [(126, .int .i64 (gx.1 : Nat))]) [(6,_), (7,_), (124,_), (125,_)] (fun gx => [own 160 8 (some ⟨b7,0, none⟩) y1.rs.length (gx.2.map AreaR.cells), bagD (gx.2.map AreaR.kR)]) (fun gx => gx.1 ≤ y2.rs.length ∧ KInv (gW g) vs lv y1.rs y2.rs gx.1 gx.2) (fun gx => y2.rs.length - gx.1) (0, (y1.rs.map (areaOf (gW g) vs lv))) (by exact ⟨Nat.zero_le _, KInv.zero⟩) (.cons rfl (.cons rfl (.cons rfl (.cons rfl (.cons rfl .nil))))) (fun _ h => h) ?_
    rintro ⟨j, l⟩ ⟨hj, hki⟩
    show VC _ _ _ _ _ ([(126, .int .i64 (j : Nat))] ++ _) ([own 160 8 (some ⟨b7,0, none⟩) y1.rs.length (l.map AreaR.cells), bagD (l.map AreaR.kR)] ++ _) _ _
    dsimp only at hj hki
    refine VC.seq ?_
    refine VC.reg (VO.l (LO.lt (.r rfl) (.r rfl)) rfl<|VO.nil ?_)
    refine VE.seqN ?_
    refine VC.seq ?_
    refine VC.cond rfl (fun h127 => ?_) (fun h127 => ?_)
    ·
      obtain ⟨kr, hk⟩ : ∃ kr, y2.rs[j]? = some kr := ⟨_, List.getElem?_eq_getElem (by omega)⟩
      obtain ⟨hk1, hk2, hk3, ix, hix, hixl, hixm⟩ := kern_ix (rs := y1.rs) (vs := vs) (lv := lv) (fun j hj => hok j (by omega)) hy1 hy2 hk
      have hk0 : kr.l[0]? = some (kr.l.getD 0 0) := by rw [List.getD_eq_getElem?_getD, List.getElem?_eq_getElem hk1]; rfl
      obtain ⟨aa, haa⟩ : ∃ a, l[ix]? = some a := ⟨_, List.getElem?_eq_getElem (by rw [hki.len]; exact hixl)⟩
      have hain : kr.l.headD 0 ∈ aa.px.l := hixm aa.px (by rw [← hki.px, List.getElem?_map, haa]; rfl)
      have hk4 : aa.kr.length ≤ j := by rw [hki.kr aa (List.mem_of_getElem? haa)]; exact Nat.le_trans (List.length_filter_le _ _) (by rw [List.length_take]; omega)
      refine VC.skip (VE.seqN ?_)
      refine VC.seq ?_
      refine VC.block ?_
      refine VC.seq ?_
      refine VC.reg (VO.l (LO.ixs S158 N112v hks.1.sm (.r rfl) (.r rfl) rfl (by omega)) rfl<|VO.l (LO.ld O112v (.r rfl) (fun w hw => cells_part (off := 0) ((fun w3 h3 => RR.cell (hkk h3) hk) w hw) ⟨_, rfl⟩)) rfl<|VO.l (LO.as (.r rfl)) rfl<|VO.nil ?_)
      refine VE.seqN ?_
      refine VC.seq ?_
      refine VC.reg (VO.l (LO.mv (.r rfl)) rfl<|VO.l (LO.mv (.r rfl)) rfl<|VO.l (LO.mv (.r rfl)) rfl<|VO.l (LO.ixs S112v N3v (RR.row hks hk).sm (.r rfl) (.r rfl) (j := 0) rfl hk1) rfl<|VO.l (LO.ld O3v (.r rfl) (fun w hw => cells_part (off := 0) ((fun w3 h3 => RO.cel (RR.row (hkk h3) hk) hk0) w hw) ⟨_, rfl⟩)) rfl<|VO.l (LO.ixs S112v N3v hofs (.r rfl) (.r rfl) rfl hk2) rfl<|VO.l (LO.ld O3v (.r rfl) (fun w hw => cells_part (off := 0) ((fun w3 h3 => RO.cel (hofk h3) hix) w hw) ⟨_, rfl⟩)) rfl<|VO.l (LO.ixo S155 N160 (fun _ hw => (own_rows hw 0 rfl).some (by rw [List.length_map]; first | (rw [arsTo_len (by omega)]) | (exact hki.len.symm))) (.r rfl) (.r rfl) rfl hixl) rfl<|VO.l (LO.as (.r rfl)) rfl<|VO.nil ?_)
      refine VE.seqN ?_
      refine VC.res (L' := AreaR.kR aa :: bagD ((l.eraseIdx ix).map AreaR.kR) :: [_]) (fun w hw => St.focusAt (f := AreaR.kR) (selK [1,0] rfl rfl w hw) haa) ?_
      show VC _ _ _ _ _ _ (own 112 1 aa.kp aa.kc (aa.kr.map rowC) :: _) _ _
      refine VC.reg (VO.l (LO.mv (.r rfl)) rfl<|VO.l (LO.mv (.r rfl)) rfl<|VO.l (LO.nc (.r rfl)) rfl<|VO.l (LO.fa F160_1 (.r rfl) rfl) rfl<|VO.l (LO.ld O158 (.r rfl) (fun w hw => cells_part (off := 1) (own_cell hw 2 rfl haa) ⟨_, rfl⟩)) rfl<|VO.l (LO.mv (.r rfl)) rfl<|VO.h rfl<|HO.bs (ps := [(_,_)]) (vs := [(_,_)]) (Z := [_]) (C := [_]) S158 Z112 N112v ⟨(.r rfl), trivial⟩ rfl rfl rfl rfl ⟨_, [_], [_], rfl, rfl, rfl, rfl, rfl⟩ fun b23 => VO.h rfl<|HO.appT (kr) 1 0 (fun R => [_, R,_,_]) S158 S158 I112 (.r rfl) (.r rfl) rfl rfl rfl rfl rfl rfl rfl (fun _ => rfl) rfl (by have := hk4; omega) fun p7 c7 => VO.l (LO.nc (.r rfl)) rfl<|VO.l (LO.fa F160_1 (.r rfl) rfl) rfl<|VO.h0<|HO.sto 3 (fun R => [_,_,_, R]) (o := 1) (vs := [_]) N158 (.r rfl) (.r rfl) rfl (map_get haa) rfl rfl (Nat.le_of_ble_eq_true rfl) rfl (fun _ => rfl)<|VO.nil ?_)
      refine VE.inN (VE.seqN ?_)
      refine VC.reg (VO.l (LO.add (.r rfl) (.r rfl) (wi (by omega) (by omega))) rfl<|VO.l (LO.mv (.r rfl)) rfl<|VO.nil ?_)
      rw [ar_set haa]
      refine VE.thenN fun a w ha hw => ⟨(j + 1, l.set ix { aa with kp := p7, kc := c7, kr := aa.kr ++ [kr] }), ⟨by dsimp only; omega, hki.add hk haa hain (by rw [hy1]; exact parts_apart (Nat.le_refl _))⟩, (by dsimp only; omega), ha.sub (.cons rfl (.cons rfl (.cons rfl (.cons rfl (.cons rfl .nil))))), (by exact selK (L1 := [_,_]) [1,0] rfl rfl _ (St.unfocusAt (f := AreaR.kR) (a := { aa with kp := p7, kc := c7, kr := aa.kr ++ [kr] }) (i := ix) (selK (L1 := AreaR.kR { aa with kp := p7, kc := c7, kr := aa.kr ++ [kr] } :: [_,_]) [1,2,3] rfl rfl _ hw) (by rw [hki.len]; exact hixl)))⟩
    ·
      have hje : j = y2.rs.length := by omega
      subst hje
      refine VC.exit (VE.thenX (VE.thenX (VE.inX (VE.seqN ?_))))
      refine VC.seq ?_
      refine VC.reg (VO.l (LO.mv (.r rfl)) rfl<|VO.l (LO.mv (.r rfl)) rfl<|VO.l (LO.as (.r rfl)) rfl<|VO.l (LO.as (.r rfl)) rfl<|VO.nil ?_)
      refine VE.seqN ?_
      refine VC.ret (VE.res (vs := [_,_]) rfl ⟨rfl, rfl, trivial⟩ (fun w hw => ?_))
      have hE := hki.done hy1 hy2
      have hpxE := hki.px
      have hkrE : ∀ a, a ∈ l → ∀ k, k ∈ a.kr → k ∈ y2.rs := fun a ha k hk => by rw [hki.kr a ha] at hk; exact List.mem_of_mem_take (List.mem_filter.1 hk).1
      have hf := hst1.call (St.fz hst2 (selK (L1 := [_,_]) [0,1] rfl rfl _ hw))
      have hll : y1.rs.length = l.length := hki.len.symm
      exact ⟨⟨l, some ⟨b7,0, none⟩, y1.rs.length, y1.rs, y1.p, y1.c, y2.rs, y2.p, y2.c, y1.po, y1.co, ofL (gW g) (gH g) (inBv vs lv), y2.po, y2.co⟩, ⟨hE, hpxE, hkrE⟩, by rw [← hll]; rfl, selK [0,1,2,3,4,5,6,7] rfl rfl _ hf⟩

end Go.Proofs.YtffbohecdocajaaGreat

namespace Go.Proofs.YtffbohecdocajaaGreat
open Go.SL Go.Proofs Go.Cast Go.Cell
set_option linter.unusedVariables false

theorem C109 : IsFn Tryz.prog 109 := ⟨_, Tryz.func109, by decide, rfl⟩
theorem C110 : IsFn Tryz.prog 110 := ⟨_, Tryz.func110, by decide, rfl⟩
set_option maxRecDepth 20000 in
theorem Areas_ok (g : Grid) (vs : List Spanv) (pv : Option Addr) (cv : Nat) (lv : Int) (w : World) (hv : Spansv w pv vs) (hok : openE g vs lv = 0) :
  Calls Tryz.prog 43 #[fieldV g pv vs.length cv, .int .i64 lv] w fun e w' => ∃ y : ArY, ArP (gW g) (gH g) vs lv y ∧ e = .returned (.tuple #[.slice y.p y.l.length y.c, .int .i64 0]) ∧ St (bs w) (y.R (ofL (gW g) (gH g) (mayB vs lv))) w' := by
  obtain ⟨hg, hlen, hok2, hlv1, hlv2⟩ := openOk hok
  have hvl : vs.length = gW g * gH g := len_n hg hlen
  refine enter (vs := [_,_]) (env := [(0,_), (1,_)]) Tryz.func43 rfl rfl rfl rfl ?_
  refine VC.seq ?_
  refine VC.reg (VO.h rfl<|HO.box (C := #[_,_,_,_,_,_]) rfl rfl fun b1 => VO.l (LO.as (.r rfl)) rfl<|VO.l (LO.as (.r rfl)) rfl<|VO.nil ?_)
  refine VE.seqN ?_
  refine VC.seq ?_
  refine VC.reg (VO.l (LO.lda (vs := [_,_,_,_,_,_]) A108 (.r rfl) (fun _ hw => cells_at hw 0 rfl ⟨_, rfl⟩) rfl) rfl<|VO.l (LO.mv (.r rfl)) rfl<|VO.l (LO.call (xs := [_,_]) (vs := [_,_]) C109 ⟨(.r rfl), (.r rfl), trivial⟩ (fun w hw => opened_ok g vs pv cv lv w (hv.keep w hw) hok)) rfl<|VO.l (LO.mv (.r rfl)) rfl<|VO.l (LO.ex (.r rfl) rfl) rfl<|VO.l (LO.ex (.r rfl) rfl) rfl<|VO.h rfl<|HO.alloc (C := #[_,_,_,_,_,_,_]) Z304 rfl fun b2 => VO.h0<|HO.st 0 (vs := [_,_,_,_,_,_,_]) (C' := [_,_,_,_,_,_,_]) (L' := [_,_]) N304 rfl rfl rfl rfl rfl rfl rfl rfl<|VO.l (LO.as (.r rfl)) rfl<|VO.nil ?_)
  refine VE.seqN ?_
  refine VC.seq ?_
  refine VC.seq ?_
  refine VC.reg (VO.l (LO.mv (.r rfl)) rfl<|VO.l (LO.ne (.r rfl) (.r rfl)) rfl<|VO.nil ?_)
  refine VE.seqN ?_
  refine VC.cond rfl (fun h17 => ?_) (fun h17 => ?_)
  ·
    (exfalso; exact h17 rfl)
  ·
    refine VC.skip (VE.seqN ?_)
    refine VC.seq ?_
    refine VC.reg (VO.l (LO.lda (vs := [_,_,_,_,_,_,_]) A304 (.r rfl) (fun _ hw => cells_at hw 0 rfl ⟨_, rfl⟩) rfl) rfl<|VO.h rfl<|HO.callx (xs := [_]) (vs := [_]) C110 ⟨(.r rfl), trivial⟩ (fun w hw => areas_c g vs pv cv lv w hg hlen hok2 (hv.keep w hw)) fun y hy => VO.h rfl<|HO.lo (LO.mv (.r rfl))<|VO.h rfl<|HO.lo (LO.ex (.r rfl) rfl)<|VO.h rfl<|HO.lo (LO.ex (.r rfl) rfl)<|VO.h rfl<|HO.lo (LO.as (.r rfl))<|VO.h rfl<|HO.lo (LO.as (.r rfl))<|VO.nil ?_)
    refine VE.seqN ?_
    refine VC.seq ?_
    refine VC.reg (VO.l (LO.mv (.r rfl)) rfl<|VO.l (LO.as (.r rfl)) rfl<|VO.l (LO.as (.r rfl)) rfl<|VO.nil ?_)
    refine VE.seqN ?_
    refine VC.ret (VE.res (vs := [_,_]) rfl ⟨rfl, rfl, trivial⟩ (fun w hw => ?_))
    exact ⟨y, hy, rfl, selK [0,1,2,3,4,5,6,7] rfl rfl _ hw⟩

end Go.Proofs.YtffbohecdocajaaGreat

namespace Go.Proofs.YtffbohecdocajaaGreat
open Go.SL Go.Proofs Go.Pulse
set_option linter.unusedVariables false

theorem Z520 : ZeroOf Tryz.prog 520 (.agg #[.int .i64 0, .int .i64 0, .int .i64 0]) := by unfold ZeroOf; kernel_rfl
theorem B520 : Builds Tryz.prog 520 [(0,1), (1,1), (2,1)] [.int .i64 0, .int .i64 0, .int .i64 0] := Builds.mk fun _ => by kernel_rfl
theorem N520 : (Tryz.prog.info? 520).map (·.size) = some 3 := by kernel_rfl
theorem A520 : IsAgg Tryz.prog 520 3 := ⟨⟨_, Tryz.underlying520, rfl⟩, by kernel_rfl⟩
theorem C269 : IsFn Tryz.prog 269 := ⟨_, Tryz.func269, by decide, rfl⟩
theorem F520_0 : FieldAt Tryz.prog 520 0 0 := ⟨_,_, Tryz.underlying520, rfl, rfl, 0, by kernel_rfl⟩
theorem F520_2 : FieldAt Tryz.prog 520 2 2 := ⟨_,_, Tryz.underlying520, rfl, rfl, 0, by kernel_rfl⟩
theorem C270 : IsFn Tryz.prog 270 := ⟨_, Tryz.func270, by decide, rfl⟩
theorem F520_1 : FieldAt Tryz.prog 520 1 1 := ⟨_,_, Tryz.underlying520, rfl, rfl, 0, by kernel_rfl⟩


theorem mul_bd {a b A B : Int} (h0 : 0 ≤ a) (h1 : a ≤ A) (k0 : 0 ≤ b) (k1 : b ≤ B) : 0 ≤ a * b ∧ a * b ≤ A * B := ⟨Int.mul_nonneg h0 k0, mul_le2 h1 k1 k0 (by omega)⟩
/-- The site of a radar. -/
abbrev siR (x : RdM) : List Value := [.string (nmT x.r), .int .i64 x.x, .int .i64 x.y, .int .i64 x.z, .int .i64 2, .int .i64 x.g, .int .i64 1000, .int .i64 0]
/-- A radar is as it should be. -/
structure RdOk (x : RdM) : Prop where
  cx : ∃ n : Nat, n ≤ 7 ∧ x.x = 1000 * (n : Int)
  cy : ∃ n : Nat, n ≤ 7 ∧ x.y = 1000 * (n : Int)
  cz : 0 ≤ x.z ∧ x.z ≤ 255
  cg : 1 ≤ x.g ∧ x.g ≤ 8
theorem RdOk.bd {x : RdM} (h : RdOk x) : (0 ≤ x.x ∧ x.x ≤ 7000) ∧ (0 ≤ x.y ∧ x.y ≤ 7000) := by
  obtain ⟨a, h1, h2⟩ := h.cx
  obtain ⟨b, h3, h4⟩ := h.cy
  omega
theorem nameB_T : ∀ r : Fin 3, nameB (nmT r) = true := by decide +kernel
theorem RdOk.site {x : RdM} (h : RdOk x) : siteE ⟨nmT x.r, x.x, x.y, x.z, 2, x.g, 1000,0⟩ = 0 := by
  have h2 := h.bd
  have h3 := h.cz
  have h4 := h.cg
  refine siteE3 (nameB_T _) ?_
  unfold siteOk
  dsimp only
  omega
theorem up_bd9 (a b : Int) (hb : 0 < b) (h1 : -9223372036854775807 ≤ a) (h2 : a ≤ 9223372036854775807) : (-9223372036854775807 ≤ a.tdiv b ∧ a.tdiv b ≤ 9223372036854775807) ∧ (-9223372036854775807 ≤ a.tdiv b * b ∧ a.tdiv b * b ≤ 9223372036854775807) ∧ (a.tdiv b * b < a → a.tdiv b + 1 = up a b) ∧ (¬ a.tdiv b * b < a → a.tdiv b = up a b) ∧ -9223372036854775807 ≤ up a b ∧ up a b ≤ 9223372036854775807 := by
  obtain ⟨q1, q2, q3, q4, q5, q6⟩ := down_bd (-a) b hb (by omega) (by omega)
  rw [Int.neg_tdiv] at q1 q2 q3 q4
  rw [Int.neg_mul] at q2 q3 q4
  unfold up
  refine ⟨by omega, by omega, fun h => ?_, fun h => ?_, by omega, by omega⟩
  · have := q3 (by omega); omega
  · have := q4 (by omega); omega
structure RndS (u : Bool) (F : Nat) : Prop where
  f : IsFn Tryz.prog F
  c : ∀ (x y : Int) (w : World), -4611686018427387904 ≤ x → x ≤ 4611686018427387904 → 0 < y → Calls Tryz.prog F #[.int .i64 x, .int .i64 y] w fun e w' => e = .returned (.int .i64 (rnd u x y)) ∧ St (bs w) [] w'
theorem sin_bd {t : Int} (h1 : -30 ≤ t) (h2 : t ≤ 30) : (-30720 ≤ sinT t ∧ sinT t ≤ 30720) ∧ (261000 ≤ cosT t ∧ cosT t ≤ 262144) ∧ 262144 ≤ lenT t ∧ lenT t ≤ 263044 := by
  have := tt_bd h1 h2
  unfold sinT cosT lenT; omega
theorem smul_bd {a b A B : Int} (h0 : 0 ≤ a) (h1 : a ≤ A) (k0 : -B ≤ b) (k1 : b ≤ B) (hB : 0 ≤ B) : -(A * B) ≤ a * b ∧ a * b ≤ A * B := by
  constructor
  · have e1 : a * (-B) ≤ a * b := Int.mul_le_mul_of_nonneg_left k0 h0
    have e2 : a * B ≤ A * B := Int.mul_le_mul_of_nonneg_right h1 hB
    rw [Int.mul_neg] at e1; omega
  · exact Int.le_trans (Int.mul_le_mul_of_nonneg_left k1 h0) (Int.mul_le_mul_of_nonneg_right h1 hB)
theorem rnd_abs {u : Bool} {a d B : Int} (hd : 0 < d) (h1 : -B ≤ a) (h2 : a ≤ B) (hB : 0 ≤ B) : -B ≤ rnd u a d ∧ rnd u a d ≤ B := by
  unfold rnd
  split
  · unfold up
    have := ediv_abs (a := -a) (B := B) hd (by omega) (by omega) hB
    omega
  · exact ediv_abs hd h1 h2 hB
theorem ris_bd {u : Bool} {z t j e : Int} (h1 : -30 ≤ t) (h2 : t ≤ 30) (hj : 0 ≤ j) (hj2 : j ≤ 10) (he : 0 < e) (hz : 0 ≤ z ∧ z ≤ 20000) : (0 ≤ reaV u t j ∧ reaV u t j ≤ 10500) ∧ (0 ≤ reaV u t j * reaV u t j ∧ reaV u t j * reaV u t j ≤ 110250000) ∧ (-645120000 ≤ (2 * j + 1) * 1000 * sinT t ∧ (2 * j + 1) * 1000 * sinT t ≤ 645120000) ∧ (-645120000 ≤ rnd u ((2 * j + 1) * 1000 * sinT t) (2 * lenT t) ∧ rnd u ((2 * j + 1) * 1000 * sinT t) (2 * lenT t) ≤ 645120000) ∧ -110250000 ≤ rnd u (reaV u t j * reaV u t j) (2 * e) ∧ rnd u (reaV u t j * reaV u t j) (2 * e) ≤ 110250000 := by
  have r := reaV_bd h1 h2 hj hj2
  have s := sin_bd h1 h2
  have r1 : 0 ≤ reaV u t j ∧ reaV u t j ≤ 10500 := by cases u <;> omega
  have r2 := mul_bd r1.1 r1.2 r1.1 r1.2
  have r3 := smul_bd (a := (2 * j + 1) * 1000) (b := sinT t) (A := 21000) (B := 30720) (by omega) (by omega) (by omega) (by omega) (by omega)
  refine ⟨r1, ⟨r2.1, by omega⟩, ⟨by omega, by omega⟩, rnd_abs (by omega) (by omega) (by omega) (by omega), rnd_abs (by omega) (by omega) (by omega) (by omega)⟩

set_option maxRecDepth 20000 in
theorem bDown_c (a b : Int) (h1 : -9223372036854775807 ≤ a) (h2 : a ≤ 9223372036854775807) (hb : 0 < b) (w : World) :
  Calls Tryz.prog 233 #[.int .i64 a, .int .i64 b] w fun e w' => e = .returned (.int .i64 (a / b)) ∧ St (bs w) [] w' := by
  have ⟨q1, q2, q3, q4, q5⟩ := down_bd a b hb h1 h2
  refine enter (vs := [_,_]) (env := [(0,_), (1,_)]) Tryz.func233 rfl rfl rfl rfl ?_
  refine VC.seq ?_
  refine VC.reg (VO.l (LO.as (.r rfl)) rfl<|VO.nil ?_)
  refine VE.seqN ?_
  refine VC.seq ?_
  refine VC.reg (VO.l (LO.mv (.r rfl)) rfl<|VO.l (LO.mv (.r rfl)) rfl<|VO.l (LO.quo (.r rfl) (.r rfl) (by omega) (wi (by omega) (by omega))) rfl<|VO.l (LO.as (.r rfl)) rfl<|VO.nil ?_)
  refine VE.seqN ?_
  refine VC.seq ?_
  refine VC.seq ?_
  refine VC.reg (VO.l (LO.mv (.r rfl)) rfl<|VO.l (LO.mv (.r rfl)) rfl<|VO.l (LO.mul (.r rfl) (.r rfl) (wi (by omega) (by omega))) rfl<|VO.l (LO.mv (.r rfl)) rfl<|VO.l (LO.gt (.r rfl) (.r rfl)) rfl<|VO.nil ?_)
  refine VE.seqN ?_
  refine VC.cond rfl (fun h1 => ?_) (fun h1 => ?_)
  ·
    refine VC.reg (VO.l (LO.mv (.r rfl)) rfl<|VO.l (LO.sub (.r rfl) (.r rfl) (wi (by omega) (by omega))) rfl<|VO.l (LO.as (.r rfl)) rfl<|VO.nil ?_)
    refine VE.seqN ?_
    refine VC.seq ?_
    refine VC.reg (VO.l (LO.mv (.r rfl)) rfl<|VO.l (LO.as (.r rfl)) rfl<|VO.nil ?_)
    refine VE.seqN ?_
    refine VC.ret (VE.res (vs := [_]) rfl ⟨rfl, trivial⟩ (fun w hw => ?_))
    exact ⟨by simp only [resV]; congr 2; omega, hw.nil⟩
  ·
    refine VC.skip (VE.seqN ?_)
    refine VC.seq ?_
    refine VC.reg (VO.l (LO.mv (.r rfl)) rfl<|VO.l (LO.as (.r rfl)) rfl<|VO.nil ?_)
    refine VE.seqN ?_
    refine VC.ret (VE.res (vs := [_]) rfl ⟨rfl, trivial⟩ (fun w hw => ?_))
    exact ⟨by simp only [resV]; congr 2; omega, hw.nil⟩

set_option maxRecDepth 20000 in
theorem bUp_c (a b : Int) (h1 : -9223372036854775807 ≤ a) (h2 : a ≤ 9223372036854775807) (hb : 0 < b) (w : World) :
  Calls Tryz.prog 234 #[.int .i64 a, .int .i64 b] w fun e w' => e = .returned (.int .i64 (up a b)) ∧ St (bs w) [] w' := by
  have ⟨q1, q2, q3, q4, q5⟩ := up_bd9 a b hb h1 h2
  refine enter (vs := [_,_]) (env := [(0,_), (1,_)]) Tryz.func234 rfl rfl rfl rfl ?_
  refine VC.seq ?_
  refine VC.reg (VO.l (LO.as (.r rfl)) rfl<|VO.nil ?_)
  refine VE.seqN ?_
  refine VC.seq ?_
  refine VC.reg (VO.l (LO.mv (.r rfl)) rfl<|VO.l (LO.mv (.r rfl)) rfl<|VO.l (LO.quo (.r rfl) (.r rfl) (by omega) (wi (by omega) (by omega))) rfl<|VO.l (LO.as (.r rfl)) rfl<|VO.nil ?_)
  refine VE.seqN ?_
  refine VC.seq ?_
  refine VC.seq ?_
  refine VC.reg (VO.l (LO.mv (.r rfl)) rfl<|VO.l (LO.mv (.r rfl)) rfl<|VO.l (LO.mul (.r rfl) (.r rfl) (wi (by omega) (by omega))) rfl<|VO.l (LO.mv (.r rfl)) rfl<|VO.l (LO.lt (.r rfl) (.r rfl)) rfl<|VO.nil ?_)
  refine VE.seqN ?_
  refine VC.cond rfl (fun h1 => ?_) (fun h1 => ?_)
  ·
    refine VC.reg (VO.l (LO.mv (.r rfl)) rfl<|VO.l (LO.add (.r rfl) (.r rfl) (wi (by omega) (by omega))) rfl<|VO.l (LO.as (.r rfl)) rfl<|VO.nil ?_)
    refine VE.seqN ?_
    refine VC.seq ?_
    refine VC.reg (VO.l (LO.mv (.r rfl)) rfl<|VO.l (LO.as (.r rfl)) rfl<|VO.nil ?_)
    refine VE.seqN ?_
    refine VC.ret (VE.res (vs := [_]) rfl ⟨rfl, trivial⟩ (fun w hw => ?_))
    exact ⟨by simp only [resV]; congr 2; omega, hw.nil⟩
  ·
    refine VC.skip (VE.seqN ?_)
    refine VC.seq ?_
    refine VC.reg (VO.l (LO.mv (.r rfl)) rfl<|VO.l (LO.as (.r rfl)) rfl<|VO.nil ?_)
    refine VE.seqN ?_
    refine VC.ret (VE.res (vs := [_]) rfl ⟨rfl, trivial⟩ (fun w hw => ?_))
    exact ⟨by simp only [resV]; congr 2; omega, hw.nil⟩

set_option maxRecDepth 20000 in
theorem slant_c (t : Int) (ht1 : -30 ≤ t) (ht2 : t ≤ 30) (w : World) :
  Calls Tryz.prog 269 #[.int .i64 t] w fun e w' => e = .returned (.agg #[.int .i64 (cosT t), .int .i64 (sinT t), .int .i64 (lenT t)]) ∧ St (bs w) [] w' := by
  have ⟨q1, q2⟩ := tt_bd ht1 ht2
  refine enter (vs := [_]) (env := [(0,_)]) Tryz.func269 rfl rfl rfl rfl ?_
  refine VC.seq ?_
  refine VC.reg (VO.h rfl<|HO.alloc (C := #[_,_,_]) Z520 rfl fun b1 => VO.nil ?_)
  refine VE.seqN ?_
  refine VC.seq ?_
  refine VC.reg (VO.l (LO.mv (.r rfl)) rfl<|VO.l (LO.mv (.r rfl)) rfl<|VO.l (LO.mul (.r rfl) (.r rfl) (wi (by omega) (by omega))) rfl<|VO.l (LO.sub (.r rfl) (.r rfl) (wi (by omega) (by omega))) rfl<|VO.l (LO.mv (.r rfl)) rfl<|VO.l (LO.mul (.r rfl) (.r rfl) (wi (by omega) (by omega))) rfl<|VO.l (LO.mv (.r rfl)) rfl<|VO.l (LO.mv (.r rfl)) rfl<|VO.l (LO.mul (.r rfl) (.r rfl) (wi (by omega) (by omega))) rfl<|VO.l (LO.add (.r rfl) (.r rfl) (wi (by omega) (by omega))) rfl<|VO.l (LO.bd (ps := [(_,_), (_,_), (_,_)]) (vs := [(_,_), (_,_), (_,_)]) (C := [_,_,_]) B520  ⟨(.r rfl), (.r rfl), (.r rfl), trivial⟩ rfl ⟨_, [_], [_,_,_], rfl, rfl, rfl, rfl, ⟨_, [_], [_,_,_], rfl, rfl, rfl, rfl, ⟨_, [_], [_,_,_], rfl, rfl, rfl, rfl, rfl⟩⟩⟩) rfl<|VO.h0<|HO.st 0 (vs := [_,_,_]) (C' := [_,_,_]) (L' := [_]) N520 rfl rfl rfl rfl rfl rfl rfl rfl<|VO.nil ?_)
  refine VE.seqN ?_
  refine VC.ret (VE.res (vs := [_]) rfl ⟨RV.agg (vs := [_,_,_]) A520 rfl (cells_blk 0 rfl ⟨_, rfl⟩) rfl, trivial⟩ (fun w hw => ?_))
  exact ⟨rfl, hw.nil⟩

set_option maxRecDepth 20000 in
theorem reachR_c (u : Bool) (F : Nat) (x : RdM) (t j : Int) (hF : RndS u F) (ht1 : -30 ≤ t) (ht2 : t ≤ 30) (hj : 0 ≤ j) (hj2 : j ≤ 10) (w : World) :
  Calls Tryz.prog 270 #[.agg (siR x).toArray, .int .i64 t, .int .i64 j, .func (.func F) #[] #[]] w fun e w' => e = .returned (.int .i64 (reaV u t j)) ∧ St (bs w) [] w' := by
  have ⟨q1, q2, q3⟩ := sin_bd ht1 ht2
  have m1 := mul_bd (a := (2 * j + 1) * 1000) (b := cosT t) (A := 21000) (B := 262144) (by omega) (by omega) (by omega) (by omega)
  refine enter (vs := [_,_,_,_]) (env := [(0,_), (1,_), (2,_), (3,_)]) Tryz.func270 rfl rfl rfl rfl ?_
  refine VC.seq ?_
  refine VC.reg (VO.h rfl<|HO.box (C := #[_,_,_,_,_,_,_,_]) rfl rfl fun b1 => VO.l (LO.as (.r rfl)) rfl<|VO.nil ?_)
  refine VE.seqN ?_
  refine VC.seq ?_
  refine VC.reg (VO.l (LO.mv (.r rfl)) rfl<|VO.l (LO.call (xs := [_]) (vs := [_]) C269 ⟨(.r rfl), trivial⟩ (fun w _ => slant_c t ht1 ht2 w)) rfl<|VO.h rfl<|HO.alloc (C := #[_,_,_]) Z520 rfl fun b2 => VO.h0<|HO.st 0 (vs := [_,_,_]) (C' := [_,_,_]) (L' := [_,_]) N520 rfl rfl rfl rfl rfl rfl rfl rfl<|VO.nil ?_)
  refine VE.seqN ?_
  refine VC.seq ?_
  refine VC.reg (VO.l (LO.mv (.r rfl)) rfl<|VO.l (LO.mv (.r rfl)) rfl<|VO.l (LO.mul (.r rfl) (.r rfl) (wi (by omega) (by omega))) rfl<|VO.l (LO.add (.r rfl) (.r rfl) (wi (by omega) (by omega))) rfl<|VO.l (LO.fa (r := 6) F59_6 (.r rfl) rfl) rfl<|VO.l (LO.ld O3 (.r rfl) (fun _ hw => cells_at hw 1 rfl ⟨_, rfl⟩)) rfl<|VO.l (LO.mul (.r rfl) (.r rfl) (wi (by omega) (by omega))) rfl<|VO.l (LO.fa (r := 0) F520_0 (.r rfl) rfl) rfl<|VO.l (LO.ld O3 (.r rfl) (fun _ hw => cells_at hw 0 rfl ⟨_, rfl⟩)) rfl<|VO.l (LO.mul (.r rfl) (.r rfl) (wi (by omega) (by omega))) rfl<|VO.l (LO.fa (r := 2) F520_2 (.r rfl) rfl) rfl<|VO.l (LO.ld O3 (.r rfl) (fun _ hw => cells_at hw 0 rfl ⟨_, rfl⟩)) rfl<|VO.l (LO.mul (.r rfl) (.r rfl) (wi (by omega) (by omega))) rfl<|VO.l (LO.callv (first := []) (cap := []) (xs := [_,_]) (vs := [_,_]) (.r rfl) hF.f ⟨(.r rfl), (.r rfl), trivial⟩ (fun w _ => hF.c _ _ w (by omega) (by omega) (by omega))) rfl<|VO.l (LO.as (.r rfl)) rfl<|VO.nil ?_)
  refine VE.seqN ?_
  refine VC.ret (VE.res (vs := [_]) rfl ⟨rfl, trivial⟩ (fun w hw => ?_))
  exact ⟨rfl, hw.nil⟩

set_option maxRecDepth 20000 in
theorem riseR_c (u : Bool) (F : Nat) (x : RdM) (t j ea : Int) (hF : RndS u F) (hz : 0 ≤ x.z ∧ x.z ≤ 20000) (ht1 : -30 ≤ t) (ht2 : t ≤ 30) (hj : 0 ≤ j) (hj2 : j ≤ 10) (he : 0 < ea) (he2 : ea ≤ 100000000) (w : World) :
  Calls Tryz.prog 232 #[.agg (siR x).toArray, .int .i64 t, .int .i64 j, .int .i64 ea, .func (.func F) #[] #[]] w fun e w' => e = .returned (.int .i64 (risV u x.z t j ea)) ∧ St (bs w) [] w' := by
  have ⟨q1, q2, q3⟩ := sin_bd ht1 ht2
  have ⟨r1, r2, r3, r4, r5⟩ := ris_bd (u := u) ht1 ht2 hj hj2 he hz
  refine enter (vs := [_,_,_,_,_]) (env := [(0,_), (1,_), (2,_), (3,_), (4,_)]) Tryz.func232 rfl rfl rfl rfl ?_
  refine VC.seq ?_
  refine VC.reg (VO.h rfl<|HO.box (C := #[_,_,_,_,_,_,_,_]) rfl rfl fun b1 => VO.l (LO.as (.r rfl)) rfl<|VO.nil ?_)
  refine VE.seqN ?_
  refine VC.seq ?_
  refine VC.reg (VO.l (LO.mv (.r rfl)) rfl<|VO.l (LO.call (xs := [_]) (vs := [_]) C269 ⟨(.r rfl), trivial⟩ (fun w _ => slant_c t ht1 ht2 w)) rfl<|VO.h rfl<|HO.alloc (C := #[_,_,_]) Z520 rfl fun b2 => VO.h0<|HO.st 0 (vs := [_,_,_]) (C' := [_,_,_]) (L' := [_,_]) N520 rfl rfl rfl rfl rfl rfl rfl rfl<|VO.nil ?_)
  refine VE.seqN ?_
  refine VC.seq ?_
  refine VC.reg (VO.l (LO.lda (vs := [_,_,_,_,_,_,_,_]) A59 (.r rfl) (fun _ hw => cells_at hw 1 rfl ⟨_, rfl⟩) rfl) rfl<|VO.l (LO.mv (.r rfl)) rfl<|VO.l (LO.mv (.r rfl)) rfl<|VO.l (LO.mv (.r rfl)) rfl<|VO.l (LO.call (xs := [_,_,_,_]) (vs := [_,_,_,_]) C270 ⟨(.r rfl), (.r rfl), (.r rfl), (.r rfl), trivial⟩ (fun w _ => reachR_c u F x t j hF ht1 ht2 hj hj2 w)) rfl<|VO.l (LO.as (.r rfl)) rfl<|VO.nil ?_)
  refine VE.seqN ?_
  refine VC.seq ?_
  refine VC.draw mixed (LL.l (LO.fa (r := 3) F59_3 (.r rfl) rfl) rfl<|LL.l (LO.ld O3 (.r rfl) (fun _ hw => cells_at hw 1 rfl ⟨_, rfl⟩)) rfl<|LL.l (LO.mv (.r rfl)) rfl<|LL.l (LO.mv (.r rfl)) rfl<|LL.l (LO.mul (.r rfl) (.r rfl) (wi (by omega) (by omega))) rfl<|LL.l (LO.add (.r rfl) (.r rfl) (wi (by omega) (by omega))) rfl<|LL.l (LO.fa (r := 6) F59_6 (.r rfl) rfl) rfl<|LL.l (LO.ld O3 (.r rfl) (fun _ hw => cells_at hw 1 rfl ⟨_, rfl⟩)) rfl<|LL.l (LO.mul (.r rfl) (.r rfl) (wi (by omega) (by omega))) rfl<|LL.l (LO.fa (r := 1) F520_1 (.r rfl) rfl) rfl<|LL.l (LO.ld O3 (.r rfl) (fun _ hw => cells_at hw 0 rfl ⟨_, rfl⟩)) rfl<|LL.l (LO.mul (.r rfl) (.r rfl) (wi (by omega) (by omega))) rfl<|LL.l (LO.fa (r := 2) F520_2 (.r rfl) rfl) rfl<|LL.l (LO.ld O3 (.r rfl) (fun _ hw => cells_at hw 0 rfl ⟨_, rfl⟩)) rfl<|LL.l (LO.mul (.r rfl) (.r rfl) (wi (by omega) (by omega))) rfl<|LL.l (LO.callv (first := []) (cap := []) (xs := [_,_]) (vs := [_,_]) (.r rfl) hF.f ⟨(.r rfl), (.r rfl), trivial⟩ (fun w _ => hF.c _ _ w (by omega) (by omega) (by omega))) rfl<|LL.l (LO.add (.r rfl) (.r rfl) (wi (by omega) (by omega))) rfl<|LL.l (LO.mv (.r rfl)) rfl<|LL.l (LO.mv (.r rfl)) rfl<|LL.l (LO.mv (.r rfl)) rfl<|LL.l (LO.mul (.r rfl) (.r rfl) (wi (by omega) (by omega))) rfl<|LL.l (LO.mv (.r rfl)) rfl<|LL.l (LO.mul (.r rfl) (.r rfl) (wi (by omega) (by omega))) rfl<|LL.l (LO.callv (first := []) (cap := []) (xs := [_,_]) (vs := [_,_]) (.r rfl) hF.f ⟨(.r rfl), (.r rfl), trivial⟩ (fun w _ => hF.c _ _ w (by omega) (by omega) (by omega))) rfl<|LL.l (LO.add (.r rfl) (.r rfl) (wi (by omega) (by omega))) rfl<|LL.l (LO.as (.r rfl)) rfl<|LL.nil) (by kernel_rfl) ?_
  refine VE.seqN ?_
  refine VC.ret (VE.res (vs := [_]) rfl ⟨rfl, trivial⟩ (fun w hw => ?_))
  exact ⟨rfl, hw.nil⟩

end Go.Proofs.YtffbohecdocajaaGreat

namespace Go.Proofs.YtffbohecdocajaaGreat
open Go.SL Go.Proofs Go.Pulse
set_option linter.unusedVariables false

theorem C229 : IsFn Tryz.prog 229 := ⟨_, Tryz.func229, by decide, rfl⟩
theorem C232 : IsFn Tryz.prog 232 := ⟨_, Tryz.func232, by decide, rfl⟩
theorem Z546 : ZeroOf Tryz.prog 546 (.agg #[.int .i64 0, .int .i64 0, .int .i64 0]) := by unfold ZeroOf; kernel_rfl
theorem B546 : Builds Tryz.prog 546 [(0,1), (1,1), (2,1)] [.int .i64 0, .int .i64 0, .int .i64 0] := Builds.mk fun _ => by kernel_rfl
theorem B553 : BuildsA Tryz.prog 553 [(0,3), (3,3), (6,3), (9,3)] [.int .i64 0, .int .i64 0, .int .i64 0, .int .i64 0, .int .i64 0, .int .i64 0, .int .i64 0, .int .i64 0, .int .i64 0, .int .i64 0, .int .i64 0, .int .i64 0] := BuildsA.mk (z := 3) (n := 4) (fun _ => by kernel_rfl) rfl
theorem Z553 : ZeroOf Tryz.prog 553 (.agg #[.int .i64 0, .int .i64 0, .int .i64 0, .int .i64 0, .int .i64 0, .int .i64 0, .int .i64 0, .int .i64 0, .int .i64 0, .int .i64 0, .int .i64 0, .int .i64 0]) := by unfold ZeroOf; kernel_rfl
theorem N553 : (Tryz.prog.info? 553).map (·.size) = some 12 := by kernel_rfl
theorem N546 : (Tryz.prog.info? 546).map (·.size) = some 3 := by kernel_rfl
theorem A546 : IsAgg Tryz.prog 546 3 := ⟨⟨_, Tryz.underlying546, rfl⟩, by kernel_rfl⟩
theorem F546_1 : FieldAt Tryz.prog 546 1 1 := ⟨_,_, Tryz.underlying546, rfl, rfl, 0, by kernel_rfl⟩
theorem F546_0 : FieldAt Tryz.prog 546 0 0 := ⟨_,_, Tryz.underlying546, rfl, rfl, 0, by kernel_rfl⟩
theorem C298 : IsFn Tryz.prog 298 := ⟨_, Tryz.func298, by decide, rfl⟩
theorem C306 : IsFn Tryz.prog 306 := ⟨_, Tryz.func306, by decide, rfl⟩


/-- How far a gate begins, along the ground. -/
def farV (t k : Int) : Int := k * 1000 * cosT t / lenT t
theorem far_bd {t k : Int} (h1 : -30 ≤ t) (h2 : t ≤ 30) (hk : 0 ≤ k) (hk2 : k ≤ 9) : (0 ≤ k * 1000 * cosT t ∧ k * 1000 * cosT t ≤ 9000 * 262144) ∧ 0 < lenT t ∧ 0 ≤ farV t k ∧ farV t k ≤ 9000 := by
  have s := sin_bd h1 h2
  have m := mul_bd (a := k * 1000) (b := cosT t) (A := 9000) (B := 262144) (by omega) (by omega) (by omega) (by omega)
  refine ⟨m, by omega, Int.ediv_nonneg m.1 (by omega), ?_⟩
  unfold farV
  refine Int.ediv_le_of_le_mul (by omega) (by omega)
theorem far_mono {t k k2 : Int} (h1 : -30 ≤ t) (h2 : t ≤ 30) (hk : 0 ≤ k) (h : k ≤ k2) : farV t k ≤ farV t k2 := by
  have s := sin_bd h1 h2
  unfold farV
  exact Int.ediv_le_ediv (by omega) (Int.mul_le_mul_of_nonneg_right (by omega) (by omega))
/-- The gate of a place, or none. -/
structure GtP (t g d r : Int) : Prop where
  h : (farV t g * farV t g ≤ d ∧ r = -1) ∨ (d < farV t g * farV t g ∧ (0 ≤ r ∧ r < g) ∧ farV t r * farV t r ≤ d ∧ d < farV t (r + 1) * farV t (r + 1))
theorem sq_mono {a b : Int} (h0 : 0 ≤ a) (h : a ≤ b) : a * a ≤ b * b := Int.mul_le_mul h h h0 (by omega)
theorem GtP.uniq {t g d r s : Int} (h1 : -30 ≤ t) (h2 : t ≤ 30) (h : GtP t g d r) (k : GtP t g d s) : r = s := by
  have key : ∀ {r s : Int}, 0 ≤ r → 0 ≤ s → farV t s * farV t s ≤ d → d < farV t (r + 1) * farV t (r + 1) → s ≤ r := fun {r s} hr hs q1 q2 => by
    refine Int.not_lt.1 fun z => ?_
    have m := far_mono (k := r + 1) (k2 := s) h1 h2 (by omega) (by omega)
    have s0 := sin_bd h1 h2
    have n : 0 ≤ farV t (r + 1) := Int.ediv_nonneg (Int.mul_nonneg (by omega) (by omega)) (by omega)
    have := sq_mono n m
    omega
  rcases h.h with ⟨a1, a2⟩ | ⟨a1, ⟨a2, a3⟩, a4, a5⟩ <;> rcases k.h with ⟨b1, b2⟩ | ⟨b1, ⟨b2, b3⟩, b4, b5⟩
  · omega
  · omega
  · omega
  · have := key a2 b2 b4 a5
    have := key b2 a2 a4 b5
    omega
def qdr (a b : Int) : Nat := if 0 < a then (if 0 < b then 0 else 1) else (if b < 0 then 2 else 3)
theorem qdr_step {a b : Int} (ha : a ≠ 0) (hb : b ≠ 0) (h : a < 0 ∨ b ≤ 0) : qdr (-b) a + 1 = qdr a b := by
  unfold qdr
  (repeat' split) <;> omega
theorem qdr_le (a b : Int) : qdr a b ≤ 3 := by unfold qdr; (repeat' split) <;> omega
theorem C234 : IsFn Tryz.prog 234 := ⟨_, Tryz.func234, by decide, rfl⟩
theorem C233 : IsFn Tryz.prog 233 := ⟨_, Tryz.func233, by decide, rfl⟩
theorem bDF : RndS false 233 := ⟨C233, fun x y w h1 h2 h3 => bDown_c x y (by omega) (by omega) h3 w⟩
theorem bUF : RndS true 234 := ⟨C234, fun x y w h1 h2 h3 => bUp_c x y (by omega) (by omega) h3 w⟩
/-- The heights of a gate. -/
def bndS (x : RdM) (t j : Int) : Span := ⟨risV false x.z t j 9000000, risV true x.z t j 8000000⟩

set_option maxRecDepth 20000 in
theorem validR_c (w : World) :
  Calls Tryz.prog 229 #[.agg #[.int .i64 8000000, .int .i64 9000000]] w fun e w' => e = .returned (.bool true) ∧ St (bs w) [] w' := by
  refine enter (vs := [_]) (env := [(0,_)]) Tryz.func229 rfl rfl rfl rfl ?_
  refine VC.seq ?_
  refine VC.reg (VO.h rfl<|HO.box (C := #[_,_]) rfl rfl fun b1 => VO.l (LO.as (.r rfl)) rfl<|VO.nil ?_)
  refine VE.seqN ?_
  refine VC.seq ?_
  refine VC.reg (VO.l (LO.fa (r := 0) F25_0 (.r rfl) rfl) rfl<|VO.l (LO.ld O3 (.r rfl) (fun _ hw => cells_at hw 0 rfl ⟨_, rfl⟩)) rfl<|VO.l (LO.le (.r rfl) (.r rfl)) rfl<|VO.l (LO.mv (.r rfl)) rfl<|VO.lg rfl rfl (GD.t _) (fun hg => LO.fa (r := 0) F25_0 (.r rfl) rfl) rfl<|VO.lg rfl rfl (GD.t _) (fun hg => LO.ld O3 (.g hg rfl) (fun _ hw => cells_at hw 0 rfl ⟨_, rfl⟩)) rfl<|VO.lg rfl rfl (GD.t _) (fun hg => LO.fa (r := 1) F25_1 (.r rfl) rfl) rfl<|VO.lg rfl rfl (GD.t _) (fun hg => LO.ld O3 (.g hg rfl) (fun _ hw => cells_at hw 0 rfl ⟨_, rfl⟩)) rfl<|VO.lg rfl rfl (GD.t _) (fun hg => LO.le (.g hg rfl) (.g hg rfl)) rfl<|VO.l (LO.pkA (.r rfl) rfl rfl (.r rfl)) rfl<|VO.l (LO.mv (.r rfl)) rfl<|VO.lg rfl rfl (GD.t _) (fun hg => LO.fa (r := 1) F25_1 (.r rfl) rfl) rfl<|VO.lg rfl rfl (GD.t _) (fun hg => LO.ld O3 (.g hg rfl) (fun _ hw => cells_at hw 0 rfl ⟨_, rfl⟩)) rfl<|VO.lg rfl rfl (GD.t _) (fun hg => LO.le (.g hg rfl) (.r rfl)) rfl<|VO.l (LO.pkA (.r rfl) rfl rfl (.r rfl)) rfl<|VO.l (LO.as (.r rfl)) rfl<|VO.nil ?_)
  refine VE.seqN ?_
  refine VC.ret (VE.res (vs := [_]) rfl ⟨rfl, trivial⟩ (fun w hw => ?_))
  exact ⟨rfl, hw.nil⟩

set_option maxRecDepth 20000 in
theorem bandR_c (x : RdM) (t j : Int) (hx : RdOk x) (ht : 0 ≤ t ∧ t ≤ 15) (hj : 0 ≤ j ∧ j < x.g) (w : World) :
  Calls Tryz.prog 187 #[.agg (siR x).toArray, .int .i64 t, .agg #[.int .i64 8000000, .int .i64 9000000], .int .i64 j] w fun e w' => e = .returned (.tuple #[spanV (bndS x t j), .int .i64 0]) ∧ St (bs w) [] w' := by
  have hg := hx.cg
  have hsE := hx.site
  refine enter (vs := [_,_,_,_]) (env := [(0,_), (1,_), (2,_), (3,_)]) Tryz.func187 rfl rfl rfl rfl ?_
  refine VC.seq ?_
  refine VC.reg (VO.h rfl<|HO.box (C := #[_,_,_,_,_,_,_,_]) rfl rfl fun b1 => VO.h rfl<|HO.box (C := #[_,_]) rfl rfl fun b2 => VO.h rfl<|HO.alloc (C := #[_,_]) Z25 rfl fun b3 => VO.l (LO.as (.r rfl)) rfl<|VO.nil ?_)
  refine VE.seqN ?_
  refine VC.seq ?_
  refine VC.seq ?_
  refine VC.reg (VO.l (LO.lda (vs := [_,_,_,_,_,_,_,_]) A59 (.r rfl) (fun _ hw => cells_at hw 2 rfl ⟨_, rfl⟩) rfl) rfl<|VO.l (LO.call (xs := [_]) (vs := [_]) C53 ⟨(.r rfl), trivial⟩ (fun w _ => CheckSite_c ⟨nmT x.r, x.x, x.y, x.z, 2, x.g, 1000,0⟩ w)) rfl<|VO.l (LO.as (.r rfl)) rfl<|VO.nil ?_)
  refine VE.seqN ?_
  refine VC.seq ?_
  refine VC.reg (VO.l (LO.mv (.r rfl)) rfl<|VO.l (LO.ne (.r rfl) (.r rfl)) rfl<|VO.nil ?_)
  refine VE.seqN ?_
  refine VC.cond rfl (fun h14 => ?_) (fun h14 => ?_)
  ·
    (exfalso; exact h14 hsE)
  ·
    refine VC.skip (VE.seqN ?_)
    refine VC.seq ?_
    refine VC.seq ?_
    refine VC.reg (VO.l (LO.mv (.r rfl)) rfl<|VO.l (LO.call (xs := [_,_,_]) (vs := [_,_,_]) C119 ⟨(.r rfl), (.r rfl), (.r rfl), trivial⟩ (fun w _ => bwithin_c _ _ _ w)) rfl<|VO.l (LO.not (.r rfl)) rfl<|VO.l (LO.mv (.r rfl)) rfl<|VO.lg rfl rfl (GD.f _) (fun hg => LO.lda (vs := [_,_]) A25 (.r rfl) (fun _ hw => cells_at hw 1 rfl ⟨_, rfl⟩) rfl) rfl<|VO.lg rfl rfl (GD.f _) (fun hg => LO.call (xs := [_]) (vs := [_]) C229 ⟨(.g hg rfl), trivial⟩ (fun w _ => validR_c w)) rfl<|VO.lg rfl rfl (GD.f _) (fun hg => LO.not (.g hg rfl)) rfl<|VO.l (LO.pkO (.r rfl) (.r rfl) rfl rfl) rfl<|VO.l (LO.mv (.r rfl)) rfl<|VO.lg rfl rfl (GD.f _) (fun hg => LO.mv (.r rfl)) rfl<|VO.lg rfl rfl (GD.f _) (fun hg => LO.fa (r := 5) F59_5 (.r rfl) rfl) rfl<|VO.lg rfl rfl (GD.f _) (fun hg => LO.ld O3 (.g hg rfl) (fun _ hw => cells_at hw 2 rfl ⟨_, rfl⟩)) rfl<|VO.lg rfl rfl (GD.f _) (fun hg => LO.sub (.g hg rfl) (.r rfl) (wi (by omega) (by omega))) rfl<|VO.lg rfl rfl (GD.f _) (fun hg => LO.call (xs := [_,_,_]) (vs := [_,_,_]) C119 ⟨(.g hg rfl), (.r rfl), (.g hg rfl), trivial⟩ (fun w _ => bwithin_c _ _ _ w)) rfl<|VO.lg rfl rfl (GD.f _) (fun hg => LO.not (.g hg rfl)) rfl<|VO.l (LO.pkO (.r rfl) (.r rfl) rfl rfl) rfl<|VO.nil ?_)
    refine VE.seqN ?_
    refine VC.cond rfl (fun h32 => ?_) (fun h32 => ?_)
    ·
      (exfalso; (simp at h32; omega))
    ·
      refine VC.skip (VE.seqN ?_)
      refine VC.seq ?_
      refine VC.drawH [[0,1,2], [1,2]] [some 0, some 0, some 0, some 0, some 0, some 0, some 0, some 0, some 0, some 0, some 0, some 0, some 0, some 0, some 0, some 0, some 0, some 0, some 0, none, some 1] mixed (by kernel_rfl) rfl (LX.l (fun _ hJ => LO.lda (vs := [_,_,_,_,_,_,_,_]) A59 (.r rfl) (fun _ hw => cells_at (hJ _ hw) 2 rfl ⟨_, rfl⟩) rfl) rfl<|LX.l (fun _ hJ => LO.mv (.r rfl)) rfl<|LX.l (fun _ hJ => LO.fa (r := 7) F59_7 (.r rfl) rfl) rfl<|LX.l (fun _ hJ => LO.ld O3 (.r rfl) (fun _ hw => cells_at (hJ _ hw) 2 rfl ⟨_, rfl⟩)) rfl<|LX.l (fun _ hJ => LO.sub (.r rfl) (.r rfl) (wi (by omega) (by omega))) rfl<|LX.l (fun _ hJ => LO.mv (.r rfl)) rfl<|LX.l (fun _ hJ => LO.fa (r := 1) F25_1 (.r rfl) rfl) rfl<|LX.l (fun _ hJ => LO.ld O3 (.r rfl) (fun _ hw => cells_at (hJ _ hw) 1 rfl ⟨_, rfl⟩)) rfl<|LX.l (fun _ hJ => LO.call (xs := [_,_,_,_,_]) (vs := [_,_,_,_,_]) C232 ⟨(.r rfl), (.r rfl), (.r rfl), (.r rfl), (.r rfl), trivial⟩ (fun w _ => riseR_c false 233 x _ j 9000000 bDF (by have := hx.cz; omega) (by omega) (by omega) (by omega) (by omega) (by omega) (by omega) w)) rfl<|LX.l (fun _ hJ => LO.lda (vs := [_,_,_,_,_,_,_,_]) A59 (.r rfl) (fun _ hw => cells_at (hJ _ hw) 2 rfl ⟨_, rfl⟩) rfl) rfl<|LX.l (fun _ hJ => LO.mv (.r rfl)) rfl<|LX.l (fun _ hJ => LO.fa (r := 7) F59_7 (.r rfl) rfl) rfl<|LX.l (fun _ hJ => LO.ld O3 (.r rfl) (fun _ hw => cells_at (hJ _ hw) 2 rfl ⟨_, rfl⟩)) rfl<|LX.l (fun _ hJ => LO.add (.r rfl) (.r rfl) (wi (by omega) (by omega))) rfl<|LX.l (fun _ hJ => LO.mv (.r rfl)) rfl<|LX.l (fun _ hJ => LO.fa (r := 0) F25_0 (.r rfl) rfl) rfl<|LX.l (fun _ hJ => LO.ld O3 (.r rfl) (fun _ hw => cells_at (hJ _ hw) 1 rfl ⟨_, rfl⟩)) rfl<|LX.l (fun _ hJ => LO.call (xs := [_,_,_,_,_]) (vs := [_,_,_,_,_]) C232 ⟨(.r rfl), (.r rfl), (.r rfl), (.r rfl), (.r rfl), trivial⟩ (fun w _ => riseR_c true 234 x _ j 8000000 bUF (by have := hx.cz; omega) (by omega) (by omega) (by omega) (by omega) (by omega) (by omega) w)) rfl<|LX.l (fun _ hJ => LO.bd (ps := [(_,_), (_,_)]) (vs := [(_,_), (_,_)]) (C := [_,_]) B25  ⟨(.r rfl), (.r rfl), trivial⟩ rfl ⟨_, [_], [_,_], rfl, rfl, rfl, rfl, ⟨_, [_], [_,_], rfl, rfl, rfl, rfl, rfl⟩⟩) rfl<|LX.s<|LX.l (fun _ hJ => LO.as (.r rfl)) rfl<|LX.nil) (HX.s<|HX.s<|HX.s<|HX.s<|HX.s<|HX.s<|HX.s<|HX.s<|HX.s<|HX.s<|HX.s<|HX.s<|HX.s<|HX.s<|HX.s<|HX.s<|HX.s<|HX.s<|HX.s<|HX.h0<|HO.st 0 (vs := [_,_]) (C' := [_,_]) (L' := [_,_,_]) N25 rfl rfl rfl rfl rfl rfl rfl rfl<|⟨fun _ hw => hw.sel [1,2] rfl, HX.s<|HX.nil ?_⟩)
      refine VE.seqN ?_
      refine VC.ret (VE.res (vs := [_,_]) rfl ⟨RV.agg (vs := [_,_]) A25 rfl (cells_blk 0 rfl ⟨_, rfl⟩) rfl, rfl, trivial⟩ (fun w hw => ?_))
      exact ⟨by simp only [resV, Int.sub_zero, Int.add_zero]; rfl, hw.nil⟩

set_option maxRecDepth 20000 in
theorem dirR_c (w : World) :
  Calls Tryz.prog 298 #[.int .i64 2, .int .i64 1] w fun e w' => e = .returned (.agg #[.int .i64 4, .int .i64 3, .int .i64 5]) ∧ St (bs w) [] w' := by
  have hm : (1 : Int).tmod 2 = 1 := by decide
  have hm2 : (1 : Int).tmod 2 * (1 : Int).tmod 2 = 1 := by decide
  refine enter (vs := [_,_]) (env := [(0,_), (1,_)]) Tryz.func298 rfl rfl rfl rfl ?_
  refine VC.seq ?_
  refine VC.reg (VO.h rfl<|HO.alloc (C := #[_,_,_]) Z546 rfl fun b1 => VO.nil ?_)
  refine VE.seqN ?_
  refine VC.seq ?_
  refine VC.reg (VO.l (LO.mv (.r rfl)) rfl<|VO.l (LO.mv (.r rfl)) rfl<|VO.l (LO.rem (.r rfl) (.r rfl) (by decide)) rfl<|VO.l (LO.as (.r rfl)) rfl<|VO.nil ?_)
  refine VE.seqN ?_
  refine VC.seq ?_
  refine VC.reg (VO.l (LO.mv (.r rfl)) rfl<|VO.l (LO.mul (.r rfl) (.r rfl) (wi (by omega) (by omega))) rfl<|VO.l (LO.mv (.r rfl)) rfl<|VO.l (LO.mul (.r rfl) (.r rfl) (wi (by omega) (by omega))) rfl<|VO.l (LO.mv (.r rfl)) rfl<|VO.l (LO.mv (.r rfl)) rfl<|VO.l (LO.mul (.r rfl) (.r rfl) (wi (by omega) (by omega))) rfl<|VO.l (LO.mv (.r rfl)) rfl<|VO.l (LO.mv (.r rfl)) rfl<|VO.l (LO.mul (.r rfl) (.r rfl) (wi (by omega) (by omega))) rfl<|VO.l (LO.sub (.r rfl) (.r rfl) (wi (by omega) (by omega))) rfl<|VO.l (LO.mv (.r rfl)) rfl<|VO.l (LO.mv (.r rfl)) rfl<|VO.l (LO.mul (.r rfl) (.r rfl) (wi (by omega) (by omega))) rfl<|VO.l (LO.mv (.r rfl)) rfl<|VO.l (LO.mv (.r rfl)) rfl<|VO.l (LO.mul (.r rfl) (.r rfl) (wi (by omega) (by omega))) rfl<|VO.l (LO.add (.r rfl) (.r rfl) (wi (by omega) (by omega))) rfl<|VO.l (LO.as (.r rfl)) rfl<|VO.l (LO.as (.r rfl)) rfl<|VO.l (LO.as (.r rfl)) rfl<|VO.nil ?_)
  refine VE.seqN ?_
  refine VC.seq ?_
  refine VC.reg (VO.l (LO.mv (.r rfl)) rfl<|VO.l (LO.mv (.r rfl)) rfl<|VO.l (LO.mv (.r rfl)) rfl<|VO.l (LO.bd (ps := [(_,_), (_,_), (_,_)]) (vs := [(_,_), (_,_), (_,_)]) (C := [_,_,_]) B546  ⟨(.r rfl), (.r rfl), (.r rfl), trivial⟩ rfl ⟨_, [_], [_,_,_], rfl, rfl, rfl, rfl, ⟨_, [_], [_,_,_], rfl, rfl, rfl, rfl, ⟨_, [_], [_,_,_], rfl, rfl, rfl, rfl, rfl⟩⟩⟩) rfl<|VO.l (LO.mv (.r rfl)) rfl<|VO.l (LO.mv (.r rfl)) rfl<|VO.l (LO.neg (.r rfl) (wi (by omega) (by omega))) rfl<|VO.l (LO.mv (.r rfl)) rfl<|VO.l (LO.bd (ps := [(_,_), (_,_), (_,_)]) (vs := [(_,_), (_,_), (_,_)]) (C := [_,_,_]) B546  ⟨(.r rfl), (.r rfl), (.r rfl), trivial⟩ rfl ⟨_, [_], [_,_,_], rfl, rfl, rfl, rfl, ⟨_, [_], [_,_,_], rfl, rfl, rfl, rfl, ⟨_, [_], [_,_,_], rfl, rfl, rfl, rfl, rfl⟩⟩⟩) rfl<|VO.l (LO.mv (.r rfl)) rfl<|VO.l (LO.neg (.r rfl) (wi (by omega) (by omega))) rfl<|VO.l (LO.mv (.r rfl)) rfl<|VO.l (LO.neg (.r rfl) (wi (by omega) (by omega))) rfl<|VO.l (LO.mv (.r rfl)) rfl<|VO.l (LO.bd (ps := [(_,_), (_,_), (_,_)]) (vs := [(_,_), (_,_), (_,_)]) (C := [_,_,_]) B546  ⟨(.r rfl), (.r rfl), (.r rfl), trivial⟩ rfl ⟨_, [_], [_,_,_], rfl, rfl, rfl, rfl, ⟨_, [_], [_,_,_], rfl, rfl, rfl, rfl, ⟨_, [_], [_,_,_], rfl, rfl, rfl, rfl, rfl⟩⟩⟩) rfl<|VO.l (LO.mv (.r rfl)) rfl<|VO.l (LO.neg (.r rfl) (wi (by omega) (by omega))) rfl<|VO.l (LO.mv (.r rfl)) rfl<|VO.l (LO.mv (.r rfl)) rfl<|VO.l (LO.bd (ps := [(_,_), (_,_), (_,_)]) (vs := [(_,_), (_,_), (_,_)]) (C := [_,_,_]) B546  ⟨(.r rfl), (.r rfl), (.r rfl), trivial⟩ rfl ⟨_, [_], [_,_,_], rfl, rfl, rfl, rfl, ⟨_, [_], [_,_,_], rfl, rfl, rfl, rfl, ⟨_, [_], [_,_,_], rfl, rfl, rfl, rfl, rfl⟩⟩⟩) rfl<|VO.l (LO.bda (ps := [(_,_), (_,_), (_,_), (_,_)]) (vs := [(_,_), (_,_), (_,_), (_,_)]) (C := [_,_,_,_,_,_,_,_,_,_,_,_]) B553 rfl ⟨(.r rfl), (.r rfl), (.r rfl), (.r rfl), trivial⟩ rfl ⟨_, [_,_,_], [_,_,_,_,_,_,_,_,_,_,_,_], rfl, rfl, rfl, rfl, ⟨_, [_,_,_], [_,_,_,_,_,_,_,_,_,_,_,_], rfl, rfl, rfl, rfl, ⟨_, [_,_,_], [_,_,_,_,_,_,_,_,_,_,_,_], rfl, rfl, rfl, rfl, ⟨_, [_,_,_], [_,_,_,_,_,_,_,_,_,_,_,_], rfl, rfl, rfl, rfl, rfl⟩⟩⟩⟩) rfl<|VO.h rfl<|HO.alloc (C := #[_,_,_,_,_,_,_,_,_,_,_,_]) Z553 rfl fun b2 => VO.h0<|HO.st 0 (vs := [_,_,_,_,_,_,_,_,_,_,_,_]) (C' := [_,_,_,_,_,_,_,_,_,_,_,_]) (L' := [_,_]) N553 rfl rfl rfl rfl rfl rfl rfl rfl<|VO.nil ?_)
  refine VE.seqN ?_
  refine VC.seq ?_
  refine VC.reg (VO.l (LO.mv (.r rfl)) rfl<|VO.l (LO.mv (.r rfl)) rfl<|VO.l (LO.quo (.r rfl) (.r rfl) (by decide) (wi (by decide) (by decide))) rfl<|VO.l (LO.ixa (j := 0) (r := 0) Tryz.underlying553 N546 (.r rfl) (.r rfl) rfl (by decide) rfl) rfl<|VO.l (LO.lda (vs := [_,_,_]) A546 (.r rfl) (fun _ hw => cells_at hw 0 rfl ⟨_, rfl⟩) rfl) rfl<|VO.h0<|HO.st 1 (vs := [_,_,_]) (C' := [_,_,_]) (L' := [_,_]) N546 rfl rfl rfl rfl rfl rfl rfl rfl<|VO.nil ?_)
  refine VE.seqN ?_
  refine VC.ret (VE.res (vs := [_]) rfl ⟨RV.agg (vs := [_,_,_]) A546 rfl (cells_blk 1 rfl ⟨_, rfl⟩) rfl, trivial⟩ (fun w hw => ?_))
  exact ⟨rfl, hw.nil⟩

set_option maxRecDepth 20000 in
theorem ahead_c (u v : Int) (hu : -30000 ≤ u ∧ u ≤ 30000) (hv : -30000 ≤ v ∧ v ≤ 30000) (w : World) :
  Calls Tryz.prog 306 #[.agg #[.int .i64 4, .int .i64 3, .int .i64 5], .int .i64 u, .int .i64 v] w fun e w' => e = .returned (.bool (decide (4 * v ≤ 3 * u))) ∧ St (bs w) [] w' := by
  refine enter (vs := [_,_,_]) (env := [(0,_), (1,_), (2,_)]) Tryz.func306 rfl rfl rfl rfl ?_
  refine VC.seq ?_
  refine VC.reg (VO.h rfl<|HO.box (C := #[_,_,_]) rfl rfl fun b1 => VO.l (LO.as (.r rfl)) rfl<|VO.nil ?_)
  refine VE.seqN ?_
  refine VC.seq ?_
  refine VC.reg (VO.l (LO.fa (r := 1) F546_1 (.r rfl) rfl) rfl<|VO.l (LO.ld O3 (.r rfl) (fun _ hw => cells_at hw 0 rfl ⟨_, rfl⟩)) rfl<|VO.l (LO.mv (.r rfl)) rfl<|VO.l (LO.mul (.r rfl) (.r rfl) (wi (by omega) (by omega))) rfl<|VO.l (LO.fa (r := 0) F546_0 (.r rfl) rfl) rfl<|VO.l (LO.ld O3 (.r rfl) (fun _ hw => cells_at hw 0 rfl ⟨_, rfl⟩)) rfl<|VO.l (LO.mv (.r rfl)) rfl<|VO.l (LO.mul (.r rfl) (.r rfl) (wi (by omega) (by omega))) rfl<|VO.l (LO.ge (.r rfl) (.r rfl)) rfl<|VO.l (LO.as (.r rfl)) rfl<|VO.nil ?_)
  refine VE.seqN ?_
  refine VC.ret (VE.res (vs := [_]) rfl ⟨rfl, trivial⟩ (fun w hw => ?_))
  exact ⟨rfl, hw.nil⟩

set_option maxRecDepth 20000 in
theorem ray_c (u v : Int) (hu : u ≠ 0 ∧ -30000 ≤ u ∧ u ≤ 30000) (hv : v ≠ 0 ∧ -30000 ≤ v ∧ v ≤ 30000) (w : World) :
  Calls Tryz.prog 295 #[.int .i64 2, .int .i64 u, .int .i64 v] w fun e w' => ∃ s : Int, (0 ≤ s ∧ s ≤ 7) ∧ e = .returned (.int .i64 s) ∧ St (bs w) [] w' := by
  refine enter (vs := [_,_,_]) (env := [(0,_), (1,_), (2,_)]) Tryz.func295 rfl rfl rfl rfl ?_
  refine VC.seq ?_
  refine VC.reg (VO.l (LO.as (.r rfl)) rfl<|VO.nil ?_)
  refine VE.seqN ?_
  refine VC.seq ?_
  refine VC.reg (VO.l (LO.as (.r rfl)) rfl<|VO.nil ?_)
  refine VE.seqN ?_
  refine VC.seq ?_
  refine VC.block ?_
  refine VC.loopK (α := Int × Int × Int) 0 (fun gx => [(1, .int .i64 gx.1), (2, .int .i64 gx.2.1), (7, .int .i64 gx.2.2)]) [(0,_)] (fun gx => []) (fun gx => (gx.1 ≠ 0 ∧ -30000 ≤ gx.1 ∧ gx.1 ≤ 30000) ∧ (gx.2.1 ≠ 0 ∧ -30000 ≤ gx.2.1 ∧ gx.2.1 ≤ 30000) ∧ 0 ≤ gx.2.2 ∧ gx.2.2 + (qdr gx.1 gx.2.1 : Nat) ≤ 3) (fun gx => qdr gx.1 gx.2.1) (u, v, 0) (by (have := qdr_le u v; exact ⟨hu, hv, Int.le_refl _, by dsimp only; omega⟩)) (.cons rfl (.cons rfl (.cons rfl (.cons rfl .nil)))) (fun _ h => h) ?_
  rintro ⟨c1, c2, n⟩ hI
  show VC _ _ _ _ _ ([(1, .int .i64 c1), (2, .int .i64 c2), (7, .int .i64 n)] ++ _) ([] ++ _) _ _
  dsimp only at hI
  refine VC.seq ?_
  refine VC.seq ?_
  refine VC.reg (VO.l (LO.mv (.r rfl)) rfl<|VO.l (LO.lt (.r rfl) (.r rfl)) rfl<|VO.l (LO.mv (.r rfl)) rfl<|VO.lg rfl rfl (GD.f _) (fun hg => LO.mv (.r rfl)) rfl<|VO.lg rfl rfl (GD.f _) (fun hg => LO.le (.g hg rfl) (.r rfl)) rfl<|VO.l (LO.pkO (.r rfl) (.r rfl) rfl rfl) rfl<|VO.nil ?_)
  refine VE.seqN ?_
  refine VC.cond rfl (fun h16 => ?_) (fun h16 => ?_)
  ·
    have hq := qdr_step hI.1.1 hI.2.1.1 h16
    refine VC.skip (VE.seqN ?_)
    refine VC.seq ?_
    refine VC.block ?_
    refine VC.reg (VO.l (LO.mv (.r rfl)) rfl<|VO.l (LO.neg (.r rfl) (wi (by omega) (by omega))) rfl<|VO.l (LO.mv (.r rfl)) rfl<|VO.l (LO.as (.r rfl)) rfl<|VO.l (LO.as (.r rfl)) rfl<|VO.nil ?_)
    refine VE.inN (VE.seqN ?_)
    refine VC.reg (VO.l (LO.mv (.r rfl)) rfl<|VO.l (LO.add (.r rfl) (.r rfl) (wi (by omega) (by omega))) rfl<|VO.l (LO.as (.r rfl)) rfl<|VO.nil ?_)
    refine VE.thenN fun a w ha hw => ⟨((-c2), c1, (n + 1)), ⟨by dsimp only; omega, by dsimp only; omega, by dsimp only; omega, by dsimp only; omega⟩, (by dsimp only; omega), ha.sub (.cons rfl (.cons rfl (.cons rfl (.cons rfl .nil)))), hw⟩
  ·
    refine VC.exit (VE.thenX (VE.thenX (VE.inX (VE.seqN ?_))))
    refine VC.seq ?_
    refine VC.reg (VO.l (LO.mv (.r rfl)) rfl<|VO.l (LO.as (.r rfl)) rfl<|VO.l (LO.as (.r rfl)) rfl<|VO.nil ?_)
    refine VE.seqN ?_
    refine VC.seq ?_
    refine VC.block ?_
    refine VC.loopK (α := Int × Int) 0 (fun gx => [(8, .int .i64 gx.1), (9, .int .i64 gx.2)]) [(0,_), (1,_), (2,_), (7,_)] (fun gx => []) (fun gx => (gx.1 = 0 ∧ gx.2 = 2) ∨ (gx.2 = gx.1 + 1 ∧ 0 ≤ gx.1 ∧ gx.1 ≤ 1)) (fun gx => (gx.2 - gx.1).toNat) (0,2) (by exact .inl ⟨rfl, rfl⟩) (.cons rfl (.cons rfl (.cons rfl (.cons rfl (.cons rfl (.cons rfl .nil)))))) (fun _ h => h) ?_
    rintro ⟨lo, hi⟩ hJ
    show VC _ _ _ _ _ ([(8, .int .i64 lo), (9, .int .i64 hi)] ++ _) ([] ++ _) _ _
    dsimp only at hJ
    refine VC.seq ?_
    refine VC.seq ?_
    refine VC.reg (VO.l (LO.mv (.r rfl)) rfl<|VO.l (LO.mv (.r rfl)) rfl<|VO.l (LO.sub (.r rfl) (.r rfl) (wi (by omega) (by omega))) rfl<|VO.l (LO.gt (.r rfl) (.r rfl)) rfl<|VO.nil ?_)
    refine VE.seqN ?_
    refine VC.cond rfl (fun h26 => ?_) (fun h26 => ?_)
    ·
      obtain ⟨rfl, rfl⟩ : lo = 0 ∧ hi = 2 := by omega
      refine VC.skip (VE.seqN ?_)
      refine VC.block ?_
      refine VC.seq ?_
      refine VC.reg (VO.l (LO.mv (.r rfl)) rfl<|VO.l (LO.mv (.r rfl)) rfl<|VO.l (LO.add (.r rfl) (.r rfl) (wi (by omega) (by omega))) rfl<|VO.l (LO.quo (.r rfl) (.r rfl) (by decide) (wi (by decide) (by decide))) rfl<|VO.l (LO.as (.r rfl)) rfl<|VO.nil ?_)
      refine VE.seqN ?_
      refine VC.seq ?_
      refine VC.reg (VO.l (LO.mv (.r rfl)) rfl<|VO.l (LO.mv (.r rfl)) rfl<|VO.l (LO.call (xs := [_,_]) (vs := [_,_]) C298 ⟨(.r rfl), (.r rfl), trivial⟩ (fun w _ => dirR_c w)) rfl<|VO.l (LO.mv (.r rfl)) rfl<|VO.l (LO.mv (.r rfl)) rfl<|VO.l (LO.call (xs := [_,_,_]) (vs := [_,_,_]) C306 ⟨(.r rfl), (.r rfl), (.r rfl), trivial⟩ (fun w _ => ahead_c c1 c2 (by omega) (by omega) w)) rfl<|VO.nil ?_)
      refine VE.seqN ?_
      refine VC.cond rfl (fun h36 => ?_) (fun h36 => ?_)
      ·
        refine VC.reg (VO.l (LO.mv (.r rfl)) rfl<|VO.l (LO.as (.r rfl)) rfl<|VO.nil ?_)
        refine VE.inN ?_
        refine VE.thenN fun a w ha hw => ⟨(1,2), (by dsimp only; omega), (by dsimp only; decide), ha.sub (.cons rfl (.cons rfl (.cons rfl (.cons rfl (.cons rfl (.cons rfl .nil)))))), hw⟩
      ·
        refine VC.reg (VO.l (LO.mv (.r rfl)) rfl<|VO.l (LO.as (.r rfl)) rfl<|VO.nil ?_)
        refine VE.inN ?_
        refine VE.thenN fun a w ha hw => ⟨(0,1), (by dsimp only; omega), (by dsimp only; decide), ha.sub (.cons rfl (.cons rfl (.cons rfl (.cons rfl (.cons rfl (.cons rfl .nil)))))), hw⟩
    ·
      refine VC.exit (VE.thenX (VE.thenX (VE.inX (VE.seqN ?_))))
      refine VC.seq ?_
      refine VC.reg (VO.l (LO.mv (.r rfl)) rfl<|VO.l (LO.mv (.r rfl)) rfl<|VO.l (LO.mul (.r rfl) (.r rfl) (wi (by omega) (by omega))) rfl<|VO.l (LO.mv (.r rfl)) rfl<|VO.l (LO.add (.r rfl) (.r rfl) (wi (by omega) (by omega))) rfl<|VO.l (LO.as (.r rfl)) rfl<|VO.nil ?_)
      refine VE.seqN ?_
      refine VC.ret (VE.res (vs := [_]) rfl ⟨rfl, trivial⟩ (fun w hw => ?_))
      exact ⟨_, ⟨by omega, by omega⟩, rfl, hw.nil⟩

set_option maxRecDepth 20000 in
theorem far_c (x : RdM) (t k : Int) (q1 q2 : Nat) (ht1 : -30 ≤ t) (ht2 : t ≤ 30) (hk : 0 ≤ k) (hk2 : k ≤ 9) (w : World) (h1 : Cells w ⟨q1,0, none⟩ (siR x)) (h2 : Cells w ⟨q2,0, none⟩ [.int .i64 (cosT t), .int .i64 (sinT t), .int .i64 (lenT t)]) :
  Calls Tryz.prog 305 #[.int .i64 k, .pointer (some ⟨q1,0, none⟩), .pointer (some ⟨q2,0, none⟩)] w fun e w' => e = .returned (.int .i64 (farV t k)) ∧ St (bs w) [] w' := by
  have ⟨q1_, q2_, q3_, q4_⟩ := far_bd ht1 ht2 hk hk2
  have hq : (k * 1000 * cosT t).tdiv (lenT t) = farV t k := by unfold farV; rw [Int.tdiv_eq_ediv_of_nonneg (by omega)]
  have ⟨s1_, s2_, s3_⟩ := sin_bd ht1 ht2
  refine enter (vs := [_,_,_]) (env := [(0,_), (1,_), (2,_)]) Tryz.func305 rfl rfl rfl rfl ?_
  refine VC.seq ?_
  refine VC.reg (VO.l (LO.as (.r rfl)) rfl<|VO.nil ?_)
  refine VE.seqN ?_
  refine VC.seq ?_
  refine VC.reg (VO.l (LO.mv (.r rfl)) rfl<|VO.l (LO.fa (r := 6) F59_6 (.r rfl) rfl) rfl<|VO.l (LO.ld O3 (.r rfl) (cells_keep (sub_cells (off := 6) h1 ⟨_, rfl⟩))) rfl<|VO.l (LO.mul (.r rfl) (.r rfl) (wi (by omega) (by omega))) rfl<|VO.l (LO.fa (r := 0) F520_0 (.r rfl) rfl) rfl<|VO.l (LO.ld O3 (.r rfl) (cells_keep (sub_cells (off := 0) h2 ⟨_, rfl⟩))) rfl<|VO.l (LO.mul (.r rfl) (.r rfl) (wi (by omega) (by omega))) rfl<|VO.l (LO.fa (r := 2) F520_2 (.r rfl) rfl) rfl<|VO.l (LO.ld O3 (.r rfl) (cells_keep (sub_cells (off := 2) h2 ⟨_, rfl⟩))) rfl<|VO.l (LO.quo (.r rfl) (.r rfl) (by omega) (wi (by omega) (by omega))) rfl<|VO.l (LO.as (.r rfl)) rfl<|VO.nil ?_)
  refine VE.seqN ?_
  refine VC.ret (VE.res (vs := [_]) rfl ⟨rfl, trivial⟩ (fun w hw => ?_))
  exact ⟨by simp only [resV]; rw [hq], hw.nil⟩

end Go.Proofs.YtffbohecdocajaaGreat

namespace Go.Proofs.YtffbohecdocajaaGreat
open Go.SL Go.Proofs Go.Pulse
set_option linter.unusedVariables false

theorem C305 : IsFn Tryz.prog 305 := ⟨_, Tryz.func305, by decide, rfl⟩
theorem C294 : IsFn Tryz.prog 294 := ⟨_, Tryz.func294, by decide, rfl⟩
theorem C295 : IsFn Tryz.prog 295 := ⟨_, Tryz.func295, by decide, rfl⟩
theorem C262 : IsFn Tryz.prog 262 := ⟨_, Tryz.func262, by decide, rfl⟩


/-- What a place is found at: its gate or none, and a ray. -/
abbrev fndV (r s : Int) : Value := .tuple #[.int .i64 (if r < 0 then 0 else s), .int .i64 (if r < 0 then 0 else r), .bool (decide (0 ≤ r))]
/-- How far a pixel lies, squared. -/
def pxD (x : RdM) (W i : Nat) : Int := ((i % W : Nat) * 1000 + 500 - x.x) * ((i % W : Nat) * 1000 + 500 - x.x) + ((i / W : Nat) * 1000 + 500 - x.y) * ((i / W : Nat) * 1000 + 500 - x.y)
def vwV (x : RdM) (r s : Int) : Int := if r < 0 then -1 else s * x.g + r
/-- What a radar sees, pixel by pixel. -/
def VwP (x : RdM) (t : Int) (W : Nat) (o : List Int) : Prop := ∀ i v, o[i]? = some v → ∃ r s : Int, GtP t x.g (pxD x W i) r ∧ (0 ≤ s ∧ s ≤ 7) ∧ v = vwV x r s
theorem VwP.add {x : RdM} {t : Int} {W : Nat} {o : List Int} (h : VwP x t W o) {r s : Int} (hr : GtP t x.g (pxD x W o.length) r) (hs : 0 ≤ s ∧ s ≤ 7) : VwP x t W (o ++ [vwV x r s]) := fun i v hv => by
  rcases Nat.lt_trichotomy i o.length with q | q | q
  · rw [List.getElem?_append_left q] at hv; exact h i v hv
  · subst q
    rw [List.getElem?_append_right (Nat.le_refl _), Nat.sub_self] at hv
    cases hv
    exact ⟨r, s, hr, hs, rfl⟩
  · rw [List.getElem?_eq_none (by rw [List.length_append, List.length_cons, List.length_nil]; omega)] at hv; cases hv
theorem vw_t {x : RdM} {r s : Int} (h : 0 ≤ r) : s * x.g + r = vwV x r s := by unfold vwV; rw [if_neg (by omega)]
theorem vw_f {x : RdM} {r s : Int} (h : ¬ 0 ≤ r) : (-1 : Int) = vwV x r s := by unfold vwV; rw [if_pos (by omega)]
theorem GtP.bd {t g d r : Int} (hg : 0 ≤ g) (h : GtP t g d r) : -1 ≤ r ∧ r ≤ g := by
  rcases h.h with ⟨_, e⟩ | ⟨_, ⟨e1, e2⟩,_⟩ <;> omega
theorem odd_ne {n : Nat} {x : RdM} (hx : ∃ m : Nat, m ≤ 7 ∧ x.x = 1000 * (m : Int)) : (n : Int) * 1000 + 500 - x.x ≠ 0 := by obtain ⟨m,_, h⟩ := hx; omega
theorem odd_ne' {n : Nat} {x : RdM} (hx : ∃ m : Nat, m ≤ 7 ∧ x.y = 1000 * (m : Int)) : (n : Int) * 1000 + 500 - x.y ≠ 0 := by obtain ⟨m,_, h⟩ := hx; omega
theorem idx_ij {W i j : Nat} (hj : j < W) : (i * W + j) % W = j ∧ (i * W + j) / W = i := by
  constructor
  · rw [Nat.mul_comm, Nat.mul_add_mod, Nat.mod_eq_of_lt hj]
  · rw [Nat.mul_comm, Nat.mul_add_div (by omega), Nat.div_eq_of_lt hj, Nat.add_zero]
theorem sqN_bd {a B : Int} (h1 : -B ≤ a) (h2 : a ≤ B) : 0 ≤ a * a ∧ a * a ≤ B * B := by
  rcases Int.le_total 0 a with q | q
  · exact ⟨Int.mul_nonneg q q, Int.mul_le_mul h2 h2 q (by omega)⟩
  · have e : a * a = (-a) * (-a) := by rw [Int.neg_mul_neg]
    rw [e]
    exact ⟨Int.mul_nonneg (by omega) (by omega), Int.mul_le_mul (by omega) (by omega) (by omega) (by omega)⟩

set_option maxRecDepth 20000 in
theorem gateR_c (x : RdM) (t d2 : Int) (hx : RdOk x) (ht1 : -30 ≤ t) (ht2 : t ≤ 30) (hd : 0 ≤ d2) (w : World) :
  Calls Tryz.prog 294 #[.agg (siR x).toArray, .int .i64 t, .int .i64 d2] w fun e w' => ∃ r : Int, GtP t x.g d2 r ∧ e = .returned (.int .i64 r) ∧ St (bs w) [] w' := by
  have hg := hx.cg
  have ⟨g1_, g2_, g3_, g4_⟩ := far_bd (t := t) (k := x.g) ht1 ht2 (by omega) (by omega)
  have gq := sqN_bd (a := farV t x.g) (B := 9000) (by omega) (by omega)
  refine enter (vs := [_,_,_]) (env := [(0,_), (1,_), (2,_)]) Tryz.func294 rfl rfl rfl rfl ?_
  refine VC.seq ?_
  refine VC.reg (VO.h rfl<|HO.box (C := #[_,_,_,_,_,_,_,_]) rfl rfl fun b1 => VO.l (LO.as (.r rfl)) rfl<|VO.nil ?_)
  refine VE.seqN ?_
  refine VC.seq ?_
  refine VC.reg (VO.l (LO.mv (.r rfl)) rfl<|VO.l (LO.call (xs := [_]) (vs := [_]) C269 ⟨(.r rfl), trivial⟩ (fun w _ => slant_c t ht1 ht2 w)) rfl<|VO.h rfl<|HO.alloc (C := #[_,_,_]) Z520 rfl fun b2 => VO.h0<|HO.st 0 (vs := [_,_,_]) (C' := [_,_,_]) (L' := [_,_]) N520 rfl rfl rfl rfl rfl rfl rfl rfl<|VO.nil ?_)
  refine VE.seqN ?_
  refine VC.seq ?_
  refine VC.reg (VO.h rfl<|HO.lo (LO.mf (cap := [_,_]) ⟨(.r rfl), (.r rfl), trivial⟩)<|VO.h rfl<|HO.lo (LO.as (.r rfl))<|VO.nil ?_)
  refine VE.seqN ?_
  refine VC.seq ?_
  refine VC.seq ?_
  refine VC.reg (VO.l (LO.mv (.r rfl)) rfl<|VO.l (LO.fa (r := 5) F59_5 (.r rfl) rfl) rfl<|VO.l (LO.ld O3 (.r rfl) (fun _ hw => cells_at hw 1 rfl ⟨_, rfl⟩)) rfl<|VO.l (LO.callv (first := []) (cap := [_,_]) (xs := [_]) (vs := [_]) (.r rfl) C305 ⟨(.r rfl), trivial⟩ (fun w hw => far_c x t x.g b1 b2 ht1 ht2 (by omega) (by omega) w (cells_inv (hw.inv 1 _ rfl)) (cells_inv (hw.inv 0 _ rfl)))) rfl<|VO.l (LO.as (.r rfl)) rfl<|VO.nil ?_)
  refine VE.seqN ?_
  refine VC.seq ?_
  refine VC.reg (VO.l (LO.mv (.r rfl)) rfl<|VO.l (LO.mv (.r rfl)) rfl<|VO.l (LO.mv (.r rfl)) rfl<|VO.l (LO.mul (.r rfl) (.r rfl) (wi (by omega) (by omega))) rfl<|VO.l (LO.ge (.r rfl) (.r rfl)) rfl<|VO.nil ?_)
  refine VE.seqN ?_
  refine VC.cond rfl (fun h24 => ?_) (fun h24 => ?_)
  ·
    refine VC.seq ?_
    refine VC.reg (VO.l (LO.as (.r rfl)) rfl<|VO.nil ?_)
    refine VE.seqN ?_
    refine VC.ret (VE.thenR (VE.res (vs := [_]) rfl ⟨rfl, trivial⟩ (fun w hw => ?_)))
    first | exact ⟨-1, ⟨.inl ⟨by omega, rfl⟩⟩, rfl, hw.nil⟩ | exact ⟨lo, ⟨.inr ⟨by omega, by omega, hI1, by rw [show lo + 1 = hi by omega]; exact hI2⟩⟩, rfl, hw.nil⟩
  ·
    refine VC.skip (VE.seqN ?_)
    refine VC.seq ?_
    refine VC.draw mixed (LL.l (LO.fa (r := 5) F59_5 (.r rfl) rfl) rfl<|LL.l (LO.ld O3 (.r rfl) (fun _ hw => cells_at hw 1 rfl ⟨_, rfl⟩)) rfl<|LL.l (LO.as (.r rfl)) rfl<|LL.l (LO.as (.r rfl)) rfl<|LL.nil) (by kernel_rfl) ?_
    refine VE.seqN ?_
    refine VC.seq ?_
    refine VC.block ?_
    refine VC.loopK (α := Int × Int) 0 (fun gx => [(10, .int .i64 gx.1), (11, .int .i64 gx.2)]) [(2,_), (8,_)] (fun gx => []) (fun gx => (0 ≤ gx.1 ∧ gx.1 < gx.2 ∧ gx.2 ≤ x.g) ∧ farV t gx.1 * farV t gx.1 ≤ d2 ∧ d2 < farV t gx.2 * farV t gx.2) (fun gx => (gx.2 - gx.1).toNat) (0, x.g) (by exact ⟨by dsimp only; omega, by have e : farV t 0 = 0 := by { unfold farV; simp }; dsimp only; rw [e]; omega, by dsimp only; omega⟩) (.cons rfl (.cons rfl (.cons rfl (.cons rfl .nil)))) (fun _ h => h) ?_
    rintro ⟨lo, hi⟩ ⟨hlh, hI1, hI2⟩
    show VC _ _ _ _ _ ([(10, .int .i64 lo), (11, .int .i64 hi)] ++ _) ([] ++ _) _ _
    dsimp only at hlh hI1 hI2
    refine VC.seq ?_
    refine VC.seq ?_
    refine VC.reg (VO.l (LO.mv (.r rfl)) rfl<|VO.l (LO.mv (.r rfl)) rfl<|VO.l (LO.sub (.r rfl) (.r rfl) (wi (by omega) (by omega))) rfl<|VO.l (LO.gt (.r rfl) (.r rfl)) rfl<|VO.nil ?_)
    refine VE.seqN ?_
    refine VC.cond rfl (fun h30 => ?_) (fun h30 => ?_)
    ·
      refine VC.skip (VE.seqN ?_)
      refine VC.block ?_
      refine VC.seq ?_
      have hq8 : (lo + hi).tdiv 2 = (lo + hi) / 2 := Int.tdiv_eq_ediv_of_nonneg (by omega)
      refine VC.reg (VO.l (LO.mv (.r rfl)) rfl<|VO.l (LO.mv (.r rfl)) rfl<|VO.l (LO.add (.r rfl) (.r rfl) (wi (by omega) (by omega))) rfl<|VO.l (LO.quo (.r rfl) (.r rfl) (by omega) (wi (by omega) (by omega))) rfl<|VO.l (LO.as (.r rfl)) rfl<|VO.nil ?_)
      obtain ⟨m, hm⟩ : ∃ m, m = (lo + hi).tdiv 2 := ⟨_, rfl⟩
      rw [← hm]
      rw [hq8] at hm
      have ⟨m1_, m2_, m3_, m4_⟩ := far_bd (t := t) (k := m) ht1 ht2 (by omega) (by omega)
      have mq := sqN_bd (a := farV t m) (B := 9000) (by omega) (by omega)
      refine VE.seqN ?_
      refine VC.seq ?_
      refine VC.reg (VO.l (LO.mv (.r rfl)) rfl<|VO.l (LO.mv (.r rfl)) rfl<|VO.l (LO.callv (first := []) (cap := [_,_]) (xs := [_]) (vs := [_]) (.r rfl) C305 ⟨(.r rfl), trivial⟩ (fun w hw => far_c x t m b1 b2 ht1 ht2 (by omega) (by omega) w (cells_inv (hw.inv 1 _ rfl)) (cells_inv (hw.inv 0 _ rfl)))) rfl<|VO.l (LO.mv (.r rfl)) rfl<|VO.l (LO.mv (.r rfl)) rfl<|VO.l (LO.callv (first := []) (cap := [_,_]) (xs := [_]) (vs := [_]) (.r rfl) C305 ⟨(.r rfl), trivial⟩ (fun w hw => far_c x t m b1 b2 ht1 ht2 (by omega) (by omega) w (cells_inv (hw.inv 1 _ rfl)) (cells_inv (hw.inv 0 _ rfl)))) rfl<|VO.l (LO.mul (.r rfl) (.r rfl) (wi (by omega) (by omega))) rfl<|VO.l (LO.mv (.r rfl)) rfl<|VO.l (LO.le (.r rfl) (.r rfl)) rfl<|VO.nil ?_)
      refine VE.seqN ?_
      refine VC.cond rfl (fun h43 => ?_) (fun h43 => ?_)
      ·
        refine VC.reg (VO.l (LO.mv (.r rfl)) rfl<|VO.l (LO.as (.r rfl)) rfl<|VO.nil ?_)
        refine VE.inN ?_
        refine VE.thenN fun a w ha hw => ⟨(m, hi), ⟨by dsimp only; omega, by dsimp only; omega, by dsimp only; omega⟩, (by dsimp only; omega), ha.sub (.cons rfl (.cons rfl (.cons rfl (.cons rfl .nil)))), hw⟩
      ·
        refine VC.reg (VO.l (LO.mv (.r rfl)) rfl<|VO.l (LO.as (.r rfl)) rfl<|VO.nil ?_)
        refine VE.inN ?_
        refine VE.thenN fun a w ha hw => ⟨(lo, m), ⟨by dsimp only; omega, by dsimp only; omega, by dsimp only; omega⟩, (by dsimp only; omega), ha.sub (.cons rfl (.cons rfl (.cons rfl (.cons rfl .nil)))), hw⟩
    ·
      refine VC.exit (VE.thenX (VE.thenX (VE.inX (VE.seqN ?_))))
      refine VC.seq ?_
      refine VC.reg (VO.l (LO.mv (.r rfl)) rfl<|VO.l (LO.as (.r rfl)) rfl<|VO.nil ?_)
      refine VE.seqN ?_
      refine VC.ret (VE.res (vs := [_]) rfl ⟨rfl, trivial⟩ (fun w hw => ?_))
      first | exact ⟨-1, ⟨.inl ⟨by omega, rfl⟩⟩, rfl, hw.nil⟩ | exact ⟨lo, ⟨.inr ⟨by omega, by omega, hI1, by rw [show lo + 1 = hi by omega]; exact hI2⟩⟩, rfl, hw.nil⟩

set_option maxRecDepth 20000 in
theorem findR_c (x : RdM) (t px py : Int) (hx : RdOk x) (ht1 : -30 ≤ t) (ht2 : t ≤ 30) (h1 : px - x.x ≠ 0 ∧ -30000 ≤ px - x.x ∧ px - x.x ≤ 30000) (h2 : py - x.y ≠ 0 ∧ -30000 ≤ py - x.y ∧ py - x.y ≤ 30000) (w : World) :
  Calls Tryz.prog 262 #[.agg (siR x).toArray, .int .i64 t, .int .i64 px, .int .i64 py] w fun e w' => ∃ y : Int × Int, (GtP t x.g ((px - x.x) * (px - x.x) + (py - x.y) * (py - x.y)) y.1 ∧ 0 ≤ y.2 ∧ y.2 ≤ 7) ∧ e = .returned (fndV y.1 y.2) ∧ St (bs w) [] w' := by
  have hg := hx.cg
  have qx := sqN_bd (a := (px - x.x)) (B := 30000) (by omega) (by omega)
  have qy := sqN_bd (a := (py - x.y)) (B := 30000) (by omega) (by omega)
  refine enter (vs := [_,_,_,_]) (env := [(0,_), (1,_), (2,_), (3,_)]) Tryz.func262 rfl rfl rfl rfl ?_
  refine VC.seq ?_
  refine VC.reg (VO.h rfl<|HO.box (C := #[_,_,_,_,_,_,_,_]) rfl rfl fun b1 => VO.l (LO.as (.r rfl)) rfl<|VO.l (LO.as (.r rfl)) rfl<|VO.l (LO.as (.r rfl)) rfl<|VO.nil ?_)
  refine VE.seqN ?_
  refine VC.seq ?_
  refine VC.draw mixed (LL.l (LO.mv (.r rfl)) rfl<|LL.l (LO.fa (r := 1) F59_1 (.r rfl) rfl) rfl<|LL.l (LO.ld O3 (.r rfl) (fun _ hw => cells_at hw 0 rfl ⟨_, rfl⟩)) rfl<|LL.l (LO.sub (.r rfl) (.r rfl) (wi (by omega) (by omega))) rfl<|LL.l (LO.mv (.r rfl)) rfl<|LL.l (LO.fa (r := 2) F59_2 (.r rfl) rfl) rfl<|LL.l (LO.ld O3 (.r rfl) (fun _ hw => cells_at hw 0 rfl ⟨_, rfl⟩)) rfl<|LL.l (LO.sub (.r rfl) (.r rfl) (wi (by omega) (by omega))) rfl<|LL.l (LO.as (.r rfl)) rfl<|LL.l (LO.as (.r rfl)) rfl<|LL.nil) (by kernel_rfl) ?_
  refine VE.seqN ?_
  refine VC.seq ?_
  refine VC.seq ?_
  refine VC.reg (VO.l (LO.mv (.r rfl)) rfl<|VO.l (LO.eq (.r rfl) (.r rfl)) rfl<|VO.l (LO.mv (.r rfl)) rfl<|VO.lg rfl rfl (GD.t _) (fun hg => LO.mv (.r rfl)) rfl<|VO.lg rfl rfl (GD.t _) (fun hg => LO.eq (.g hg rfl) (.r rfl)) rfl<|VO.l (LO.pkA (.r rfl) rfl rfl (.r rfl)) rfl<|VO.nil ?_)
  refine VE.seqN ?_
  refine VC.cond rfl (fun h25 => ?_) (fun h25 => ?_)
  ·
    (exfalso; (exact h1.1 h25.1))
  ·
    refine VC.skip (VE.seqN ?_)
    refine VC.seq ?_
    refine VC.reg (VO.l (LO.lda (vs := [_,_,_,_,_,_,_,_]) A59 (.r rfl) (fun _ hw => cells_at hw 0 rfl ⟨_, rfl⟩) rfl) rfl<|VO.l (LO.mv (.r rfl)) rfl<|VO.l (LO.mv (.r rfl)) rfl<|VO.l (LO.mv (.r rfl)) rfl<|VO.l (LO.mul (.r rfl) (.r rfl) (wi (by omega) (by omega))) rfl<|VO.l (LO.mv (.r rfl)) rfl<|VO.l (LO.mv (.r rfl)) rfl<|VO.l (LO.mul (.r rfl) (.r rfl) (wi (by omega) (by omega))) rfl<|VO.l (LO.add (.r rfl) (.r rfl) (wi (by omega) (by omega))) rfl<|VO.h rfl<|HO.callx (xs := [_,_,_]) (vs := [_,_,_]) C294 ⟨(.r rfl), (.r rfl), (.r rfl), trivial⟩ (fun w _ => gateR_c x t _ hx ht1 ht2 (by omega) w) fun r hr => VO.h rfl<|HO.lo (LO.as (.r rfl))<|VO.nil ?_)
    refine VE.seqN ?_
    refine VC.seq ?_
    refine VC.seq ?_
    refine VC.reg (VO.l (LO.mv (.r rfl)) rfl<|VO.l (LO.lt (.r rfl) (.r rfl)) rfl<|VO.nil ?_)
    refine VE.seqN ?_
    refine VC.cond rfl (fun h37 => ?_) (fun h37 => ?_)
    ·
      refine VC.seq ?_
      refine VC.reg (VO.l (LO.as (.r rfl)) rfl<|VO.l (LO.as (.r rfl)) rfl<|VO.l (LO.as (.r rfl)) rfl<|VO.nil ?_)
      refine VE.seqN ?_
      refine VC.ret (VE.thenR (VE.res (vs := [_,_,_]) rfl ⟨rfl, rfl, rfl, trivial⟩ (fun w hw => ?_)))
      exact ⟨(r, 0), ⟨hr, Int.le_refl 0, (by show (0 : Int) ≤ 7; decide)⟩, by simp only [resV, fndV, if_pos h37, decide_eq_false (show ¬ 0 ≤ r by omega)], hw.nil⟩
    ·
      refine VC.skip (VE.seqN ?_)
      refine VC.seq ?_
      refine VC.reg (VO.l (LO.fa (r := 4) F59_4 (.r rfl) rfl) rfl<|VO.l (LO.ld O3 (.r rfl) (fun _ hw => cells_at hw 0 rfl ⟨_, rfl⟩)) rfl<|VO.l (LO.mv (.r rfl)) rfl<|VO.l (LO.mv (.r rfl)) rfl<|VO.h rfl<|HO.callx (xs := [_,_,_]) (vs := [_,_,_]) C295 ⟨(.r rfl), (.r rfl), (.r rfl), trivial⟩ (fun w _ => ray_c (px - x.x) (py - x.y) h1 h2 w) fun s hs => VO.l (LO.mv (.r rfl)) rfl<|VO.h rfl<|HO.lo (LO.as (.r rfl))<|VO.l (LO.as (.r rfl)) rfl<|VO.l (LO.as (.r rfl)) rfl<|VO.nil ?_)
      refine VE.seqN ?_
      refine VC.ret (VE.res (vs := [_,_,_]) rfl ⟨rfl, rfl, rfl, trivial⟩ (fun w hw => ?_))
      exact ⟨(r, s), ⟨hr, hs⟩, by simp only [resV, fndV, if_neg h37, decide_eq_true (show 0 ≤ r by omega)], hw.nil⟩

set_option maxRecDepth 20000 in
theorem gridN_c (W H : Nat) (hW : 1 ≤ W ∧ W ≤ 6) (hH : 1 ≤ H ∧ H ≤ 6) (w : World) :
  Calls Tryz.prog 83 #[.agg #[.int .i64 0, .int .i64 0, .int .i64 1000, .int .i64 (W : Nat), .int .i64 (H : Nat)]] w fun e w' => e = .returned (.int .i64 0) ∧ St (bs w) [] w' := by
  refine enter (vs := [_]) (env := [(0,_)]) Tryz.func83 rfl rfl rfl rfl ?_
  refine VC.seq ?_
  refine VC.reg (VO.h rfl<|HO.box (C := #[_,_,_,_,_]) rfl rfl fun b1 => VO.l (LO.as (.r rfl)) rfl<|VO.nil ?_)
  refine VE.seqN ?_
  refine VC.seq ?_
  refine VC.block ?_
  refine VC.seq ?_
  refine VC.seq ?_
  refine VC.reg (VO.l (LO.fa (r := 0) F88_0 (.r rfl) rfl) rfl<|VO.l (LO.ld O3 (.r rfl) (fun _ hw => cells_at hw 0 rfl ⟨_, rfl⟩)) rfl<|VO.l (LO.call (xs := [_,_,_]) (vs := [_,_,_]) C119 ⟨(.r rfl), (.r rfl), (.r rfl), trivial⟩ (fun w _ => bwithin_c _ _ _ w)) rfl<|VO.l (LO.not (.r rfl)) rfl<|VO.l (LO.as (.r rfl)) rfl<|VO.nil ?_)
  refine VE.seqN ?_
  refine VC.cond rfl (fun h3 => ?_) (fun h3 => ?_)
  ·
    (exfalso; omega)
  ·
    refine VC.seq ?_
    refine VC.reg (VO.l (LO.fa (r := 1) F88_1 (.r rfl) rfl) rfl<|VO.l (LO.ld O3 (.r rfl) (fun _ hw => cells_at hw 0 rfl ⟨_, rfl⟩)) rfl<|VO.l (LO.call (xs := [_,_,_]) (vs := [_,_,_]) C119 ⟨(.r rfl), (.r rfl), (.r rfl), trivial⟩ (fun w _ => bwithin_c _ _ _ w)) rfl<|VO.l (LO.not (.r rfl)) rfl<|VO.l (LO.as (.r rfl)) rfl<|VO.nil ?_)
    refine VE.seqN ?_
    refine VC.cond rfl (fun h3 => ?_) (fun h3 => ?_)
    ·
      (exfalso; omega)
    ·
      refine VC.seq ?_
      refine VC.reg (VO.l (LO.fa (r := 2) F88_2 (.r rfl) rfl) rfl<|VO.l (LO.ld O3 (.r rfl) (fun _ hw => cells_at hw 0 rfl ⟨_, rfl⟩)) rfl<|VO.l (LO.call (xs := [_,_,_]) (vs := [_,_,_]) C119 ⟨(.r rfl), (.r rfl), (.r rfl), trivial⟩ (fun w _ => bwithin_c _ _ _ w)) rfl<|VO.l (LO.not (.r rfl)) rfl<|VO.l (LO.as (.r rfl)) rfl<|VO.nil ?_)
      refine VE.seqN ?_
      refine VC.cond rfl (fun h3 => ?_) (fun h3 => ?_)
      ·
        (exfalso; omega)
      ·
        refine VC.seq ?_
        refine VC.reg (VO.l (LO.fa (r := 3) F88_3 (.r rfl) rfl) rfl<|VO.l (LO.ld O3 (.r rfl) (fun _ hw => cells_at hw 0 rfl ⟨_, rfl⟩)) rfl<|VO.l (LO.call (xs := [_,_,_]) (vs := [_,_,_]) C119 ⟨(.r rfl), (.r rfl), (.r rfl), trivial⟩ (fun w _ => bwithin_c _ _ _ w)) rfl<|VO.l (LO.not (.r rfl)) rfl<|VO.l (LO.as (.r rfl)) rfl<|VO.nil ?_)
        refine VE.seqN ?_
        refine VC.cond rfl (fun h3 => ?_) (fun h3 => ?_)
        ·
          (exfalso; omega)
        ·
          refine VC.reg (VO.l (LO.fa (r := 4) F88_4 (.r rfl) rfl) rfl<|VO.l (LO.ld O3 (.r rfl) (fun _ hw => cells_at hw 0 rfl ⟨_, rfl⟩)) rfl<|VO.l (LO.call (xs := [_,_,_]) (vs := [_,_,_]) C119 ⟨(.r rfl), (.r rfl), (.r rfl), trivial⟩ (fun w _ => bwithin_c _ _ _ w)) rfl<|VO.l (LO.not (.r rfl)) rfl<|VO.l (LO.as (.r rfl)) rfl<|VO.nil ?_)
          refine VE.seqN ?_
          refine VC.cond rfl (fun h3 => ?_) (fun h3 => ?_)
          ·
            (exfalso; omega)
          ·
            refine VC.skip (VE.inN (VE.seqN ?_))
            refine VC.seq ?_
            refine VC.reg (VO.l (LO.as (.r rfl)) rfl<|VO.nil ?_)
            refine VE.seqN ?_
            refine VC.ret (VE.res (vs := [_]) rfl ⟨rfl, trivial⟩ (fun w hw => ?_))
            exact ⟨rfl, hw.nil⟩

set_option maxRecDepth 20000 in
set_option maxHeartbeats 1000000 in
theorem ViewR_c (x : RdM) (t : Int) (W H : Nat) (hx : RdOk x) (ht : 0 ≤ t ∧ t ≤ 15) (hW : 1 ≤ W ∧ W ≤ 6) (hH : 1 ≤ H ∧ H ≤ 6) (w : World) :
  Calls Tryz.prog 223 #[.agg (siR x).toArray, .int .i64 t, .agg #[.int .i64 0, .int .i64 0, .int .i64 1000, .int .i64 (W : Nat), .int .i64 (H : Nat)]] w fun e w' => ∃ y : List Int × Option Addr × Nat, (y.1.length = W * H ∧ VwP x t W y.1) ∧ e = .returned (.tuple #[.slice y.2.1 y.1.length y.2.2, .int .i64 0]) ∧ St (bs w) [own 3 1 y.2.1 y.2.2 (y.1.map intC)] w' := by
  have hg := hx.cg
  have hsE := hx.site
  have hb := hx.bd
  have hWH : (W : Int) * (H : Int) = ((W * H : Nat) : Int) := by rw [Int.natCast_mul]
  have hWH2 : W * H ≤ 36 := Nat.mul_le_mul hW.2 hH.2
  have hq5 : Int.tdiv 1000 2 = 500 := by decide
  refine enter (vs := [_,_,_]) (env := [(0,_), (1,_), (2,_)]) Tryz.func223 rfl rfl rfl rfl ?_
  refine VC.seq ?_
  refine VC.reg (VO.h rfl<|HO.box (C := #[_,_,_,_,_,_,_,_]) rfl rfl fun b1 => VO.h rfl<|HO.box (C := #[_,_,_,_,_]) rfl rfl fun b2 => VO.l (LO.as (.r rfl)) rfl<|VO.l (LO.as (.r rfl)) rfl<|VO.nil ?_)
  refine VE.seqN ?_
  refine VC.seq ?_
  refine VC.seq ?_
  refine VC.reg (VO.l (LO.lda (vs := [_,_,_,_,_,_,_,_]) A59 (.r rfl) (fun _ hw => cells_at hw 1 rfl ⟨_, rfl⟩) rfl) rfl<|VO.l (LO.call (xs := [_]) (vs := [_]) C53 ⟨(.r rfl), trivial⟩ (fun w _ => CheckSite_c ⟨nmT x.r, x.x, x.y, x.z, 2, x.g, 1000,0⟩ w)) rfl<|VO.l (LO.as (.r rfl)) rfl<|VO.nil ?_)
  refine VE.seqN ?_
  refine VC.seq ?_
  refine VC.reg (VO.l (LO.mv (.r rfl)) rfl<|VO.l (LO.ne (.r rfl) (.r rfl)) rfl<|VO.nil ?_)
  refine VE.seqN ?_
  refine VC.cond rfl (fun h20 => ?_) (fun h20 => ?_)
  ·
    (exfalso; exact h20 hsE)
  ·
    refine VC.skip (VE.seqN ?_)
    refine VC.seq ?_
    refine VC.seq ?_
    refine VC.reg (VO.l (LO.lda (vs := [_,_,_,_,_]) A88 (.r rfl) (fun _ hw => cells_at hw 0 rfl ⟨_, rfl⟩) rfl) rfl<|VO.l (LO.call (xs := [_]) (vs := [_]) C83 ⟨(.r rfl), trivial⟩ (fun w _ => gridN_c W H hW hH w)) rfl<|VO.l (LO.as (.r rfl)) rfl<|VO.nil ?_)
    refine VE.seqN ?_
    refine VC.seq ?_
    refine VC.reg (VO.l (LO.mv (.r rfl)) rfl<|VO.l (LO.ne (.r rfl) (.r rfl)) rfl<|VO.nil ?_)
    refine VE.seqN ?_
    refine VC.cond rfl (fun h25 => ?_) (fun h25 => ?_)
    ·
      (exfalso; exact h25 rfl)
    ·
      refine VC.skip (VE.seqN ?_)
      refine VC.seq ?_
      refine VC.seq ?_
      refine VC.reg (VO.l (LO.mv (.r rfl)) rfl<|VO.l (LO.call (xs := [_,_,_]) (vs := [_,_,_]) C119 ⟨(.r rfl), (.r rfl), (.r rfl), trivial⟩ (fun w _ => bwithin_c _ _ _ w)) rfl<|VO.l (LO.not (.r rfl)) rfl<|VO.nil ?_)
      refine VE.seqN ?_
      refine VC.cond rfl (fun h29 => ?_) (fun h29 => ?_)
      ·
        (exfalso; omega)
      ·
        refine VC.skip (VE.seqN ?_)
        refine VC.seq ?_
        refine VC.reg (VO.l (LO.fa (r := 3) F88_3 (.r rfl) rfl) rfl<|VO.l (LO.ld O3 (.r rfl) (fun _ hw => cells_at hw 0 rfl ⟨_, rfl⟩)) rfl<|VO.l (LO.fa (r := 4) F88_4 (.r rfl) rfl) rfl<|VO.l (LO.ld O3 (.r rfl) (fun _ hw => cells_at hw 0 rfl ⟨_, rfl⟩)) rfl<|VO.l (LO.mul (.r rfl) (.r rfl) (wi (by omega) (by omega))) rfl<|VO.h rfl<|HO.mks0 (n := W * H) S112 I3 (.r rfl) (.r rfl) (by omega) (by decide) (by omega) (by omega) fun b3 => VO.h rfl<|HO.lo (LO.as (.r rfl))<|VO.nil ?_)
        refine VE.seqN ?_
        refine VC.seq ?_
        refine VC.seq ?_
        refine VC.reg (VO.l (LO.fa (r := 4) F88_4 (.r rfl) rfl) rfl<|VO.l (LO.ld O3 (.r rfl) (fun _ hw => cells_at hw 1 rfl ⟨_, rfl⟩)) rfl<|VO.l (LO.mv (.r rfl)) rfl<|VO.nil ?_)
        refine VE.seqN ?_
        refine VC.block ?_
        refine VC.loopK (α := Nat × (List Int) × Nat × (Option Addr) × Nat) 1 (fun gx => [(10, .slice gx.2.2.2.1 gx.2.2.1 gx.2.2.2.2), (38, .int .i64 (gx.1 : Nat))]) [(1,_), (3,_), (5,_), (37,_)] (fun gx => [own 3 1 gx.2.2.2.1 gx.2.2.2.2 (gx.2.1.map intC)]) (fun gx => gx.1 ≤ H ∧ gx.2.2.1 = gx.2.1.length ∧ gx.2.1.length = gx.1 * W ∧ VwP x t W gx.2.1) (fun gx => H - gx.1) (0, [], 0,_,_) (by exact ⟨Nat.zero_le _, rfl, by simp, fun i v h => by simp at h⟩) (.cons rfl (.cons rfl (.cons rfl (.cons rfl (.cons rfl (.cons rfl .nil)))))) (fun _ h => h) ?_
        rintro ⟨i, o, n, po, co⟩ ⟨hi, hno, hol, hov⟩
        show VC _ _ _ _ _ ([(10, .slice po n co), (38, .int .i64 (i : Nat))] ++ _) ([own 3 1 po co (o.map intC)] ++ _) _ _
        dsimp only at hi hno hol hov
        refine VC.seq ?_
        refine VC.reg (VO.l (LO.lt (.r rfl) (.r rfl)) rfl<|VO.nil ?_)
        refine VE.seqN ?_
        refine VC.seq ?_
        refine VC.cond rfl (fun h39 => ?_) (fun h39 => ?_)
        ·
          have hiH : i < H := by omega
          have hmul : i * W + W ≤ H * W := by have := Nat.mul_le_mul_right W (show i + 1 ≤ H by omega); rw [Nat.add_mul, Nat.one_mul] at this; exact this
          have hcm : H * W = W * H := Nat.mul_comm _ _
          refine VC.skip (VE.seqN ?_)
          refine VC.seq ?_
          refine VC.block ?_
          refine VC.seq ?_
          refine VC.reg (VO.l (LO.mv (.r rfl)) rfl<|VO.l (LO.as (.r rfl)) rfl<|VO.nil ?_)
          refine VE.seqN ?_
          refine VC.seq ?_
          refine VC.reg (VO.l (LO.fa (r := 3) F88_3 (.r rfl) rfl) rfl<|VO.l (LO.ld O3 (.r rfl) (fun _ hw => cells_at hw 1 rfl ⟨_, rfl⟩)) rfl<|VO.l (LO.mv (.r rfl)) rfl<|VO.nil ?_)
          refine VE.seqN ?_
          refine VC.block ?_
          refine VC.loopK (α := Nat × (List Int) × Nat × (Option Addr) × Nat) 1 (fun gx => [(10, .slice gx.2.2.2.1 gx.2.2.1 gx.2.2.2.2), (43, .int .i64 (gx.1 : Nat))]) [(1,_), (3,_), (5,_), (11,_), (37,_), (38,_), (42,_)] (fun gx => [own 3 1 gx.2.2.2.1 gx.2.2.2.2 (gx.2.1.map intC)]) (fun gx => gx.1 ≤ W ∧ gx.2.2.1 = gx.2.1.length ∧ gx.2.1.length = i * W + gx.1 ∧ VwP x t W gx.2.1) (fun gx => W - gx.1) (0, o, n, po, co) (by exact ⟨Nat.zero_le _, hno, by omega, hov⟩) (.cons rfl (.cons rfl (.cons rfl (.cons rfl (.cons rfl (.cons rfl (.cons rfl (.cons rfl (.cons rfl .nil))))))))) (fun _ h => h) ?_
          rintro ⟨j, o, n, po, co⟩ ⟨hj, hno, hol, hov⟩
          show VC _ _ _ _ _ ([(10, .slice po n co), (43, .int .i64 (j : Nat))] ++ _) ([own 3 1 po co (o.map intC)] ++ _) _ _
          dsimp only at hj hno hol hov
          refine VC.seq ?_
          refine VC.reg (VO.l (LO.lt (.r rfl) (.r rfl)) rfl<|VO.nil ?_)
          refine VE.seqN ?_
          refine VC.seq ?_
          refine VC.cond rfl (fun h44 => ?_) (fun h44 => ?_)
          ·
            have hij := idx_ij (i := i) (show j < W by omega)
            refine VC.skip (VE.seqN ?_)
            refine VC.seq ?_
            refine VC.block ?_
            refine VC.seq ?_
            refine VC.reg (VO.l (LO.mv (.r rfl)) rfl<|VO.l (LO.as (.r rfl)) rfl<|VO.nil ?_)
            refine VE.seqN ?_
            refine VC.seq ?_
            refine VC.reg (VO.l (LO.lda (vs := [_,_,_,_,_,_,_,_]) A59 (.r rfl) (fun _ hw => cells_at hw 2 rfl ⟨_, rfl⟩) rfl) rfl<|VO.l (LO.mv (.r rfl)) rfl<|VO.l (LO.fa (r := 0) F88_0 (.r rfl) rfl) rfl<|VO.l (LO.ld O3 (.r rfl) (fun _ hw => cells_at hw 1 rfl ⟨_, rfl⟩)) rfl<|VO.l (LO.mv (.r rfl)) rfl<|VO.l (LO.fa (r := 2) F88_2 (.r rfl) rfl) rfl<|VO.l (LO.ld O3 (.r rfl) (fun _ hw => cells_at hw 1 rfl ⟨_, rfl⟩)) rfl<|VO.l (LO.mul (.r rfl) (.r rfl) (wi (by omega) (by omega))) rfl<|VO.l (LO.add (.r rfl) (.r rfl) (wi (by omega) (by omega))) rfl<|VO.l (LO.fa (r := 2) F88_2 (.r rfl) rfl) rfl<|VO.l (LO.ld O3 (.r rfl) (fun _ hw => cells_at hw 1 rfl ⟨_, rfl⟩)) rfl<|VO.l (LO.quo (.r rfl) (.r rfl) (by omega) (wi (by omega) (by omega))) rfl<|VO.l (LO.add (.r rfl) (.r rfl) (wi (by omega) (by omega))) rfl<|VO.l (LO.fa (r := 1) F88_1 (.r rfl) rfl) rfl<|VO.l (LO.ld O3 (.r rfl) (fun _ hw => cells_at hw 1 rfl ⟨_, rfl⟩)) rfl<|VO.l (LO.mv (.r rfl)) rfl<|VO.l (LO.fa (r := 2) F88_2 (.r rfl) rfl) rfl<|VO.l (LO.ld O3 (.r rfl) (fun _ hw => cells_at hw 1 rfl ⟨_, rfl⟩)) rfl<|VO.l (LO.mul (.r rfl) (.r rfl) (wi (by omega) (by omega))) rfl<|VO.l (LO.add (.r rfl) (.r rfl) (wi (by omega) (by omega))) rfl<|VO.l (LO.fa (r := 2) F88_2 (.r rfl) rfl) rfl<|VO.l (LO.ld O3 (.r rfl) (fun _ hw => cells_at hw 1 rfl ⟨_, rfl⟩)) rfl<|VO.l (LO.quo (.r rfl) (.r rfl) (by omega) (wi (by omega) (by omega))) rfl<|VO.l (LO.add (.r rfl) (.r rfl) (wi (by omega) (by omega))) rfl<|VO.h rfl<|HO.callx (xs := [_,_,_,_]) (vs := [_,_,_,_]) C262 ⟨(.r rfl), (.r rfl), (.r rfl), (.r rfl), trivial⟩ (fun w _ => findR_c x t _ _ hx (by omega) (by omega) ⟨by have := odd_ne (n := j) hx.cx; simpa using this, by omega, by omega⟩ ⟨by have := odd_ne' (n := i) hx.cy; simpa using this, by omega, by omega⟩ w) fun y ⟨hy1, hy2⟩ => VO.h rfl<|HO.lo (LO.mv (.r rfl))<|VO.h rfl<|HO.lo (LO.ex (.r rfl) rfl)<|VO.h rfl<|HO.lo (LO.ex (.r rfl) rfl)<|VO.h rfl<|HO.lo (LO.ex (.r rfl) rfl)<|VO.h rfl<|HO.lo (LO.as (.r rfl))<|VO.h rfl<|HO.lo (LO.as (.r rfl))<|VO.h rfl<|HO.lo (LO.as (.r rfl))<|VO.nil ?_)
            have hpx : GtP t x.g (pxD x W o.length) y.1 := by
              unfold pxD
              rw [hol, hij.1, hij.2]
              rw [show (j : Int) * 1000 + 500 - x.x = 0 + (j : Int) * 1000 + Int.tdiv 1000 2 - x.x by omega, show (i : Int) * 1000 + 500 - x.y = 0 + (i : Int) * 1000 + Int.tdiv 1000 2 - x.y by omega]
              exact hy1
            have hyb := hy1.bd (by omega)
            refine VE.seqN ?_
            refine VC.seq ?_
            refine VC.reg (VO.l (LO.as (.r rfl)) rfl<|VO.nil ?_)
            refine VE.seqN ?_
            refine VC.seq ?_
            refine VC.seq ?_
            refine VC.reg (VO.l (LO.mv (.r rfl)) rfl<|VO.nil ?_)
            refine VE.seqN ?_
            refine VC.cond rfl (fun h75 => ?_) (fun h75 => ?_)
            ·
              have hn_ : ¬ y.1 < 0 := by omega
              rw [if_neg hn_, if_neg hn_]
              have hsg := mul_bd (a := y.2) (b := x.g) (A := 7) (B := 8) (by omega) (by omega) (by omega) (by omega)
              refine VC.reg (VO.l (LO.mv (.r rfl)) rfl<|VO.l (LO.fa (r := 5) F59_5 (.r rfl) rfl) rfl<|VO.l (LO.ld O3 (.r rfl) (fun _ hw => cells_at hw 2 rfl ⟨_, rfl⟩)) rfl<|VO.l (LO.mul (.r rfl) (.r rfl) (wi (by omega) (by omega))) rfl<|VO.l (LO.mv (.r rfl)) rfl<|VO.l (LO.add (.r rfl) (.r rfl) (wi (by omega) (by omega))) rfl<|VO.l (LO.as (.r rfl)) rfl<|VO.nil ?_)
              refine VE.seqN ?_
              refine VC.reg (VO.l (LO.mv (.r rfl)) rfl<|VO.l (LO.mv (.r rfl)) rfl<|VO.h rfl<|HO.bs (ps := [(_,_)]) (vs := [(_,_)]) (Z := [_]) (C := [_]) S112 Z3 N3 ⟨(.r rfl), trivial⟩ rfl rfl rfl rfl ⟨_, [_], [_], rfl, rfl, rfl, rfl, rfl⟩ fun b4 => VO.h rfl<|HO.appT ((y.2 * x.g + y.1)) 1 0 (fun R => [_, R,_,_]) S112 S112 I3 (.r rfl) (.r rfl) rfl rfl rfl rfl rfl rfl rfl (fun _ => rfl) (by omega) (by omega) fun p3 c3 => VO.h rfl<|HO.lo (LO.as (.r rfl))<|VO.nil ?_)
              refine VE.inN (VE.seqN ?_)
              refine VC.reg (VO.l (LO.add (.r rfl) (.r rfl) (wi (by omega) (by omega))) rfl<|VO.l (LO.mv (.r rfl)) rfl<|VO.nil ?_)
              refine VE.thenN fun a w ha hw => ⟨(j + 1, o ++ [(y.2 * x.g + y.1)], (o ++ [(y.2 * x.g + y.1)]).length, p3, c3), ⟨by dsimp only; omega, rfl, by dsimp only; rw [List.length_append]; show _ + 1 = _; omega, by dsimp only; rw [vw_t h75]; exact hov.add hpx hy2⟩, (by dsimp only; omega), ha.sub (.cons rfl (.cons rfl (.cons rfl (.cons rfl (.cons rfl (.cons rfl (.cons rfl (.cons rfl (.cons rfl .nil))))))))), hw.sel [1,2,3] rfl⟩
            ·
              refine VC.skip (VE.seqN ?_)
              refine VC.reg (VO.l (LO.mv (.r rfl)) rfl<|VO.l (LO.mv (.r rfl)) rfl<|VO.h rfl<|HO.bs (ps := [(_,_)]) (vs := [(_,_)]) (Z := [_]) (C := [_]) S112 Z3 N3 ⟨(.r rfl), trivial⟩ rfl rfl rfl rfl ⟨_, [_], [_], rfl, rfl, rfl, rfl, rfl⟩ fun b5 => VO.h rfl<|HO.appT ((-1 : Int)) 1 0 (fun R => [_, R,_,_]) S112 S112 I3 (.r rfl) (.r rfl) rfl rfl rfl rfl rfl rfl rfl (fun _ => rfl) (by omega) (by omega) fun p3 c3 => VO.h rfl<|HO.lo (LO.as (.r rfl))<|VO.nil ?_)
              refine VE.inN (VE.seqN ?_)
              refine VC.reg (VO.l (LO.add (.r rfl) (.r rfl) (wi (by omega) (by omega))) rfl<|VO.l (LO.mv (.r rfl)) rfl<|VO.nil ?_)
              refine VE.thenN fun a w ha hw => ⟨(j + 1, o ++ [(-1 : Int)], (o ++ [(-1 : Int)]).length, p3, c3), ⟨by dsimp only; omega, rfl, by dsimp only; rw [List.length_append]; show _ + 1 = _; omega, by dsimp only; rw [vw_f h75]; exact hov.add hpx hy2⟩, (by dsimp only; omega), ha.sub (.cons rfl (.cons rfl (.cons rfl (.cons rfl (.cons rfl (.cons rfl (.cons rfl (.cons rfl (.cons rfl .nil))))))))), hw.sel [1,2,3] rfl⟩
          ·
            have hje : j = W := by omega
            refine VC.exit (VE.thenX (VE.thenX (VE.inX (VE.inN (VE.seqN ?_)))))
            refine VC.reg (VO.l (LO.add (.r rfl) (.r rfl) (wi (by omega) (by omega))) rfl<|VO.l (LO.mv (.r rfl)) rfl<|VO.nil ?_)
            refine VE.thenN fun a w ha hw => ⟨(i + 1, o, n, po, co), ⟨by dsimp only; omega, hno, by dsimp only; rw [hol, hje, Nat.add_mul, Nat.one_mul], hov⟩, (by dsimp only; omega), ha.sub (.cons rfl (.cons rfl (.cons rfl (.cons rfl (.cons rfl (.cons rfl .nil)))))), hw⟩
        ·
          have hie : i = H := by omega
          refine VC.exit (VE.thenX (VE.thenX (VE.inX (VE.seqN ?_))))
          refine VC.seq ?_
          refine VC.reg (VO.l (LO.mv (.r rfl)) rfl<|VO.l (LO.as (.r rfl)) rfl<|VO.l (LO.as (.r rfl)) rfl<|VO.nil ?_)
          refine VE.seqN ?_
          refine VC.ret (VE.res (vs := [_,_]) rfl ⟨rfl, rfl, trivial⟩ (fun w hw => ?_))
          exact ⟨(o, po, co), ⟨by show o.length = _; rw [hol, hie, Nat.mul_comm], hov⟩, by rw [hno]; rfl, hw.sel [0] rfl⟩

end Go.Proofs.YtffbohecdocajaaGreat

namespace Go.Proofs.YtffbohecdocajaaGreat
open Go.SL Go.Proofs Go.Pulse
set_option linter.unusedVariables false

theorem B391 : Builds Tryz.prog 391 [(0,1), (1,1)] [.string ByteArray.empty, .int .i64 0] := Builds.mk fun _ => by kernel_rfl
theorem Z391 : ZeroOf Tryz.prog 391 (.agg #[.string ByteArray.empty, .int .i64 0]) := by unfold ZeroOf; kernel_rfl
theorem N391 : (Tryz.prog.info? 391).map (·.size) = some 2 := by kernel_rfl
theorem A391 : IsAgg Tryz.prog 391 2 := ⟨⟨_, Tryz.underlying391, rfl⟩, by kernel_rfl⟩
theorem Z59 : ZeroOf Tryz.prog 59 (.agg #[.string ByteArray.empty, .int .i64 0, .int .i64 0, .int .i64 0, .int .i64 0, .int .i64 0, .int .i64 0, .int .i64 0]) := by unfold ZeroOf; kernel_rfl
theorem N59 : (Tryz.prog.info? 59).map (·.size) = some 8 := by kernel_rfl
theorem C223 : IsFn Tryz.prog 223 := ⟨_, Tryz.func223, by decide, rfl⟩
theorem C187 : IsFn Tryz.prog 187 := ⟨_, Tryz.func187, by decide, rfl⟩
theorem S291 : IsSlice Tryz.prog 291 25 := Tryz.underlying291


/-- What a radar sees of a pixel: the heights of its gate, or nothing. -/
def lkS (x : RdM) (t r : Int) : Span := if r < 0 then ⟨1,0⟩ else bndS x t r
def LkP (x : RdM) (t : Int) (W : Nat) (o : List Span) : Prop := ∀ i v, o[i]? = some v → ∃ r : Int, GtP t x.g (pxD x W i) r ∧ v = lkS x t r
theorem LkP.nil {x : RdM} {t : Int} {W : Nat} : LkP x t W [] := fun i v h => by simp at h
theorem LkP.add {x : RdM} {t : Int} {W : Nat} {o : List Span} (h : LkP x t W o) {r : Int} (hr : GtP t x.g (pxD x W o.length) r) : LkP x t W (o ++ [lkS x t r]) := fun i v hv => by
  rcases Nat.lt_trichotomy i o.length with q | q | q
  · rw [List.getElem?_append_left q] at hv; exact h i v hv
  · subst q
    rw [List.getElem?_append_right (Nat.le_refl _), Nat.sub_self] at hv
    cases hv
    exact ⟨r, hr, rfl⟩
  · rw [List.getElem?_eq_none (by rw [List.length_append, List.length_cons, List.length_nil]; omega)] at hv; cases hv
theorem LkP.uniq {x : RdM} {t : Int} {W : Nat} {o u : List Span} (h1 : -30 ≤ t) (h2 : t ≤ 30) (h : LkP x t W o) (k : LkP x t W u) (hl : o.length = u.length) : o = u := by
  refine List.ext_getElem? fun i => ?_
  rcases Nat.lt_or_ge i o.length with q | q
  · rw [List.getElem?_eq_getElem q, List.getElem?_eq_getElem (by omega)]
    obtain ⟨r, a1, a2⟩ := h i _ (List.getElem?_eq_getElem q)
    obtain ⟨s, b1, b2⟩ := k i _ (List.getElem?_eq_getElem (show i < u.length by omega))
    rw [a2, b2, a1.uniq h1 h2 b1]
  · rw [List.getElem?_eq_none q, List.getElem?_eq_none (by omega)]
/-- What has been looked up so far. -/
def LkI (R : Fin 3 → Option (Option RdM)) (W H : Nat) (C : KeyW → Option VY) (ls : List VY) : Prop := ∀ k y, C k = some y → y ∈ ls ∧ y.v.length = W * H ∧ ∃ x, R k.1 = some (some x) ∧ LkP x k.2 W y.v
theorem LkI.mono {R : Fin 3 → Option (Option RdM)} {W H : Nat} {C : KeyW → Option VY} {ls l2 : List VY} (h : LkI R W H C ls) (hs : ∀ y, y ∈ ls → y ∈ l2) : LkI R W H C l2 := fun k y hy => by
  obtain ⟨a1, a2⟩ := h k y hy
  exact ⟨hs y a1, a2⟩
theorem LkI.put {R : Fin 3 → Option (Option RdM)} {W H : Nat} {C : KeyW → Option VY} {ls : List VY} {k : KeyW} {o : VY} {x : RdM} (h : LkI R W H C ls) (hR : R k.1 = some (some x)) (hl : o.v.length = W * H) (hk : LkP x k.2 W o.v) : LkI R W H (updG C k o) (o :: ls) := fun k2 y2 hy2 => by
  unfold updG at hy2
  split at hy2
  · rename_i e
    cases hy2
    subst e
    exact ⟨List.mem_cons_self, hl, x, hR, hk⟩
  · obtain ⟨a1, a2⟩ := h k2 y2 hy2
    exact ⟨List.mem_cons_of_mem _ a1, a2⟩
theorem vw_some {x : RdM} {r s v : Int} (hx : 1 ≤ x.g ∧ x.g ≤ 8) {t d : Int} (h : GtP t x.g d r) (hs : 0 ≤ s ∧ s ≤ 7) (hv : v = vwV x r s) : (0 ≤ v → 0 ≤ r ∧ r < x.g ∧ v.tmod x.g = r ∧ 0 ≤ v ∧ v ≤ 100) ∧ (¬ 0 ≤ v → r < 0) := by
  have m := mul_bd (a := s) (b := x.g) (A := 7) (B := 8) (by omega) (by omega) (by omega) (by omega)
  have hb := h.bd (by omega)
  by_cases q : r < 0
  · have e : v = -1 := by rw [hv]; unfold vwV; rw [if_pos q]
    exact ⟨fun z => by omega, fun _ => q⟩
  · have e : v = s * x.g + r := by rw [hv]; unfold vwV; rw [if_neg q]
    have hr : r < x.g := by rcases h.h with ⟨_, z⟩ | ⟨_, ⟨_, z⟩,_⟩ <;> omega
    refine ⟨fun z => ⟨by omega, hr, ?_, by omega, by omega⟩, fun z => absurd (by omega) z⟩
    rw [Int.tmod_eq_emod_of_nonneg z, e, Int.add_comm, Int.add_mul_emod_self_right, Int.emod_eq_of_lt (by omega) hr]

set_option maxRecDepth 20000 in
set_option maxHeartbeats 4000000 in
theorem look_c (bn : Nat) (q : NdQ) (c : Nat) (R : Fin 3 → Option (Option RdM)) (C : KeyW → Option VY) (ls : List VY) (k : KeyM) (x : RdM) (w : World) (hR : R k.1 = some (some x)) (hx : RdOk x) (ht : 0 ≤ k.2.1 ∧ k.2.1 ≤ 2) (hW : 1 ≤ q.w ∧ q.w ≤ 6) (hH : 1 ≤ q.h ∧ q.h ≤ 6) (hI : LkI R q.w q.h C ls) (hh : Has w [mapR wV lkV q.lm C, bagD (ls.map vOwn)]) (hF : ∀ L w2, St ⟨w, fpL [mapR wV lkV q.lm C, bagD (ls.map vOwn)]⟩ L w2 → Cells w2 ⟨bn, 0, none⟩ (ndL q c) ∧ (mapR nmV rdV q.rm R).inv w2) :
  Calls Tryz.prog 171 #[.pointer (some ⟨bn, 0, none⟩), .agg (keyC k).toArray] w fun e w' => ∃ y : (VY × (KeyW → Option VY)) × List VY, (y.1.1 ∈ y.2 ∧ y.1.1.v.length = q.w * q.h ∧ LkP x k.2.1 q.w y.1.1.v ∧ LkI R q.w q.h y.1.2 y.2 ∧ ∀ z, z ∈ ls → z ∈ y.2) ∧ e = .returned (.slice y.1.1.p y.1.1.v.length y.1.1.c) ∧ St ⟨w, fpL [mapR wV lkV q.lm C, bagD (ls.map vOwn)]⟩ [mapR wV lkV q.lm y.1.2, bagD (y.2.map vOwn)] w' := by
  have hRv : rdV ((R k.1).getD none) = .agg (rdC x).toArray := by rw [hR]; rfl
  have hg := hx.cg
  have hWH2 : q.w * q.h ≤ 36 := Nat.mul_le_mul hW.2 hH.2
  refine enterO (vs := [_,_]) (env := [(0,_), (1,_)]) hh.enter Tryz.func171 rfl rfl rfl rfl ?_
  refine VC.seq ?_
  refine VC.reg (VO.h rfl<|HO.box (C := #[_,_,_]) rfl rfl fun b3 => VO.l (LO.as (.r rfl)) rfl<|VO.nil ?_)
  refine VE.seqN ?_
  refine VC.seq ?_
  refine VC.reg (VO.l (LO.fa (r := 0) F139_0 (.r rfl) rfl) rfl<|VO.l (LO.ld O9 (.r rfl) (fun _ hw => cells_at hw 0 rfl ⟨_, rfl⟩)) rfl<|VO.l (LO.fa (r := 1) F139_1 (.r rfl) rfl) rfl<|VO.l (LO.ld O3 (.r rfl) (fun _ hw => cells_at hw 0 rfl ⟨_, rfl⟩)) rfl<|VO.l (LO.bd (ps := [(_,_), (_,_)]) (vs := [(_,_), (_,_)]) (C := [_,_]) B391  ⟨(.r rfl), (.r rfl), trivial⟩ rfl ⟨_, [_], [_,_], rfl, rfl, rfl, rfl, ⟨_, [_], [_,_], rfl, rfl, rfl, rfl, rfl⟩⟩) rfl<|VO.h rfl<|HO.alloc (C := #[_,_]) Z391 rfl fun b4 => VO.h0<|HO.st 0 (vs := [_,_]) (C' := [_,_]) (L' := [_,_,_,_]) N391 rfl rfl rfl rfl rfl rfl rfl rfl<|VO.nil ?_)
  refine VE.seqN ?_
  refine VC.seq ?_
  refine VC.seq ?_
  refine VC.draw mixed (LL.l (LO.mv (.r rfl)) rfl<|LL.l (LO.nc (.r rfl)) rfl<|LL.l (LO.fa (r := 13) F277_5 (.r rfl) rfl) rfl<|LL.l (LO.ld O275 (.r rfl) (fun _ hw => sub_cells (off := 13) (hF _ _ hw).1 ⟨_, rfl⟩)) rfl<|LL.l (LO.lda (vs := [_,_]) A391 (.r rfl) (fun _ hw => cells_at hw 0 rfl ⟨_, rfl⟩) rfl) rfl<|LL.l (LO.lkG (n := ((k.1, k.2.1) : KeyW)) map275 (.r rfl) (.r rfl) (fun w hw => St.inv hw 2 _ rfl)) rfl<|LL.l (LO.mv (.r rfl)) rfl<|LL.l (LO.ex (.r rfl) rfl) rfl<|LL.l (LO.ex (.r rfl) rfl) rfl<|LL.l (LO.as (.r rfl)) rfl<|LL.l (LO.as (.r rfl)) rfl<|LL.nil) (by kernel_rfl) ?_
  refine VE.seqN ?_
  refine VC.seq ?_
  refine VC.reg (VO.l (LO.mv (.r rfl)) rfl<|VO.nil ?_)
  refine VE.seqN ?_
  refine VC.cond rfl (fun h29 => ?_) (fun h29 => ?_)
  ·
    refine VC.seq ?_
    refine VC.reg (VO.l (LO.mv (.r rfl)) rfl<|VO.l (LO.as (.r rfl)) rfl<|VO.nil ?_)
    refine VE.seqN ?_
    refine VC.ret (VE.thenR (VE.res (vs := [_]) rfl ⟨rfl, trivial⟩ (fun w hw => ?_)))
    obtain ⟨y, hy⟩ := Option.isSome_iff_exists.1 h29
    obtain ⟨a1, a2, x2, a3, a4⟩ := hI _ y hy
    rw [hR] at a3
    cases a3
    exact ⟨((y, C), ls), ⟨a1, a2, a4, hI, fun _ h => h⟩, by simp only [resV, hy, Option.getD_some]; rfl, hw.sel [2,3] rfl⟩
  ·
    refine VC.skip (VE.seqN ?_)
    refine VC.seq ?_
    refine VC.drawH [[0,1,2,3], [0,1,2,3], [0,1,2,3]] [some 1, some 1, some 1, some 1, some 1, some 1, some 1, some 1, none, none] mixed (by kernel_rfl) rfl (LX.l (fun _ hJ => LO.mv (.r rfl)) rfl<|LX.l (fun _ hJ => LO.nc (.r rfl)) rfl<|LX.l (fun _ hJ => LO.fa (r := 9) F277_1 (.r rfl) rfl) rfl<|LX.l (fun _ hJ => LO.ld O273 (.r rfl) (fun _ hw => sub_cells (off := 9) (hF _ _ (hJ _ hw)).1 ⟨_, rfl⟩)) rfl<|LX.l (fun _ hJ => LO.fa (r := 0) F139_0 (.r rfl) rfl) rfl<|LX.l (fun _ hJ => LO.ld O9 (.r rfl) (fun _ hw => cells_at (hJ _ hw) 1 rfl ⟨_, rfl⟩)) rfl<|LX.l (fun _ hJ => LO.eqv (LO.lkG1 (n := k.1) map273 (.r rfl) (.r rfl) (fun w hw => (hF _ _ (hJ _ hw)).2)) hRv) rfl<|LX.l (fun _ hJ => LO.fd (vs := [_,_,_,_,_,_,_,_]) Tryz.underlying270 rfl rfl A59 (.r rfl) rfl) rfl<|LX.s<|LX.s<|LX.nil) (HX.s<|HX.s<|HX.s<|HX.s<|HX.s<|HX.s<|HX.s<|HX.s<|HX.h rfl<|HO.alloc (C := #[_,_,_,_,_,_,_,_]) Z59 rfl fun b8 => ⟨fun _ hw => hw.sel [1,2,3,4] rfl, HX.h0<|HO.st 0 (vs := [_,_,_,_,_,_,_,_]) (C' := [_,_,_,_,_,_,_,_]) (L' := [_,_,_,_,_]) N59 rfl rfl rfl rfl rfl rfl rfl rfl<|⟨fun _ hw => hw.sel [1,2,3,4] rfl, HX.nil ?_⟩⟩)
    refine VE.seqN ?_
    refine VC.seq ?_
    refine VC.drawF (G := List Int × Option Addr × Nat) (fun y => [(9, .slice y.2.1 y.1.length y.2.2), (10, .int .i64 0)]) [(0,_), (3,_), (5,_), (8,_)] (fun y => [own 3 1 y.2.1 y.2.2 (y.1.map intC)]) [_,_,_,_,_] (fun y => y.1.length = q.w * q.h ∧ VwP x k.2.1 q.w y.1) 7 [some 0, some 0, some 0, some 0, some 0, some 0, some 0, some 0, none, none, none, none, none, none] mixed (by kernel_rfl) (LX.l (fun _ hJ => LO.lda (vs := [_,_,_,_,_,_,_,_]) A59 (.r rfl) (fun _ hw => cells_at (hJ _ hw) 0 rfl ⟨_, rfl⟩) rfl) rfl<|LX.l (fun _ hJ => LO.fa (r := 1) F139_1 (.r rfl) rfl) rfl<|LX.l (fun _ hJ => LO.ld O3 (.r rfl) (fun _ hw => cells_at (hJ _ hw) 2 rfl ⟨_, rfl⟩)) rfl<|LX.l (fun _ hJ => LO.mv (.r rfl)) rfl<|LX.l (fun _ hJ => LO.nc (.r rfl)) rfl<|LX.l (fun _ hJ => LO.fa (r := 0) F277_0 (.r rfl) rfl) rfl<|LX.l (fun _ hJ => LO.fa (r := 0) F131_0 (.r rfl) rfl) rfl<|LX.l (fun _ hJ => LO.lda (vs := [_,_,_,_,_]) A88 (.r rfl) (fun _ hw => sub_cells (off := 0) (hF _ _ (hJ _ hw)).1 ⟨_, rfl⟩) rfl) rfl<|LX.s<|LX.s<|LX.s<|LX.s<|LX.s<|LX.s<|LX.nil) (fun hf => (HE.mk [8] (by kernel_rfl) rfl ⟨(HEo.op rfl rfl<|HO.callx (xs := [_,_,_]) (vs := [_,_,_]) C223 ⟨(.r rfl), (.r rfl), (.r rfl), trivial⟩ (fun w _ => ViewR_c x k.2.1 q.w q.h hx (by omega) hW hH w) fun yv ⟨hvl, hvw⟩ => ⟨selK (L1 := [_,_,_,_,_]) [1,2,3,4,5] rfl rfl, (HE.mk [9] (by kernel_rfl) rfl ⟨(HEo.op rfl rfl<|HO.lo (LO.mv (.r rfl))<|⟨selK (L1 := [_,_,_,_,_]) [1,2,3,4,5] rfl rfl, (HE.mk [10,11] (by kernel_rfl) rfl ⟨(HEo.op rfl rfl<|HO.lo (LO.ex (.r rfl) rfl)<|⟨selK (L1 := [_,_,_,_,_]) [1,2,3,4,5] rfl rfl, (HE.mk [11,12] (by kernel_rfl) rfl ⟨(HEo.op rfl rfl<|HO.lo (LO.ex (.r rfl) rfl)<|⟨selK (L1 := [_,_,_,_,_]) [1,2,3,4,5] rfl rfl, (HE.mk [12] (by kernel_rfl) rfl ⟨(HEo.op rfl rfl<|HO.lo (LO.as (.r rfl))<|⟨selK (L1 := [_,_,_,_,_]) [1,2,3,4,5] rfl rfl, (HE.mk [13] (by kernel_rfl) rfl ⟨(HEo.op rfl rfl<|HO.lo (LO.as (.r rfl))<|⟨selK (L1 := [_,_,_,_,_]) [1,2,3,4,5] rfl rfl, (HE.fin (by kernel_rfl) (VE.weak (.cons rfl (.cons rfl (.cons rfl (.cons rfl (.cons rfl (.cons rfl .nil)))))) (selK (L1 := [_] ++ [_,_,_,_,_]) [0,1,2,3,4,5] rfl rfl) (hf yv ⟨hvl, hvw⟩)))⟩), trivial⟩)⟩), trivial⟩)⟩), (HEo.op rfl rfl<|HO.lo (LO.as (.r rfl))<|⟨selK (L1 := [_,_,_,_,_]) [1,2,3,4,5] rfl rfl, (HE.mk [11] (by kernel_rfl) rfl ⟨(HEo.op rfl rfl<|HO.lo (LO.ex (.r rfl) rfl)<|⟨selK (L1 := [_,_,_,_,_]) [1,2,3,4,5] rfl rfl, (HE.mk [13] (by kernel_rfl) rfl ⟨(HEo.op rfl rfl<|HO.lo (LO.as (.r rfl))<|⟨selK (L1 := [_,_,_,_,_]) [1,2,3,4,5] rfl rfl, (HE.fin (by kernel_rfl) (VE.weak (.cons rfl (.cons rfl (.cons rfl (.cons rfl (.cons rfl (.cons rfl .nil)))))) (selK (L1 := [_] ++ [_,_,_,_,_]) [0,1,2,3,4,5] rfl rfl) (hf yv ⟨hvl, hvw⟩)))⟩), trivial⟩)⟩), trivial⟩)⟩), trivial⟩)⟩), (HEo.op rfl rfl<|HO.lo (LO.ex (.r rfl) rfl)<|⟨selK (L1 := [_,_,_,_,_]) [1,2,3,4,5] rfl rfl, (HE.mk [10] (by kernel_rfl) rfl ⟨(HEo.op rfl rfl<|HO.lo (LO.ex (.r rfl) rfl)<|⟨selK (L1 := [_,_,_,_,_]) [1,2,3,4,5] rfl rfl, (HE.mk [12] (by kernel_rfl) rfl ⟨(HEo.op rfl rfl<|HO.lo (LO.as (.r rfl))<|⟨selK (L1 := [_,_,_,_,_]) [1,2,3,4,5] rfl rfl, (HE.mk [13] (by kernel_rfl) rfl ⟨(HEo.op rfl rfl<|HO.lo (LO.as (.r rfl))<|⟨selK (L1 := [_,_,_,_,_]) [1,2,3,4,5] rfl rfl, (HE.fin (by kernel_rfl) (VE.weak (.cons rfl (.cons rfl (.cons rfl (.cons rfl (.cons rfl (.cons rfl .nil)))))) (selK (L1 := [_] ++ [_,_,_,_,_]) [0,1,2,3,4,5] rfl rfl) (hf yv ⟨hvl, hvw⟩)))⟩), trivial⟩)⟩), trivial⟩)⟩), trivial⟩)⟩), trivial⟩)⟩), trivial⟩)⟩), trivial⟩)) (fun y hy => ?_)

    obtain ⟨yv, rfl⟩ : ∃ yv : List Int × Option Addr × Nat, yv = y := ⟨y, rfl⟩
    obtain ⟨hvl, hvw⟩ := hy
    refine VE.seqN ?_
    refine VC.seq ?_
    refine VC.reg (VO.l (LO.as (.r rfl)) rfl<|VO.nil ?_)
    refine VE.seqN ?_
    refine VC.seq ?_
    refine VC.seq ?_
    refine VC.reg (VO.l (LO.mv (.r rfl)) rfl<|VO.l (LO.len S112 (.r rfl) rfl) rfl<|VO.l (LO.mv (.r rfl)) rfl<|VO.nil ?_)
    refine VE.seqN ?_
    refine VC.block ?_
    refine VC.loopK (α := Nat × (List Span) × Nat × (Option Addr) × Nat) 0 (fun gx => [(11, .slice gx.2.2.2.1 gx.2.2.1 gx.2.2.2.2), (53, .int .i64 (gx.1 : Nat))]) [(0,_), (3,_), (5,_), (8,_), (51,_), (52,_)] (fun gx => [own 25 2 gx.2.2.2.1 gx.2.2.2.2 (gx.2.1.map spanC)]) (fun gx => gx.1 ≤ yv.1.length ∧ gx.2.2.1 = gx.2.1.length ∧ gx.2.1.length = gx.1 ∧ LkP x k.2.1 q.w gx.2.1) (fun gx => yv.1.length - gx.1) (0, [], 0, none, 0) (by exact ⟨Nat.zero_le _, rfl, rfl, LkP.nil⟩) (.cons rfl (.cons rfl (.cons rfl (.cons rfl (.cons rfl (.cons rfl (.cons rfl (.cons rfl .nil)))))))) (fun _ h => (h.ownNil 25 2)) ?_
    rintro ⟨i, o, n, po, co⟩ ⟨hi, hno, hol, hLk⟩
    show VC _ _ _ _ _ ([(11, .slice po n co), (53, .int .i64 (i : Nat))] ++ _) ([own 25 2 po co (o.map spanC)] ++ _) _ _
    dsimp only at hi hno hol hLk
    refine VC.seq ?_
    refine VC.reg (VO.l (LO.lt (.r rfl) (.r rfl)) rfl<|VO.nil ?_)
    refine VE.seqN ?_
    refine VC.seq ?_
    refine VC.cond rfl (fun h54 => ?_) (fun h54 => ?_)
    ·
      obtain ⟨v, hvi⟩ : ∃ v, yv.1[i]? = some v := ⟨_, List.getElem?_eq_getElem (by omega)⟩
      obtain ⟨r, s, hr, hs, hv⟩ := hvw i v hvi
      have hvs := vw_some hg hr hs hv
      refine VC.skip (VE.seqN ?_)
      refine VC.seq ?_
      refine VC.block ?_
      refine VC.seq ?_
      refine VC.reg (VO.l (LO.ixo S112 N3 (fun _ hw => (own_rows hw 1 rfl).some (by rw [List.length_map])) (.r rfl) (.r rfl) rfl (by omega)) rfl<|VO.l (LO.ld O3 (.r rfl) (fun w hw => cells_part (off := 0) (own_cell hw 1 rfl hvi) ⟨_, rfl⟩)) rfl<|VO.l (LO.as (.r rfl)) rfl<|VO.nil ?_)
      refine VE.seqN ?_
      refine VC.seq ?_
      refine VC.reg (VO.l (LO.bd (ps := [(_,_)]) (vs := [(_,_)]) (C := [_,_]) B25  ⟨(.r rfl), trivial⟩ rfl ⟨_, [_], [_,_], rfl, rfl, rfl, rfl, rfl⟩) rfl<|VO.h rfl<|HO.alloc (C := #[_,_]) Z25 rfl fun b12 => VO.h0<|HO.st 0 (vs := [_,_]) (C' := [_,_]) (L' := [_,_,_,_,_,_,_,_]) N25 rfl rfl rfl rfl rfl rfl rfl rfl<|VO.nil ?_)
      refine VE.seqN ?_
      refine VC.seq ?_
      refine VC.seq ?_
      refine VC.reg (VO.l (LO.mv (.r rfl)) rfl<|VO.l (LO.ge (.r rfl) (.r rfl)) rfl<|VO.nil ?_)
      refine VE.seqN ?_
      refine VC.cond rfl (fun h59 => ?_) (fun h59 => ?_)
      ·
        have hv3 := hvs.1 h59
        have hv4 : lkS x k.2.1 r = bndS x k.2.1 (v.tmod x.g) := by rw [hv3.2.2.1]; unfold lkS; rw [if_neg (by omega)]
        refine VC.drawH [[0,1,2,3,4,5,6,7], [1,2,3,4,5,6,7]] [some 0, some 0, some 0, some 0, some 0, some 0, some 0, some 0, some 0, some 0, some 0, some 0, some 0, some 0, some 0, some 1, none] mixed (by kernel_rfl) rfl (LX.l (fun _ hJ => LO.lda (vs := [_,_,_,_,_,_,_,_]) A59 (.r rfl) (fun _ hw => cells_at (hJ _ hw) 3 rfl ⟨_, rfl⟩) rfl) rfl<|LX.l (fun _ hJ => LO.fa (r := 1) F139_1 (.r rfl) rfl) rfl<|LX.l (fun _ hJ => LO.ld O3 (.r rfl) (fun _ hw => cells_at (hJ _ hw) 5 rfl ⟨_, rfl⟩)) rfl<|LX.l (fun _ hJ => LO.mv (.r rfl)) rfl<|LX.l (fun _ hJ => LO.nc (.r rfl)) rfl<|LX.l (fun _ hJ => LO.fa (r := 0) F277_0 (.r rfl) rfl) rfl<|LX.l (fun _ hJ => LO.fa (r := 5) F131_1 (.r rfl) rfl) rfl<|LX.l (fun _ hJ => LO.lda (vs := [_,_]) A25 (.r rfl) (fun _ hw => sub_cells (off := 5) (hF _ _ (hJ _ hw)).1 ⟨_, rfl⟩) rfl) rfl<|LX.l (fun _ hJ => LO.mv (.r rfl)) rfl<|LX.l (fun _ hJ => LO.fa (r := 5) F59_5 (.r rfl) rfl) rfl<|LX.l (fun _ hJ => LO.ld O3 (.r rfl) (fun _ hw => cells_at (hJ _ hw) 3 rfl ⟨_, rfl⟩)) rfl<|LX.l (fun _ hJ => LO.rem (.r rfl) (.r rfl) (by omega)) rfl<|LX.l (fun _ hJ => LO.call (xs := [_,_,_,_]) (vs := [_,_,_,_]) C187 ⟨(.r rfl), (.r rfl), (.r rfl), (.r rfl), trivial⟩ (fun w _ => bandR_c x k.2.1 (v.tmod x.g) hx (by omega) (by omega) w)) rfl<|LX.l (fun _ hJ => LO.mv (.r rfl)) rfl<|LX.l (fun _ hJ => LO.ex (.r rfl) rfl) rfl<|LX.l (fun _ hJ => LO.ex (.r rfl) rfl) rfl<|LX.s<|LX.nil) (HX.s<|HX.s<|HX.s<|HX.s<|HX.s<|HX.s<|HX.s<|HX.s<|HX.s<|HX.s<|HX.s<|HX.s<|HX.s<|HX.s<|HX.s<|HX.s<|HX.h0<|HO.st 0 (vs := [_,_]) (C' := [_,_]) (L' := [_,_,_,_,_,_,_,_]) N25 rfl rfl rfl rfl rfl rfl rfl rfl<|⟨fun _ hw => hw.sel [1,2,3,4,5,6,7] rfl, HX.nil ?_⟩)
        refine VE.seqN ?_
        refine VC.reg (VO.l (LO.mv (.r rfl)) rfl<|VO.l (LO.lda (vs := [_,_]) A25 (.r rfl) (fun _ hw => cells_at hw 0 rfl ⟨_, rfl⟩) rfl) rfl<|VO.h rfl<|HO.bs (ps := [(_,_)]) (vs := [(_,_)]) (Z := [_,_]) (C := [_,_]) S291 Z25 N25 ⟨(.r rfl), trivial⟩ rfl rfl rfl rfl ⟨_, [_,_], [_,_], rfl, rfl, rfl, rfl, rfl⟩ fun b16 => VO.h rfl<|HO.appT ((bndS x k.2.1 (v.tmod x.g))) 2 0 (fun R => [_,_, R,_,_,_,_,_,_]) S291 S291 I25 (.r rfl) (.r rfl) rfl rfl rfl rfl rfl rfl rfl (fun _ => rfl) (by omega) (by omega) fun p3 c3 => VO.h rfl<|HO.lo (LO.as (.r rfl))<|VO.nil ?_)
        refine VE.inN (VE.seqN ?_)
        refine VC.reg (VO.l (LO.add (.r rfl) (.r rfl) (wi (by omega) (by omega))) rfl<|VO.l (LO.mv (.r rfl)) rfl<|VO.nil ?_)
        refine VE.thenN fun a w ha hw => ⟨(i + 1, o ++ [(bndS x k.2.1 (v.tmod x.g))], (o ++ [(bndS x k.2.1 (v.tmod x.g))]).length, p3, c3), ⟨by dsimp only; omega, rfl, by dsimp only; rw [List.length_append]; show _ + 1 = _; omega, by dsimp only; rw [← hv4]; exact hLk.add (by rw [hol]; exact hr)⟩, (by dsimp only; omega), ha.sub (.cons rfl (.cons rfl (.cons rfl (.cons rfl (.cons rfl (.cons rfl (.cons rfl (.cons rfl .nil)))))))), hw.sel [2,3,4,5,6,7,8] rfl⟩
      ·
        have hv4 : lkS x k.2.1 r = ⟨1,0⟩ := by unfold lkS; rw [if_pos (hvs.2 h59)]
        refine VC.skip (VE.seqN ?_)
        refine VC.reg (VO.l (LO.mv (.r rfl)) rfl<|VO.l (LO.lda (vs := [_,_]) A25 (.r rfl) (fun _ hw => cells_at hw 0 rfl ⟨_, rfl⟩) rfl) rfl<|VO.h rfl<|HO.bs (ps := [(_,_)]) (vs := [(_,_)]) (Z := [_,_]) (C := [_,_]) S291 Z25 N25 ⟨(.r rfl), trivial⟩ rfl rfl rfl rfl ⟨_, [_,_], [_,_], rfl, rfl, rfl, rfl, rfl⟩ fun b17 => VO.h rfl<|HO.appT ((⟨1,0⟩ : Span)) 2 0 (fun R => [_,_, R,_,_,_,_,_,_]) S291 S291 I25 (.r rfl) (.r rfl) rfl rfl rfl rfl rfl rfl rfl (fun _ => rfl) (by omega) (by omega) fun p3 c3 => VO.h rfl<|HO.lo (LO.as (.r rfl))<|VO.nil ?_)
        refine VE.inN (VE.seqN ?_)
        refine VC.reg (VO.l (LO.add (.r rfl) (.r rfl) (wi (by omega) (by omega))) rfl<|VO.l (LO.mv (.r rfl)) rfl<|VO.nil ?_)
        refine VE.thenN fun a w ha hw => ⟨(i + 1, o ++ [(⟨1,0⟩ : Span)], (o ++ [(⟨1,0⟩ : Span)]).length, p3, c3), ⟨by dsimp only; omega, rfl, by dsimp only; rw [List.length_append]; show _ + 1 = _; omega, by dsimp only; rw [← hv4]; exact hLk.add (by rw [hol]; exact hr)⟩, (by dsimp only; omega), ha.sub (.cons rfl (.cons rfl (.cons rfl (.cons rfl (.cons rfl (.cons rfl (.cons rfl (.cons rfl .nil)))))))), hw.sel [2,3,4,5,6,7,8] rfl⟩
    ·
      have hie : i = yv.1.length := by omega
      refine VC.exit (VE.thenX (VE.thenX (VE.inX (VE.seqN ?_))))
      refine VC.seq ?_
      subst hno
      have hol2 : o.length = q.w * q.h := by omega
      refine VC.drawH [[0,1,2,3,4,5,6], [0,1,2,3,4,6]] [some 0, some 0, some 0, some 0, some 0, some 0, none] mixed (by kernel_rfl) rfl (LX.l (fun _ hJ => LO.mv (.r rfl)) rfl<|LX.l (fun _ hJ => LO.nc (.r rfl)) rfl<|LX.l (fun _ hJ => LO.fa (r := 13) F277_5 (.r rfl) rfl) rfl<|LX.l (fun _ hJ => LO.ld O275 (.r rfl) (fun _ hw => sub_cells (off := 13) (hF _ _ (hJ _ hw)).1 ⟨_, rfl⟩)) rfl<|LX.l (fun _ hJ => LO.lda (vs := [_,_]) A391 (.r rfl) (fun _ hw => cells_at (hJ _ hw) 3 rfl ⟨_, rfl⟩) rfl) rfl<|LX.l (fun _ hJ => LO.mv (.r rfl)) rfl<|LX.s<|LX.nil) (HX.s<|HX.s<|HX.s<|HX.s<|HX.s<|HX.s<|HX.h0<|HO.mupG 5 (fun R => [_,_,_,_,_, R,_]) ((k.1, k.2.1) : KeyW) (⟨o, po, co⟩ : VY) map275 (.r rfl) (.r rfl) (.r rfl) rfl (fun _ => rfl)<|⟨fun _ hw => hw.sel [0,1,2,3,4,6] rfl, HX.nil ?_⟩)
      refine VE.seqN ?_
      refine VC.seq ?_
      refine VC.reg (VO.l (LO.mv (.r rfl)) rfl<|VO.l (LO.as (.r rfl)) rfl<|VO.nil ?_)
      refine VE.seqN ?_
      refine VC.ret (VE.res (vs := [_]) rfl ⟨rfl, trivial⟩ (fun w hw => ?_))
      have hB := bag_one (f := vOwn) (a := (⟨o, po, co⟩ : VY)) (l := ls) (selK (L1 := [_,_,_]) [0,6,5] rfl rfl _ hw)
      exact ⟨(((⟨o, po, co⟩ : VY), updG C (k.1, k.2.1) (⟨o, po, co⟩ : VY)), (⟨o, po, co⟩ : VY) :: ls), ⟨List.mem_cons_self, hol2, hLk, LkI.put (k := (k.1, k.2.1)) hI hR hol2 hLk, fun _ h => List.mem_cons_of_mem _ h⟩, rfl, hB.sel [1,0] rfl⟩

end Go.Proofs.YtffbohecdocajaaGreat

namespace Go.Proofs.YtffbohecdocajaaGreat
open Go.SL Go.Proofs Go.Pulse
set_option linter.unusedVariables false

theorem C171 : IsFn Tryz.prog 171 := ⟨_, Tryz.func171, by decide, rfl⟩
theorem B293 : Builds Tryz.prog 293 [(0,3), (3,1), (4,1)] [.string ByteArray.empty, .int .i64 0, .int .i64 0, .slice none 0 0, .slice none 0 0] := Builds.mk fun _ => by kernel_rfl
theorem S288 : IsSlice Tryz.prog 288 293 := Tryz.underlying288
theorem Z293 : ZeroOf Tryz.prog 293 (.agg #[.string ByteArray.empty, .int .i64 0, .int .i64 0, .slice none 0 0, .slice none 0 0]) := by unfold ZeroOf; kernel_rfl
theorem N293 : (Tryz.prog.info? 293).map (·.size) = some 5 := by kernel_rfl
theorem I293 : EInfo Tryz.prog 293 5 80 (.agg #[.string ByteArray.empty, .int .i64 0, .int .i64 0, .slice none 0 0, .slice none 0 0]) := ⟨by kernel_rfl, by kernel_rfl, by unfold ZeroOf; kernel_rfl, rfl, by decide⟩


/-- Keys that may be none. -/
abbrev KO := Option (Fin 3) × Int × Int
def nmO : Option (Fin 3) → ByteArray
  | none => ByteArray.empty
  | some r => nmT r
theorem nmO_inj : ∀ {x y : Option (Fin 3)}, nmO x = nmO y → x = y
  | none, none,_ => rfl
  | none, some r, h => by have := congrArg ByteArray.size h; revert this; revert r; decide +kernel
  | some r, none, h => by have := congrArg ByteArray.size h; revert this; revert r; decide +kernel
  | some r, some s, h => congrArg some (nmT_inj h)
abbrev nmOV (r : Option (Fin 3)) : Value := .string (nmO r)
abbrev koV (k : KO) : Value := triV nmOV intV intV k
def keyO (k : KeyM) : KO := (some k.1, k.2.1, k.2.2)
theorem keyO_inj {x y : KeyM} (h : keyO x = keyO y) : x = y := by
  obtain ⟨a1, a2, a3⟩ := x
  obtain ⟨b1, b2, b3⟩ := y
  unfold keyO at h
  simp only [Prod.mk.injEq, Option.some.injEq] at h
  rw [h.1, h.2.1, h.2.2]
def zKO : KO := (none, 0,0)
theorem cell9o : Cell1 Tryz.prog 9 nmOV := cell1_nm Tryz.underlying9 O9 nmO_inj
theorem map394 : IsMapG Tryz.prog 394 wV koV zKO := ⟨_,_, Tryz.underlying394, key391, by unfold ZeroOf; kernel_rfl⟩
theorem guard139 : Tryz.prog.eqGuardType Tryz.prog.depth 139 = false := by kernel_rfl
/-- A key that is heard at a time. -/
def okK (S : KeyM → List (List Span)) (T : Int) (k : KeyM) : Prop := ((S k).length = 1 ∧ k.2.2 ≤ T) ∧ T - k.2.2 ≤ 600
instance (S : KeyM → List (List Span)) (T : Int) (k : KeyM) : Decidable (okK S T k) := by unfold okK; exact inferInstance
abbrev kw (k : KeyM) : KeyW := (k.1, k.2.1)
/-- The newest key of each radar and tilt. -/
def nwK (S : KeyM → List (List Span)) (T : Int) (ks : List KeyM) : KeyW → Option KO := ks.foldl (fun N k => if okK S T k then updG N (kw k) (keyO k) else N) (fun _ => none)
theorem nwK_next {S : KeyM → List (List Span)} {T : Int} {ks : List KeyM} {i : Nat} {k : KeyM} (h : ks[i]? = some k) : nwK S T (ks.take (i + 1)) = if okK S T k then updG (nwK S T (ks.take i)) (kw k) (keyO k) else nwK S T (ks.take i) := by
  unfold nwK
  rw [List.take_add_one, h, List.foldl_append]; rfl
theorem nwK_ok {S : KeyM → List (List Span)} {T : Int} {m : KeyW} {o : KO} : ∀ {ks : List KeyM} {N : KeyW → Option KO}, (∀ m o, N m = some o → ∃ k, o = keyO k ∧ okK S T k) → ks.foldl (fun N k => if okK S T k then updG N (kw k) (keyO k) else N) N m = some o → ∃ k, o = keyO k ∧ okK S T k
  | [], N, h, hm => h m o hm
  | k :: ks, N, h, hm => by
    refine nwK_ok (ks := ks) (N := if okK S T k then updG N (kw k) (keyO k) else N) ?_ hm
    intro m o hm
    split at hm
    · rename_i q
      unfold updG at hm
      split at hm
      · cases hm; exact ⟨k, rfl, q⟩
      · exact h m o hm
    · exact h m o hm
/-- The keys that are heard at a time. -/
def hdB (S : KeyM → List (List Span)) (T : Int) (ks : List KeyM) (k : KeyM) : Prop := (nwK S T ks (kw k)).getD zKO = keyO k
instance (S : KeyM → List (List Span)) (T : Int) (ks : List KeyM) (k : KeyM) : Decidable (hdB S T ks k) := by unfold hdB; exact inferInstance
theorem hdB.ok {S : KeyM → List (List Span)} {T : Int} {ks : List KeyM} {k : KeyM} (h : hdB S T ks k) : okK S T k := by
  unfold hdB at h
  cases q : nwK S T ks (kw k) with
  | none => rw [q] at h; cases h
  | some o =>
    rw [q] at h
    obtain ⟨k2, e, hk⟩ := nwK_ok (fun m o h => by cases h) q
    rw [show o = keyO k from h] at e
    rw [keyO_inj e]; exact hk
def hdK (S : KeyM → List (List Span)) (T : Int) (ks : List KeyM) (l : List KeyM) : List KeyM := l.filter fun k => decide (hdB S T ks k)
theorem hdK_next {S : KeyM → List (List Span)} {T : Int} {ks l : List KeyM} {i : Nat} {k : KeyM} (h : l[i]? = some k) : hdK S T ks (l.take (i + 1)) = hdK S T ks (l.take i) ++ (if hdB S T ks k then [k] else []) := by
  unfold hdK
  rw [List.take_add_one, h, List.filter_append]
  congr 1
  show List.filter _ [k] = _
  by_cases q : hdB S T ks k
  · rw [if_pos q, List.filter_cons_of_pos (by simpa using q)]; rfl
  · rw [if_neg q, List.filter_cons_of_neg (by simpa using q)]; rfl
/-- What is heard: a key, its message, what its radar sees. -/
structure HdY where
  k : KeyM
  m : VY
  l : VY
abbrev hdC (h : HdY) : List Value := [.string (nmT h.k.1), .int .i64 h.k.2.1, .int .i64 h.k.2.2, lkV h.m, lkV h.l]
/-- What a node hears at a time. -/
structure HdP (S : KeyM → List (List Span)) (R : Fin 3 → Option (Option RdM)) (W H : Nat) (vs ls : List VY) (h : HdY) : Prop where
  m : h.m ∈ vs ∧ S h.k = [h.m.v]
  l : h.l ∈ ls ∧ h.l.v.length = W * H
  x : ∃ x, R h.k.1 = some (some x) ∧ LkP x h.k.2.1 W h.l.v
theorem HdP.mono {S : KeyM → List (List Span)} {R : Fin 3 → Option (Option RdM)} {W H : Nat} {vs ls l2 : List VY} {h : HdY} (q : HdP S R W H vs ls h) (hs : ∀ y, y ∈ ls → y ∈ l2) : HdP S R W H vs l2 h := ⟨q.m, ⟨hs _ q.l.1, q.l.2⟩, q.x⟩
theorem one_of {α : Type} {l : List α} {y : α} (h : l.length = 1) (h0 : l[0]? = some y) : l = [y] := by
  match l, h with
  | [z],_ => cases h0; rfl
theorem NdK.vs {S : KeyM → List (List Span)} {M : KeyM → Option TY} {ts : List TY} {vs : List VY} (h : NdK S M ts vs) {k : KeyM} {y : VY} (hy : y ∈ ((M k).getD dTY).l) : y ∈ vs := by
  cases q : M k with
  | none => rw [q] at hy; cases hy
  | some e => rw [q] at hy; exact (h.e k e q).1.2 y hy
/-- The radars of a node are as they should be, and its keys. -/
structure RdsOk (R : Fin 3 → Option (Option RdM)) (S : KeyM → List (List Span)) : Prop where
  r : ∀ k, S k ≠ [] → ∃ x, R k.1 = some (some x) ∧ RdOk x
  t : ∀ k, S k ≠ [] → 0 ≤ k.2.1 ∧ k.2.1 ≤ 2
  s : ∀ k, S k ≠ [] → 0 ≤ k.2.2 ∧ k.2.2 ≤ 2000

set_option maxRecDepth 20000 in
set_option maxHeartbeats 8000000 in
theorem at_c (bn : Nat) (q : NdQ) (c : Nat) (S : KeyM → List (List Span)) (M : KeyM → Option TY) (ts : List TY) (vs : List VY) (R : Fin 3 → Option (Option RdM)) (C : KeyW → Option VY) (ls : List VY) (T : Int) (w : World) (hS : NdS S M ts vs c) (hc : c < 1000) (hOk : RdsOk R S) (hT : 0 ≤ T ∧ T ≤ 100000) (hW : 1 ≤ q.w ∧ q.w ≤ 6) (hH : 1 ≤ q.h ∧ q.h ≤ 6) (hI : LkI R q.w q.h C ls) (hh : Has w [mapR wV lkV q.lm C, bagD (ls.map vOwn)]) (hF : ∀ L w2, St ⟨w, fpL [mapR wV lkV q.lm C, bagD (ls.map vOwn)]⟩ L w2 → NdW w2 bn q c M ts vs ∧ (mapR nmV rdV q.rm R).inv w2) :
  Calls Tryz.prog 101 #[.pointer (some ⟨bn, 0, none⟩), .int .i64 T] w fun e w' => ∃ y : (List HdY × (KeyW → Option VY) × List VY) × Option Addr × Nat, ((∃ ks, KeysOf S ks ∧ y.1.1.map HdY.k = hdK S T ks ks) ∧ (∀ h, h ∈ y.1.1 → HdP S R q.w q.h vs y.1.2.2 h) ∧ LkI R q.w q.h y.1.2.1 y.1.2.2 ∧ y.1.1.length < 1000 ∧ ∀ z, z ∈ ls → z ∈ y.1.2.2) ∧ e = .returned (.slice y.2.1 y.1.1.length y.2.2) ∧ St ⟨w, fpL [mapR wV lkV q.lm C, bagD (ls.map vOwn)]⟩ [own 293 5 y.2.1 y.2.2 (y.1.1.map hdC), mapR wV lkV q.lm y.1.2.1, bagD (y.1.2.2.map vOwn)] w' := by
  have hN0 := (hF _ _ hh.enter).1
  refine enterO (vs := [_,_]) (env := [(0,_), (1,_)]) hh.enter Tryz.func101 rfl rfl rfl rfl ?_
  refine VC.seq ?_
  refine VC.reg (VO.l (LO.as (.r rfl)) rfl<|VO.nil ?_)
  refine VE.seqN ?_
  refine VC.seq ?_
  refine VC.reg (VO.h rfl<|HO.mkmapG wV koV fun b3 => VO.h rfl<|HO.lo (LO.as (.r rfl))<|VO.nil ?_)
  refine VE.seqN ?_
  refine VC.seq ?_
  refine VC.seq ?_
  refine VC.reg (VO.l (LO.mv (.r rfl)) rfl<|VO.h rfl<|HO.callx (xs := [_]) (vs := [_]) C170 ⟨(.r rfl), trivial⟩ (fun w hw => KeysN_c bn q c S M ts vs w hS hc (hF _ _ hw).1) fun yk hyk => VO.h rfl<|HO.lo (LO.len S392 (.r rfl) rfl)<|VO.l (LO.mv (.r rfl)) rfl<|VO.nil ?_)
  refine VE.seqN ?_
  refine VC.block ?_
  refine VC.perm [1,0,2,3] rfl ?_
  refine VC.loopK (α := Nat) 1 (fun gx => [(16, .int .i64 (gx : Nat))]) [(0,_), (1,_), (5,_), (14,_), (15,_)] (fun gx => [mapR wV koV b3 (nwK S T (yk.1.take gx))]) (fun gx => gx ≤ yk.1.length) (fun gx => yk.1.length - gx) 0 (by exact Nat.zero_le _) (.cons rfl (.cons rfl (.cons rfl (.cons rfl (.cons rfl (.cons rfl .nil)))))) (fun _ h => h) ?_
  rintro i hi
  refine VC.seq ?_
  have hkl : yk.1.length < 1000 := by have := hS.n.keys hS.k (hyk.s.imp fun {a b} q z => by rw [z] at q; exact cmpK_irr b q) (fun k hk => (hS.k.ne k).1 ((hyk.m k).1 hk)); omega
  refine VC.reg (VO.l (LO.lt (.r rfl) (.r rfl)) rfl<|VO.nil ?_)
  refine VE.seqN ?_
  refine VC.seq ?_
  refine VC.cond rfl (fun h17 => ?_) (fun h17 => ?_)
  ·
    obtain ⟨k, hki⟩ : ∃ k, yk.1[i]? = some k := ⟨_, List.getElem?_eq_getElem (by omega)⟩
    have hkne : S k ≠ [] := (hyk.m k).1 (List.mem_of_getElem? hki)
    obtain ⟨x, hRx, hxo⟩ := hOk.r k hkne
    have hRv : rdV ((R k.1).getD none) = .agg (rdC x).toArray := by rw [hRx]; rfl
    have hks := hOk.s k hkne
    have hg := hS.k.get k
    have hgl := congrArg List.length hg
    rw [List.length_map] at hgl
    have hSl := hS.n.len (hS.k.s k)
    have hrow := hN0.row hS.k k
    refine VC.skip (VE.seqN ?_)
    refine VC.seq ?_
    refine VC.block ?_
    refine VC.seq ?_
    refine VC.reg (VO.l (LO.ixo S392 N139 (fun _ hw => (own_rows hw 1 rfl).some (by rw [List.length_map])) (.r rfl) (.r rfl) rfl (by omega)) rfl<|VO.l (LO.lda (vs := [_,_,_]) A139 (.r rfl) (fun w hw => cells_part (off := 0) (own_cell hw 1 rfl hki) ⟨_, rfl⟩) rfl) rfl<|VO.h rfl<|HO.alloc (C := #[_,_,_]) Z139 rfl fun b5 => VO.h0<|HO.st 0 (vs := [_,_,_]) (C' := [_,_,_]) (L' := [_,_,_,_,_]) N139 rfl rfl rfl rfl rfl rfl rfl rfl<|VO.nil ?_)
    refine VE.seqN ?_
    refine VC.seq ?_
    refine VC.drawH [[0,1,2,3,4], [0,1,2,3,4], [0,1,2,3,4]] [some 1, some 1, some 1, some 1, some 1, some 1, some 1, some 1, none, none] mixed (by kernel_rfl) rfl (LX.l (fun _ hJ => LO.mv (.r rfl)) rfl<|LX.l (fun _ hJ => LO.nc (.r rfl)) rfl<|LX.l (fun _ hJ => LO.fa (r := 9) F277_1 (.r rfl) rfl) rfl<|LX.l (fun _ hJ => LO.ld O273 (.r rfl) (fun _ hw => sub_cells (off := 9) (hF _ _ (hJ _ hw)).1.B ⟨_, rfl⟩)) rfl<|LX.l (fun _ hJ => LO.fa (r := 0) F139_0 (.r rfl) rfl) rfl<|LX.l (fun _ hJ => LO.ld O9 (.r rfl) (fun _ hw => cells_at (hJ _ hw) 0 rfl ⟨_, rfl⟩)) rfl<|LX.l (fun _ hJ => LO.eqv (LO.lkG1 (n := k.1) map273 (.r rfl) (.r rfl) (fun w hw => (hF _ _ (hJ _ hw)).2)) hRv) rfl<|LX.l (fun _ hJ => LO.fd (vs := [_,_]) Tryz.underlying270 rfl rfl A25 (.r rfl) rfl) rfl<|LX.s<|LX.s<|LX.nil) (HX.s<|HX.s<|HX.s<|HX.s<|HX.s<|HX.s<|HX.s<|HX.s<|HX.h rfl<|HO.alloc (C := #[_,_]) Z25 rfl fun b9 => ⟨fun _ hw => hw.sel [1,2,3,4,5] rfl, HX.h0<|HO.st 0 (vs := [_,_]) (C' := [_,_]) (L' := [_,_,_,_,_,_]) N25 rfl rfl rfl rfl rfl rfl rfl rfl<|⟨fun _ hw => hw.sel [1,2,3,4,5] rfl, HX.nil ?_⟩⟩)
    refine VE.seqN ?_
    refine VC.seq ?_
    refine VC.draw mixed (LL.l (LO.mv (.r rfl)) rfl<|LL.l (LO.nc (.r rfl)) rfl<|LL.l (LO.fa (r := 11) F277_3 (.r rfl) rfl) rfl<|LL.l (LO.ld O274 (.r rfl) (fun _ hw => sub_cells (off := 11) (hF _ _ hw).1.B ⟨_, rfl⟩)) rfl<|LL.l (LO.lda (vs := [_,_,_]) A139 (.r rfl) (fun _ hw => cells_at hw 1 rfl ⟨_, rfl⟩) rfl) rfl<|LL.l (LO.lkG1 (n := k) map274 (.r rfl) (.r rfl) (fun w hw => (hF _ _ hw).1.K)) rfl<|LL.l (LO.len S383 (.r rfl) rfl) rfl<|LL.l (LO.eq (.r rfl) (.r rfl)) rfl<|LL.l (LO.mv (.r rfl)) rfl<|LL.lg rfl rfl (GD.t _) (fun hg => LO.fa (r := 2) F139_2 (.r rfl) rfl) rfl<|LL.lg rfl rfl (GD.t _) (fun hg => LO.ld O3 (.g hg rfl) (fun _ hw => cells_at hw 1 rfl ⟨_, rfl⟩)) rfl<|LL.lg rfl rfl (GD.t _) (fun hg => LO.fa (r := 1) F25_1 (.r rfl) rfl) rfl<|LL.lg rfl rfl (GD.t _) (fun hg => LO.ld O3 (.g hg rfl) (fun _ hw => cells_at hw 0 rfl ⟨_, rfl⟩)) rfl<|LL.lg rfl rfl (GD.t _) (fun hg => LO.add (.g hg rfl) (.g hg rfl) (wi (by omega) (by omega))) rfl<|LL.lg rfl rfl (GD.t _) (fun hg => LO.mv (.r rfl)) rfl<|LL.lg rfl rfl (GD.t _) (fun hg => LO.le (.g hg rfl) (.g hg rfl)) rfl<|LL.l (LO.pkA (.r rfl) rfl rfl (.r rfl)) rfl<|LL.l (LO.mv (.r rfl)) rfl<|LL.lg rfl rfl (GD.t _) (fun hg => LO.mv (.r rfl)) rfl<|LL.lg rfl rfl (GD.t _) (fun hg => LO.fa (r := 2) F139_2 (.r rfl) rfl) rfl<|LL.lg rfl rfl (GD.t _) (fun hg => LO.ld O3 (.g hg rfl) (fun _ hw => cells_at hw 1 rfl ⟨_, rfl⟩)) rfl<|LL.lg rfl rfl (GD.t _) (fun hg => LO.sub (.g hg rfl) (.g hg rfl) (wi (by omega) (by omega))) rfl<|LL.lg rfl rfl (GD.t _) (fun hg => LO.fa (r := 0) F25_0 (.r rfl) rfl) rfl<|LL.lg rfl rfl (GD.t _) (fun hg => LO.ld O3 (.g hg rfl) (fun _ hw => cells_at hw 0 rfl ⟨_, rfl⟩)) rfl<|LL.lg rfl rfl (GD.t _) (fun hg => LO.sub (.g hg rfl) (.g hg rfl) (wi (by omega) (by omega))) rfl<|LL.lg rfl rfl (GD.t _) (fun hg => LO.mv (.r rfl)) rfl<|LL.lg rfl rfl (GD.t _) (fun hg => LO.nc (.g hg rfl)) rfl<|LL.lg rfl rfl (GD.t _) (fun hg => LO.fa (r := 0) F277_0 (.g hg rfl) rfl) rfl<|LL.lg rfl rfl (GD.t _) (fun hg => LO.fa (r := 8) F131_3 (.g hg rfl) rfl) rfl<|LL.lg rfl rfl (GD.t _) (fun hg => LO.ld O3 (.g hg rfl) (fun _ hw => sub_cells (off := 8) (hF _ _ hw).1.B ⟨_, rfl⟩)) rfl<|LL.lg rfl rfl (GD.t _) (fun hg => LO.le (.g hg rfl) (.g hg rfl)) rfl<|LL.l (LO.pkA (.r rfl) rfl rfl (.r rfl)) rfl<|LL.nil) (by kernel_rfl) ?_
    refine VE.seqN ?_
    refine VC.cond rfl (fun h59 => ?_) (fun h59 => ?_)
    ·
      have hok : okK S T k := ⟨⟨by omega, by omega⟩, by omega⟩
      have hnw := nwK_next (S := S) (T := T) hki
      rw [if_pos hok] at hnw
      refine VC.reg (VO.l (LO.mv (.r rfl)) rfl<|VO.l (LO.fa (r := 0) F139_0 (.r rfl) rfl) rfl<|VO.l (LO.ld O9 (.r rfl) (fun _ hw => cells_at hw 1 rfl ⟨_, rfl⟩)) rfl<|VO.l (LO.fa (r := 1) F139_1 (.r rfl) rfl) rfl<|VO.l (LO.ld O3 (.r rfl) (fun _ hw => cells_at hw 1 rfl ⟨_, rfl⟩)) rfl<|VO.l (LO.bd (ps := [(_,_), (_,_)]) (vs := [(_,_), (_,_)]) (C := [_,_]) B391  ⟨(.r rfl), (.r rfl), trivial⟩ rfl ⟨_, [_], [_,_], rfl, rfl, rfl, rfl, ⟨_, [_], [_,_], rfl, rfl, rfl, rfl, rfl⟩⟩) rfl<|VO.l (LO.lda (vs := [_,_,_]) A139 (.r rfl) (fun _ hw => cells_at hw 1 rfl ⟨_, rfl⟩) rfl) rfl<|VO.h0<|HO.mupG 2 (fun R => [_,_, R,_,_,_]) (kw k) (keyO k) map394 (.r rfl) (.r rfl) (.r rfl) rfl (fun _ => rfl)<|VO.nil ?_)
      refine VE.inN (VE.seqN ?_)
      refine VC.reg (VO.l (LO.add (.r rfl) (.r rfl) (wi (by omega) (by omega))) rfl<|VO.l (LO.mv (.r rfl)) rfl<|VO.nil ?_)
      refine VE.thenN fun a w ha hw => ⟨i + 1, (by omega), (by omega), ha.sub (.cons rfl (.cons rfl (.cons rfl (.cons rfl (.cons rfl (.cons rfl .nil)))))), (hnw ▸ hw.sel [2,3,4,5] rfl)⟩
    ·
      have hok : ¬ okK S T k := fun z => h59 (by obtain ⟨⟨z1, z2⟩, z3⟩ := z; omega)
      have hnw := nwK_next (S := S) (T := T) hki
      rw [if_neg hok] at hnw
      refine VC.skip (VE.inN (VE.seqN ?_))
      refine VC.reg (VO.l (LO.add (.r rfl) (.r rfl) (wi (by omega) (by omega))) rfl<|VO.l (LO.mv (.r rfl)) rfl<|VO.nil ?_)
      refine VE.thenN fun a w ha hw => ⟨i + 1, (by omega), (by omega), ha.sub (.cons rfl (.cons rfl (.cons rfl (.cons rfl (.cons rfl (.cons rfl .nil)))))), (hnw ▸ hw.sel [2,3,4,5] rfl)⟩
  ·
    have hie : i = yk.1.length := by omega
    rw [hie, List.take_length]
    refine VC.exit (VE.thenX (VE.thenX (VE.inX (VE.seqN ?_))))
    refine VC.seq ?_
    refine VC.reg (VO.l (LO.as (.r rfl)) rfl<|VO.nil ?_)
    refine VE.seqN ?_
    refine VC.seq ?_
    refine VC.seq ?_
    refine VC.reg (VO.l (LO.mv (.r rfl)) rfl<|VO.h rfl<|HO.callx (xs := [_]) (vs := [_]) C170 ⟨(.r rfl), trivial⟩ (fun w hw => KeysN_c bn q c S M ts vs w hS hc (hF _ _ hw).1) fun yk2 hyk2 => VO.h rfl<|HO.lo (LO.len S392 (.r rfl) rfl)<|VO.l (LO.mv (.r rfl)) rfl<|VO.nil ?_)
    refine VE.seqN ?_
    refine VC.block ?_
    refine VC.perm [3,4,0,1,2] rfl ?_
    refine VC.loopK (α := Nat × (List HdY) × (KeyW → Option VY) × (List VY) × Nat × (Option Addr) × Nat) 2 (fun gx => [(9, .slice gx.2.2.2.2.2.1 gx.2.2.2.2.1 gx.2.2.2.2.2.2), (71, .int .i64 (gx.1 : Nat))]) [(0,_), (5,_), (69,_), (70,_)] (fun gx => [own 293 5 gx.2.2.2.2.2.1 gx.2.2.2.2.2.2 (gx.2.1.map hdC), mapR wV lkV q.lm gx.2.2.1, bagD (gx.2.2.2.1.map vOwn)]) (fun gx => (gx.1 ≤ yk2.1.length ∧ gx.2.2.2.2.1 = gx.2.1.length ∧ gx.2.1.length ≤ gx.1) ∧ gx.2.1.map HdY.k = hdK S T yk.1 (yk2.1.take gx.1) ∧ (∀ h, h ∈ gx.2.1 → HdP S R q.w q.h vs gx.2.2.2.1 h) ∧ LkI R q.w q.h gx.2.2.1 gx.2.2.2.1 ∧ ∀ z, z ∈ ls → z ∈ gx.2.2.2.1) (fun gx => yk2.1.length - gx.1) (0, [], C, ls, 0, none, 0) (by exact ⟨⟨Nat.zero_le _, rfl, Nat.zero_le _⟩, rfl, fun _ h => (by cases h), hI, fun _ h => h⟩) (.cons rfl (.cons rfl (.cons rfl (.cons rfl (.cons rfl (.cons rfl .nil)))))) (fun _ h => (h.ownNil 293 5)) ?_
    rintro ⟨i, o, C2, l2, n, po, co⟩ ⟨⟨hi, hno, hol⟩, hom, hop, hLI, hl2⟩
    show VC _ _ _ _ _ ([(9, .slice po n co), (71, .int .i64 (i : Nat))] ++ _) ([own 293 5 po co (o.map hdC), mapR wV lkV q.lm C2, bagD (l2.map vOwn)] ++ _) _ _
    dsimp only at hi hno hol hom hop hLI hl2
    refine VC.seq ?_
    have hkl : yk2.1.length < 1000 := by have := hS.n.keys hS.k (hyk2.s.imp fun {a b} q z => by rw [z] at q; exact cmpK_irr b q) (fun k hk => (hS.k.ne k).1 ((hyk2.m k).1 hk)); omega
    have e2 := hyk2.uniq hyk
    refine VC.reg (VO.l (LO.lt (.r rfl) (.r rfl)) rfl<|VO.nil ?_)
    refine VE.seqN ?_
    refine VC.seq ?_
    refine VC.cond rfl (fun h72 => ?_) (fun h72 => ?_)
    ·
      obtain ⟨k, hki⟩ : ∃ k, yk2.1[i]? = some k := ⟨_, List.getElem?_eq_getElem (by omega)⟩
      have hkne : S k ≠ [] := (hyk2.m k).1 (List.mem_of_getElem? hki)
      obtain ⟨x, hRx, hxo⟩ := hOk.r k hkne
      have hRv : rdV ((R k.1).getD none) = .agg (rdC x).toArray := by rw [hRx]; rfl
      have hks := hOk.s k hkne
      have hg := hS.k.get k
      have hgl := congrArg List.length hg
      rw [List.length_map] at hgl
      have hSl := hS.n.len (hS.k.s k)
      have hrow := hN0.row hS.k k
      refine VC.skip (VE.seqN ?_)
      refine VC.seq ?_
      refine VC.block ?_
      refine VC.seq ?_
      refine VC.reg (VO.l (LO.ixo S392 N139 (fun _ hw => (own_rows hw 3 rfl).some (by rw [List.length_map])) (.r rfl) (.r rfl) rfl (by omega)) rfl<|VO.l (LO.lda (vs := [_,_,_]) A139 (.r rfl) (fun w hw => cells_part (off := 0) (own_cell hw 3 rfl hki) ⟨_, rfl⟩) rfl) rfl<|VO.h rfl<|HO.alloc (C := #[_,_,_]) Z139 rfl fun b13 => VO.h0<|HO.st 0 (vs := [_,_,_]) (C' := [_,_,_]) (L' := [_,_,_,_,_,_,_]) N139 rfl rfl rfl rfl rfl rfl rfl rfl<|VO.nil ?_)
      refine VE.seqN ?_
      refine VC.seq ?_
      refine VC.draw mixed (LL.l (LO.mv (.r rfl)) rfl<|LL.l (LO.fa (r := 0) F139_0 (.r rfl) rfl) rfl<|LL.l (LO.ld O9 (.r rfl) (fun _ hw => cells_at hw 0 rfl ⟨_, rfl⟩)) rfl<|LL.l (LO.fa (r := 1) F139_1 (.r rfl) rfl) rfl<|LL.l (LO.ld O3 (.r rfl) (fun _ hw => cells_at hw 0 rfl ⟨_, rfl⟩)) rfl<|LL.l (LO.bd (ps := [(_,_), (_,_)]) (vs := [(_,_), (_,_)]) (C := [_,_]) B391  ⟨(.r rfl), (.r rfl), trivial⟩ rfl ⟨_, [_], [_,_], rfl, rfl, rfl, rfl, ⟨_, [_], [_,_], rfl, rfl, rfl, rfl, rfl⟩⟩) rfl<|LL.l (LO.lkG1 (n := kw k) map394 (.r rfl) (.r rfl) (fun w hw => St.inv hw 5 _ rfl)) rfl<|LL.l (LO.lda (vs := [_,_,_]) A139 (.r rfl) (fun _ hw => cells_at hw 0 rfl ⟨_, rfl⟩) rfl) rfl<|LL.l (LO.eqT (a := (nwK S T yk.1 (kw k)).getD zKO) (b := keyO k) cell9o cell3 cell3 s3_139 guard139 (.r rfl) (.r rfl)) rfl<|LL.nil) (by kernel_rfl) ?_
      refine VE.seqN ?_
      refine VC.cond rfl (fun h83 => ?_) (fun h83 => ?_)
      ·
        have hok := hdB.ok (S := S) (T := T) (ks := yk.1) (k := k) h83
        have hl1 : ((M k).getD dTY).l.length = 1 := by rw [hgl]; exact hok.1.1
        obtain ⟨y0, hy0⟩ : ∃ y0, ((M k).getD dTY).l[0]? = some y0 := ⟨_, List.getElem?_eq_getElem (by omega)⟩
        have hSk : S k = [y0.v] := by rw [← hg, one_of hl1 hy0]; rfl
        have hm0 : y0 ∈ vs := hS.k.vs (List.mem_of_getElem? hy0)
        have hnx := hdK_next (S := S) (T := T) (ks := yk.1) hki
        rw [if_pos (show hdB S T yk.1 k from h83)] at hnx
        refine VC.drawH [[0,1,2,3,4,5,6], [0,1,4,5,6], [0,1,4,5,6], [0,1,4,5,6], [0,4,5,6], [0,4,5,6]] [some 3, some 1, some 1, some 1, some 1, some 1, some 1, some 1, some 1, some 1, some 0, some 0, none, none, none, none, none] mixed (by kernel_rfl) rfl (LX.l (fun _ hJ => LO.mv (.r rfl)) rfl<|LX.l (fun _ hJ => LO.lda (vs := [_,_,_]) A139 (.r rfl) (fun _ hw => cells_at (hJ _ hw) 0 rfl ⟨_, rfl⟩) rfl) rfl<|LX.l (fun _ hJ => LO.mv (.r rfl)) rfl<|LX.l (fun _ hJ => LO.nc (.r rfl)) rfl<|LX.l (fun _ hJ => LO.fa (r := 11) F277_3 (.r rfl) rfl) rfl<|LX.l (fun _ hJ => LO.ld O274 (.r rfl) (fun _ hw => sub_cells (off := 11) (hF _ _ (hJ _ hw)).1.B ⟨_, rfl⟩)) rfl<|LX.l (fun _ hJ => LO.lda (vs := [_,_,_]) A139 (.r rfl) (fun _ hw => cells_at (hJ _ hw) 0 rfl ⟨_, rfl⟩) rfl) rfl<|LX.l (fun _ hJ => LO.lkG1 (n := k) map274 (.r rfl) (.r rfl) (fun w hw => (hF _ _ (hJ _ hw)).1.K)) rfl<|LX.l (fun _ hJ => LO.ixs S383 N45 hrow.1.sm (.r rfl) (.r rfl) (j := 0) rfl (by omega)) rfl<|LX.l (fun _ hJ => LO.ld O45 (.r rfl) (fun w hw => cells_part (off := 0) ((fun w2 hw2 => ((hF _ _ hw2).1.row hS.k k).1.cells _ _ (by rw [List.getElem?_map, hy0]; rfl)) w (hJ _ hw)) ⟨_, rfl⟩)) rfl<|LX.l (fun _ hJ => LO.mv (.r rfl)) rfl<|LX.l (fun _ hJ => LO.lda (vs := [_,_,_]) A139 (.r rfl) (fun _ hw => cells_at (hJ _ hw) 0 rfl ⟨_, rfl⟩) rfl) rfl<|LX.s<|LX.s<|LX.s<|LX.s<|LX.s<|LX.nil) (HX.s<|HX.s<|HX.s<|HX.s<|HX.s<|HX.s<|HX.s<|HX.s<|HX.s<|HX.s<|HX.s<|HX.s<|HX.h rfl<|HO.callP (first := []) (cap := []) (xs := [_,_]) (vs := [_,_]) [_,_] [_,_,_,_,_] (selK (L1 := [_,_] ++ [_,_,_,_,_]) [2,3,0,1,4,5,6] rfl rfl) (.r rfl) C171 ⟨(.r rfl), (.r rfl), trivial⟩ (fun w hw hh => look_c bn q c R C2 l2 k x w hRx hxo (hOk.t k hkne) hW hH hLI hh (fun L w2 h2 => ⟨(hF _ w2 (St.fz (selK (L1 := [_,_] ++ [_,_,_,_,_]) [2,3,0,1,4,5,6] rfl rfl w hw) h2)).1.B, (hF _ w2 (St.fz (selK (L1 := [_,_] ++ [_,_,_,_,_]) [2,3,0,1,4,5,6] rfl rfl w hw) h2)).2⟩)) fun yl ⟨hy1, hy2, hy3, hy4, hy5⟩ => ⟨fun _ hw => hw.sel [2,3,4,5,6] rfl, HX.h rfl<|HO.lo (LO.bd (ps := [(_,_), (_,_), (_,_)]) (vs := [(_,_), (_,_), (_,_)]) (C := [_,_,_,_,_]) B293  ⟨(.r rfl), (.r rfl), (.r rfl), trivial⟩ rfl ⟨_, [_,_,_], [_,_,_,_,_], rfl, rfl, rfl, rfl, ⟨_, [_], [_,_,_,_,_], rfl, rfl, rfl, rfl, ⟨_, [_], [_,_,_,_,_], rfl, rfl, rfl, rfl, rfl⟩⟩⟩)<|⟨fun _ hw => hw.sel [2,3,4,5,6] rfl, HX.h rfl<|HO.bs (ps := [(_,_)]) (vs := [(_,_)]) (Z := [_,_,_,_,_]) (C := [_,_,_,_,_]) S288 Z293 N293 ⟨(.r rfl), trivial⟩ rfl rfl rfl rfl ⟨_, [_,_,_,_,_], [_,_,_,_,_], rfl, rfl, rfl, rfl, rfl⟩ fun b20 => ⟨fun _ hw => hw.sel [3,4,5,6,7] rfl, HX.h rfl<|HO.appT ((⟨k, y0, yl.1.1⟩ : HdY)) 4 0 (fun R => [_,_,_,_, R,_,_,_]) S288 S288 I293 (.r rfl) (.r rfl) rfl rfl rfl rfl rfl rfl rfl (fun _ => rfl) (by omega) (by omega) fun p15 c15 => ⟨fun _ hw => hw.sel [3,5,6,7] rfl, HX.h rfl<|HO.lo (LO.as (.r rfl))<|⟨fun _ hw => hw.sel [3,5,6,7] rfl, HX.nil ?_⟩⟩⟩⟩⟩)
        refine VE.inN (VE.seqN ?_)
        refine VC.reg (VO.l (LO.add (.r rfl) (.r rfl) (wi (by omega) (by omega))) rfl<|VO.l (LO.mv (.r rfl)) rfl<|VO.nil ?_)
        refine VE.thenN fun a w ha hw => ⟨(i + 1, o ++ [(⟨k, y0, yl.1.1⟩ : HdY)], yl.1.2, yl.2, (o ++ [(⟨k, y0, yl.1.1⟩ : HdY)]).length, p15, c15), ⟨⟨by dsimp only; omega, rfl, by dsimp only; rw [List.length_append]; show _ + 1 ≤ _; omega⟩, by dsimp only; rw [List.map_append, hom, hnx]; rfl, fun h hh2 => (List.mem_append.1 hh2).elim (fun z => (hop h z).mono hy5) (fun z => by rw [List.mem_singleton.1 z]; exact ⟨⟨hm0, hSk⟩, ⟨hy1, hy2⟩, x, hRx, hy3⟩), hy4, fun z hz => hy5 z (hl2 z hz)⟩, (by dsimp only; omega), ha.sub (.cons rfl (.cons rfl (.cons rfl (.cons rfl (.cons rfl (.cons rfl .nil)))))), hw.sel [4,1,2,5,6,7] rfl⟩
      ·
        have hnx := hdK_next (S := S) (T := T) (ks := yk.1) hki
        rw [if_neg (show ¬ hdB S T yk.1 k from h83), List.append_nil] at hnx
        refine VC.skip (VE.inN (VE.seqN ?_))
        refine VC.reg (VO.l (LO.add (.r rfl) (.r rfl) (wi (by omega) (by omega))) rfl<|VO.l (LO.mv (.r rfl)) rfl<|VO.nil ?_)
        refine VE.thenN fun a w ha hw => ⟨(i + 1, o, C2, l2, n, po, co), ⟨⟨by dsimp only; omega, hno, by dsimp only; omega⟩, by dsimp only; rw [hnx]; exact hom, hop, hLI, hl2⟩, (by dsimp only; omega), ha.sub (.cons rfl (.cons rfl (.cons rfl (.cons rfl (.cons rfl (.cons rfl .nil)))))), hw.sel [1,2,3,4,5,6] rfl⟩
    ·
      have hie2 : i = yk2.1.length := by omega
      refine VC.exit (VE.thenX (VE.thenX (VE.inX (VE.seqN ?_))))
      refine VC.seq ?_
      refine VC.reg (VO.l (LO.mv (.r rfl)) rfl<|VO.l (LO.as (.r rfl)) rfl<|VO.nil ?_)
      refine VE.seqN ?_
      refine VC.ret (VE.res (vs := [_]) rfl ⟨rfl, trivial⟩ (fun w hw => ?_))
      rw [hie2, List.take_length, e2] at hom
      exact ⟨((o, C2, l2), po, co), ⟨⟨yk.1, hyk, hom⟩, hop, hLI, by show o.length < _; omega, hl2⟩, by rw [hno]; rfl, hw.sel [0,1,2] rfl⟩

end Go.Proofs.YtffbohecdocajaaGreat

namespace Go.Proofs.YtffbohecdocajaaGreat
open Go.SL Go.Proofs Go.Pulse
set_option linter.unusedVariables false



/-- What is heard, without where it lies. -/
abbrev HdT := KeyM × List Span × List Span
def HdY.t (h : HdY) : HdT := (h.k, h.m.v, h.l.v)
def zHd : HdY := ⟨(0,0,0), zVY, zVY⟩
def zHT : HdT := ((0,0,0), [], [])
theorem getD_t (l : List HdY) (j : Nat) : (l.map HdY.t).getD j zHT = (l.getD j zHd).t := by
  rw [List.getD_eq_getElem?_getD, List.getD_eq_getElem?_getD, List.getElem?_map]
  cases l[j]? <;> rfl
/-- Which of two is better at a pixel. -/
def cmpH (i : Nat) (x y : HdT) : Int := orI [cmpI (x.2.2.getD i zs).hi (y.2.2.getD i zs).hi, cmpI (x.2.2.getD i zs).lo (y.2.2.getD i zs).lo, cmpI y.1.2.2 x.1.2.2, cmpI (fI x.1.1) (fI y.1.1), cmpI x.1.2.1 y.1.2.1]
def seeH (i : Nat) (x : HdT) : Prop := (x.2.2.getD i zs).lo ≤ (x.2.2.getD i zs).hi
instance (i : Nat) (x : HdT) : Decidable (seeH i x) := by unfold seeH; exact inferInstance
/-- The best of those that see a pixel. -/
def bstF (hs : List HdT) (i : Nat) : Nat → Option Nat
  | 0 => none
  | j + 1 => if seeH i (hs.getD j zHT) then (match bstF hs i j with | none => some j | some b => if cmpH i (hs.getD j zHT) (hs.getD b zHT) < 0 then some j else some b) else bstF hs i j
theorem bst_n {hs : List HdT} {i j : Nat} (h : ¬ seeH i (hs.getD j zHT)) : bstF hs i (j + 1) = bstF hs i j := by
  show (if _ then _ else _) = _
  rw [if_neg h]
theorem bst_0 {hs : List HdT} {i j : Nat} (h : seeH i (hs.getD j zHT)) (k : bstF hs i j = none) : bstF hs i (j + 1) = some j := by
  show (if _ then _ else _) = _
  rw [if_pos h, k]
theorem bst_y {hs : List HdT} {i j b : Nat} (h : seeH i (hs.getD j zHT)) (k : bstF hs i j = some b) (c : cmpH i (hs.getD j zHT) (hs.getD b zHT) < 0) : bstF hs i (j + 1) = some j := by
  show (if _ then _ else _) = _
  rw [if_pos h, k]; exact if_pos c
theorem bst_z {hs : List HdT} {i j b : Nat} (h : seeH i (hs.getD j zHT)) (k : bstF hs i j = some b) (c : ¬ cmpH i (hs.getD j zHT) (hs.getD b zHT) < 0) : bstF hs i (j + 1) = some b := by
  show (if _ then _ else _) = _
  rw [if_pos h, k]; exact if_neg c
theorem bst_lt {hs : List HdT} {i b : Nat} : ∀ {j : Nat}, bstF hs i j = some b → b < j
  | 0, h => by cases h
  | j + 1, h => by
    by_cases q : seeH i (hs.getD j zHT)
    · cases k : bstF hs i j with
      | none => rw [bst_0 q k] at h; cases h; omega
      | some b0 =>
        have hb := bst_lt k
        by_cases c : cmpH i (hs.getD j zHT) (hs.getD b0 zHT) < 0
        · rw [bst_y q k c] at h; cases h; omega
        · rw [bst_z q k c] at h; cases h; omega
    · rw [bst_n q] at h
      have := bst_lt h
      omega
/-- A pixel of a map. -/
structure PxM where
  s : Span
  k : KO
abbrev pxC (x : PxM) : List Value := [.int .i64 x.s.lo, .int .i64 x.s.hi, .string (nmO x.k.1), .int .i64 x.k.2.1, .int .i64 x.k.2.2]
def pxF (hs : List HdT) (i : Nat) : PxM := match bstF hs i hs.length with | none => ⟨⟨0,1000000⟩, zKO⟩ | some b => ⟨(hs.getD b zHT).2.1.getD i zs, keyO (hs.getD b zHT).1⟩
def bestV (p : Option Addr) : Option Nat → Value
  | none => .pointer none
  | some j => .pointer (some ⟨pb p, po p + j * 5, none⟩)
/-- All that a node hears at a time. -/
structure HdA (S : KeyM → List (List Span)) (R : Fin 3 → Option (Option RdM)) (W H : Nat) (T : Int) (vs ls : List VY) (hs : List HdY) : Prop where
  k : ∃ ks, KeysOf S ks ∧ hs.map HdY.k = hdK S T ks ks
  h : ∀ h, h ∈ hs → HdP S R W H vs ls h
theorem bag_sp {β : Bs} {L : List Res} {w : World} (hw : St β L w) (i : Nat) {ys : List VY} (hi : L[i]? = some (bagD (ys.map vOwn))) {y : VY} (hy : y ∈ ys) : Spans w y.p y.v := own_inv_rows ((hw.inv i _ hi).1 _ (List.mem_map_of_mem hy))
theorem hd_map {l : List HdY} {j : Nat} (hj : j < l.length) : (l.map hdC)[j]? = some (hdC (l.getD j zHd)) := by
  rw [List.getElem?_map, List.getElem?_eq_getElem hj, List.getD_eq_getElem?_getD, List.getElem?_eq_getElem hj]; rfl
theorem hd_mem {l : List HdY} {j : Nat} (hj : j < l.length) : l.getD j zHd ∈ l := by
  rw [List.getD_eq_getElem?_getD, List.getElem?_eq_getElem hj]; exact List.getElem_mem hj
section
variable {P : Program} {β : Bs} {env : Env} {L : List Res} {d : Option Nat} {ty : TypeId} {pos : String} {aft : Array Edge} {g : Option (Nat × Bool)}
theorem LO.neB_ {T T2 : TypeId} {x y : Operand} {p : Option Addr} {b : Option Nat} (hT : ∃ E, P.underlying T = some (.pointer E)) (hx : OV env x (bestV p b)) (hy : OV env y (.pointer none)) : LO P β env L ⟨d, .binOp .neq T x y T2, ty, pos, aft, g⟩ (.bool b.isSome) := by
  cases b with
  | none => exact LO.neP0 hT hx hy
  | some j => exact LO.neP1 hT hx hy
end

set_option maxRecDepth 20000 in
theorem asked_c (bn : Nat) (q : NdQ) (c : Nat) (T : Int) (w : World) (hT : 0 ≤ T ∧ T ≤ 100000) (hB : Cells w ⟨bn, 0, none⟩ (ndL q c)) :
  Calls Tryz.prog 100 #[.pointer (some ⟨bn, 0, none⟩), .int .i64 T] w fun e w' => e = .returned (.int .i64 0) ∧ St (bs w) [] w' := by
  refine enter (vs := [_,_]) (env := [(0,_), (1,_)]) Tryz.func100 rfl rfl rfl rfl ?_
  refine VC.seq ?_
  refine VC.reg (VO.l (LO.as (.r rfl)) rfl<|VO.nil ?_)
  refine VE.seqN ?_
  refine VC.seq ?_
  refine VC.block ?_
  refine VC.seq ?_
  refine VC.reg (VO.l (LO.mv (.r rfl)) rfl<|VO.l (LO.call (xs := [_]) (vs := [_]) C92 ⟨(.r rfl), trivial⟩ (fun w hw => nothing_c bn q c w (cells_keep hB w hw))) rfl<|VO.l (LO.as (.r rfl)) rfl<|VO.nil ?_)
  refine VE.seqN ?_
  refine VC.cond rfl (fun h5 => ?_) (fun h5 => ?_)
  ·
    (exfalso; (simp at h5))
  ·
    refine VC.seq ?_
    refine VC.reg (VO.l (LO.mv (.r rfl)) rfl<|VO.l (LO.call (xs := [_,_,_]) (vs := [_,_,_]) C162 ⟨(.r rfl), (.r rfl), (.r rfl), trivial⟩ (fun w _ => within_t T 0 4294967296 w ⟨hT.1, by omega⟩)) rfl<|VO.l (LO.not (.r rfl)) rfl<|VO.l (LO.as (.r rfl)) rfl<|VO.nil ?_)
    refine VE.seqN ?_
    refine VC.cond rfl (fun h8 => ?_) (fun h8 => ?_)
    ·
      (exfalso; (simp at h8))
    ·
      refine VC.seq ?_
      refine VC.reg (VO.l (LO.mv (.r rfl)) rfl<|VO.l (LO.mv (.r rfl)) rfl<|VO.l (LO.nc (.r rfl)) rfl<|VO.l (LO.fa (r := 10) F277_2 (.r rfl) rfl) rfl<|VO.l (LO.ld O3 (.r rfl) (cells_keep (sub_cells (off := 10) hB ⟨_, rfl⟩))) rfl<|VO.l (LO.lt (.r rfl) (.r rfl)) rfl<|VO.l (LO.as (.r rfl)) rfl<|VO.nil ?_)
      refine VE.seqN ?_
      refine VC.cond rfl (fun h12 => ?_) (fun h12 => ?_)
      ·
        (exfalso; (first | omega | (simp at h12; omega)))
      ·
        refine VC.skip (VE.inN (VE.seqN ?_))
        refine VC.seq ?_
        refine VC.reg (VO.l (LO.as (.r rfl)) rfl<|VO.nil ?_)
        refine VE.seqN ?_
        refine VC.ret (VE.res (vs := [_]) rfl ⟨rfl, trivial⟩ (fun w hw => ?_))
        exact ⟨rfl, hw.nil⟩

end Go.Proofs.YtffbohecdocajaaGreat
